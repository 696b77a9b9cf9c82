/- The plain law under TapeSure; the walk of HasPrefix. -/
import Derived.Test.YtnkenkdglcmpdaaTapeN
import Derived.Lib.Strings
import Derived.Laws.Strings3
namespace Go.Proofs.Ytnkenkdglcmpdaa
set_option linter.unusedVariables false
set_option linter.unusedSimpArgs false
open Go.RowKit

def upd {α : Type} (f : Nat → α) (q : Nat) (s : α) : Nat → α := fun i => if i = q then s else f i
def two (f : Nat → ByteArray) : Array Value := #[.string (f 0), .string (f 1)]
theorem two_get (f : Nat → ByteArray) (q : Nat) (h : q < 2) : (two f)[q]? = some (.string (f q)) := by
  rcases (show q = 0 ∨ q = 1 by omega) with rfl | rfl <;> rfl
theorem two_set (f : Nat → ByteArray) (q : Nat) (s : ByteArray) (h : q < 2) : (two f).setIfInBounds q (.string s) = two (upd f q s) := by
  rcases (show q = 0 ∨ q = 1 by omega) with rfl | rfl <;> rfl
/-- What holds of the tape, of all that was appended, of what is sure. -/
structure SureI (T : TS) (all sure : Nat → ByteArray) : Prop where
  off : T.off = false
  plan : T.plan = none
  room : T.room = 1048576
  all : ∀ i, i < 2 → all i = strB (T.b i)
  sure : ∀ i, i < 2 → sure i = strB ((T.b i).take (T.sure i).toNat)
theorem strB_append (xs ys : List UInt8) : strB xs ++ strB ys = strB (xs ++ ys) := by
  unfold strB
  apply ByteArray.ext
  simp
theorem strB_size (xs : List UInt8) : (strB xs).size = xs.length := by simp [strB, ByteArray.size]
theorem two_cases {P : Nat → Prop} (h0 : P 0) (h1 : P 1) : ∀ i, i < 2 → P i := fun i hi => by
  rcases (show i = 0 ∨ i = 1 by omega) with rfl | rfl
  · exact h0
  · exact h1
theorem SureI.new : SureI (TS.new 1048576) (fun _ => strB []) (fun _ => strB []) := by
  refine ⟨rfl, rfl, rfl, two_cases rfl rfl, two_cases ?_ ?_⟩ <;> simp [TS.b, TS.new, TS.sure]
theorem fault_on {T : TS} (h : T.off = false) (q : Nat) (hq : q < 2) : faultN T.off (q : Int) = 0 := by unfold faultN; rw [if_pos (by omega), h]; rfl
theorem SureI.append {T : TS} {all sure : Nat → ByteArray} (h : SureI T all sure) (hok : T.ok) (q : Nat) (hq : q < 2) (ys : List UInt8) (hf : T.used + ys.length ≤ 1048576) :
    ∃ T', T.append (q : Int) ys = (0, T') ∧ SureI T' (upd all q (all q ++ strB ys)) sure ∧ T'.used = T.used + ys.length := by
  have h0 := h.off
  have h1 := h.plan
  have h2 := h.room
  refine ⟨T.step.app q ys, ?_, ?_⟩
  · unfold TS.append
    rw [if_neg (by simpa using fault_on h.off q hq), if_neg (by rw [h.room]; omega)]
    unfold TS.op
    rw [h1]
  · have a0 : all 0 = strB T.b0 := h.all 0 (by omega)
    have a1 : all 1 = strB T.b1 := h.all 1 (by omega)
    have s0 : sure 0 = strB (T.b0.take T.s0) := h.sure 0 (by omega)
    have s1 : sure 1 = strB (T.b1.take T.s1) := h.sure 1 (by omega)
    have k0 := hok.s0
    have k1 := hok.s1
    rcases (show q = 0 ∨ q = 1 by omega) with rfl | rfl
    · refine ⟨⟨h0, by show T.plan.map _ = none; rw [h1]; rfl, h2, two_cases ?_ ?_, two_cases ?_ ?_⟩, ?_⟩
      · show all 0 ++ strB ys = strB (T.b0 ++ ys)
        rw [a0]; exact strB_append _ _
      · exact a1
      · show sure 0 = strB ((T.b0 ++ ys).take T.s0)
        rw [List.take_append_of_le_length k0]; exact s0
      · exact s1
      · show (T.b0 ++ ys).length + T.b1.length = _
        rw [List.length_append]; unfold TS.used; omega
    · refine ⟨⟨h0, by show T.plan.map _ = none; rw [h1]; rfl, h2, two_cases ?_ ?_, two_cases ?_ ?_⟩, ?_⟩
      · exact a0
      · show all 1 ++ strB ys = strB (T.b1 ++ ys)
        rw [a1]; exact strB_append _ _
      · exact s0
      · show sure 1 = strB ((T.b1 ++ ys).take T.s1)
        rw [List.take_append_of_le_length k1]; exact s1
      · show T.b0.length + (T.b1 ++ ys).length = _
        rw [List.length_append]; unfold TS.used; omega
theorem SureI.sync {T : TS} {all sure : Nat → ByteArray} (h : SureI T all sure) (q : Nat) (hq : q < 2) :
    ∃ T', T.sync (q : Int) = (0, T') ∧ SureI T' all (upd sure q (all q)) ∧ T'.used = T.used := by
  have h0 := h.off
  have h1 := h.plan
  have h2 := h.room
  refine ⟨T.step.syn q, ?_, ?_⟩
  · unfold TS.sync
    rw [if_neg (by simpa using fault_on h.off q hq)]
    unfold TS.op
    rw [h1]
  · have a0 : all 0 = strB T.b0 := h.all 0 (by omega)
    have a1 : all 1 = strB T.b1 := h.all 1 (by omega)
    have s0 : sure 0 = strB (T.b0.take T.s0) := h.sure 0 (by omega)
    have s1 : sure 1 = strB (T.b1.take T.s1) := h.sure 1 (by omega)
    rcases (show q = 0 ∨ q = 1 by omega) with rfl | rfl
    · refine ⟨⟨h0, by show T.plan.map _ = none; rw [h1]; rfl, h2, two_cases a0 a1, two_cases ?_ s1⟩, rfl⟩
      show all 0 = strB (T.b0.take T.b0.length)
      rw [List.take_length]; exact a0
    · refine ⟨⟨h0, by show T.plan.map _ = none; rw [h1]; rfl, h2, two_cases a0 a1, two_cases s0 ?_⟩, rfl⟩
      show all 1 = strB (T.b1.take T.b1.length)
      rw [List.take_length]; exact a1
theorem SureI.clear {T : TS} {all sure : Nat → ByteArray} (h : SureI T all sure) (q : Nat) (hq : q < 2) :
    ∃ T', T.clear (q : Int) = (0, T') ∧ SureI T' (upd all q ⟨#[]⟩) (upd sure q ⟨#[]⟩) ∧ T'.used ≤ T.used := by
  have h0 := h.off
  have h1 := h.plan
  have h2 := h.room
  refine ⟨T.step.clr q, ?_, ?_⟩
  · unfold TS.clear
    rw [if_neg (by simpa using fault_on h.off q hq)]
    unfold TS.op
    rw [h1]
  · have a0 : all 0 = strB T.b0 := h.all 0 (by omega)
    have a1 : all 1 = strB T.b1 := h.all 1 (by omega)
    have s0 : sure 0 = strB (T.b0.take T.s0) := h.sure 0 (by omega)
    have s1 : sure 1 = strB (T.b1.take T.s1) := h.sure 1 (by omega)
    rcases (show q = 0 ∨ q = 1 by omega) with rfl | rfl
    · exact ⟨⟨h0, by show T.plan.map _ = none; rw [h1]; rfl, h2, two_cases rfl a1, two_cases rfl s1⟩, by show 0 + T.b1.length ≤ _; unfold TS.used; omega⟩
    · exact ⟨⟨h0, by show T.plan.map _ = none; rw [h1]; rfl, h2, two_cases a0 rfl, two_cases s0 rfl⟩, by show T.b0.length + 0 ≤ _; unfold TS.used; omega⟩
/-- Behind a failure. -/
theorem SureI.fail {T : TS} {all sure : Nat → ByteArray} (h : SureI T all sure) (hok : T.ok) (keep : Int) :
    ∃ T' T'', T.fail keep = (0, T') ∧ { T' with off := false } = T'' ∧ T''.off = false ∧ ∀ i : Nat, i < 2 → ∃ sx zs z2, T''.read (i : Int) = sx ++ zs ∧ sure i = strB sx ∧ all i = strB (sx ++ zs ++ z2) := by
  refine ⟨T.gone keep, _, by unfold TS.fail; rw [h.off]; rfl, rfl, rfl, ?_⟩
  have a0 : all 0 = strB T.b0 := h.all 0 (by omega)
  have a1 : all 1 = strB T.b1 := h.all 1 (by omega)
  have key : ∀ (b : List UInt8) (s : Nat), s ≤ b.length → ∃ zs z2, b.take (keepN b s keep) = b.take s ++ zs ∧ b = b.take s ++ zs ++ z2 := fun b s hs => by
    have hk := (keepN_le b s keep hs).1
    have h1 := List.take_append_drop s (b.take (keepN b s keep))
    rw [List.take_take, Nat.min_eq_left hk] at h1
    exact ⟨_, b.drop (keepN b s keep), h1.symm, by rw [h1]; exact (List.take_append_drop _ _).symm⟩
  refine two_cases ?_ ?_
  · obtain ⟨z1, z2, e1, e2⟩ := key T.b0 T.s0 hok.s0
    exact ⟨T.b0.take T.s0, z1, z2, e1, h.sure 0 (by omega), by rw [a0]; exact congrArg strB e2⟩
  · obtain ⟨z1, z2, e1, e2⟩ := key T.b1 T.s1 hok.s1
    exact ⟨T.b1.take T.s1, z1, z2, e1, h.sure 1 (by omega), by rw [a1]; exact congrArg strB e2⟩
theorem SureI.size {T : TS} {all sure : Nat → ByteArray} (h : SureI T all sure) (q : Nat) (hq : q < 2) : (all q).size ≤ T.used := by
  rw [h.all q hq, strB_size]
  unfold TS.used
  rcases (show q = 0 ∨ q = 1 by omega) with rfl | rfl
  · show T.b0.length ≤ _; omega
  · show T.b1.length ≤ _; omega
theorem Own.other {B : Nat} {w : World} {tb : Nat} {T : TS} {F : Nat → Prop} (h : Own B w tb T F) (a : Addr) (v : Value) (hn : ¬ F a.block) : Own B (w.setCell a v) tb T F := by
  have hf : Fr (fun k => k = a.block) w (w.setCell a v) := Fr.setCell _ w a v rfl
  exact ⟨h.tape.fr hf (fun k hk e => hn (e ▸ hk)), h.from_, Nat.le_trans h.size hf.size⟩

theorem prefix_lite (s p : ByteArray) (w : World) : Calls Try.prog 69 #[.string s, .string p] w fun e w' => e = .returned (.bool (Lib.hasPrefix s.data.toList p.data.toList)) ∧ w = w' := by
  rw [← Lib.hasPrefix_of_take, ← Lib.size_eq, ← Lib.size_eq]
  go_enter Try.func69, Try.ntmps69
  go_wp2
  · rename_i h
    go_ret
    refine ⟨?_, rfl⟩
    show Ending.returned (Value.bool ((s.extract 0 p.size).toList == p.toList)) = _
    rw [Lib.extract_toList, Lib.toList_data]
    simp [h]
  · rename_i h
    go_ret
    refine ⟨?_, rfl⟩
    show Ending.returned (Value.bool false) = _
    simp [h]
theorem prefix_yes (xs zs : List UInt8) (w : World) : Calls Try.prog 33 #[.string (strB (xs ++ zs)), .string (strB xs)] w fun e w' => e = .returned (.bool true) ∧ w = w' := by
  have hp : Lib.hasPrefix (strB (xs ++ zs)).data.toList (strB xs).data.toList = true := by
    show xs.isPrefixOf (xs ++ zs) = true
    simp
  have HP := Lib.hid hp
  clear hp
  go_enter Try.func33, Try.ntmps33
  go_wp2_with fail
  refine (prefix_lite _ _ w).mono ?_
  rw [HP.out]
  rintro e w' ⟨rfl, rfl⟩
  go_wp2_with fail
  go_ret
  exact ⟨rfl, rfl⟩

end Go.Proofs.Ytnkenkdglcmpdaa
