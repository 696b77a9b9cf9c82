/- Parts: The walk of the tape's Append. .. The walks of tally's Reader: fail, take, number. -/
import Derived.Test.YtdhafdejionefaaGreatM03
import Derived.Test.YtdhafdejionefaaGreatM01
import Derived.Lib.SlBytesConst
import Derived.Lib.AppendStr
/- The walk of the tape's Append. -/
namespace Go.Proofs.YtdhafdejionefaaGreat
set_option linter.unusedVariables false
set_option linter.unusedSimpArgs false
open Go.RowKit

theorem RB.fr2 {F : Nat → Prop} {w w' : World} {A : Option Addr} {xs : List UInt8} (h : RB w A xs) (hf : Fr F w w') (hn : ∀ a, A = some a → 0 < xs.length → ¬ F a.block) : RB w' A xs := by
  by_cases hx : 0 < xs.length
  · exact h.fr hf (fun a e => hn a e hx)
  · exact ⟨h.1, fun h => absurd h hx⟩
/-- Append on an area that answers. -/
def TS.roomed (T : TS) (n : Int) (xs : List UInt8) : Int × TS := if T.room - (T.used : Int) < (xs.length : Int) then (151, T) else T.op fun T => T.app n xs

theorem append_err (tb : Nat) (n : Int) (A : Option Addr) (m c : Nat) (T : TS) (F : Nat → Prop) (w : World) (h : TapeR w tb T F) (hn : faultN T.off n ≠ 0) :
    Calls Tryz.prog 29 #[.pointer (some ⟨tb, 0, none⟩), .int .i64 n, .slice A m c] w (Does w tb F (faultN T.off n, T)) := by
  have hb : Below w.heap.size w (((w.alloc (.cells #[.pointer (some ⟨tb, 0, none⟩)] 27)).alloc (.cells #[.int .i64 n] 3)).alloc (.cells #[.slice A m c] 35)) := (((Below.refl _ _).alloc (Nat.le_refl _) _).alloc (by simp) _).alloc (by simp; omega) _
  have H := Lib.hid (h.below hb)
  have HB := Lib.hid hb
  obtain ⟨v0, v1, pv, h⟩ := h
  have h0 := (((h.blk.alloc (.cells #[.pointer (some ⟨tb, 0, none⟩)] 27)).alloc (.cells #[.int .i64 n] 3)).alloc (.cells #[.slice A m c] 35)).cell 0
  have h6 := (((h.blk.alloc (.cells #[.pointer (some ⟨tb, 0, none⟩)] 27)).alloc (.cells #[.int .i64 n] 3)).alloc (.cells #[.slice A m c] 35)).cell 6
  obtain ⟨k, hk⟩ : ∃ k, k = faultN T.off n := ⟨_, rfl⟩
  have hne : (k != 0) = true := by rw [bne_iff_ne, hk]; exact hn
  rw [← hk]
  have HK := Lib.hid hk
  have H0 := Lib.hid h0
  have H6 := Lib.hid h6
  clear h hn hk hb h0 h6
  go_enter Tryz.func29, Tryz.ntmps29
  go_wp2_with fail
  refine (fault_any tb n T.off _ H0.out H6.out).mono ?_
  rintro e w' ⟨rfl, rfl⟩
  rw [← HK.out]
  go_wp2
  go_ret
  exact ⟨rfl, F, H.out, Upd.of_below HB.out⟩
set_option maxRecDepth 100000 in
set_option maxHeartbeats 2000000 in
theorem append_ok (tb : Nat) (n : Int) (A : Option Addr) (c : Nat) (xs : List UInt8) (T : TS) (F : Nat → Prop) (w : World) (h : TapeR w tb T F) (hn : n = 0 ∨ n = 1) (ho : T.off = false) (hr : RB w A xs) (hA : ∀ a, A = some a → 0 < xs.length → ¬ F a.block) :
    Calls Tryz.prog 29 #[.pointer (some ⟨tb, 0, none⟩), .int .i64 n, .slice A xs.length c] w (Does w tb F (T.roomed n xs)) := by
  obtain ⟨m, hm⟩ : ∃ m, m = xs.length := ⟨_, rfl⟩
  rw [← hm]
  have hml : m ≤ 140737488355328 := by rw [hm]; exact hr.1
  obtain ⟨w2, hw2⟩ : ∃ w2, w2 = (((w.alloc (.cells #[.pointer (some ⟨tb, 0, none⟩)] 27)).alloc (.cells #[.int .i64 n] 3)).alloc (.cells #[.slice A m c] 35)) := ⟨_, rfl⟩
  have hb : Below w.heap.size w w2 := by rw [hw2]; exact (((Below.refl _ _).alloc (Nat.le_refl _) _).alloc (by simp) _).alloc (by simp; omega) _
  have hk3 : Blk w2 w.heap.size #[.pointer (some ⟨tb, 0, none⟩)] 27 := by rw [hw2]; exact ((Blk.new w _ _).alloc _).alloc _
  have hk4 : Blk w2 (w.heap.size + 1) #[.int .i64 n] 3 := by
    rw [hw2]
    have := (Blk.new (w.alloc (.cells #[.pointer (some ⟨tb, 0, none⟩)] 27)) #[.int .i64 n] 3).alloc (.cells #[.slice A m c] 35)
    simpa using this
  have hk5 : Blk w2 (w.heap.size + 1 + 1) #[.slice A m c] 35 := by
    rw [hw2]
    have := Blk.new ((w.alloc (.cells #[.pointer (some ⟨tb, 0, none⟩)] 27)).alloc (.cells #[.int .i64 n] 3)) #[.slice A m c] 35
    simpa using this
  have hF : ∀ k, F k → k < w.heap.size := by obtain ⟨_, _, _, h⟩ := h; exact h.flt
  have h2 := h.below hb
  have H := Lib.hid h2
  have HB := Lib.hid hb
  have HK3 := Lib.hid hk3
  have HK4 := Lib.hid hk4
  have HK5 := Lib.hid hk5
  have HR := Lib.hid (hr.below hb)
  have HM := Lib.hid hm
  have hn3 : w2.cell? ⟨w.heap.size, 0, none⟩ = some (.pointer (some ⟨tb, 0, none⟩)) := hk3.cell 0
  have hn4 : w2.cell? ⟨w.heap.size + 1, 0, none⟩ = some (.int .i64 n) := hk4.cell 0
  have hn5 : w2.cell? ⟨w.heap.size + 1 + 1, 0, none⟩ = some (.slice A m c) := hk5.cell 0
  obtain ⟨v0, v1, pv, h2⟩ := h2
  have h0 := h2.c0
  have h1 := h2.c1
  have h6 := h2.c6
  have hu : (T.used : Int) ≤ T.room := h2.wf.fit
  have hu2 : T.room ≤ 1073741824 := h2.wf.room
  rw [ho] at h6
  have HN := Lib.hid hn
  have HF := Lib.hid hF
  have HA := Lib.hid hA
  have hfz : faultN false n = 0 := by simp [faultN, hn]
  have HW := Lib.hid hw2
  clear h h2 hb hk3 hk4 hk5 hn hF hw2 ho hr hm hA
  go_enter Tryz.func29, Tryz.ntmps29
  go_wp2_with fail
  rw [← HW.out]
  clear HW
  refine (fault_any tb n false w2 h0 h6).mono ?_
  rintro e w' ⟨rfl, rfl⟩
  rw [hfz]
  clear hfz
  go_wp2_with fail
  refine wp_region_phased (fun W => W = w2.drew) 10 (by kernel_rfl) rfl (fun hS0 => ?_)
  refine wpAnyP_load (v := ?_) 0 (by kernel_rfl) (at_toArray rfl) (by kernel_rfl) (by kernel_rfl) (by kernel_rfl) (fun _ _ _ h => h) (by first | assumption | rfl) (Or.inl ⟨by rfl, fun W hS => ?_⟩) ?_
  rotate_left 1
  · (obtain rfl := hS; go_simp <;> (try go_bits) <;> with_reducible rfl)
  simp only [Act.put, List.setIfInBounds_toArray, List.set_cons_zero, List.set_cons_succ]
  refine wpAnyP_load (v := ?_) 2 (by kernel_rfl) (at_toArray rfl) (by kernel_rfl) (by kernel_rfl) (by kernel_rfl) (fun _ _ _ h => h) (by first | assumption | rfl) (Or.inl ⟨by rfl, fun W hS => ?_⟩) ?_
  rotate_left 1
  · (obtain rfl := hS; go_simp <;> (try go_bits) <;> with_reducible rfl)
  simp only [Act.put, List.setIfInBounds_toArray, List.set_cons_zero, List.set_cons_succ]
  refine wpAnyP_load (v := ?_) 6 (by kernel_rfl) (at_toArray rfl) (by kernel_rfl) (by kernel_rfl) (by kernel_rfl) (fun _ _ _ h => h) (by first | assumption | rfl) (Or.inl ⟨by rfl, fun W hS => ?_⟩) ?_
  rotate_left 1
  · (obtain rfl := hS; go_simp <;> (try go_bits) <;> with_reducible rfl)
  simp only [Act.put, List.setIfInBounds_toArray, List.set_cons_zero, List.set_cons_succ]
  refine wpAnyP_pure (v := ?_) 1 (at_toArray rfl) (by kernel_rfl) (by kernel_rfl) (by kernel_rfl) (fun _ _ _ h => h) (Or.inl ⟨by rfl, fun W => ?_⟩) ?_
  rotate_left 1
  · (go_simp <;> (try go_bits) <;> with_reducible rfl)
  simp only [Act.put, List.setIfInBounds_toArray, List.set_cons_zero, List.set_cons_succ]
  refine wpAnyP_pure (v := ?_) 3 (at_toArray rfl) (by kernel_rfl) (by kernel_rfl) (by kernel_rfl) (fun _ _ _ h => h) (Or.inl ⟨by rfl, fun W => ?_⟩) ?_
  rotate_left 1
  · (go_simp <;> (try go_bits) <;> with_reducible rfl)
  simp only [Act.put, List.setIfInBounds_toArray, List.set_cons_zero, List.set_cons_succ]
  refine wpAnyP_pure (v := ?_) 4 (at_toArray rfl) (by kernel_rfl) (by kernel_rfl) (by kernel_rfl) (fun _ _ _ h => h) (Or.inl ⟨by rfl, fun W => ?_⟩) ?_
  rotate_left 1
  · (go_simp <;> (try go_bits) <;> with_reducible rfl)
  simp only [Act.put, List.setIfInBounds_toArray, List.set_cons_zero, List.set_cons_succ]
  refine wpAnyP_load (v := ?_) 5 (by kernel_rfl) (at_toArray rfl) (by kernel_rfl) (by kernel_rfl) (by kernel_rfl) (fun _ _ _ h => h) (by first | assumption | rfl) (Or.inl ⟨by rfl, fun W hS => ?_⟩) ?_
  rotate_left 1
  · (obtain rfl := hS; go_simp <;> (try go_bits) <;> with_reducible rfl)
  simp only [Act.put, List.setIfInBounds_toArray, List.set_cons_zero, List.set_cons_succ]
  refine wpAnyP_one 7 (at_toArray rfl) (by kernel_rfl) rfl (fun K hK => ?_)
  go_wp2_with fail
  refine (used_any tb T F _ (H.out.below (Below.refl _ _).drew)).mono ?_
  rintro e w' ⟨rfl, rfl⟩
  go_wp2_with fail
  refine hK.out _ _ (fun _ _ => rfl) ?_
  clear hK
  obtain ⟨u, hu0⟩ : ∃ u : Nat, u = T.used := ⟨_, rfl⟩
  rw [← hu0] at hu ⊢
  have HU := Lib.hid hu0
  clear hu0
  refine wpAnyP_pure (v := ?_) 8 (at_toArray rfl) (by kernel_rfl) (by kernel_rfl) (by kernel_rfl) (fun _ _ _ h => h) (Or.inl ⟨by rfl, fun W => ?_⟩) ?_
  rotate_left 1
  · (go_simp <;> (try go_bits) <;> with_reducible rfl)
  simp only [Act.put, List.setIfInBounds_toArray, List.set_cons_zero, List.set_cons_succ]
  refine wpAnyP_pure (v := ?_) 9 (at_toArray rfl) (by kernel_rfl) (by kernel_rfl) (by kernel_rfl) (fun _ _ _ h => h) (Or.inl ⟨by rfl, fun W => ?_⟩) ?_
  rotate_left 1
  · (go_simp <;> (try go_bits) <;> with_reducible rfl)
  simp only [Act.put, List.setIfInBounds_toArray, List.set_cons_zero, List.set_cons_succ]
  refine wpAnyP_done (by kernel_rfl) ?_ _
  clear hS0
  by_cases hroom : T.room - (u : Int) < (m : Int)
  · have HV : Hid (T.roomed n xs = (151, T)) := Lib.hid (if_pos (show T.room - (T.used : Int) < (xs.length : Int) from by rw [← HU.out, ← HM.out]; exact hroom))
    go_wp2
    go_ret
    rw [HV.out]
    exact ⟨rfl, F, (H.out.below (Below.refl _ _).drew), Upd.of_below HB.out.drew⟩
  · have HV : Hid (T.roomed n xs = T.op fun T => T.app n xs) := Lib.hid (if_neg (show ¬ T.room - (T.used : Int) < (xs.length : Int) from by rw [← HU.out, ← HM.out]; exact hroom))
    have hd : Below w.heap.size w w2.drew := HB.out.drew
    have e3 : w2.drew.cell? ⟨w.heap.size, 0, none⟩ = some (.pointer (some ⟨tb, 0, none⟩)) := hn3
    have HT := Lib.hid (H.out.below (Below.refl _ _).drew)
    have HD3 : Hid (Blk w2.drew w.heap.size #[.pointer (some ⟨tb, 0, none⟩)] 27) := HK3
    have HD4 : Hid (Blk w2.drew (w.heap.size + 1) #[.int .i64 n] 3) := HK4
    have HD5 : Hid (Blk w2.drew (w.heap.size + 1 + 1) #[.slice A m c] 35) := HK5
    have HDR : Hid (RB w2.drew A xs) := HR.out.below (Below.refl _ _).drew
    clear hn3 hn4 hn5 h0 h1 h6 H HB HK3 HK4 HK5 HR
    generalize w2.drew = w3 at *
    go_wp2_with fail
    have hcl : ∀ w1, TapeR w1 tb T.step F → Upd w3 w1 F F → Calls Tryz.prog 56 #[.pointer (some ⟨w.heap.size, 0, none⟩), .pointer (some ⟨w.heap.size + 1, 0, none⟩), .pointer (some ⟨w.heap.size + 1 + 1, 0, none⟩)] w1 fun e w' => e = .returned (.tuple #[]) ∧ ∃ F', TapeR w' tb (T.step.app n xs) F' ∧ Upd w1 w' F F' := by
      intro w1 ht hu
      have g3 : ¬ F w.heap.size := fun hf => by have := HF.out _ hf; omega
      have g4 : ¬ F (w.heap.size + 1) := fun hf => by have := HF.out _ hf; omega
      have g5 : ¬ F (w.heap.size + 1 + 1) := fun hf => by have := HF.out _ hf; omega
      have a3 := (HD3.out.fr hu.fr g3).cell 0
      have a4 := (HD4.out.fr hu.fr g4).cell 0
      have a5 : w1.cell? ⟨w.heap.size + 1 + 1, 0, none⟩ = some (.slice A xs.length c) := by rw [← HM.out]; exact (HD5.out.fr hu.fr g5).cell 0
      have ar := HDR.out.fr2 hu.fr HA.out
      have hfit : ((T.step.used + xs.length : Nat) : Int) ≤ T.step.room := by
        show ((T.used + xs.length : Nat) : Int) ≤ T.room
        rw [← HU.out, ← HM.out]; omega
      rcases HN.out with rfl | rfl
      · exact append1_0 tb _ _ _ A c xs _ F w1 ht a3 a4 a5 g3 g4 g5 ar hfit
      · exact append1_1 tb _ _ _ A c xs _ F w1 ht a3 a4 a5 g3 g4 g5 ar hfit
    have HCL := Lib.hid hcl
    clear hcl
    obtain ⟨pl, hpl⟩ : ∃ pl, pl = T.plan := ⟨_, rfl⟩
    match pl, hpl with
    | none, hpl =>
      have hv : (T.op fun T => T.app n xs) = (0, T.step.app n xs) := by unfold TS.op; rw [← hpl]
      have HV2 := Lib.hid hv
      refine (do_none_append _ tb T F w3 HT.out hpl.symm (fun w1 w' => ∃ F', TapeR w' tb (T.step.app n xs) F' ∧ Upd w1 w' F F') HCL.out).mono ?_
      rintro e w' ⟨rfl, w1, _, hu1, F', ht, hu⟩
      have HT2 := Lib.hid ht
      have HU2 := Lib.hid (hu1.trans hu)
      clear ht hu hu1 hpl hv
      go_wp2
      go_ret
      rw [HV.out, HV2.out]
      exact ⟨rfl, F', HT2.out, (Upd.of_below hd).trans HU2.out⟩
    | some (l, k), hpl =>
      by_cases hl : l = 0
      · subst hl
        have hv : (T.op fun T => T.app n xs) = (150, T.gone k) := by unfold TS.op; rw [← hpl]; rfl
        have HV2 := Lib.hid hv
        refine (do_gone_append _ tb T F w3 HT.out k hpl.symm).mono ?_
        rintro e w' ⟨rfl, F', ht, hu⟩
        have HT2 := Lib.hid ht
        have HU2 := Lib.hid hu
        clear ht hu hpl hv
        go_wp2
        go_ret
        rw [HV.out, HV2.out]
        exact ⟨rfl, F', HT2.out, (Upd.of_below hd).trans HU2.out⟩
      · have hv : (T.op fun T => T.app n xs) = (0, T.step.app n xs) := by unfold TS.op; rw [← hpl]; exact if_neg hl
        have HV2 := Lib.hid hv
        have hl0 : 0 < l := by
          obtain ⟨_, _, _, ht⟩ := HT.out
          have := (ht.wf.left l k hpl.symm).1
          omega
        refine (do_left_append _ tb T F w3 HT.out l k hpl.symm hl0 (fun w1 w' => ∃ F', TapeR w' tb (T.step.app n xs) F' ∧ Upd w1 w' F F') HCL.out).mono ?_
        rintro e w' ⟨rfl, w1, _, hu1, F', ht, hu⟩
        have HT2 := Lib.hid ht
        have HU2 := Lib.hid (hu1.trans hu)
        clear ht hu hu1 hpl hv
        go_wp2
        go_ret
        rw [HV.out, HV2.out]
        exact ⟨rfl, F', HT2.out, (Upd.of_below hd).trans HU2.out⟩
theorem append_any (tb : Nat) (n : Int) (A : Option Addr) (c : Nat) (xs : List UInt8) (T : TS) (F : Nat → Prop) (w : World) (h : TapeR w tb T F) (hr : RB w A xs) (hA : ∀ a, A = some a → 0 < xs.length → ¬ F a.block) :
    Calls Tryz.prog 29 #[.pointer (some ⟨tb, 0, none⟩), .int .i64 n, .slice A xs.length c] w (Does w tb F (T.append n xs)) := by
  unfold TS.append
  by_cases hn : faultN T.off n = 0
  · rw [if_neg (by simpa using hn)]
    have := fault_zero hn
    exact append_ok tb n A c xs T F w h this.2 this.1 hr hA
  · rw [if_pos hn]
    exact append_err tb n A xs.length c T F w h hn
theorem append_no (p : Option Addr) (n : Int) (A : Option Addr) (m c : Nat) (w : World) (h : NoTape w p) :
    Calls Tryz.prog 29 #[.pointer p, .int .i64 n, .slice A m c] w fun e w' => e = .returned (.int .i64 1) ∧ Below w.heap.size w w' := by
  have hb : Below w.heap.size w (((w.alloc (.cells #[.pointer p] 27)).alloc (.cells #[.int .i64 n] 3)).alloc (.cells #[.slice A m c] 35)) := (((Below.refl _ _).alloc (Nat.le_refl _) _).alloc (by simp) _).alloc (by simp; omega) _
  have H := Lib.hid (h.below hb)
  have HB := Lib.hid hb
  clear h hb
  go_enter Tryz.func29, Tryz.ntmps29
  go_wp2_with fail
  refine (fault_no p n _ H.out).mono ?_
  rintro e w' ⟨rfl, rfl⟩
  go_wp2
  go_ret
  exact ⟨rfl, HB.out⟩

end Go.Proofs.YtdhafdejionefaaGreat

/- A tape that the call itself has made; the walk of the tape's example. -/
namespace Go.Proofs.YtdhafdejionefaaGreat
set_option linter.unusedVariables false
set_option linter.unusedSimpArgs false
open Go.RowKit

/-- A tape whose blocks are all at B or behind it. -/
def NewT (B : Nat) (w : World) (tb : Nat) (T : TS) : Prop := B ≤ w.heap.size ∧ ∃ F, TapeR w tb T F ∧ ∀ k, F k → B ≤ k
theorem NewT.below {B : Nat} {w w' : World} {tb : Nat} {T : TS} (h : NewT B w tb T) (hb : Below w.heap.size w w') : NewT B w' tb T := by
  obtain ⟨h0, F, h1, h2⟩ := h
  exact ⟨Nat.le_trans h0 hb.size, F, h1.below hb, h2⟩
theorem NewT.drew {B : Nat} {w : World} {tb : Nat} {T : TS} (h : NewT B w tb T) : NewT B w.drew tb T := h.below (Below.refl _ _).drew
theorem NewT.drewN {B : Nat} {w : World} {tb : Nat} {T : TS} (h : NewT B w tb T) (n : Nat) : NewT B (w.drewN n) tb T := h.below (⟨rfl, rfl, rfl, Nat.le_refl _, fun _ _ => rfl⟩)
theorem NewT.alloc {B : Nat} {w : World} {tb : Nat} {T : TS} (h : NewT B w tb T) (o : Obj) : NewT B (w.alloc o) tb T := h.below ((Below.refl _ _).alloc (Nat.le_refl _) o)
theorem NewT.ok {B : Nat} {w : World} {tb : Nat} {T : TS} (h : NewT B w tb T) : T.ok := by
  obtain ⟨_, F, ⟨_, _, _, h1⟩, _⟩ := h
  exact h1.wf
/-- What a call on such a tape comes to. -/
def DoesN (B : Nat) (w : World) (tb : Nat) (r : Int × TS) (e : Ending) (w' : World) : Prop := e = .returned (.int .i64 r.1) ∧ NewT B w' tb r.2 ∧ Below B w w'
theorem upd_below {B : Nat} {w w' : World} {F F' : Nat → Prop} (h : Upd w w' F F') (hB : B ≤ w.heap.size) (hF : ∀ k, F k → B ≤ k) : Below B w w' ∧ ∀ k, F' k → B ≤ k :=
  ⟨⟨h.fr.os, h.fr.tape, h.fr.output, h.fr.size, fun i hi => h.fr.block i (Nat.lt_of_lt_of_le hi hB) (fun f => by have := hF i f; omega)⟩,
   fun k hk => (h.new k hk).elim (hF k) (fun h => Nat.le_trans hB h)⟩
theorem does_new {B : Nat} {w : World} {tb : Nat} {F : Nat → Prop} {r : Int × TS} {e : Ending} {w' : World} (h : Does w tb F r e w') (hB : B ≤ w.heap.size) (hF : ∀ k, F k → B ≤ k) : DoesN B w tb r e w' := by
  obtain ⟨he, F', ht, hu⟩ := h
  have := upd_below hu hB hF
  exact ⟨he, ⟨Nat.le_trans hB hu.fr.size, F', ht, this.2⟩, this.1⟩
def TS.fail (T : TS) (keep : Int) : Int × TS := if T.off then (150, T) else (0, T.gone keep)
def TS.arm (T : TS) (n keep : Int) : Int × TS := if n < 0 then (2, T) else if T.off then (150, T) else (0, { T with plan := some (n, keep) })
def TS.read (T : TS) (n : Int) : List UInt8 := if faultN T.off n = 0 then T.b n else []

theorem append_old (B : Nat) (tb : Nat) (n : Int) (A : Option Addr) (c : Nat) (xs : List UInt8) (T : TS) (w : World) (r : Int × TS) (hr : T.append n xs = r) (h : NewT B w tb T) (hx : RB w A xs) (hA : ∀ a, A = some a → 0 < xs.length → a.block < B) :
    Calls Tryz.prog 29 #[.pointer (some ⟨tb, 0, none⟩), .int .i64 n, .slice A xs.length c] w (DoesN B w tb r) := by
  obtain ⟨h0, F, h1, h2⟩ := h
  subst hr
  exact (append_any tb n A c xs T F w h1 hx (fun a e hx f => by have := h2 _ f; have := hA a e hx; omega)).mono fun _ _ h => does_new h h0 h2
theorem append_lit (B : Nat) (tb : Nat) (n : Int) (m : Nat) (cs : Array Value) (fr : Nat × Nat) (xs : List UInt8) (T : TS) (w : World) (r : Int × TS) (hr : T.append n xs = r) (h : NewT B w tb T) (hcs : cs = (bv xs).toArray) (hl : xs.length ≤ 140737488355328) (hm : m = xs.length) :
    Calls Tryz.prog 29 #[.pointer (some ⟨tb, 0, none⟩), .int .i64 n, .slice (some ⟨w.heap.size, 0, none⟩) m m] (w.alloc (.cells cs 5 fr)) fun e w' => DoesN B w tb r e w' := by
  obtain ⟨h0, F, h1, h2⟩ := h
  subst hr
  subst hm
  have hb : Below w.heap.size w (w.alloc (.cells cs 5 fr)) := (Below.refl _ _).alloc (Nat.le_refl _) _
  have hlt : ∀ k, F k → k < w.heap.size := by obtain ⟨_, _, _, h⟩ := h1; exact h.flt
  refine (append_any tb n _ _ xs T F _ (h1.below hb) (RB.fresh w xs [] _ fr hl (by simpa using hcs)) (fun a e _ f => by cases e; exact absurd (hlt _ f) (by simp))).mono fun _ _ h => ?_
  obtain ⟨he, F', ht, hu⟩ := h
  have := upd_below hu (Nat.le_trans h0 hb.size) h2
  exact ⟨he, ⟨Nat.le_trans h0 (Nat.le_trans hb.size hu.fr.size), F', ht, this.2⟩, (Below.mono hb h0).trans this.1⟩
theorem sync_new (B : Nat) (tb : Nat) (n : Int) (T : TS) (w : World) (r : Int × TS) (hr : T.sync n = r) (h : NewT B w tb T) :
    Calls Tryz.prog 49 #[.pointer (some ⟨tb, 0, none⟩), .int .i64 n] w (DoesN B w tb r) := by
  obtain ⟨h0, F, h1, h2⟩ := h
  subst hr
  exact (sync_any tb n T F w h1).mono fun _ _ h => does_new h h0 h2
theorem clear_new (B : Nat) (tb : Nat) (n : Int) (T : TS) (w : World) (r : Int × TS) (hr : T.clear n = r) (h : NewT B w tb T) :
    Calls Tryz.prog 31 #[.pointer (some ⟨tb, 0, none⟩), .int .i64 n] w (DoesN B w tb r) := by
  obtain ⟨h0, F, h1, h2⟩ := h
  subst hr
  exact (clear_any tb n T F w h1).mono fun _ _ h => does_new h h0 h2
theorem fail_any (tb : Nat) (keep : Int) (T : TS) (F : Nat → Prop) (w : World) (h : TapeR w tb T F) :
    Calls Tryz.prog 22 #[.pointer (some ⟨tb, 0, none⟩), .int .i64 keep] w (Does w tb F (T.fail keep)) := by
  unfold TS.fail
  by_cases ho : T.off = true
  · rw [if_pos ho]
    exact (fail_off tb keep T F w h ho).mono fun _ _ h' => ⟨h'.1, F, h'.2 ▸ h, h'.2 ▸ Upd.refl _ _⟩
  · rw [if_neg ho]
    exact fail_ok tb keep T F w h (by simpa using ho)
theorem arm_any (tb : Nat) (n keep : Int) (T : TS) (F : Nat → Prop) (w : World) (h : TapeR w tb T F) (hn : n ≤ 9223372036854775807) :
    Calls Tryz.prog 26 #[.pointer (some ⟨tb, 0, none⟩), .int .i64 n, .int .i64 keep] w (Does w tb F (T.arm n keep)) := by
  unfold TS.arm
  by_cases h1 : n < 0
  · rw [if_pos h1]
    have := arm_err tb n keep T F w h (.inl h1)
    rw [if_pos h1] at this
    exact this.mono fun _ _ h' => ⟨h'.1, F, h'.2 ▸ h, h'.2 ▸ Upd.refl _ _⟩
  · rw [if_neg h1]
    by_cases ho : T.off = true
    · rw [if_pos ho]
      have := arm_err tb n keep T F w h (.inr ho)
      rw [if_neg h1] at this
      exact this.mono fun _ _ h' => ⟨h'.1, F, h'.2 ▸ h, h'.2 ▸ Upd.refl _ _⟩
    · rw [if_neg ho]
      exact arm_ok tb n keep T F w h (by omega) hn (by simpa using ho)
theorem fail_new (B : Nat) (tb : Nat) (keep : Int) (T : TS) (w : World) (r : Int × TS) (hr : T.fail keep = r) (h : NewT B w tb T) :
    Calls Tryz.prog 22 #[.pointer (some ⟨tb, 0, none⟩), .int .i64 keep] w (DoesN B w tb r) := by
  obtain ⟨h0, F, h1, h2⟩ := h
  subst hr
  exact (fail_any tb keep T F w h1).mono fun _ _ h => does_new h h0 h2
theorem arm_new (B : Nat) (tb : Nat) (n keep : Int) (T : TS) (w : World) (r : Int × TS) (hr : T.arm n keep = r) (h : NewT B w tb T) (hn : n ≤ 9223372036854775807) :
    Calls Tryz.prog 26 #[.pointer (some ⟨tb, 0, none⟩), .int .i64 n, .int .i64 keep] w (DoesN B w tb r) := by
  obtain ⟨h0, F, h1, h2⟩ := h
  subst hr
  exact (arm_any tb n keep T F w h1 hn).mono fun _ _ h => does_new h h0 h2
theorem power_new (B : Nat) (tb : Nat) (T : TS) (w : World) (T' : TS) (hr : { T with off := false } = T') (h : NewT B w tb T) :
    Calls Tryz.prog 23 #[.pointer (some ⟨tb, 0, none⟩)] w fun e w' => e = .returned (.int .i64 0) ∧ NewT B w' tb T' ∧ Below B w w' := by
  obtain ⟨h0, F, h1, h2⟩ := h
  subst hr
  exact (power_any tb T F w h1).mono fun _ _ h => does_new (r := (0, _)) ⟨h.1, F, h.2⟩ h0 h2
theorem read_any (tb : Nat) (n : Int) (T : TS) (F : Nat → Prop) (w : World) (h : TapeR w tb T F) :
    Calls Tryz.prog 41 #[.pointer (some ⟨tb, 0, none⟩), .int .i64 n] w fun e w' => ∃ v, e = .returned (.tuple #[v, .int .i64 (faultN T.off n)]) ∧ Fresh w w' v (T.read n) := by
  unfold TS.read
  by_cases hn : faultN T.off n = 0
  · rw [if_pos hn, hn]
    have := fault_zero hn
    exact read_ok tb n T F w h this.2 this.1
  · rw [if_neg hn]
    exact (read_err tb n T F w h hn).mono fun _ _ h' => ⟨_, h'.1, h'.2 ▸ fresh_nil w⟩
theorem TS.read_len {T : TS} (h : T.ok) (n : Int) : (T.read n).length ≤ 1073741824 := by
  have h1 := h.fit
  have h2 := h.room
  unfold TS.used at h1
  unfold TS.read TS.b
  split
  · split
    · omega
    · split
      · omega
      · simp
  · simp
theorem Below.up {B C : Nat} {w w' : World} (h : Below C w w') (hB : B ≤ C) : Below B w w' := Below.mono h hB

theorem made (B : Nat) (room : Int) (w : World) (hB : w.heap.size = B) (h0 : 0 ≤ room) (h1 : room ≤ 1073741824) :
    Calls Tryz.prog 6 #[.int .i64 room] w fun e w' => ∃ tb, e = .returned (.pointer (some ⟨tb, 0, none⟩)) ∧ NewT B w' tb (TS.new room) ∧ Below B w w' := by
  subst hB
  refine (new_ok room w h0 h1).mono ?_
  rintro e w' ⟨tb, rfl, h, hb, ht⟩
  exact ⟨tb, rfl, ⟨hb.size, _, ht, fun k hk => by omega⟩, hb⟩

end Go.Proofs.YtdhafdejionefaaGreat

/- The walks of tally's Size, Put, PutText. -/
namespace Go.Proofs.YtdhafdejionefaaGreat
set_option linter.unusedVariables false
set_option linter.unusedSimpArgs false
open Go.RowKit

/-- A row of bytes of the call's own, at B or behind it. -/
def OBB (B : Nat) (w : World) (v : Value) (xs : List UInt8) : Prop := OB w v xs ∧ ∀ k, v.ownBlock = some k → B ≤ k
theorem OBB.below {B : Nat} {w w' : World} {v : Value} {xs : List UInt8} (h : OBB B w v xs) (hb : Below w.heap.size w w') : OBB B w' v xs := ⟨h.1.below hb, h.2⟩
theorem wpList_append_bb {w : World} {ops : Array Oper} {rest : List Oper} {o : Oper} {a : Act} {Q : Exit → Act → World → Prop} (hgd : o.guard = none) (s x : Operand)
    (ho : o.op = .call { callee := .builtin .append, args := #[s, x], argTypes := #[35, 35] })
    (B : Nat) (v : Value) (xs : List UInt8) (hs : a.eval s = v) (HO : OBB B w v xs) (hB : B ≤ w.heap.size) (A : Option Addr) (c : Nat) (ys : List UInt8) (hx : a.eval x = .slice A ys.length c) (hr : RB w A ys) (hb : xs.length + ys.length ≤ 140737488355328)
    (h : ∀ v' w', OBB B w' v' (xs ++ ys) → Below B w w' → wpList Tryz.prog ops Q rest (a.put o.dst v') w') : wpList Tryz.prog ops Q (o :: rest) a w :=
  wpList_append_b hgd s x ho v xs hs HO.1 A c ys hx hr hb fun v' w' h1 h2 h3 =>
    h v' w' ⟨h1, fun k hk => by
      rcases h3 with h3 | h3
      · rw [h3] at hk; exact HO.2 k hk
      · rw [h3] at hk; cases hk; exact hB⟩ ((Below.refl B w).grown h2 hB (fun k hk => HO.2 k hk))
theorem strCells_strB (ys : List UInt8) : Lib.strCells (strB ys) = bv ys := by simp [Lib.strCells, strB, bv]
theorem wpList_append_sb {w : World} {ops : Array Oper} {rest : List Oper} {o : Oper} {a : Act} {Q : Exit → Act → World → Prop} (hgd : o.guard = none) (s x : Operand)
    (ho : o.op = .call { callee := .builtin .append, args := #[s, x], argTypes := #[35, 9] })
    (B : Nat) (v : Value) (xs : List UInt8) (hs : a.eval s = v) (HO : OBB B w v xs) (hB : B ≤ w.heap.size) (ys : List UInt8) (hx : a.eval x = .string (strB ys)) (hb : xs.length + ys.length ≤ 140737488355328)
    (h : ∀ v' w', OBB B w' v' (xs ++ ys) → Below B w w' → wpList Tryz.prog ops Q rest (a.put o.dst v') w') : wpList Tryz.prog ops Q (o :: rest) a w := by
  obtain ⟨i, hi, hzz⟩ := Option.map_eq_some_iff.1 info_u8
  simp only [Prod.mk.injEq] at hzz
  have hsz : (strB ys).size = ys.length := by simp [strB, ByteArray.size]
  have hown : w.ownsRow B 5 1 v xs.length (bv xs) := by
    refine ⟨HO.1.1, ?_⟩
    rcases HO.1.2 with h1 | ⟨g, cap, cur, rfl, _, h2⟩
    · exact .inl h1
    · exact .inr ⟨g, cap, cur, rfl, HO.2 g rfl, h2⟩
  refine Lib.wpList_append_own_string w hgd s x 35 9 ho B 5 i Tryz.underlying35 Tryz.underlying9 hi hzz.1 hzz.2.1 hzz.2.2 v xs.length (bv xs) hs hown (strB ys) hx (by rw [hsz]; simp only [maxLen]; omega) (by rw [hsz]; exact hb) hB ?_
  intro v' w' h1 h2 _
  rw [strCells_strB, hsz] at h1
  refine h v' w' ⟨?_, ?_⟩ ((Below.refl B w).grown h2 hB (fun k hk => HO.2 k hk))
  · unfold OB
    rw [bv_append, List.length_append]
    refine ⟨h1.1, ?_⟩
    rcases h1.2 with h3 | ⟨g, cap, cur, e, _, h4⟩
    · exact .inl h3
    · exact .inr ⟨g, cap, cur, e, Nat.zero_le _, h4⟩
  · intro k hk
    rcases h1.2 with ⟨rfl, _⟩ | ⟨g, cap, cur, rfl, hg, _⟩
    · simp [Value.ownBlock] at hk
    · simp [Value.ownBlock] at hk; omega

theorem size_num (n : Nat) (w : World) (h : n < 9223372036854775808) :
    Calls Tryz.prog 93 #[.int .i64 (n : Int)] w fun e w' => e = .returned (.int .i64 ((nbytes n : Int) + 1)) ∧ w = w' := by
  have h0 : ¬ (n : Int) < 0 := by omega
  have h8 := nbytes_small h
  have hlt := lt_nbytes n
  obtain ⟨N, hN⟩ : ∃ N, N = nbytes n := ⟨_, rfl⟩
  rw [← hN] at h8 ⊢
  have HN := Lib.hid hN
  clear hN hlt
  go_enter Tryz.func93, Tryz.ntmps93
  go_wp2_with fail
  go_loopw [0, 3] (fun x k wr => ∃ m j : Nat, x = .int .i64 (m : Int) ∧ k = .int .i64 ((j : Int) + 1) ∧ m < 9223372036854775808 ∧ Hid (j + nbytes m = N) ∧ Hid (wr = w)) (fun x _ _ => (intOf x).toNat)
  case atStart => exact ⟨n, 0, rfl, rfl, h, Lib.hid (by rw [HN.out]; omega), Lib.hid rfl⟩
  case round =>
    obtain ⟨m, j, rfl, rfl, hm, HJ, HW⟩ := hrel
    by_cases hp : 0 < m
    · have l1 : (0 : Int) < (m : Int) := by omega
      have hj := HJ.out
      rw [nbytes_pos hp] at hj
      have hj8 : j ≤ 8 := by omega
      have HJ2 := Lib.hid hj
      clear hj HJ
      go_wp2_with fail
      go_roundw
      case rel => exact ⟨m / 256, j + 1, by go_num, by go_num, by omega, Lib.hid (by have := HJ2.out; omega), HW⟩
      case measure => simp [intOf]; omega
    · have : m = 0 := by omega
      subst this
      have hj := HJ.out
      rw [nbytes_zero] at hj
      have hj2 : j = N := by omega
      subst hj2
      clear hj HJ
      go_wp2_with fail
      go_ret
      exact ⟨rfl, HW.out.symm⟩

theorem be_take (k n i : Nat) (h : i < k) : (be k n).take (i + 1) = (be k n).take i ++ [UInt8.ofNat (n / 256 ^ (k - 1 - i) % 256)] := by
  rw [List.take_add_one, be_get k n i h]
  rfl
theorem shr_byte (n j : Nat) : (n : Int) / 2 ^ (8 * j) % 256 = ((n / 256 ^ j % 256 : Nat) : Int) := by
  have e : (2 : Int) ^ (8 * j) = ((256 ^ j : Nat) : Int) := by
    rw [Int.pow_mul]
    simp
  rw [e]
  simp
set_option maxHeartbeats 2000000 in
theorem put_any (B : Nat) (A : Option Addr) (m : Nat) (xs : List UInt8) (n : Nat) (w : World) (hB : B ≤ w.heap.size) (ho : OBB B w (.slice A m m) xs) (hm : xs.length = m) (hml : m ≤ 1000) (hn : n < 9223372036854775808) :
    Calls Tryz.prog 77 #[.slice A m m, .int .i64 (n : Int)] w fun e w' => ∃ v, e = .returned v ∧ OBB B w' v (xs ++ putN n) ∧ Below B w w' := by
  have h0 : ¬ (n : Int) < 0 := by omega
  have h8 := nbytes_small hn
  obtain ⟨N, hN⟩ : ∃ N, N = nbytes n := ⟨_, rfl⟩
  rw [← hN] at h8
  have HN := Lib.hid hN
  have HO := Lib.hid ho
  have HM := Lib.hid hm
  clear ho hm hN
  go_enter Tryz.func77, Tryz.ntmps77
  go_wp2_with fail
  refine (size_num n w hn).mono ?_
  rw [← HN.out]
  rintro e w' ⟨rfl, rfl⟩
  have hlit : ∀ (W : World) (x : Nat), x < 256 → RB (W.alloc (.cells #[.int .u8 (x : Int)] 5)) (some ⟨W.heap.size, 0, none⟩) [UInt8.ofNat x] := fun W x hx => RB.fresh W [UInt8.ofNat x] [] _ _ (by simp) (by simp [bv]; omega)
  have HLIT := Lib.hid hlit
  clear hlit
  have HO2 : Hid (OBB B (w.alloc (.cells #[.int .u8 (N : Int)] 5)) (.slice A m m) xs) := Lib.hid (HO.out.below ((Below.refl _ _).alloc (Nat.le_refl _) _))
  have HB2 : Hid (B ≤ (w.alloc (.cells #[.int .u8 (N : Int)] 5)).heap.size) := Lib.hid (by simp; omega)
  go_wp2_with (at_builtin; refine wpList_append_bb rfl (.tmp 19) (.tmp 22) rfl B (.slice A m m) xs rfl HO2.out HB2.out (some ⟨w.heap.size, 0, none⟩) 1 [UInt8.ofNat N] rfl (HLIT.out w N (by omega)) (by rw [HM.out]; simp; omega) ?_; intro v w1 hv hb)
  have HV := Lib.hid hv
  have HBL : Hid (Below B w w1) := Lib.hid (((Below.refl B w).alloc hB _).trans hb)
  have hB1 : B ≤ w1.heap.size := Nat.le_trans HB2.out hb.size
  clear hv hb HO2 HB2 HO
  go_loopw [0, 25] (fun u i wr => ∃ k : Nat, k ≤ N ∧ i = .int .i64 k ∧ Hid (OBB B wr u ((xs ++ [UInt8.ofNat N]) ++ (be N n).take k)) ∧ Hid (Below B w wr) ∧ B ≤ wr.heap.size) (fun _ i _ => N - (intOf i).toNat)
  case atStart => exact ⟨0, Nat.zero_le _, rfl, Lib.hid (by rw [List.take_zero, List.append_nil]; exact HV.out), HBL, hB1⟩
  case round =>
    clear HV HBL hB1
    obtain ⟨k, hk, rfl, HV, HBL, hBr⟩ := hrel
    by_cases hlt : k < N
    · have l1 : (k : Int) < (N : Int) := by omega
      obtain ⟨x, hx⟩ : ∃ x, x = n / 256 ^ (N - 1 - k) % 256 := ⟨_, rfl⟩
      have hx256 : x < 256 := by rw [hx]; exact Nat.mod_lt _ (by omega)
      have hby : (n : Int) / 2 ^ (8 * (N - 1 - k)) % 256 = (x : Int) := by
        rw [hx]
        exact shr_byte n (N - 1 - k)
      have HBY := Lib.hid hby
      have HX := Lib.hid hx
      have HV1 : Hid (OBB B (wr.alloc (.cells #[.int .u8 (x : Int)] 5)) u0 ((xs ++ [UInt8.ofNat N]) ++ (be N n).take k)) := Lib.hid (HV.out.below ((Below.refl _ _).alloc (Nat.le_refl _) _))
      have HB2 : Hid (B ≤ (wr.alloc (.cells #[.int .u8 (x : Int)] 5)).heap.size) := Lib.hid (by simp; omega)
      have HLEN : Hid (((xs ++ [UInt8.ofNat N]) ++ (be N n).take k).length + 1 ≤ 140737488355328) := Lib.hid (by rw [List.length_append, List.length_append, HM.out, List.length_take, be_len]; simp; omega)
      clear hby hx
      go_wp2_with (at_builtin; rw [HBY.out]; refine wpList_append_bb rfl (.tmp 28) (.tmp 37) rfl B u0 ((xs ++ [UInt8.ofNat N]) ++ (be N n).take k) rfl HV1.out HB2.out (some ⟨wr.heap.size, 0, none⟩) 1 [UInt8.ofNat x] rfl (HLIT.out wr x hx256) HLEN.out ?_; intro v1 w1 hv hb)
      have HV3 : Hid (OBB B w1 v1 ((xs ++ [UInt8.ofNat N]) ++ (be N n).take (k + 1))) := Lib.hid (by
        rw [be_take N n k hlt, ← HX.out, ← List.append_assoc]
        exact hv)
      have HBL3 : Hid (Below B w w1) := Lib.hid (HBL.out.trans (((Below.refl B wr).alloc hBr _).trans hb))
      have hB3 : B ≤ w1.heap.size := Nat.le_trans HB2.out hb.size
      clear hv hb HV HV1 HB2 HLEN HBL hBr
      go_wp2_with fail
      go_roundw
      case rel => exact ⟨k + 1, by omega, by go_num, HV3, HBL3, hB3⟩
      case measure => simp [intOf]; omega
    · obtain rfl : k = N := by omega
      have l1 : ¬ (k : Int) < (k : Int) := by omega
      have HV2 : Hid (OBB B wr u0 (xs ++ putN n)) := Lib.hid (by
        have h := HV.out
        rw [List.take_of_length_le (by rw [be_len]; omega), List.append_assoc] at h
        unfold putN
        rw [← HN.out]
        exact h)
      clear HV
      go_wp2_with fail
      go_ret
      exact ⟨_, rfl, HV2.out, HBL.out⟩

end Go.Proofs.YtdhafdejionefaaGreat

/- The walks of tally's PutText and of the journal's Frame. -/
namespace Go.Proofs.YtdhafdejionefaaGreat
set_option linter.unusedVariables false
set_option linter.unusedSimpArgs false
open Go.RowKit

set_option maxRecDepth 100000 in
theorem putText_any (B : Nat) (A : Option Addr) (m : Nat) (xs ys : List UInt8) (w : World) (hB : B ≤ w.heap.size) (ho : OBB B w (.slice A m m) xs) (hm : xs.length = m) (hml : m ≤ 1000) (hy : ys.length ≤ 1000000000) :
    Calls Tryz.prog 68 #[.slice A m m, .string (strB ys)] w fun e w' => ∃ v, e = .returned v ∧ OBB B w' v (xs ++ putT ys) ∧ Below B w w' := by
  obtain ⟨s, hs⟩ : ∃ s, s = strB ys := ⟨_, rfl⟩
  have hsz : s.size = ys.length := by rw [hs]; simp [strB, ByteArray.size]
  obtain ⟨n, hn⟩ : ∃ n, n = ys.length := ⟨_, rfl⟩
  rw [← hn] at hsz hy
  rw [← hs]
  have HO := Lib.hid ho
  have HS := Lib.hid hs
  have HM := Lib.hid hm
  have HN := Lib.hid hn
  clear ho hs hm hn
  go_enter Tryz.func68, Tryz.ntmps68
  go_wp2_with fail
  refine (put_any B A m xs n w hB HO.out HM.out hml (by omega)).mono ?_
  rintro e w' ⟨v, rfl, hv, hb⟩
  have HV := Lib.hid hv
  have HB := Lib.hid hb
  have hB1 : B ≤ w'.heap.size := Nat.le_trans hB hb.size
  have HL : Hid ((xs ++ putN n).length + ys.length ≤ 140737488355328) := Lib.hid (by
    have := nbytes_small (n := n) (by omega)
    rw [List.length_append, putN_len, HM.out, ← HN.out]; omega)
  clear hv hb
  go_wp2_with (at_builtin; refine wpList_append_sb rfl (.tmp 8) (.tmp 9) rfl B v (xs ++ putN n) rfl HV.out hB1 ys (by rw [← HS.out]; rfl) HL.out ?_; intro v1 w1 hv hb)
  have HV2 : Hid (OBB B w1 v1 (xs ++ putT ys)) := Lib.hid (by
    unfold putT
    rw [← HN.out, ← List.append_assoc]
    exact hv)
  have HB2 := Lib.hid (HB.out.trans hb)
  clear hv hb HV HB HL
  go_wp2_with fail
  go_ret
  exact ⟨v1, rfl, HV2.out, HB2.out⟩

set_option maxRecDepth 100000 in
set_option maxHeartbeats 2000000 in
theorem frame_any (B : Nat) (k : UInt8) (A : Option Addr) (c : Nat) (xs : List UInt8) (w : World) (hB : B ≤ w.heap.size) (hr : RB w A xs) (hy : xs.length ≤ 1000000000) :
    Calls Tryz.prog 48 #[.int .u8 (k.toNat : Int), .slice A xs.length c] w fun e w' => ∃ v, e = .returned v ∧ OBB B w' v (frameB k xs) ∧ Below B w w' := by
  obtain ⟨n, hn⟩ : ∃ n, n = xs.length := ⟨_, rfl⟩
  rw [← hn]
  have hba : Below w.heap.size w (w.alloc (.cells #[.int .u8 0, .int .u8 0, .int .u8 0, .int .u8 (k.toNat : Int)] 5)) := (Below.refl _ _).alloc (Nat.le_refl _) _
  have hcv := run_str (hr.below hba) n c hn.symm
  have hob : OBB B (w.alloc (.cells #[.int .u8 0, .int .u8 0, .int .u8 0, .int .u8 (k.toNat : Int)] 5)) (.slice (some ⟨w.heap.size, 0, none⟩) 4 4) [0, 0, 0, k] :=
    ⟨OB.lit w [0, 0, 0, k] _ rfl (by simp), fun j hj => by simp [Value.ownBlock] at hj; omega⟩
  have HO := Lib.hid hob
  have HN := Lib.hid hn
  have hB1 : B ≤ (w.alloc (.cells #[.int .u8 0, .int .u8 0, .int .u8 0, .int .u8 (k.toNat : Int)] 5)).heap.size := Nat.le_trans hB hba.size
  have HBA := Lib.hid (Below.up hba hB)
  have HY := Lib.hid hy
  clear hob hr hn hba hy
  go_enter Tryz.func48, Tryz.ntmps48
  go_wp2_with fail
  refine (putText_any B (some ⟨w.heap.size, 0, none⟩) 4 [0, 0, 0, k] xs _ hB1 HO.out rfl (by omega) HY.out).mono ?_
  rintro e w1 ⟨v, rfl, hv, hb⟩
  have HBL := Lib.hid (HBA.out.trans hb)
  have hB2 : B ≤ w1.heap.size := Nat.le_trans hB1 hb.size
  have hlen : ([0, 0, 0, k] ++ putT xs).length = 5 + nbytes xs.length + xs.length := by rw [List.length_append, putT_len]; simp; omega
  have hnb := nbytes_small (n := xs.length) (by have := HY.out; omega)
  obtain ⟨g, cv, rfl, hlc⟩ := hv.1.pos (by rw [hlen]; omega)
  obtain ⟨L, hL⟩ : ∃ L, L = ([0, 0, 0, k] ++ putT xs).length := ⟨_, rfl⟩
  rw [← hL] at hv hlc ⊢
  have hL5 : 5 ≤ L := by rw [hL, hlen]; omega
  have hLb : L ≤ 1000000100 := by rw [hL, hlen]; have := HY.out; omega
  have HV := Lib.hid hv
  have HL := Lib.hid hL
  clear hv hb hlen hnb hL HO HBA hcv
  go_wp2_with fail
  have hrd : RB w1 (some ⟨g, 3, none⟩) (k :: putT xs) := (HV.out.1.reads (by rw [← HL.out]; omega)).drop 3
  refine (sum_n (some ⟨g, 3, none⟩) (cv - 3) (L - 3) (k :: putT xs) w1 (by rw [HL.out]; simp) hrd).mono ?_
  rintro e w2 ⟨rfl, hb2⟩
  obtain ⟨s, hs⟩ : ∃ s, s = (crcS (k :: putT xs)).toNat := ⟨_, rfl⟩
  have hs24 : s < 16777216 := by rw [hs]; exact crcS_lt _
  rw [← hs]
  have HS := Lib.hid hs
  have HV2 := Lib.hid (HV.out.below hb2)
  have HBL2 := Lib.hid (HBL.out.trans (Below.up hb2 hB2))
  have hB3 : B ≤ w2.heap.size := Nat.le_trans hB2 hb2.size
  have hc0 := HV2.out.1.cellAt 0 (by rw [← HL.out]; omega)
  have hc1 := HV2.out.1.cellAt 1 (by rw [← HL.out]; omega)
  have hc2 := HV2.out.1.cellAt 2 (by rw [← HL.out]; omega)
  have hf0 := HV2.out.1.frozenAt 0
  have hf1 := HV2.out.1.frozenAt 1
  have hf2 := HV2.out.1.frozenAt 2
  clear hs hrd hb2 HV HBL hB2
  go_wp2_with fail
  go_ret
  have e0 : (s : Int) / 65536 = ((UInt8.ofNat (s / 65536)).toNat : Int) := by simp; omega
  have e1 : (s : Int) / 256 % 256 = ((UInt8.ofNat (s / 256 % 256)).toNat : Int) := by simp
  have e2 : (s : Int) % 256 = ((UInt8.ofNat (s % 256)).toNat : Int) := by simp
  rw [e0, e1, e2]
  have hg : B ≤ g := HV2.out.2 g rfl
  have h3 := ((HV2.out.1.stored 0 (UInt8.ofNat (s / 65536))).stored 1 (UInt8.ofNat (s / 256 % 256))).stored 2 (UInt8.ofNat (s % 256))
  have hfr : frameB k xs = ((([0, 0, 0, k] ++ putT xs).set 0 (UInt8.ofNat (s / 65536))).set 1 (UInt8.ofNat (s / 256 % 256))).set 2 (UInt8.ofNat (s % 256)) := by
    unfold frameB sum3
    rw [← HS.out]
    rfl
  rw [hfr]
  exact ⟨_, rfl, ⟨h3, HV2.out.2⟩, ((HBL2.out.setCell hg _).setCell hg _).setCell hg _⟩

end Go.Proofs.YtdhafdejionefaaGreat

/- The walks of tally's Reader: stopped, left, fail, take, number. -/
namespace Go.Proofs.YtdhafdejionefaaGreat
set_option linter.unusedVariables false
set_option linter.unusedSimpArgs false
open Go.RowKit

/-- Block pb is a reader that has the bytes b left, and the error e. -/
structure RdAt (w : World) (pb : Nat) (b : List UInt8) (e : Int) (A : Option Addr) (c : Nat) : Prop where
  blk : Blk w pb #[.slice A b.length c, .int .i64 e, .bool true] 119
  rb : RB w A b
  cap : b.length ≤ c
  ne : ∀ a, A = some a → 0 < b.length → a.block ≠ pb
def RdR (w : World) (pb : Nat) (b : List UInt8) (e : Int) : Prop := ∃ A c, RdAt w pb b e A c
theorem RdAt.below {w w' : World} {pb : Nat} {b : List UInt8} {e : Int} {A : Option Addr} {c : Nat} (h : RdAt w pb b e A c) (hb : Below w.heap.size w w') : RdAt w' pb b e A c :=
  ⟨h.blk.below hb, h.rb.below hb, h.cap, h.ne⟩
theorem RdR.below {w w' : World} {pb : Nat} {b : List UInt8} {e : Int} (h : RdR w pb b e) (hb : Below w.heap.size w w') : RdR w' pb b e := by
  obtain ⟨A, c, h⟩ := h; exact ⟨A, c, h.below hb⟩
set_option maxRecDepth 100000 in
theorem read_tally (B : Nat) (A : Option Addr) (c : Nat) (xs : List UInt8) (w : World) (hB : B ≤ w.heap.size) (hr : RB w A xs) (hl : xs.length ≤ 140737488355328) :
    Calls Tryz.prog 80 #[.slice A xs.length c] w fun e w' => ∃ pb, e = .returned (.pointer (some ⟨pb, 0, none⟩)) ∧ B ≤ pb ∧ RdR w' pb xs 0 ∧ Below B w w' := by
  have HLO := Lib.hid (show OB (w.alloc (.cells #[] 5)) (.slice (some ⟨w.heap.size, 0, none⟩) 0 0) [] from OB.lit w [] _ rfl (by decide))
  have HR := Lib.hid (hr.below ((Below.refl w.heap.size w).alloc (Nat.le_refl _) (.cells #[] 5)))
  have HL := Lib.hid hl
  clear hr hl
  go_enter Tryz.func80, Tryz.ntmps80
  go_wp2_with (at_builtin; refine wpList_append_b rfl (.tmp 3) (.tmp 4) rfl (.slice (some ⟨w.heap.size, 0, none⟩) 0 0) [] rfl HLO.out A c xs rfl HR.out (by simp; exact HL.out) ?_; intro v w1 HO hg hat; have hcf := Lib.hid (clone_facts HO hg hat); obtain ⟨A1, c1, hv, hc1⟩ : ∃ A1 c1, v = .slice A1 xs.length c1 ∧ True := (by obtain ⟨A1, c1, h⟩ := hcf.out.1.form; exact ⟨A1, c1, h, trivial⟩); subst hv)
  clear HO hg hat hc1 HR HLO
  go_ret
  have hcf := hcf.out
  obtain ⟨A2, c2, hv, hr2, hc2, hn2⟩ := hcf.1.reads' HL.out
  cases hv
  have hbn : Below w.heap.size w1 (w1.alloc (.cells #[.slice A1 xs.length c1, .int .i64 0, .bool true] 119)) := (Below.refl _ _).alloc hcf.2.1.size _
  have hbn1 : Below w1.heap.size w1 (w1.alloc (.cells #[.slice A1 xs.length c1, .int .i64 0, .bool true] 119)) := (Below.refl _ _).alloc (Nat.le_refl _) _
  refine ⟨w1.heap.size, rfl, Nat.le_trans hB hcf.2.1.size, ⟨A1, c1, Blk.new w1 _ _, hr2.below hbn1, hc2, fun a e hx h => ?_⟩, Below.up (hcf.2.1.trans hbn) hB⟩
  have := hcf.1.lt _ (hn2 a e)
  omega

theorem stopped_any (pb : Nat) (b : List UInt8) (e : Int) (w : World) (h : RdR w pb b e) :
    Calls Tryz.prog 95 #[.pointer (some ⟨pb, 0, none⟩)] w fun r w' => r = .returned (.bool (e != 0)) ∧ w = w' := by
  obtain ⟨A, c, h⟩ := h
  have h1 : w.cell? ⟨pb, 1, none⟩ = some (.int .i64 e) := h.blk.cell 1
  have h2 : w.cell? ⟨pb, 2, none⟩ = some (.bool true) := h.blk.cell 2
  clear h
  go_enter Tryz.func95, Tryz.ntmps95
  go_wp2
  go_ret
  exact ⟨rfl, rfl⟩
theorem left_any (pb : Nat) (b : List UInt8) (e : Int) (w : World) (h : RdR w pb b e) :
    Calls Tryz.prog 97 #[.pointer (some ⟨pb, 0, none⟩)] w fun r w' => r = .returned (.int .i64 (b.length : Int)) ∧ w = w' := by
  obtain ⟨A, c, h⟩ := h
  have h0 : w.cell? ⟨pb, 0, none⟩ = some (.slice A b.length c) := h.blk.cell 0
  clear h
  go_enter Tryz.func97, Tryz.ntmps97
  go_wp2
  go_ret
  exact ⟨rfl, rfl⟩
/-- What a call on a reader comes to: its block alone is written. -/
def DoesRd (w : World) (pb : Nat) (b : List UInt8) (e : Int) (w' : World) : Prop := RdR w' pb b e ∧ Fr (fun k => k = pb) w w'
theorem rd_below {B : Nat} {w w' : World} {pb : Nat} (h : Fr (fun k => k = pb) w w') (hB : B ≤ pb) (hs : B ≤ w.heap.size) : Below B w w' :=
  ⟨h.os, h.tape, h.output, h.size, fun i hi => by
    rcases Nat.lt_or_ge i w.heap.size with hl | hl
    · exact h.block i hl (by omega)
    · omega⟩

end Go.Proofs.YtdhafdejionefaaGreat

/- The walks of tally's Reader: fail, take, number. -/
namespace Go.Proofs.YtdhafdejionefaaGreat
set_option linter.unusedVariables false
set_option linter.unusedSimpArgs false
open Go.RowKit

theorem RdAt.fr {w w' : World} {pb : Nat} {b : List UInt8} {e : Int} {A : Option Addr} {c : Nat} (h : RdAt w pb b e A c) (hf : Fr (fun k => k = pb) w w') : RB w' A b :=
  h.rb.fr2 hf fun a ha h0 => h.ne a ha h0
theorem fail_rd (pb : Nat) (b : List UInt8) (e e' : Int) (w : World) (h : RdR w pb b e) :
    Calls Tryz.prog 98 #[.pointer (some ⟨pb, 0, none⟩), .int .i64 e'] w fun r w' => r = .returned (.tuple #[]) ∧ DoesRd w pb [] e' w' := by
  obtain ⟨A, c, h⟩ := h
  have h0 : w.cell? ⟨pb, 0, none⟩ = some (.slice A b.length c) := h.blk.cell 0
  have h1 : w.cell? ⟨pb, 1, none⟩ = some (.int .i64 e) := h.blk.cell 1
  have f0 := h.blk.free 0
  have f1 := h.blk.free 1
  go_enter Tryz.func98, Tryz.ntmps98
  go_wp2
  go_end0
  refine ⟨rfl, ⟨none, 0, ?_, RB.nil _ _, Nat.le_refl _, fun a e => by cases e⟩, ?_⟩
  · exact (h.blk.set 1 (.int .i64 e')).set 0 (.slice none 0 0)
  · exact (Fr.setCell (fun k => k = pb) w ⟨pb, 1, none⟩ _ rfl).trans (Fr.setCell (fun k => k = pb) _ ⟨pb, 0, none⟩ _ rfl) (fun _ h => .inl h)
theorem take_rd (pb : Nat) (b : List UInt8) (e : Int) (n : Nat) (w : World) (h : RdR w pb b e) (hn : n ≤ b.length) (hl : b.length ≤ 140737488355328) :
    Calls Tryz.prog 99 #[.pointer (some ⟨pb, 0, none⟩), .int .i64 (n : Int)] w fun r w' => (∃ A c, r = .returned (.slice A n c) ∧ RB w' A (b.take n) ∧ n ≤ c ∧ ∀ a, A = some a → 0 < n → a.block ≠ pb) ∧ DoesRd w pb (b.drop n) e w' := by
  obtain ⟨A, c, H⟩ := h
  have h0 : w.cell? ⟨pb, 0, none⟩ = some (.slice A b.length c) := H.blk.cell 0
  have f0 := H.blk.free 0
  have hcap := H.cap
  obtain ⟨L, hL⟩ : ∃ L, L = b.length := ⟨_, rfl⟩
  rw [← hL] at h0 hn hl hcap
  go_enter Tryz.func99, Tryz.ntmps99
  go_wp2
  case inl =>
    subst h
    have hcn : c = L := by omega
    subst hcn
    go_ret
    have hf := Fr.setCell (fun k => k = pb) w ⟨pb, 0, none⟩ (.slice A (b.length - c) 0) rfl
    have hr := H.fr hf
    refine ⟨⟨A, c, rfl, hr.take c, Nat.le_refl _, fun a ha h0 => H.ne a ha (by omega)⟩, ⟨A, 0, ⟨?_, ?_, ?_, ?_⟩⟩, hf⟩
    · have := H.blk.set 0 (.slice A (b.length - c) 0)
      rw [List.length_drop]
      exact this
    · rw [List.drop_of_length_le (by omega)]; exact RB.nil _ _
    · rw [List.length_drop]; omega
    · intro a ha h0
      rw [List.length_drop] at h0; omega
  case inr =>
    have hc := h
    go_ret
    have hf := Fr.setCell (fun k => k = pb) w ⟨pb, 0, none⟩ (.slice (Option.map (fun x => x.add n) A) (b.length - n) (c - n)) rfl
    have hr := H.fr hf
    refine ⟨⟨A, c, rfl, hr.take n, by omega, fun a ha h0 => H.ne a ha (by omega)⟩, ⟨Option.map (fun x => x.add n) A, c - n, ⟨?_, ?_, ?_, ?_⟩⟩, hf⟩
    · have := H.blk.set 0 (.slice (Option.map (fun x => x.add n) A) (b.length - n) (c - n))
      rw [List.length_drop]
      exact this
    · have := hr.dropS n c (by omega)
      rw [if_neg hc] at this
      exact this
    · rw [List.length_drop]; omega
    · intro a ha h0
      rw [List.length_drop] at h0
      cases A with
      | none => cases ha
      | some a0 => cases ha; have h4 := H.ne a0 rfl (by omega); unfold Addr.add; split <;> exact h4

theorem or_i64_nat (a b : Nat) (ha : a < 2 ^ 63) (hb : b < 2 ^ 63) : bits .or .i64 (a : Int) (b : Int) = ((a ||| b : Nat) : Int) :=
  (bits_nat .i64 63 (by decide) (fun n h0 h1 => i64_keep n h0 h1) a b ha hb).2
theorem or_low (i N x : Nat) (hx : x < 2 ^ i) (h : 2 ^ i * N + x < 2 ^ 63) : bits .or .i64 ((2 ^ i * N : Nat) : Int) (x : Int) = ((2 ^ i * N + x : Nat) : Int) := by
  rw [or_i64_nat _ _ (by omega) (by omega), Nat.two_pow_add_eq_or_of_lt hx]
theorem val_take_succ (r : List UInt8) (i : Nat) (h : i < r.length) : val (r.take (i + 1)) = 256 * val (r.take i) + (r.getD i 0).toNat := by
  rw [List.take_add_one, List.getElem?_eq_getElem h, Option.toList_some, val_snoc]
  simp [List.getD_eq_getElem?_getD, h]
theorem val_mono (r : List UInt8) (i k : Nat) (h : i ≤ k) : val (r.take i) ≤ val (r.take k) := by
  induction k with
  | zero => have : i = 0 := by omega
            subst this; exact Nat.le_refl _
  | succ k ih =>
    rcases Nat.lt_or_ge i (k + 1) with h1 | h1
    · have := ih (by omega)
      rcases Nat.lt_or_ge k r.length with h2 | h2
      · rw [val_take_succ r k h2]; omega
      · rw [List.take_of_length_le (by omega : r.length ≤ k + 1)]
        rwa [List.take_of_length_le h2] at this
    · have : i = k + 1 := by omega
      subst this; exact Nat.le_refl _
theorem val_small (r : List UInt8) (k : Nat) (h8 : k ≤ 8) (hk : k ≤ r.length) (h : k = 8 → (r.getD 0 0).toNat ≤ 127) : val (r.take k) < 9223372036854775808 := by
  rcases Nat.lt_or_ge k 8 with h1 | h1
  · have h2 := val_lt (r.take k)
    have h3 : 256 ^ (r.take k).length ≤ 256 ^ 7 := Nat.pow_le_pow_right (by omega) (by rw [List.length_take]; omega)
    have e : (256 : Nat) ^ 7 = 72057594037927936 := by decide
    omega
  · have e8 : k = 8 := by omega
    subst e8
    match r, hk with
    | x :: xs, hk =>
      have h4 : x.toNat ≤ 127 := by simpa using h rfl
      rw [List.take_succ_cons, val_cons]
      have h6 := val_lt (xs.take 7)
      have h7 : (xs.take 7).length = 7 := by rw [List.length_take]; simp at hk; omega
      rw [h7] at h6 ⊢
      have e : (256 : Nat) ^ 7 = 72057594037927936 := by decide
      rw [e] at h6 ⊢
      omega
set_option maxRecDepth 100000 in
/-- Take number: what stands there. -/
theorem number_any (pb : Nat) (b : List UInt8) (e : Int) (w : World) (h : RdR w pb b e) (hl : b.length ≤ 140737488355328) :
    Calls Tryz.prog 96 #[.pointer (some ⟨pb, 0, none⟩)] w fun r w' => r = .returned (.tuple #[.int .i64 (numP b).1, .int .i64 (numP b).2.1, .int .i64 (numP b).2.2]) ∧ w = w' := by
  obtain ⟨A, c, H⟩ := h
  have h0 : w.cell? ⟨pb, 0, none⟩ = some (.slice A b.length c) := H.blk.cell 0
  have hcap := H.cap
  have hr := H.rb
  clear H
  match b with
  | [] =>
    go_enter Tryz.func96, Tryz.ntmps96
    go_wp2
    go_ret3
    exact ⟨rfl, rfl⟩
  | x :: r =>
    obtain ⟨b, off, hA, hbl, hc⟩ := hr.2 (by simp)
    subst hA
    have hx0 : w.cell? ⟨b, off, none⟩ = some (.int .u8 (x.toNat : Int)) := hc 0 (by simp)
    have hx := x.toNat_lt
    obtain ⟨k, hk⟩ : ∃ k, k = x.toNat := ⟨_, rfl⟩
    obtain ⟨n, hn⟩ : ∃ n, n = r.length := ⟨_, rfl⟩
    rw [List.length_cons, ← hn] at h0 hl hcap
    have HC : Hid (∀ j, j < n → w.cell? ⟨b, off + 1 + j, none⟩ = some (.int .u8 ((r.getD j 0).toNat : Int))) := Lib.hid (fun j hj => by
      have := hc (j + 1) (by rw [List.length_cons]; omega)
      rw [show off + 1 + j = off + (j + 1) by omega]
      exact this)
    simp only [numP]
    rw [← hk, ← hn]
    rw [← hk] at hx hx0
    have HK := Lib.hid hk
    have HN := Lib.hid hn
    clear hc hr hk hn
    by_cases h8 : 8 < k
    · rw [if_pos h8]
      go_enter Tryz.func96, Tryz.ntmps96
      go_wp2
      go_ret3
      exact ⟨rfl, rfl⟩
    rw [if_neg h8]
    by_cases h9 : n < k
    · rw [if_pos h9]
      go_enter Tryz.func96, Tryz.ntmps96
      go_wp2
      go_ret3
      exact ⟨rfl, rfl⟩
    rw [if_neg h9]
    by_cases h0k : k = 0
    · subst h0k
      rw [if_neg (by omega)]
      go_enter Tryz.func96, Tryz.ntmps96
      by_cases hc1 : c = 1
      · subst hc1
        go_wp2_with fail
        go_loopw [2, 63] (fun s i wr => s = .int .i64 0 ∧ i = .int .i64 0 ∧ Hid (w = wr)) (fun _ _ _ => 0)
        case atStart => exact ⟨rfl, rfl, Lib.hid rfl⟩
        case round =>
          obtain ⟨rfl, rfl, hw⟩ := hrel
          go_wp2_with fail
          go_ret3
          exact ⟨rfl, hw.out⟩
      · go_wp2_with fail
        go_loopw [2, 63] (fun s i wr => s = .int .i64 0 ∧ i = .int .i64 0 ∧ Hid (w = wr)) (fun _ _ _ => 0)
        case atStart => exact ⟨rfl, rfl, Lib.hid rfl⟩
        case round =>
          obtain ⟨rfl, rfl, hw⟩ := hrel
          go_wp2_with fail
          go_ret3
          exact ⟨rfl, hw.out⟩
    obtain ⟨y, hy⟩ : ∃ y, y = r.getD 0 0 := ⟨_, rfl⟩
    have hy1 : w.cell? ⟨b, off + 1, none⟩ = some (.int .u8 (y.toNat : Int)) := by
      rw [hy]; exact HC.out 0 (by omega)
    have hyb := y.toNat_lt
    rw [← hy]
    have HY := Lib.hid hy
    clear hy
    obtain ⟨z, hz⟩ : ∃ z, z = y.toNat := ⟨_, rfl⟩
    have hy0 : y = 0 ↔ z = 0 := by rw [hz]; exact ⟨fun h => by rw [h]; rfl, fun h => UInt8.toNat_inj.1 (by rw [h]; rfl)⟩
    rw [← hz] at hy1 hyb ⊢
    simp only [hy0]
    have HZ := Lib.hid hz
    clear hz hy0
    by_cases h10 : z = 0
    · rw [if_pos (.inl ⟨by omega, h10⟩)]
      subst h10
      go_enter Tryz.func96, Tryz.ntmps96
      go_wp2_with fail
      go_ret3
      exact ⟨rfl, rfl⟩
    by_cases h11 : k = 8 ∧ 127 < z
    · rw [if_pos (.inr h11)]
      obtain ⟨rfl, h11⟩ := h11
      go_enter Tryz.func96, Tryz.ntmps96
      go_wp2_with fail
      go_ret3
      exact ⟨rfl, rfl⟩
    rw [if_neg (fun h => by rcases h with h | h; exact h10 h.2; exact h11 h)]
    have hsm : ∀ i, i ≤ k → val (r.take i) < 9223372036854775808 := fun i hi => Nat.lt_of_le_of_lt (val_mono r i k hi) (val_small r k (by omega) (by rw [← HN.out]; omega) (fun h => by rw [← HY.out, ← HZ.out]; omega))
    have HS := Lib.hid hsm
    clear hsm
    go_enter Tryz.func96, Tryz.ntmps96
    by_cases h88 : k = 8
    · subst h88
      go_wp2_with fail
      go_loopw [2, 63] (fun s i wr => ∃ j : Nat, j ≤ 8 ∧ i = .int .i64 (j : Int) ∧ s = .int .i64 ((val (r.take j) : Nat) : Int) ∧ Hid (w = wr)) (fun _ i _ => 8 - (intOf i).toNat)
      case atStart => exact ⟨0, Nat.zero_le _, rfl, rfl, Lib.hid rfl⟩
      case round =>
        obtain ⟨j, hj, rfl, rfl, hw⟩ := hrel
        by_cases hlt : j < 8
        · have hcx : wr.cell? ⟨b, off + 1 + j, none⟩ = some (.int .u8 ((r.getD j 0).toNat : Int)) := by
            rw [← hw.out]; exact HC.out j (by omega)
          have hs := HS.out (j + 1) hlt
          rw [val_take_succ r j (by rw [← HN.out]; omega)] at hs
          have hqb := (r.getD j 0).toNat_lt
          have hvs := val_take_succ r j (by rw [← HN.out]; omega)
          obtain ⟨N, hN⟩ : ∃ N, N = val (r.take j) := ⟨_, rfl⟩
          obtain ⟨q, hq⟩ : ∃ q, q = (r.getD j 0).toNat := ⟨_, rfl⟩
          rw [← hN, ← hq] at hs hvs
          rw [← hq] at hcx hqb
          rw [← hN]
          have HV := Lib.hid hvs
          clear hvs hN hq
          have hor := or_low 8 N q (by omega) (by omega)
          go_wp2_with fail
          go_roundw
          case rel =>
            refine ⟨j + 1, hlt, by go_num, ?_, hw⟩
            rw [HV.out]
            rw [show (N : Int) * 256 = ((2 ^ 8 * N : Nat) : Int) by omega, hor, show 2 ^ 8 * N + q = 256 * N + q by omega]
          case measure => simp [intOf]; omega
        · obtain rfl : j = 8 := by omega
          go_wp2_with fail
          go_ret3
          exact ⟨rfl, hw.out⟩
    · go_wp2_with fail
      go_loopw [2, 63] (fun s i wr => ∃ j : Nat, j ≤ k ∧ i = .int .i64 (j : Int) ∧ s = .int .i64 ((val (r.take j) : Nat) : Int) ∧ Hid (w = wr)) (fun _ i _ => k - (intOf i).toNat)
      case atStart => exact ⟨0, Nat.zero_le _, rfl, rfl, Lib.hid rfl⟩
      case round =>
        obtain ⟨j, hj, rfl, rfl, hw⟩ := hrel
        by_cases hlt : j < k
        · have hcx : wr.cell? ⟨b, off + 1 + j, none⟩ = some (.int .u8 ((r.getD j 0).toNat : Int)) := by
            rw [← hw.out]; exact HC.out j (by omega)
          have hs := HS.out (j + 1) hlt
          rw [val_take_succ r j (by rw [← HN.out]; omega)] at hs
          have hqb := (r.getD j 0).toNat_lt
          have hvs := val_take_succ r j (by rw [← HN.out]; omega)
          obtain ⟨N, hN⟩ : ∃ N, N = val (r.take j) := ⟨_, rfl⟩
          obtain ⟨q, hq⟩ : ∃ q, q = (r.getD j 0).toNat := ⟨_, rfl⟩
          rw [← hN, ← hq] at hs hvs
          rw [← hq] at hcx hqb
          rw [← hN]
          have HV := Lib.hid hvs
          clear hvs hN hq
          have hor := or_low 8 N q (by omega) (by omega)
          go_wp2_with fail
          go_roundw
          case rel =>
            refine ⟨j + 1, hlt, by go_num, ?_, hw⟩
            rw [HV.out]
            rw [show (N : Int) * 256 = ((2 ^ 8 * N : Nat) : Int) by omega, hor, show 2 ^ 8 * N + q = 256 * N + q by omega]
          case measure => simp [intOf]; omega
        · have : j = k := by omega
          subst this
          go_wp2_with fail
          go_ret3
          exact ⟨rfl, hw.out⟩

end Go.Proofs.YtdhafdejionefaaGreat
