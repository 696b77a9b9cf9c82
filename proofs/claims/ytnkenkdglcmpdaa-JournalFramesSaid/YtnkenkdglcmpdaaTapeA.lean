/- The tape's words, and the walks of its functions that change nothing. -/
import Derived.Test.YtnkenkdglcmpdaaHeap
namespace Go.Proofs.Ytnkenkdglcmpdaa
set_option linter.unusedVariables false
set_option linter.unusedSimpArgs false
open Go.RowKit

/-- What a tape has. -/
structure TS where
  room : Int
  b0 : List UInt8
  b1 : List UInt8
  s0 : Nat
  s1 : Nat
  off : Bool
  plan : Option (Int × Int)
  ops : Int
  fails : Int
def TS.used (T : TS) : Nat := T.b0.length + T.b1.length
/-- The bounds of a tape. -/
structure TS.ok (T : TS) : Prop where
  s0 : T.s0 ≤ T.b0.length
  s1 : T.s1 ≤ T.b1.length
  fit : (T.used : Int) ≤ T.room
  room : T.room ≤ 1073741824
  left : ∀ l k, T.plan = some (l, k) → 0 ≤ l ∧ l ≤ 9223372036854775807
def tcells (T : TS) (v0 v1 : Value) (pv : Option Addr) : Array Value :=
  #[.bool true, .int .i64 T.room, v0, .int .i64 (T.s0 : Int), v1, .int .i64 (T.s1 : Int), .bool T.off, .pointer pv, .int .i64 T.ops, .int .i64 T.fails]
def PlanR (w : World) (F : Nat → Prop) : Option Addr → Option (Int × Int) → Prop
  | pv, none => pv = none
  | pv, some (l, k) => ∃ pb, pv = some ⟨pb, 0, none⟩ ∧ Blk w pb #[.int .i64 l, .int .i64 k] 100 ∧ F pb
/-- Block tb is a tape that has T; F holds all of its blocks. -/
structure TapeAt (w : World) (tb : Nat) (T : TS) (F : Nat → Prop) (v0 v1 : Value) (pv : Option Addr) : Prop where
  blk : Blk w tb (tcells T v0 v1 pv) 61
  o0 : OB w v0 T.b0
  o1 : OB w v1 T.b1
  pl : PlanR w F pv T.plan
  apart : ∀ k, v0.ownBlock = some k → v1.ownBlock ≠ some k
  ft : F tb
  f0 : ∀ k, v0.ownBlock = some k → F k
  f1 : ∀ k, v1.ownBlock = some k → F k
  flt : ∀ k, F k → k < w.heap.size
  wf : T.ok
def TapeR (w : World) (tb : Nat) (T : TS) (F : Nat → Prop) : Prop := ∃ v0 v1 pv, TapeAt w tb T F v0 v1 pv

theorem PlanR.of {w w' : World} {F F' : Nat → Prop} {pv : Option Addr} {pl : Option (Int × Int)} (h : PlanR w F pv pl) (hb : ∀ pb cs, pv = some ⟨pb, 0, none⟩ → F pb → Blk w pb cs 100 → Blk w' pb cs 100) (hF : ∀ k, F k → F' k) : PlanR w' F' pv pl := by
  match pl, h with
  | none, h => exact h
  | some (l, k), ⟨pb, e, hk, hf⟩ => exact ⟨pb, e, hb pb _ e hf hk, hF _ hf⟩
/-- A tape lives on where none of its blocks is touched. -/
theorem TapeAt.fr {w w' : World} {tb : Nat} {T : TS} {F G : Nat → Prop} {v0 v1 : Value} {pv : Option Addr} (h : TapeAt w tb T F v0 v1 pv) (hf : Fr G w w') (hG : ∀ k, F k → ¬ G k) : TapeAt w' tb T F v0 v1 pv :=
  ⟨h.blk.fr hf (hG _ h.ft), h.o0.fr hf (fun k hk => hG k (h.f0 k hk)), h.o1.fr hf (fun k hk => hG k (h.f1 k hk)), h.pl.of (fun pb cs _ hF hb => hb.fr hf (hG _ hF)) (fun _ h => h), h.apart, h.ft, h.f0, h.f1, fun k hk => Nat.lt_of_lt_of_le (h.flt k hk) hf.size, h.wf⟩
theorem TapeR.fr {w w' : World} {tb : Nat} {T : TS} {F G : Nat → Prop} (h : TapeR w tb T F) (hf : Fr G w w') (hG : ∀ k, F k → ¬ G k) : TapeR w' tb T F := by
  obtain ⟨v0, v1, pv, h⟩ := h; exact ⟨v0, v1, pv, h.fr hf hG⟩
theorem TapeR.below {w w' : World} {tb : Nat} {T : TS} {F : Nat → Prop} (h : TapeR w tb T F) (hf : Below w.heap.size w w') : TapeR w' tb T F := h.fr (Fr.of_below (F := fun _ => False) hf) (fun _ _ h => h)

/-! ### none, is, fault, size -/
theorem none_ok (tb : Nat) (w : World) (h0 : w.cell? ⟨tb, 0, none⟩ = some (.bool true)) :
    Calls Try.prog 61 #[.pointer (some ⟨tb, 0, none⟩)] w fun e w' => e = .returned (.bool false) ∧ w = w' := by
  go_enter Try.func61, Try.ntmps61
  go_wp2
  go_ret
  exact ⟨rfl, rfl⟩
theorem none_nil (w : World) :
    Calls Try.prog 61 #[.pointer none] w fun e w' => e = .returned (.bool true) ∧ w = w' := by
  go_enter Try.func61, Try.ntmps61
  go_wp2
  go_ret
  exact ⟨rfl, rfl⟩
theorem none_plain (tb : Nat) (w : World) (h0 : w.cell? ⟨tb, 0, none⟩ = some (.bool false)) :
    Calls Try.prog 61 #[.pointer (some ⟨tb, 0, none⟩)] w fun e w' => e = .returned (.bool true) ∧ w = w' := by
  go_enter Try.func61, Try.ntmps61
  go_wp2
  go_ret
  exact ⟨rfl, rfl⟩
/-- A pointer to no tape: nil, or one that no call made. -/
def NoTape (w : World) (p : Option Addr) : Prop := p = none ∨ ∃ tb, p = some ⟨tb, 0, none⟩ ∧ w.cell? ⟨tb, 0, none⟩ = some (.bool false)
theorem none_no (p : Option Addr) (w : World) (h : NoTape w p) :
    Calls Try.prog 61 #[.pointer p] w fun e w' => e = .returned (.bool true) ∧ w = w' := by
  rcases h with rfl | ⟨tb, rfl, h⟩
  · exact none_nil w
  · exact none_plain tb w h
def isArea (n : Int) : Bool := decide (0 ≤ n ∧ n < 2)
theorem is_yes (n : Int) (w : World) (h : n = 0 ∨ n = 1) : Calls Try.prog 62 #[.int .i64 n] w fun e w' => e = .returned (.bool true) ∧ w = w' := by
  rcases h with rfl | rfl
  all_goals
    go_enter Try.func62, Try.ntmps62
    go_wp2
    go_ret
    exact ⟨rfl, rfl⟩
theorem is_no (n : Int) (w : World) (h : ¬ (n = 0 ∨ n = 1)) : Calls Try.prog 62 #[.int .i64 n] w fun e w' => e = .returned (.bool false) ∧ w = w' := by
  by_cases h0 : 0 ≤ n
  · have h1 : ¬ n < 2 := by omega
    clear h
    go_enter Try.func62, Try.ntmps62
    go_wp2
    go_ret
    exact ⟨rfl, rfl⟩
  · clear h
    go_enter Try.func62, Try.ntmps62
    go_wp2
    go_ret
    exact ⟨rfl, rfl⟩
def faultN (off : Bool) (n : Int) : Int := if n = 0 ∨ n = 1 then (if off then 150 else 0) else 2
theorem fault_any (tb : Nat) (n : Int) (off : Bool) (w : World) (h0 : w.cell? ⟨tb, 0, none⟩ = some (.bool true)) (h6 : w.cell? ⟨tb, 6, none⟩ = some (.bool off)) :
    Calls Try.prog 60 #[.pointer (some ⟨tb, 0, none⟩), .int .i64 n] w fun e w' => e = .returned (.int .i64 (faultN off n)) ∧ w = w' := by
  by_cases hn : n = 0 ∨ n = 1
  · cases off with
    | false =>
      have hv : faultN false n = 0 := by simp [faultN, hn]
      have HV := Lib.hid hv
      have HN := Lib.hid hn
      clear hv hn
      go_enter Try.func60, Try.ntmps60
      go_wp2_with fail
      refine (none_ok tb w h0).mono ?_
      rintro e w' ⟨rfl, rfl⟩
      go_wp2_with fail
      refine (is_yes n w HN.out).mono ?_
      rintro e w' ⟨rfl, rfl⟩
      go_wp2
      go_ret
      exact ⟨ret_int HV.out.symm, rfl⟩
    | true =>
      have hv : faultN true n = 150 := by simp [faultN, hn]
      have HV := Lib.hid hv
      have HN := Lib.hid hn
      clear hv hn
      go_enter Try.func60, Try.ntmps60
      go_wp2_with fail
      refine (none_ok tb w h0).mono ?_
      rintro e w' ⟨rfl, rfl⟩
      go_wp2_with fail
      refine (is_yes n w HN.out).mono ?_
      rintro e w' ⟨rfl, rfl⟩
      go_wp2
      go_ret
      exact ⟨ret_int HV.out.symm, rfl⟩
  · have hv : faultN off n = _ := if_neg hn
    have HV := Lib.hid hv
    have HN := Lib.hid hn
    clear hv hn
    go_enter Try.func60, Try.ntmps60
    go_wp2_with fail
    refine (none_ok tb w h0).mono ?_
    rintro e w' ⟨rfl, rfl⟩
    go_wp2_with fail
    refine (is_no n w HN.out).mono ?_
    rintro e w' ⟨rfl, rfl⟩
    go_wp2
    go_ret
    exact ⟨ret_int HV.out.symm, rfl⟩
theorem fault_no (p : Option Addr) (n : Int) (w : World) (h : NoTape w p) :
    Calls Try.prog 60 #[.pointer p, .int .i64 n] w fun e w' => e = .returned (.int .i64 1) ∧ w = w' := by
  go_enter Try.func60, Try.ntmps60
  go_wp2_with fail
  refine (none_no p w h).mono ?_
  rintro e w' ⟨rfl, rfl⟩
  go_wp2
  go_ret
  exact ⟨rfl, rfl⟩
theorem size_any (b o : Nat) (A : Option Addr) (n c : Nat) (w : World) (h : w.cell? ⟨b, o, none⟩ = some (.slice A n c)) :
    Calls Try.prog 65 #[.pointer (some ⟨b, o, none⟩)] w fun e w' => e = .returned (.int .i64 (n : Int)) ∧ w = w' := by
  go_enter Try.func65, Try.ntmps65
  go_wp2
  go_ret
  exact ⟨rfl, rfl⟩

end Go.Proofs.Ytnkenkdglcmpdaa
