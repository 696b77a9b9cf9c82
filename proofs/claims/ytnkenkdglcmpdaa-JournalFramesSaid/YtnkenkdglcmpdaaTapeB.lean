/- The walks of the tape's functions that read: Used, Sure, Counts, On, Read. -/
import Derived.Test.YtnkenkdglcmpdaaTapeA
namespace Go.Proofs.Ytnkenkdglcmpdaa
set_option linter.unusedVariables false
set_option linter.unusedSimpArgs false
open Go.RowKit

section
variable {w : World} {tb : Nat} {T : TS} {F : Nat → Prop} {v0 v1 : Value} {pv : Option Addr}
theorem TapeAt.c0 (h : TapeAt w tb T F v0 v1 pv) : w.cell? ⟨tb, 0, none⟩ = some (.bool true) := h.blk.cell 0
theorem TapeAt.c1 (h : TapeAt w tb T F v0 v1 pv) : w.cell? ⟨tb, 1, none⟩ = some (.int .i64 T.room) := h.blk.cell 1
theorem TapeAt.c2 (h : TapeAt w tb T F v0 v1 pv) : w.cell? ⟨tb, 2, none⟩ = some v0 := h.blk.cell 2
theorem TapeAt.c3 (h : TapeAt w tb T F v0 v1 pv) : w.cell? ⟨tb, 3, none⟩ = some (.int .i64 (T.s0 : Int)) := h.blk.cell 3
theorem TapeAt.c4 (h : TapeAt w tb T F v0 v1 pv) : w.cell? ⟨tb, 4, none⟩ = some v1 := h.blk.cell 4
theorem TapeAt.c5 (h : TapeAt w tb T F v0 v1 pv) : w.cell? ⟨tb, 5, none⟩ = some (.int .i64 (T.s1 : Int)) := h.blk.cell 5
theorem TapeAt.c6 (h : TapeAt w tb T F v0 v1 pv) : w.cell? ⟨tb, 6, none⟩ = some (.bool T.off) := h.blk.cell 6
theorem TapeAt.c7 (h : TapeAt w tb T F v0 v1 pv) : w.cell? ⟨tb, 7, none⟩ = some (.pointer pv) := h.blk.cell 7
theorem TapeAt.c8 (h : TapeAt w tb T F v0 v1 pv) : w.cell? ⟨tb, 8, none⟩ = some (.int .i64 T.ops) := h.blk.cell 8
theorem TapeAt.c9 (h : TapeAt w tb T F v0 v1 pv) : w.cell? ⟨tb, 9, none⟩ = some (.int .i64 T.fails) := h.blk.cell 9
theorem TapeAt.free (h : TapeAt w tb T F v0 v1 pv) (i : Nat) : w.frozen? ⟨tb, i, none⟩ = false := h.blk.free i
theorem TapeAt.len0 (h : TapeAt w tb T F v0 v1 pv) : T.b0.length ≤ 1073741824 := by
  have h1 := h.wf.fit; have h2 := h.wf.room; unfold TS.used at h1; omega
theorem TapeAt.len1 (h : TapeAt w tb T F v0 v1 pv) : T.b1.length ≤ 1073741824 := by
  have h1 := h.wf.fit; have h2 := h.wf.room; unfold TS.used at h1; omega
end

set_option maxHeartbeats 1000000 in
theorem used_cells (tb : Nat) (A0 A1 : Option Addr) (n0 n1 c0 c1 : Nat) (w : World) (h0 : w.cell? ⟨tb, 0, none⟩ = some (.bool true)) (h2 : w.cell? ⟨tb, 2, none⟩ = some (.slice A0 n0 c0)) (h4 : w.cell? ⟨tb, 4, none⟩ = some (.slice A1 n1 c1))
    (hn0 : n0 ≤ 1073741824) (hn1 : n1 ≤ 1073741824) :
    Calls Try.prog 28 #[.pointer (some ⟨tb, 0, none⟩)] w fun e w' => e = .returned (.int .i64 ((n0 + n1 : Nat) : Int)) ∧ w = w' := by
  go_enter Try.func28, Try.ntmps28
  go_wp2_with fail
  refine (none_ok tb w h0).mono ?_
  rintro e w' ⟨rfl, rfl⟩
  go_wp2_with fail
  refine wp_loop_rounds 3 ?_
  rw [rounds_succ]
  go_wp2_with fail
  refine (size_any tb 2 A0 n0 c0 w h2).mono ?_
  rintro e w' ⟨rfl, rfl⟩
  go_wp2_with fail
  rw [rounds_succ]
  go_wp2_with fail
  refine (size_any tb 4 A1 n1 c1 w h4).mono ?_
  rintro e w' ⟨rfl, rfl⟩
  go_wp2_with fail
  rw [rounds_succ]
  go_wp2_with fail
  go_ret
  exact ⟨ret_int (by omega), rfl⟩
theorem used_any (tb : Nat) (T : TS) (F : Nat → Prop) (w : World) (h : TapeR w tb T F) :
    Calls Try.prog 28 #[.pointer (some ⟨tb, 0, none⟩)] w fun e w' => e = .returned (.int .i64 (T.used : Int)) ∧ w = w' := by
  obtain ⟨v0, v1, pv, h⟩ := h
  obtain ⟨A0, c0, rfl⟩ := h.o0.form
  obtain ⟨A1, c1, rfl⟩ := h.o1.form
  exact used_cells tb A0 A1 _ _ c0 c1 w h.c0 h.c2 h.c4 h.len0 h.len1
theorem used_no (p : Option Addr) (w : World) (h : NoTape w p) :
    Calls Try.prog 28 #[.pointer p] w fun e w' => e = .returned (.int .i64 0) ∧ w = w' := by
  go_enter Try.func28, Try.ntmps28
  go_wp2_with fail
  refine (none_no p w h).mono ?_
  rintro e w' ⟨rfl, rfl⟩
  go_wp2
  go_ret
  exact ⟨rfl, rfl⟩

def TS.sure (T : TS) (n : Int) : Int := if n = 0 then (T.s0 : Int) else if n = 1 then (T.s1 : Int) else 0
theorem sure_any (tb : Nat) (n : Int) (T : TS) (F : Nat → Prop) (w : World) (h : TapeR w tb T F) :
    Calls Try.prog 26 #[.pointer (some ⟨tb, 0, none⟩), .int .i64 n] w fun e w' => e = .returned (.int .i64 (T.sure n)) ∧ w = w' := by
  obtain ⟨v0, v1, pv, h⟩ := h
  have h0 := h.c0
  by_cases hn : n = 0 ∨ n = 1
  · rcases hn with rfl | rfl
    · have hc := h.c3
      go_enter Try.func26, Try.ntmps26
      go_wp2_with fail
      refine (none_ok tb w h0).mono ?_
      rintro e w' ⟨rfl, rfl⟩
      go_wp2_with fail
      refine (is_yes 0 w (.inl rfl)).mono ?_
      rintro e w' ⟨rfl, rfl⟩
      go_wp2
      go_ret
      exact ⟨rfl, rfl⟩
    · have hc := h.c5
      go_enter Try.func26, Try.ntmps26
      go_wp2_with fail
      refine (none_ok tb w h0).mono ?_
      rintro e w' ⟨rfl, rfl⟩
      go_wp2_with fail
      refine (is_yes 1 w (.inr rfl)).mono ?_
      rintro e w' ⟨rfl, rfl⟩
      go_wp2
      go_ret
      exact ⟨rfl, rfl⟩
  · have HV := Lib.hid (show T.sure n = 0 by unfold TS.sure; rw [if_neg (by omega), if_neg (by omega)])
    have HN := Lib.hid hn
    clear hn
    go_enter Try.func26, Try.ntmps26
    go_wp2_with fail
    refine (none_ok tb w h0).mono ?_
    rintro e w' ⟨rfl, rfl⟩
    go_wp2_with fail
    refine (is_no n w HN.out).mono ?_
    rintro e w' ⟨rfl, rfl⟩
    go_wp2
    go_ret
    exact ⟨ret_int HV.out.symm, rfl⟩
theorem sure_no (p : Option Addr) (n : Int) (w : World) (h : NoTape w p) :
    Calls Try.prog 26 #[.pointer p, .int .i64 n] w fun e w' => e = .returned (.int .i64 0) ∧ w = w' := by
  go_enter Try.func26, Try.ntmps26
  go_wp2_with fail
  refine (none_no p w h).mono ?_
  rintro e w' ⟨rfl, rfl⟩
  go_wp2
  go_ret
  exact ⟨rfl, rfl⟩

theorem counts_any (tb : Nat) (T : TS) (F : Nat → Prop) (w : World) (h : TapeR w tb T F) :
    Calls Try.prog 37 #[.pointer (some ⟨tb, 0, none⟩)] w fun e w' => e = .returned (.tuple #[.int .i64 T.ops, .int .i64 T.fails]) ∧ ∃ n, w' = w.drewN n := by
  obtain ⟨v0, v1, pv, h⟩ := h
  have h0 := h.c0
  have h8 := h.c8
  have h9 := h.c9
  go_enter Try.func37, Try.ntmps37
  go_wp2_with fail
  refine (none_ok tb w h0).mono ?_
  rintro e w' ⟨rfl, rfl⟩
  go_wp2_with fail
  go_quiet (fail)
  go_wp2
  go_ret2
  exact ⟨rfl, _, rfl⟩
theorem counts_no (p : Option Addr) (w : World) (h : NoTape w p) :
    Calls Try.prog 37 #[.pointer p] w fun e w' => e = .returned (.tuple #[.int .i64 0, .int .i64 0]) ∧ w = w' := by
  go_enter Try.func37, Try.ntmps37
  go_wp2_with fail
  refine (none_no p w h).mono ?_
  rintro e w' ⟨rfl, rfl⟩
  go_wp2
  go_ret2
  exact ⟨rfl, rfl⟩
theorem on_any (tb : Nat) (T : TS) (F : Nat → Prop) (w : World) (h : TapeR w tb T F) :
    Calls Try.prog 39 #[.pointer (some ⟨tb, 0, none⟩)] w fun e w' => e = .returned (.bool (!T.off)) ∧ w = w' := by
  obtain ⟨v0, v1, pv, h⟩ := h
  have h0 := h.c0
  have h6 := h.c6
  go_enter Try.func39, Try.ntmps39
  go_wp2_with fail
  refine (none_ok tb w h0).mono ?_
  rintro e w' ⟨rfl, rfl⟩
  go_wp2
  go_ret
  exact ⟨rfl, rfl⟩
theorem on_no (p : Option Addr) (w : World) (h : NoTape w p) :
    Calls Try.prog 39 #[.pointer p] w fun e w' => e = .returned (.bool false) ∧ w = w' := by
  go_enter Try.func39, Try.ntmps39
  go_wp2_with fail
  refine (none_no p w h).mono ?_
  rintro e w' ⟨rfl, rfl⟩
  go_wp2
  go_ret
  exact ⟨rfl, rfl⟩

end Go.Proofs.Ytnkenkdglcmpdaa
