/- A tape that the call itself has made; the walk of the tape's example. -/
import Derived.Test.YtnkenkdglcmpdaaTapeJ
import Derived.Lib.SlBytesConst
namespace Go.Proofs.Ytnkenkdglcmpdaa
set_option linter.unusedVariables false
set_option linter.unusedSimpArgs false
open Go.RowKit

/-- A tape whose blocks are all at B or behind it. -/
def NewT (B : Nat) (w : World) (tb : Nat) (T : TS) : Prop := B ≤ w.heap.size ∧ ∃ F, TapeR w tb T F ∧ ∀ k, F k → B ≤ k
theorem NewT.below {B : Nat} {w w' : World} {tb : Nat} {T : TS} (h : NewT B w tb T) (hb : Below w.heap.size w w') : NewT B w' tb T := by
  obtain ⟨h0, F, h1, h2⟩ := h
  exact ⟨Nat.le_trans h0 hb.size, F, h1.below hb, h2⟩
theorem NewT.drew {B : Nat} {w : World} {tb : Nat} {T : TS} (h : NewT B w tb T) : NewT B w.drew tb T := h.below (Below.refl _ _).drew
theorem NewT.drewN {B : Nat} {w : World} {tb : Nat} {T : TS} (h : NewT B w tb T) (n : Nat) : NewT B (w.drewN n) tb T := h.below (⟨rfl, rfl, rfl, Nat.le_refl _, fun _ _ => rfl⟩)
theorem NewT.alloc {B : Nat} {w : World} {tb : Nat} {T : TS} (h : NewT B w tb T) (o : Obj) : NewT B (w.alloc o) tb T := h.below ((Below.refl _ _).alloc (Nat.le_refl _) o)
theorem NewT.ok {B : Nat} {w : World} {tb : Nat} {T : TS} (h : NewT B w tb T) : T.ok := by
  obtain ⟨_, F, ⟨_, _, _, h1⟩, _⟩ := h
  exact h1.wf
/-- What a call on such a tape comes to. -/
def DoesN (B : Nat) (w : World) (tb : Nat) (r : Int × TS) (e : Ending) (w' : World) : Prop := e = .returned (.int .i64 r.1) ∧ NewT B w' tb r.2 ∧ Below B w w'
theorem upd_below {B : Nat} {w w' : World} {F F' : Nat → Prop} (h : Upd w w' F F') (hB : B ≤ w.heap.size) (hF : ∀ k, F k → B ≤ k) : Below B w w' ∧ ∀ k, F' k → B ≤ k :=
  ⟨⟨h.fr.os, h.fr.tape, h.fr.output, h.fr.size, fun i hi => h.fr.block i (Nat.lt_of_lt_of_le hi hB) (fun f => by have := hF i f; omega)⟩,
   fun k hk => (h.new k hk).elim (hF k) (fun h => Nat.le_trans hB h)⟩
theorem does_new {B : Nat} {w : World} {tb : Nat} {F : Nat → Prop} {r : Int × TS} {e : Ending} {w' : World} (h : Does w tb F r e w') (hB : B ≤ w.heap.size) (hF : ∀ k, F k → B ≤ k) : DoesN B w tb r e w' := by
  obtain ⟨he, F', ht, hu⟩ := h
  have := upd_below hu hB hF
  exact ⟨he, ⟨Nat.le_trans hB hu.fr.size, F', ht, this.2⟩, this.1⟩
def TS.fail (T : TS) (keep : Int) : Int × TS := if T.off then (150, T) else (0, T.gone keep)
def TS.arm (T : TS) (n keep : Int) : Int × TS := if n < 0 then (2, T) else if T.off then (150, T) else (0, { T with plan := some (n, keep) })
def TS.read (T : TS) (n : Int) : List UInt8 := if faultN T.off n = 0 then T.b n else []

theorem append_old (B : Nat) (tb : Nat) (n : Int) (A : Option Addr) (c : Nat) (xs : List UInt8) (T : TS) (w : World) (r : Int × TS) (hr : T.append n xs = r) (h : NewT B w tb T) (hx : RB w A xs) (hA : ∀ a, A = some a → 0 < xs.length → a.block < B) :
    Calls Try.prog 27 #[.pointer (some ⟨tb, 0, none⟩), .int .i64 n, .slice A xs.length c] w (DoesN B w tb r) := by
  obtain ⟨h0, F, h1, h2⟩ := h
  subst hr
  exact (append_any tb n A c xs T F w h1 hx (fun a e hx f => by have := h2 _ f; have := hA a e hx; omega)).mono fun _ _ h => does_new h h0 h2
theorem append_lit (B : Nat) (tb : Nat) (n : Int) (m : Nat) (cs : Array Value) (fr : Nat × Nat) (xs : List UInt8) (T : TS) (w : World) (r : Int × TS) (hr : T.append n xs = r) (h : NewT B w tb T) (hcs : cs = (bv xs).toArray) (hl : xs.length ≤ 140737488355328) (hm : m = xs.length) :
    Calls Try.prog 27 #[.pointer (some ⟨tb, 0, none⟩), .int .i64 n, .slice (some ⟨w.heap.size, 0, none⟩) m m] (w.alloc (.cells cs 5 fr)) fun e w' => DoesN B w tb r e w' := by
  obtain ⟨h0, F, h1, h2⟩ := h
  subst hr
  subst hm
  have hb : Below w.heap.size w (w.alloc (.cells cs 5 fr)) := (Below.refl _ _).alloc (Nat.le_refl _) _
  have hlt : ∀ k, F k → k < w.heap.size := by obtain ⟨_, _, _, h⟩ := h1; exact h.flt
  refine (append_any tb n _ _ xs T F _ (h1.below hb) (RB.fresh w xs [] _ fr hl (by simpa using hcs)) (fun a e _ f => by cases e; exact absurd (hlt _ f) (by simp))).mono fun _ _ h => ?_
  obtain ⟨he, F', ht, hu⟩ := h
  have := upd_below hu (Nat.le_trans h0 hb.size) h2
  exact ⟨he, ⟨Nat.le_trans h0 (Nat.le_trans hb.size hu.fr.size), F', ht, this.2⟩, (Below.mono hb h0).trans this.1⟩
theorem sync_new (B : Nat) (tb : Nat) (n : Int) (T : TS) (w : World) (r : Int × TS) (hr : T.sync n = r) (h : NewT B w tb T) :
    Calls Try.prog 30 #[.pointer (some ⟨tb, 0, none⟩), .int .i64 n] w (DoesN B w tb r) := by
  obtain ⟨h0, F, h1, h2⟩ := h
  subst hr
  exact (sync_any tb n T F w h1).mono fun _ _ h => does_new h h0 h2
theorem clear_new (B : Nat) (tb : Nat) (n : Int) (T : TS) (w : World) (r : Int × TS) (hr : T.clear n = r) (h : NewT B w tb T) :
    Calls Try.prog 31 #[.pointer (some ⟨tb, 0, none⟩), .int .i64 n] w (DoesN B w tb r) := by
  obtain ⟨h0, F, h1, h2⟩ := h
  subst hr
  exact (clear_any tb n T F w h1).mono fun _ _ h => does_new h h0 h2
theorem fail_any (tb : Nat) (keep : Int) (T : TS) (F : Nat → Prop) (w : World) (h : TapeR w tb T F) :
    Calls Try.prog 29 #[.pointer (some ⟨tb, 0, none⟩), .int .i64 keep] w (Does w tb F (T.fail keep)) := by
  unfold TS.fail
  by_cases ho : T.off = true
  · rw [if_pos ho]
    exact (fail_off tb keep T F w h ho).mono fun _ _ h' => ⟨h'.1, F, h'.2 ▸ h, h'.2 ▸ Upd.refl _ _⟩
  · rw [if_neg ho]
    exact fail_ok tb keep T F w h (by simpa using ho)
theorem arm_any (tb : Nat) (n keep : Int) (T : TS) (F : Nat → Prop) (w : World) (h : TapeR w tb T F) (hn : n ≤ 9223372036854775807) :
    Calls Try.prog 38 #[.pointer (some ⟨tb, 0, none⟩), .int .i64 n, .int .i64 keep] w (Does w tb F (T.arm n keep)) := by
  unfold TS.arm
  by_cases h1 : n < 0
  · rw [if_pos h1]
    have := arm_err tb n keep T F w h (.inl h1)
    rw [if_pos h1] at this
    exact this.mono fun _ _ h' => ⟨h'.1, F, h'.2 ▸ h, h'.2 ▸ Upd.refl _ _⟩
  · rw [if_neg h1]
    by_cases ho : T.off = true
    · rw [if_pos ho]
      have := arm_err tb n keep T F w h (.inr ho)
      rw [if_neg h1] at this
      exact this.mono fun _ _ h' => ⟨h'.1, F, h'.2 ▸ h, h'.2 ▸ Upd.refl _ _⟩
    · rw [if_neg ho]
      exact arm_ok tb n keep T F w h (by omega) hn (by simpa using ho)
theorem fail_new (B : Nat) (tb : Nat) (keep : Int) (T : TS) (w : World) (r : Int × TS) (hr : T.fail keep = r) (h : NewT B w tb T) :
    Calls Try.prog 29 #[.pointer (some ⟨tb, 0, none⟩), .int .i64 keep] w (DoesN B w tb r) := by
  obtain ⟨h0, F, h1, h2⟩ := h
  subst hr
  exact (fail_any tb keep T F w h1).mono fun _ _ h => does_new h h0 h2
theorem arm_new (B : Nat) (tb : Nat) (n keep : Int) (T : TS) (w : World) (r : Int × TS) (hr : T.arm n keep = r) (h : NewT B w tb T) (hn : n ≤ 9223372036854775807) :
    Calls Try.prog 38 #[.pointer (some ⟨tb, 0, none⟩), .int .i64 n, .int .i64 keep] w (DoesN B w tb r) := by
  obtain ⟨h0, F, h1, h2⟩ := h
  subst hr
  exact (arm_any tb n keep T F w h1 hn).mono fun _ _ h => does_new h h0 h2
theorem power_new (B : Nat) (tb : Nat) (T : TS) (w : World) (T' : TS) (hr : { T with off := false } = T') (h : NewT B w tb T) :
    Calls Try.prog 32 #[.pointer (some ⟨tb, 0, none⟩)] w fun e w' => e = .returned (.int .i64 0) ∧ NewT B w' tb T' ∧ Below B w w' := by
  obtain ⟨h0, F, h1, h2⟩ := h
  subst hr
  exact (power_any tb T F w h1).mono fun _ _ h => does_new (r := (0, _)) ⟨h.1, F, h.2⟩ h0 h2
theorem read_any (tb : Nat) (n : Int) (T : TS) (F : Nat → Prop) (w : World) (h : TapeR w tb T F) :
    Calls Try.prog 25 #[.pointer (some ⟨tb, 0, none⟩), .int .i64 n] w fun e w' => ∃ v, e = .returned (.tuple #[v, .int .i64 (faultN T.off n)]) ∧ Fresh w w' v (T.read n) := by
  unfold TS.read
  by_cases hn : faultN T.off n = 0
  · rw [if_pos hn, hn]
    have := fault_zero hn
    exact read_ok tb n T F w h this.2 this.1
  · rw [if_neg hn]
    exact (read_err tb n T F w h hn).mono fun _ _ h' => ⟨_, h'.1, h'.2 ▸ fresh_nil w⟩
theorem TS.read_len {T : TS} (h : T.ok) (n : Int) : (T.read n).length ≤ 1073741824 := by
  have h1 := h.fit
  have h2 := h.room
  unfold TS.used at h1
  unfold TS.read TS.b
  split
  · split
    · omega
    · split
      · omega
      · simp
  · simp
theorem Below.up {B C : Nat} {w w' : World} (h : Below C w w') (hB : B ≤ C) : Below B w w' := Below.mono h hB

theorem made (B : Nat) (room : Int) (w : World) (hB : w.heap.size = B) (h0 : 0 ≤ room) (h1 : room ≤ 1073741824) :
    Calls Try.prog 22 #[.int .i64 room] w fun e w' => ∃ tb, e = .returned (.pointer (some ⟨tb, 0, none⟩)) ∧ NewT B w' tb (TS.new room) ∧ Below B w w' := by
  subst hB
  refine (new_ok room w h0 h1).mono ?_
  rintro e w' ⟨tb, rfl, h, hb, ht⟩
  exact ⟨tb, rfl, ⟨hb.size, _, ht, fun k hk => by omega⟩, hb⟩

set_option maxRecDepth 100000 in
set_option maxHeartbeats 4000000 in
theorem lives_true (w : World) : Calls Try.prog 24 #[] w fun e w' => e = .returned (.bool true) ∧ Below w.heap.size w w' := by
  obtain ⟨B, hB⟩ : ∃ B, B = w.heap.size := ⟨_, rfl⟩
  rw [← hB]
  have kc := fun (w : World) (C : Array Value) (n c : Nat) => Lib.run_convert_bytes_const (P := Try.prog) w 22 5 C n c Try.underlying22 Try.underlying5
  go_enter Try.func24, Try.ntmps24
  go_wp2_with fail
  refine (made B 100 w hB.symm (by decide) (by decide)).mono ?_
  rintro e w1 ⟨tb, rfl, h1, b1⟩
  have H1 := Lib.hid h1
  have B1 := Lib.hid b1
  clear h1 b1 hB
  go_wp2_with fail
  refine (append_lit B tb 0 2 _ _ [97, 98] _ w1 (0, ⟨100, [97, 98], [], 0, 0, false, none, 1, 0⟩) (by kernel_rfl) H1.out rfl (by decide) rfl).mono ?_
  rintro e w2 ⟨rfl, h2, b2⟩
  have H2 := Lib.hid h2
  have B2 := Lib.hid (B1.out.trans b2)
  clear h2 b2 H1 B1
  go_wp2_with fail
  refine (sync_new B tb 0 _ w2 (0, ⟨100, [97, 98], [], 2, 0, false, none, 2, 0⟩) (by kernel_rfl) H2.out).mono ?_
  rintro e w3 ⟨rfl, h3, b3⟩
  have H3 := Lib.hid h3
  have B3 := Lib.hid (B2.out.trans b3)
  clear h3 b3 H2 B2
  go_wp2_with fail
  refine (append_lit B tb 0 2 _ _ [99, 100] _ w3 (0, ⟨100, [97, 98, 99, 100], [], 2, 0, false, none, 3, 0⟩) (by kernel_rfl) H3.out rfl (by decide) rfl).mono ?_
  rintro e w4 ⟨rfl, h4, b4⟩
  have H4 := Lib.hid h4
  have B4 := Lib.hid (B3.out.trans b4)
  clear h4 b4 H3 B3
  go_wp2_with fail
  refine (fail_new B tb 1 _ w4 (0, ⟨100, [97, 98, 99], [], 3, 0, true, none, 3, 1⟩) (by kernel_rfl) H4.out).mono ?_
  rintro e w5 ⟨rfl, h5, b5⟩
  have H5 := Lib.hid h5
  have B5 := Lib.hid (B4.out.trans b5)
  clear h5 b5 H4 B4
  go_wp2_with fail
  refine (power_new B tb _ w5 ⟨100, [97, 98, 99], [], 3, 0, false, none, 3, 1⟩ rfl H5.out).mono ?_
  rintro e w6 ⟨rfl, h6, b6⟩
  have H6 := Lib.hid h6
  have B6 := Lib.hid (B5.out.trans b6)
  clear h6 b6 H5 B5
  go_wp2_with fail
  obtain ⟨h0, F, hF, hF2⟩ := H6.out
  have HF := Lib.hid hF
  refine (read_any tb 0 _ F w6 HF.out).mono ?_
  rintro e w7 ⟨v, rfl, ho, hb7, hv7⟩
  have ho : OB w7 v [97, 98, 99] := ho
  obtain ⟨A, c, rfl⟩ := ho.form
  have hs := run_str (ho.reads (by decide)) 3 c rfl
  have hsl : (strB [97, 98, 99]).toList = [97, 98, 99] := by decide +kernel
  have B7 := Lib.hid (B6.out.trans (Below.up hb7 h0))
  have HF7 := Lib.hid (HF.out.below hb7)
  clear ho hb7 H6 B6 hF hF2 HF hv7
  rw [show faultN false 0 = 0 from rfl]
  go_wp2_with fail
  refine (sure_any tb 0 _ F w7 HF7.out).mono ?_
  rintro e w8 ⟨rfl, rfl⟩
  rw [show TS.sure ⟨100, [97, 98, 99], [], 3, 0, false, none, 3, 1⟩ 0 = 3 from rfl]
  go_wp2
  go_ret
  exact ⟨rfl, B7.out⟩

end Go.Proofs.Ytnkenkdglcmpdaa
