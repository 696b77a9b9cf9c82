/- The chapter's example: lives tells true. -/
import Derived.Test.YtnkenkdglcmpdaaJouQ
namespace Go.Proofs.Ytnkenkdglcmpdaa
set_option linter.unusedVariables false
set_option linter.unusedSimpArgs false
open Go.RowKit

/-- A journal of the call's own: all its blocks lie at B or behind it. -/
structure JN (B : Nat) (w : World) (jb tb : Nat) (J : JS) (T : TS) (F : Nat → Prop) : Prop where
  jr : JR w jb tb J T F
  from_ : ∀ k, FJ F jb k → B ≤ k
  size : B ≤ w.heap.size
theorem JN.below {B : Nat} {w w' : World} {jb tb : Nat} {J : JS} {T : TS} {F : Nat → Prop} (h : JN B w jb tb J T F) (hb : Below w.heap.size w w') : JN B w' jb tb J T F := ⟨h.jr.below hb, h.from_, Nat.le_trans h.size hb.size⟩
theorem JN.upd {B : Nat} {w w' : World} {jb tb : Nat} {J J' : JS} {T T' : TS} {F F' : Nat → Prop} (h : JN B w jb tb J T F) (hj : JR w' jb tb J' T' F') (hu : Upd w w' (FJ F jb) (FJ F' jb)) : JN B w' jb tb J' T' F' ∧ Below B w w' :=
  ⟨⟨hj, (upd_below hu h.size h.from_).2, Nat.le_trans h.size hu.fr.size⟩, (upd_below hu h.size h.from_).1⟩
theorem JN.lt {B : Nat} {w : World} {jb tb : Nat} {J : JS} {T : TS} {F : Nat → Prop} (h : JN B w jb tb J T F) : ∀ k, FJ F jb k → k < w.heap.size := fun k hk => by
  obtain ⟨_, _, _, t⟩ := h.jr.tape
  have := h.jr.blk.lt
  rcases hk with hk | hk
  · exact t.flt _ hk
  · omega
theorem JN.ok {B : Nat} {w : World} {jb tb : Nat} {J : JS} {T : TS} {F : Nat → Prop} (h : JN B w jb tb J T F) : T.ok := by
  obtain ⟨_, _, _, t⟩ := h.jr.tape; exact t.wf
/-- Append of a literal. -/
theorem jappend_lit (B : Nat) (m c : Nat) (cs : Array Value) (fr : Nat × Nat) (xs : List UInt8) (T : TS) (J : JS) (jb tb : Nat) (F : Nat → Prop) (w : World) (h : JN B w jb tb J T F) (hcs : cs = (bv xs).toArray) (hl : xs.length ≤ 140737488355328) (hm : m = xs.length) :
    Calls Try.prog 43 #[.pointer (some ⟨jb, 0, none⟩), .slice (some ⟨w.heap.size, 0, none⟩) m c] (w.alloc (.cells cs 5 fr)) fun e w' => e = .returned (.int .i64 (J.append T xs).1) ∧ ∃ F', JN B w' jb tb (J.append T xs).2.2 (J.append T xs).2.1 F' ∧ Below B w w' := by
  subst hm
  have hb : Below w.heap.size w (w.alloc (.cells cs 5 fr)) := (Below.refl _ _).alloc (Nat.le_refl _) _
  have h1 := h.below hb
  refine (jappend_any (some ⟨w.heap.size, 0, none⟩) c xs h1.jr (RB.fresh w xs [] 5 fr hl (by simp [hcs]))).mono ?_
  rintro e w' ⟨rfl, F', hj, hu⟩
  obtain ⟨k1, k2⟩ := h1.upd hj hu
  exact ⟨rfl, F', k1, (Below.up hb h.size).trans k2⟩
/-! ### The example's states -/
def l1 : Int × TS × JS := openP (TS.new 1000)
def l2 : Int × TS × JS := l1.2.2.append l1.2.1 [97]
def l3 : Int × TS × JS := l2.2.2.sync l2.2.1
def l4 : Int × TS × JS := l3.2.2.append l3.2.1 [98]
def l5 : Int × TS := l4.2.1.fail 0
def l6 : TS := { l5.2 with off := false }
def l7 : Int × TS × JS := openP l6
theorem l1_e : l1.1 = 0 ∧ (found (TS.new 1000)).2 = [] ∧ l1.2.2.turn = 1 := by decide +kernel
theorem l2_e : l2.1 = 0 := by decide +kernel
theorem l3_e : l3.1 = 0 := by decide +kernel
theorem l4_e : l4.1 = 0 ∧ (l4.2.1.sure l4.2.2.area == l4.2.2.len l4.2.1) = false := by decide +kernel
theorem l5_e : l5.1 = 0 := by decide +kernel
theorem l7_e : l7.1 = 0 ∧ (found l6).2 = [[97]] ∧ l7.2.2.turn = 2 := by decide +kernel
set_option maxRecDepth 100000 in
set_option maxHeartbeats 8000000 in
theorem jlives_true (w : World) : Calls Try.prog 41 #[] w fun e w' => e = .returned (.bool true) ∧ Below w.heap.size w w' := by
  obtain ⟨B, hB⟩ : ∃ B, B = w.heap.size := ⟨_, rfl⟩
  rw [← hB]
  have kc := fun (w : World) (C : Array Value) (n c : Nat) => Lib.run_convert_bytes_const (P := Try.prog) w 22 5 C n c Try.underlying22 Try.underlying5
  go_enter Try.func41, Try.ntmps41
  go_wp2_with fail
  refine (made B 1000 w hB.symm (by decide) (by decide)).mono ?_
  rintro e w1 ⟨tb, rfl, ⟨hs1, F1, h1, hF1⟩, b1⟩
  have H1 := Lib.hid h1
  have B1 := Lib.hid b1
  clear h1 b1 hB
  go_wp2_with fail
  refine (jopen_any H1.out).mono ?_
  rintro e w2 ⟨F2, h2⟩
  rw [show openP (TS.new 1000) = l1 from rfl, if_pos l1_e.1, l1_e.2.1] at h2
  obtain ⟨jb, A2, c2, rfl, hj2, hjb, _, hu2⟩ := h2
  have hB2 := upd_below hu2 hs1 hF1
  have h2 : JN B w2 jb tb l1.2.2 l1.2.1 F2 := ⟨hj2, hB2.2, Nat.le_trans hs1 hu2.fr.size⟩
  have H2 := Lib.hid h2
  have B2 := Lib.hid (B1.out.trans hB2.1)
  have HT := Lib.hid l1_e.2.2
  clear hj2 hu2 hB2 h2 H1 B1 hF1 hs1 hjb
  go_wp2_with fail
  refine (turn_any H2.out.jr).mono ?_
  rw [HT.out]
  rintro e w3 ⟨rfl, hb⟩
  have H3 := Lib.hid (H2.out.below hb)
  have B3 := Lib.hid (B2.out.trans (Below.up hb H2.out.size))
  clear hb H2 B2 HT
  go_wp2_with fail
  refine (jappend_lit B 1 _ _ _ [97] l1.2.1 l1.2.2 jb tb F2 w3 H3.out rfl (by decide) rfl).mono ?_
  rw [show l1.2.2.append l1.2.1 [97] = l2 from rfl, l2_e]
  rintro e w4 ⟨rfl, F4, h4, b4⟩
  have H4 := Lib.hid h4
  have B4 := Lib.hid (B3.out.trans b4)
  clear h4 b4 H3 B3
  go_wp2_with fail
  refine (jsync_any H4.out.jr).mono ?_
  rw [show l2.2.2.sync l2.2.1 = l3 from rfl]
  rintro e w5 ⟨he, F5, hj, hu⟩
  rw [l3_e] at he
  subst he
  obtain ⟨h5, b5⟩ := H4.out.upd hj hu
  have H5 := Lib.hid h5
  have B5 := Lib.hid (B4.out.trans b5)
  clear h5 b5 hj hu H4 B4
  go_wp2_with fail
  refine (jappend_lit B 1 _ _ _ [98] l3.2.1 l3.2.2 jb tb F5 w5 H5.out rfl (by decide) rfl).mono ?_
  rw [show l3.2.2.append l3.2.1 [98] = l4 from rfl, l4_e.1]
  rintro e w6 ⟨rfl, F6, h6, b6⟩
  have H6 := Lib.hid h6
  have B6 := Lib.hid (B5.out.trans b6)
  clear h6 b6 H5 B5
  go_wp2_with fail
  refine (jsure_any H6.out.jr).mono ?_
  rw [l4_e.2]
  rintro e w7 ⟨rfl, hb⟩
  have H7 := Lib.hid (H6.out.below hb)
  have B7 := Lib.hid (B6.out.trans (Below.up hb H6.out.size))
  clear hb H6 B6
  go_wp2_with fail
  refine (fail_any tb 0 l4.2.1 F6 w7 H7.out.jr.tape).mono ?_
  rw [show l4.2.1.fail 0 = l5 from rfl]
  rintro e w8 ⟨he, F8, ht, hu⟩
  rw [l5_e] at he
  subst he
  have hF6 : ∀ k, F6 k → B ≤ k := fun k hk => H7.out.from_ k (.inl hk)
  have hb8 := upd_below hu H7.out.size hF6
  have H8 := Lib.hid ht
  have B8 := Lib.hid (B7.out.trans hb8.1)
  have HF8 := Lib.hid hb8.2
  have HS8 : Hid (B ≤ w8.heap.size) := Lib.hid (Nat.le_trans H7.out.size hu.fr.size)
  clear hb8 hu ht hF6 H7 B7
  go_wp2_with fail
  refine (power_any tb l5.2 F8 w8 H8.out).mono ?_
  rintro e w9 ⟨rfl, ht, hu⟩
  have ht : TapeR w9 tb l6 F8 := ht
  have hb9 := upd_below hu HS8.out HF8.out
  have H9 := Lib.hid ht
  have B9 := Lib.hid (B8.out.trans hb9.1)
  have HS9 : Hid (B ≤ w9.heap.size) := Lib.hid (Nat.le_trans HS8.out hu.fr.size)
  clear hb9 hu ht H8 B8 HS8
  go_wp2_with fail
  refine (jopen_any H9.out).mono ?_
  rintro e w10 ⟨F10, h10⟩
  rw [show openP l6 = l7 from rfl, if_pos l7_e.1, l7_e.2.1] at h10
  obtain ⟨jb2, A10, c10, rfl, hj10, hjb10, hrl, hu10⟩ := h10
  have hB10 := upd_below hu10 HS9.out HF8.out
  obtain ⟨b, off, cc, hA, hbl, hX, hcell, A11, n11, rfl, hn11, hrb, _⟩ := hrl 0 [97] rfl
  subst hA
  have hcell : w10.cell? ⟨b, off, none⟩ = some (.slice A11 1 n11) := hcell
  have hs := run_str hrb 1 n11 rfl
  have H10 := Lib.hid hj10
  have B10 := Lib.hid (B9.out.trans hB10.1)
  have HT := Lib.hid l7_e.2.2
  have HS10 : B ≤ w10.heap.size := Nat.le_trans HS9.out hu10.fr.size
  clear hj10 hu10 hB10 hrl hrb H9 B9 hjb10 HS9 hn11 hX hbl kc
  have hlit : (strB [97]).toList = [97] := by decide +kernel
  go_wp2_with fail
  refine (turn_any H10.out).mono ?_
  rw [HT.out]
  rintro e w11 ⟨rfl, hb⟩
  have B11 := Lib.hid (B10.out.trans (Below.up hb HS10))
  clear hb
  go_wp2_with fail
  go_ret
  exact ⟨rfl, B11.out⟩

end Go.Proofs.Ytnkenkdglcmpdaa
