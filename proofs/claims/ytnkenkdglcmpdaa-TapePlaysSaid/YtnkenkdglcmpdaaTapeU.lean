/- The walk of Same: a tape and the document's read alike. -/
import Derived.Test.YtnkenkdglcmpdaaTapeT
import Derived.Test.YtnkenkdglcmpdaaTapeN
namespace Go.Proofs.Ytnkenkdglcmpdaa
set_option linter.unusedVariables false
set_option linter.unusedSimpArgs false
open Go.RowKit

theorem rread_at (rb : Nat) (n : Int) (T : TS) (F : Nat → Prop) (w : World) (h : RefR w rb T F) :
    Calls Try.prog 76 #[.pointer (some ⟨rb, 0, none⟩), .int .i64 n] w fun e w' => ∃ A c, e = .returned (.tuple #[.slice A (T.read n).length c, .int .i64 (faultN T.off n)]) ∧ RB w' A (T.read n) ∧ Below w.heap.size w w' := by
  refine (rread_any rb n T F w h).mono ?_
  rintro e w' ⟨v, rfl, ho, hb, hown⟩
  have hl : (T.read n).length ≤ 140737488355328 := by
    obtain ⟨_, _, _, _, ht⟩ := h
    have := TS.read_len ht.wf n
    omega
  obtain ⟨A, c, rfl⟩ := ho.form
  exact ⟨A, c, rfl, ho.reads hl, hb⟩
set_option maxRecDepth 100000 in
set_option maxHeartbeats 8000000 in
theorem same_any (tb rb : Nat) (T : TS) (F G : Nat → Prop) (w : World) (ht : TapeR w tb T F) (hr : RefR w rb T G) :
    Calls Try.prog 36 #[.pointer (some ⟨tb, 0, none⟩), .pointer (some ⟨rb, 0, none⟩)] w fun e w' => e = .returned (.bool true) ∧ Below w.heap.size w w' := by
  have HT := Lib.hid ht
  have HR := Lib.hid hr
  have hxo : ((!T.off) == T.off) = false := by cases T.off <;> rfl
  obtain ⟨B, hB⟩ : ∃ B, B = w.heap.size := ⟨_, rfl⟩
  rw [← hB]
  have hBw : B ≤ w.heap.size := by omega
  clear ht hr hB
  go_enter Try.func36, Try.ntmps36
  go_wp2_with fail
  refine (counts_any tb T F w HT.out).mono ?_
  rintro e w' ⟨rfl, n0, rfl⟩
  have hb0 : Below w.heap.size w (w.drewN n0) := ⟨rfl, rfl, rfl, Nat.le_refl _, fun _ _ => rfl⟩
  have HT1 := Lib.hid (HT.out.below hb0)
  have HR1 := Lib.hid (HR.out.below hb0)
  have HB1 := Lib.hid (Below.up hb0 hBw)
  have hB1 : B ≤ (w.drewN n0).heap.size := hBw
  clear HT HR hb0 hBw
  obtain ⟨wa, hwa⟩ : ∃ wa, wa = w.drewN n0 := ⟨_, rfl⟩
  rw [← hwa] at HT1 HR1 HB1 hB1 ⊢
  clear hwa
  have h5 : wa.cell? ⟨rb, 5, none⟩ = some (.bool T.off) := by
    obtain ⟨l, k, u0, u1, h⟩ := HR1.out
    exact h.blk.cell 5
  have h9 : wa.cell? ⟨rb, 9, none⟩ = some (.int .i64 T.ops) := by
    obtain ⟨l, k, u0, u1, h⟩ := HR1.out
    exact h.blk.cell 9
  have h10 : wa.cell? ⟨rb, 10, none⟩ = some (.int .i64 T.fails) := by
    obtain ⟨l, k, u0, u1, h⟩ := HR1.out
    exact h.blk.cell 10
  obtain ⟨us, hus⟩ : ∃ us : Nat, us = T.used := ⟨_, rfl⟩
  have HUS := Lib.hid hus
  clear hus
  go_wp2_with fail
  refine wp_region_phased (fun W => (∃ n, W = wa.drewN n) ∧ W.cell? ⟨rb, 5, none⟩ = some (.bool T.off) ∧ W.cell? ⟨rb, 9, none⟩ = some (.int .i64 T.ops) ∧ W.cell? ⟨rb, 10, none⟩ = some (.int .i64 T.fails)) 30 (by kernel_rfl) ⟨⟨1, rfl⟩, h5, h9, h10⟩ (fun hS => ?_)
  refine wpAnyP_pure (v := ?_) 0 (at_toArray rfl) (by kernel_rfl) (by kernel_rfl) (by kernel_rfl) (fun _ _ _ h => h) (Or.inl ⟨by rfl, fun W => ?_⟩) ?_
  rotate_left 1
  · (go_simp <;> (try go_bits) <;> with_reducible rfl)
  simp only [Act.put, List.setIfInBounds_toArray, List.set_cons_zero, List.set_cons_succ]
  refine wpAnyP_pure (v := ?_) 2 (at_toArray rfl) (by kernel_rfl) (by kernel_rfl) (by kernel_rfl) (fun _ _ _ h => h) (Or.inl ⟨by rfl, fun W => ?_⟩) ?_
  rotate_left 1
  · (go_simp <;> (try go_bits) <;> with_reducible rfl)
  simp only [Act.put, List.setIfInBounds_toArray, List.set_cons_zero, List.set_cons_succ]
  refine wpAnyP_pure (v := ?_) 3 (at_toArray rfl) (by kernel_rfl) (by kernel_rfl) (by kernel_rfl) (fun _ _ _ h => h) (Or.inl ⟨by rfl, fun W => ?_⟩) ?_
  rotate_left 1
  · (go_simp <;> (try go_bits) <;> with_reducible rfl)
  simp only [Act.put, List.setIfInBounds_toArray, List.set_cons_zero, List.set_cons_succ]
  refine wpAnyP_pure (v := ?_) 4 (at_toArray rfl) (by kernel_rfl) (by kernel_rfl) (by kernel_rfl) (fun _ _ _ h => h) (Or.inl ⟨by rfl, fun W => ?_⟩) ?_
  rotate_left 1
  · (go_simp <;> (try go_bits) <;> with_reducible rfl)
  simp only [Act.put, List.setIfInBounds_toArray, List.set_cons_zero, List.set_cons_succ]
  refine wpAnyP_load (v := ?_) 5 (by kernel_rfl) (at_toArray rfl) (by kernel_rfl) (by kernel_rfl) (by kernel_rfl) (fun _ _ _ h => h) (by first | assumption | rfl) (Or.inl ⟨by rfl, fun W hS => ?_⟩) ?_
  rotate_left 1
  · (obtain ⟨_, f1, f2, f3⟩ := hS; go_simp <;> (try go_bits) <;> with_reducible rfl)
  simp only [Act.put, List.setIfInBounds_toArray, List.set_cons_zero, List.set_cons_succ]
  refine wpAnyP_one 1 (at_toArray rfl) (by kernel_rfl) rfl (fun K hK => ?_)
  go_wp2_with fail
  refine (on_any tb T F _ (HT1.out.below (Below.refl _ _).drew)).mono ?_
  rintro e w' ⟨rfl, rfl⟩
  go_wp2_with fail
  refine hK.out _ _ (fun _ h => h) ?_
  clear hK
  refine wpAnyP_pure (v := ?_) 6 (at_toArray rfl) (by kernel_rfl) (by kernel_rfl) (by kernel_rfl) (fun _ _ _ h => h) (Or.inl ⟨by rfl, fun W => ?_⟩) ?_
  rotate_left 1
  · (go_simp <;> (try go_bits) <;> with_reducible rfl)
  simp only [Act.put, List.setIfInBounds_toArray, List.set_cons_zero, List.set_cons_succ]
  refine wpAnyP_pure (v := ?_) 7 (at_toArray rfl) (by kernel_rfl) (by kernel_rfl) (by kernel_rfl) (fun _ _ _ h => h) (Or.inl ⟨by rfl, fun W => ?_⟩) ?_
  rotate_left 1
  · (go_simp <;> (try go_bits) <;> with_reducible rfl)
  simp only [Act.put, List.setIfInBounds_toArray, List.set_cons_zero, List.set_cons_succ]
  refine wpAnyP_pure (v := ?_) 8 (at_toArray rfl) (by kernel_rfl) (by kernel_rfl) (by kernel_rfl) (fun _ _ _ h => h) (Or.inl ⟨by rfl, fun W => ?_⟩) ?_
  rotate_left 1
  · (go_simp <;> (try go_bits) <;> with_reducible rfl)
  simp only [Act.put, List.setIfInBounds_toArray, List.set_cons_zero, List.set_cons_succ]
  refine wpAnyP_pure (v := ?_) 10 (at_toArray rfl) (by kernel_rfl) (by kernel_rfl) (by kernel_rfl) (fun _ _ _ h => h) (Or.inl ⟨by rfl, fun W => ?_⟩) ?_
  rotate_left 1
  · (go_simp <;> (try go_bits) <;> with_reducible rfl)
  simp only [Act.put, List.setIfInBounds_toArray, List.set_cons_zero, List.set_cons_succ]
  refine wpAnyP_oneG 9 (at_toArray rfl) (by kernel_rfl) (by rfl) (fun K hK => ?_)
  go_wp2_with fail
  refine (used_any tb T F _ (HT1.out.below (Below.refl _ _).drew)).mono ?_
  rw [← HUS.out]
  rintro e w' ⟨rfl, rfl⟩
  go_wp2_with fail
  refine hK.out _ _ (fun _ h => h) ?_
  clear hK
  refine wpAnyP_oneG 11 (at_toArray rfl) (by kernel_rfl) (by rfl) (fun K hK => ?_)
  go_wp2_with fail
  refine (rused_any rb T G _ (HR1.out.below (Below.refl _ _).drew)).mono ?_
  rw [← HUS.out]
  rintro e w' ⟨rfl, n1, rfl⟩
  go_wp2_with fail
  have hS2 : (∃ n, wa.drewN (1 + n1) = wa.drewN n) ∧ (wa.drewN (1 + n1)).cell? ⟨rb, 5, none⟩ = some (.bool T.off) ∧ (wa.drewN (1 + n1)).cell? ⟨rb, 9, none⟩ = some (.int .i64 T.ops) ∧ (wa.drewN (1 + n1)).cell? ⟨rb, 10, none⟩ = some (.int .i64 T.fails) := ⟨⟨1 + n1, rfl⟩, h5, h9, h10⟩
  refine hK.out _ _ (fun _ _ => hS2) ?_
  clear hK hS
  refine wpAnyP_pure (v := ?_) 12 (at_toArray rfl) (by kernel_rfl) (by kernel_rfl) (by kernel_rfl) (fun _ _ _ h => h) (Or.inl ⟨by rfl, fun W => ?_⟩) ?_
  rotate_left 1
  · (go_simp <;> (try go_bits) <;> with_reducible rfl)
  simp only [Act.put, List.setIfInBounds_toArray, List.set_cons_zero, List.set_cons_succ]
  refine wpAnyP_pure (v := ?_) 13 (at_toArray rfl) (by kernel_rfl) (by kernel_rfl) (by kernel_rfl) (fun _ _ _ h => h) (Or.inl ⟨by rfl, fun W => ?_⟩) ?_
  rotate_left 1
  · (go_simp <;> (try go_bits) <;> with_reducible rfl)
  simp only [Act.put, List.setIfInBounds_toArray, List.set_cons_zero, List.set_cons_succ]
  refine wpAnyP_pure (v := ?_) 14 (at_toArray rfl) (by kernel_rfl) (by kernel_rfl) (by kernel_rfl) (fun _ _ _ h => h) (Or.inl ⟨by rfl, fun W => ?_⟩) ?_
  rotate_left 1
  · (go_simp <;> (try go_bits) <;> with_reducible rfl)
  simp only [Act.put, List.setIfInBounds_toArray, List.set_cons_zero, List.set_cons_succ]
  refine wpAnyP_pure (v := ?_) 15 (at_toArray rfl) (by kernel_rfl) (by kernel_rfl) (by kernel_rfl) (fun _ _ _ h => h) (Or.inl ⟨by rfl, fun W => ?_⟩) ?_
  rotate_left 1
  · (go_simp <;> (try go_bits) <;> with_reducible rfl)
  simp only [Act.put, List.setIfInBounds_toArray, List.set_cons_zero, List.set_cons_succ]
  refine wpAnyP_pure (v := ?_) 16 (at_toArray rfl) (by kernel_rfl) (by kernel_rfl) (by kernel_rfl) (fun _ _ _ h => h) (Or.inl ⟨by rfl, fun W => ?_⟩) ?_
  rotate_left 1
  · (go_simp <;> (try go_bits) <;> with_reducible rfl)
  simp only [Act.put, List.setIfInBounds_toArray, List.set_cons_zero, List.set_cons_succ]
  refine wpAnyP_pure (v := ?_) 17 (at_toArray rfl) (by kernel_rfl) (by kernel_rfl) (by kernel_rfl) (fun _ _ _ h => h) (Or.inl ⟨by rfl, fun W => ?_⟩) ?_
  rotate_left 1
  · (go_simp <;> (try go_bits) <;> with_reducible rfl)
  simp only [Act.put, List.setIfInBounds_toArray, List.set_cons_zero, List.set_cons_succ]
  refine wpAnyP_pure (v := ?_) 18 (at_toArray rfl) (by kernel_rfl) (by kernel_rfl) (by kernel_rfl) (fun _ _ _ h => h) (Or.inl ⟨by rfl, fun W => ?_⟩) ?_
  rotate_left 1
  · (go_simp <;> (try go_bits) <;> with_reducible rfl)
  simp only [Act.put, List.setIfInBounds_toArray, List.set_cons_zero, List.set_cons_succ]
  refine wpAnyP_load (v := ?_) 19 (by kernel_rfl) (at_toArray rfl) (by kernel_rfl) (by kernel_rfl) (by kernel_rfl) (fun _ _ _ h => h) (by first | assumption | rfl) (Or.inl ⟨by rfl, fun W hS => ?_⟩) ?_
  rotate_left 1
  · (obtain ⟨_, f1, f2, f3⟩ := hS; go_simp <;> (try go_bits) <;> with_reducible rfl)
  simp only [Act.put, List.setIfInBounds_toArray, List.set_cons_zero, List.set_cons_succ]
  refine wpAnyP_pure (v := ?_) 20 (at_toArray rfl) (by kernel_rfl) (by kernel_rfl) (by kernel_rfl) (fun _ _ _ h => h) (Or.inl ⟨by rfl, fun W => ?_⟩) ?_
  rotate_left 1
  · (go_simp <;> (try go_bits) <;> with_reducible rfl)
  simp only [Act.put, List.setIfInBounds_toArray, List.set_cons_zero, List.set_cons_succ]
  refine wpAnyP_pure (v := ?_) 21 (at_toArray rfl) (by kernel_rfl) (by kernel_rfl) (by kernel_rfl) (fun _ _ _ h => h) (Or.inl ⟨by rfl, fun W => ?_⟩) ?_
  rotate_left 1
  · (go_simp <;> (try go_bits) <;> with_reducible rfl)
  simp only [Act.put, List.setIfInBounds_toArray, List.set_cons_zero, List.set_cons_succ]
  refine wpAnyP_pure (v := ?_) 22 (at_toArray rfl) (by kernel_rfl) (by kernel_rfl) (by kernel_rfl) (fun _ _ _ h => h) (Or.inl ⟨by rfl, fun W => ?_⟩) ?_
  rotate_left 1
  · (go_simp <;> (try go_bits) <;> with_reducible rfl)
  simp only [Act.put, List.setIfInBounds_toArray, List.set_cons_zero, List.set_cons_succ]
  refine wpAnyP_pure (v := ?_) 23 (at_toArray rfl) (by kernel_rfl) (by kernel_rfl) (by kernel_rfl) (fun _ _ _ h => h) (Or.inl ⟨by rfl, fun W => ?_⟩) ?_
  rotate_left 1
  · (go_simp <;> (try go_bits) <;> with_reducible rfl)
  simp only [Act.put, List.setIfInBounds_toArray, List.set_cons_zero, List.set_cons_succ]
  refine wpAnyP_pure (v := ?_) 24 (at_toArray rfl) (by kernel_rfl) (by kernel_rfl) (by kernel_rfl) (fun _ _ _ h => h) (Or.inl ⟨by rfl, fun W => ?_⟩) ?_
  rotate_left 1
  · (go_simp <;> (try go_bits) <;> with_reducible rfl)
  simp only [Act.put, List.setIfInBounds_toArray, List.set_cons_zero, List.set_cons_succ]
  refine wpAnyP_pure (v := ?_) 25 (at_toArray rfl) (by kernel_rfl) (by kernel_rfl) (by kernel_rfl) (fun _ _ _ h => h) (Or.inl ⟨by rfl, fun W => ?_⟩) ?_
  rotate_left 1
  · (go_simp <;> (try go_bits) <;> with_reducible rfl)
  simp only [Act.put, List.setIfInBounds_toArray, List.set_cons_zero, List.set_cons_succ]
  refine wpAnyP_pure (v := ?_) 26 (at_toArray rfl) (by kernel_rfl) (by kernel_rfl) (by kernel_rfl) (fun _ _ _ h => h) (Or.inl ⟨by rfl, fun W => ?_⟩) ?_
  rotate_left 1
  · (go_simp <;> (try go_bits) <;> with_reducible rfl)
  simp only [Act.put, List.setIfInBounds_toArray, List.set_cons_zero, List.set_cons_succ]
  refine wpAnyP_load (v := ?_) 27 (by kernel_rfl) (at_toArray rfl) (by kernel_rfl) (by kernel_rfl) (by kernel_rfl) (fun _ _ _ h => h) (by first | assumption | rfl) (Or.inl ⟨by rfl, fun W hS => ?_⟩) ?_
  rotate_left 1
  · (obtain ⟨_, f1, f2, f3⟩ := hS; go_simp <;> (try go_bits) <;> with_reducible rfl)
  simp only [Act.put, List.setIfInBounds_toArray, List.set_cons_zero, List.set_cons_succ]
  refine wpAnyP_pure (v := ?_) 28 (at_toArray rfl) (by kernel_rfl) (by kernel_rfl) (by kernel_rfl) (fun _ _ _ h => h) (Or.inl ⟨by rfl, fun W => ?_⟩) ?_
  rotate_left 1
  · (go_simp <;> (try go_bits) <;> with_reducible rfl)
  simp only [Act.put, List.setIfInBounds_toArray, List.set_cons_zero, List.set_cons_succ]
  refine wpAnyP_pure (v := ?_) 29 (at_toArray rfl) (by kernel_rfl) (by kernel_rfl) (by kernel_rfl) (fun _ _ _ h => h) (Or.inl ⟨by rfl, fun W => ?_⟩) ?_
  rotate_left 1
  · (go_simp <;> (try go_bits) <;> with_reducible rfl)
  simp only [Act.put, List.setIfInBounds_toArray, List.set_cons_zero, List.set_cons_succ]
  refine wpAnyP_done (by kernel_rfl) ?_ _
  clear hS2 h5 h9 h10
  have hb2 : Below wa.heap.size wa (wa.drewN (1 + n1)) := ⟨rfl, rfl, rfl, Nat.le_refl _, fun _ _ => rfl⟩
  have HTi := Lib.hid (HT1.out.below hb2)
  have HRi := Lib.hid (HR1.out.below hb2)
  have HBi := Lib.hid (HB1.out.trans (Below.up hb2 hB1))
  have hBi : B ≤ (wa.drewN (1 + n1)).heap.size := hB1
  clear HT1 HR1 HB1 hB1 hb2
  generalize wa.drewN (1 + n1) = wi at *
  go_wp2_with fail
  refine wp_loop_rounds 5 ?_
  rw [rounds_succ]
  go_wp2_with fail
  refine (read_at tb (-1) T F wi HTi.out _ rfl).mono ?_
  rintro e wj ⟨A1, c1, rfl, hr1, hb1, _⟩
  have HTj := Lib.hid (HTi.out.below hb1)
  have HRj := Lib.hid (HRi.out.below hb1)
  have HBj := Lib.hid (HBi.out.trans (Below.up hb1 hBi))
  have hBj : B ≤ wj.heap.size := Nat.le_trans hBi hb1.size
  have HR1 := Lib.hid hr1
  obtain ⟨str, hstr⟩ : ∃ s, s = strB (T.read (-1)) := ⟨_, rfl⟩
  obtain ⟨ln, hln⟩ : ∃ ln, ln = (T.read (-1)).length := ⟨_, rfl⟩
  obtain ⟨ft, hft⟩ : ∃ ft, ft = faultN T.off (-1) := ⟨_, rfl⟩
  rw [← hln, ← hft]
  have HS := Lib.hid hstr
  have HL := Lib.hid hln
  have HFT := Lib.hid hft
  clear hr1 hb1 HTi HRi HBi hBi hstr hln hft
  go_wp2_with fail
  refine (rread_at rb (-1) T G wj HRj.out).mono ?_
  rintro e wi ⟨A2, c2, rfl, hr2, hb2⟩
  rw [← HL.out, ← HFT.out]
  have HTi := Lib.hid (HTj.out.below hb2)
  have HRi := Lib.hid (HRj.out.below hb2)
  have HBi := Lib.hid (HBj.out.trans (Below.up hb2 hBj))
  have hBi : B ≤ wi.heap.size := Nat.le_trans hBj hb2.size
  have hc1 := run_str (HR1.out.below hb2) ln c1 HL.out.symm
  have hc2 := run_str hr2 ln c2 HL.out.symm
  rw [← HS.out] at hc1 hc2
  obtain ⟨su, hsu⟩ : ∃ su, su = T.sure (-1) := ⟨_, rfl⟩
  have HSU := Lib.hid hsu
  clear hb2 hr2 HTj HRj HBj hBj HR1 hsu
  go_wp2_with fail
  refine (sure_any tb (-1) T F wi HTi.out).mono ?_
  rintro e w' ⟨rfl, rfl⟩
  rw [← HSU.out]
  go_wp2_with fail
  refine (rsure_any rb (-1) T G wi HRi.out).mono ?_
  rintro e w' ⟨rfl, rfl⟩
  rw [← HSU.out]
  go_wp2_with fail
  clear hc1 hc2 HS HL HFT HSU
  rw [rounds_succ]
  go_wp2_with fail
  refine (read_at tb (0) T F wi HTi.out _ rfl).mono ?_
  rintro e wj ⟨A1, c1, rfl, hr1, hb1, _⟩
  have HTj := Lib.hid (HTi.out.below hb1)
  have HRj := Lib.hid (HRi.out.below hb1)
  have HBj := Lib.hid (HBi.out.trans (Below.up hb1 hBi))
  have hBj : B ≤ wj.heap.size := Nat.le_trans hBi hb1.size
  have HR1 := Lib.hid hr1
  obtain ⟨str, hstr⟩ : ∃ s, s = strB (T.read (0)) := ⟨_, rfl⟩
  obtain ⟨ln, hln⟩ : ∃ ln, ln = (T.read (0)).length := ⟨_, rfl⟩
  obtain ⟨ft, hft⟩ : ∃ ft, ft = faultN T.off (0) := ⟨_, rfl⟩
  rw [← hln, ← hft]
  have HS := Lib.hid hstr
  have HL := Lib.hid hln
  have HFT := Lib.hid hft
  clear hr1 hb1 HTi HRi HBi hBi hstr hln hft
  go_wp2_with fail
  refine (rread_at rb (0) T G wj HRj.out).mono ?_
  rintro e wi ⟨A2, c2, rfl, hr2, hb2⟩
  rw [← HL.out, ← HFT.out]
  have HTi := Lib.hid (HTj.out.below hb2)
  have HRi := Lib.hid (HRj.out.below hb2)
  have HBi := Lib.hid (HBj.out.trans (Below.up hb2 hBj))
  have hBi : B ≤ wi.heap.size := Nat.le_trans hBj hb2.size
  have hc1 := run_str (HR1.out.below hb2) ln c1 HL.out.symm
  have hc2 := run_str hr2 ln c2 HL.out.symm
  rw [← HS.out] at hc1 hc2
  obtain ⟨su, hsu⟩ : ∃ su, su = T.sure (0) := ⟨_, rfl⟩
  have HSU := Lib.hid hsu
  clear hb2 hr2 HTj HRj HBj hBj HR1 hsu
  go_wp2_with fail
  refine (sure_any tb (0) T F wi HTi.out).mono ?_
  rintro e w' ⟨rfl, rfl⟩
  rw [← HSU.out]
  go_wp2_with fail
  refine (rsure_any rb (0) T G wi HRi.out).mono ?_
  rintro e w' ⟨rfl, rfl⟩
  rw [← HSU.out]
  go_wp2_with fail
  clear hc1 hc2 HS HL HFT HSU
  rw [rounds_succ]
  go_wp2_with fail
  refine (read_at tb (1) T F wi HTi.out _ rfl).mono ?_
  rintro e wj ⟨A1, c1, rfl, hr1, hb1, _⟩
  have HTj := Lib.hid (HTi.out.below hb1)
  have HRj := Lib.hid (HRi.out.below hb1)
  have HBj := Lib.hid (HBi.out.trans (Below.up hb1 hBi))
  have hBj : B ≤ wj.heap.size := Nat.le_trans hBi hb1.size
  have HR1 := Lib.hid hr1
  obtain ⟨str, hstr⟩ : ∃ s, s = strB (T.read (1)) := ⟨_, rfl⟩
  obtain ⟨ln, hln⟩ : ∃ ln, ln = (T.read (1)).length := ⟨_, rfl⟩
  obtain ⟨ft, hft⟩ : ∃ ft, ft = faultN T.off (1) := ⟨_, rfl⟩
  rw [← hln, ← hft]
  have HS := Lib.hid hstr
  have HL := Lib.hid hln
  have HFT := Lib.hid hft
  clear hr1 hb1 HTi HRi HBi hBi hstr hln hft
  go_wp2_with fail
  refine (rread_at rb (1) T G wj HRj.out).mono ?_
  rintro e wi ⟨A2, c2, rfl, hr2, hb2⟩
  rw [← HL.out, ← HFT.out]
  have HTi := Lib.hid (HTj.out.below hb2)
  have HRi := Lib.hid (HRj.out.below hb2)
  have HBi := Lib.hid (HBj.out.trans (Below.up hb2 hBj))
  have hBi : B ≤ wi.heap.size := Nat.le_trans hBj hb2.size
  have hc1 := run_str (HR1.out.below hb2) ln c1 HL.out.symm
  have hc2 := run_str hr2 ln c2 HL.out.symm
  rw [← HS.out] at hc1 hc2
  obtain ⟨su, hsu⟩ : ∃ su, su = T.sure (1) := ⟨_, rfl⟩
  have HSU := Lib.hid hsu
  clear hb2 hr2 HTj HRj HBj hBj HR1 hsu
  go_wp2_with fail
  refine (sure_any tb (1) T F wi HTi.out).mono ?_
  rintro e w' ⟨rfl, rfl⟩
  rw [← HSU.out]
  go_wp2_with fail
  refine (rsure_any rb (1) T G wi HRi.out).mono ?_
  rintro e w' ⟨rfl, rfl⟩
  rw [← HSU.out]
  go_wp2_with fail
  clear hc1 hc2 HS HL HFT HSU
  rw [rounds_succ]
  go_wp2_with fail
  refine (read_at tb (2) T F wi HTi.out _ rfl).mono ?_
  rintro e wj ⟨A1, c1, rfl, hr1, hb1, _⟩
  have HTj := Lib.hid (HTi.out.below hb1)
  have HRj := Lib.hid (HRi.out.below hb1)
  have HBj := Lib.hid (HBi.out.trans (Below.up hb1 hBi))
  have hBj : B ≤ wj.heap.size := Nat.le_trans hBi hb1.size
  have HR1 := Lib.hid hr1
  obtain ⟨str, hstr⟩ : ∃ s, s = strB (T.read (2)) := ⟨_, rfl⟩
  obtain ⟨ln, hln⟩ : ∃ ln, ln = (T.read (2)).length := ⟨_, rfl⟩
  obtain ⟨ft, hft⟩ : ∃ ft, ft = faultN T.off (2) := ⟨_, rfl⟩
  rw [← hln, ← hft]
  have HS := Lib.hid hstr
  have HL := Lib.hid hln
  have HFT := Lib.hid hft
  clear hr1 hb1 HTi HRi HBi hBi hstr hln hft
  go_wp2_with fail
  refine (rread_at rb (2) T G wj HRj.out).mono ?_
  rintro e wi ⟨A2, c2, rfl, hr2, hb2⟩
  rw [← HL.out, ← HFT.out]
  have HTi := Lib.hid (HTj.out.below hb2)
  have HRi := Lib.hid (HRj.out.below hb2)
  have HBi := Lib.hid (HBj.out.trans (Below.up hb2 hBj))
  have hBi : B ≤ wi.heap.size := Nat.le_trans hBj hb2.size
  have hc1 := run_str (HR1.out.below hb2) ln c1 HL.out.symm
  have hc2 := run_str hr2 ln c2 HL.out.symm
  rw [← HS.out] at hc1 hc2
  obtain ⟨su, hsu⟩ : ∃ su, su = T.sure (2) := ⟨_, rfl⟩
  have HSU := Lib.hid hsu
  clear hb2 hr2 HTj HRj HBj hBj HR1 hsu
  go_wp2_with fail
  refine (sure_any tb (2) T F wi HTi.out).mono ?_
  rintro e w' ⟨rfl, rfl⟩
  rw [← HSU.out]
  go_wp2_with fail
  refine (rsure_any rb (2) T G wi HRi.out).mono ?_
  rintro e w' ⟨rfl, rfl⟩
  rw [← HSU.out]
  go_wp2_with fail
  clear hc1 hc2 HS HL HFT HSU
  rw [rounds_succ]
  go_wp2_with fail
  go_ret
  exact ⟨rfl, HBi.out⟩

end Go.Proofs.Ytnkenkdglcmpdaa
