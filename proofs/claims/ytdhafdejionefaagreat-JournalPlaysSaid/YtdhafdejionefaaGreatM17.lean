/- Parts: The document's journal: Sure. .. A journal and the document's side by side: the walk of open. -/
import Derived.Test.YtdhafdejionefaaGreatM16
import Derived.Test.YtdhafdejionefaaGreatM15
/- The document's journal: Sure. -/
namespace Go.Proofs.YtdhafdejionefaaGreat
set_option linter.unusedVariables false
set_option linter.unusedSimpArgs false
open Go.RowKit

variable {w : World} {rj rb : Nat} {J : JS} {T : TS} {F : Nat → Prop}
set_option maxRecDepth 100000 in
set_option maxHeartbeats 2000000 in
theorem rjsure_any (h : RJ w rj rb J T F) (ha : J.area = 0 ∨ J.area = 1) : Calls Tryz.prog 14 #[.pointer (some ⟨rj, 0, none⟩)] w fun e w' => e = .returned (.bool (T.sure J.area == ((T.b J.area).length : Int))) ∧ Below w.heap.size w w' := by
  have c0 := h.c0
  have c1 := h.c1
  have H := Lib.hid h
  obtain ⟨l, k, u0, u1, t⟩ := h.tape
  have l0 := t.len0
  have l1 := t.len1
  obtain ⟨A0, d0, rfl, _⟩ := t.o0.reads' (by omega)
  obtain ⟨A1, d1, rfl, _⟩ := t.o1.reads' (by omega)
  have h1 : w.cell? ⟨rb, 1, none⟩ = some (.slice A0 T.b0.length d0) := t.blk.cell 1
  have h2 : w.cell? ⟨rb, 2, none⟩ = some (.slice A1 T.b1.length d1) := t.blk.cell 2
  clear t h
  rcases ha with ha | ha
  · rw [ha] at c1 ⊢
    obtain ⟨s, hs⟩ : ∃ s, s = T.sure 0 := ⟨_, rfl⟩
    obtain ⟨n, hn⟩ : ∃ n, n = T.b0.length := ⟨_, rfl⟩
    have hn' : (T.b 0).length = n := hn.symm
    rw [hn', ← hs]
    rw [← hn] at h1
    have HS := Lib.hid hs
    clear hs hn hn'
    go_enter Tryz.func14, Tryz.ntmps14
    go_wp2_with fail
    refine wp_region_phased (fun W => W.cell? ⟨rj, 0, none⟩ = some (.pointer (some ⟨rb, 0, none⟩)) ∧ W.cell? ⟨rj, 1, none⟩ = some (.int .i64 0) ∧ W.cell? ⟨rb, 1, none⟩ = some (.slice A0 n d0)) 24 (by kernel_rfl) ⟨c0, c1, h1⟩ (fun hS => ?_)
    refine wpAnyP_pure (v := ?_) 0 (at_toArray rfl) (by kernel_rfl) (by kernel_rfl) (by kernel_rfl) (fun _ _ _ h => h) (Or.inl ⟨by rfl, fun W => ?_⟩) ?_
    rotate_left 1
    · (go_simp <;> (try go_bits) <;> with_reducible rfl)
    simp only [Act.put, List.setIfInBounds_toArray, List.set_cons_zero, List.set_cons_succ]
    refine wpAnyP_pure (v := ?_) 1 (at_toArray rfl) (by kernel_rfl) (by kernel_rfl) (by kernel_rfl) (fun _ _ _ h => h) (Or.inl ⟨by rfl, fun W => ?_⟩) ?_
    rotate_left 1
    · (go_simp <;> (try go_bits) <;> with_reducible rfl)
    simp only [Act.put, List.setIfInBounds_toArray, List.set_cons_zero, List.set_cons_succ]
    refine wpAnyP_pure (v := ?_) 2 (at_toArray rfl) (by kernel_rfl) (by kernel_rfl) (by kernel_rfl) (fun _ _ _ h => h) (Or.inl ⟨by rfl, fun W => ?_⟩) ?_
    rotate_left 1
    · (go_simp <;> (try go_bits) <;> with_reducible rfl)
    simp only [Act.put, List.setIfInBounds_toArray, List.set_cons_zero, List.set_cons_succ]
    refine wpAnyP_load (v := ?_) 3 (by kernel_rfl) (at_toArray rfl) (by kernel_rfl) (by kernel_rfl) (by kernel_rfl) (fun _ _ _ h => h) (by first | assumption | rfl) (Or.inl ⟨by rfl, fun W hS => ?_⟩) ?_
    rotate_left 1
    · (obtain ⟨_, _, _⟩ := hS; go_simp <;> (try go_bits) <;> with_reducible rfl)
    simp only [Act.put, List.setIfInBounds_toArray, List.set_cons_zero, List.set_cons_succ]
    refine wpAnyP_pure (v := ?_) 4 (at_toArray rfl) (by kernel_rfl) (by kernel_rfl) (by kernel_rfl) (fun _ _ _ h => h) (Or.inl ⟨by rfl, fun W => ?_⟩) ?_
    rotate_left 1
    · (go_simp <;> (try go_bits) <;> with_reducible rfl)
    simp only [Act.put, List.setIfInBounds_toArray, List.set_cons_zero, List.set_cons_succ]
    refine wpAnyP_pure (v := ?_) 5 (at_toArray rfl) (by kernel_rfl) (by kernel_rfl) (by kernel_rfl) (fun _ _ _ h => h) (Or.inl ⟨by rfl, fun W => ?_⟩) ?_
    rotate_left 1
    · (go_simp <;> (try go_bits) <;> with_reducible rfl)
    simp only [Act.put, List.setIfInBounds_toArray, List.set_cons_zero, List.set_cons_succ]
    refine wpAnyP_pure (v := ?_) 6 (at_toArray rfl) (by kernel_rfl) (by kernel_rfl) (by kernel_rfl) (fun _ _ _ h => h) (Or.inl ⟨by rfl, fun W => ?_⟩) ?_
    rotate_left 1
    · (go_simp <;> (try go_bits) <;> with_reducible rfl)
    simp only [Act.put, List.setIfInBounds_toArray, List.set_cons_zero, List.set_cons_succ]
    refine wpAnyP_load (v := ?_) 7 (by kernel_rfl) (at_toArray rfl) (by kernel_rfl) (by kernel_rfl) (by kernel_rfl) (fun _ _ _ h => h) (by first | assumption | rfl) (Or.inl ⟨by rfl, fun W hS => ?_⟩) ?_
    rotate_left 1
    · (obtain ⟨_, _, _⟩ := hS; go_simp <;> (try go_bits) <;> with_reducible rfl)
    simp only [Act.put, List.setIfInBounds_toArray, List.set_cons_zero, List.set_cons_succ]
    refine wpAnyP_pure (v := ?_) 9 (at_toArray rfl) (by kernel_rfl) (by kernel_rfl) (by kernel_rfl) (fun _ _ _ h => h) (Or.inl ⟨by rfl, fun W => ?_⟩) ?_
    rotate_left 1
    · (go_simp <;> (try go_bits) <;> with_reducible rfl)
    simp only [Act.put, List.setIfInBounds_toArray, List.set_cons_zero, List.set_cons_succ]
    refine wpAnyP_pure (v := ?_) 10 (at_toArray rfl) (by kernel_rfl) (by kernel_rfl) (by kernel_rfl) (fun _ _ _ h => h) (Or.inl ⟨by rfl, fun W => ?_⟩) ?_
    rotate_left 1
    · (go_simp <;> (try go_bits) <;> with_reducible rfl)
    simp only [Act.put, List.setIfInBounds_toArray, List.set_cons_zero, List.set_cons_succ]
    refine wpAnyP_pure (v := ?_) 11 (at_toArray rfl) (by kernel_rfl) (by kernel_rfl) (by kernel_rfl) (fun _ _ _ h => h) (Or.inl ⟨by rfl, fun W => ?_⟩) ?_
    rotate_left 1
    · (go_simp <;> (try go_bits) <;> with_reducible rfl)
    simp only [Act.put, List.setIfInBounds_toArray, List.set_cons_zero, List.set_cons_succ]
    refine wpAnyP_load (v := ?_) 12 (by kernel_rfl) (at_toArray rfl) (by kernel_rfl) (by kernel_rfl) (by kernel_rfl) (fun _ _ _ h => h) (by first | assumption | rfl) (Or.inl ⟨by rfl, fun W hS => ?_⟩) ?_
    rotate_left 1
    · (obtain ⟨_, _, _⟩ := hS; go_simp <;> (try go_bits) <;> with_reducible rfl)
    simp only [Act.put, List.setIfInBounds_toArray, List.set_cons_zero, List.set_cons_succ]
    refine wpAnyP_pure (v := ?_) 13 (at_toArray rfl) (by kernel_rfl) (by kernel_rfl) (by kernel_rfl) (fun _ _ _ h => h) (Or.inl ⟨by rfl, fun W => ?_⟩) ?_
    rotate_left 1
    · (go_simp <;> (try go_bits) <;> with_reducible rfl)
    simp only [Act.put, List.setIfInBounds_toArray, List.set_cons_zero, List.set_cons_succ]
    refine wpAnyP_pure (v := ?_) 14 (at_toArray rfl) (by kernel_rfl) (by kernel_rfl) (by kernel_rfl) (fun _ _ _ h => h) (Or.inl ⟨by rfl, fun W => ?_⟩) ?_
    rotate_left 1
    · (go_simp <;> (try go_bits) <;> with_reducible rfl)
    simp only [Act.put, List.setIfInBounds_toArray, List.set_cons_zero, List.set_cons_succ]
    refine wpAnyP_pure (v := ?_) 15 (at_toArray rfl) (by kernel_rfl) (by kernel_rfl) (by kernel_rfl) (fun _ _ _ h => h) (Or.inl ⟨by rfl, fun W => ?_⟩) ?_
    rotate_left 1
    · (go_simp <;> (try go_bits) <;> with_reducible rfl)
    simp only [Act.put, List.setIfInBounds_toArray, List.set_cons_zero, List.set_cons_succ]
    refine wpAnyP_load (v := ?_) 16 (by kernel_rfl) (at_toArray rfl) (by kernel_rfl) (by kernel_rfl) (by kernel_rfl) (fun _ _ _ h => h) (by first | assumption | rfl) (Or.inl ⟨by rfl, fun W hS => ?_⟩) ?_
    rotate_left 1
    · (obtain ⟨_, _, _⟩ := hS; go_simp <;> (try go_bits) <;> with_reducible rfl)
    simp only [Act.put, List.setIfInBounds_toArray, List.set_cons_zero, List.set_cons_succ]
    refine wpAnyP_pure (v := ?_) 17 (at_toArray rfl) (by kernel_rfl) (by kernel_rfl) (by kernel_rfl) (fun _ _ _ h => h) (Or.inl ⟨by rfl, fun W => ?_⟩) ?_
    rotate_left 1
    · (go_simp <;> (try go_bits) <;> with_reducible rfl)
    simp only [Act.put, List.setIfInBounds_toArray, List.set_cons_zero, List.set_cons_succ]
    refine wpAnyP_pure (v := ?_) 18 (at_toArray rfl) (by kernel_rfl) (by kernel_rfl) (by kernel_rfl) (fun _ _ _ h => h) (Or.inl ⟨by rfl, fun W => ?_⟩) ?_
    rotate_left 1
    · (go_simp <;> (try go_bits) <;> with_reducible rfl)
    simp only [Act.put, List.setIfInBounds_toArray, List.set_cons_zero, List.set_cons_succ]
    refine wpAnyP_pure (v := ?_) 19 (at_toArray rfl) (by kernel_rfl) (by kernel_rfl) (by kernel_rfl) (fun _ _ _ h => h) (Or.inl ⟨by rfl, fun W => ?_⟩) ?_
    rotate_left 1
    · (go_simp <;> (try go_bits) <;> with_reducible rfl)
    simp only [Act.put, List.setIfInBounds_toArray, List.set_cons_zero, List.set_cons_succ]
    refine wpAnyP_load (v := ?_) 20 (by kernel_rfl) (at_toArray rfl) (by kernel_rfl) (by kernel_rfl) (by kernel_rfl) (fun _ _ _ h => h) (by first | assumption | rfl) (Or.inl ⟨by rfl, fun W hS => ?_⟩) ?_
    rotate_left 1
    · (obtain ⟨_, _, _⟩ := hS; go_simp <;> (try go_bits) <;> with_reducible rfl)
    simp only [Act.put, List.setIfInBounds_toArray, List.set_cons_zero, List.set_cons_succ]
    refine wpAnyP_pure (v := ?_) 21 (at_toArray rfl) (by kernel_rfl) (by kernel_rfl) (by kernel_rfl) (fun _ _ _ h => h) (Or.inl ⟨by rfl, fun W => ?_⟩) ?_
    rotate_left 1
    · (go_simp <;> (try go_bits) <;> with_reducible rfl)
    simp only [Act.put, List.setIfInBounds_toArray, List.set_cons_zero, List.set_cons_succ]
    refine wpAnyP_one 8 (at_toArray rfl) (by kernel_rfl) rfl (fun K hK => ?_)
    go_wp2_with fail
    refine (rsure_any rb 0 T F _ (H.out.tape.below (Below.refl _ _).drew)).mono ?_
    rw [← HS.out]
    rintro e w1 ⟨rfl, rfl⟩
    go_wp2_with fail
    refine hK.out _ _ (fun _ h => h) ?_
    clear hK
    refine wpAnyP_pure (v := ?_) 22 (at_toArray rfl) (by kernel_rfl) (by kernel_rfl) (by kernel_rfl) (fun _ _ _ h => h) (Or.inl ⟨by rfl, fun W => ?_⟩) ?_
    rotate_left 1
    · (go_simp <;> (try go_bits) <;> with_reducible rfl)
    simp only [Act.put, List.setIfInBounds_toArray, List.set_cons_zero, List.set_cons_succ]
    refine wpAnyP_pure (v := ?_) 23 (at_toArray rfl) (by kernel_rfl) (by kernel_rfl) (by kernel_rfl) (fun _ _ _ h => h) (Or.inl ⟨by rfl, fun W => ?_⟩) ?_
    rotate_left 1
    · (go_simp <;> (try go_bits) <;> with_reducible rfl)
    simp only [Act.put, List.setIfInBounds_toArray, List.set_cons_zero, List.set_cons_succ]
    refine wpAnyP_done (by kernel_rfl) ?_ _
    go_wp2_with fail
    go_ret
    exact ⟨rfl, (Below.refl _ _).drew⟩
  · rw [ha] at c1 ⊢
    obtain ⟨s, hs⟩ : ∃ s, s = T.sure 1 := ⟨_, rfl⟩
    obtain ⟨n, hn⟩ : ∃ n, n = T.b1.length := ⟨_, rfl⟩
    have hn' : (T.b 1).length = n := hn.symm
    rw [hn', ← hs]
    rw [← hn] at h2
    have HS := Lib.hid hs
    clear hs hn hn'
    go_enter Tryz.func14, Tryz.ntmps14
    go_wp2_with fail
    refine wp_region_phased (fun W => W.cell? ⟨rj, 0, none⟩ = some (.pointer (some ⟨rb, 0, none⟩)) ∧ W.cell? ⟨rj, 1, none⟩ = some (.int .i64 1) ∧ W.cell? ⟨rb, 2, none⟩ = some (.slice A1 n d1)) 24 (by kernel_rfl) ⟨c0, c1, h2⟩ (fun hS => ?_)
    refine wpAnyP_pure (v := ?_) 0 (at_toArray rfl) (by kernel_rfl) (by kernel_rfl) (by kernel_rfl) (fun _ _ _ h => h) (Or.inl ⟨by rfl, fun W => ?_⟩) ?_
    rotate_left 1
    · (go_simp <;> (try go_bits) <;> with_reducible rfl)
    simp only [Act.put, List.setIfInBounds_toArray, List.set_cons_zero, List.set_cons_succ]
    refine wpAnyP_pure (v := ?_) 1 (at_toArray rfl) (by kernel_rfl) (by kernel_rfl) (by kernel_rfl) (fun _ _ _ h => h) (Or.inl ⟨by rfl, fun W => ?_⟩) ?_
    rotate_left 1
    · (go_simp <;> (try go_bits) <;> with_reducible rfl)
    simp only [Act.put, List.setIfInBounds_toArray, List.set_cons_zero, List.set_cons_succ]
    refine wpAnyP_pure (v := ?_) 2 (at_toArray rfl) (by kernel_rfl) (by kernel_rfl) (by kernel_rfl) (fun _ _ _ h => h) (Or.inl ⟨by rfl, fun W => ?_⟩) ?_
    rotate_left 1
    · (go_simp <;> (try go_bits) <;> with_reducible rfl)
    simp only [Act.put, List.setIfInBounds_toArray, List.set_cons_zero, List.set_cons_succ]
    refine wpAnyP_load (v := ?_) 3 (by kernel_rfl) (at_toArray rfl) (by kernel_rfl) (by kernel_rfl) (by kernel_rfl) (fun _ _ _ h => h) (by first | assumption | rfl) (Or.inl ⟨by rfl, fun W hS => ?_⟩) ?_
    rotate_left 1
    · (obtain ⟨_, _, _⟩ := hS; go_simp <;> (try go_bits) <;> with_reducible rfl)
    simp only [Act.put, List.setIfInBounds_toArray, List.set_cons_zero, List.set_cons_succ]
    refine wpAnyP_pure (v := ?_) 4 (at_toArray rfl) (by kernel_rfl) (by kernel_rfl) (by kernel_rfl) (fun _ _ _ h => h) (Or.inl ⟨by rfl, fun W => ?_⟩) ?_
    rotate_left 1
    · (go_simp <;> (try go_bits) <;> with_reducible rfl)
    simp only [Act.put, List.setIfInBounds_toArray, List.set_cons_zero, List.set_cons_succ]
    refine wpAnyP_pure (v := ?_) 5 (at_toArray rfl) (by kernel_rfl) (by kernel_rfl) (by kernel_rfl) (fun _ _ _ h => h) (Or.inl ⟨by rfl, fun W => ?_⟩) ?_
    rotate_left 1
    · (go_simp <;> (try go_bits) <;> with_reducible rfl)
    simp only [Act.put, List.setIfInBounds_toArray, List.set_cons_zero, List.set_cons_succ]
    refine wpAnyP_pure (v := ?_) 6 (at_toArray rfl) (by kernel_rfl) (by kernel_rfl) (by kernel_rfl) (fun _ _ _ h => h) (Or.inl ⟨by rfl, fun W => ?_⟩) ?_
    rotate_left 1
    · (go_simp <;> (try go_bits) <;> with_reducible rfl)
    simp only [Act.put, List.setIfInBounds_toArray, List.set_cons_zero, List.set_cons_succ]
    refine wpAnyP_load (v := ?_) 7 (by kernel_rfl) (at_toArray rfl) (by kernel_rfl) (by kernel_rfl) (by kernel_rfl) (fun _ _ _ h => h) (by first | assumption | rfl) (Or.inl ⟨by rfl, fun W hS => ?_⟩) ?_
    rotate_left 1
    · (obtain ⟨_, _, _⟩ := hS; go_simp <;> (try go_bits) <;> with_reducible rfl)
    simp only [Act.put, List.setIfInBounds_toArray, List.set_cons_zero, List.set_cons_succ]
    refine wpAnyP_pure (v := ?_) 9 (at_toArray rfl) (by kernel_rfl) (by kernel_rfl) (by kernel_rfl) (fun _ _ _ h => h) (Or.inl ⟨by rfl, fun W => ?_⟩) ?_
    rotate_left 1
    · (go_simp <;> (try go_bits) <;> with_reducible rfl)
    simp only [Act.put, List.setIfInBounds_toArray, List.set_cons_zero, List.set_cons_succ]
    refine wpAnyP_pure (v := ?_) 10 (at_toArray rfl) (by kernel_rfl) (by kernel_rfl) (by kernel_rfl) (fun _ _ _ h => h) (Or.inl ⟨by rfl, fun W => ?_⟩) ?_
    rotate_left 1
    · (go_simp <;> (try go_bits) <;> with_reducible rfl)
    simp only [Act.put, List.setIfInBounds_toArray, List.set_cons_zero, List.set_cons_succ]
    refine wpAnyP_pure (v := ?_) 11 (at_toArray rfl) (by kernel_rfl) (by kernel_rfl) (by kernel_rfl) (fun _ _ _ h => h) (Or.inl ⟨by rfl, fun W => ?_⟩) ?_
    rotate_left 1
    · (go_simp <;> (try go_bits) <;> with_reducible rfl)
    simp only [Act.put, List.setIfInBounds_toArray, List.set_cons_zero, List.set_cons_succ]
    refine wpAnyP_load (v := ?_) 12 (by kernel_rfl) (at_toArray rfl) (by kernel_rfl) (by kernel_rfl) (by kernel_rfl) (fun _ _ _ h => h) (by first | assumption | rfl) (Or.inl ⟨by rfl, fun W hS => ?_⟩) ?_
    rotate_left 1
    · (obtain ⟨_, _, _⟩ := hS; go_simp <;> (try go_bits) <;> with_reducible rfl)
    simp only [Act.put, List.setIfInBounds_toArray, List.set_cons_zero, List.set_cons_succ]
    refine wpAnyP_pure (v := ?_) 13 (at_toArray rfl) (by kernel_rfl) (by kernel_rfl) (by kernel_rfl) (fun _ _ _ h => h) (Or.inl ⟨by rfl, fun W => ?_⟩) ?_
    rotate_left 1
    · (go_simp <;> (try go_bits) <;> with_reducible rfl)
    simp only [Act.put, List.setIfInBounds_toArray, List.set_cons_zero, List.set_cons_succ]
    refine wpAnyP_pure (v := ?_) 14 (at_toArray rfl) (by kernel_rfl) (by kernel_rfl) (by kernel_rfl) (fun _ _ _ h => h) (Or.inl ⟨by rfl, fun W => ?_⟩) ?_
    rotate_left 1
    · (go_simp <;> (try go_bits) <;> with_reducible rfl)
    simp only [Act.put, List.setIfInBounds_toArray, List.set_cons_zero, List.set_cons_succ]
    refine wpAnyP_pure (v := ?_) 15 (at_toArray rfl) (by kernel_rfl) (by kernel_rfl) (by kernel_rfl) (fun _ _ _ h => h) (Or.inl ⟨by rfl, fun W => ?_⟩) ?_
    rotate_left 1
    · (go_simp <;> (try go_bits) <;> with_reducible rfl)
    simp only [Act.put, List.setIfInBounds_toArray, List.set_cons_zero, List.set_cons_succ]
    refine wpAnyP_load (v := ?_) 16 (by kernel_rfl) (at_toArray rfl) (by kernel_rfl) (by kernel_rfl) (by kernel_rfl) (fun _ _ _ h => h) (by first | assumption | rfl) (Or.inl ⟨by rfl, fun W hS => ?_⟩) ?_
    rotate_left 1
    · (obtain ⟨_, _, _⟩ := hS; go_simp <;> (try go_bits) <;> with_reducible rfl)
    simp only [Act.put, List.setIfInBounds_toArray, List.set_cons_zero, List.set_cons_succ]
    refine wpAnyP_pure (v := ?_) 17 (at_toArray rfl) (by kernel_rfl) (by kernel_rfl) (by kernel_rfl) (fun _ _ _ h => h) (Or.inl ⟨by rfl, fun W => ?_⟩) ?_
    rotate_left 1
    · (go_simp <;> (try go_bits) <;> with_reducible rfl)
    simp only [Act.put, List.setIfInBounds_toArray, List.set_cons_zero, List.set_cons_succ]
    refine wpAnyP_pure (v := ?_) 18 (at_toArray rfl) (by kernel_rfl) (by kernel_rfl) (by kernel_rfl) (fun _ _ _ h => h) (Or.inl ⟨by rfl, fun W => ?_⟩) ?_
    rotate_left 1
    · (go_simp <;> (try go_bits) <;> with_reducible rfl)
    simp only [Act.put, List.setIfInBounds_toArray, List.set_cons_zero, List.set_cons_succ]
    refine wpAnyP_pure (v := ?_) 19 (at_toArray rfl) (by kernel_rfl) (by kernel_rfl) (by kernel_rfl) (fun _ _ _ h => h) (Or.inl ⟨by rfl, fun W => ?_⟩) ?_
    rotate_left 1
    · (go_simp <;> (try go_bits) <;> with_reducible rfl)
    simp only [Act.put, List.setIfInBounds_toArray, List.set_cons_zero, List.set_cons_succ]
    refine wpAnyP_load (v := ?_) 20 (by kernel_rfl) (at_toArray rfl) (by kernel_rfl) (by kernel_rfl) (by kernel_rfl) (fun _ _ _ h => h) (by first | assumption | rfl) (Or.inl ⟨by rfl, fun W hS => ?_⟩) ?_
    rotate_left 1
    · (obtain ⟨_, _, _⟩ := hS; go_simp <;> (try go_bits) <;> with_reducible rfl)
    simp only [Act.put, List.setIfInBounds_toArray, List.set_cons_zero, List.set_cons_succ]
    refine wpAnyP_pure (v := ?_) 21 (at_toArray rfl) (by kernel_rfl) (by kernel_rfl) (by kernel_rfl) (fun _ _ _ h => h) (Or.inl ⟨by rfl, fun W => ?_⟩) ?_
    rotate_left 1
    · (go_simp <;> (try go_bits) <;> with_reducible rfl)
    simp only [Act.put, List.setIfInBounds_toArray, List.set_cons_zero, List.set_cons_succ]
    refine wpAnyP_one 8 (at_toArray rfl) (by kernel_rfl) rfl (fun K hK => ?_)
    go_wp2_with fail
    refine (rsure_any rb 1 T F _ (H.out.tape.below (Below.refl _ _).drew)).mono ?_
    rw [← HS.out]
    rintro e w1 ⟨rfl, rfl⟩
    go_wp2_with fail
    refine hK.out _ _ (fun _ h => h) ?_
    clear hK
    refine wpAnyP_pure (v := ?_) 22 (at_toArray rfl) (by kernel_rfl) (by kernel_rfl) (by kernel_rfl) (fun _ _ _ h => h) (Or.inl ⟨by rfl, fun W => ?_⟩) ?_
    rotate_left 1
    · (go_simp <;> (try go_bits) <;> with_reducible rfl)
    simp only [Act.put, List.setIfInBounds_toArray, List.set_cons_zero, List.set_cons_succ]
    refine wpAnyP_pure (v := ?_) 23 (at_toArray rfl) (by kernel_rfl) (by kernel_rfl) (by kernel_rfl) (fun _ _ _ h => h) (Or.inl ⟨by rfl, fun W => ?_⟩) ?_
    rotate_left 1
    · (go_simp <;> (try go_bits) <;> with_reducible rfl)
    simp only [Act.put, List.setIfInBounds_toArray, List.set_cons_zero, List.set_cons_succ]
    refine wpAnyP_done (by kernel_rfl) ?_ _
    go_wp2_with fail
    go_ret
    exact ⟨rfl, (Below.refl _ _).drew⟩

end Go.Proofs.YtdhafdejionefaaGreat

/- A journal and its tape: what stays true whatever is done: plain Lean, no program in sight. -/
namespace Go.Proofs.YtdhafdejionefaaGreat
set_option linter.unusedVariables false
set_option linter.unusedSimpArgs false

/-- A tape without power has nothing that is not sure. -/
def Sealed (T : TS) : Prop := T.off = true → T.s0 = T.b0.length ∧ T.s1 = T.b1.length
/-- The bounds that count here. -/
structure Fits (T : TS) : Prop where
  s0 : T.s0 ≤ T.b0.length
  s1 : T.s1 ≤ T.b1.length
  fit : (T.used : Int) ≤ T.room
  room : T.room ≤ 1073741824
theorem TS.ok.fits {T : TS} (h : T.ok) : Fits T := ⟨h.s0, h.s1, h.fit, h.room⟩
theorem gone_sealed {T : TS} (h : Fits T) (k : Int) : Sealed (T.gone k) := fun _ => ⟨(keep_len T.b0 T.s0 k h.s0).symm, (keep_len T.b1 T.s1 k h.s1).symm⟩
/-- What an operation on an area comes to. -/
inductive Did (T : TS) (f : TS → TS) : Int × TS → Prop
  | did : Did T f (0, f T.step)
  | gone (k : Int) : Did T f (150, T.gone k)
theorem op_did (T : TS) (f : TS → TS) : Did T f (T.op f) := by
  unfold TS.op
  split
  · exact .did
  · split
    · exact .gone _
    · exact .did
theorem faultN_on {a : Int} (ha : a = 0 ∨ a = 1) : faultN false a = 0 := by unfold faultN; rw [if_pos ha]; rfl
theorem faultN_bad {o : Bool} {a : Int} (ha : ¬ (a = 0 ∨ a = 1)) : faultN o a = 2 := by unfold faultN; rw [if_neg ha]
theorem faultN_dark {a : Int} (ha : a = 0 ∨ a = 1) : faultN true a = 150 := by unfold faultN; rw [if_pos ha]; rfl
theorem append_cases (T : TS) (a : Int) (xs : List UInt8) : ((T.append a xs).2 = T ∧ (T.append a xs).1 ≠ 0) ∨ (T.off = false ∧ (a = 0 ∨ a = 1) ∧ (T.used + xs.length : Int) ≤ T.room ∧ Did T (fun T => T.app a xs) (T.append a xs)) := by
  unfold TS.append
  by_cases h : faultN T.off a = 0
  · rw [if_neg (by simp [h])]
    obtain ⟨h1, h2⟩ := fault_zero h
    by_cases hr : T.room - (T.used : Int) < (xs.length : Int)
    · rw [if_pos hr]; exact .inl ⟨rfl, by simp⟩
    · rw [if_neg hr]; exact .inr ⟨h1, h2, by omega, op_did _ _⟩
  · rw [if_pos h]; exact .inl ⟨rfl, h⟩
theorem sync_cases (T : TS) (a : Int) : ((T.sync a).2 = T ∧ (T.sync a).1 ≠ 0) ∨ (T.off = false ∧ (a = 0 ∨ a = 1) ∧ Did T (fun T => T.syn a) (T.sync a)) := by
  unfold TS.sync
  by_cases h : faultN T.off a = 0
  · rw [if_neg (by simp [h])]
    obtain ⟨h1, h2⟩ := fault_zero h
    exact .inr ⟨h1, h2, op_did _ _⟩
  · rw [if_pos h]; exact .inl ⟨rfl, h⟩
theorem clear_cases (T : TS) (a : Int) : ((T.clear a).2 = T ∧ (T.clear a).1 ≠ 0) ∨ (T.off = false ∧ (a = 0 ∨ a = 1) ∧ Did T (fun T => T.clr a) (T.clear a)) := by
  unfold TS.clear
  by_cases h : faultN T.off a = 0
  · rw [if_neg (by simp [h])]
    obtain ⟨h1, h2⟩ := fault_zero h
    exact .inr ⟨h1, h2, op_did _ _⟩
  · rw [if_pos h]; exact .inl ⟨rfl, h⟩
theorem app_off (T : TS) (a : Int) (xs : List UInt8) : (T.app a xs).off = T.off ∧ (T.app a xs).fails = T.fails ∧ (T.app a xs).room = T.room ∧ (T.app a xs).s0 = T.s0 ∧ (T.app a xs).s1 = T.s1 := by
  unfold TS.app; split <;> exact ⟨rfl, rfl, rfl, rfl, rfl⟩
theorem syn_off (T : TS) (a : Int) : (T.syn a).off = T.off ∧ (T.syn a).fails = T.fails ∧ (T.syn a).room = T.room ∧ (T.syn a).b0 = T.b0 ∧ (T.syn a).b1 = T.b1 := by
  unfold TS.syn; split <;> exact ⟨rfl, rfl, rfl, rfl, rfl⟩
theorem clr_off (T : TS) (a : Int) : (T.clr a).off = T.off ∧ (T.clr a).fails = T.fails ∧ (T.clr a).room = T.room := by
  unfold TS.clr; split <;> exact ⟨rfl, rfl, rfl⟩
theorem Sealed.of_on {T : TS} (h : T.off = false) : Sealed T := fun h' => by rw [h] at h'; cases h'
theorem append_sealed {T : TS} (hf : Fits T) (h : Sealed T) (a : Int) (xs : List UInt8) : Sealed (T.append a xs).2 := by
  rcases append_cases T a xs with ⟨h1, _⟩ | ⟨h1, _, _, h2⟩
  · rw [h1]; exact h
  · generalize T.append a xs = r at h2 ⊢
    cases h2 with
    | did => exact Sealed.of_on ((app_off T.step a xs).1.trans h1)
    | gone k => exact gone_sealed hf k
theorem sync_sealed {T : TS} (hf : Fits T) (h : Sealed T) (a : Int) : Sealed (T.sync a).2 := by
  rcases sync_cases T a with ⟨h1, _⟩ | ⟨h1, _, h2⟩
  · rw [h1]; exact h
  · generalize T.sync a = r at h2 ⊢
    cases h2 with
    | did => exact Sealed.of_on ((syn_off T.step a).1.trans h1)
    | gone k => exact gone_sealed hf k
theorem clear_sealed {T : TS} (hf : Fits T) (h : Sealed T) (a : Int) : Sealed (T.clear a).2 := by
  rcases clear_cases T a with ⟨h1, _⟩ | ⟨h1, _, h2⟩
  · rw [h1]; exact h
  · generalize T.clear a = r at h2 ⊢
    cases h2 with
    | did => exact Sealed.of_on ((clr_off T.step a).1.trans h1)
    | gone k => exact gone_sealed hf k
theorem gone_fits {T : TS} (h : Fits T) (k : Int) : Fits (T.gone k) := by
  have h0 := keep_len T.b0 T.s0 k h.s0
  have h1 := keep_len T.b1 T.s1 k h.s1
  have l0 : (T.b0.take (keepN T.b0 T.s0 k)).length ≤ T.b0.length := by rw [List.length_take]; omega
  have l1 : (T.b1.take (keepN T.b1 T.s1 k)).length ≤ T.b1.length := by rw [List.length_take]; omega
  refine ⟨Nat.le_of_eq h0.symm, Nat.le_of_eq h1.symm, ?_, h.room⟩
  have hf := h.fit
  unfold TS.used at hf
  show ((((T.b0.take (keepN T.b0 T.s0 k)).length + (T.b1.take (keepN T.b1 T.s1 k)).length : Nat) : Int)) ≤ T.room
  omega
theorem append_fits {T : TS} (hf : Fits T) (a : Int) (xs : List UInt8) : Fits (T.append a xs).2 := by
  rcases append_cases T a xs with ⟨h1, _⟩ | ⟨h1, ha, hr, h2⟩
  · rw [h1]; exact hf
  · generalize T.append a xs = r at h2 ⊢
    cases h2 with
    | did =>
      have e0 := hf.s0
      have e1 := hf.s1
      unfold TS.used at hr
      rcases ha with rfl | rfl
      · refine ⟨?_, e1, ?_, hf.room⟩
        · show T.s0 ≤ (T.b0 ++ xs).length
          rw [List.length_append]; omega
        · show ((((T.b0 ++ xs).length + T.b1.length : Nat) : Int)) ≤ T.room
          rw [List.length_append]; omega
      · refine ⟨e0, ?_, ?_, hf.room⟩
        · show T.s1 ≤ (T.b1 ++ xs).length
          rw [List.length_append]; omega
        · show ((((T.b0).length + (T.b1 ++ xs).length : Nat) : Int)) ≤ T.room
          rw [List.length_append]; omega
    | gone k => exact gone_fits hf k
theorem sync_fits {T : TS} (hf : Fits T) (a : Int) : Fits (T.sync a).2 := by
  rcases sync_cases T a with ⟨h1, _⟩ | ⟨h1, ha, h2⟩
  · rw [h1]; exact hf
  · generalize T.sync a = r at h2 ⊢
    cases h2 with
    | did =>
      rcases ha with rfl | rfl
      · exact ⟨Nat.le_refl _, hf.s1, hf.fit, hf.room⟩
      · exact ⟨hf.s0, Nat.le_refl _, hf.fit, hf.room⟩
    | gone k => exact gone_fits hf k
theorem clear_fits {T : TS} (hf : Fits T) (a : Int) : Fits (T.clear a).2 := by
  rcases clear_cases T a with ⟨h1, _⟩ | ⟨h1, ha, h2⟩
  · rw [h1]; exact hf
  · generalize T.clear a = r at h2 ⊢
    have h3 := hf.fit
    unfold TS.used at h3
    cases h2 with
    | did =>
      rcases ha with rfl | rfl
      · refine ⟨Nat.le_refl _, hf.s1, ?_, hf.room⟩
        show ((((([] : List UInt8)).length + T.b1.length : Nat) : Int)) ≤ T.room
        simp; omega
      · refine ⟨hf.s0, Nat.le_refl _, ?_, hf.room⟩
        show (((T.b0.length + ([] : List UInt8).length : Nat) : Int)) ≤ T.room
        simp; omega
    | gone k => exact gone_fits hf k
/-- What lasts while records are laid onto area a: power is gone, or the other area is as it was. -/
structure Lays (a : Int) (T : TS) (s : Int × Int × TS) : Prop where
  fits : Fits s.2.2
  sealed : Sealed s.2.2
  rest : (s.2.2.off = true ∧ s.2.1 ≠ 0) ∨ (s.2.2.off = false ∧ s.2.2.fails = T.fails ∧ s.2.2.b (1 - a) = T.b (1 - a) ∧ (s.2.1 = 0 → s.1 = ((s.2.2.b a).length : Int)))
theorem b_len {T : TS} (h : Fits T) (a : Int) : (T.b a).length ≤ 1073741824 := by
  have h1 := h.fit
  have h2 := h.room
  unfold TS.used at h1
  unfold TS.b
  split
  · omega
  · split
    · omega
    · simp
theorem app_b {T : TS} {a : Int} (ha : a = 0 ∨ a = 1) (xs : List UInt8) : (T.app a xs).b a = T.b a ++ xs ∧ (T.app a xs).b (1 - a) = T.b (1 - a) := by
  rcases ha with rfl | rfl <;> exact ⟨rfl, rfl⟩
theorem clr_b {T : TS} {a : Int} (ha : a = 0 ∨ a = 1) : (T.clr a).b a = [] ∧ (T.clr a).b (1 - a) = T.b (1 - a) := by
  rcases ha with rfl | rfl <;> exact ⟨rfl, rfl⟩
theorem syn_b {T : TS} (a c : Int) : (T.syn a).b c = T.b c := by
  unfold TS.syn; split <;> rfl
theorem Lays.put {a : Int} {T : TS} {s : Int × Int × TS} (ha : a = 0 ∨ a = 1) (h : Lays a T s) (f : List UInt8) (hf : f.length ≤ 1000000000) : Lays a T (layPut a f s) := by
  unfold layPut
  by_cases h0 : s.2.1 = 0
  · rw [if_pos h0]
    have hr := h.rest.resolve_left (fun h => h.2 h0)
    obtain ⟨r1, r2, r3, r4⟩ := hr
    have hl := b_len h.fits a
    refine ⟨append_fits h.fits a f, append_sealed h.fits h.sealed a f, ?_⟩
    simp only
    rcases append_cases s.2.2 a f with ⟨h1, h1'⟩ | ⟨h1, _, hrm, h2⟩
    · rw [h1]; exact .inr ⟨r1, r2, r3, fun h => absurd h h1'⟩
    · generalize s.2.2.append a f = r at h2 ⊢
      cases h2 with
      | did =>
        obtain ⟨o1, o2, _, _⟩ := app_off s.2.2.step a f
        obtain ⟨b1, b2⟩ := app_b (T := s.2.2.step) ha f
        refine .inr ⟨o1.trans r1, o2.trans r2, b2.trans r3, fun _ => ?_⟩
        simp only
        rw [b1, r4 h0, List.length_append, IntWalk.wrap64_in _ (by omega)]
        show _ = (((s.2.2.b a).length + f.length : Nat) : Int)
        omega
      | gone k => exact .inl ⟨rfl, by simp⟩
  · rw [if_neg h0]; exact h
theorem Lays.fold {a : Int} {T : TS} (ha : a = 0 ∨ a = 1) : ∀ (ls : List (List UInt8)) {s : Int × Int × TS}, Lays a T s → (∀ l ∈ ls, l.length ≤ 4194304) → Lays a T (layFold a ls s)
  | [], _, h, _ => h
  | l :: ls, s, h, hs => Lays.fold ha ls (Lays.put ha h (frameB 68 l) (by
      have hl := hs l (List.mem_cons_self ..)
      have := nbytes_small (n := l.length) (by omega)
      rw [frameB_len]; omega)) (fun x hx => hs x (List.mem_cons_of_mem _ hx))
theorem layN_lays {a : Int} {T : TS} {t : Int} {ls : List (List UInt8)} (ha : a = 0 ∨ a = 1) (hf : Fits T) (hs : Sealed T) (ho : T.off = false) (hl : ∀ l ∈ ls, l.length ≤ 4194304) (ht : 0 ≤ t ∧ t < 1099511627776) : Lays a T (layN T a t ls) := by
  unfold layN
  have hc : Lays a T (0, (T.clear a).1, (T.clear a).2) := by
    refine ⟨clear_fits hf a, clear_sealed hf hs a, ?_⟩
    simp only
    rcases clear_cases T a with ⟨h1, h1'⟩ | ⟨h1, _, h2⟩
    · rw [h1]; exact .inr ⟨ho, rfl, rfl, fun h => absurd h h1'⟩
    · generalize T.clear a = r at h2 ⊢
      cases h2 with
      | did =>
        obtain ⟨o1, o2, _⟩ := clr_off T.step a
        obtain ⟨b1, b2⟩ := clr_b (T := T.step) ha
        refine .inr ⟨o1.trans ho, o2, b2, fun _ => ?_⟩
        simp only
        rw [b1]; rfl
      | gone k => exact .inl ⟨rfl, by simp⟩
  by_cases h0 : (T.clear a).1 = 0
  · rw [if_neg (by simp [h0])]
    rw [h0] at hc
    have he : Lays a T (layEnd a t (layFold a ls (0, 0, (T.clear a).2))) := by
      unfold layEnd
      refine Lays.put ha (Lays.fold ha ls hc hl) _ ?_
      have h1 := putN_len (t + 1).toNat
      have h2 := nbytes_small (n := (t + 1).toNat) (by omega)
      have h3 := nbytes_small (n := (putN (t + 1).toNat).length) (by omega)
      rw [frameB_len]; omega
    generalize layEnd a t (layFold a ls (0, 0, (T.clear a).2)) = q at he ⊢
    by_cases hq : q.2.1 = 0
    · rw [if_pos hq]
      obtain ⟨r1, r2, r3, r4⟩ := he.rest.resolve_left (fun h => h.2 hq)
      refine ⟨sync_fits he.fits a, sync_sealed he.fits he.sealed a, ?_⟩
      simp only
      rcases sync_cases q.2.2 a with ⟨h1, h1'⟩ | ⟨h1, _, h2⟩
      · rw [h1]; exact .inr ⟨r1, r2, r3, fun h => absurd h h1'⟩
      · generalize q.2.2.sync a = r at h2 ⊢
        cases h2 with
        | did =>
          obtain ⟨o1, o2, _⟩ := syn_off q.2.2.step a
          refine .inr ⟨o1.trans r1, o2.trans r2, (syn_b _ _).trans r3, fun _ => ?_⟩
          simp only
          rw [syn_b]; exact r4 hq
        | gone k => exact .inl ⟨rfl, by simp⟩
    · rw [if_neg hq]; exact he
  · rw [if_pos h0]; exact hc
/-- A journal that knows how many bytes it has. -/
structure JT (J : JS) (T : TS) : Prop where
  ok : J.ok
  bytes : J.fault T = 0 → J.bytes = ((T.b J.area).length : Int)
structure Well (T : TS) : Prop where
  fits : Fits T
  sealed : Sealed T
theorem fault_cases (J : JS) (T : TS) : (J.fault T = 0 ∧ T.off = false ∧ T.fails = J.fails) ∨ J.fault T = 150 := by
  unfold JS.fault
  split
  · rename_i h; exact .inl ⟨rfl, h.1, h.2⟩
  · exact .inr rfl
theorem fault_dark {J : JS} {T : TS} (h : T.off = true) : J.fault T = 150 := by
  unfold JS.fault; rw [if_neg (by simp [h])]
/-- The journal's bytes are its area's. -/
theorem JT.len {J : JS} {T : TS} (h : JT J T) (hw : Well T) : J.len T = ((T.b J.area).length : Int) := by
  unfold JS.len
  by_cases h0 : J.fault T = 0
  · rw [if_pos h0]; exact h.bytes h0
  · rw [if_neg h0]
    unfold JS.left
    have ha := h.ok.area
    by_cases ho : T.off = true
    · rw [ho, faultN_dark ha, if_pos (by simp)]
      obtain ⟨s0, s1⟩ := hw.sealed ho
      rcases ha with e | e <;> rw [e]
      · show (T.s0 : Int) = (T.b0.length : Int); rw [s0]
      · show (T.s1 : Int) = (T.b1.length : Int); rw [s1]
    · have ho : T.off = false := by simpa using ho
      rw [ho, faultN_on ha, if_neg (by simp)]
      unfold TS.read
      rw [ho, if_pos (faultN_on ha)]
theorem jappend_well {J : JS} {T : TS} (hw : Well T) (xs : List UInt8) : Well (J.append T xs).2.1 := by
  unfold JS.append
  split
  · exact hw
  · split
    · exact hw
    · split
      · exact ⟨append_fits hw.fits _ _, append_sealed hw.fits hw.sealed _ _⟩
      · exact ⟨append_fits hw.fits _ _, append_sealed hw.fits hw.sealed _ _⟩
theorem jsync_well {J : JS} {T : TS} (hw : Well T) : Well (J.sync T).2.1 := by
  unfold JS.sync
  split
  · exact hw
  · exact ⟨sync_fits hw.fits _, sync_sealed hw.fits hw.sealed _⟩
theorem JT.append {J : JS} {T : TS} (h : JT J T) (hw : Well T) (xs : List UInt8) : JT (J.append T xs).2.2 (J.append T xs).2.1 := by
  unfold JS.append
  rcases fault_cases J T with ⟨h0, ho, hfl⟩ | h0
  · rw [if_neg (by simp [h0])]
    by_cases hl : 4194304 < xs.length
    · rw [if_pos hl]; exact h
    · rw [if_neg hl]
      have ha := h.ok.area
      have hb := h.bytes h0
      have hbl := b_len hw.fits J.area
      have hf : (frameB 68 xs).length ≤ 1000000000 := by
        have := nbytes_small (n := xs.length) (by omega)
        rw [frameB_len]; omega
      generalize frameB 68 xs = f at hf ⊢
      rcases append_cases T J.area f with ⟨h1, h1'⟩ | ⟨h1, _, hrm, h2⟩
      · rw [if_neg h1', h1]; exact h
      · generalize T.append J.area f = r at h2 ⊢
        cases h2 with
        | did =>
          rw [if_pos rfl]
          refine ⟨⟨ha, h.ok.turn⟩, fun _ => ?_⟩
          simp only
          rw [(app_b ha f).1, hb, IntWalk.wrap64_in _ (by omega), List.length_append]
          show _ = (((T.b J.area).length + f.length : Nat) : Int)
          omega
        | gone k =>
          rw [if_neg (by simp)]
          exact ⟨h.ok, fun hz => by rw [fault_dark rfl] at hz; cases hz⟩
  · rw [if_pos (by simp [h0])]; exact h
theorem JT.sync {J : JS} {T : TS} (h : JT J T) : JT (J.sync T).2.2 (J.sync T).2.1 := by
  unfold JS.sync
  rcases fault_cases J T with ⟨h0, ho, hfl⟩ | h0
  · rw [if_neg (by simp [h0])]
    have hb := h.bytes h0
    rcases sync_cases T J.area with ⟨h1, h1'⟩ | ⟨h1, _, h2⟩
    · rw [h1]; exact h
    · generalize T.sync J.area = r at h2 ⊢
      cases h2 with
      | did =>
        refine ⟨h.ok, fun _ => ?_⟩
        simp only
        rw [syn_b]; exact hb
      | gone k => exact ⟨h.ok, fun hz => by rw [fault_dark rfl] at hz; cases hz⟩
  · rw [if_pos (by simp [h0])]; exact h
theorem long_short {ls : List (List UInt8)} (h : ¬ long ls = true) : ∀ l ∈ ls, l.length ≤ 4194304 := fun l hl => by
  have h1 : long ls = false := by simpa using h
  unfold long at h1
  have := List.any_eq_false.1 h1 l hl
  simp at this; omega
/-- Records are laid anew: what it comes to. -/
theorem lay_all {J : JS} {T : TS} (hok : J.ok) (hw : Well T) (ls : List (List UInt8)) :
    Well (J.lay T ls).2.1 ∧ (JT J T ∨ (J.lay T ls).1 = 0 → JT (J.lay T ls).2.2 (J.lay T ls).2.1) ∧ (J.lay T ls).2.2.ok := by
  unfold JS.lay
  rcases fault_cases J T with ⟨h0, ho, hfl⟩ | h0
  · rw [if_neg (by simp [h0])]
    by_cases hl : long ls = true
    · rw [if_pos hl]; exact ⟨hw, fun h => h.elim id (fun h => by cases h), hok⟩
    · rw [if_neg hl]
      by_cases hm : 1099511627776 ≤ J.turn
      · rw [if_pos hm]; exact ⟨hw, fun h => h.elim id (fun h => by cases h), hok⟩
      · rw [if_neg hm]
        have hoa : 1 - J.area = 0 ∨ 1 - J.area = 1 := by have := hok.area; omega
        have hla := layN_lays (t := J.turn) hoa hw.fits hw.sealed ho (long_short hl) ⟨hok.turn.1, by omega⟩
        have e11 : 1 - (1 - J.area) = J.area := by omega
        generalize layN T (1 - J.area) J.turn ls = q at hla ⊢
        by_cases hq : q.2.1 = 0
        · rw [if_pos hq]
          obtain ⟨r1, r2, r3, r4⟩ := hla.rest.resolve_left (fun h => h.2 hq)
          have hk : JS.ok { J with area := 1 - J.area, turn := J.turn + 1, bytes := q.1 } := ⟨hoa, by have := hok.turn.1; simp only; omega, by simp only; omega⟩
          exact ⟨⟨hla.fits, hla.sealed⟩, fun _ => ⟨hk, fun _ => r4 hq⟩, hk⟩
        · rw [if_neg hq]
          have keep : JT J T → JT J q.2.2 := fun h => by
            rcases hla.rest with ⟨d, _⟩ | ⟨r1, r2, r3, r4⟩
            · exact ⟨hok, fun hz => by rw [fault_dark d] at hz; cases hz⟩
            · refine ⟨hok, fun _ => ?_⟩
              rw [e11] at r3
              rw [r3]; exact h.bytes h0
          by_cases hq1 : q.2.1 = 151
          · rw [if_pos hq1]
            refine ⟨⟨clear_fits hla.fits _, clear_sealed hla.fits hla.sealed _⟩, fun h => ?_, hok⟩
            have hne : ¬ (if (q.2.2.clear (1 - J.area)).1 ≠ 0 then (q.2.2.clear (1 - J.area)).1 else 151) = 0 := by
              split
              · assumption
              · simp
            have h := h.resolve_right hne
            have h2 := keep h
            simp only
            rcases clear_cases q.2.2 (1 - J.area) with ⟨h1, _⟩ | ⟨h1, _, h3⟩
            · rw [h1]; exact h2
            · generalize q.2.2.clear (1 - J.area) = r at h3 ⊢
              cases h3 with
              | did =>
                refine ⟨hok, fun hz => ?_⟩
                rcases hla.rest with ⟨d, _⟩ | ⟨r1, r2, r3, r4⟩
                · rw [d] at h1; cases h1
                · have hb := (clr_b (T := q.2.2.step) hoa).2
                  rw [e11] at hb r3
                  simp only
                  rw [hb]
                  show J.bytes = ((q.2.2.b J.area).length : Int)
                  rw [r3]; exact h.bytes h0
              | gone k => exact ⟨hok, fun hz => by rw [fault_dark rfl] at hz; cases hz⟩
          · rw [if_neg hq1]
            exact ⟨⟨hla.fits, hla.sealed⟩, fun h => keep (h.resolve_right hq), hok⟩
  · rw [if_pos (by simp [h0])]
    exact ⟨hw, fun h => h.resolve_right (by simp [h0]), hok⟩
theorem open_all {T : TS} (hw : Well T) : Well (openP T).2.1 ∧ ((openP T).1 = 0 → JT (openP T).2.2 (openP T).2.1) := by
  unfold openP
  by_cases ho : T.off = true
  · rw [if_pos ho]; exact ⟨hw, fun h => by cases h⟩
  · rw [if_neg ho]
    have hfo := (foundN_ok T 2 (Nat.le_refl _)).1
    obtain ⟨h1, h2, _⟩ := lay_all (J := (found T).1) hfo hw (found T).2
    exact ⟨h1, fun h => h2 (.inr h)⟩
theorem tappend_well {T : TS} (hw : Well T) (a : Int) (xs : List UInt8) : Well (T.append a xs).2 := ⟨append_fits hw.fits _ _, append_sealed hw.fits hw.sealed _ _⟩
theorem tclear_well {T : TS} (hw : Well T) (a : Int) : Well (T.clear a).2 := ⟨clear_fits hw.fits _, clear_sealed hw.fits hw.sealed _⟩
theorem tarm_well {T : TS} (hw : Well T) (n k : Int) : Well (T.arm n k).2 := by
  unfold TS.arm
  split
  · exact hw
  · split
    · exact hw
    · rename_i h
      exact ⟨⟨hw.fits.s0, hw.fits.s1, hw.fits.fit, hw.fits.room⟩, Sealed.of_on (by simpa using h)⟩
theorem JT.arm {J : JS} {T : TS} (h : JT J T) (n k : Int) : JT J (T.arm n k).2 := by
  unfold TS.arm
  split
  · exact h
  · split
    · exact h
    · exact ⟨h.ok, fun hz => h.bytes hz⟩
theorem tfail_well {T : TS} (hw : Well T) (k : Int) : Well { (T.fail k).2 with off := false } := by
  have h1 : Fits (T.fail k).2 := by
    unfold TS.fail
    split
    · exact hw.fits
    · exact gone_fits hw.fits k
  exact ⟨⟨h1.s0, h1.s1, h1.fit, h1.room⟩, Sealed.of_on rfl⟩
theorem new_well {room : Int} (h0 : 0 ≤ room) (h1 : room ≤ 1073741824) : Well (TS.new room) := ⟨⟨Nat.le_refl _, Nat.le_refl _, by simpa [TS.new, TS.used] using h0, h1⟩, Sealed.of_on rfl⟩

end Go.Proofs.YtdhafdejionefaaGreat

/- The walk of both: an act is done to a tape and to the document's. -/
namespace Go.Proofs.YtdhafdejionefaaGreat
set_option linter.unusedVariables false
set_option linter.unusedSimpArgs false
open Go.RowKit

/-- A tape that has T, the document's that has U; all of their blocks at B or behind it, none common. -/
structure Pair (B : Nat) (w : World) (tb rb : Nat) (T U : TS) (F G : Nat → Prop) : Prop where
  tape : TapeR w tb T F
  ref : RefR w rb U G
  apart : ∀ k, F k → ¬ G k
  fB : ∀ k, F k → B ≤ k
  gB : ∀ k, G k → B ≤ k
  size : B ≤ w.heap.size
section
variable {B : Nat} {w w' : World} {tb rb : Nat} {T U T' : TS} {F G F' : Nat → Prop}
theorem Pair.flt (h : Pair B w tb rb T U F G) : ∀ k, F k → k < w.heap.size := by obtain ⟨_, _, _, t⟩ := h.tape; exact t.flt
theorem Pair.glt (h : Pair B w tb rb T U F G) : ∀ k, G k → k < w.heap.size := by obtain ⟨_, _, _, _, t⟩ := h.ref; exact t.flt
theorem Pair.below (h : Pair B w tb rb T U F G) (hb : Below w.heap.size w w') : Pair B w' tb rb T U F G := ⟨h.tape.below hb, h.ref.below hb, h.apart, h.fB, h.gB, Nat.le_trans h.size hb.size⟩
theorem Pair.updT (h : Pair B w tb rb T U F G) (ht : TapeR w' tb T' F') (hu : Upd w w' F F') : Pair B w' tb rb T' U F' G ∧ Below B w w' :=
  ⟨⟨ht, h.ref.fr hu.fr (fun k hk hf => h.apart k hf hk), fun k hk hg => (hu.new k hk).elim (fun f => h.apart k f hg) (fun hl => by have := h.glt k hg; omega), (upd_below hu h.size h.fB).2, h.gB, Nat.le_trans h.size hu.fr.size⟩, (upd_below hu h.size h.fB).1⟩
theorem Pair.updR (h : Pair B w tb rb T U F G) (hr : RefR w' rb T' F') (hu : Upd w w' G F') : Pair B w' tb rb T T' F F' ∧ Below B w w' :=
  ⟨⟨h.tape.fr hu.fr (fun k hk hg => h.apart k hk hg), hr, fun k hk hg => (hu.new k hg).elim (fun g => h.apart k hk g) (fun hl => by have := h.flt k hk; omega), h.fB, (upd_below hu h.size h.gB).2, Nat.le_trans h.size hu.fr.size⟩, (upd_below hu h.size h.gB).1⟩
theorem Pair.other (h : Pair B w tb rb T U F G) (a : Addr) (v : Value) (hf : ¬ F a.block) (hg : ¬ G a.block) : Pair B (w.setCell a v) tb rb T U F G := by
  have hfr : Fr (fun k => k = a.block) w (w.setCell a v) := Fr.setCell _ w a v rfl
  exact ⟨h.tape.fr hfr (fun k hk e => hf (e ▸ hk)), h.ref.fr hfr (fun k hk e => hg (e ▸ hk)), h.apart, h.fB, h.gB, Nat.le_trans h.size hfr.size⟩
end
def BothPost (B : Nat) (w : World) (tb rb : Nat) (e : Ending) (w' : World) : Prop := e = .returned (.bool true) ∧ Below B w w' ∧ ∃ T F G, Pair B w' tb rb T T F G
theorem next_u8 (x : UInt8) : ((x.toNat : Int) + 1) % 256 = ((x + 1).toNat : Int) := by
  rw [UInt8.toNat_add]
  have := x.toNat_lt
  show ((x.toNat : Int) + 1) % 256 = (((x.toNat + 1) % 256 : Nat) : Int)
  omega

end Go.Proofs.YtdhafdejionefaaGreat

/- A journal and the document's side by side: the walk of open. -/
namespace Go.Proofs.YtdhafdejionefaaGreat
set_option linter.unusedVariables false
set_option linter.unusedSimpArgs false
open Go.RowKit

/-- The records that Open tells. -/
def gotL (T : TS) : List (List UInt8) := if (openP T).1 = 0 then (found T).2 else []
theorem gotL_len {w : World} {tb : Nat} {T : TS} {F : Nat → Prop} (h : TapeR w tb T F) : (gotL T).length ≤ 2000000000 := by
  obtain ⟨_, _, _, t⟩ := h
  have h1 := (foundN_ok T 2 (Nat.le_refl _)).2
  have r0 := TS.read_len t.wf 0
  have r1 := TS.read_len t.wf 1
  unfold gotL
  split
  · show (foundN T 2).2.length ≤ _
    omega
  · simp
def pat (o : Option Nat) : Value := .pointer (o.map fun b => ⟨b, 0, none⟩)
/-- What Open tells, whether it opens or not. -/
structure Opened (w : World) (tb : Nat) (F : Nat → Prop) (T : TS) (pj : Option Nat) (A : Option Addr) (w' : World) (F' : Nat → Prop) : Prop where
  tape : TapeR w' tb (openP T).2.1 F'
  upd : Upd w w' F F'
  recs : RLs w' (fun k => k < w.heap.size) A (gotL T)
  is : pj.isSome = decide ((openP T).1 = 0)
  j : ∀ jb, pj = some jb → w.heap.size ≤ jb ∧ ¬ F' jb ∧ Blk w' jb (jcells tb (openP T).2.2) 83
structure ROpened (w : World) (rb : Nat) (F : Nat → Prop) (T : TS) (pj : Option Nat) (A : Option Addr) (w' : World) (F' : Nat → Prop) : Prop where
  tape : RefR w' rb (openP T).2.1 F'
  upd : Upd w w' F F'
  recs : RLs w' (fun k => k < w.heap.size) A (gotL T)
  is : pj.isSome = decide ((openP T).1 = 0)
  j : ∀ rj, pj = some rj → w.heap.size ≤ rj ∧ ¬ F' rj ∧ Blk w' rj (rjcells rb (openP T).2.2) 47
theorem opened_any {w : World} {tb : Nat} {T : TS} {F : Nat → Prop} (h : TapeR w tb T F) : Calls Tryz.prog 19 #[.pointer (some ⟨tb, 0, none⟩)] w fun e w' =>
    ∃ pj A c F', e = .returned (.tuple #[pat pj, .slice A (gotL T).length c, .int .i64 (openP T).1]) ∧ Opened w tb F T pj A w' F' := by
  refine (jopenx_any h).mono ?_
  rintro e w' ⟨F', h⟩
  by_cases h0 : (openP T).1 = 0
  · rw [if_pos h0] at h
    obtain ⟨jb, A, c, rfl, hj, hb, hr, hu⟩ := h
    have hg : gotL T = (found T).2 := if_pos h0
    refine ⟨some jb, A, c, F', by rw [hg, h0]; rfl, hj.tape, ⟨hu.fr, fun k hk => hu.new k (.inl hk)⟩, by rw [hg]; exact hr.sub (fun k hk => .inr hk), by simp [h0], fun b hb' => ?_⟩
    cases hb'
    exact ⟨hb, hj.no, hj.blk⟩
  · rw [if_neg h0] at h
    obtain ⟨rfl, ht, hu⟩ := h
    have hg : gotL T = [] := if_neg h0
    exact ⟨none, none, 0, F', by rw [hg]; rfl, ht, hu, by rw [hg]; exact RLs.nil _ _ _, by simp [h0], fun b hb' => by cases hb'⟩
theorem ropened_any {w : World} {rb : Nat} {T : TS} {F : Nat → Prop} (h : RefR w rb T F) : Calls Tryz.prog 24 #[.pointer (some ⟨rb, 0, none⟩)] w fun e w' =>
    ∃ pj A c F', e = .returned (.tuple #[pat pj, .slice A (gotL T).length c, .int .i64 (openP T).1]) ∧ ROpened w rb F T pj A w' F' := by
  refine (rjopen_any h).mono ?_
  rintro e w' ⟨F', h⟩
  by_cases h0 : (openP T).1 = 0
  · rw [if_pos h0] at h
    obtain ⟨jb, A, c, rfl, hj, hb, hr, hu⟩ := h
    have hg : gotL T = (found T).2 := if_pos h0
    refine ⟨some jb, A, c, F', by rw [hg, h0]; rfl, hj.tape, ⟨hu.fr, fun k hk => hu.new k (.inl hk)⟩, by rw [hg]; exact hr.sub (fun k hk => .inr hk), by simp [h0], fun b hb' => ?_⟩
    cases hb'
    exact ⟨hb, hj.no, hj.blk⟩
  · rw [if_neg h0] at h
    obtain ⟨rfl, ht, hu⟩ := h
    have hg : gotL T = [] := if_neg h0
    exact ⟨none, none, 0, F', by rw [hg]; rfl, ht, hu, by rw [hg]; exact RLs.nil _ _ _, by simp [h0], fun b hb' => by cases hb'⟩

def bcells (tb rb : Nat) (pj pr : Option Nat) : Array Value := #[.pointer (some ⟨tb, 0, none⟩), pat pj, .pointer (some ⟨rb, 0, none⟩), pat pr]
/-- The two journals, opened. -/
structure Js (B : Nat) (w : World) (tb rb jb rj : Nat) (J : JS) (T : TS) (F G : Nat → Prop) : Prop where
  blk : Blk w jb (jcells tb J) 83
  ref : Blk w rj (rjcells rb J) 47
  jf : ¬ F jb
  jg : ¬ G jb
  rf : ¬ F rj
  rg : ¬ G rj
  jB : B ≤ jb
  rB : B ≤ rj
  jt : JT J T
/-- Block bb holds a journal and the document's, on their tapes that both have T; or none. -/
structure Bth (B : Nat) (w : World) (bb tb rb : Nat) (T : TS) (F G : Nat → Prop) (jo : Option (Nat × Nat × JS)) : Prop where
  blk : Blk w bb (bcells tb rb (jo.map (·.1)) (jo.map (·.2.1))) 34
  pair : Pair B w tb rb T T F G
  nf : ¬ F bb
  ng : ¬ G bb
  bB : B ≤ bb
  well : Well T
  js : ∀ jb rj J, jo = some (jb, rj, J) → Js B w tb rb jb rj J T F G
theorem Js.below {B : Nat} {w w' : World} {tb rb jb rj : Nat} {J : JS} {T : TS} {F G : Nat → Prop} (h : Js B w tb rb jb rj J T F G) (hb : Below w.heap.size w w') : Js B w' tb rb jb rj J T F G :=
  ⟨h.blk.below hb, h.ref.below hb, h.jf, h.jg, h.rf, h.rg, h.jB, h.rB, h.jt⟩
theorem Bth.below {B : Nat} {w w' : World} {bb tb rb : Nat} {T : TS} {F G : Nat → Prop} {jo : Option (Nat × Nat × JS)} (h : Bth B w bb tb rb T F G jo) (hb : Below w.heap.size w w') : Bth B w' bb tb rb T F G jo :=
  ⟨h.blk.below hb, h.pair.below hb, h.nf, h.ng, h.bB, h.well, fun jb rj J hj => (h.js jb rj J hj).below hb⟩
def ActPost (B : Nat) (w : World) (bb tb rb : Nat) (e : Ending) (w' : World) : Prop := e = .returned (.bool true) ∧ Below B w w' ∧ ∃ T F G jo, Bth B w' bb tb rb T F G jo
def FGb (F G : Nat → Prop) (bb : Nat) : Nat → Prop := fun k => F k ∨ G k ∨ k = bb
def BopenPost (B : Nat) (w : World) (bb tb rb : Nat) (F G : Nat → Prop) (e : Ending) (w' : World) : Prop := e = .returned (.bool true) ∧ Below B w w' ∧ Fr (FGb F G bb) w w' ∧ ∃ T F G jo, Bth B w' bb tb rb T F G jo
set_option maxRecDepth 100000 in
set_option maxHeartbeats 8000000 in
theorem bopen_any (B bb tb rb : Nat) (T : TS) (F G : Nat → Prop) (pj pr : Option Nat) (w : World) (h : Pair B w tb rb T T F G) (hbk : Blk w bb (bcells tb rb pj pr) 34) (hnf : ¬ F bb) (hng : ¬ G bb) (hbB : B ≤ bb) (hw : Well T) :
    Calls Tryz.prog 8 #[.pointer (some ⟨bb, 0, none⟩)] w (BopenPost B w bb tb rb F G) := by
  have hll := gotL_len h.tape
  have HO := Lib.hid (open_all hw)
  have H := Lib.hid h
  have HBK := Lib.hid hbk
  have c0 : w.cell? ⟨bb, 0, none⟩ = some (.pointer (some ⟨tb, 0, none⟩)) := hbk.cell 0
  have hbl := hbk.lt
  have HNF := Lib.hid hnf
  have HNG := Lib.hid hng
  obtain ⟨ls, hls⟩ : ∃ ls, ls = gotL T := ⟨_, rfl⟩
  obtain ⟨n, hn⟩ : ∃ n, n = ls.length := ⟨_, rfl⟩
  obtain ⟨p, hp⟩ : ∃ p, p = (openP T).1 := ⟨_, rfl⟩
  have HLS := Lib.hid hls
  have HN := Lib.hid hn
  have HP := Lib.hid hp
  rw [← hls, ← hn] at hll
  have HJ := opened_any H.out.tape
  rw [← hls, ← hn, ← hp] at HJ
  have HJ := Lib.hid HJ
  have HR : Hid (∀ w, RefR w rb T G → Calls Tryz.prog 24 #[.pointer (some ⟨rb, 0, none⟩)] w fun e w' => ∃ pj A c F', e = .returned (.tuple #[pat pj, .slice A n c, .int .i64 p]) ∧ ROpened w rb G T pj A w' F') := Lib.hid fun w h => by
    have := ropened_any h
    rwa [← hls, ← hn, ← hp] at this
  clear hw h hbk hnf hng hls hn hp
  go_enter Tryz.func8, Tryz.ntmps8
  go_wp2_with fail
  refine HJ.out.mono ?_
  rintro e w1 ⟨pj1, A1, cc1, F1, rfl, ho1⟩
  obtain ⟨hp1, hb1⟩ := H.out.updT ho1.tape ho1.upd
  have hbk1 := HBK.out.fr ho1.upd.fr HNF.out
  have d2 : w1.cell? ⟨bb, 2, none⟩ = some (.pointer (some ⟨rb, 0, none⟩)) := hbk1.cell 2
  have HO1 := Lib.hid ho1
  have HP1 := Lib.hid hp1
  have HB1 := Lib.hid hb1
  have HBK1 := Lib.hid hbk1
  clear ho1 hp1 hb1 hbk1 c0 HJ
  go_wp2_with fail
  refine (HR.out w1 HP1.out.ref).mono ?_
  rintro e w2 ⟨pr1, A2, cc2, G1, rfl, ho2⟩
  obtain ⟨hp2, hb2⟩ := HP1.out.updR ho2.tape ho2.upd
  have hbk2 := HBK1.out.fr ho2.upd.fr HNG.out
  have hX : ∀ k, G k → k < w.heap.size := H.out.glt
  have hs1 : w.heap.size ≤ w1.heap.size := HO1.out.upd.fr.size
  have hr1 : RLs w2 (fun k => k < w.heap.size) A1 ls := by
    have := HO1.out.recs
    rw [← HLS.out] at this
    exact this.upd ⟨ho2.upd.fr.mono (fun i hi => .inl (hX i hi)), fun k h => .inl h⟩
  have hr2 : RLs w2 (fun k => k < w.heap.size) A2 ls := by
    have := ho2.recs
    rw [← HLS.out] at this
    exact this.sub (fun k hk => Nat.lt_of_lt_of_le hk hs1)
  obtain ⟨w3, hw3⟩ : ∃ w3, w3 = (w2.setCell ⟨bb, 1, none⟩ (pat pj1)).setCell ⟨bb, 3, none⟩ (pat pr1) := ⟨_, rfl⟩
  have hu3 : Fr (fun k => k = bb) w2 w3 := by
    rw [hw3]
    exact (Fr.setCell (fun k => k = bb) w2 ⟨bb, 1, none⟩ _ rfl).trans (Fr.setCell (fun k => k = bb) _ ⟨bb, 3, none⟩ _ rfl) (fun i h => .inl h)
  have hbk3 : Blk w3 bb (bcells tb rb pj1 pr1) 34 := by rw [hw3]; exact (hbk2.set 1 (pat pj1)).set 3 (pat pr1)
  have hb3 : Below B w2 w3 := by
    have := hp2.size
    exact ⟨hu3.os, hu3.tape, hu3.output, hu3.size, fun i hi => hu3.block i (by omega) (by omega)⟩
  have hnf1 : ¬ F1 bb := fun h => (HO1.out.upd.new bb h).elim HNF.out (fun h => by omega)
  have hng1 : ¬ G1 bb := fun h => (ho2.upd.new bb h).elim HNG.out (fun h => by omega)
  have hp3 : Pair B w3 tb rb (openP T).2.1 (openP T).2.1 F1 G1 :=
    ⟨hp2.tape.fr hu3 (fun k hk e => hnf1 (e ▸ hk)), hp2.ref.fr hu3 (fun k hk e => hng1 (e ▸ hk)), hp2.apart, hp2.fB, hp2.gB, Nat.le_trans hp2.size hu3.size⟩
  have hR1 : RLs w3 (fun k => k < w.heap.size) A1 ls := hr1.upd ⟨hu3.mono (fun i hi => .inl (by rw [hi]; exact hbl)), fun k h => .inl h⟩
  have hR2 : RLs w3 (fun k => k < w.heap.size) A2 ls := hr2.upd ⟨hu3.mono (fun i hi => .inl (by rw [hi]; exact hbl)), fun k h => .inl h⟩
  have hlt1 : ∀ jb, pj1 = some jb → jb < w1.heap.size := fun jb hj => (HO1.out.j jb hj).2.2.lt
  have hB := H.out.size
  have hjs : ∀ jb rj, pj1 = some jb → pr1 = some rj → Js B w3 tb rb jb rj (openP T).2.2 (openP T).2.1 F1 G1 := fun jb rj hj hr => by
    obtain ⟨j1, j2, j3⟩ := HO1.out.j jb hj
    obtain ⟨r1, r2, r3⟩ := ho2.j rj hr
    have hjg : ¬ G jb := fun h => by have := hX _ h; omega
    have jl := j3.lt
    have h0 : (openP T).1 = 0 := by have := HO1.out.is; rw [hj] at this; simpa using this.symm
    refine ⟨(j3.fr ho2.upd.fr hjg).fr hu3 (by omega), r3.fr hu3 (by omega), j2, fun h => (ho2.upd.new jb h).elim hjg (fun h => by omega), fun h => ?_, r2, by omega, by omega, HO.out.2 h0⟩
    have := HP1.out.flt _ h
    omega
  have hfin : ∀ jo : Option (Nat × Nat × JS), jo.map (·.1) = pj1 → jo.map (·.2.1) = pr1 → (∀ jb rj J, jo = some (jb, rj, J) → J = (openP T).2.2) → Bth B w3 bb tb rb (openP T).2.1 F1 G1 jo := fun jo e1 e2 e3 =>
    ⟨by rw [e1, e2]; exact hbk3, hp3, hnf1, hng1, hbB, HO.out.1, fun jb rj J hj => by
      have := e3 jb rj J hj
      subst this
      subst hj
      exact hjs jb rj e1.symm e2.symm⟩
  have HB3 := Lib.hid ((HB1.out.trans hb2).trans hb3)
  have HF3 : Hid (Fr (FGb F G bb) w w3) := Lib.hid ((((HO1.out.upd.fr.mono (G := FGb F G bb) (fun i h => .inl (.inl h))).trans ho2.upd.fr (fun i h => .inl (.inr (.inl h)))).trans hu3 (fun i h => .inl (.inr (.inr h)))))
  have HFIN := Lib.hid hfin
  have HR1 := Lib.hid hR1
  have HR2 := Lib.hid hR2
  have hB3 : B ≤ w3.heap.size := hp3.size
  have his1 := HO1.out.is
  have his2 := ho2.is
  rw [← HP.out] at his1 his2
  have HW3 := Lib.hid hw3
  have g1 := hbk2.free 1
  have g3 : (w2.setCell ⟨bb, 1, none⟩ (pat pj1)).frozen? ⟨bb, 3, none⟩ = false := (hbk2.set 1 (pat pj1)).free 3
  have q1 : w2.cell? ⟨bb, 1, none⟩ = some (pat pj) := hbk2.cell 1
  have q3 : w2.cell? ⟨bb, 3, none⟩ = some (pat pr) := hbk2.cell 3
  clear hX hr1 hr2 hw3 hu3 hbk3 hb3 hnf1 hng1 hp3 hR1 hR2 hlt1 hjs hfin hbk2 hp2 hb2 ho2 HO1 HP1 HB1 HBK1 HNF HNG HO H HBK d2 HR HJ
  by_cases h0 : p = 0
  · subst h0
    obtain ⟨jb, rfl⟩ := Option.isSome_iff_exists.1 (by rw [his1]; rfl : pj1.isSome = true)
    obtain ⟨rj, rfl⟩ := Option.isSome_iff_exists.1 (by rw [his2]; rfl : pr1.isSome = true)
    have HBT := Lib.hid (HFIN.out (some (jb, rj, (openP T).2.2)) rfl rfl (fun _ _ _ h => by cases h; rfl))
    clear HFIN his1 his2
    have HW3 := Lib.hid (show w3 = (w2.setCell ⟨bb, 1, none⟩ (.pointer (some ⟨jb, 0, none⟩))).setCell ⟨bb, 3, none⟩ (.pointer (some ⟨rj, 0, none⟩)) from HW3.out)
    have g4 : (w2.setCell ⟨bb, 1, none⟩ (.pointer (some ⟨jb, 0, none⟩))).frozen? ⟨bb, 3, none⟩ = false := g3
    rw [show pat (some jb) = .pointer (some ⟨jb, 0, none⟩) from rfl, show pat (some rj) = .pointer (some ⟨rj, 0, none⟩) from rfl]
    clear g3
    go_wp2_with fail
    rw [← HW3.out]
    have hsame := same16_any A1 A2 cc1 cc2 ls ls _ _ w3 HR1.out HR2.out (by rw [← HN.out]; exact hll)
    rw [← HN.out] at hsame
    refine hsame.mono ?_
    rintro e w4 ⟨rfl, hb4⟩
    have HBT4 := Lib.hid (HBT.out.below hb4)
    have HB4 := Lib.hid (HB3.out.trans (Below.up hb4 hB3))
    have HF4 := Lib.hid (HF3.out.trans (Fr.of_below (F := FGb F G bb) hb4) (fun i h => .inl h))
    rw [decide_eq_true rfl]
    clear hsame hb4 HBT HB3 HW3
    go_wp2_with fail
    go_ret
    exact ⟨rfl, HB4.out, HF4.out, _, _, _, _, HBT4.out⟩
  · obtain rfl : pj1 = none := by
      rw [decide_eq_false h0] at his1
      cases pj1 with
      | none => rfl
      | some x => cases his1
    obtain rfl : pr1 = none := by
      rw [decide_eq_false h0] at his2
      cases pr1 with
      | none => rfl
      | some x => cases his2
    have HBT := Lib.hid (HFIN.out none rfl rfl (fun _ _ _ h => by cases h))
    clear HFIN his1 his2
    have HW3 := Lib.hid (show w3 = (w2.setCell ⟨bb, 1, none⟩ (.pointer none)).setCell ⟨bb, 3, none⟩ (.pointer none) from HW3.out)
    have g4 : (w2.setCell ⟨bb, 1, none⟩ (.pointer none)).frozen? ⟨bb, 3, none⟩ = false := g3
    have h00 : (p == p) = true := by simp
    rw [show pat none = .pointer none from rfl]
    go_wp2_with fail
    rw [← HW3.out]
    have hsame := same16_any A1 A2 cc1 cc2 ls ls _ _ w3 HR1.out HR2.out (by rw [← HN.out]; exact hll)
    rw [← HN.out] at hsame
    refine hsame.mono ?_
    rintro e w4 ⟨rfl, hb4⟩
    have HBT4 := Lib.hid (HBT.out.below hb4)
    have HB4 := Lib.hid (HB3.out.trans (Below.up hb4 hB3))
    have HF4 := Lib.hid (HF3.out.trans (Fr.of_below (F := FGb F G bb) hb4) (fun i h => .inl h))
    rw [decide_eq_true rfl]
    clear hsame hb4 HBT HB3 HW3
    go_wp2_with fail
    go_ret
    exact ⟨rfl, HB4.out, HF4.out, _, _, _, _, HBT4.out⟩

end Go.Proofs.YtdhafdejionefaaGreat
