/- Parts: The walk of the document's gone. -/
import Derived.Test.YtdhafdejionefaaGreatM11
/- The walk of the document's gone. -/
namespace Go.Proofs.YtdhafdejionefaaGreat
set_option linter.unusedVariables false
set_option linter.unusedSimpArgs false
open Go.RowKit
attribute [local go_sem] max2_int min2_int max_two min_two min_four

def TS.cutA (T : TS) (keep : Int) : Nat → TS
  | 0 => T
  | 1 => { T with b0 := T.b0.take (keepN T.b0 T.s0 keep), s0 := keepN T.b0 T.s0 keep }
  | _ => { T with b0 := T.b0.take (keepN T.b0 T.s0 keep), s0 := keepN T.b0 T.s0 keep, b1 := T.b1.take (keepN T.b1 T.s1 keep), s1 := keepN T.b1 T.s1 keep }
/-- While gone cuts: j areas are cut. -/
def GoneW (w : World) (rb : Nat) (T : TS) (F : Nat → Prop) (keep : Int) (j : Nat) (wr : World) : Prop := ∃ F', RefR wr rb (T.cutA keep j) F' ∧ Upd w wr F F'
set_option maxRecDepth 100000 in
set_option maxHeartbeats 8000000 in
theorem rgone_any (rb : Nat) (keep : Int) (T : TS) (F : Nat → Prop) (w : World) (h : RefR w rb T F) :
    Calls Tryz.prog 54 #[.pointer (some ⟨rb, 0, none⟩), .int .i64 keep] w fun e w' => e = .returned (.tuple #[]) ∧ ∃ F', RefR w' rb (T.gone keep) F' ∧ Upd w w' F F' := by
  have H := Lib.hid h
  clear h
  go_enter Tryz.func54, Tryz.ntmps54
  go_wp2_with fail
  go_loopw [4] (fun i wr => ∃ j : Nat, j ≤ 2 ∧ i = .int .i64 j ∧ Hid (GoneW w rb T F keep j wr)) (fun i _ => 2 - (intOf i).toNat)
  case atStart => exact ⟨0, by omega, rfl, Lib.hid ⟨F, H.out, Upd.refl _ _⟩⟩
  case round =>
    clear H
    obtain ⟨j, hj, rfl, HG⟩ := hrel
    obtain ⟨F', ⟨l, k, u0, u1, h⟩, hu⟩ := HG.out
    have HU := Lib.hid hu
    clear hu HG
    rcases (show j = 0 ∨ j = 1 ∨ j = 2 by omega) with rfl | rfl | rfl
    · obtain ⟨T1, hT1⟩ : ∃ T1, T1 = T.cutA keep 0 := ⟨_, rfl⟩
      rw [← hT1] at h
      have hwf : T1.ok := h.wf
      have hs : T1.s0 ≤ T1.b0.length := hwf.s0
      have hl : T1.b0.length ≤ 1073741824 := h.len0
      obtain ⟨A, c, rfl, hr, hc, _⟩ := h.o0.reads' (by omega)
      have hnx : T.cutA keep 1 = { T1 with b0 := T1.b0.take (keepN T1.b0 T1.s0 keep), s0 := keepN T1.b0 T1.s0 keep } := by rw [hT1]; rfl
      obtain ⟨q, hq⟩ : ∃ q : Nat, min (max keep 0) ((T1.b0.length : Int) - (T1.s0 : Int)) = (q : Int) := Int.eq_ofNat_of_zero_le (by omega)
      have hkq : keepN T1.b0 T1.s0 keep = T1.s0 + q := by unfold keepN; rw [hq]; simp
      rw [hkq] at hnx
      obtain ⟨b, hb⟩ : ∃ b, b = T1.b0 := ⟨_, rfl⟩
      obtain ⟨s, hse⟩ : ∃ s, s = T1.s0 := ⟨_, rfl⟩
      obtain ⟨m, hm⟩ : ∃ m, s + q = m := ⟨_, rfl⟩
      obtain ⟨n, hn⟩ : ∃ n, n = b.length := ⟨_, rfl⟩
      have hoka : (b.take (s + q)).length = m → TS.ok { T1 with b0 := b.take (s + q) } := fun hlen => by
        have hfit := hwf.fit
        unfold TS.used at hfit
        refine ⟨by show T1.s0 ≤ (b.take (s + q)).length; omega, hwf.s1, ?_, hwf.room, hwf.left⟩
        show (((b.take (s + q)).length + T1.b1.length : Nat) : Int) ≤ T1.room
        have hlx : (b.take (s + q)).length ≤ b.length := by rw [List.length_take]; omega
        rw [hlen] at hlx ⊢
        rw [hb] at hlx
        omega
      have hokb : TS.ok { T1 with b0 := b.take (s + q), s0 := m } := by
        have hlen : (b.take (s + q)).length = m := by rw [List.length_take, hb, Nat.min_eq_left (by omega)]; exact hm
        have hfit := hwf.fit
        unfold TS.used at hfit
        refine ⟨by show m ≤ (b.take (s + q)).length; omega, hwf.s1, ?_, hwf.room, hwf.left⟩
        show (((b.take (s + q)).length + T1.b1.length : Nat) : Int) ≤ T1.room
        omega
      have HOKA := Lib.hid hoka
      have HOKB := Lib.hid hokb
      have HCUT : Hid (T.cutA keep 1 = { T1 with b0 := b.take (s + q), s0 := m }) := Lib.hid (by rw [hnx, hb, ← hm, hse])
      rw [← hb, ← hse] at hq
      rw [← hb] at hr hc hl hs
      rw [← hse] at hs
      have h' : RefAt wr rb T1 F' l k (.slice A T1.b0.length c) u1 := h
      rw [← hb] at h'
      rw [← hn] at hq hc hl hs h'
      have HQ : Hid (min (max keep 0) ((n : Int) - (s : Int)) = (q : Int)) := Lib.hid hq
      have hqn : s + q ≤ n := by omega
      have HN := Lib.hid hn
      have HR := Lib.hid hr
      have HSE := Lib.hid hse
      clear h hoka hokb hnx hkq hq hn hr hwf hse hb hT1
      have e2 : wr.cell? ⟨rb, 1, none⟩ = some (.slice A n c) := h'.blk.cell 1
      have e3 : wr.cell? ⟨rb, 3, none⟩ = some (.int .i64 (s : Int)) := by rw [HSE.out]; exact h'.blk.cell 3
      have H := Lib.hid h'
      clear h'
      go_wp2_with fail
      refine wp_region_phased (fun W => W.cell? ⟨rb, 1, none⟩ = some (.slice A n c) ∧ W.cell? ⟨rb, 3, none⟩ = some (.int .i64 (s : Int))) 15 (by kernel_rfl) ⟨e2, e3⟩ (fun hS0 => ?_)
      refine wpAnyP_pure (v := ?_) 0 (at_toArray rfl) (by kernel_rfl) (by kernel_rfl) (by kernel_rfl) (fun _ _ _ h => h) (Or.inl ⟨by rfl, fun W => ?_⟩) ?_
      rotate_left 1
      · (go_simp <;> (try go_bits) <;> with_reducible rfl)
      simp only [Act.put, List.setIfInBounds_toArray, List.set_cons_zero, List.set_cons_succ]
      refine wpAnyP_pure (v := ?_) 1 (at_toArray rfl) (by kernel_rfl) (by kernel_rfl) (by kernel_rfl) (fun _ _ _ h => h) (Or.inl ⟨by rfl, fun W => ?_⟩) ?_
      rotate_left 1
      · (go_simp <;> (try go_bits) <;> with_reducible rfl)
      simp only [Act.put, List.setIfInBounds_toArray, List.set_cons_zero, List.set_cons_succ]
      refine wpAnyP_pure (v := ?_) 2 (at_toArray rfl) (by kernel_rfl) (by kernel_rfl) (by kernel_rfl) (fun _ _ _ h => h) (Or.inl ⟨by rfl, fun W => ?_⟩) ?_
      rotate_left 1
      · (go_simp <;> (try go_bits) <;> with_reducible rfl)
      simp only [Act.put, List.setIfInBounds_toArray, List.set_cons_zero, List.set_cons_succ]
      refine wpAnyP_pure (v := ?_) 3 (at_toArray rfl) (by kernel_rfl) (by kernel_rfl) (by kernel_rfl) (fun _ _ _ h => h) (Or.inl ⟨by rfl, fun W => ?_⟩) ?_
      rotate_left 1
      · (go_simp <;> (try go_bits) <;> with_reducible rfl)
      simp only [Act.put, List.setIfInBounds_toArray, List.set_cons_zero, List.set_cons_succ]
      refine wpAnyP_pure (v := ?_) 4 (at_toArray rfl) (by kernel_rfl) (by kernel_rfl) (by kernel_rfl) (fun _ _ _ h => h) (Or.inl ⟨by rfl, fun W => ?_⟩) ?_
      rotate_left 1
      · (go_simp <;> (try go_bits) <;> with_reducible rfl)
      simp only [Act.put, List.setIfInBounds_toArray, List.set_cons_zero, List.set_cons_succ]
      refine wpAnyP_load (v := ?_) 5 (by kernel_rfl) (at_toArray rfl) (by kernel_rfl) (by kernel_rfl) (by kernel_rfl) (fun _ _ _ h => h) (by first | assumption | rfl) (Or.inl ⟨by rfl, fun W hS => ?_⟩) ?_
      rotate_left 1
      · (obtain ⟨f2, f3⟩ := hS; go_simp <;> (try go_bits) <;> with_reducible rfl)
      simp only [Act.put, List.setIfInBounds_toArray, List.set_cons_zero, List.set_cons_succ]
      refine wpAnyP_pure (v := ?_) 6 (at_toArray rfl) (by kernel_rfl) (by kernel_rfl) (by kernel_rfl) (fun _ _ _ h => h) (Or.inl ⟨by rfl, fun W => ?_⟩) ?_
      rotate_left 1
      · (go_simp <;> (try go_bits) <;> with_reducible rfl)
      simp only [Act.put, List.setIfInBounds_toArray, List.set_cons_zero, List.set_cons_succ]
      refine wpAnyP_pure (v := ?_) 7 (at_toArray rfl) (by kernel_rfl) (by kernel_rfl) (by kernel_rfl) (fun _ _ _ h => h) (Or.inl ⟨by rfl, fun W => ?_⟩) ?_
      rotate_left 1
      · (go_simp <;> (try go_bits) <;> with_reducible rfl)
      simp only [Act.put, List.setIfInBounds_toArray, List.set_cons_zero, List.set_cons_succ]
      refine wpAnyP_pure (v := ?_) 8 (at_toArray rfl) (by kernel_rfl) (by kernel_rfl) (by kernel_rfl) (fun _ _ _ h => h) (Or.inl ⟨by rfl, fun W => ?_⟩) ?_
      rotate_left 1
      · (go_simp <;> (try go_bits) <;> with_reducible rfl)
      simp only [Act.put, List.setIfInBounds_toArray, List.set_cons_zero, List.set_cons_succ]
      refine wpAnyP_pure (v := ?_) 9 (at_toArray rfl) (by kernel_rfl) (by kernel_rfl) (by kernel_rfl) (fun _ _ _ h => h) (Or.inl ⟨by rfl, fun W => ?_⟩) ?_
      rotate_left 1
      · (go_simp <;> (try go_bits) <;> with_reducible rfl)
      simp only [Act.put, List.setIfInBounds_toArray, List.set_cons_zero, List.set_cons_succ]
      refine wpAnyP_pure (v := ?_) 10 (at_toArray rfl) (by kernel_rfl) (by kernel_rfl) (by kernel_rfl) (fun _ _ _ h => h) (Or.inl ⟨by rfl, fun W => ?_⟩) ?_
      rotate_left 1
      · (go_simp <;> (try go_bits) <;> with_reducible rfl)
      simp only [Act.put, List.setIfInBounds_toArray, List.set_cons_zero, List.set_cons_succ]
      refine wpAnyP_pure (v := ?_) 11 (at_toArray rfl) (by kernel_rfl) (by kernel_rfl) (by kernel_rfl) (fun _ _ _ h => h) (Or.inl ⟨by rfl, fun W => ?_⟩) ?_
      rotate_left 1
      · (go_simp <;> (try go_bits) <;> with_reducible rfl)
      simp only [Act.put, List.setIfInBounds_toArray, List.set_cons_zero, List.set_cons_succ]
      refine wpAnyP_load (v := ?_) 12 (by kernel_rfl) (at_toArray rfl) (by kernel_rfl) (by kernel_rfl) (by kernel_rfl) (fun _ _ _ h => h) (by first | assumption | rfl) (Or.inl ⟨by rfl, fun W hS => ?_⟩) ?_
      rotate_left 1
      · (obtain ⟨f2, f3⟩ := hS; go_simp <;> (try go_bits) <;> with_reducible rfl)
      simp only [Act.put, List.setIfInBounds_toArray, List.set_cons_zero, List.set_cons_succ]
      refine wpAnyP_pure (v := ?_) 13 (at_toArray rfl) (by kernel_rfl) (by kernel_rfl) (by kernel_rfl) (fun _ _ _ h => h) (Or.inl ⟨by rfl, fun W => ?_⟩) ?_
      rotate_left 1
      · (go_simp <;> (try go_bits) <;> with_reducible rfl)
      simp only [Act.put, List.setIfInBounds_toArray, List.set_cons_zero, List.set_cons_succ]
      refine wpAnyP_pure (v := ?_) 14 (at_toArray rfl) (by kernel_rfl) (by kernel_rfl) (by kernel_rfl) (fun _ _ _ h => h) (Or.inl ⟨by rfl, fun W => ?_⟩) ?_
      rotate_left 1
      · (go_simp <;> (try go_bits) <;> with_reducible rfl)
      simp only [Act.put, List.setIfInBounds_toArray, List.set_cons_zero, List.set_cons_succ]
      refine wpAnyP_done (by kernel_rfl) ?_ _
      clear hS0 e2 e3
      have hbw : Below wr.heap.size wr wr.drew := (Below.refl _ _).drew
      have H1 := Lib.hid (H.out.below hbw)
      have HU1 := Lib.hid (HU.out.trans (Upd.of_below hbw))
      have HR1 := Lib.hid (HR.out.below hbw)
      clear hbw H HU HR
      generalize wr.drew = wr at *
      by_cases hk : keep < (n : Int) - (s : Int)
      · have hq2 : max keep 0 = (q : Int) := by rw [← HQ.out]; omega
        have HQ2 := Lib.hid hq2
        clear hq2
        go_wp2_with fail
        rw [HQ2.out]
        clear HQ2
        clear hk
        have d2 : wr.cell? ⟨rb, 1, none⟩ = some (.slice A n c) := H1.out.blk.cell 1
        have d3 : wr.cell? ⟨rb, 3, none⟩ = some (.int .i64 (s : Int)) := by rw [HSE.out]; exact H1.out.blk.cell 3
        have k1 : (s : Int) + (q : Int) ≤ (c : Int) := by omega
        have k0 : 0 ≤ (s : Int) + (q : Int) := by omega
        refine wp_region_phased (fun W => W.cell? ⟨rb, 1, none⟩ = some (.slice A n c) ∧ W.cell? ⟨rb, 3, none⟩ = some (.int .i64 (s : Int))) 22 (by kernel_rfl) ⟨d2, d3⟩ (fun hS0 => ?_)
        obtain ⟨wd, hwd⟩ : ∃ wd, wd = wr.drew := ⟨_, rfl⟩
        rw [← hwd] at hS0 ⊢
        have hbd : Below wr.heap.size wr wd := by rw [hwd]; exact (Below.refl _ _).drew
        have e2 : (wd.alloc (.cells #[] 5)).cell? ⟨rb, 1, none⟩ = some (.slice A n c) := (World.cell?_alloc_lt _ _ _ (World.block_lt_of_cell? wd _ hS0.1)).trans hS0.1
        have e3 : (wd.alloc (.cells #[] 5)).cell? ⟨rb, 3, none⟩ = some (.int .i64 (s : Int)) := (World.cell?_alloc_lt _ _ _ (World.block_lt_of_cell? wd _ hS0.2)).trans hS0.2
        have hHd : Hid (RefAt wd rb T1 F' l k (.slice A n c) u1) := Lib.hid (H1.out.below hbd)
        have hUd := Lib.hid (HU1.out.trans (Upd.of_below hbd))
        have hRd := Lib.hid (HR1.out.below hbd)
        clear hwd hbd H1 HU1 HR1 d2 d3
        refine wpAnyP_pure (v := ?_) 0 (at_toArray rfl) (by kernel_rfl) (by kernel_rfl) (by kernel_rfl) (fun _ _ _ h => h) (Or.inl ⟨by rfl, fun W => ?_⟩) ?_
        rotate_left 1
        · (go_simp <;> (try go_bits) <;> with_reducible rfl)
        simp only [Act.put, List.setIfInBounds_toArray, List.set_cons_zero, List.set_cons_succ]
        refine wpAnyP_pure (v := ?_) 1 (at_toArray rfl) (by kernel_rfl) (by kernel_rfl) (by kernel_rfl) (fun _ _ _ h => h) (Or.inl ⟨by rfl, fun W => ?_⟩) ?_
        rotate_left 1
        · (go_simp <;> (try go_bits) <;> with_reducible rfl)
        simp only [Act.put, List.setIfInBounds_toArray, List.set_cons_zero, List.set_cons_succ]
        refine wpAnyP_pure (v := ?_) 3 (at_toArray rfl) (by kernel_rfl) (by kernel_rfl) (by kernel_rfl) (fun _ _ _ h => h) (Or.inl ⟨by rfl, fun W => ?_⟩) ?_
        rotate_left 1
        · (go_simp <;> (try go_bits) <;> with_reducible rfl)
        simp only [Act.put, List.setIfInBounds_toArray, List.set_cons_zero, List.set_cons_succ]
        refine wpAnyP_pure (v := ?_) 4 (at_toArray rfl) (by kernel_rfl) (by kernel_rfl) (by kernel_rfl) (fun _ _ _ h => h) (Or.inl ⟨by rfl, fun W => ?_⟩) ?_
        rotate_left 1
        · (go_simp <;> (try go_bits) <;> with_reducible rfl)
        simp only [Act.put, List.setIfInBounds_toArray, List.set_cons_zero, List.set_cons_succ]
        refine wpAnyP_pure (v := ?_) 5 (at_toArray rfl) (by kernel_rfl) (by kernel_rfl) (by kernel_rfl) (fun _ _ _ h => h) (Or.inl ⟨by rfl, fun W => ?_⟩) ?_
        rotate_left 1
        · (go_simp <;> (try go_bits) <;> with_reducible rfl)
        simp only [Act.put, List.setIfInBounds_toArray, List.set_cons_zero, List.set_cons_succ]
        refine wpAnyP_pure (v := ?_) 6 (at_toArray rfl) (by kernel_rfl) (by kernel_rfl) (by kernel_rfl) (fun _ _ _ h => h) (Or.inl ⟨by rfl, fun W => ?_⟩) ?_
        rotate_left 1
        · (go_simp <;> (try go_bits) <;> with_reducible rfl)
        simp only [Act.put, List.setIfInBounds_toArray, List.set_cons_zero, List.set_cons_succ]
        refine wpAnyP_pure (v := ?_) 7 (at_toArray rfl) (by kernel_rfl) (by kernel_rfl) (by kernel_rfl) (fun _ _ _ h => h) (Or.inl ⟨by rfl, fun W => ?_⟩) ?_
        rotate_left 1
        · (go_simp <;> (try go_bits) <;> with_reducible rfl)
        simp only [Act.put, List.setIfInBounds_toArray, List.set_cons_zero, List.set_cons_succ]
        refine wpAnyP_load (v := ?_) 8 (by kernel_rfl) (at_toArray rfl) (by kernel_rfl) (by kernel_rfl) (by kernel_rfl) (fun _ _ _ h => h) (by first | assumption | rfl) (Or.inl ⟨by rfl, fun W hS => ?_⟩) ?_
        rotate_left 1
        · (obtain ⟨f2, f3⟩ := hS; go_simp <;> (try go_bits) <;> with_reducible rfl)
        simp only [Act.put, List.setIfInBounds_toArray, List.set_cons_zero, List.set_cons_succ]
        refine wpAnyP_pure (v := ?_) 9 (at_toArray rfl) (by kernel_rfl) (by kernel_rfl) (by kernel_rfl) (fun _ _ _ h => h) (Or.inl ⟨by rfl, fun W => ?_⟩) ?_
        rotate_left 1
        · (go_simp <;> (try go_bits) <;> with_reducible rfl)
        simp only [Act.put, List.setIfInBounds_toArray, List.set_cons_zero, List.set_cons_succ]
        refine wpAnyP_pure (v := ?_) 10 (at_toArray rfl) (by kernel_rfl) (by kernel_rfl) (by kernel_rfl) (fun _ _ _ h => h) (Or.inl ⟨by rfl, fun W => ?_⟩) ?_
        rotate_left 1
        · (go_simp <;> (try go_bits) <;> with_reducible rfl)
        simp only [Act.put, List.setIfInBounds_toArray, List.set_cons_zero, List.set_cons_succ]
        refine wpAnyP_pure (v := ?_) 11 (at_toArray rfl) (by kernel_rfl) (by kernel_rfl) (by kernel_rfl) (fun _ _ _ h => h) (Or.inl ⟨by rfl, fun W => ?_⟩) ?_
        rotate_left 1
        · (go_simp <;> (try go_bits) <;> with_reducible rfl)
        simp only [Act.put, List.setIfInBounds_toArray, List.set_cons_zero, List.set_cons_succ]
        refine wpAnyP_pure (v := ?_) 12 (at_toArray rfl) (by kernel_rfl) (by kernel_rfl) (by kernel_rfl) (fun _ _ _ h => h) (Or.inl ⟨by rfl, fun W => ?_⟩) ?_
        rotate_left 1
        · (go_simp <;> (try go_bits) <;> with_reducible rfl)
        simp only [Act.put, List.setIfInBounds_toArray, List.set_cons_zero, List.set_cons_succ]
        refine wpAnyP_pure (v := ?_) 13 (at_toArray rfl) (by kernel_rfl) (by kernel_rfl) (by kernel_rfl) (fun _ _ _ h => h) (Or.inl ⟨by rfl, fun W => ?_⟩) ?_
        rotate_left 1
        · (go_simp <;> (try go_bits) <;> with_reducible rfl)
        simp only [Act.put, List.setIfInBounds_toArray, List.set_cons_zero, List.set_cons_succ]
        refine wpAnyP_load (v := ?_) 14 (by kernel_rfl) (at_toArray rfl) (by kernel_rfl) (by kernel_rfl) (by kernel_rfl) (fun _ _ _ h => h) (by first | assumption | rfl) (Or.inl ⟨by rfl, fun W hS => ?_⟩) ?_
        rotate_left 1
        · (obtain ⟨f2, f3⟩ := hS; go_simp <;> (try go_bits) <;> with_reducible rfl)
        simp only [Act.put, List.setIfInBounds_toArray, List.set_cons_zero, List.set_cons_succ]
        refine wpAnyP_pure (v := ?_) 15 (at_toArray rfl) (by kernel_rfl) (by kernel_rfl) (by kernel_rfl) (fun _ _ _ h => h) (Or.inl ⟨by rfl, fun W => ?_⟩) ?_
        rotate_left 1
        · (go_simp <;> (try go_bits) <;> with_reducible rfl)
        simp only [Act.put, List.setIfInBounds_toArray, List.set_cons_zero, List.set_cons_succ]
        refine wpAnyP_pure (v := ?_) 16 (at_toArray rfl) (by kernel_rfl) (by kernel_rfl) (by kernel_rfl) (fun _ _ _ h => h) (Or.inl ⟨by rfl, fun W => ?_⟩) ?_
        rotate_left 1
        · (go_simp <;> (try go_bits) <;> with_reducible rfl)
        simp only [Act.put, List.setIfInBounds_toArray, List.set_cons_zero, List.set_cons_succ]
        refine wpAnyP_pure (v := ?_) 17 (at_toArray rfl) (by kernel_rfl) (by kernel_rfl) (by kernel_rfl) (fun _ _ _ h => h) (Or.inl ⟨by rfl, fun W => ?_⟩) ?_
        rotate_left 1
        · (go_simp <;> (try go_bits) <;> with_reducible rfl)
        simp only [Act.put, List.setIfInBounds_toArray, List.set_cons_zero, List.set_cons_succ]
        refine wpAnyP_pure (v := ?_) 19 (at_toArray rfl) (by kernel_rfl) (by kernel_rfl) (by kernel_rfl) (fun _ _ _ h => h) (Or.inl ⟨by rfl, fun W => ?_⟩) ?_
        rotate_left 1
        · (go_simp <;> (try go_bits) <;> with_reducible rfl)
        simp only [Act.put, List.setIfInBounds_toArray, List.set_cons_zero, List.set_cons_succ]
        refine wpAnyP_pure (v := ?_) 20 (at_toArray rfl) (by kernel_rfl) (by kernel_rfl) (by kernel_rfl) (fun _ _ _ h => h) (Or.inl ⟨by rfl, fun W => ?_⟩) ?_
        rotate_left 1
        · (go_simp <;> (try go_bits) <;> with_reducible rfl)
        simp only [Act.put, List.setIfInBounds_toArray, List.set_cons_zero, List.set_cons_succ]
        refine wpAnyP_one 2 (at_toArray rfl) (by kernel_rfl) rfl (fun K hK => ?_)
        go_wp2_with fail
        refine hK.out _ _ (fun _ _ => ⟨e2, e3⟩) ?_
        clear hK
        refine wpAnyP_one 18 (at_toArray rfl) (by kernel_rfl) rfl (fun K hK => ?_)
        refine wp_append_b (.tmp 31) (.tmp 46) rfl (.slice (some ⟨wd.heap.size, 0, none⟩) 0 0) [] rfl (OB.lit wd [] _ rfl (by decide)) A c (b.take (s + q)) ?hx ?hr ?hb ?_
        case hx => rw [List.length_take, ← HN.out, Nat.min_eq_left (by omega)]; rfl
        case hr => exact (hRd.out.below ((Below.refl wd.heap.size wd).alloc (Nat.le_refl _) _)).take _
        case hb => rw [List.length_take]; simp; omega
        intro v w1 HO hg hat
        have hfr := clone_facts HO hg hat
        clear HO hg hat
        have f2 : w1.cell? ⟨rb, 1, none⟩ = some (.slice A n c) := (hfr.2.1.cell (World.block_lt_of_cell? wd _ hS0.1)).trans hS0.1
        have f3 : w1.cell? ⟨rb, 3, none⟩ = some (.int .i64 (s : Int)) := (hfr.2.1.cell (World.block_lt_of_cell? wd _ hS0.2)).trans hS0.2
        have q2 : w1.frozen? ⟨rb, 1, none⟩ = false := (hHd.out.below hfr.2.1).blk.free 1
        refine hK.out _ _ (fun _ _ => ⟨f2, f3⟩) ?_
        simp only [Act.put, List.setIfInBounds_toArray, List.set_cons_zero, List.set_cons_succ]
        clear hK hS0 e2 e3
        obtain ⟨A1, c1, rfl⟩ := hfr.1.form
        have hlen : (b.take (s + q)).length = m := by rw [List.length_take, ← HN.out, Nat.min_eq_left (by omega)]; exact hm
        have hok : TS.ok { T1 with b0 := b.take (s + q) } := HOKA.out hlen
        have h3 := hHd.out.row0 hfr hok
        have u3 := hUd.out.trans (upd_row (rb := rb) (i := 1) hfr hHd.out.ft)
        rw [hlen] at h3 u3 ⊢
        have H3 := Lib.hid h3
        have U3 := Lib.hid u3
        clear h3 u3 hok hHd hUd hRd hfr hlen
        refine wpAnyP_pure (v := ?_) 21 (at_toArray rfl) (by kernel_rfl) (by kernel_rfl) (by kernel_rfl) (fun _ _ _ h => h) (Or.inl ⟨by rfl, fun W => ?_⟩) ?_
        rotate_left 1
        · (go_simp <;> (try go_bits) <;> with_reducible rfl)
        simp only [Act.put, List.setIfInBounds_toArray, List.set_cons_zero, List.set_cons_succ]
        refine wpAnyP_one 22 (at_toArray rfl) (by kernel_rfl) rfl (fun K hK => ?_)
        go_wp2_with fail
        refine hK.out _ _ (fun h => absurd h (by decide)) ?_
        clear hK
        refine wpAnyP_done (by kernel_rfl) ?_ _
        clear f2 f3 q2
        generalize w1.setCell _ _ = w2 at *
        have f2 : w2.cell? ⟨rb, 1, none⟩ = some (.slice A1 m c1) := H3.out.blk.cell 1
        have f3 : w2.drew.cell? ⟨rb, 3, none⟩ = some (.int .i64 (s : Int)) := by rw [HSE.out]; exact H3.out.blk.cell 3
        have q3 : w2.drew.frozen? ⟨rb, 3, none⟩ = false := H3.out.blk.free 3
        go_wp2_with fail
        refine wp_region_phased (fun W => W.cell? ⟨rb, 1, none⟩ = some (.slice A1 m c1)) 12 (by kernel_rfl) f2 (fun hS0 => ?_)
        refine wpAnyP_pure (v := ?_) 0 (at_toArray rfl) (by kernel_rfl) (by kernel_rfl) (by kernel_rfl) (fun _ _ _ h => h) (Or.inl ⟨by rfl, fun W => ?_⟩) ?_
        rotate_left 1
        · (go_simp <;> (try go_bits) <;> with_reducible rfl)
        simp only [Act.put, List.setIfInBounds_toArray, List.set_cons_zero, List.set_cons_succ]
        refine wpAnyP_pure (v := ?_) 1 (at_toArray rfl) (by kernel_rfl) (by kernel_rfl) (by kernel_rfl) (fun _ _ _ h => h) (Or.inl ⟨by rfl, fun W => ?_⟩) ?_
        rotate_left 1
        · (go_simp <;> (try go_bits) <;> with_reducible rfl)
        simp only [Act.put, List.setIfInBounds_toArray, List.set_cons_zero, List.set_cons_succ]
        refine wpAnyP_pure (v := ?_) 2 (at_toArray rfl) (by kernel_rfl) (by kernel_rfl) (by kernel_rfl) (fun _ _ _ h => h) (Or.inl ⟨by rfl, fun W => ?_⟩) ?_
        rotate_left 1
        · (go_simp <;> (try go_bits) <;> with_reducible rfl)
        simp only [Act.put, List.setIfInBounds_toArray, List.set_cons_zero, List.set_cons_succ]
        refine wpAnyP_pure (v := ?_) 3 (at_toArray rfl) (by kernel_rfl) (by kernel_rfl) (by kernel_rfl) (fun _ _ _ h => h) (Or.inl ⟨by rfl, fun W => ?_⟩) ?_
        rotate_left 1
        · (go_simp <;> (try go_bits) <;> with_reducible rfl)
        simp only [Act.put, List.setIfInBounds_toArray, List.set_cons_zero, List.set_cons_succ]
        refine wpAnyP_pure (v := ?_) 4 (at_toArray rfl) (by kernel_rfl) (by kernel_rfl) (by kernel_rfl) (fun _ _ _ h => h) (Or.inl ⟨by rfl, fun W => ?_⟩) ?_
        rotate_left 1
        · (go_simp <;> (try go_bits) <;> with_reducible rfl)
        simp only [Act.put, List.setIfInBounds_toArray, List.set_cons_zero, List.set_cons_succ]
        refine wpAnyP_pure (v := ?_) 5 (at_toArray rfl) (by kernel_rfl) (by kernel_rfl) (by kernel_rfl) (fun _ _ _ h => h) (Or.inl ⟨by rfl, fun W => ?_⟩) ?_
        rotate_left 1
        · (go_simp <;> (try go_bits) <;> with_reducible rfl)
        simp only [Act.put, List.setIfInBounds_toArray, List.set_cons_zero, List.set_cons_succ]
        refine wpAnyP_pure (v := ?_) 6 (at_toArray rfl) (by kernel_rfl) (by kernel_rfl) (by kernel_rfl) (fun _ _ _ h => h) (Or.inl ⟨by rfl, fun W => ?_⟩) ?_
        rotate_left 1
        · (go_simp <;> (try go_bits) <;> with_reducible rfl)
        simp only [Act.put, List.setIfInBounds_toArray, List.set_cons_zero, List.set_cons_succ]
        refine wpAnyP_load (v := ?_) 7 (by kernel_rfl) (at_toArray rfl) (by kernel_rfl) (by kernel_rfl) (by kernel_rfl) (fun _ _ _ h => h) (by first | assumption | rfl) (Or.inl ⟨by rfl, fun W hS => ?_⟩) ?_
        rotate_left 1
        · (obtain f2 := hS; go_simp <;> (try go_bits) <;> with_reducible rfl)
        simp only [Act.put, List.setIfInBounds_toArray, List.set_cons_zero, List.set_cons_succ]
        refine wpAnyP_pure (v := ?_) 8 (at_toArray rfl) (by kernel_rfl) (by kernel_rfl) (by kernel_rfl) (fun _ _ _ h => h) (Or.inl ⟨by rfl, fun W => ?_⟩) ?_
        rotate_left 1
        · (go_simp <;> (try go_bits) <;> with_reducible rfl)
        simp only [Act.put, List.setIfInBounds_toArray, List.set_cons_zero, List.set_cons_succ]
        refine wpAnyP_pure (v := ?_) 9 (at_toArray rfl) (by kernel_rfl) (by kernel_rfl) (by kernel_rfl) (fun _ _ _ h => h) (Or.inl ⟨by rfl, fun W => ?_⟩) ?_
        rotate_left 1
        · (go_simp <;> (try go_bits) <;> with_reducible rfl)
        simp only [Act.put, List.setIfInBounds_toArray, List.set_cons_zero, List.set_cons_succ]
        refine wpAnyP_pure (v := ?_) 10 (at_toArray rfl) (by kernel_rfl) (by kernel_rfl) (by kernel_rfl) (fun _ _ _ h => h) (Or.inl ⟨by rfl, fun W => ?_⟩) ?_
        rotate_left 1
        · (go_simp <;> (try go_bits) <;> with_reducible rfl)
        simp only [Act.put, List.setIfInBounds_toArray, List.set_cons_zero, List.set_cons_succ]
        refine wpAnyP_pure (v := ?_) 11 (at_toArray rfl) (by kernel_rfl) (by kernel_rfl) (by kernel_rfl) (fun _ _ _ h => h) (Or.inl ⟨by rfl, fun W => ?_⟩) ?_
        rotate_left 1
        · (go_simp <;> (try go_bits) <;> with_reducible rfl)
        simp only [Act.put, List.setIfInBounds_toArray, List.set_cons_zero, List.set_cons_succ]
        refine wpAnyP_one 12 (at_toArray rfl) (by kernel_rfl) rfl (fun K hK => ?_)
        go_wp2_with fail
        refine hK.out _ _ (fun h => absurd h (by decide)) ?_
        clear hK
        refine wpAnyP_done (by kernel_rfl) ?_ _
        clear f2 f3 q3 hS0
        obtain ⟨w3, hw3⟩ : ∃ w3, w3 = (w2.setCell ⟨rb, 3, none⟩ (.int .i64 (m : Int))).drew := ⟨_, rfl⟩
        have hf3 : Fr (fun k => k = rb) w2 w3 := by rw [hw3]; exact (fr_own w2 rb 3 _).trans (Fr.drew _ _) (fun _ h => .inl h)
        have h4 := H3.out.re (T' := { T1 with b0 := b.take (s + q), s0 := m }) (l' := l) (k' := k) hf3 (by rw [hw3]; exact H3.out.blk.set 3 (.int .i64 (m : Int))) rfl rfl H3.out.pl (HOKB.out)
        rw [← HCUT.out] at h4
        have HF4 : Hid (GoneW w rb T F keep 1 w3) := Lib.hid ⟨_, ⟨_, _, _, _, h4⟩, U3.out.trans (upd_re hf3 H3.out.ft)⟩
        rw [← hw3]
        clear hw3 hf3 h4 H3 U3
        go_wp2_with fail
        go_roundw
        case rel => exact ⟨1, by omega, rfl, HF4⟩
        case measure => simp [intOf]
      · have hq2 : (n : Int) - (s : Int) = (q : Int) := by rw [← HQ.out]; omega
        have HQ2 := Lib.hid hq2
        clear hq2
        go_wp2_with fail
        rw [HQ2.out]
        clear HQ2
        clear hk
        have d2 : wr.cell? ⟨rb, 1, none⟩ = some (.slice A n c) := H1.out.blk.cell 1
        have d3 : wr.cell? ⟨rb, 3, none⟩ = some (.int .i64 (s : Int)) := by rw [HSE.out]; exact H1.out.blk.cell 3
        have k1 : (s : Int) + (q : Int) ≤ (c : Int) := by omega
        have k0 : 0 ≤ (s : Int) + (q : Int) := by omega
        refine wp_region_phased (fun W => W.cell? ⟨rb, 1, none⟩ = some (.slice A n c) ∧ W.cell? ⟨rb, 3, none⟩ = some (.int .i64 (s : Int))) 22 (by kernel_rfl) ⟨d2, d3⟩ (fun hS0 => ?_)
        obtain ⟨wd, hwd⟩ : ∃ wd, wd = wr.drew := ⟨_, rfl⟩
        rw [← hwd] at hS0 ⊢
        have hbd : Below wr.heap.size wr wd := by rw [hwd]; exact (Below.refl _ _).drew
        have e2 : (wd.alloc (.cells #[] 5)).cell? ⟨rb, 1, none⟩ = some (.slice A n c) := (World.cell?_alloc_lt _ _ _ (World.block_lt_of_cell? wd _ hS0.1)).trans hS0.1
        have e3 : (wd.alloc (.cells #[] 5)).cell? ⟨rb, 3, none⟩ = some (.int .i64 (s : Int)) := (World.cell?_alloc_lt _ _ _ (World.block_lt_of_cell? wd _ hS0.2)).trans hS0.2
        have hHd : Hid (RefAt wd rb T1 F' l k (.slice A n c) u1) := Lib.hid (H1.out.below hbd)
        have hUd := Lib.hid (HU1.out.trans (Upd.of_below hbd))
        have hRd := Lib.hid (HR1.out.below hbd)
        clear hwd hbd H1 HU1 HR1 d2 d3
        refine wpAnyP_pure (v := ?_) 0 (at_toArray rfl) (by kernel_rfl) (by kernel_rfl) (by kernel_rfl) (fun _ _ _ h => h) (Or.inl ⟨by rfl, fun W => ?_⟩) ?_
        rotate_left 1
        · (go_simp <;> (try go_bits) <;> with_reducible rfl)
        simp only [Act.put, List.setIfInBounds_toArray, List.set_cons_zero, List.set_cons_succ]
        refine wpAnyP_pure (v := ?_) 1 (at_toArray rfl) (by kernel_rfl) (by kernel_rfl) (by kernel_rfl) (fun _ _ _ h => h) (Or.inl ⟨by rfl, fun W => ?_⟩) ?_
        rotate_left 1
        · (go_simp <;> (try go_bits) <;> with_reducible rfl)
        simp only [Act.put, List.setIfInBounds_toArray, List.set_cons_zero, List.set_cons_succ]
        refine wpAnyP_pure (v := ?_) 3 (at_toArray rfl) (by kernel_rfl) (by kernel_rfl) (by kernel_rfl) (fun _ _ _ h => h) (Or.inl ⟨by rfl, fun W => ?_⟩) ?_
        rotate_left 1
        · (go_simp <;> (try go_bits) <;> with_reducible rfl)
        simp only [Act.put, List.setIfInBounds_toArray, List.set_cons_zero, List.set_cons_succ]
        refine wpAnyP_pure (v := ?_) 4 (at_toArray rfl) (by kernel_rfl) (by kernel_rfl) (by kernel_rfl) (fun _ _ _ h => h) (Or.inl ⟨by rfl, fun W => ?_⟩) ?_
        rotate_left 1
        · (go_simp <;> (try go_bits) <;> with_reducible rfl)
        simp only [Act.put, List.setIfInBounds_toArray, List.set_cons_zero, List.set_cons_succ]
        refine wpAnyP_pure (v := ?_) 5 (at_toArray rfl) (by kernel_rfl) (by kernel_rfl) (by kernel_rfl) (fun _ _ _ h => h) (Or.inl ⟨by rfl, fun W => ?_⟩) ?_
        rotate_left 1
        · (go_simp <;> (try go_bits) <;> with_reducible rfl)
        simp only [Act.put, List.setIfInBounds_toArray, List.set_cons_zero, List.set_cons_succ]
        refine wpAnyP_pure (v := ?_) 6 (at_toArray rfl) (by kernel_rfl) (by kernel_rfl) (by kernel_rfl) (fun _ _ _ h => h) (Or.inl ⟨by rfl, fun W => ?_⟩) ?_
        rotate_left 1
        · (go_simp <;> (try go_bits) <;> with_reducible rfl)
        simp only [Act.put, List.setIfInBounds_toArray, List.set_cons_zero, List.set_cons_succ]
        refine wpAnyP_pure (v := ?_) 7 (at_toArray rfl) (by kernel_rfl) (by kernel_rfl) (by kernel_rfl) (fun _ _ _ h => h) (Or.inl ⟨by rfl, fun W => ?_⟩) ?_
        rotate_left 1
        · (go_simp <;> (try go_bits) <;> with_reducible rfl)
        simp only [Act.put, List.setIfInBounds_toArray, List.set_cons_zero, List.set_cons_succ]
        refine wpAnyP_load (v := ?_) 8 (by kernel_rfl) (at_toArray rfl) (by kernel_rfl) (by kernel_rfl) (by kernel_rfl) (fun _ _ _ h => h) (by first | assumption | rfl) (Or.inl ⟨by rfl, fun W hS => ?_⟩) ?_
        rotate_left 1
        · (obtain ⟨f2, f3⟩ := hS; go_simp <;> (try go_bits) <;> with_reducible rfl)
        simp only [Act.put, List.setIfInBounds_toArray, List.set_cons_zero, List.set_cons_succ]
        refine wpAnyP_pure (v := ?_) 9 (at_toArray rfl) (by kernel_rfl) (by kernel_rfl) (by kernel_rfl) (fun _ _ _ h => h) (Or.inl ⟨by rfl, fun W => ?_⟩) ?_
        rotate_left 1
        · (go_simp <;> (try go_bits) <;> with_reducible rfl)
        simp only [Act.put, List.setIfInBounds_toArray, List.set_cons_zero, List.set_cons_succ]
        refine wpAnyP_pure (v := ?_) 10 (at_toArray rfl) (by kernel_rfl) (by kernel_rfl) (by kernel_rfl) (fun _ _ _ h => h) (Or.inl ⟨by rfl, fun W => ?_⟩) ?_
        rotate_left 1
        · (go_simp <;> (try go_bits) <;> with_reducible rfl)
        simp only [Act.put, List.setIfInBounds_toArray, List.set_cons_zero, List.set_cons_succ]
        refine wpAnyP_pure (v := ?_) 11 (at_toArray rfl) (by kernel_rfl) (by kernel_rfl) (by kernel_rfl) (fun _ _ _ h => h) (Or.inl ⟨by rfl, fun W => ?_⟩) ?_
        rotate_left 1
        · (go_simp <;> (try go_bits) <;> with_reducible rfl)
        simp only [Act.put, List.setIfInBounds_toArray, List.set_cons_zero, List.set_cons_succ]
        refine wpAnyP_pure (v := ?_) 12 (at_toArray rfl) (by kernel_rfl) (by kernel_rfl) (by kernel_rfl) (fun _ _ _ h => h) (Or.inl ⟨by rfl, fun W => ?_⟩) ?_
        rotate_left 1
        · (go_simp <;> (try go_bits) <;> with_reducible rfl)
        simp only [Act.put, List.setIfInBounds_toArray, List.set_cons_zero, List.set_cons_succ]
        refine wpAnyP_pure (v := ?_) 13 (at_toArray rfl) (by kernel_rfl) (by kernel_rfl) (by kernel_rfl) (fun _ _ _ h => h) (Or.inl ⟨by rfl, fun W => ?_⟩) ?_
        rotate_left 1
        · (go_simp <;> (try go_bits) <;> with_reducible rfl)
        simp only [Act.put, List.setIfInBounds_toArray, List.set_cons_zero, List.set_cons_succ]
        refine wpAnyP_load (v := ?_) 14 (by kernel_rfl) (at_toArray rfl) (by kernel_rfl) (by kernel_rfl) (by kernel_rfl) (fun _ _ _ h => h) (by first | assumption | rfl) (Or.inl ⟨by rfl, fun W hS => ?_⟩) ?_
        rotate_left 1
        · (obtain ⟨f2, f3⟩ := hS; go_simp <;> (try go_bits) <;> with_reducible rfl)
        simp only [Act.put, List.setIfInBounds_toArray, List.set_cons_zero, List.set_cons_succ]
        refine wpAnyP_pure (v := ?_) 15 (at_toArray rfl) (by kernel_rfl) (by kernel_rfl) (by kernel_rfl) (fun _ _ _ h => h) (Or.inl ⟨by rfl, fun W => ?_⟩) ?_
        rotate_left 1
        · (go_simp <;> (try go_bits) <;> with_reducible rfl)
        simp only [Act.put, List.setIfInBounds_toArray, List.set_cons_zero, List.set_cons_succ]
        refine wpAnyP_pure (v := ?_) 16 (at_toArray rfl) (by kernel_rfl) (by kernel_rfl) (by kernel_rfl) (fun _ _ _ h => h) (Or.inl ⟨by rfl, fun W => ?_⟩) ?_
        rotate_left 1
        · (go_simp <;> (try go_bits) <;> with_reducible rfl)
        simp only [Act.put, List.setIfInBounds_toArray, List.set_cons_zero, List.set_cons_succ]
        refine wpAnyP_pure (v := ?_) 17 (at_toArray rfl) (by kernel_rfl) (by kernel_rfl) (by kernel_rfl) (fun _ _ _ h => h) (Or.inl ⟨by rfl, fun W => ?_⟩) ?_
        rotate_left 1
        · (go_simp <;> (try go_bits) <;> with_reducible rfl)
        simp only [Act.put, List.setIfInBounds_toArray, List.set_cons_zero, List.set_cons_succ]
        refine wpAnyP_pure (v := ?_) 19 (at_toArray rfl) (by kernel_rfl) (by kernel_rfl) (by kernel_rfl) (fun _ _ _ h => h) (Or.inl ⟨by rfl, fun W => ?_⟩) ?_
        rotate_left 1
        · (go_simp <;> (try go_bits) <;> with_reducible rfl)
        simp only [Act.put, List.setIfInBounds_toArray, List.set_cons_zero, List.set_cons_succ]
        refine wpAnyP_pure (v := ?_) 20 (at_toArray rfl) (by kernel_rfl) (by kernel_rfl) (by kernel_rfl) (fun _ _ _ h => h) (Or.inl ⟨by rfl, fun W => ?_⟩) ?_
        rotate_left 1
        · (go_simp <;> (try go_bits) <;> with_reducible rfl)
        simp only [Act.put, List.setIfInBounds_toArray, List.set_cons_zero, List.set_cons_succ]
        refine wpAnyP_one 2 (at_toArray rfl) (by kernel_rfl) rfl (fun K hK => ?_)
        go_wp2_with fail
        refine hK.out _ _ (fun _ _ => ⟨e2, e3⟩) ?_
        clear hK
        refine wpAnyP_one 18 (at_toArray rfl) (by kernel_rfl) rfl (fun K hK => ?_)
        refine wp_append_b (.tmp 31) (.tmp 46) rfl (.slice (some ⟨wd.heap.size, 0, none⟩) 0 0) [] rfl (OB.lit wd [] _ rfl (by decide)) A c (b.take (s + q)) ?hx ?hr ?hb ?_
        case hx => rw [List.length_take, ← HN.out, Nat.min_eq_left (by omega)]; rfl
        case hr => exact (hRd.out.below ((Below.refl wd.heap.size wd).alloc (Nat.le_refl _) _)).take _
        case hb => rw [List.length_take]; simp; omega
        intro v w1 HO hg hat
        have hfr := clone_facts HO hg hat
        clear HO hg hat
        have f2 : w1.cell? ⟨rb, 1, none⟩ = some (.slice A n c) := (hfr.2.1.cell (World.block_lt_of_cell? wd _ hS0.1)).trans hS0.1
        have f3 : w1.cell? ⟨rb, 3, none⟩ = some (.int .i64 (s : Int)) := (hfr.2.1.cell (World.block_lt_of_cell? wd _ hS0.2)).trans hS0.2
        have q2 : w1.frozen? ⟨rb, 1, none⟩ = false := (hHd.out.below hfr.2.1).blk.free 1
        refine hK.out _ _ (fun _ _ => ⟨f2, f3⟩) ?_
        simp only [Act.put, List.setIfInBounds_toArray, List.set_cons_zero, List.set_cons_succ]
        clear hK hS0 e2 e3
        obtain ⟨A1, c1, rfl⟩ := hfr.1.form
        have hlen : (b.take (s + q)).length = m := by rw [List.length_take, ← HN.out, Nat.min_eq_left (by omega)]; exact hm
        have hok : TS.ok { T1 with b0 := b.take (s + q) } := HOKA.out hlen
        have h3 := hHd.out.row0 hfr hok
        have u3 := hUd.out.trans (upd_row (rb := rb) (i := 1) hfr hHd.out.ft)
        rw [hlen] at h3 u3 ⊢
        have H3 := Lib.hid h3
        have U3 := Lib.hid u3
        clear h3 u3 hok hHd hUd hRd hfr hlen
        refine wpAnyP_pure (v := ?_) 21 (at_toArray rfl) (by kernel_rfl) (by kernel_rfl) (by kernel_rfl) (fun _ _ _ h => h) (Or.inl ⟨by rfl, fun W => ?_⟩) ?_
        rotate_left 1
        · (go_simp <;> (try go_bits) <;> with_reducible rfl)
        simp only [Act.put, List.setIfInBounds_toArray, List.set_cons_zero, List.set_cons_succ]
        refine wpAnyP_one 22 (at_toArray rfl) (by kernel_rfl) rfl (fun K hK => ?_)
        go_wp2_with fail
        refine hK.out _ _ (fun h => absurd h (by decide)) ?_
        clear hK
        refine wpAnyP_done (by kernel_rfl) ?_ _
        clear f2 f3 q2
        generalize w1.setCell _ _ = w2 at *
        have f2 : w2.cell? ⟨rb, 1, none⟩ = some (.slice A1 m c1) := H3.out.blk.cell 1
        have f3 : w2.drew.cell? ⟨rb, 3, none⟩ = some (.int .i64 (s : Int)) := by rw [HSE.out]; exact H3.out.blk.cell 3
        have q3 : w2.drew.frozen? ⟨rb, 3, none⟩ = false := H3.out.blk.free 3
        go_wp2_with fail
        refine wp_region_phased (fun W => W.cell? ⟨rb, 1, none⟩ = some (.slice A1 m c1)) 12 (by kernel_rfl) f2 (fun hS0 => ?_)
        refine wpAnyP_pure (v := ?_) 0 (at_toArray rfl) (by kernel_rfl) (by kernel_rfl) (by kernel_rfl) (fun _ _ _ h => h) (Or.inl ⟨by rfl, fun W => ?_⟩) ?_
        rotate_left 1
        · (go_simp <;> (try go_bits) <;> with_reducible rfl)
        simp only [Act.put, List.setIfInBounds_toArray, List.set_cons_zero, List.set_cons_succ]
        refine wpAnyP_pure (v := ?_) 1 (at_toArray rfl) (by kernel_rfl) (by kernel_rfl) (by kernel_rfl) (fun _ _ _ h => h) (Or.inl ⟨by rfl, fun W => ?_⟩) ?_
        rotate_left 1
        · (go_simp <;> (try go_bits) <;> with_reducible rfl)
        simp only [Act.put, List.setIfInBounds_toArray, List.set_cons_zero, List.set_cons_succ]
        refine wpAnyP_pure (v := ?_) 2 (at_toArray rfl) (by kernel_rfl) (by kernel_rfl) (by kernel_rfl) (fun _ _ _ h => h) (Or.inl ⟨by rfl, fun W => ?_⟩) ?_
        rotate_left 1
        · (go_simp <;> (try go_bits) <;> with_reducible rfl)
        simp only [Act.put, List.setIfInBounds_toArray, List.set_cons_zero, List.set_cons_succ]
        refine wpAnyP_pure (v := ?_) 3 (at_toArray rfl) (by kernel_rfl) (by kernel_rfl) (by kernel_rfl) (fun _ _ _ h => h) (Or.inl ⟨by rfl, fun W => ?_⟩) ?_
        rotate_left 1
        · (go_simp <;> (try go_bits) <;> with_reducible rfl)
        simp only [Act.put, List.setIfInBounds_toArray, List.set_cons_zero, List.set_cons_succ]
        refine wpAnyP_pure (v := ?_) 4 (at_toArray rfl) (by kernel_rfl) (by kernel_rfl) (by kernel_rfl) (fun _ _ _ h => h) (Or.inl ⟨by rfl, fun W => ?_⟩) ?_
        rotate_left 1
        · (go_simp <;> (try go_bits) <;> with_reducible rfl)
        simp only [Act.put, List.setIfInBounds_toArray, List.set_cons_zero, List.set_cons_succ]
        refine wpAnyP_pure (v := ?_) 5 (at_toArray rfl) (by kernel_rfl) (by kernel_rfl) (by kernel_rfl) (fun _ _ _ h => h) (Or.inl ⟨by rfl, fun W => ?_⟩) ?_
        rotate_left 1
        · (go_simp <;> (try go_bits) <;> with_reducible rfl)
        simp only [Act.put, List.setIfInBounds_toArray, List.set_cons_zero, List.set_cons_succ]
        refine wpAnyP_pure (v := ?_) 6 (at_toArray rfl) (by kernel_rfl) (by kernel_rfl) (by kernel_rfl) (fun _ _ _ h => h) (Or.inl ⟨by rfl, fun W => ?_⟩) ?_
        rotate_left 1
        · (go_simp <;> (try go_bits) <;> with_reducible rfl)
        simp only [Act.put, List.setIfInBounds_toArray, List.set_cons_zero, List.set_cons_succ]
        refine wpAnyP_load (v := ?_) 7 (by kernel_rfl) (at_toArray rfl) (by kernel_rfl) (by kernel_rfl) (by kernel_rfl) (fun _ _ _ h => h) (by first | assumption | rfl) (Or.inl ⟨by rfl, fun W hS => ?_⟩) ?_
        rotate_left 1
        · (obtain f2 := hS; go_simp <;> (try go_bits) <;> with_reducible rfl)
        simp only [Act.put, List.setIfInBounds_toArray, List.set_cons_zero, List.set_cons_succ]
        refine wpAnyP_pure (v := ?_) 8 (at_toArray rfl) (by kernel_rfl) (by kernel_rfl) (by kernel_rfl) (fun _ _ _ h => h) (Or.inl ⟨by rfl, fun W => ?_⟩) ?_
        rotate_left 1
        · (go_simp <;> (try go_bits) <;> with_reducible rfl)
        simp only [Act.put, List.setIfInBounds_toArray, List.set_cons_zero, List.set_cons_succ]
        refine wpAnyP_pure (v := ?_) 9 (at_toArray rfl) (by kernel_rfl) (by kernel_rfl) (by kernel_rfl) (fun _ _ _ h => h) (Or.inl ⟨by rfl, fun W => ?_⟩) ?_
        rotate_left 1
        · (go_simp <;> (try go_bits) <;> with_reducible rfl)
        simp only [Act.put, List.setIfInBounds_toArray, List.set_cons_zero, List.set_cons_succ]
        refine wpAnyP_pure (v := ?_) 10 (at_toArray rfl) (by kernel_rfl) (by kernel_rfl) (by kernel_rfl) (fun _ _ _ h => h) (Or.inl ⟨by rfl, fun W => ?_⟩) ?_
        rotate_left 1
        · (go_simp <;> (try go_bits) <;> with_reducible rfl)
        simp only [Act.put, List.setIfInBounds_toArray, List.set_cons_zero, List.set_cons_succ]
        refine wpAnyP_pure (v := ?_) 11 (at_toArray rfl) (by kernel_rfl) (by kernel_rfl) (by kernel_rfl) (fun _ _ _ h => h) (Or.inl ⟨by rfl, fun W => ?_⟩) ?_
        rotate_left 1
        · (go_simp <;> (try go_bits) <;> with_reducible rfl)
        simp only [Act.put, List.setIfInBounds_toArray, List.set_cons_zero, List.set_cons_succ]
        refine wpAnyP_one 12 (at_toArray rfl) (by kernel_rfl) rfl (fun K hK => ?_)
        go_wp2_with fail
        refine hK.out _ _ (fun h => absurd h (by decide)) ?_
        clear hK
        refine wpAnyP_done (by kernel_rfl) ?_ _
        clear f2 f3 q3 hS0
        obtain ⟨w3, hw3⟩ : ∃ w3, w3 = (w2.setCell ⟨rb, 3, none⟩ (.int .i64 (m : Int))).drew := ⟨_, rfl⟩
        have hf3 : Fr (fun k => k = rb) w2 w3 := by rw [hw3]; exact (fr_own w2 rb 3 _).trans (Fr.drew _ _) (fun _ h => .inl h)
        have h4 := H3.out.re (T' := { T1 with b0 := b.take (s + q), s0 := m }) (l' := l) (k' := k) hf3 (by rw [hw3]; exact H3.out.blk.set 3 (.int .i64 (m : Int))) rfl rfl H3.out.pl (HOKB.out)
        rw [← HCUT.out] at h4
        have HF4 : Hid (GoneW w rb T F keep 1 w3) := Lib.hid ⟨_, ⟨_, _, _, _, h4⟩, U3.out.trans (upd_re hf3 H3.out.ft)⟩
        rw [← hw3]
        clear hw3 hf3 h4 H3 U3
        go_wp2_with fail
        go_roundw
        case rel => exact ⟨1, by omega, rfl, HF4⟩
        case measure => simp [intOf]
    · obtain ⟨T1, hT1⟩ : ∃ T1, T1 = T.cutA keep 1 := ⟨_, rfl⟩
      rw [← hT1] at h
      have hwf : T1.ok := h.wf
      have hs : T1.s1 ≤ T1.b1.length := hwf.s1
      have hl : T1.b1.length ≤ 1073741824 := h.len1
      obtain ⟨A, c, rfl, hr, hc, _⟩ := h.o1.reads' (by omega)
      have hnx : T.cutA keep 2 = { T1 with b1 := T1.b1.take (keepN T1.b1 T1.s1 keep), s1 := keepN T1.b1 T1.s1 keep } := by rw [hT1]; rfl
      obtain ⟨q, hq⟩ : ∃ q : Nat, min (max keep 0) ((T1.b1.length : Int) - (T1.s1 : Int)) = (q : Int) := Int.eq_ofNat_of_zero_le (by omega)
      have hkq : keepN T1.b1 T1.s1 keep = T1.s1 + q := by unfold keepN; rw [hq]; simp
      rw [hkq] at hnx
      obtain ⟨b, hb⟩ : ∃ b, b = T1.b1 := ⟨_, rfl⟩
      obtain ⟨s, hse⟩ : ∃ s, s = T1.s1 := ⟨_, rfl⟩
      obtain ⟨m, hm⟩ : ∃ m, s + q = m := ⟨_, rfl⟩
      obtain ⟨n, hn⟩ : ∃ n, n = b.length := ⟨_, rfl⟩
      have hoka : (b.take (s + q)).length = m → TS.ok { T1 with b1 := b.take (s + q) } := fun hlen => by
        have hfit := hwf.fit
        unfold TS.used at hfit
        refine ⟨hwf.s0, by show T1.s1 ≤ (b.take (s + q)).length; omega, ?_, hwf.room, hwf.left⟩
        show ((T1.b0.length + (b.take (s + q)).length : Nat) : Int) ≤ T1.room
        have hlx : (b.take (s + q)).length ≤ b.length := by rw [List.length_take]; omega
        rw [hlen] at hlx ⊢
        rw [hb] at hlx
        omega
      have hokb : TS.ok { T1 with b1 := b.take (s + q), s1 := m } := by
        have hlen : (b.take (s + q)).length = m := by rw [List.length_take, hb, Nat.min_eq_left (by omega)]; exact hm
        have hfit := hwf.fit
        unfold TS.used at hfit
        refine ⟨hwf.s0, by show m ≤ (b.take (s + q)).length; omega, ?_, hwf.room, hwf.left⟩
        show ((T1.b0.length + (b.take (s + q)).length : Nat) : Int) ≤ T1.room
        omega
      have HOKA := Lib.hid hoka
      have HOKB := Lib.hid hokb
      have HCUT : Hid (T.cutA keep 2 = { T1 with b1 := b.take (s + q), s1 := m }) := Lib.hid (by rw [hnx, hb, ← hm, hse])
      rw [← hb, ← hse] at hq
      rw [← hb] at hr hc hl hs
      rw [← hse] at hs
      have h' : RefAt wr rb T1 F' l k u0 (.slice A T1.b1.length c) := h
      rw [← hb] at h'
      rw [← hn] at hq hc hl hs h'
      have HQ : Hid (min (max keep 0) ((n : Int) - (s : Int)) = (q : Int)) := Lib.hid hq
      have hqn : s + q ≤ n := by omega
      have HN := Lib.hid hn
      have HR := Lib.hid hr
      have HSE := Lib.hid hse
      clear h hoka hokb hnx hkq hq hn hr hwf hse hb hT1
      have e2 : wr.cell? ⟨rb, 2, none⟩ = some (.slice A n c) := h'.blk.cell 2
      have e3 : wr.cell? ⟨rb, 4, none⟩ = some (.int .i64 (s : Int)) := by rw [HSE.out]; exact h'.blk.cell 4
      have H := Lib.hid h'
      clear h'
      go_wp2_with fail
      refine wp_region_phased (fun W => W.cell? ⟨rb, 2, none⟩ = some (.slice A n c) ∧ W.cell? ⟨rb, 4, none⟩ = some (.int .i64 (s : Int))) 15 (by kernel_rfl) ⟨e2, e3⟩ (fun hS0 => ?_)
      refine wpAnyP_pure (v := ?_) 0 (at_toArray rfl) (by kernel_rfl) (by kernel_rfl) (by kernel_rfl) (fun _ _ _ h => h) (Or.inl ⟨by rfl, fun W => ?_⟩) ?_
      rotate_left 1
      · (go_simp <;> (try go_bits) <;> with_reducible rfl)
      simp only [Act.put, List.setIfInBounds_toArray, List.set_cons_zero, List.set_cons_succ]
      refine wpAnyP_pure (v := ?_) 1 (at_toArray rfl) (by kernel_rfl) (by kernel_rfl) (by kernel_rfl) (fun _ _ _ h => h) (Or.inl ⟨by rfl, fun W => ?_⟩) ?_
      rotate_left 1
      · (go_simp <;> (try go_bits) <;> with_reducible rfl)
      simp only [Act.put, List.setIfInBounds_toArray, List.set_cons_zero, List.set_cons_succ]
      refine wpAnyP_pure (v := ?_) 2 (at_toArray rfl) (by kernel_rfl) (by kernel_rfl) (by kernel_rfl) (fun _ _ _ h => h) (Or.inl ⟨by rfl, fun W => ?_⟩) ?_
      rotate_left 1
      · (go_simp <;> (try go_bits) <;> with_reducible rfl)
      simp only [Act.put, List.setIfInBounds_toArray, List.set_cons_zero, List.set_cons_succ]
      refine wpAnyP_pure (v := ?_) 3 (at_toArray rfl) (by kernel_rfl) (by kernel_rfl) (by kernel_rfl) (fun _ _ _ h => h) (Or.inl ⟨by rfl, fun W => ?_⟩) ?_
      rotate_left 1
      · (go_simp <;> (try go_bits) <;> with_reducible rfl)
      simp only [Act.put, List.setIfInBounds_toArray, List.set_cons_zero, List.set_cons_succ]
      refine wpAnyP_pure (v := ?_) 4 (at_toArray rfl) (by kernel_rfl) (by kernel_rfl) (by kernel_rfl) (fun _ _ _ h => h) (Or.inl ⟨by rfl, fun W => ?_⟩) ?_
      rotate_left 1
      · (go_simp <;> (try go_bits) <;> with_reducible rfl)
      simp only [Act.put, List.setIfInBounds_toArray, List.set_cons_zero, List.set_cons_succ]
      refine wpAnyP_load (v := ?_) 5 (by kernel_rfl) (at_toArray rfl) (by kernel_rfl) (by kernel_rfl) (by kernel_rfl) (fun _ _ _ h => h) (by first | assumption | rfl) (Or.inl ⟨by rfl, fun W hS => ?_⟩) ?_
      rotate_left 1
      · (obtain ⟨f2, f3⟩ := hS; go_simp <;> (try go_bits) <;> with_reducible rfl)
      simp only [Act.put, List.setIfInBounds_toArray, List.set_cons_zero, List.set_cons_succ]
      refine wpAnyP_pure (v := ?_) 6 (at_toArray rfl) (by kernel_rfl) (by kernel_rfl) (by kernel_rfl) (fun _ _ _ h => h) (Or.inl ⟨by rfl, fun W => ?_⟩) ?_
      rotate_left 1
      · (go_simp <;> (try go_bits) <;> with_reducible rfl)
      simp only [Act.put, List.setIfInBounds_toArray, List.set_cons_zero, List.set_cons_succ]
      refine wpAnyP_pure (v := ?_) 7 (at_toArray rfl) (by kernel_rfl) (by kernel_rfl) (by kernel_rfl) (fun _ _ _ h => h) (Or.inl ⟨by rfl, fun W => ?_⟩) ?_
      rotate_left 1
      · (go_simp <;> (try go_bits) <;> with_reducible rfl)
      simp only [Act.put, List.setIfInBounds_toArray, List.set_cons_zero, List.set_cons_succ]
      refine wpAnyP_pure (v := ?_) 8 (at_toArray rfl) (by kernel_rfl) (by kernel_rfl) (by kernel_rfl) (fun _ _ _ h => h) (Or.inl ⟨by rfl, fun W => ?_⟩) ?_
      rotate_left 1
      · (go_simp <;> (try go_bits) <;> with_reducible rfl)
      simp only [Act.put, List.setIfInBounds_toArray, List.set_cons_zero, List.set_cons_succ]
      refine wpAnyP_pure (v := ?_) 9 (at_toArray rfl) (by kernel_rfl) (by kernel_rfl) (by kernel_rfl) (fun _ _ _ h => h) (Or.inl ⟨by rfl, fun W => ?_⟩) ?_
      rotate_left 1
      · (go_simp <;> (try go_bits) <;> with_reducible rfl)
      simp only [Act.put, List.setIfInBounds_toArray, List.set_cons_zero, List.set_cons_succ]
      refine wpAnyP_pure (v := ?_) 10 (at_toArray rfl) (by kernel_rfl) (by kernel_rfl) (by kernel_rfl) (fun _ _ _ h => h) (Or.inl ⟨by rfl, fun W => ?_⟩) ?_
      rotate_left 1
      · (go_simp <;> (try go_bits) <;> with_reducible rfl)
      simp only [Act.put, List.setIfInBounds_toArray, List.set_cons_zero, List.set_cons_succ]
      refine wpAnyP_pure (v := ?_) 11 (at_toArray rfl) (by kernel_rfl) (by kernel_rfl) (by kernel_rfl) (fun _ _ _ h => h) (Or.inl ⟨by rfl, fun W => ?_⟩) ?_
      rotate_left 1
      · (go_simp <;> (try go_bits) <;> with_reducible rfl)
      simp only [Act.put, List.setIfInBounds_toArray, List.set_cons_zero, List.set_cons_succ]
      refine wpAnyP_load (v := ?_) 12 (by kernel_rfl) (at_toArray rfl) (by kernel_rfl) (by kernel_rfl) (by kernel_rfl) (fun _ _ _ h => h) (by first | assumption | rfl) (Or.inl ⟨by rfl, fun W hS => ?_⟩) ?_
      rotate_left 1
      · (obtain ⟨f2, f3⟩ := hS; go_simp <;> (try go_bits) <;> with_reducible rfl)
      simp only [Act.put, List.setIfInBounds_toArray, List.set_cons_zero, List.set_cons_succ]
      refine wpAnyP_pure (v := ?_) 13 (at_toArray rfl) (by kernel_rfl) (by kernel_rfl) (by kernel_rfl) (fun _ _ _ h => h) (Or.inl ⟨by rfl, fun W => ?_⟩) ?_
      rotate_left 1
      · (go_simp <;> (try go_bits) <;> with_reducible rfl)
      simp only [Act.put, List.setIfInBounds_toArray, List.set_cons_zero, List.set_cons_succ]
      refine wpAnyP_pure (v := ?_) 14 (at_toArray rfl) (by kernel_rfl) (by kernel_rfl) (by kernel_rfl) (fun _ _ _ h => h) (Or.inl ⟨by rfl, fun W => ?_⟩) ?_
      rotate_left 1
      · (go_simp <;> (try go_bits) <;> with_reducible rfl)
      simp only [Act.put, List.setIfInBounds_toArray, List.set_cons_zero, List.set_cons_succ]
      refine wpAnyP_done (by kernel_rfl) ?_ _
      clear hS0 e2 e3
      have hbw : Below wr.heap.size wr wr.drew := (Below.refl _ _).drew
      have H1 := Lib.hid (H.out.below hbw)
      have HU1 := Lib.hid (HU.out.trans (Upd.of_below hbw))
      have HR1 := Lib.hid (HR.out.below hbw)
      clear hbw H HU HR
      generalize wr.drew = wr at *
      by_cases hk : keep < (n : Int) - (s : Int)
      · have hq2 : max keep 0 = (q : Int) := by rw [← HQ.out]; omega
        have HQ2 := Lib.hid hq2
        clear hq2
        go_wp2_with fail
        rw [HQ2.out]
        clear HQ2
        clear hk
        have d2 : wr.cell? ⟨rb, 2, none⟩ = some (.slice A n c) := H1.out.blk.cell 2
        have d3 : wr.cell? ⟨rb, 4, none⟩ = some (.int .i64 (s : Int)) := by rw [HSE.out]; exact H1.out.blk.cell 4
        have k1 : (s : Int) + (q : Int) ≤ (c : Int) := by omega
        have k0 : 0 ≤ (s : Int) + (q : Int) := by omega
        refine wp_region_phased (fun W => W.cell? ⟨rb, 2, none⟩ = some (.slice A n c) ∧ W.cell? ⟨rb, 4, none⟩ = some (.int .i64 (s : Int))) 22 (by kernel_rfl) ⟨d2, d3⟩ (fun hS0 => ?_)
        obtain ⟨wd, hwd⟩ : ∃ wd, wd = wr.drew := ⟨_, rfl⟩
        rw [← hwd] at hS0 ⊢
        have hbd : Below wr.heap.size wr wd := by rw [hwd]; exact (Below.refl _ _).drew
        have e2 : (wd.alloc (.cells #[] 5)).cell? ⟨rb, 2, none⟩ = some (.slice A n c) := (World.cell?_alloc_lt _ _ _ (World.block_lt_of_cell? wd _ hS0.1)).trans hS0.1
        have e3 : (wd.alloc (.cells #[] 5)).cell? ⟨rb, 4, none⟩ = some (.int .i64 (s : Int)) := (World.cell?_alloc_lt _ _ _ (World.block_lt_of_cell? wd _ hS0.2)).trans hS0.2
        have hHd : Hid (RefAt wd rb T1 F' l k u0 (.slice A n c)) := Lib.hid (H1.out.below hbd)
        have hUd := Lib.hid (HU1.out.trans (Upd.of_below hbd))
        have hRd := Lib.hid (HR1.out.below hbd)
        clear hwd hbd H1 HU1 HR1 d2 d3
        refine wpAnyP_pure (v := ?_) 0 (at_toArray rfl) (by kernel_rfl) (by kernel_rfl) (by kernel_rfl) (fun _ _ _ h => h) (Or.inl ⟨by rfl, fun W => ?_⟩) ?_
        rotate_left 1
        · (go_simp <;> (try go_bits) <;> with_reducible rfl)
        simp only [Act.put, List.setIfInBounds_toArray, List.set_cons_zero, List.set_cons_succ]
        refine wpAnyP_pure (v := ?_) 1 (at_toArray rfl) (by kernel_rfl) (by kernel_rfl) (by kernel_rfl) (fun _ _ _ h => h) (Or.inl ⟨by rfl, fun W => ?_⟩) ?_
        rotate_left 1
        · (go_simp <;> (try go_bits) <;> with_reducible rfl)
        simp only [Act.put, List.setIfInBounds_toArray, List.set_cons_zero, List.set_cons_succ]
        refine wpAnyP_pure (v := ?_) 3 (at_toArray rfl) (by kernel_rfl) (by kernel_rfl) (by kernel_rfl) (fun _ _ _ h => h) (Or.inl ⟨by rfl, fun W => ?_⟩) ?_
        rotate_left 1
        · (go_simp <;> (try go_bits) <;> with_reducible rfl)
        simp only [Act.put, List.setIfInBounds_toArray, List.set_cons_zero, List.set_cons_succ]
        refine wpAnyP_pure (v := ?_) 4 (at_toArray rfl) (by kernel_rfl) (by kernel_rfl) (by kernel_rfl) (fun _ _ _ h => h) (Or.inl ⟨by rfl, fun W => ?_⟩) ?_
        rotate_left 1
        · (go_simp <;> (try go_bits) <;> with_reducible rfl)
        simp only [Act.put, List.setIfInBounds_toArray, List.set_cons_zero, List.set_cons_succ]
        refine wpAnyP_pure (v := ?_) 5 (at_toArray rfl) (by kernel_rfl) (by kernel_rfl) (by kernel_rfl) (fun _ _ _ h => h) (Or.inl ⟨by rfl, fun W => ?_⟩) ?_
        rotate_left 1
        · (go_simp <;> (try go_bits) <;> with_reducible rfl)
        simp only [Act.put, List.setIfInBounds_toArray, List.set_cons_zero, List.set_cons_succ]
        refine wpAnyP_pure (v := ?_) 6 (at_toArray rfl) (by kernel_rfl) (by kernel_rfl) (by kernel_rfl) (fun _ _ _ h => h) (Or.inl ⟨by rfl, fun W => ?_⟩) ?_
        rotate_left 1
        · (go_simp <;> (try go_bits) <;> with_reducible rfl)
        simp only [Act.put, List.setIfInBounds_toArray, List.set_cons_zero, List.set_cons_succ]
        refine wpAnyP_pure (v := ?_) 7 (at_toArray rfl) (by kernel_rfl) (by kernel_rfl) (by kernel_rfl) (fun _ _ _ h => h) (Or.inl ⟨by rfl, fun W => ?_⟩) ?_
        rotate_left 1
        · (go_simp <;> (try go_bits) <;> with_reducible rfl)
        simp only [Act.put, List.setIfInBounds_toArray, List.set_cons_zero, List.set_cons_succ]
        refine wpAnyP_load (v := ?_) 8 (by kernel_rfl) (at_toArray rfl) (by kernel_rfl) (by kernel_rfl) (by kernel_rfl) (fun _ _ _ h => h) (by first | assumption | rfl) (Or.inl ⟨by rfl, fun W hS => ?_⟩) ?_
        rotate_left 1
        · (obtain ⟨f2, f3⟩ := hS; go_simp <;> (try go_bits) <;> with_reducible rfl)
        simp only [Act.put, List.setIfInBounds_toArray, List.set_cons_zero, List.set_cons_succ]
        refine wpAnyP_pure (v := ?_) 9 (at_toArray rfl) (by kernel_rfl) (by kernel_rfl) (by kernel_rfl) (fun _ _ _ h => h) (Or.inl ⟨by rfl, fun W => ?_⟩) ?_
        rotate_left 1
        · (go_simp <;> (try go_bits) <;> with_reducible rfl)
        simp only [Act.put, List.setIfInBounds_toArray, List.set_cons_zero, List.set_cons_succ]
        refine wpAnyP_pure (v := ?_) 10 (at_toArray rfl) (by kernel_rfl) (by kernel_rfl) (by kernel_rfl) (fun _ _ _ h => h) (Or.inl ⟨by rfl, fun W => ?_⟩) ?_
        rotate_left 1
        · (go_simp <;> (try go_bits) <;> with_reducible rfl)
        simp only [Act.put, List.setIfInBounds_toArray, List.set_cons_zero, List.set_cons_succ]
        refine wpAnyP_pure (v := ?_) 11 (at_toArray rfl) (by kernel_rfl) (by kernel_rfl) (by kernel_rfl) (fun _ _ _ h => h) (Or.inl ⟨by rfl, fun W => ?_⟩) ?_
        rotate_left 1
        · (go_simp <;> (try go_bits) <;> with_reducible rfl)
        simp only [Act.put, List.setIfInBounds_toArray, List.set_cons_zero, List.set_cons_succ]
        refine wpAnyP_pure (v := ?_) 12 (at_toArray rfl) (by kernel_rfl) (by kernel_rfl) (by kernel_rfl) (fun _ _ _ h => h) (Or.inl ⟨by rfl, fun W => ?_⟩) ?_
        rotate_left 1
        · (go_simp <;> (try go_bits) <;> with_reducible rfl)
        simp only [Act.put, List.setIfInBounds_toArray, List.set_cons_zero, List.set_cons_succ]
        refine wpAnyP_pure (v := ?_) 13 (at_toArray rfl) (by kernel_rfl) (by kernel_rfl) (by kernel_rfl) (fun _ _ _ h => h) (Or.inl ⟨by rfl, fun W => ?_⟩) ?_
        rotate_left 1
        · (go_simp <;> (try go_bits) <;> with_reducible rfl)
        simp only [Act.put, List.setIfInBounds_toArray, List.set_cons_zero, List.set_cons_succ]
        refine wpAnyP_load (v := ?_) 14 (by kernel_rfl) (at_toArray rfl) (by kernel_rfl) (by kernel_rfl) (by kernel_rfl) (fun _ _ _ h => h) (by first | assumption | rfl) (Or.inl ⟨by rfl, fun W hS => ?_⟩) ?_
        rotate_left 1
        · (obtain ⟨f2, f3⟩ := hS; go_simp <;> (try go_bits) <;> with_reducible rfl)
        simp only [Act.put, List.setIfInBounds_toArray, List.set_cons_zero, List.set_cons_succ]
        refine wpAnyP_pure (v := ?_) 15 (at_toArray rfl) (by kernel_rfl) (by kernel_rfl) (by kernel_rfl) (fun _ _ _ h => h) (Or.inl ⟨by rfl, fun W => ?_⟩) ?_
        rotate_left 1
        · (go_simp <;> (try go_bits) <;> with_reducible rfl)
        simp only [Act.put, List.setIfInBounds_toArray, List.set_cons_zero, List.set_cons_succ]
        refine wpAnyP_pure (v := ?_) 16 (at_toArray rfl) (by kernel_rfl) (by kernel_rfl) (by kernel_rfl) (fun _ _ _ h => h) (Or.inl ⟨by rfl, fun W => ?_⟩) ?_
        rotate_left 1
        · (go_simp <;> (try go_bits) <;> with_reducible rfl)
        simp only [Act.put, List.setIfInBounds_toArray, List.set_cons_zero, List.set_cons_succ]
        refine wpAnyP_pure (v := ?_) 17 (at_toArray rfl) (by kernel_rfl) (by kernel_rfl) (by kernel_rfl) (fun _ _ _ h => h) (Or.inl ⟨by rfl, fun W => ?_⟩) ?_
        rotate_left 1
        · (go_simp <;> (try go_bits) <;> with_reducible rfl)
        simp only [Act.put, List.setIfInBounds_toArray, List.set_cons_zero, List.set_cons_succ]
        refine wpAnyP_pure (v := ?_) 19 (at_toArray rfl) (by kernel_rfl) (by kernel_rfl) (by kernel_rfl) (fun _ _ _ h => h) (Or.inl ⟨by rfl, fun W => ?_⟩) ?_
        rotate_left 1
        · (go_simp <;> (try go_bits) <;> with_reducible rfl)
        simp only [Act.put, List.setIfInBounds_toArray, List.set_cons_zero, List.set_cons_succ]
        refine wpAnyP_pure (v := ?_) 20 (at_toArray rfl) (by kernel_rfl) (by kernel_rfl) (by kernel_rfl) (fun _ _ _ h => h) (Or.inl ⟨by rfl, fun W => ?_⟩) ?_
        rotate_left 1
        · (go_simp <;> (try go_bits) <;> with_reducible rfl)
        simp only [Act.put, List.setIfInBounds_toArray, List.set_cons_zero, List.set_cons_succ]
        refine wpAnyP_one 2 (at_toArray rfl) (by kernel_rfl) rfl (fun K hK => ?_)
        go_wp2_with fail
        refine hK.out _ _ (fun _ _ => ⟨e2, e3⟩) ?_
        clear hK
        refine wpAnyP_one 18 (at_toArray rfl) (by kernel_rfl) rfl (fun K hK => ?_)
        refine wp_append_b (.tmp 31) (.tmp 46) rfl (.slice (some ⟨wd.heap.size, 0, none⟩) 0 0) [] rfl (OB.lit wd [] _ rfl (by decide)) A c (b.take (s + q)) ?hx ?hr ?hb ?_
        case hx => rw [List.length_take, ← HN.out, Nat.min_eq_left (by omega)]; rfl
        case hr => exact (hRd.out.below ((Below.refl wd.heap.size wd).alloc (Nat.le_refl _) _)).take _
        case hb => rw [List.length_take]; simp; omega
        intro v w1 HO hg hat
        have hfr := clone_facts HO hg hat
        clear HO hg hat
        have f2 : w1.cell? ⟨rb, 2, none⟩ = some (.slice A n c) := (hfr.2.1.cell (World.block_lt_of_cell? wd _ hS0.1)).trans hS0.1
        have f3 : w1.cell? ⟨rb, 4, none⟩ = some (.int .i64 (s : Int)) := (hfr.2.1.cell (World.block_lt_of_cell? wd _ hS0.2)).trans hS0.2
        have q2 : w1.frozen? ⟨rb, 2, none⟩ = false := (hHd.out.below hfr.2.1).blk.free 2
        refine hK.out _ _ (fun _ _ => ⟨f2, f3⟩) ?_
        simp only [Act.put, List.setIfInBounds_toArray, List.set_cons_zero, List.set_cons_succ]
        clear hK hS0 e2 e3
        obtain ⟨A1, c1, rfl⟩ := hfr.1.form
        have hlen : (b.take (s + q)).length = m := by rw [List.length_take, ← HN.out, Nat.min_eq_left (by omega)]; exact hm
        have hok : TS.ok { T1 with b1 := b.take (s + q) } := HOKA.out hlen
        have h3 := hHd.out.row1 hfr hok
        have u3 := hUd.out.trans (upd_row (rb := rb) (i := 2) hfr hHd.out.ft)
        rw [hlen] at h3 u3 ⊢
        have H3 := Lib.hid h3
        have U3 := Lib.hid u3
        clear h3 u3 hok hHd hUd hRd hfr hlen
        refine wpAnyP_pure (v := ?_) 21 (at_toArray rfl) (by kernel_rfl) (by kernel_rfl) (by kernel_rfl) (fun _ _ _ h => h) (Or.inl ⟨by rfl, fun W => ?_⟩) ?_
        rotate_left 1
        · (go_simp <;> (try go_bits) <;> with_reducible rfl)
        simp only [Act.put, List.setIfInBounds_toArray, List.set_cons_zero, List.set_cons_succ]
        refine wpAnyP_one 22 (at_toArray rfl) (by kernel_rfl) rfl (fun K hK => ?_)
        go_wp2_with fail
        refine hK.out _ _ (fun h => absurd h (by decide)) ?_
        clear hK
        refine wpAnyP_done (by kernel_rfl) ?_ _
        clear f2 f3 q2
        generalize w1.setCell _ _ = w2 at *
        have f2 : w2.cell? ⟨rb, 2, none⟩ = some (.slice A1 m c1) := H3.out.blk.cell 2
        have f3 : w2.drew.cell? ⟨rb, 4, none⟩ = some (.int .i64 (s : Int)) := by rw [HSE.out]; exact H3.out.blk.cell 4
        have q3 : w2.drew.frozen? ⟨rb, 4, none⟩ = false := H3.out.blk.free 4
        go_wp2_with fail
        refine wp_region_phased (fun W => W.cell? ⟨rb, 2, none⟩ = some (.slice A1 m c1)) 12 (by kernel_rfl) f2 (fun hS0 => ?_)
        refine wpAnyP_pure (v := ?_) 0 (at_toArray rfl) (by kernel_rfl) (by kernel_rfl) (by kernel_rfl) (fun _ _ _ h => h) (Or.inl ⟨by rfl, fun W => ?_⟩) ?_
        rotate_left 1
        · (go_simp <;> (try go_bits) <;> with_reducible rfl)
        simp only [Act.put, List.setIfInBounds_toArray, List.set_cons_zero, List.set_cons_succ]
        refine wpAnyP_pure (v := ?_) 1 (at_toArray rfl) (by kernel_rfl) (by kernel_rfl) (by kernel_rfl) (fun _ _ _ h => h) (Or.inl ⟨by rfl, fun W => ?_⟩) ?_
        rotate_left 1
        · (go_simp <;> (try go_bits) <;> with_reducible rfl)
        simp only [Act.put, List.setIfInBounds_toArray, List.set_cons_zero, List.set_cons_succ]
        refine wpAnyP_pure (v := ?_) 2 (at_toArray rfl) (by kernel_rfl) (by kernel_rfl) (by kernel_rfl) (fun _ _ _ h => h) (Or.inl ⟨by rfl, fun W => ?_⟩) ?_
        rotate_left 1
        · (go_simp <;> (try go_bits) <;> with_reducible rfl)
        simp only [Act.put, List.setIfInBounds_toArray, List.set_cons_zero, List.set_cons_succ]
        refine wpAnyP_pure (v := ?_) 3 (at_toArray rfl) (by kernel_rfl) (by kernel_rfl) (by kernel_rfl) (fun _ _ _ h => h) (Or.inl ⟨by rfl, fun W => ?_⟩) ?_
        rotate_left 1
        · (go_simp <;> (try go_bits) <;> with_reducible rfl)
        simp only [Act.put, List.setIfInBounds_toArray, List.set_cons_zero, List.set_cons_succ]
        refine wpAnyP_pure (v := ?_) 4 (at_toArray rfl) (by kernel_rfl) (by kernel_rfl) (by kernel_rfl) (fun _ _ _ h => h) (Or.inl ⟨by rfl, fun W => ?_⟩) ?_
        rotate_left 1
        · (go_simp <;> (try go_bits) <;> with_reducible rfl)
        simp only [Act.put, List.setIfInBounds_toArray, List.set_cons_zero, List.set_cons_succ]
        refine wpAnyP_pure (v := ?_) 5 (at_toArray rfl) (by kernel_rfl) (by kernel_rfl) (by kernel_rfl) (fun _ _ _ h => h) (Or.inl ⟨by rfl, fun W => ?_⟩) ?_
        rotate_left 1
        · (go_simp <;> (try go_bits) <;> with_reducible rfl)
        simp only [Act.put, List.setIfInBounds_toArray, List.set_cons_zero, List.set_cons_succ]
        refine wpAnyP_pure (v := ?_) 6 (at_toArray rfl) (by kernel_rfl) (by kernel_rfl) (by kernel_rfl) (fun _ _ _ h => h) (Or.inl ⟨by rfl, fun W => ?_⟩) ?_
        rotate_left 1
        · (go_simp <;> (try go_bits) <;> with_reducible rfl)
        simp only [Act.put, List.setIfInBounds_toArray, List.set_cons_zero, List.set_cons_succ]
        refine wpAnyP_load (v := ?_) 7 (by kernel_rfl) (at_toArray rfl) (by kernel_rfl) (by kernel_rfl) (by kernel_rfl) (fun _ _ _ h => h) (by first | assumption | rfl) (Or.inl ⟨by rfl, fun W hS => ?_⟩) ?_
        rotate_left 1
        · (obtain f2 := hS; go_simp <;> (try go_bits) <;> with_reducible rfl)
        simp only [Act.put, List.setIfInBounds_toArray, List.set_cons_zero, List.set_cons_succ]
        refine wpAnyP_pure (v := ?_) 8 (at_toArray rfl) (by kernel_rfl) (by kernel_rfl) (by kernel_rfl) (fun _ _ _ h => h) (Or.inl ⟨by rfl, fun W => ?_⟩) ?_
        rotate_left 1
        · (go_simp <;> (try go_bits) <;> with_reducible rfl)
        simp only [Act.put, List.setIfInBounds_toArray, List.set_cons_zero, List.set_cons_succ]
        refine wpAnyP_pure (v := ?_) 9 (at_toArray rfl) (by kernel_rfl) (by kernel_rfl) (by kernel_rfl) (fun _ _ _ h => h) (Or.inl ⟨by rfl, fun W => ?_⟩) ?_
        rotate_left 1
        · (go_simp <;> (try go_bits) <;> with_reducible rfl)
        simp only [Act.put, List.setIfInBounds_toArray, List.set_cons_zero, List.set_cons_succ]
        refine wpAnyP_pure (v := ?_) 10 (at_toArray rfl) (by kernel_rfl) (by kernel_rfl) (by kernel_rfl) (fun _ _ _ h => h) (Or.inl ⟨by rfl, fun W => ?_⟩) ?_
        rotate_left 1
        · (go_simp <;> (try go_bits) <;> with_reducible rfl)
        simp only [Act.put, List.setIfInBounds_toArray, List.set_cons_zero, List.set_cons_succ]
        refine wpAnyP_pure (v := ?_) 11 (at_toArray rfl) (by kernel_rfl) (by kernel_rfl) (by kernel_rfl) (fun _ _ _ h => h) (Or.inl ⟨by rfl, fun W => ?_⟩) ?_
        rotate_left 1
        · (go_simp <;> (try go_bits) <;> with_reducible rfl)
        simp only [Act.put, List.setIfInBounds_toArray, List.set_cons_zero, List.set_cons_succ]
        refine wpAnyP_one 12 (at_toArray rfl) (by kernel_rfl) rfl (fun K hK => ?_)
        go_wp2_with fail
        refine hK.out _ _ (fun h => absurd h (by decide)) ?_
        clear hK
        refine wpAnyP_done (by kernel_rfl) ?_ _
        clear f2 f3 q3 hS0
        obtain ⟨w3, hw3⟩ : ∃ w3, w3 = (w2.setCell ⟨rb, 4, none⟩ (.int .i64 (m : Int))).drew := ⟨_, rfl⟩
        have hf3 : Fr (fun k => k = rb) w2 w3 := by rw [hw3]; exact (fr_own w2 rb 4 _).trans (Fr.drew _ _) (fun _ h => .inl h)
        have h4 := H3.out.re (T' := { T1 with b1 := b.take (s + q), s1 := m }) (l' := l) (k' := k) hf3 (by rw [hw3]; exact H3.out.blk.set 4 (.int .i64 (m : Int))) rfl rfl H3.out.pl (HOKB.out)
        rw [← HCUT.out] at h4
        have HF4 : Hid (GoneW w rb T F keep 2 w3) := Lib.hid ⟨_, ⟨_, _, _, _, h4⟩, U3.out.trans (upd_re hf3 H3.out.ft)⟩
        rw [← hw3]
        clear hw3 hf3 h4 H3 U3
        go_wp2_with fail
        go_roundw
        case rel => exact ⟨2, by omega, rfl, HF4⟩
        case measure => simp [intOf]
      · have hq2 : (n : Int) - (s : Int) = (q : Int) := by rw [← HQ.out]; omega
        have HQ2 := Lib.hid hq2
        clear hq2
        go_wp2_with fail
        rw [HQ2.out]
        clear HQ2
        clear hk
        have d2 : wr.cell? ⟨rb, 2, none⟩ = some (.slice A n c) := H1.out.blk.cell 2
        have d3 : wr.cell? ⟨rb, 4, none⟩ = some (.int .i64 (s : Int)) := by rw [HSE.out]; exact H1.out.blk.cell 4
        have k1 : (s : Int) + (q : Int) ≤ (c : Int) := by omega
        have k0 : 0 ≤ (s : Int) + (q : Int) := by omega
        refine wp_region_phased (fun W => W.cell? ⟨rb, 2, none⟩ = some (.slice A n c) ∧ W.cell? ⟨rb, 4, none⟩ = some (.int .i64 (s : Int))) 22 (by kernel_rfl) ⟨d2, d3⟩ (fun hS0 => ?_)
        obtain ⟨wd, hwd⟩ : ∃ wd, wd = wr.drew := ⟨_, rfl⟩
        rw [← hwd] at hS0 ⊢
        have hbd : Below wr.heap.size wr wd := by rw [hwd]; exact (Below.refl _ _).drew
        have e2 : (wd.alloc (.cells #[] 5)).cell? ⟨rb, 2, none⟩ = some (.slice A n c) := (World.cell?_alloc_lt _ _ _ (World.block_lt_of_cell? wd _ hS0.1)).trans hS0.1
        have e3 : (wd.alloc (.cells #[] 5)).cell? ⟨rb, 4, none⟩ = some (.int .i64 (s : Int)) := (World.cell?_alloc_lt _ _ _ (World.block_lt_of_cell? wd _ hS0.2)).trans hS0.2
        have hHd : Hid (RefAt wd rb T1 F' l k u0 (.slice A n c)) := Lib.hid (H1.out.below hbd)
        have hUd := Lib.hid (HU1.out.trans (Upd.of_below hbd))
        have hRd := Lib.hid (HR1.out.below hbd)
        clear hwd hbd H1 HU1 HR1 d2 d3
        refine wpAnyP_pure (v := ?_) 0 (at_toArray rfl) (by kernel_rfl) (by kernel_rfl) (by kernel_rfl) (fun _ _ _ h => h) (Or.inl ⟨by rfl, fun W => ?_⟩) ?_
        rotate_left 1
        · (go_simp <;> (try go_bits) <;> with_reducible rfl)
        simp only [Act.put, List.setIfInBounds_toArray, List.set_cons_zero, List.set_cons_succ]
        refine wpAnyP_pure (v := ?_) 1 (at_toArray rfl) (by kernel_rfl) (by kernel_rfl) (by kernel_rfl) (fun _ _ _ h => h) (Or.inl ⟨by rfl, fun W => ?_⟩) ?_
        rotate_left 1
        · (go_simp <;> (try go_bits) <;> with_reducible rfl)
        simp only [Act.put, List.setIfInBounds_toArray, List.set_cons_zero, List.set_cons_succ]
        refine wpAnyP_pure (v := ?_) 3 (at_toArray rfl) (by kernel_rfl) (by kernel_rfl) (by kernel_rfl) (fun _ _ _ h => h) (Or.inl ⟨by rfl, fun W => ?_⟩) ?_
        rotate_left 1
        · (go_simp <;> (try go_bits) <;> with_reducible rfl)
        simp only [Act.put, List.setIfInBounds_toArray, List.set_cons_zero, List.set_cons_succ]
        refine wpAnyP_pure (v := ?_) 4 (at_toArray rfl) (by kernel_rfl) (by kernel_rfl) (by kernel_rfl) (fun _ _ _ h => h) (Or.inl ⟨by rfl, fun W => ?_⟩) ?_
        rotate_left 1
        · (go_simp <;> (try go_bits) <;> with_reducible rfl)
        simp only [Act.put, List.setIfInBounds_toArray, List.set_cons_zero, List.set_cons_succ]
        refine wpAnyP_pure (v := ?_) 5 (at_toArray rfl) (by kernel_rfl) (by kernel_rfl) (by kernel_rfl) (fun _ _ _ h => h) (Or.inl ⟨by rfl, fun W => ?_⟩) ?_
        rotate_left 1
        · (go_simp <;> (try go_bits) <;> with_reducible rfl)
        simp only [Act.put, List.setIfInBounds_toArray, List.set_cons_zero, List.set_cons_succ]
        refine wpAnyP_pure (v := ?_) 6 (at_toArray rfl) (by kernel_rfl) (by kernel_rfl) (by kernel_rfl) (fun _ _ _ h => h) (Or.inl ⟨by rfl, fun W => ?_⟩) ?_
        rotate_left 1
        · (go_simp <;> (try go_bits) <;> with_reducible rfl)
        simp only [Act.put, List.setIfInBounds_toArray, List.set_cons_zero, List.set_cons_succ]
        refine wpAnyP_pure (v := ?_) 7 (at_toArray rfl) (by kernel_rfl) (by kernel_rfl) (by kernel_rfl) (fun _ _ _ h => h) (Or.inl ⟨by rfl, fun W => ?_⟩) ?_
        rotate_left 1
        · (go_simp <;> (try go_bits) <;> with_reducible rfl)
        simp only [Act.put, List.setIfInBounds_toArray, List.set_cons_zero, List.set_cons_succ]
        refine wpAnyP_load (v := ?_) 8 (by kernel_rfl) (at_toArray rfl) (by kernel_rfl) (by kernel_rfl) (by kernel_rfl) (fun _ _ _ h => h) (by first | assumption | rfl) (Or.inl ⟨by rfl, fun W hS => ?_⟩) ?_
        rotate_left 1
        · (obtain ⟨f2, f3⟩ := hS; go_simp <;> (try go_bits) <;> with_reducible rfl)
        simp only [Act.put, List.setIfInBounds_toArray, List.set_cons_zero, List.set_cons_succ]
        refine wpAnyP_pure (v := ?_) 9 (at_toArray rfl) (by kernel_rfl) (by kernel_rfl) (by kernel_rfl) (fun _ _ _ h => h) (Or.inl ⟨by rfl, fun W => ?_⟩) ?_
        rotate_left 1
        · (go_simp <;> (try go_bits) <;> with_reducible rfl)
        simp only [Act.put, List.setIfInBounds_toArray, List.set_cons_zero, List.set_cons_succ]
        refine wpAnyP_pure (v := ?_) 10 (at_toArray rfl) (by kernel_rfl) (by kernel_rfl) (by kernel_rfl) (fun _ _ _ h => h) (Or.inl ⟨by rfl, fun W => ?_⟩) ?_
        rotate_left 1
        · (go_simp <;> (try go_bits) <;> with_reducible rfl)
        simp only [Act.put, List.setIfInBounds_toArray, List.set_cons_zero, List.set_cons_succ]
        refine wpAnyP_pure (v := ?_) 11 (at_toArray rfl) (by kernel_rfl) (by kernel_rfl) (by kernel_rfl) (fun _ _ _ h => h) (Or.inl ⟨by rfl, fun W => ?_⟩) ?_
        rotate_left 1
        · (go_simp <;> (try go_bits) <;> with_reducible rfl)
        simp only [Act.put, List.setIfInBounds_toArray, List.set_cons_zero, List.set_cons_succ]
        refine wpAnyP_pure (v := ?_) 12 (at_toArray rfl) (by kernel_rfl) (by kernel_rfl) (by kernel_rfl) (fun _ _ _ h => h) (Or.inl ⟨by rfl, fun W => ?_⟩) ?_
        rotate_left 1
        · (go_simp <;> (try go_bits) <;> with_reducible rfl)
        simp only [Act.put, List.setIfInBounds_toArray, List.set_cons_zero, List.set_cons_succ]
        refine wpAnyP_pure (v := ?_) 13 (at_toArray rfl) (by kernel_rfl) (by kernel_rfl) (by kernel_rfl) (fun _ _ _ h => h) (Or.inl ⟨by rfl, fun W => ?_⟩) ?_
        rotate_left 1
        · (go_simp <;> (try go_bits) <;> with_reducible rfl)
        simp only [Act.put, List.setIfInBounds_toArray, List.set_cons_zero, List.set_cons_succ]
        refine wpAnyP_load (v := ?_) 14 (by kernel_rfl) (at_toArray rfl) (by kernel_rfl) (by kernel_rfl) (by kernel_rfl) (fun _ _ _ h => h) (by first | assumption | rfl) (Or.inl ⟨by rfl, fun W hS => ?_⟩) ?_
        rotate_left 1
        · (obtain ⟨f2, f3⟩ := hS; go_simp <;> (try go_bits) <;> with_reducible rfl)
        simp only [Act.put, List.setIfInBounds_toArray, List.set_cons_zero, List.set_cons_succ]
        refine wpAnyP_pure (v := ?_) 15 (at_toArray rfl) (by kernel_rfl) (by kernel_rfl) (by kernel_rfl) (fun _ _ _ h => h) (Or.inl ⟨by rfl, fun W => ?_⟩) ?_
        rotate_left 1
        · (go_simp <;> (try go_bits) <;> with_reducible rfl)
        simp only [Act.put, List.setIfInBounds_toArray, List.set_cons_zero, List.set_cons_succ]
        refine wpAnyP_pure (v := ?_) 16 (at_toArray rfl) (by kernel_rfl) (by kernel_rfl) (by kernel_rfl) (fun _ _ _ h => h) (Or.inl ⟨by rfl, fun W => ?_⟩) ?_
        rotate_left 1
        · (go_simp <;> (try go_bits) <;> with_reducible rfl)
        simp only [Act.put, List.setIfInBounds_toArray, List.set_cons_zero, List.set_cons_succ]
        refine wpAnyP_pure (v := ?_) 17 (at_toArray rfl) (by kernel_rfl) (by kernel_rfl) (by kernel_rfl) (fun _ _ _ h => h) (Or.inl ⟨by rfl, fun W => ?_⟩) ?_
        rotate_left 1
        · (go_simp <;> (try go_bits) <;> with_reducible rfl)
        simp only [Act.put, List.setIfInBounds_toArray, List.set_cons_zero, List.set_cons_succ]
        refine wpAnyP_pure (v := ?_) 19 (at_toArray rfl) (by kernel_rfl) (by kernel_rfl) (by kernel_rfl) (fun _ _ _ h => h) (Or.inl ⟨by rfl, fun W => ?_⟩) ?_
        rotate_left 1
        · (go_simp <;> (try go_bits) <;> with_reducible rfl)
        simp only [Act.put, List.setIfInBounds_toArray, List.set_cons_zero, List.set_cons_succ]
        refine wpAnyP_pure (v := ?_) 20 (at_toArray rfl) (by kernel_rfl) (by kernel_rfl) (by kernel_rfl) (fun _ _ _ h => h) (Or.inl ⟨by rfl, fun W => ?_⟩) ?_
        rotate_left 1
        · (go_simp <;> (try go_bits) <;> with_reducible rfl)
        simp only [Act.put, List.setIfInBounds_toArray, List.set_cons_zero, List.set_cons_succ]
        refine wpAnyP_one 2 (at_toArray rfl) (by kernel_rfl) rfl (fun K hK => ?_)
        go_wp2_with fail
        refine hK.out _ _ (fun _ _ => ⟨e2, e3⟩) ?_
        clear hK
        refine wpAnyP_one 18 (at_toArray rfl) (by kernel_rfl) rfl (fun K hK => ?_)
        refine wp_append_b (.tmp 31) (.tmp 46) rfl (.slice (some ⟨wd.heap.size, 0, none⟩) 0 0) [] rfl (OB.lit wd [] _ rfl (by decide)) A c (b.take (s + q)) ?hx ?hr ?hb ?_
        case hx => rw [List.length_take, ← HN.out, Nat.min_eq_left (by omega)]; rfl
        case hr => exact (hRd.out.below ((Below.refl wd.heap.size wd).alloc (Nat.le_refl _) _)).take _
        case hb => rw [List.length_take]; simp; omega
        intro v w1 HO hg hat
        have hfr := clone_facts HO hg hat
        clear HO hg hat
        have f2 : w1.cell? ⟨rb, 2, none⟩ = some (.slice A n c) := (hfr.2.1.cell (World.block_lt_of_cell? wd _ hS0.1)).trans hS0.1
        have f3 : w1.cell? ⟨rb, 4, none⟩ = some (.int .i64 (s : Int)) := (hfr.2.1.cell (World.block_lt_of_cell? wd _ hS0.2)).trans hS0.2
        have q2 : w1.frozen? ⟨rb, 2, none⟩ = false := (hHd.out.below hfr.2.1).blk.free 2
        refine hK.out _ _ (fun _ _ => ⟨f2, f3⟩) ?_
        simp only [Act.put, List.setIfInBounds_toArray, List.set_cons_zero, List.set_cons_succ]
        clear hK hS0 e2 e3
        obtain ⟨A1, c1, rfl⟩ := hfr.1.form
        have hlen : (b.take (s + q)).length = m := by rw [List.length_take, ← HN.out, Nat.min_eq_left (by omega)]; exact hm
        have hok : TS.ok { T1 with b1 := b.take (s + q) } := HOKA.out hlen
        have h3 := hHd.out.row1 hfr hok
        have u3 := hUd.out.trans (upd_row (rb := rb) (i := 2) hfr hHd.out.ft)
        rw [hlen] at h3 u3 ⊢
        have H3 := Lib.hid h3
        have U3 := Lib.hid u3
        clear h3 u3 hok hHd hUd hRd hfr hlen
        refine wpAnyP_pure (v := ?_) 21 (at_toArray rfl) (by kernel_rfl) (by kernel_rfl) (by kernel_rfl) (fun _ _ _ h => h) (Or.inl ⟨by rfl, fun W => ?_⟩) ?_
        rotate_left 1
        · (go_simp <;> (try go_bits) <;> with_reducible rfl)
        simp only [Act.put, List.setIfInBounds_toArray, List.set_cons_zero, List.set_cons_succ]
        refine wpAnyP_one 22 (at_toArray rfl) (by kernel_rfl) rfl (fun K hK => ?_)
        go_wp2_with fail
        refine hK.out _ _ (fun h => absurd h (by decide)) ?_
        clear hK
        refine wpAnyP_done (by kernel_rfl) ?_ _
        clear f2 f3 q2
        generalize w1.setCell _ _ = w2 at *
        have f2 : w2.cell? ⟨rb, 2, none⟩ = some (.slice A1 m c1) := H3.out.blk.cell 2
        have f3 : w2.drew.cell? ⟨rb, 4, none⟩ = some (.int .i64 (s : Int)) := by rw [HSE.out]; exact H3.out.blk.cell 4
        have q3 : w2.drew.frozen? ⟨rb, 4, none⟩ = false := H3.out.blk.free 4
        go_wp2_with fail
        refine wp_region_phased (fun W => W.cell? ⟨rb, 2, none⟩ = some (.slice A1 m c1)) 12 (by kernel_rfl) f2 (fun hS0 => ?_)
        refine wpAnyP_pure (v := ?_) 0 (at_toArray rfl) (by kernel_rfl) (by kernel_rfl) (by kernel_rfl) (fun _ _ _ h => h) (Or.inl ⟨by rfl, fun W => ?_⟩) ?_
        rotate_left 1
        · (go_simp <;> (try go_bits) <;> with_reducible rfl)
        simp only [Act.put, List.setIfInBounds_toArray, List.set_cons_zero, List.set_cons_succ]
        refine wpAnyP_pure (v := ?_) 1 (at_toArray rfl) (by kernel_rfl) (by kernel_rfl) (by kernel_rfl) (fun _ _ _ h => h) (Or.inl ⟨by rfl, fun W => ?_⟩) ?_
        rotate_left 1
        · (go_simp <;> (try go_bits) <;> with_reducible rfl)
        simp only [Act.put, List.setIfInBounds_toArray, List.set_cons_zero, List.set_cons_succ]
        refine wpAnyP_pure (v := ?_) 2 (at_toArray rfl) (by kernel_rfl) (by kernel_rfl) (by kernel_rfl) (fun _ _ _ h => h) (Or.inl ⟨by rfl, fun W => ?_⟩) ?_
        rotate_left 1
        · (go_simp <;> (try go_bits) <;> with_reducible rfl)
        simp only [Act.put, List.setIfInBounds_toArray, List.set_cons_zero, List.set_cons_succ]
        refine wpAnyP_pure (v := ?_) 3 (at_toArray rfl) (by kernel_rfl) (by kernel_rfl) (by kernel_rfl) (fun _ _ _ h => h) (Or.inl ⟨by rfl, fun W => ?_⟩) ?_
        rotate_left 1
        · (go_simp <;> (try go_bits) <;> with_reducible rfl)
        simp only [Act.put, List.setIfInBounds_toArray, List.set_cons_zero, List.set_cons_succ]
        refine wpAnyP_pure (v := ?_) 4 (at_toArray rfl) (by kernel_rfl) (by kernel_rfl) (by kernel_rfl) (fun _ _ _ h => h) (Or.inl ⟨by rfl, fun W => ?_⟩) ?_
        rotate_left 1
        · (go_simp <;> (try go_bits) <;> with_reducible rfl)
        simp only [Act.put, List.setIfInBounds_toArray, List.set_cons_zero, List.set_cons_succ]
        refine wpAnyP_pure (v := ?_) 5 (at_toArray rfl) (by kernel_rfl) (by kernel_rfl) (by kernel_rfl) (fun _ _ _ h => h) (Or.inl ⟨by rfl, fun W => ?_⟩) ?_
        rotate_left 1
        · (go_simp <;> (try go_bits) <;> with_reducible rfl)
        simp only [Act.put, List.setIfInBounds_toArray, List.set_cons_zero, List.set_cons_succ]
        refine wpAnyP_pure (v := ?_) 6 (at_toArray rfl) (by kernel_rfl) (by kernel_rfl) (by kernel_rfl) (fun _ _ _ h => h) (Or.inl ⟨by rfl, fun W => ?_⟩) ?_
        rotate_left 1
        · (go_simp <;> (try go_bits) <;> with_reducible rfl)
        simp only [Act.put, List.setIfInBounds_toArray, List.set_cons_zero, List.set_cons_succ]
        refine wpAnyP_load (v := ?_) 7 (by kernel_rfl) (at_toArray rfl) (by kernel_rfl) (by kernel_rfl) (by kernel_rfl) (fun _ _ _ h => h) (by first | assumption | rfl) (Or.inl ⟨by rfl, fun W hS => ?_⟩) ?_
        rotate_left 1
        · (obtain f2 := hS; go_simp <;> (try go_bits) <;> with_reducible rfl)
        simp only [Act.put, List.setIfInBounds_toArray, List.set_cons_zero, List.set_cons_succ]
        refine wpAnyP_pure (v := ?_) 8 (at_toArray rfl) (by kernel_rfl) (by kernel_rfl) (by kernel_rfl) (fun _ _ _ h => h) (Or.inl ⟨by rfl, fun W => ?_⟩) ?_
        rotate_left 1
        · (go_simp <;> (try go_bits) <;> with_reducible rfl)
        simp only [Act.put, List.setIfInBounds_toArray, List.set_cons_zero, List.set_cons_succ]
        refine wpAnyP_pure (v := ?_) 9 (at_toArray rfl) (by kernel_rfl) (by kernel_rfl) (by kernel_rfl) (fun _ _ _ h => h) (Or.inl ⟨by rfl, fun W => ?_⟩) ?_
        rotate_left 1
        · (go_simp <;> (try go_bits) <;> with_reducible rfl)
        simp only [Act.put, List.setIfInBounds_toArray, List.set_cons_zero, List.set_cons_succ]
        refine wpAnyP_pure (v := ?_) 10 (at_toArray rfl) (by kernel_rfl) (by kernel_rfl) (by kernel_rfl) (fun _ _ _ h => h) (Or.inl ⟨by rfl, fun W => ?_⟩) ?_
        rotate_left 1
        · (go_simp <;> (try go_bits) <;> with_reducible rfl)
        simp only [Act.put, List.setIfInBounds_toArray, List.set_cons_zero, List.set_cons_succ]
        refine wpAnyP_pure (v := ?_) 11 (at_toArray rfl) (by kernel_rfl) (by kernel_rfl) (by kernel_rfl) (fun _ _ _ h => h) (Or.inl ⟨by rfl, fun W => ?_⟩) ?_
        rotate_left 1
        · (go_simp <;> (try go_bits) <;> with_reducible rfl)
        simp only [Act.put, List.setIfInBounds_toArray, List.set_cons_zero, List.set_cons_succ]
        refine wpAnyP_one 12 (at_toArray rfl) (by kernel_rfl) rfl (fun K hK => ?_)
        go_wp2_with fail
        refine hK.out _ _ (fun h => absurd h (by decide)) ?_
        clear hK
        refine wpAnyP_done (by kernel_rfl) ?_ _
        clear f2 f3 q3 hS0
        obtain ⟨w3, hw3⟩ : ∃ w3, w3 = (w2.setCell ⟨rb, 4, none⟩ (.int .i64 (m : Int))).drew := ⟨_, rfl⟩
        have hf3 : Fr (fun k => k = rb) w2 w3 := by rw [hw3]; exact (fr_own w2 rb 4 _).trans (Fr.drew _ _) (fun _ h => .inl h)
        have h4 := H3.out.re (T' := { T1 with b1 := b.take (s + q), s1 := m }) (l' := l) (k' := k) hf3 (by rw [hw3]; exact H3.out.blk.set 4 (.int .i64 (m : Int))) rfl rfl H3.out.pl (HOKB.out)
        rw [← HCUT.out] at h4
        have HF4 : Hid (GoneW w rb T F keep 2 w3) := Lib.hid ⟨_, ⟨_, _, _, _, h4⟩, U3.out.trans (upd_re hf3 H3.out.ft)⟩
        rw [← hw3]
        clear hw3 hf3 h4 H3 U3
        go_wp2_with fail
        go_roundw
        case rel => exact ⟨2, by omega, rfl, HF4⟩
        case measure => simp [intOf]
    · have h5 : wr.cell? ⟨rb, 5, none⟩ = some (.bool (T.cutA keep 2).off) := h.blk.cell 5
      have h6 : wr.cell? ⟨rb, 6, none⟩ = some (.bool (T.cutA keep 2).plan.isSome) := h.blk.cell 6
      have h10 : wr.cell? ⟨rb, 10, none⟩ = some (.int .i64 T.fails) := h.blk.cell 10
      have g5 := h.blk.free 5
      have g6 := h.blk.free 6
      have g10 := h.blk.free 10
      have H := Lib.hid h
      clear h
      go_wp2_with fail
      go_end0
      have h := H.out
      have hf : Fr (fun k => k = rb) wr (((wr.setCell ⟨rb, 5, none⟩ (.bool true)).setCell ⟨rb, 6, none⟩ (.bool false)).setCell ⟨rb, 10, none⟩ (.int .i64 (wrap64 (T.fails + 1)))) :=
        ((fr_own _ _ _ _).trans (fr_own _ _ _ _) (fun _ h => .inl h)).trans (fr_own _ _ _ _) (fun _ h => .inl h)
      exact ⟨rfl, F', ⟨l, k, u0, u1, h.re (T' := T.gone keep) (l' := l) (k' := k) hf (((h.blk.set 5 (.bool true)).set 6 (.bool false)).set 10 _) rfl rfl (fun a b e => by cases e) ⟨h.wf.s0, h.wf.s1, h.wf.fit, h.wf.room, fun l k e => by cases e⟩⟩, HU.out.trans (upd_re hf h.ft)⟩

end Go.Proofs.YtdhafdejionefaaGreat
