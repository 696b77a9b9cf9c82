/- The walks of the tape's cut, gone, Fail, Arm. -/
import Derived.Test.YtnkenkdglcmpdaaTapeC
import Derived.Test.YtnkenkdglcmpdaaReg
namespace Go.Proofs.Ytnkenkdglcmpdaa
set_option linter.unusedVariables false
set_option linter.unusedSimpArgs false
open Go.RowKit
attribute [local go_sem] max2_int min2_int max_two min_two min_four

/-- What cut keeps of an area. -/
def keepN (b : List UInt8) (s : Nat) (keep : Int) : Nat := s + (min (max keep 0) ((b.length : Int) - (s : Int))).toNat
theorem keepN_le (b : List UInt8) (s : Nat) (keep : Int) (hs : s ≤ b.length) : s ≤ keepN b s keep ∧ keepN b s keep ≤ b.length := by unfold keepN; omega
set_option maxRecDepth 100000 in
set_option maxHeartbeats 2000000 in
theorem cut_any (tb o : Nat) (keep : Int) (A : Option Addr) (c : Nat) (b : List UInt8) (s : Nat) (w : World) (hs : s ≤ b.length) (hl : b.length ≤ 1073741824) (hc : b.length ≤ c)
    (h2 : w.cell? ⟨tb, o, none⟩ = some (.slice A b.length c)) (h3 : w.cell? ⟨tb, o + 1, none⟩ = some (.int .i64 (s : Int))) (g2 : w.frozen? ⟨tb, o, none⟩ = false) (g3 : w.frozen? ⟨tb, o + 1, none⟩ = false) (hr : RB w A b) :
    Calls Try.prog 86 #[.pointer (some ⟨tb, o, none⟩), .int .i64 keep] w fun e w' => e = .returned (.tuple #[]) ∧ ∃ v w1, Fresh w w1 v (b.take (keepN b s keep)) ∧
      w' = ((w1.setCell ⟨tb, o, none⟩ v).setCell ⟨tb, o + 1, none⟩ (.int .i64 ((keepN b s keep : Nat) : Int))) := by
  obtain ⟨n, hn⟩ : ∃ n, n = b.length := ⟨_, rfl⟩
  obtain ⟨q, hq⟩ : ∃ q : Nat, min (max keep 0) ((n : Int) - (s : Int)) = (q : Int) := Int.eq_ofNat_of_zero_le (by omega)
  have hk : keepN b s keep = s + q := by unfold keepN; rw [← hn, hq]; simp
  have hkl := keepN_le b s keep hs
  rw [hk] at hkl ⊢
  rw [← hn] at h2 hs hl hc hkl
  have HN := Lib.hid hn
  have HR := Lib.hid hr
  have HQ := Lib.hid hq
  clear hn hr hk hq
  go_enter Try.func86, Try.ntmps86
  go_wp2_with fail
  refine wp_region_phased (fun W => W = w.drew) 13 (by kernel_rfl) rfl (fun hS0 => ?_)
  refine wpAnyP_pure (v := ?_) 0 (at_toArray rfl) (by kernel_rfl) (by kernel_rfl) (by kernel_rfl) (fun _ _ _ h => h) (Or.inl ⟨by rfl, fun W => ?_⟩) ?_
  rotate_left 1
  · (go_simp <;> (try go_bits) <;> with_reducible rfl)
  simp only [Act.put, List.setIfInBounds_toArray, List.set_cons_zero, List.set_cons_succ]
  refine wpAnyP_pure (v := ?_) 1 (at_toArray rfl) (by kernel_rfl) (by kernel_rfl) (by kernel_rfl) (fun _ _ _ h => h) (Or.inl ⟨by rfl, fun W => ?_⟩) ?_
  rotate_left 1
  · (go_simp <;> (try go_bits) <;> with_reducible rfl)
  simp only [Act.put, List.setIfInBounds_toArray, List.set_cons_zero, List.set_cons_succ]
  refine wpAnyP_pure (v := ?_) 2 (at_toArray rfl) (by kernel_rfl) (by kernel_rfl) (by kernel_rfl) (fun _ _ _ h => h) (Or.inl ⟨by rfl, fun W => ?_⟩) ?_
  rotate_left 1
  · (go_simp <;> (try go_bits) <;> with_reducible rfl)
  simp only [Act.put, List.setIfInBounds_toArray, List.set_cons_zero, List.set_cons_succ]
  refine wpAnyP_pure (v := ?_) 3 (at_toArray rfl) (by kernel_rfl) (by kernel_rfl) (by kernel_rfl) (fun _ _ _ h => h) (Or.inl ⟨by rfl, fun W => ?_⟩) ?_
  rotate_left 1
  · (go_simp <;> (try go_bits) <;> with_reducible rfl)
  simp only [Act.put, List.setIfInBounds_toArray, List.set_cons_zero, List.set_cons_succ]
  refine wpAnyP_pure (v := ?_) 4 (at_toArray rfl) (by kernel_rfl) (by kernel_rfl) (by kernel_rfl) (fun _ _ _ h => h) (Or.inl ⟨by rfl, fun W => ?_⟩) ?_
  rotate_left 1
  · (go_simp <;> (try go_bits) <;> with_reducible rfl)
  simp only [Act.put, List.setIfInBounds_toArray, List.set_cons_zero, List.set_cons_succ]
  refine wpAnyP_pure (v := ?_) 6 (at_toArray rfl) (by kernel_rfl) (by kernel_rfl) (by kernel_rfl) (fun _ _ _ h => h) (Or.inl ⟨by rfl, fun W => ?_⟩) ?_
  rotate_left 1
  · (go_simp <;> (try go_bits) <;> with_reducible rfl)
  simp only [Act.put, List.setIfInBounds_toArray, List.set_cons_zero, List.set_cons_succ]
  refine wpAnyP_pure (v := ?_) 7 (at_toArray rfl) (by kernel_rfl) (by kernel_rfl) (by kernel_rfl) (fun _ _ _ h => h) (Or.inl ⟨by rfl, fun W => ?_⟩) ?_
  rotate_left 1
  · (go_simp <;> (try go_bits) <;> with_reducible rfl)
  simp only [Act.put, List.setIfInBounds_toArray, List.set_cons_zero, List.set_cons_succ]
  refine wpAnyP_pure (v := ?_) 8 (at_toArray rfl) (by kernel_rfl) (by kernel_rfl) (by kernel_rfl) (fun _ _ _ h => h) (Or.inl ⟨by rfl, fun W => ?_⟩) ?_
  rotate_left 1
  · (go_simp <;> (try go_bits) <;> with_reducible rfl)
  simp only [Act.put, List.setIfInBounds_toArray, List.set_cons_zero, List.set_cons_succ]
  refine wpAnyP_load (v := ?_) 9 (by kernel_rfl) (at_toArray rfl) (by kernel_rfl) (by kernel_rfl) (by kernel_rfl) (fun _ _ _ h => h) (by first | assumption | rfl) (Or.inl ⟨by rfl, fun W hS => ?_⟩) ?_
  rotate_left 1
  · (obtain rfl := hS; go_simp <;> (try go_bits) <;> with_reducible rfl)
  simp only [Act.put, List.setIfInBounds_toArray, List.set_cons_zero, List.set_cons_succ]
  refine wpAnyP_one 5 (at_toArray rfl) (by kernel_rfl) rfl (fun K hK => ?_)
  go_wp2_with fail
  refine (size_any tb o A n c _ (by simpa using h2)).mono ?_
  rintro e w' ⟨rfl, rfl⟩
  go_wp2_with fail
  refine hK.out _ _ (fun _ _ => rfl) ?_
  clear hK
  refine wpAnyP_pure (v := ?_) 10 (at_toArray rfl) (by kernel_rfl) (by kernel_rfl) (by kernel_rfl) (fun _ _ _ h => h) (Or.inl ⟨by rfl, fun W => ?_⟩) ?_
  rotate_left 1
  · (go_simp <;> (try go_bits) <;> with_reducible rfl)
  simp only [Act.put, List.setIfInBounds_toArray, List.set_cons_zero, List.set_cons_succ]
  refine wpAnyP_pure (v := ?_) 11 (at_toArray rfl) (by kernel_rfl) (by kernel_rfl) (by kernel_rfl) (fun _ _ _ h => h) (Or.inl ⟨by rfl, fun W => ?_⟩) ?_
  rotate_left 1
  · (go_simp <;> (try go_bits) <;> with_reducible rfl)
  simp only [Act.put, List.setIfInBounds_toArray, List.set_cons_zero, List.set_cons_succ]
  refine wpAnyP_pure (v := ?_) 12 (at_toArray rfl) (by kernel_rfl) (by kernel_rfl) (by kernel_rfl) (fun _ _ _ h => h) (Or.inl ⟨by rfl, fun W => ?_⟩) ?_
  rotate_left 1
  · (go_simp <;> (try go_bits) <;> with_reducible rfl)
  simp only [Act.put, List.setIfInBounds_toArray, List.set_cons_zero, List.set_cons_succ]
  refine wpAnyP_done (by kernel_rfl) ?_ _
  go_wp2_with fail
  simp only [HQ.out]
  have k1 : (s : Int) + (q : Int) ≤ (c : Int) := by omega
  obtain ⟨wd, hwd⟩ : ∃ wd, wd = w.drew.drew := ⟨_, rfl⟩
  have hbd : Below w.heap.size w wd := by rw [hwd]; exact (Below.refl _ _).drew.drew
  have d2 : wd.cell? ⟨tb, o, none⟩ = some (.slice A n c) := by rw [hwd]; simpa using h2
  have d3 : wd.cell? ⟨tb, o + 1, none⟩ = some (.int .i64 (s : Int)) := by rw [hwd]; simpa using h3
  have e2 : (wd.alloc (.cells #[] 5)).cell? ⟨tb, o, none⟩ = some (.slice A n c) := (World.cell?_alloc_lt _ _ _ (World.block_lt_of_cell? wd _ d2)).trans d2
  have e3 : (wd.alloc (.cells #[] 5)).cell? ⟨tb, o + 1, none⟩ = some (.int .i64 (s : Int)) := (World.cell?_alloc_lt _ _ _ (World.block_lt_of_cell? wd _ d3)).trans d3
  refine wp_region_phased (fun W => W.cell? ⟨tb, o, none⟩ = some (.slice A n c) ∧ W.cell? ⟨tb, o + 1, none⟩ = some (.int .i64 (s : Int))) 18 (by kernel_rfl) (by rw [← hwd]; exact ⟨d2, d3⟩) (fun hS0 => ?_)
  rw [← hwd] at hS0 ⊢
  have k0 : 0 ≤ (s : Int) + (q : Int) := by omega
  clear hwd
  refine wpAnyP_pure (v := ?_) 0 (at_toArray rfl) (by kernel_rfl) (by kernel_rfl) (by kernel_rfl) (fun _ _ _ h => h) (Or.inl ⟨by rfl, fun W => ?_⟩) ?_
  rotate_left 1
  · (go_simp <;> (try go_bits) <;> with_reducible rfl)
  simp only [Act.put, List.setIfInBounds_toArray, List.set_cons_zero, List.set_cons_succ]
  refine wpAnyP_pure (v := ?_) 2 (at_toArray rfl) (by kernel_rfl) (by kernel_rfl) (by kernel_rfl) (fun _ _ _ h => h) (Or.inl ⟨by rfl, fun W => ?_⟩) ?_
  rotate_left 1
  · (go_simp <;> (try go_bits) <;> with_reducible rfl)
  simp only [Act.put, List.setIfInBounds_toArray, List.set_cons_zero, List.set_cons_succ]
  refine wpAnyP_pure (v := ?_) 3 (at_toArray rfl) (by kernel_rfl) (by kernel_rfl) (by kernel_rfl) (fun _ _ _ h => h) (Or.inl ⟨by rfl, fun W => ?_⟩) ?_
  rotate_left 1
  · (go_simp <;> (try go_bits) <;> with_reducible rfl)
  simp only [Act.put, List.setIfInBounds_toArray, List.set_cons_zero, List.set_cons_succ]
  refine wpAnyP_pure (v := ?_) 4 (at_toArray rfl) (by kernel_rfl) (by kernel_rfl) (by kernel_rfl) (fun _ _ _ h => h) (Or.inl ⟨by rfl, fun W => ?_⟩) ?_
  rotate_left 1
  · (go_simp <;> (try go_bits) <;> with_reducible rfl)
  simp only [Act.put, List.setIfInBounds_toArray, List.set_cons_zero, List.set_cons_succ]
  refine wpAnyP_pure (v := ?_) 5 (at_toArray rfl) (by kernel_rfl) (by kernel_rfl) (by kernel_rfl) (fun _ _ _ h => h) (Or.inl ⟨by rfl, fun W => ?_⟩) ?_
  rotate_left 1
  · (go_simp <;> (try go_bits) <;> with_reducible rfl)
  simp only [Act.put, List.setIfInBounds_toArray, List.set_cons_zero, List.set_cons_succ]
  refine wpAnyP_pure (v := ?_) 7 (at_toArray rfl) (by kernel_rfl) (by kernel_rfl) (by kernel_rfl) (fun _ _ _ h => h) (Or.inl ⟨by rfl, fun W => ?_⟩) ?_
  rotate_left 1
  · (go_simp <;> (try go_bits) <;> with_reducible rfl)
  simp only [Act.put, List.setIfInBounds_toArray, List.set_cons_zero, List.set_cons_succ]
  refine wpAnyP_pure (v := ?_) 8 (at_toArray rfl) (by kernel_rfl) (by kernel_rfl) (by kernel_rfl) (fun _ _ _ h => h) (Or.inl ⟨by rfl, fun W => ?_⟩) ?_
  rotate_left 1
  · (go_simp <;> (try go_bits) <;> with_reducible rfl)
  simp only [Act.put, List.setIfInBounds_toArray, List.set_cons_zero, List.set_cons_succ]
  refine wpAnyP_pure (v := ?_) 9 (at_toArray rfl) (by kernel_rfl) (by kernel_rfl) (by kernel_rfl) (fun _ _ _ h => h) (Or.inl ⟨by rfl, fun W => ?_⟩) ?_
  rotate_left 1
  · (go_simp <;> (try go_bits) <;> with_reducible rfl)
  simp only [Act.put, List.setIfInBounds_toArray, List.set_cons_zero, List.set_cons_succ]
  refine wpAnyP_pure (v := ?_) 11 (at_toArray rfl) (by kernel_rfl) (by kernel_rfl) (by kernel_rfl) (fun _ _ _ h => h) (Or.inl ⟨by rfl, fun W => ?_⟩) ?_
  rotate_left 1
  · (go_simp <;> (try go_bits) <;> with_reducible rfl)
  simp only [Act.put, List.setIfInBounds_toArray, List.set_cons_zero, List.set_cons_succ]
  refine wpAnyP_load (v := ?_) 6 (by kernel_rfl) (at_toArray rfl) (by kernel_rfl) (by kernel_rfl) (by kernel_rfl) (fun _ _ _ h => h) (by first | assumption | rfl) (Or.inl ⟨by rfl, fun W hS => ?_⟩) ?_
  rotate_left 1
  · (obtain ⟨f2, f3⟩ := hS; go_simp <;> (try go_bits) <;> with_reducible rfl)
  simp only [Act.put, List.setIfInBounds_toArray, List.set_cons_zero, List.set_cons_succ]
  refine wpAnyP_load (v := ?_) 10 (by kernel_rfl) (at_toArray rfl) (by kernel_rfl) (by kernel_rfl) (by kernel_rfl) (fun _ _ _ h => h) (by first | assumption | rfl) (Or.inl ⟨by rfl, fun W hS => ?_⟩) ?_
  rotate_left 1
  · (obtain ⟨f2, f3⟩ := hS; go_simp <;> (try go_bits) <;> with_reducible rfl)
  simp only [Act.put, List.setIfInBounds_toArray, List.set_cons_zero, List.set_cons_succ]
  refine wpAnyP_pure (v := ?_) 12 (at_toArray rfl) (by kernel_rfl) (by kernel_rfl) (by kernel_rfl) (fun _ _ _ h => h) (Or.inl ⟨by rfl, fun W => ?_⟩) ?_
  rotate_left 1
  · (go_simp <;> (try go_bits) <;> with_reducible rfl)
  simp only [Act.put, List.setIfInBounds_toArray, List.set_cons_zero, List.set_cons_succ]
  refine wpAnyP_pure (v := ?_) 13 (at_toArray rfl) (by kernel_rfl) (by kernel_rfl) (by kernel_rfl) (fun _ _ _ h => h) (Or.inl ⟨by rfl, fun W => ?_⟩) ?_
  rotate_left 1
  · (go_simp <;> (try go_bits) <;> with_reducible rfl)
  simp only [Act.put, List.setIfInBounds_toArray, List.set_cons_zero, List.set_cons_succ]
  refine wpAnyP_one 1 (at_toArray rfl) (by kernel_rfl) rfl (fun K hK => ?_)
  go_wp2_with fail
  refine hK.out _ _ (fun _ _ => ⟨e2, e3⟩) ?_
  have hS1 : (wd.alloc (.cells #[] 5)).cell? ⟨tb, o, none⟩ = some (.slice A n c) ∧ (wd.alloc (.cells #[] 5)).cell? ⟨tb, o + 1, none⟩ = some (.int .i64 (s : Int)) := ⟨e2, e3⟩
  clear hK
  refine wpAnyP_one 14 (at_toArray rfl) (by kernel_rfl) rfl (fun K hK => ?_)
  refine wp_append_b (.tmp 18) (.tmp 30) rfl (.slice (some ⟨wd.heap.size, 0, none⟩) 0 0) [] rfl (OB.lit wd [] _ rfl (by decide)) A c (b.take (s + q)) ?hx ?hr ?hb ?_
  case hx => rw [List.length_take, ← HN.out, Nat.min_eq_left (by omega)]; rfl
  case hr => exact ((HR.out.below hbd).below ((Below.refl wd.heap.size wd).alloc (Nat.le_refl _) _)).take _
  case hb => rw [List.length_take]; simp; omega
  intro v w1 HO hg hat
  obtain ⟨HO1, hb1, hfr⟩ := clone_facts HO hg hat
  have f2 : w1.cell? ⟨tb, o, none⟩ = some (.slice A n c) := (hb1.cell (World.block_lt_of_cell? wd _ d2)).trans d2
  have f3 : w1.cell? ⟨tb, o + 1, none⟩ = some (.int .i64 (s : Int)) := (hb1.cell (World.block_lt_of_cell? wd _ d3)).trans d3
  have q2 : w1.frozen? ⟨tb, o, none⟩ = false := by
    rw [hb1.frozen (World.block_lt_of_cell? wd _ d2), hbd.frozen (World.block_lt_of_cell? w _ h2)]; exact g2
  have q3 : w1.frozen? ⟨tb, o + 1, none⟩ = false := by
    rw [hb1.frozen (World.block_lt_of_cell? wd _ d3), hbd.frozen (World.block_lt_of_cell? w _ h3)]; exact g3
  have hb2 := below_step hbd hb1
  have HF : Hid (Fresh w w1 v (b.take (s + q))) := ⟨HO1, hb2, fun k hk => Nat.le_trans hbd.size (hfr k hk)⟩
  refine hK.out _ _ (fun _ _ => ⟨f2, f3⟩) ?_
  simp only [Act.put, List.setIfInBounds_toArray, List.set_cons_zero, List.set_cons_succ]
  clear hK HO hg hat hS0 hS1 e2 e3 d2 d3 hbd
  obtain ⟨A1, c1, rfl⟩ := HO1.form
  have hlen : (b.take (s + q)).length = s + q := by rw [List.length_take, ← HN.out, Nat.min_eq_left (by omega)]
  rw [hlen] at HF ⊢
  clear HO1 hlen
  refine wpAnyP_pure (v := ?_) 15 (at_toArray rfl) (by kernel_rfl) (by kernel_rfl) (by kernel_rfl) (fun _ _ _ h => h) (Or.inl ⟨by rfl, fun W => ?_⟩) ?_
  rotate_left 1
  · (go_simp <;> (try go_bits) <;> with_reducible rfl)
  simp only [Act.put, List.setIfInBounds_toArray, List.set_cons_zero, List.set_cons_succ]
  refine wpAnyP_pure (v := ?_) 16 (at_toArray rfl) (by kernel_rfl) (by kernel_rfl) (by kernel_rfl) (fun _ _ _ h => h) (Or.inl ⟨by rfl, fun W => ?_⟩) ?_
  rotate_left 1
  · (go_simp <;> (try go_bits) <;> with_reducible rfl)
  simp only [Act.put, List.setIfInBounds_toArray, List.set_cons_zero, List.set_cons_succ]
  refine wpAnyP_pure (v := ?_) 17 (at_toArray rfl) (by kernel_rfl) (by kernel_rfl) (by kernel_rfl) (fun _ _ _ h => h) (Or.inl ⟨by rfl, fun W => ?_⟩) ?_
  rotate_left 1
  · (go_simp <;> (try go_bits) <;> with_reducible rfl)
  simp only [Act.put, List.setIfInBounds_toArray, List.set_cons_zero, List.set_cons_succ]
  refine wpAnyP_one 18 (at_toArray rfl) (by kernel_rfl) rfl (fun K hK => ?_)
  go_wp2_with fail
  refine hK.out _ _ (fun h => absurd h (by decide)) ?_
  clear hK
  refine wpAnyP_done (by kernel_rfl) ?_ _
  have r2 : (w1.setCell ⟨tb, o, none⟩ (.slice A1 (s + q) c1)).cell? ⟨tb, o, none⟩ = some (.slice A1 (s + q) c1) := World.cell?_setCell_same w1 _ _ f2
  have r3 : (w1.setCell ⟨tb, o, none⟩ (.slice A1 (s + q) c1)).cell? ⟨tb, o + 1, none⟩ = some (.int .i64 (s : Int)) := (World.cell?_setCell_other _ _ _ _ (by simp)).trans f3
  have u3 : (w1.setCell ⟨tb, o, none⟩ (.slice A1 (s + q) c1)).frozen? ⟨tb, o + 1, none⟩ = false := by simpa using q3
  clear f2 f3 q2 q3
  go_wp2_with fail
  refine (size_any tb o A1 (s + q) c1 _ r2).mono ?_
  rintro e w' ⟨rfl, rfl⟩
  go_wp2_with fail
  go_end0
  exact ⟨rfl, _, w1, HF.out, rfl⟩

end Go.Proofs.Ytnkenkdglcmpdaa
