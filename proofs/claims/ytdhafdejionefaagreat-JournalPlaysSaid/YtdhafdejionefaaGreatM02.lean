/- Parts: The walks of the tape's cut, gone, Fail, Arm. .. The walk of the tape's do, for each of its three operations. -/
import Derived.Test.YtdhafdejionefaaGreatM01
/- The walks of the tape's cut, gone, Fail, Arm. -/
namespace Go.Proofs.YtdhafdejionefaaGreat
set_option linter.unusedVariables false
set_option linter.unusedSimpArgs false
open Go.RowKit
attribute [local go_sem] max2_int min2_int max_two min_two min_four

/-- What cut keeps of an area. -/
def keepN (b : List UInt8) (s : Nat) (keep : Int) : Nat := s + (min (max keep 0) ((b.length : Int) - (s : Int))).toNat
theorem keepN_le (b : List UInt8) (s : Nat) (keep : Int) (hs : s ≤ b.length) : s ≤ keepN b s keep ∧ keepN b s keep ≤ b.length := by unfold keepN; omega
set_option maxRecDepth 100000 in
set_option maxHeartbeats 2000000 in
theorem cut_any (tb o : Nat) (keep : Int) (A : Option Addr) (c : Nat) (b : List UInt8) (s : Nat) (w : World) (hs : s ≤ b.length) (hl : b.length ≤ 1073741824) (hc : b.length ≤ c)
    (h2 : w.cell? ⟨tb, o, none⟩ = some (.slice A b.length c)) (h3 : w.cell? ⟨tb, o + 1, none⟩ = some (.int .i64 (s : Int))) (g2 : w.frozen? ⟨tb, o, none⟩ = false) (g3 : w.frozen? ⟨tb, o + 1, none⟩ = false) (hr : RB w A b) :
    Calls Tryz.prog 71 #[.pointer (some ⟨tb, o, none⟩), .int .i64 keep] w fun e w' => e = .returned (.tuple #[]) ∧ ∃ v w1, Fresh w w1 v (b.take (keepN b s keep)) ∧
      w' = ((w1.setCell ⟨tb, o, none⟩ v).setCell ⟨tb, o + 1, none⟩ (.int .i64 ((keepN b s keep : Nat) : Int))) := by
  obtain ⟨n, hn⟩ : ∃ n, n = b.length := ⟨_, rfl⟩
  obtain ⟨q, hq⟩ : ∃ q : Nat, min (max keep 0) ((n : Int) - (s : Int)) = (q : Int) := Int.eq_ofNat_of_zero_le (by omega)
  have hk : keepN b s keep = s + q := by unfold keepN; rw [← hn, hq]; simp
  have hkl := keepN_le b s keep hs
  rw [hk] at hkl ⊢
  rw [← hn] at h2 hs hl hc hkl
  have HN := Lib.hid hn
  have HR := Lib.hid hr
  have HQ := Lib.hid hq
  clear hn hr hk hq
  go_enter Tryz.func71, Tryz.ntmps71
  go_wp2_with fail
  refine wp_region_phased (fun W => W = w.drew) 13 (by kernel_rfl) rfl (fun hS0 => ?_)
  refine wpAnyP_pure (v := ?_) 0 (at_toArray rfl) (by kernel_rfl) (by kernel_rfl) (by kernel_rfl) (fun _ _ _ h => h) (Or.inl ⟨by rfl, fun W => ?_⟩) ?_
  rotate_left 1
  · (go_simp <;> (try go_bits) <;> with_reducible rfl)
  simp only [Act.put, List.setIfInBounds_toArray, List.set_cons_zero, List.set_cons_succ]
  refine wpAnyP_pure (v := ?_) 1 (at_toArray rfl) (by kernel_rfl) (by kernel_rfl) (by kernel_rfl) (fun _ _ _ h => h) (Or.inl ⟨by rfl, fun W => ?_⟩) ?_
  rotate_left 1
  · (go_simp <;> (try go_bits) <;> with_reducible rfl)
  simp only [Act.put, List.setIfInBounds_toArray, List.set_cons_zero, List.set_cons_succ]
  refine wpAnyP_pure (v := ?_) 2 (at_toArray rfl) (by kernel_rfl) (by kernel_rfl) (by kernel_rfl) (fun _ _ _ h => h) (Or.inl ⟨by rfl, fun W => ?_⟩) ?_
  rotate_left 1
  · (go_simp <;> (try go_bits) <;> with_reducible rfl)
  simp only [Act.put, List.setIfInBounds_toArray, List.set_cons_zero, List.set_cons_succ]
  refine wpAnyP_pure (v := ?_) 3 (at_toArray rfl) (by kernel_rfl) (by kernel_rfl) (by kernel_rfl) (fun _ _ _ h => h) (Or.inl ⟨by rfl, fun W => ?_⟩) ?_
  rotate_left 1
  · (go_simp <;> (try go_bits) <;> with_reducible rfl)
  simp only [Act.put, List.setIfInBounds_toArray, List.set_cons_zero, List.set_cons_succ]
  refine wpAnyP_pure (v := ?_) 4 (at_toArray rfl) (by kernel_rfl) (by kernel_rfl) (by kernel_rfl) (fun _ _ _ h => h) (Or.inl ⟨by rfl, fun W => ?_⟩) ?_
  rotate_left 1
  · (go_simp <;> (try go_bits) <;> with_reducible rfl)
  simp only [Act.put, List.setIfInBounds_toArray, List.set_cons_zero, List.set_cons_succ]
  refine wpAnyP_pure (v := ?_) 6 (at_toArray rfl) (by kernel_rfl) (by kernel_rfl) (by kernel_rfl) (fun _ _ _ h => h) (Or.inl ⟨by rfl, fun W => ?_⟩) ?_
  rotate_left 1
  · (go_simp <;> (try go_bits) <;> with_reducible rfl)
  simp only [Act.put, List.setIfInBounds_toArray, List.set_cons_zero, List.set_cons_succ]
  refine wpAnyP_pure (v := ?_) 7 (at_toArray rfl) (by kernel_rfl) (by kernel_rfl) (by kernel_rfl) (fun _ _ _ h => h) (Or.inl ⟨by rfl, fun W => ?_⟩) ?_
  rotate_left 1
  · (go_simp <;> (try go_bits) <;> with_reducible rfl)
  simp only [Act.put, List.setIfInBounds_toArray, List.set_cons_zero, List.set_cons_succ]
  refine wpAnyP_pure (v := ?_) 8 (at_toArray rfl) (by kernel_rfl) (by kernel_rfl) (by kernel_rfl) (fun _ _ _ h => h) (Or.inl ⟨by rfl, fun W => ?_⟩) ?_
  rotate_left 1
  · (go_simp <;> (try go_bits) <;> with_reducible rfl)
  simp only [Act.put, List.setIfInBounds_toArray, List.set_cons_zero, List.set_cons_succ]
  refine wpAnyP_load (v := ?_) 9 (by kernel_rfl) (at_toArray rfl) (by kernel_rfl) (by kernel_rfl) (by kernel_rfl) (fun _ _ _ h => h) (by first | assumption | rfl) (Or.inl ⟨by rfl, fun W hS => ?_⟩) ?_
  rotate_left 1
  · (obtain rfl := hS; go_simp <;> (try go_bits) <;> with_reducible rfl)
  simp only [Act.put, List.setIfInBounds_toArray, List.set_cons_zero, List.set_cons_succ]
  refine wpAnyP_one 5 (at_toArray rfl) (by kernel_rfl) rfl (fun K hK => ?_)
  go_wp2_with fail
  refine (size_any tb o A n c _ (by simpa using h2)).mono ?_
  rintro e w' ⟨rfl, rfl⟩
  go_wp2_with fail
  refine hK.out _ _ (fun _ _ => rfl) ?_
  clear hK
  refine wpAnyP_pure (v := ?_) 10 (at_toArray rfl) (by kernel_rfl) (by kernel_rfl) (by kernel_rfl) (fun _ _ _ h => h) (Or.inl ⟨by rfl, fun W => ?_⟩) ?_
  rotate_left 1
  · (go_simp <;> (try go_bits) <;> with_reducible rfl)
  simp only [Act.put, List.setIfInBounds_toArray, List.set_cons_zero, List.set_cons_succ]
  refine wpAnyP_pure (v := ?_) 11 (at_toArray rfl) (by kernel_rfl) (by kernel_rfl) (by kernel_rfl) (fun _ _ _ h => h) (Or.inl ⟨by rfl, fun W => ?_⟩) ?_
  rotate_left 1
  · (go_simp <;> (try go_bits) <;> with_reducible rfl)
  simp only [Act.put, List.setIfInBounds_toArray, List.set_cons_zero, List.set_cons_succ]
  refine wpAnyP_pure (v := ?_) 12 (at_toArray rfl) (by kernel_rfl) (by kernel_rfl) (by kernel_rfl) (fun _ _ _ h => h) (Or.inl ⟨by rfl, fun W => ?_⟩) ?_
  rotate_left 1
  · (go_simp <;> (try go_bits) <;> with_reducible rfl)
  simp only [Act.put, List.setIfInBounds_toArray, List.set_cons_zero, List.set_cons_succ]
  refine wpAnyP_done (by kernel_rfl) ?_ _
  go_wp2_with fail
  simp only [HQ.out]
  have k1 : (s : Int) + (q : Int) ≤ (c : Int) := by omega
  obtain ⟨wd, hwd⟩ : ∃ wd, wd = w.drew.drew := ⟨_, rfl⟩
  have hbd : Below w.heap.size w wd := by rw [hwd]; exact (Below.refl _ _).drew.drew
  have d2 : wd.cell? ⟨tb, o, none⟩ = some (.slice A n c) := by rw [hwd]; simpa using h2
  have d3 : wd.cell? ⟨tb, o + 1, none⟩ = some (.int .i64 (s : Int)) := by rw [hwd]; simpa using h3
  have e2 : (wd.alloc (.cells #[] 5)).cell? ⟨tb, o, none⟩ = some (.slice A n c) := (World.cell?_alloc_lt _ _ _ (World.block_lt_of_cell? wd _ d2)).trans d2
  have e3 : (wd.alloc (.cells #[] 5)).cell? ⟨tb, o + 1, none⟩ = some (.int .i64 (s : Int)) := (World.cell?_alloc_lt _ _ _ (World.block_lt_of_cell? wd _ d3)).trans d3
  refine wp_region_phased (fun W => W.cell? ⟨tb, o, none⟩ = some (.slice A n c) ∧ W.cell? ⟨tb, o + 1, none⟩ = some (.int .i64 (s : Int))) 18 (by kernel_rfl) (by rw [← hwd]; exact ⟨d2, d3⟩) (fun hS0 => ?_)
  rw [← hwd] at hS0 ⊢
  have k0 : 0 ≤ (s : Int) + (q : Int) := by omega
  clear hwd
  refine wpAnyP_pure (v := ?_) 0 (at_toArray rfl) (by kernel_rfl) (by kernel_rfl) (by kernel_rfl) (fun _ _ _ h => h) (Or.inl ⟨by rfl, fun W => ?_⟩) ?_
  rotate_left 1
  · (go_simp <;> (try go_bits) <;> with_reducible rfl)
  simp only [Act.put, List.setIfInBounds_toArray, List.set_cons_zero, List.set_cons_succ]
  refine wpAnyP_pure (v := ?_) 2 (at_toArray rfl) (by kernel_rfl) (by kernel_rfl) (by kernel_rfl) (fun _ _ _ h => h) (Or.inl ⟨by rfl, fun W => ?_⟩) ?_
  rotate_left 1
  · (go_simp <;> (try go_bits) <;> with_reducible rfl)
  simp only [Act.put, List.setIfInBounds_toArray, List.set_cons_zero, List.set_cons_succ]
  refine wpAnyP_pure (v := ?_) 3 (at_toArray rfl) (by kernel_rfl) (by kernel_rfl) (by kernel_rfl) (fun _ _ _ h => h) (Or.inl ⟨by rfl, fun W => ?_⟩) ?_
  rotate_left 1
  · (go_simp <;> (try go_bits) <;> with_reducible rfl)
  simp only [Act.put, List.setIfInBounds_toArray, List.set_cons_zero, List.set_cons_succ]
  refine wpAnyP_pure (v := ?_) 4 (at_toArray rfl) (by kernel_rfl) (by kernel_rfl) (by kernel_rfl) (fun _ _ _ h => h) (Or.inl ⟨by rfl, fun W => ?_⟩) ?_
  rotate_left 1
  · (go_simp <;> (try go_bits) <;> with_reducible rfl)
  simp only [Act.put, List.setIfInBounds_toArray, List.set_cons_zero, List.set_cons_succ]
  refine wpAnyP_pure (v := ?_) 5 (at_toArray rfl) (by kernel_rfl) (by kernel_rfl) (by kernel_rfl) (fun _ _ _ h => h) (Or.inl ⟨by rfl, fun W => ?_⟩) ?_
  rotate_left 1
  · (go_simp <;> (try go_bits) <;> with_reducible rfl)
  simp only [Act.put, List.setIfInBounds_toArray, List.set_cons_zero, List.set_cons_succ]
  refine wpAnyP_pure (v := ?_) 7 (at_toArray rfl) (by kernel_rfl) (by kernel_rfl) (by kernel_rfl) (fun _ _ _ h => h) (Or.inl ⟨by rfl, fun W => ?_⟩) ?_
  rotate_left 1
  · (go_simp <;> (try go_bits) <;> with_reducible rfl)
  simp only [Act.put, List.setIfInBounds_toArray, List.set_cons_zero, List.set_cons_succ]
  refine wpAnyP_pure (v := ?_) 8 (at_toArray rfl) (by kernel_rfl) (by kernel_rfl) (by kernel_rfl) (fun _ _ _ h => h) (Or.inl ⟨by rfl, fun W => ?_⟩) ?_
  rotate_left 1
  · (go_simp <;> (try go_bits) <;> with_reducible rfl)
  simp only [Act.put, List.setIfInBounds_toArray, List.set_cons_zero, List.set_cons_succ]
  refine wpAnyP_pure (v := ?_) 9 (at_toArray rfl) (by kernel_rfl) (by kernel_rfl) (by kernel_rfl) (fun _ _ _ h => h) (Or.inl ⟨by rfl, fun W => ?_⟩) ?_
  rotate_left 1
  · (go_simp <;> (try go_bits) <;> with_reducible rfl)
  simp only [Act.put, List.setIfInBounds_toArray, List.set_cons_zero, List.set_cons_succ]
  refine wpAnyP_pure (v := ?_) 11 (at_toArray rfl) (by kernel_rfl) (by kernel_rfl) (by kernel_rfl) (fun _ _ _ h => h) (Or.inl ⟨by rfl, fun W => ?_⟩) ?_
  rotate_left 1
  · (go_simp <;> (try go_bits) <;> with_reducible rfl)
  simp only [Act.put, List.setIfInBounds_toArray, List.set_cons_zero, List.set_cons_succ]
  refine wpAnyP_load (v := ?_) 6 (by kernel_rfl) (at_toArray rfl) (by kernel_rfl) (by kernel_rfl) (by kernel_rfl) (fun _ _ _ h => h) (by first | assumption | rfl) (Or.inl ⟨by rfl, fun W hS => ?_⟩) ?_
  rotate_left 1
  · (obtain ⟨f2, f3⟩ := hS; go_simp <;> (try go_bits) <;> with_reducible rfl)
  simp only [Act.put, List.setIfInBounds_toArray, List.set_cons_zero, List.set_cons_succ]
  refine wpAnyP_load (v := ?_) 10 (by kernel_rfl) (at_toArray rfl) (by kernel_rfl) (by kernel_rfl) (by kernel_rfl) (fun _ _ _ h => h) (by first | assumption | rfl) (Or.inl ⟨by rfl, fun W hS => ?_⟩) ?_
  rotate_left 1
  · (obtain ⟨f2, f3⟩ := hS; go_simp <;> (try go_bits) <;> with_reducible rfl)
  simp only [Act.put, List.setIfInBounds_toArray, List.set_cons_zero, List.set_cons_succ]
  refine wpAnyP_pure (v := ?_) 12 (at_toArray rfl) (by kernel_rfl) (by kernel_rfl) (by kernel_rfl) (fun _ _ _ h => h) (Or.inl ⟨by rfl, fun W => ?_⟩) ?_
  rotate_left 1
  · (go_simp <;> (try go_bits) <;> with_reducible rfl)
  simp only [Act.put, List.setIfInBounds_toArray, List.set_cons_zero, List.set_cons_succ]
  refine wpAnyP_pure (v := ?_) 13 (at_toArray rfl) (by kernel_rfl) (by kernel_rfl) (by kernel_rfl) (fun _ _ _ h => h) (Or.inl ⟨by rfl, fun W => ?_⟩) ?_
  rotate_left 1
  · (go_simp <;> (try go_bits) <;> with_reducible rfl)
  simp only [Act.put, List.setIfInBounds_toArray, List.set_cons_zero, List.set_cons_succ]
  refine wpAnyP_one 1 (at_toArray rfl) (by kernel_rfl) rfl (fun K hK => ?_)
  go_wp2_with fail
  refine hK.out _ _ (fun _ _ => ⟨e2, e3⟩) ?_
  have hS1 : (wd.alloc (.cells #[] 5)).cell? ⟨tb, o, none⟩ = some (.slice A n c) ∧ (wd.alloc (.cells #[] 5)).cell? ⟨tb, o + 1, none⟩ = some (.int .i64 (s : Int)) := ⟨e2, e3⟩
  clear hK
  refine wpAnyP_one 14 (at_toArray rfl) (by kernel_rfl) rfl (fun K hK => ?_)
  refine wp_append_b (.tmp 18) (.tmp 30) rfl (.slice (some ⟨wd.heap.size, 0, none⟩) 0 0) [] rfl (OB.lit wd [] _ rfl (by decide)) A c (b.take (s + q)) ?hx ?hr ?hb ?_
  case hx => rw [List.length_take, ← HN.out, Nat.min_eq_left (by omega)]; rfl
  case hr => exact ((HR.out.below hbd).below ((Below.refl wd.heap.size wd).alloc (Nat.le_refl _) _)).take _
  case hb => rw [List.length_take]; simp; omega
  intro v w1 HO hg hat
  obtain ⟨HO1, hb1, hfr⟩ := clone_facts HO hg hat
  have f2 : w1.cell? ⟨tb, o, none⟩ = some (.slice A n c) := (hb1.cell (World.block_lt_of_cell? wd _ d2)).trans d2
  have f3 : w1.cell? ⟨tb, o + 1, none⟩ = some (.int .i64 (s : Int)) := (hb1.cell (World.block_lt_of_cell? wd _ d3)).trans d3
  have q2 : w1.frozen? ⟨tb, o, none⟩ = false := by
    rw [hb1.frozen (World.block_lt_of_cell? wd _ d2), hbd.frozen (World.block_lt_of_cell? w _ h2)]; exact g2
  have q3 : w1.frozen? ⟨tb, o + 1, none⟩ = false := by
    rw [hb1.frozen (World.block_lt_of_cell? wd _ d3), hbd.frozen (World.block_lt_of_cell? w _ h3)]; exact g3
  have hb2 := below_step hbd hb1
  have HF : Hid (Fresh w w1 v (b.take (s + q))) := ⟨HO1, hb2, fun k hk => Nat.le_trans hbd.size (hfr k hk)⟩
  refine hK.out _ _ (fun _ _ => ⟨f2, f3⟩) ?_
  simp only [Act.put, List.setIfInBounds_toArray, List.set_cons_zero, List.set_cons_succ]
  clear hK HO hg hat hS0 hS1 e2 e3 d2 d3 hbd
  obtain ⟨A1, c1, rfl⟩ := HO1.form
  have hlen : (b.take (s + q)).length = s + q := by rw [List.length_take, ← HN.out, Nat.min_eq_left (by omega)]
  rw [hlen] at HF ⊢
  clear HO1 hlen
  refine wpAnyP_pure (v := ?_) 15 (at_toArray rfl) (by kernel_rfl) (by kernel_rfl) (by kernel_rfl) (fun _ _ _ h => h) (Or.inl ⟨by rfl, fun W => ?_⟩) ?_
  rotate_left 1
  · (go_simp <;> (try go_bits) <;> with_reducible rfl)
  simp only [Act.put, List.setIfInBounds_toArray, List.set_cons_zero, List.set_cons_succ]
  refine wpAnyP_pure (v := ?_) 16 (at_toArray rfl) (by kernel_rfl) (by kernel_rfl) (by kernel_rfl) (fun _ _ _ h => h) (Or.inl ⟨by rfl, fun W => ?_⟩) ?_
  rotate_left 1
  · (go_simp <;> (try go_bits) <;> with_reducible rfl)
  simp only [Act.put, List.setIfInBounds_toArray, List.set_cons_zero, List.set_cons_succ]
  refine wpAnyP_pure (v := ?_) 17 (at_toArray rfl) (by kernel_rfl) (by kernel_rfl) (by kernel_rfl) (fun _ _ _ h => h) (Or.inl ⟨by rfl, fun W => ?_⟩) ?_
  rotate_left 1
  · (go_simp <;> (try go_bits) <;> with_reducible rfl)
  simp only [Act.put, List.setIfInBounds_toArray, List.set_cons_zero, List.set_cons_succ]
  refine wpAnyP_one 18 (at_toArray rfl) (by kernel_rfl) rfl (fun K hK => ?_)
  go_wp2_with fail
  refine hK.out _ _ (fun h => absurd h (by decide)) ?_
  clear hK
  refine wpAnyP_done (by kernel_rfl) ?_ _
  have r2 : (w1.setCell ⟨tb, o, none⟩ (.slice A1 (s + q) c1)).cell? ⟨tb, o, none⟩ = some (.slice A1 (s + q) c1) := World.cell?_setCell_same w1 _ _ f2
  have r3 : (w1.setCell ⟨tb, o, none⟩ (.slice A1 (s + q) c1)).cell? ⟨tb, o + 1, none⟩ = some (.int .i64 (s : Int)) := (World.cell?_setCell_other _ _ _ _ (by simp)).trans f3
  have u3 : (w1.setCell ⟨tb, o, none⟩ (.slice A1 (s + q) c1)).frozen? ⟨tb, o + 1, none⟩ = false := by simpa using q3
  clear f2 f3 q2 q3
  go_wp2_with fail
  refine (size_any tb o A1 (s + q) c1 _ r2).mono ?_
  rintro e w' ⟨rfl, rfl⟩
  go_wp2_with fail
  go_end0
  exact ⟨rfl, _, w1, HF.out, rfl⟩

end Go.Proofs.YtdhafdejionefaaGreat

/- The walks of the tape's gone, Fail, Arm. -/
namespace Go.Proofs.YtdhafdejionefaaGreat
set_option linter.unusedVariables false
set_option linter.unusedSimpArgs false
open Go.RowKit

section
variable {w : World} {tb : Nat} {T : TS} {F : Nat → Prop} {v0 v1 : Value} {pv : Option Addr}
theorem TapeAt.mono (h : TapeAt w tb T F v0 v1 pv) {G : Nat → Prop} (hG : ∀ k, F k → G k) (hl : ∀ k, G k → k < w.heap.size) : TapeAt w tb T G v0 v1 pv :=
  ⟨h.blk, h.o0, h.o1, h.pl.of (fun _ _ _ _ h => h) hG, h.apart, hG _ h.ft, fun k hk => hG k (h.f0 k hk), fun k hk => hG k (h.f1 k hk), hl, h.wf⟩
/-- A store into the tape's own block. -/
theorem TapeAt.put (h : TapeAt w tb T F v0 v1 pv) (i : Nat) (u : Value) {T' : TS} (hb : (tcells T v0 v1 pv).setIfInBounds i u = tcells T' v0 v1 pv) (e0 : T'.b0 = T.b0) (e1 : T'.b1 = T.b1) (ep : T'.plan = T.plan) (ok : T'.ok) : TapeAt (w.setCell ⟨tb, i, none⟩ u) tb T' F v0 v1 pv := by
  refine ⟨by have := h.blk.set i u; rw [hb] at this; exact this, by rw [e0]; exact h.o0.setOther _ _ (h.o0.ne h.blk (by decide)), by rw [e1]; exact h.o1.setOther _ _ (h.o1.ne h.blk (by decide)), ?_, h.apart, h.ft, h.f0, h.f1, fun k hk => by simpa [World.setCell] using h.flt k hk, ok⟩
  rw [ep]
  exact h.pl.of (fun pb cs e hF hb => hb.setOther _ _ (Blk.ne hb h.blk (by decide))) (fun _ h => h)
theorem TapeAt.unplan (h : TapeAt w tb T F v0 v1 pv) : TapeAt (w.setCell ⟨tb, 7, none⟩ (.pointer none)) tb { T with plan := none } F v0 v1 none :=
  ⟨h.blk.set 7 _, h.o0.setOther _ _ (h.o0.ne h.blk (by decide)), h.o1.setOther _ _ (h.o1.ne h.blk (by decide)), rfl, h.apart, h.ft, h.f0, h.f1, fun k hk => by simpa [World.setCell] using h.flt k hk, ⟨h.wf.s0, h.wf.s1, h.wf.fit, h.wf.room, fun l k e => by cases e⟩⟩
/-- A new plan. -/
theorem TapeAt.replan (h : TapeAt w tb T F v0 v1 pv) (l k : Int) (h0 : 0 ≤ l) (h1 : l ≤ 9223372036854775807) : TapeAt ((w.alloc (.cells #[.int .i64 l, .int .i64 k] 90)).setCell ⟨tb, 7, none⟩ (.pointer (some ⟨w.heap.size, 0, none⟩))) tb { T with plan := some (l, k) } (fun i => F i ∨ i = w.heap.size) v0 v1 (some ⟨w.heap.size, 0, none⟩) := by
  have hb : Below w.heap.size w (w.alloc (.cells #[.int .i64 l, .int .i64 k] 90)) := (Below.refl _ _).alloc (Nat.le_refl _) _
  have h2 := h.fr (Fr.of_below (F := fun _ => False) hb) (fun _ _ h => h)
  have hn := Blk.new w #[.int .i64 l, .int .i64 k] 90
  refine ⟨h2.blk.set 7 _, h2.o0.setOther _ _ (h2.o0.ne h2.blk (by decide)), h2.o1.setOther _ _ (h2.o1.ne h2.blk (by decide)), ⟨_, rfl, hn.setOther _ _ (Blk.ne hn h2.blk (by decide)), .inr rfl⟩, h.apart, .inl h.ft, fun k hk => .inl (h.f0 k hk), fun k hk => .inl (h.f1 k hk), ?_, ⟨h.wf.s0, h.wf.s1, h.wf.fit, h.wf.room, ?_⟩⟩
  · intro i hi
    have : (w.alloc (.cells #[.int .i64 l, .int .i64 k] 90)).heap.size = w.heap.size + 1 := by simp
    simp only [World.setCell, Array.size_modify, this]
    rcases hi with hi | hi
    · have := h.flt i hi; omega
    · omega
  · intro l' k' e
    simp only [Option.some.injEq, Prod.mk.injEq] at e
    omega
theorem TapeAt.drew (h : TapeAt w tb T F v0 v1 pv) : TapeAt w.drew tb T F v0 v1 pv := h.fr (Fr.drew (fun _ => False) w) (fun _ _ h => h)
/-- The slice of area 0 is replaced by a fresh one. -/
theorem TapeAt.cut0 (h : TapeAt w tb T F v0 v1 pv) {w1 : World} {v : Value} {xs : List UInt8} (hf : Fresh w w1 v xs) (n : Nat) (hn : n = xs.length) (hl : xs.length ≤ T.b0.length) :
    TapeAt ((w1.setCell ⟨tb, 2, none⟩ v).setCell ⟨tb, 3, none⟩ (.int .i64 (n : Int))) tb { T with b0 := xs, s0 := n } (fun k => F k ∨ v.ownBlock = some k) v v1 pv := by
  obtain ⟨ho, hb, hw⟩ := hf
  have h1 := h.fr (Fr.of_below (F := fun _ => False) hb) (fun _ _ h => h)
  have hwf := h.wf
  refine ⟨?_, ?_, ?_, ?_, ?_, .inl h.ft, fun k hk => .inr hk, fun k hk => .inl (h.f1 k hk), ?_, ⟨by show n ≤ xs.length; omega, hwf.s1, ?_, hwf.room, hwf.left⟩⟩
  · exact (h1.blk.set 2 v).set 3 _
  · exact (ho.setOther _ _ (ho.ne h1.blk (by decide))).setOther _ _ (ho.ne h1.blk (by decide))
  · exact (h1.o1.setOther _ _ (h1.o1.ne h1.blk (by decide))).setOther _ _ (h1.o1.ne h1.blk (by decide))
  · exact h1.pl.of (fun pb cs e hF hb => (hb.setOther _ _ (Blk.ne hb h1.blk (by decide))).setOther _ _ (Blk.ne hb h1.blk (by decide))) (fun _ h => .inl h)
  · intro k hk hk1
    have a := hw k hk
    have b := h.o1.lt k hk1
    omega
  · intro k hk
    simp only [World.setCell, Array.size_modify]
    rcases hk with hk | hk
    · exact Nat.lt_of_lt_of_le (h.flt k hk) hb.size
    · exact ho.lt k hk
  · have := hwf.fit
    simp only [TS.used] at this ⊢
    omega
theorem TapeAt.cut1 (h : TapeAt w tb T F v0 v1 pv) {w1 : World} {v : Value} {xs : List UInt8} (hf : Fresh w w1 v xs) (n : Nat) (hn : n = xs.length) (hl : xs.length ≤ T.b1.length) :
    TapeAt ((w1.setCell ⟨tb, 4, none⟩ v).setCell ⟨tb, 5, none⟩ (.int .i64 (n : Int))) tb { T with b1 := xs, s1 := n } (fun k => F k ∨ v.ownBlock = some k) v0 v pv := by
  obtain ⟨ho, hb, hw⟩ := hf
  have h1 := h.fr (Fr.of_below (F := fun _ => False) hb) (fun _ _ h => h)
  have hwf := h.wf
  refine ⟨?_, ?_, ?_, ?_, ?_, .inl h.ft, fun k hk => .inl (h.f0 k hk), fun k hk => .inr hk, ?_, ⟨hwf.s0, by show n ≤ xs.length; omega, ?_, hwf.room, hwf.left⟩⟩
  · exact (h1.blk.set 4 v).set 5 _
  · exact (h1.o0.setOther _ _ (h1.o0.ne h1.blk (by decide))).setOther _ _ (h1.o0.ne h1.blk (by decide))
  · exact (ho.setOther _ _ (ho.ne h1.blk (by decide))).setOther _ _ (ho.ne h1.blk (by decide))
  · exact h1.pl.of (fun pb cs e hF hb => (hb.setOther _ _ (Blk.ne hb h1.blk (by decide))).setOther _ _ (Blk.ne hb h1.blk (by decide))) (fun _ h => .inl h)
  · intro k hk1 hk
    have a := hw k hk
    have b := h.o0.lt k hk1
    omega
  · intro k hk
    simp only [World.setCell, Array.size_modify]
    rcases hk with hk | hk
    · exact Nat.lt_of_lt_of_le (h.flt k hk) hb.size
    · exact ho.lt k hk
  · have := hwf.fit
    simp only [TS.used] at this ⊢
    omega
end
theorem upd_cut {w w1 : World} {tb i j : Nat} {F : Nat → Prop} {v u : Value} {xs : List UInt8} (hf : Fresh w w1 v xs) (ht : F tb) : Upd w ((w1.setCell ⟨tb, i, none⟩ v).setCell ⟨tb, j, none⟩ u) F (fun k => F k ∨ v.ownBlock = some k) :=
  ⟨(((Fr.of_below hf.2.1).trans (Fr.setCell F w1 ⟨tb, i, none⟩ v ht) (fun _ h => .inl h)).trans (Fr.setCell F _ ⟨tb, j, none⟩ u ht) (fun _ h => .inl h)), fun k hk => hk.elim .inl (fun h => .inr (hf.2.2 k h))⟩

def TS.gone (T : TS) (keep : Int) : TS :=
  { T with b0 := T.b0.take (keepN T.b0 T.s0 keep), s0 := keepN T.b0 T.s0 keep, b1 := T.b1.take (keepN T.b1 T.s1 keep), s1 := keepN T.b1 T.s1 keep, off := true, plan := none, fails := wrap64 (T.fails + 1) }
theorem keep_len (b : List UInt8) (s : Nat) (keep : Int) (hs : s ≤ b.length) : (b.take (keepN b s keep)).length = keepN b s keep := by
  rw [List.length_take, Nat.min_eq_left (keepN_le b s keep hs).2]

set_option maxRecDepth 100000 in
set_option maxHeartbeats 2000000 in
theorem gone_any (tb : Nat) (keep : Int) (T : TS) (F : Nat → Prop) (w : World) (h : TapeR w tb T F) :
    Calls Tryz.prog 51 #[.pointer (some ⟨tb, 0, none⟩), .int .i64 keep] w fun e w' => e = .returned (.tuple #[]) ∧ ∃ F', TapeR w' tb (T.gone keep) F' ∧ Upd w w' F F' := by
  obtain ⟨v0, v1, pv, h⟩ := h
  have hs0 := h.wf.s0
  have hs1 := h.wf.s1
  have hl0 := h.len0
  have hl1 := h.len1
  have H := Lib.hid h
  clear h
  go_enter Tryz.func51, Tryz.ntmps51
  go_wp2_with fail
  refine wp_loop_rounds 3 ?_
  rw [rounds_succ]
  go_wp2_with fail
  obtain ⟨A0, c0, rfl, r0, k0, _⟩ := H.out.o0.reads' (by omega)
  refine (cut_any tb 2 keep A0 c0 T.b0 T.s0 w hs0 hl0 k0 H.out.c2 H.out.c3 (H.out.free 2) (H.out.free 3) r0).mono ?_
  rintro e w' ⟨rfl, v, w1, hf, rfl⟩
  have h1 := H.out.cut0 hf _ (keep_len T.b0 T.s0 keep hs0).symm (by rw [keep_len _ _ _ hs0]; exact (keepN_le T.b0 T.s0 keep hs0).2)
  have u1 : Upd w _ F _ := upd_cut (i := 2) (j := 3) (u := .int .i64 ((keepN T.b0 T.s0 keep : Nat) : Int)) hf H.out.ft
  have H1 := Lib.hid h1
  have U1 := Lib.hid u1
  clear h1 u1 r0 k0 hf H
  generalize (w1.setCell _ v).setCell _ _ = w2 at *
  go_wp2_with fail
  rw [rounds_succ]
  go_wp2_with fail
  obtain ⟨A1, c1, rfl, r1, k1, _⟩ := H1.out.o1.reads' (by show T.b1.length ≤ _; omega)
  refine (cut_any tb 4 keep A1 c1 T.b1 T.s1 w2 hs1 hl1 k1 H1.out.c4 H1.out.c5 (H1.out.free 4) (H1.out.free 5) r1).mono ?_
  rintro e w' ⟨rfl, v', w3, hf, rfl⟩
  have h1 := H1.out.cut1 hf _ (keep_len T.b1 T.s1 keep hs1).symm (by rw [keep_len _ _ _ hs1]; exact (keepN_le T.b1 T.s1 keep hs1).2)
  have u1 : Upd w2 _ _ _ := upd_cut (F := fun k => F k ∨ v.ownBlock = some k) (i := 4) (j := 5) (u := .int .i64 ((keepN T.b1 T.s1 keep : Nat) : Int)) hf H1.out.ft
  have H2 := Lib.hid h1
  have U2 := Lib.hid (U1.out.trans u1)
  clear h1 u1 r1 k1 hf H1 U1
  generalize (w3.setCell _ v').setCell _ _ = w4 at *
  go_wp2_with fail
  rw [rounds_succ]
  have h6 := H2.out.c6
  have h7 := H2.out.c7
  have h9 := H2.out.c9
  have g6 := H2.out.free 6
  have g7 := H2.out.free 7
  have g9 := H2.out.free 9
  go_wp2_with fail
  go_end0
  have h := H2.out
  have ha := h.put 6 (.bool true) (T' := { T with b0 := T.b0.take (keepN T.b0 T.s0 keep), s0 := keepN T.b0 T.s0 keep, b1 := T.b1.take (keepN T.b1 T.s1 keep), s1 := keepN T.b1 T.s1 keep, off := true }) rfl rfl rfl rfl ⟨h.wf.s0, h.wf.s1, h.wf.fit, h.wf.room, h.wf.left⟩
  have hb := ha.unplan
  have hc := hb.put 9 (.int .i64 (wrap64 (T.fails + 1))) (T' := T.gone keep) rfl rfl rfl rfl ⟨h.wf.s0, h.wf.s1, h.wf.fit, h.wf.room, fun l k e => by cases e⟩
  refine ⟨rfl, _, ⟨_, _, _, hc⟩, U2.out.trans ⟨?_, fun k hk => .inl hk⟩⟩
  exact ((Fr.setCell _ _ _ _ h.ft).trans (Fr.setCell _ _ _ _ h.ft) (fun _ h => .inl h)).trans (Fr.setCell _ _ _ _ h.ft) (fun _ h => .inl h)

theorem fail_ok (tb : Nat) (keep : Int) (T : TS) (F : Nat → Prop) (w : World) (h : TapeR w tb T F) (ho : T.off = false) :
    Calls Tryz.prog 22 #[.pointer (some ⟨tb, 0, none⟩), .int .i64 keep] w fun e w' => e = .returned (.int .i64 0) ∧ ∃ F', TapeR w' tb (T.gone keep) F' ∧ Upd w w' F F' := by
  have H := Lib.hid h
  obtain ⟨v0, v1, pv, h⟩ := h
  have h0 := h.c0
  have h6 := h.c6
  rw [ho] at h6
  clear h
  go_enter Tryz.func22, Tryz.ntmps22
  go_wp2_with fail
  refine (fault_any tb 0 false w h0 h6).mono ?_
  rintro e w' ⟨rfl, rfl⟩
  rw [show faultN false 0 = 0 from rfl]
  go_wp2_with fail
  refine (gone_any tb keep T F w H.out).mono ?_
  rintro e w' ⟨rfl, hG⟩
  have HG := Lib.hid hG
  clear hG
  go_wp2_with fail
  go_ret
  exact ⟨rfl, HG.out⟩
theorem fail_off (tb : Nat) (keep : Int) (T : TS) (F : Nat → Prop) (w : World) (h : TapeR w tb T F) (ho : T.off = true) :
    Calls Tryz.prog 22 #[.pointer (some ⟨tb, 0, none⟩), .int .i64 keep] w fun e w' => e = .returned (.int .i64 150) ∧ w = w' := by
  obtain ⟨v0, v1, pv, h⟩ := h
  have h0 := h.c0
  have h6 := h.c6
  rw [ho] at h6
  clear h
  go_enter Tryz.func22, Tryz.ntmps22
  go_wp2_with fail
  refine (fault_any tb 0 true w h0 h6).mono ?_
  rintro e w' ⟨rfl, rfl⟩
  rw [show faultN true 0 = 150 from rfl]
  go_wp2
  go_ret
  exact ⟨rfl, rfl⟩
theorem fail_no (p : Option Addr) (keep : Int) (w : World) (h : NoTape w p) :
    Calls Tryz.prog 22 #[.pointer p, .int .i64 keep] w fun e w' => e = .returned (.int .i64 1) ∧ w = w' := by
  go_enter Tryz.func22, Tryz.ntmps22
  go_wp2_with fail
  refine (fault_no p 0 w h).mono ?_
  rintro e w' ⟨rfl, rfl⟩
  go_wp2
  go_ret
  exact ⟨rfl, rfl⟩

theorem arm_ok (tb : Nat) (n keep : Int) (T : TS) (F : Nat → Prop) (w : World) (h : TapeR w tb T F) (hn : 0 ≤ n) (hn2 : n ≤ 9223372036854775807) (ho : T.off = false) :
    Calls Tryz.prog 26 #[.pointer (some ⟨tb, 0, none⟩), .int .i64 n, .int .i64 keep] w fun e w' => e = .returned (.int .i64 0) ∧ ∃ F', TapeR w' tb { T with plan := some (n, keep) } F' ∧ Upd w w' F F' := by
  obtain ⟨v0, v1, pv, h⟩ := h
  have h0 := h.c0
  have h6 := h.c6
  rw [ho] at h6
  have h7 : (w.alloc (.cells #[.int .i64 n, .int .i64 keep] 90)).cell? ⟨tb, 7, none⟩ = some (.pointer pv) := (h.blk.alloc _).cell 7
  have g7 : (w.alloc (.cells #[.int .i64 n, .int .i64 keep] 90)).frozen? ⟨tb, 7, none⟩ = false := (h.blk.alloc _).free 7
  have H := Lib.hid h
  have hng : ¬ n < 0 := by omega
  clear h
  go_enter Tryz.func26, Tryz.ntmps26
  go_wp2_with fail
  refine (none_ok tb w h0).mono ?_
  rintro e w' ⟨rfl, rfl⟩
  go_wp2
  go_ret
  refine ⟨rfl, _, ⟨_, _, _, H.out.replan n keep hn hn2⟩, ?_, fun k hk => hk.elim .inl (fun h => .inr (by omega))⟩
  exact (Fr.alloc F w _).trans (Fr.setCell F _ _ _ H.out.ft) (fun _ h => .inl h)
theorem arm_err (tb : Nat) (n keep : Int) (T : TS) (F : Nat → Prop) (w : World) (h : TapeR w tb T F) (hn : n < 0 ∨ T.off = true) :
    Calls Tryz.prog 26 #[.pointer (some ⟨tb, 0, none⟩), .int .i64 n, .int .i64 keep] w fun e w' => e = .returned (.int .i64 (if n < 0 then 2 else 150)) ∧ w = w' := by
  obtain ⟨v0, v1, pv, h⟩ := h
  have h0 := h.c0
  have h6 := h.c6
  clear h
  by_cases h1 : n < 0
  · clear hn
    go_enter Tryz.func26, Tryz.ntmps26
    go_wp2_with fail
    refine (none_ok tb w h0).mono ?_
    rintro e w' ⟨rfl, rfl⟩
    go_wp2
    go_ret
    exact ⟨rfl, rfl⟩
  · have ho : T.off = true := hn.resolve_left h1
    rw [ho] at h6
    clear hn ho
    go_enter Tryz.func26, Tryz.ntmps26
    go_wp2_with fail
    refine (none_ok tb w h0).mono ?_
    rintro e w' ⟨rfl, rfl⟩
    go_wp2
    go_ret
    exact ⟨rfl, rfl⟩
theorem arm_no (p : Option Addr) (n keep : Int) (w : World) (h : NoTape w p) :
    Calls Tryz.prog 26 #[.pointer p, .int .i64 n, .int .i64 keep] w fun e w' => e = .returned (.int .i64 1) ∧ w = w' := by
  go_enter Tryz.func26, Tryz.ntmps26
  go_wp2_with fail
  refine (none_no p w h).mono ?_
  rintro e w' ⟨rfl, rfl⟩
  go_wp2
  go_ret
  exact ⟨rfl, rfl⟩
theorem power_no (p : Option Addr) (w : World) (h : NoTape w p) :
    Calls Tryz.prog 23 #[.pointer p] w fun e w' => e = .returned (.int .i64 1) ∧ w = w' := by
  go_enter Tryz.func23, Tryz.ntmps23
  go_wp2_with fail
  refine (none_no p w h).mono ?_
  rintro e w' ⟨rfl, rfl⟩
  go_wp2
  go_ret
  exact ⟨rfl, rfl⟩

end Go.Proofs.YtdhafdejionefaaGreat

/- The walk of the tape's do, for each of its three operations. -/
namespace Go.Proofs.YtdhafdejionefaaGreat
set_option linter.unusedVariables false
set_option linter.unusedSimpArgs false
open Go.RowKit

/-- An operation is counted. -/
def TS.step (T : TS) : TS := { T with ops := wrap64 (T.ops + 1), plan := T.plan.map fun p => (p.1 - 1, p.2) }
theorem step_left (T : TS) (l k : Int) (h : T.plan = some (l, k)) (h0 : 0 < l) (hw : T.ok) : T.step.ok :=
  ⟨hw.s0, hw.s1, hw.fit, hw.room, fun l' k' e => by
    have := hw.left l k h
    simp [TS.step, h] at e
    omega⟩
theorem step_none (T : TS) (h : T.plan = none) (hw : T.ok) : T.step.ok :=
  ⟨hw.s0, hw.s1, hw.fit, hw.room, fun l' k' e => by simp [TS.step, h] at e⟩
/-- The plan's count and the count of operations. -/
theorem TapeAt.dec {w : World} {tb pb : Nat} {T : TS} {F : Nat → Prop} {v0 v1 : Value} (h : TapeAt w tb T F v0 v1 (some ⟨pb, 0, none⟩)) (l k : Int) (hp : T.plan = some (l, k)) (h0 : 0 < l) :
    TapeAt ((w.setCell ⟨pb, 0, none⟩ (.int .i64 (l - 1))).setCell ⟨tb, 8, none⟩ (.int .i64 (wrap64 (T.ops + 1)))) tb T.step F v0 v1 (some ⟨pb, 0, none⟩) ∧ F pb := by
  have hpl := h.pl
  rw [hp] at hpl
  obtain ⟨pb', e, hb, hF⟩ := hpl
  obtain rfl : pb' = pb := by simp at e; exact e.symm
  have n := Blk.ne hb h.blk (by decide)
  refine ⟨⟨?_, ?_, ?_, ?_, h.apart, h.ft, h.f0, h.f1, fun k hk => by simpa [World.setCell] using h.flt k hk, step_left T l k hp h0 h.wf⟩, hF⟩
  · exact (h.blk.setOther ⟨pb', 0, none⟩ _ (Ne.symm n)).set 8 _
  · have a := h.o0.setOther ⟨pb', 0, none⟩ (.int .i64 (l - 1)) (h.o0.ne hb (by decide))
    exact a.setOther ⟨tb, 8, none⟩ _ (h.o0.ne h.blk (by decide))
  · have a := h.o1.setOther ⟨pb', 0, none⟩ (.int .i64 (l - 1)) (h.o1.ne hb (by decide))
    exact a.setOther ⟨tb, 8, none⟩ _ (h.o1.ne h.blk (by decide))
  · show PlanR _ F _ (T.plan.map fun p => (p.1 - 1, p.2))
    rw [hp]
    exact ⟨pb', rfl, (hb.set 0 _).setOther ⟨tb, 8, none⟩ _ n, hF⟩
theorem TapeAt.count {w : World} {tb : Nat} {T : TS} {F : Nat → Prop} {v0 v1 : Value} {pv : Option Addr} (h : TapeAt w tb T F v0 v1 pv) (hp : T.plan = none) :
    TapeAt (w.setCell ⟨tb, 8, none⟩ (.int .i64 (wrap64 (T.ops + 1)))) tb T.step F v0 v1 pv :=
  h.put 8 _ rfl rfl rfl (by simp [TS.step, hp]) (step_none T hp h.wf)

theorem do_none_append (caps : Array Value) (tb : Nat) (T : TS) (F : Nat → Prop) (w : World) (h : TapeR w tb T F) (hp : T.plan = none) (R : World → World → Prop)
    (hop : ∀ w1, TapeR w1 tb T.step F → Upd w w1 F F → Calls Tryz.prog 56 caps w1 (fun e w' => e = .returned (.tuple #[]) ∧ R w1 w')) :
    Calls Tryz.prog 55 #[.pointer (some ⟨tb, 0, none⟩), .func (.func 56) #[] caps] w fun e w' => e = .returned (.int .i64 0) ∧ ∃ w1, TapeR w1 tb T.step F ∧ Upd w w1 F F ∧ R w1 w' := by
  obtain ⟨v0, v1, pv, h⟩ := h
  have hpl := h.pl
  rw [hp] at hpl
  obtain rfl : pv = none := hpl
  have h7 := h.c7
  have h8 := h.c8
  have g8 := h.free 8
  have H := Lib.hid h
  have HP := Lib.hid hp
  have HOP := Lib.hid hop
  clear h hp hop
  go_enter Tryz.func55, Tryz.ntmps55
  go_wp2_with fail
  have h1 : TapeR (w.setCell ⟨tb, 8, none⟩ (.int .i64 (wrap64 (T.ops + 1)))) tb T.step F := ⟨_, _, _, H.out.count HP.out⟩
  have u1 : Upd w (w.setCell ⟨tb, 8, none⟩ (.int .i64 (wrap64 (T.ops + 1)))) F F := ⟨Fr.setCell F w _ _ H.out.ft, fun _ h => .inl h⟩
  have H1 := Lib.hid h1
  have U1 := Lib.hid u1
  clear h1 u1 h7 h8 g8 H
  generalize (w.setCell ⟨tb, 8, none⟩ (.int .i64 (wrap64 (T.ops + 1)))) = w1 at *
  refine (HOP.out w1 H1.out U1.out).mono ?_
  rintro e w' ⟨rfl, hR⟩
  have HR := Lib.hid hR
  clear hR
  go_wp2_with fail
  go_ret
  exact ⟨rfl, w1, H1.out, U1.out, HR.out⟩
theorem do_left_append (caps : Array Value) (tb : Nat) (T : TS) (F : Nat → Prop) (w : World) (h : TapeR w tb T F) (l k : Int) (hp : T.plan = some (l, k)) (hl : 0 < l) (R : World → World → Prop)
    (hop : ∀ w1, TapeR w1 tb T.step F → Upd w w1 F F → Calls Tryz.prog 56 caps w1 (fun e w' => e = .returned (.tuple #[]) ∧ R w1 w')) :
    Calls Tryz.prog 55 #[.pointer (some ⟨tb, 0, none⟩), .func (.func 56) #[] caps] w fun e w' => e = .returned (.int .i64 0) ∧ ∃ w1, TapeR w1 tb T.step F ∧ Upd w w1 F F ∧ R w1 w' := by
  obtain ⟨v0, v1, pv, h⟩ := h
  have hpl := h.pl
  rw [hp] at hpl
  obtain ⟨pb, rfl, hb, hF⟩ := hpl
  have hl2 := (h.wf.left l k hp).2
  have h7 := h.c7
  have h8 : (w.setCell ⟨pb, 0, none⟩ (.int .i64 (l - 1))).cell? ⟨tb, 8, none⟩ = some (.int .i64 T.ops) := (h.blk.setOther ⟨pb, 0, none⟩ _ (Blk.ne h.blk hb (by decide))).cell 8
  have g8 : (w.setCell ⟨pb, 0, none⟩ (.int .i64 (l - 1))).frozen? ⟨tb, 8, none⟩ = false := (h.blk.setOther ⟨pb, 0, none⟩ _ (Blk.ne h.blk hb (by decide))).free 8
  have p0 : w.cell? ⟨pb, 0, none⟩ = some (.int .i64 l) := hb.cell 0
  have f0 := hb.free 0
  have hne : (l == 0) = false := by rw [beq_eq_false_iff_ne]; omega
  have H := Lib.hid h
  have HB := Lib.hid hb
  have HP := Lib.hid hp
  have HOP := Lib.hid hop
  clear h hp hop hb
  go_enter Tryz.func55, Tryz.ntmps55
  go_wp2_with fail
  have h1 := H.out.dec l k HP.out hl
  have u1 : Upd w ((w.setCell ⟨pb, 0, none⟩ (.int .i64 (l - 1))).setCell ⟨tb, 8, none⟩ (.int .i64 (wrap64 (T.ops + 1)))) F F := ⟨(Fr.setCell F w ⟨pb, 0, none⟩ _ h1.2).trans (Fr.setCell F _ _ _ H.out.ft) (fun _ h => .inl h), fun _ h => .inl h⟩
  have H1 : Hid (TapeR _ tb T.step F) := ⟨_, _, _, h1.1⟩
  have U1 := Lib.hid u1
  clear h1 u1 h7 h8 g8 H HB p0 f0
  generalize ((w.setCell ⟨pb, 0, none⟩ (.int .i64 (l - 1))).setCell ⟨tb, 8, none⟩ (.int .i64 (wrap64 (T.ops + 1)))) = w1 at *
  refine (HOP.out w1 H1.out U1.out).mono ?_
  rintro e w' ⟨rfl, hR⟩
  have HR := Lib.hid hR
  clear hR
  go_wp2_with fail
  go_ret
  exact ⟨rfl, w1, H1.out, U1.out, HR.out⟩
theorem do_gone_append (caps : Array Value) (tb : Nat) (T : TS) (F : Nat → Prop) (w : World) (h : TapeR w tb T F) (k : Int) (hp : T.plan = some (0, k)) :
    Calls Tryz.prog 55 #[.pointer (some ⟨tb, 0, none⟩), .func (.func 56) #[] caps] w fun e w' => e = .returned (.int .i64 150) ∧ ∃ F', TapeR w' tb (T.gone k) F' ∧ Upd w w' F F' := by
  have HT := Lib.hid h
  obtain ⟨v0, v1, pv, h⟩ := h
  have hpl := h.pl
  rw [hp] at hpl
  obtain ⟨pb, rfl, hb, hF⟩ := hpl
  have h7 := h.c7
  have p0 : w.cell? ⟨pb, 0, none⟩ = some (.int .i64 0) := hb.cell 0
  have p1 : w.cell? ⟨pb, 1, none⟩ = some (.int .i64 k) := hb.cell 1
  clear h hp hb
  go_enter Tryz.func55, Tryz.ntmps55
  go_wp2_with fail
  refine (gone_any tb k T F w HT.out).mono ?_
  rintro e w' ⟨rfl, hR⟩
  have HR := Lib.hid hR
  clear hR
  go_wp2_with fail
  go_ret
  exact ⟨rfl, HR.out⟩

theorem do_none_sync (caps : Array Value) (tb : Nat) (T : TS) (F : Nat → Prop) (w : World) (h : TapeR w tb T F) (hp : T.plan = none) (R : World → World → Prop)
    (hop : ∀ w1, TapeR w1 tb T.step F → Upd w w1 F F → Calls Tryz.prog 70 caps w1 (fun e w' => e = .returned (.tuple #[]) ∧ R w1 w')) :
    Calls Tryz.prog 55 #[.pointer (some ⟨tb, 0, none⟩), .func (.func 70) #[] caps] w fun e w' => e = .returned (.int .i64 0) ∧ ∃ w1, TapeR w1 tb T.step F ∧ Upd w w1 F F ∧ R w1 w' := by
  obtain ⟨v0, v1, pv, h⟩ := h
  have hpl := h.pl
  rw [hp] at hpl
  obtain rfl : pv = none := hpl
  have h7 := h.c7
  have h8 := h.c8
  have g8 := h.free 8
  have H := Lib.hid h
  have HP := Lib.hid hp
  have HOP := Lib.hid hop
  clear h hp hop
  go_enter Tryz.func55, Tryz.ntmps55
  go_wp2_with fail
  have h1 : TapeR (w.setCell ⟨tb, 8, none⟩ (.int .i64 (wrap64 (T.ops + 1)))) tb T.step F := ⟨_, _, _, H.out.count HP.out⟩
  have u1 : Upd w (w.setCell ⟨tb, 8, none⟩ (.int .i64 (wrap64 (T.ops + 1)))) F F := ⟨Fr.setCell F w _ _ H.out.ft, fun _ h => .inl h⟩
  have H1 := Lib.hid h1
  have U1 := Lib.hid u1
  clear h1 u1 h7 h8 g8 H
  generalize (w.setCell ⟨tb, 8, none⟩ (.int .i64 (wrap64 (T.ops + 1)))) = w1 at *
  refine (HOP.out w1 H1.out U1.out).mono ?_
  rintro e w' ⟨rfl, hR⟩
  have HR := Lib.hid hR
  clear hR
  go_wp2_with fail
  go_ret
  exact ⟨rfl, w1, H1.out, U1.out, HR.out⟩
theorem do_left_sync (caps : Array Value) (tb : Nat) (T : TS) (F : Nat → Prop) (w : World) (h : TapeR w tb T F) (l k : Int) (hp : T.plan = some (l, k)) (hl : 0 < l) (R : World → World → Prop)
    (hop : ∀ w1, TapeR w1 tb T.step F → Upd w w1 F F → Calls Tryz.prog 70 caps w1 (fun e w' => e = .returned (.tuple #[]) ∧ R w1 w')) :
    Calls Tryz.prog 55 #[.pointer (some ⟨tb, 0, none⟩), .func (.func 70) #[] caps] w fun e w' => e = .returned (.int .i64 0) ∧ ∃ w1, TapeR w1 tb T.step F ∧ Upd w w1 F F ∧ R w1 w' := by
  obtain ⟨v0, v1, pv, h⟩ := h
  have hpl := h.pl
  rw [hp] at hpl
  obtain ⟨pb, rfl, hb, hF⟩ := hpl
  have hl2 := (h.wf.left l k hp).2
  have h7 := h.c7
  have h8 : (w.setCell ⟨pb, 0, none⟩ (.int .i64 (l - 1))).cell? ⟨tb, 8, none⟩ = some (.int .i64 T.ops) := (h.blk.setOther ⟨pb, 0, none⟩ _ (Blk.ne h.blk hb (by decide))).cell 8
  have g8 : (w.setCell ⟨pb, 0, none⟩ (.int .i64 (l - 1))).frozen? ⟨tb, 8, none⟩ = false := (h.blk.setOther ⟨pb, 0, none⟩ _ (Blk.ne h.blk hb (by decide))).free 8
  have p0 : w.cell? ⟨pb, 0, none⟩ = some (.int .i64 l) := hb.cell 0
  have f0 := hb.free 0
  have hne : (l == 0) = false := by rw [beq_eq_false_iff_ne]; omega
  have H := Lib.hid h
  have HB := Lib.hid hb
  have HP := Lib.hid hp
  have HOP := Lib.hid hop
  clear h hp hop hb
  go_enter Tryz.func55, Tryz.ntmps55
  go_wp2_with fail
  have h1 := H.out.dec l k HP.out hl
  have u1 : Upd w ((w.setCell ⟨pb, 0, none⟩ (.int .i64 (l - 1))).setCell ⟨tb, 8, none⟩ (.int .i64 (wrap64 (T.ops + 1)))) F F := ⟨(Fr.setCell F w ⟨pb, 0, none⟩ _ h1.2).trans (Fr.setCell F _ _ _ H.out.ft) (fun _ h => .inl h), fun _ h => .inl h⟩
  have H1 : Hid (TapeR _ tb T.step F) := ⟨_, _, _, h1.1⟩
  have U1 := Lib.hid u1
  clear h1 u1 h7 h8 g8 H HB p0 f0
  generalize ((w.setCell ⟨pb, 0, none⟩ (.int .i64 (l - 1))).setCell ⟨tb, 8, none⟩ (.int .i64 (wrap64 (T.ops + 1)))) = w1 at *
  refine (HOP.out w1 H1.out U1.out).mono ?_
  rintro e w' ⟨rfl, hR⟩
  have HR := Lib.hid hR
  clear hR
  go_wp2_with fail
  go_ret
  exact ⟨rfl, w1, H1.out, U1.out, HR.out⟩
theorem do_gone_sync (caps : Array Value) (tb : Nat) (T : TS) (F : Nat → Prop) (w : World) (h : TapeR w tb T F) (k : Int) (hp : T.plan = some (0, k)) :
    Calls Tryz.prog 55 #[.pointer (some ⟨tb, 0, none⟩), .func (.func 70) #[] caps] w fun e w' => e = .returned (.int .i64 150) ∧ ∃ F', TapeR w' tb (T.gone k) F' ∧ Upd w w' F F' := by
  have HT := Lib.hid h
  obtain ⟨v0, v1, pv, h⟩ := h
  have hpl := h.pl
  rw [hp] at hpl
  obtain ⟨pb, rfl, hb, hF⟩ := hpl
  have h7 := h.c7
  have p0 : w.cell? ⟨pb, 0, none⟩ = some (.int .i64 0) := hb.cell 0
  have p1 : w.cell? ⟨pb, 1, none⟩ = some (.int .i64 k) := hb.cell 1
  clear h hp hb
  go_enter Tryz.func55, Tryz.ntmps55
  go_wp2_with fail
  refine (gone_any tb k T F w HT.out).mono ?_
  rintro e w' ⟨rfl, hR⟩
  have HR := Lib.hid hR
  clear hR
  go_wp2_with fail
  go_ret
  exact ⟨rfl, HR.out⟩

theorem do_none_clear (caps : Array Value) (tb : Nat) (T : TS) (F : Nat → Prop) (w : World) (h : TapeR w tb T F) (hp : T.plan = none) (R : World → World → Prop)
    (hop : ∀ w1, TapeR w1 tb T.step F → Upd w w1 F F → Calls Tryz.prog 59 caps w1 (fun e w' => e = .returned (.tuple #[]) ∧ R w1 w')) :
    Calls Tryz.prog 55 #[.pointer (some ⟨tb, 0, none⟩), .func (.func 59) #[] caps] w fun e w' => e = .returned (.int .i64 0) ∧ ∃ w1, TapeR w1 tb T.step F ∧ Upd w w1 F F ∧ R w1 w' := by
  obtain ⟨v0, v1, pv, h⟩ := h
  have hpl := h.pl
  rw [hp] at hpl
  obtain rfl : pv = none := hpl
  have h7 := h.c7
  have h8 := h.c8
  have g8 := h.free 8
  have H := Lib.hid h
  have HP := Lib.hid hp
  have HOP := Lib.hid hop
  clear h hp hop
  go_enter Tryz.func55, Tryz.ntmps55
  go_wp2_with fail
  have h1 : TapeR (w.setCell ⟨tb, 8, none⟩ (.int .i64 (wrap64 (T.ops + 1)))) tb T.step F := ⟨_, _, _, H.out.count HP.out⟩
  have u1 : Upd w (w.setCell ⟨tb, 8, none⟩ (.int .i64 (wrap64 (T.ops + 1)))) F F := ⟨Fr.setCell F w _ _ H.out.ft, fun _ h => .inl h⟩
  have H1 := Lib.hid h1
  have U1 := Lib.hid u1
  clear h1 u1 h7 h8 g8 H
  generalize (w.setCell ⟨tb, 8, none⟩ (.int .i64 (wrap64 (T.ops + 1)))) = w1 at *
  refine (HOP.out w1 H1.out U1.out).mono ?_
  rintro e w' ⟨rfl, hR⟩
  have HR := Lib.hid hR
  clear hR
  go_wp2_with fail
  go_ret
  exact ⟨rfl, w1, H1.out, U1.out, HR.out⟩
theorem do_left_clear (caps : Array Value) (tb : Nat) (T : TS) (F : Nat → Prop) (w : World) (h : TapeR w tb T F) (l k : Int) (hp : T.plan = some (l, k)) (hl : 0 < l) (R : World → World → Prop)
    (hop : ∀ w1, TapeR w1 tb T.step F → Upd w w1 F F → Calls Tryz.prog 59 caps w1 (fun e w' => e = .returned (.tuple #[]) ∧ R w1 w')) :
    Calls Tryz.prog 55 #[.pointer (some ⟨tb, 0, none⟩), .func (.func 59) #[] caps] w fun e w' => e = .returned (.int .i64 0) ∧ ∃ w1, TapeR w1 tb T.step F ∧ Upd w w1 F F ∧ R w1 w' := by
  obtain ⟨v0, v1, pv, h⟩ := h
  have hpl := h.pl
  rw [hp] at hpl
  obtain ⟨pb, rfl, hb, hF⟩ := hpl
  have hl2 := (h.wf.left l k hp).2
  have h7 := h.c7
  have h8 : (w.setCell ⟨pb, 0, none⟩ (.int .i64 (l - 1))).cell? ⟨tb, 8, none⟩ = some (.int .i64 T.ops) := (h.blk.setOther ⟨pb, 0, none⟩ _ (Blk.ne h.blk hb (by decide))).cell 8
  have g8 : (w.setCell ⟨pb, 0, none⟩ (.int .i64 (l - 1))).frozen? ⟨tb, 8, none⟩ = false := (h.blk.setOther ⟨pb, 0, none⟩ _ (Blk.ne h.blk hb (by decide))).free 8
  have p0 : w.cell? ⟨pb, 0, none⟩ = some (.int .i64 l) := hb.cell 0
  have f0 := hb.free 0
  have hne : (l == 0) = false := by rw [beq_eq_false_iff_ne]; omega
  have H := Lib.hid h
  have HB := Lib.hid hb
  have HP := Lib.hid hp
  have HOP := Lib.hid hop
  clear h hp hop hb
  go_enter Tryz.func55, Tryz.ntmps55
  go_wp2_with fail
  have h1 := H.out.dec l k HP.out hl
  have u1 : Upd w ((w.setCell ⟨pb, 0, none⟩ (.int .i64 (l - 1))).setCell ⟨tb, 8, none⟩ (.int .i64 (wrap64 (T.ops + 1)))) F F := ⟨(Fr.setCell F w ⟨pb, 0, none⟩ _ h1.2).trans (Fr.setCell F _ _ _ H.out.ft) (fun _ h => .inl h), fun _ h => .inl h⟩
  have H1 : Hid (TapeR _ tb T.step F) := ⟨_, _, _, h1.1⟩
  have U1 := Lib.hid u1
  clear h1 u1 h7 h8 g8 H HB p0 f0
  generalize ((w.setCell ⟨pb, 0, none⟩ (.int .i64 (l - 1))).setCell ⟨tb, 8, none⟩ (.int .i64 (wrap64 (T.ops + 1)))) = w1 at *
  refine (HOP.out w1 H1.out U1.out).mono ?_
  rintro e w' ⟨rfl, hR⟩
  have HR := Lib.hid hR
  clear hR
  go_wp2_with fail
  go_ret
  exact ⟨rfl, w1, H1.out, U1.out, HR.out⟩
theorem do_gone_clear (caps : Array Value) (tb : Nat) (T : TS) (F : Nat → Prop) (w : World) (h : TapeR w tb T F) (k : Int) (hp : T.plan = some (0, k)) :
    Calls Tryz.prog 55 #[.pointer (some ⟨tb, 0, none⟩), .func (.func 59) #[] caps] w fun e w' => e = .returned (.int .i64 150) ∧ ∃ F', TapeR w' tb (T.gone k) F' ∧ Upd w w' F F' := by
  have HT := Lib.hid h
  obtain ⟨v0, v1, pv, h⟩ := h
  have hpl := h.pl
  rw [hp] at hpl
  obtain ⟨pb, rfl, hb, hF⟩ := hpl
  have h7 := h.c7
  have p0 : w.cell? ⟨pb, 0, none⟩ = some (.int .i64 0) := hb.cell 0
  have p1 : w.cell? ⟨pb, 1, none⟩ = some (.int .i64 k) := hb.cell 1
  clear h hp hb
  go_enter Tryz.func55, Tryz.ntmps55
  go_wp2_with fail
  refine (gone_any tb k T F w HT.out).mono ?_
  rintro e w' ⟨rfl, hR⟩
  have HR := Lib.hid hR
  clear hR
  go_wp2_with fail
  go_ret
  exact ⟨rfl, HR.out⟩

end Go.Proofs.YtdhafdejionefaaGreat
