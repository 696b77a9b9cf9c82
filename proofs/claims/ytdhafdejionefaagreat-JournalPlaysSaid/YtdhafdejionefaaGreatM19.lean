/- Parts: A journal and the document's side by side: the walk of act. -/
import Derived.Test.YtdhafdejionefaaGreatM18
/- A journal and the document's side by side: the walk of act. -/
namespace Go.Proofs.YtdhafdejionefaaGreat
set_option linter.unusedVariables false
set_option linter.unusedSimpArgs false
open Go.RowKit

set_option maxRecDepth 100000 in
set_option maxHeartbeats 8000000 in
theorem act3_any (B bb tb rb : Nat) (T : TS) (F G : Nat → Prop) (jo : Option (Nat × Nat × JS)) (n keep : Int) (A A2 : Option Addr) (c c2 : Nat) (ys : List UInt8) (ls : List (List UInt8)) (w : World)
    (h : Bth B w bb tb rb T F G jo) (hi : ActIn B w A A2 ys ls n) :
    Calls Tryz.prog 9 #[.pointer (some ⟨bb, 0, none⟩), .agg #[.int .i64 3, .slice A ys.length c, .slice A2 ls.length c2, .int .i64 n, .int .i64 keep]] w (ActPost B w bb tb rb) := by
  obtain ⟨m, hm⟩ : ∃ m, m = ys.length := ⟨_, rfl⟩
  obtain ⟨m2, hm2⟩ : ∃ m2, m2 = ls.length := ⟨_, rfl⟩
  rw [← hm, ← hm2]
  obtain ⟨wa, hwa⟩ : ∃ wa, wa = w.alloc (.cells #[.int .i64 3, .slice A m c, .slice A2 m2 c2, .int .i64 n, .int .i64 keep] 38) := ⟨_, rfl⟩
  have hba : Below w.heap.size w wa := by rw [hwa]; exact (Below.refl _ _).alloc (Nat.le_refl _) _
  have hbk : Blk wa w.heap.size #[.int .i64 3, .slice A m c, .slice A2 m2 c2, .int .i64 n, .int .i64 keep] 38 := by rw [hwa]; exact Blk.new w _ _
  obtain ⟨lb, hlb⟩ : ∃ lb, lb = w.heap.size := ⟨_, rfl⟩
  have hBl : B ≤ lb := by rw [hlb]; exact h.pair.size
  have hfl : ¬ F lb := fun f => by have := h.pair.flt _ f; omega
  have hgl : ¬ G lb := fun f => by have := h.pair.glt _ f; omega
  have hbl : lb ≠ bb := fun e => by have := h.blk.lt; omega
  rw [← hlb] at hbk
  have HP := Lib.hid (h.pb.below hba)
  have HWL := Lib.hid h.well
  have HBL := Lib.hid (Below.up hba h.pair.size)
  have HI := Lib.hid (hi.below (Below.up hba h.pair.size))
  have HBK := Lib.hid hbk
  have hc0 : wa.cell? ⟨lb, 0, none⟩ = some (.int .i64 3) := hbk.cell 0
  have hc1 : wa.cell? ⟨lb, 1, none⟩ = some (.slice A m c) := hbk.cell 1
  have hc2 : wa.cell? ⟨lb, 2, none⟩ = some (.slice A2 m2 c2) := hbk.cell 2
  have hc3 : wa.cell? ⟨lb, 3, none⟩ = some (.int .i64 n) := hbk.cell 3
  have hc4 : wa.cell? ⟨lb, 4, none⟩ = some (.int .i64 keep) := hbk.cell 4
  have d0 : wa.cell? ⟨bb, 0, none⟩ = some (.pointer (some ⟨tb, 0, none⟩)) := HP.out.c0
  have d1 : wa.cell? ⟨bb, 1, none⟩ = some (pat (jo.map (·.1))) := HP.out.c1
  have d2 : wa.cell? ⟨bb, 2, none⟩ = some (.pointer (some ⟨rb, 0, none⟩)) := HP.out.c2
  have d3 : wa.cell? ⟨bb, 3, none⟩ = some (pat (jo.map (·.2.1))) := HP.out.c3
  have HFL := Lib.hid hfl
  have HGL := Lib.hid hgl
  have HNB := Lib.hid hbl
  have HWA := Lib.hid hwa
  have HLB := Lib.hid hlb
  have HM := Lib.hid hm
  have HM2 := Lib.hid hm2
  have H := Lib.hid h
  have HWB := Lib.hid (hba.trans (Below.up (Below.refl _ _).drew hba.size))
  clear h hi hm hm2 hba hbk hwa hlb hfl hgl hbl
  go_enter Tryz.func9, Tryz.ntmps9
  go_wp2_with fail
  rw [← HWA.out, ← HLB.out]
  clear HWA HLB
  go_wp2_with fail
  refine (bopen_any B bb tb rb T F G _ _ wa HP.out.pair HP.out.blk HP.out.nf HP.out.ng HP.out.bB HWL.out).mono ?_
  rintro e w1 ⟨rfl, hb, _, T1, F1, G1, jo1, hp⟩
  have HB1 := Lib.hid (HBL.out.trans hb)
  have HP1 := Lib.hid hp
  clear hb hp HBL HP
  go_wp2_with fail
  go_ret
  exact ⟨rfl, HB1.out, T1, F1, G1, jo1, HP1.out⟩

set_option maxRecDepth 100000 in
set_option maxHeartbeats 8000000 in
theorem act4_any (B bb tb rb : Nat) (T : TS) (F G : Nat → Prop) (jo : Option (Nat × Nat × JS)) (n keep : Int) (A A2 : Option Addr) (c c2 : Nat) (ys : List UInt8) (ls : List (List UInt8)) (w : World)
    (h : Bth B w bb tb rb T F G jo) (hi : ActIn B w A A2 ys ls n) :
    Calls Tryz.prog 9 #[.pointer (some ⟨bb, 0, none⟩), .agg #[.int .i64 4, .slice A ys.length c, .slice A2 ls.length c2, .int .i64 n, .int .i64 keep]] w (ActPost B w bb tb rb) := by
  obtain ⟨m, hm⟩ : ∃ m, m = ys.length := ⟨_, rfl⟩
  obtain ⟨m2, hm2⟩ : ∃ m2, m2 = ls.length := ⟨_, rfl⟩
  rw [← hm, ← hm2]
  obtain ⟨wa, hwa⟩ : ∃ wa, wa = w.alloc (.cells #[.int .i64 4, .slice A m c, .slice A2 m2 c2, .int .i64 n, .int .i64 keep] 38) := ⟨_, rfl⟩
  have hba : Below w.heap.size w wa := by rw [hwa]; exact (Below.refl _ _).alloc (Nat.le_refl _) _
  have hbk : Blk wa w.heap.size #[.int .i64 4, .slice A m c, .slice A2 m2 c2, .int .i64 n, .int .i64 keep] 38 := by rw [hwa]; exact Blk.new w _ _
  obtain ⟨lb, hlb⟩ : ∃ lb, lb = w.heap.size := ⟨_, rfl⟩
  have hBl : B ≤ lb := by rw [hlb]; exact h.pair.size
  have hfl : ¬ F lb := fun f => by have := h.pair.flt _ f; omega
  have hgl : ¬ G lb := fun f => by have := h.pair.glt _ f; omega
  have hbl : lb ≠ bb := fun e => by have := h.blk.lt; omega
  rw [← hlb] at hbk
  have HP := Lib.hid (h.pb.below hba)
  have HWL := Lib.hid h.well
  have HBL := Lib.hid (Below.up hba h.pair.size)
  have HI := Lib.hid (hi.below (Below.up hba h.pair.size))
  have HBK := Lib.hid hbk
  have hc0 : wa.cell? ⟨lb, 0, none⟩ = some (.int .i64 4) := hbk.cell 0
  have hc1 : wa.cell? ⟨lb, 1, none⟩ = some (.slice A m c) := hbk.cell 1
  have hc2 : wa.cell? ⟨lb, 2, none⟩ = some (.slice A2 m2 c2) := hbk.cell 2
  have hc3 : wa.cell? ⟨lb, 3, none⟩ = some (.int .i64 n) := hbk.cell 3
  have hc4 : wa.cell? ⟨lb, 4, none⟩ = some (.int .i64 keep) := hbk.cell 4
  have d0 : wa.cell? ⟨bb, 0, none⟩ = some (.pointer (some ⟨tb, 0, none⟩)) := HP.out.c0
  have d1 : wa.cell? ⟨bb, 1, none⟩ = some (pat (jo.map (·.1))) := HP.out.c1
  have d2 : wa.cell? ⟨bb, 2, none⟩ = some (.pointer (some ⟨rb, 0, none⟩)) := HP.out.c2
  have d3 : wa.cell? ⟨bb, 3, none⟩ = some (pat (jo.map (·.2.1))) := HP.out.c3
  have HFL := Lib.hid hfl
  have HGL := Lib.hid hgl
  have HNB := Lib.hid hbl
  have HWA := Lib.hid hwa
  have HLB := Lib.hid hlb
  have HM := Lib.hid hm
  have HM2 := Lib.hid hm2
  have H := Lib.hid h
  have HWB := Lib.hid (hba.trans (Below.up (Below.refl _ _).drew hba.size))
  clear h hi hm hm2 hba hbk hwa hlb hfl hgl hbl
  go_enter Tryz.func9, Tryz.ntmps9
  go_wp2_with fail
  rw [← HWA.out, ← HLB.out]
  clear HWA HLB
  go_wp2_with fail
  refine wp_region_phased (fun W => W.cell? ⟨bb, 0, none⟩ = some (.pointer (some ⟨tb, 0, none⟩)) ∧ W.cell? ⟨bb, 2, none⟩ = some (.pointer (some ⟨rb, 0, none⟩)) ∧ W.cell? ⟨lb, 3, none⟩ = some (.int .i64 n) ∧ W.cell? ⟨lb, 4, none⟩ = some (.int .i64 keep)) 20 (by kernel_rfl) ⟨d0, d2, hc3, hc4⟩ (fun hS => ?_)
  clear hc0 hc1 hc2 hc3 hc4 d0 d1 d2 d3
  have HPd := Lib.hid (HP.out.below (Below.refl _ _).drew)
  have HBKd := Lib.hid (HBK.out.drew)
  have HBLd := Lib.hid (HBL.out.trans (Below.up (Below.refl _ _).drew HP.out.pair.size))
  have HId := Lib.hid (HI.out.below (Below.up (Below.refl _ _).drew HP.out.pair.size))
  refine wpAnyP_pure (v := ?_) 0 (at_toArray rfl) (by kernel_rfl) (by kernel_rfl) (by kernel_rfl) (fun _ _ _ h => h) (Or.inl ⟨by rfl, fun W => ?_⟩) ?_
  rotate_left 1
  · (go_simp <;> (try go_bits) <;> with_reducible rfl)
  simp only [Act.put, List.setIfInBounds_toArray, List.set_cons_zero, List.set_cons_succ]
  refine wpAnyP_pure (v := ?_) 1 (at_toArray rfl) (by kernel_rfl) (by kernel_rfl) (by kernel_rfl) (fun _ _ _ h => h) (Or.inl ⟨by rfl, fun W => ?_⟩) ?_
  rotate_left 1
  · (go_simp <;> (try go_bits) <;> with_reducible rfl)
  simp only [Act.put, List.setIfInBounds_toArray, List.set_cons_zero, List.set_cons_succ]
  refine wpAnyP_pure (v := ?_) 2 (at_toArray rfl) (by kernel_rfl) (by kernel_rfl) (by kernel_rfl) (fun _ _ _ h => h) (Or.inl ⟨by rfl, fun W => ?_⟩) ?_
  rotate_left 1
  · (go_simp <;> (try go_bits) <;> with_reducible rfl)
  simp only [Act.put, List.setIfInBounds_toArray, List.set_cons_zero, List.set_cons_succ]
  refine wpAnyP_load (v := ?_) 3 (by kernel_rfl) (at_toArray rfl) (by kernel_rfl) (by kernel_rfl) (by kernel_rfl) (fun _ _ _ h => h) (by first | assumption | rfl) (Or.inl ⟨by rfl, fun W hS => ?_⟩) ?_
  rotate_left 1
  · (obtain ⟨_, _, _, _⟩ := hS; go_simp <;> (try go_bits) <;> with_reducible rfl)
  simp only [Act.put, List.setIfInBounds_toArray, List.set_cons_zero, List.set_cons_succ]
  refine wpAnyP_pure (v := ?_) 4 (at_toArray rfl) (by kernel_rfl) (by kernel_rfl) (by kernel_rfl) (fun _ _ _ h => h) (Or.inl ⟨by rfl, fun W => ?_⟩) ?_
  rotate_left 1
  · (go_simp <;> (try go_bits) <;> with_reducible rfl)
  simp only [Act.put, List.setIfInBounds_toArray, List.set_cons_zero, List.set_cons_succ]
  refine wpAnyP_load (v := ?_) 5 (by kernel_rfl) (at_toArray rfl) (by kernel_rfl) (by kernel_rfl) (by kernel_rfl) (fun _ _ _ h => h) (by first | assumption | rfl) (Or.inl ⟨by rfl, fun W hS => ?_⟩) ?_
  rotate_left 1
  · (obtain ⟨_, _, _, _⟩ := hS; go_simp <;> (try go_bits) <;> with_reducible rfl)
  simp only [Act.put, List.setIfInBounds_toArray, List.set_cons_zero, List.set_cons_succ]
  refine wpAnyP_pure (v := ?_) 6 (at_toArray rfl) (by kernel_rfl) (by kernel_rfl) (by kernel_rfl) (fun _ _ _ h => h) (Or.inl ⟨by rfl, fun W => ?_⟩) ?_
  rotate_left 1
  · (go_simp <;> (try go_bits) <;> with_reducible rfl)
  simp only [Act.put, List.setIfInBounds_toArray, List.set_cons_zero, List.set_cons_succ]
  refine wpAnyP_load (v := ?_) 7 (by kernel_rfl) (at_toArray rfl) (by kernel_rfl) (by kernel_rfl) (by kernel_rfl) (fun _ _ _ h => h) (by first | assumption | rfl) (Or.inl ⟨by rfl, fun W hS => ?_⟩) ?_
  rotate_left 1
  · (obtain ⟨_, _, _, _⟩ := hS; go_simp <;> (try go_bits) <;> with_reducible rfl)
  simp only [Act.put, List.setIfInBounds_toArray, List.set_cons_zero, List.set_cons_succ]
  refine wpAnyP_pure (v := ?_) 9 (at_toArray rfl) (by kernel_rfl) (by kernel_rfl) (by kernel_rfl) (fun _ _ _ h => h) (Or.inl ⟨by rfl, fun W => ?_⟩) ?_
  rotate_left 1
  · (go_simp <;> (try go_bits) <;> with_reducible rfl)
  simp only [Act.put, List.setIfInBounds_toArray, List.set_cons_zero, List.set_cons_succ]
  refine wpAnyP_pure (v := ?_) 10 (at_toArray rfl) (by kernel_rfl) (by kernel_rfl) (by kernel_rfl) (fun _ _ _ h => h) (Or.inl ⟨by rfl, fun W => ?_⟩) ?_
  rotate_left 1
  · (go_simp <;> (try go_bits) <;> with_reducible rfl)
  simp only [Act.put, List.setIfInBounds_toArray, List.set_cons_zero, List.set_cons_succ]
  refine wpAnyP_pure (v := ?_) 11 (at_toArray rfl) (by kernel_rfl) (by kernel_rfl) (by kernel_rfl) (fun _ _ _ h => h) (Or.inl ⟨by rfl, fun W => ?_⟩) ?_
  rotate_left 1
  · (go_simp <;> (try go_bits) <;> with_reducible rfl)
  simp only [Act.put, List.setIfInBounds_toArray, List.set_cons_zero, List.set_cons_succ]
  refine wpAnyP_load (v := ?_) 12 (by kernel_rfl) (at_toArray rfl) (by kernel_rfl) (by kernel_rfl) (by kernel_rfl) (fun _ _ _ h => h) (by first | assumption | rfl) (Or.inl ⟨by rfl, fun W hS => ?_⟩) ?_
  rotate_left 1
  · (obtain ⟨_, _, _, _⟩ := hS; go_simp <;> (try go_bits) <;> with_reducible rfl)
  simp only [Act.put, List.setIfInBounds_toArray, List.set_cons_zero, List.set_cons_succ]
  refine wpAnyP_pure (v := ?_) 13 (at_toArray rfl) (by kernel_rfl) (by kernel_rfl) (by kernel_rfl) (fun _ _ _ h => h) (Or.inl ⟨by rfl, fun W => ?_⟩) ?_
  rotate_left 1
  · (go_simp <;> (try go_bits) <;> with_reducible rfl)
  simp only [Act.put, List.setIfInBounds_toArray, List.set_cons_zero, List.set_cons_succ]
  refine wpAnyP_load (v := ?_) 14 (by kernel_rfl) (at_toArray rfl) (by kernel_rfl) (by kernel_rfl) (by kernel_rfl) (fun _ _ _ h => h) (by first | assumption | rfl) (Or.inl ⟨by rfl, fun W hS => ?_⟩) ?_
  rotate_left 1
  · (obtain ⟨_, _, _, _⟩ := hS; go_simp <;> (try go_bits) <;> with_reducible rfl)
  simp only [Act.put, List.setIfInBounds_toArray, List.set_cons_zero, List.set_cons_succ]
  refine wpAnyP_pure (v := ?_) 15 (at_toArray rfl) (by kernel_rfl) (by kernel_rfl) (by kernel_rfl) (fun _ _ _ h => h) (Or.inl ⟨by rfl, fun W => ?_⟩) ?_
  rotate_left 1
  · (go_simp <;> (try go_bits) <;> with_reducible rfl)
  simp only [Act.put, List.setIfInBounds_toArray, List.set_cons_zero, List.set_cons_succ]
  refine wpAnyP_load (v := ?_) 16 (by kernel_rfl) (at_toArray rfl) (by kernel_rfl) (by kernel_rfl) (by kernel_rfl) (fun _ _ _ h => h) (by first | assumption | rfl) (Or.inl ⟨by rfl, fun W hS => ?_⟩) ?_
  rotate_left 1
  · (obtain ⟨_, _, _, _⟩ := hS; go_simp <;> (try go_bits) <;> with_reducible rfl)
  simp only [Act.put, List.setIfInBounds_toArray, List.set_cons_zero, List.set_cons_succ]
  refine wpAnyP_one 8 (at_toArray rfl) (by kernel_rfl) rfl (fun K hK => ?_)
  go_wp2_with fail
  refine (arm_any tb n keep T F _ HPd.out.pair.tape HI.out.n).mono ?_
  rintro e w1 ⟨rfl, F1, ht, hu⟩
  obtain ⟨hp1, hb1⟩ := HPd.out.updT ht hu
  have HP1 := Lib.hid hp1
  have HB1 := Lib.hid (HBLd.out.trans hb1)
  have HBK1 := Lib.hid (HBKd.out.fr hu.fr HFL.out)
  have HI1 := Lib.hid (HId.out.below hb1)
  have HB0 := Lib.hid (show Below w.heap.size w wa.drew from HWB.out)
  have HU1 := Lib.hid hu
  clear ht hu hp1 hb1
  go_wp2_with fail
  refine hK.out _ _ (fun _ _ => ⟨HP1.out.c0, HP1.out.c2, HBK1.out.cell 3, HBK1.out.cell 4⟩) ?_
  clear hK hS
  refine wpAnyP_one 17 (at_toArray rfl) (by kernel_rfl) rfl (fun K hK => ?_)
  go_wp2_with fail
  refine (rarm_any rb n keep T G _ HP1.out.pair.ref HI.out.n).mono ?_
  rintro e w2 ⟨rfl, G2, ht, hu⟩
  obtain ⟨hp2, hb2⟩ := HP1.out.updR ht hu
  have HP2 := Lib.hid hp2
  have HB2 := Lib.hid (HB1.out.trans hb2)
  have HBK2 := Lib.hid (HBK1.out.fr hu.fr HGL.out)
  have HU2 := Lib.hid hu
  clear ht hu hp2 hb2
  go_wp2_with fail
  refine hK.out _ _ (fun _ _ => ⟨HP2.out.c0, HP2.out.c2, HBK2.out.cell 3, HBK2.out.cell 4⟩) ?_
  clear hK
  obtain ⟨⟨r, T2⟩, hr⟩ : ∃ r, r = T.arm n keep := ⟨_, rfl⟩
  rw [← hr] at HP2 ⊢
  have HRR := Lib.hid hr
  clear hr
  have hrr : (r == r) = true := by simp
  refine wpAnyP_pure (v := ?_) 18 (at_toArray rfl) (by kernel_rfl) (by kernel_rfl) (by kernel_rfl) (fun _ _ _ h => h) (Or.inl ⟨by rfl, fun W => ?_⟩) ?_
  rotate_left 1
  · (go_simp <;> (try go_bits) <;> with_reducible rfl)
  simp only [Act.put, List.setIfInBounds_toArray, List.set_cons_zero, List.set_cons_succ]
  refine wpAnyP_pure (v := ?_) 19 (at_toArray rfl) (by kernel_rfl) (by kernel_rfl) (by kernel_rfl) (fun _ _ _ h => h) (Or.inl ⟨by rfl, fun W => ?_⟩) ?_
  rotate_left 1
  · (go_simp <;> (try go_bits) <;> with_reducible rfl)
  simp only [Act.put, List.setIfInBounds_toArray, List.set_cons_zero, List.set_cons_succ]
  refine wpAnyP_done (by kernel_rfl) ?_ _
  go_wp2_with fail
  go_ret
  refine ⟨rfl, HB2.out, T2, F1, G2, jo, ⟨HP2.out.blk, HP2.out.pair, HP2.out.nf, HP2.out.ng, HP2.out.bB, by rw [show T2 = (T.arm n keep).2 by rw [← HRR.out]]; exact tarm_well HWL.out n keep, fun jb rj J hj => ?_⟩⟩
  have hw := HB0.out
  subst hj
  have j := ((H.out.js2.below hw).updT HU1.out).updR HU2.out
  exact ⟨j.blk, j.ref, j.jf, j.jg, j.rf, j.rg, j.jB, j.rB, by rw [show T2 = (T.arm n keep).2 by rw [← HRR.out]]; exact (H.out.js jb rj J rfl).jt.arm n keep⟩

set_option maxRecDepth 100000 in
set_option maxHeartbeats 8000000 in
theorem act5_any (B bb tb rb : Nat) (T : TS) (F G : Nat → Prop) (jo : Option (Nat × Nat × JS)) (n keep : Int) (A A2 : Option Addr) (c c2 : Nat) (ys : List UInt8) (ls : List (List UInt8)) (w : World)
    (h : Bth B w bb tb rb T F G jo) (hi : ActIn B w A A2 ys ls n) :
    Calls Tryz.prog 9 #[.pointer (some ⟨bb, 0, none⟩), .agg #[.int .i64 5, .slice A ys.length c, .slice A2 ls.length c2, .int .i64 n, .int .i64 keep]] w (ActPost B w bb tb rb) := by
  obtain ⟨m, hm⟩ : ∃ m, m = ys.length := ⟨_, rfl⟩
  obtain ⟨m2, hm2⟩ : ∃ m2, m2 = ls.length := ⟨_, rfl⟩
  rw [← hm, ← hm2]
  obtain ⟨wa, hwa⟩ : ∃ wa, wa = w.alloc (.cells #[.int .i64 5, .slice A m c, .slice A2 m2 c2, .int .i64 n, .int .i64 keep] 38) := ⟨_, rfl⟩
  have hba : Below w.heap.size w wa := by rw [hwa]; exact (Below.refl _ _).alloc (Nat.le_refl _) _
  have hbk : Blk wa w.heap.size #[.int .i64 5, .slice A m c, .slice A2 m2 c2, .int .i64 n, .int .i64 keep] 38 := by rw [hwa]; exact Blk.new w _ _
  obtain ⟨lb, hlb⟩ : ∃ lb, lb = w.heap.size := ⟨_, rfl⟩
  have hBl : B ≤ lb := by rw [hlb]; exact h.pair.size
  have hfl : ¬ F lb := fun f => by have := h.pair.flt _ f; omega
  have hgl : ¬ G lb := fun f => by have := h.pair.glt _ f; omega
  have hbl : lb ≠ bb := fun e => by have := h.blk.lt; omega
  rw [← hlb] at hbk
  have HP := Lib.hid (h.pb.below hba)
  have HWL := Lib.hid h.well
  have HBL := Lib.hid (Below.up hba h.pair.size)
  have HI := Lib.hid (hi.below (Below.up hba h.pair.size))
  have HBK := Lib.hid hbk
  have hc0 : wa.cell? ⟨lb, 0, none⟩ = some (.int .i64 5) := hbk.cell 0
  have hc1 : wa.cell? ⟨lb, 1, none⟩ = some (.slice A m c) := hbk.cell 1
  have hc2 : wa.cell? ⟨lb, 2, none⟩ = some (.slice A2 m2 c2) := hbk.cell 2
  have hc3 : wa.cell? ⟨lb, 3, none⟩ = some (.int .i64 n) := hbk.cell 3
  have hc4 : wa.cell? ⟨lb, 4, none⟩ = some (.int .i64 keep) := hbk.cell 4
  have d0 : wa.cell? ⟨bb, 0, none⟩ = some (.pointer (some ⟨tb, 0, none⟩)) := HP.out.c0
  have d1 : wa.cell? ⟨bb, 1, none⟩ = some (pat (jo.map (·.1))) := HP.out.c1
  have d2 : wa.cell? ⟨bb, 2, none⟩ = some (.pointer (some ⟨rb, 0, none⟩)) := HP.out.c2
  have d3 : wa.cell? ⟨bb, 3, none⟩ = some (pat (jo.map (·.2.1))) := HP.out.c3
  have HFL := Lib.hid hfl
  have HGL := Lib.hid hgl
  have HNB := Lib.hid hbl
  have HWA := Lib.hid hwa
  have HLB := Lib.hid hlb
  have HM := Lib.hid hm
  have HM2 := Lib.hid hm2
  have H := Lib.hid h
  have HWB := Lib.hid (hba.trans (Below.up (Below.refl _ _).drew hba.size))
  clear h hi hm hm2 hba hbk hwa hlb hfl hgl hbl
  go_enter Tryz.func9, Tryz.ntmps9
  go_wp2_with fail
  rw [← HWA.out, ← HLB.out]
  clear HWA HLB
  go_wp2_with fail
  refine wp_region_phased (fun W => W.cell? ⟨bb, 0, none⟩ = some (.pointer (some ⟨tb, 0, none⟩)) ∧ W.cell? ⟨bb, 2, none⟩ = some (.pointer (some ⟨rb, 0, none⟩)) ∧ W.cell? ⟨lb, 4, none⟩ = some (.int .i64 keep)) 15 (by kernel_rfl) ⟨d0, d2, hc4⟩ (fun hS => ?_)
  clear hc0 hc1 hc2 hc3 hc4 d0 d1 d2 d3
  have HPd := Lib.hid (HP.out.below (Below.refl _ _).drew)
  have HBKd := Lib.hid (HBK.out.drew)
  have HBLd := Lib.hid (HBL.out.trans (Below.up (Below.refl _ _).drew HP.out.pair.size))
  have HId := Lib.hid (HI.out.below (Below.up (Below.refl _ _).drew HP.out.pair.size))
  refine wpAnyP_pure (v := ?_) 0 (at_toArray rfl) (by kernel_rfl) (by kernel_rfl) (by kernel_rfl) (fun _ _ _ h => h) (Or.inl ⟨by rfl, fun W => ?_⟩) ?_
  rotate_left 1
  · (go_simp <;> (try go_bits) <;> with_reducible rfl)
  simp only [Act.put, List.setIfInBounds_toArray, List.set_cons_zero, List.set_cons_succ]
  refine wpAnyP_pure (v := ?_) 1 (at_toArray rfl) (by kernel_rfl) (by kernel_rfl) (by kernel_rfl) (fun _ _ _ h => h) (Or.inl ⟨by rfl, fun W => ?_⟩) ?_
  rotate_left 1
  · (go_simp <;> (try go_bits) <;> with_reducible rfl)
  simp only [Act.put, List.setIfInBounds_toArray, List.set_cons_zero, List.set_cons_succ]
  refine wpAnyP_pure (v := ?_) 2 (at_toArray rfl) (by kernel_rfl) (by kernel_rfl) (by kernel_rfl) (fun _ _ _ h => h) (Or.inl ⟨by rfl, fun W => ?_⟩) ?_
  rotate_left 1
  · (go_simp <;> (try go_bits) <;> with_reducible rfl)
  simp only [Act.put, List.setIfInBounds_toArray, List.set_cons_zero, List.set_cons_succ]
  refine wpAnyP_load (v := ?_) 3 (by kernel_rfl) (at_toArray rfl) (by kernel_rfl) (by kernel_rfl) (by kernel_rfl) (fun _ _ _ h => h) (by first | assumption | rfl) (Or.inl ⟨by rfl, fun W hS => ?_⟩) ?_
  rotate_left 1
  · (obtain ⟨_, _, _⟩ := hS; go_simp <;> (try go_bits) <;> with_reducible rfl)
  simp only [Act.put, List.setIfInBounds_toArray, List.set_cons_zero, List.set_cons_succ]
  refine wpAnyP_pure (v := ?_) 4 (at_toArray rfl) (by kernel_rfl) (by kernel_rfl) (by kernel_rfl) (fun _ _ _ h => h) (Or.inl ⟨by rfl, fun W => ?_⟩) ?_
  rotate_left 1
  · (go_simp <;> (try go_bits) <;> with_reducible rfl)
  simp only [Act.put, List.setIfInBounds_toArray, List.set_cons_zero, List.set_cons_succ]
  refine wpAnyP_load (v := ?_) 5 (by kernel_rfl) (at_toArray rfl) (by kernel_rfl) (by kernel_rfl) (by kernel_rfl) (fun _ _ _ h => h) (by first | assumption | rfl) (Or.inl ⟨by rfl, fun W hS => ?_⟩) ?_
  rotate_left 1
  · (obtain ⟨_, _, _⟩ := hS; go_simp <;> (try go_bits) <;> with_reducible rfl)
  simp only [Act.put, List.setIfInBounds_toArray, List.set_cons_zero, List.set_cons_succ]
  refine wpAnyP_pure (v := ?_) 7 (at_toArray rfl) (by kernel_rfl) (by kernel_rfl) (by kernel_rfl) (fun _ _ _ h => h) (Or.inl ⟨by rfl, fun W => ?_⟩) ?_
  rotate_left 1
  · (go_simp <;> (try go_bits) <;> with_reducible rfl)
  simp only [Act.put, List.setIfInBounds_toArray, List.set_cons_zero, List.set_cons_succ]
  refine wpAnyP_pure (v := ?_) 8 (at_toArray rfl) (by kernel_rfl) (by kernel_rfl) (by kernel_rfl) (fun _ _ _ h => h) (Or.inl ⟨by rfl, fun W => ?_⟩) ?_
  rotate_left 1
  · (go_simp <;> (try go_bits) <;> with_reducible rfl)
  simp only [Act.put, List.setIfInBounds_toArray, List.set_cons_zero, List.set_cons_succ]
  refine wpAnyP_pure (v := ?_) 9 (at_toArray rfl) (by kernel_rfl) (by kernel_rfl) (by kernel_rfl) (fun _ _ _ h => h) (Or.inl ⟨by rfl, fun W => ?_⟩) ?_
  rotate_left 1
  · (go_simp <;> (try go_bits) <;> with_reducible rfl)
  simp only [Act.put, List.setIfInBounds_toArray, List.set_cons_zero, List.set_cons_succ]
  refine wpAnyP_load (v := ?_) 10 (by kernel_rfl) (at_toArray rfl) (by kernel_rfl) (by kernel_rfl) (by kernel_rfl) (fun _ _ _ h => h) (by first | assumption | rfl) (Or.inl ⟨by rfl, fun W hS => ?_⟩) ?_
  rotate_left 1
  · (obtain ⟨_, _, _⟩ := hS; go_simp <;> (try go_bits) <;> with_reducible rfl)
  simp only [Act.put, List.setIfInBounds_toArray, List.set_cons_zero, List.set_cons_succ]
  refine wpAnyP_pure (v := ?_) 11 (at_toArray rfl) (by kernel_rfl) (by kernel_rfl) (by kernel_rfl) (fun _ _ _ h => h) (Or.inl ⟨by rfl, fun W => ?_⟩) ?_
  rotate_left 1
  · (go_simp <;> (try go_bits) <;> with_reducible rfl)
  simp only [Act.put, List.setIfInBounds_toArray, List.set_cons_zero, List.set_cons_succ]
  refine wpAnyP_load (v := ?_) 12 (by kernel_rfl) (at_toArray rfl) (by kernel_rfl) (by kernel_rfl) (by kernel_rfl) (fun _ _ _ h => h) (by first | assumption | rfl) (Or.inl ⟨by rfl, fun W hS => ?_⟩) ?_
  rotate_left 1
  · (obtain ⟨_, _, _⟩ := hS; go_simp <;> (try go_bits) <;> with_reducible rfl)
  simp only [Act.put, List.setIfInBounds_toArray, List.set_cons_zero, List.set_cons_succ]
  refine wpAnyP_one 6 (at_toArray rfl) (by kernel_rfl) rfl (fun K hK => ?_)
  go_wp2_with fail
  refine (fail_any tb keep T F _ HPd.out.pair.tape).mono ?_
  rintro e w1 ⟨rfl, F1, ht, hu⟩
  obtain ⟨hp1, hb1⟩ := HPd.out.updT ht hu
  have HP1 := Lib.hid hp1
  have HB1 := Lib.hid (HBLd.out.trans hb1)
  have HBK1 := Lib.hid (HBKd.out.fr hu.fr HFL.out)
  have HI1 := Lib.hid (HId.out.below hb1)
  have HU1 := Lib.hid hu
  clear ht hu hp1 hb1
  go_wp2_with fail
  refine hK.out _ _ (fun _ _ => ⟨HP1.out.c0, HP1.out.c2, HBK1.out.cell 4⟩) ?_
  clear hK hS
  refine wpAnyP_one 13 (at_toArray rfl) (by kernel_rfl) rfl (fun K hK => ?_)
  go_wp2_with fail
  refine (rfail_any rb keep T G _ HP1.out.pair.ref).mono ?_
  rintro e w2 ⟨rfl, G2, ht, hu⟩
  obtain ⟨hp2, hb2⟩ := HP1.out.updR ht hu
  have HP2 := Lib.hid hp2
  have HB2 := Lib.hid (HB1.out.trans hb2)
  have HBK2 := Lib.hid (HBK1.out.fr hu.fr HGL.out)
  have HU2 := Lib.hid hu
  clear ht hu hp2 hb2
  go_wp2_with fail
  refine hK.out _ _ (fun _ _ => ⟨HP2.out.c0, HP2.out.c2, HBK2.out.cell 4⟩) ?_
  clear hK
  obtain ⟨⟨r, T2⟩, hr⟩ : ∃ r, r = T.fail keep := ⟨_, rfl⟩
  rw [← hr] at HP2 ⊢
  have HRR := Lib.hid hr
  clear hr
  have hrr : (r == r) = true := by simp
  have hrn : (r != r) = false := by simp
  refine wpAnyP_pure (v := ?_) 14 (at_toArray rfl) (by kernel_rfl) (by kernel_rfl) (by kernel_rfl) (fun _ _ _ h => h) (Or.inl ⟨by rfl, fun W => ?_⟩) ?_
  rotate_left 1
  · (go_simp <;> (try go_bits) <;> with_reducible rfl)
  simp only [Act.put, List.setIfInBounds_toArray, List.set_cons_zero, List.set_cons_succ]
  refine wpAnyP_done (by kernel_rfl) ?_ _
  have e0 := HP2.out.c0
  go_wp2_with fail
  refine (power_any tb T2 F1 w2 HP2.out.pair.tape).mono ?_
  rintro e w3 ⟨rfl, ht, hu⟩
  obtain ⟨hp3, hb3⟩ := HP2.out.updT ht hu
  have HP3 := Lib.hid hp3
  have HB3 := Lib.hid (HB2.out.trans hb3)
  clear ht hu hp3 hb3 e0
  have e2 := HP3.out.c2
  have h5 := HP3.out.pair.ref.dark
  have g5 : w3.frozen? ⟨rb, 5, none⟩ = false := by
    obtain ⟨l, k, u0, u1, h⟩ := HP3.out.pair.ref
    exact h.blk.free 5
  have hr5 := rdark_off HP3.out.pair.ref
  obtain ⟨hp4, hb4⟩ := HP3.out.updR hr5.1 hr5.2
  have HP4 := Lib.hid hp4
  have HB4 := Lib.hid (HB3.out.trans hb4)
  clear hr5 hp4 hb4
  go_wp2_with fail
  generalize w3.setCell _ _ = w4 at *
  refine (bopen_any B bb tb rb _ F1 G2 _ _ w4 HP4.out.pair HP4.out.blk HP4.out.nf HP4.out.ng HP4.out.bB (by rw [show T2 = (T.fail keep).2 by rw [← HRR.out]]; exact tfail_well HWL.out keep)).mono ?_
  rintro e w5 ⟨rfl, hb, _, T5, F5, G5, jo5, hp⟩
  have HB5 := Lib.hid (HB4.out.trans hb)
  have HP5 := Lib.hid hp
  clear hb hp HB4 HP4
  go_wp2_with fail
  go_ret
  exact ⟨rfl, HB5.out, T5, F5, G5, jo5, HP5.out⟩

set_option maxRecDepth 100000 in
set_option maxHeartbeats 8000000 in
theorem act6_any (B bb tb rb : Nat) (T : TS) (F G : Nat → Prop) (jo : Option (Nat × Nat × JS)) (n keep : Int) (A A2 : Option Addr) (c c2 : Nat) (ys : List UInt8) (ls : List (List UInt8)) (w : World)
    (h : Bth B w bb tb rb T F G jo) (hi : ActIn B w A A2 ys ls n) :
    Calls Tryz.prog 9 #[.pointer (some ⟨bb, 0, none⟩), .agg #[.int .i64 6, .slice A ys.length c, .slice A2 ls.length c2, .int .i64 n, .int .i64 keep]] w (ActPost B w bb tb rb) := by
  obtain ⟨m, hm⟩ : ∃ m, m = ys.length := ⟨_, rfl⟩
  obtain ⟨m2, hm2⟩ : ∃ m2, m2 = ls.length := ⟨_, rfl⟩
  rw [← hm, ← hm2]
  obtain ⟨wa, hwa⟩ : ∃ wa, wa = w.alloc (.cells #[.int .i64 6, .slice A m c, .slice A2 m2 c2, .int .i64 n, .int .i64 keep] 38) := ⟨_, rfl⟩
  have hba : Below w.heap.size w wa := by rw [hwa]; exact (Below.refl _ _).alloc (Nat.le_refl _) _
  have hbk : Blk wa w.heap.size #[.int .i64 6, .slice A m c, .slice A2 m2 c2, .int .i64 n, .int .i64 keep] 38 := by rw [hwa]; exact Blk.new w _ _
  obtain ⟨lb, hlb⟩ : ∃ lb, lb = w.heap.size := ⟨_, rfl⟩
  have hBl : B ≤ lb := by rw [hlb]; exact h.pair.size
  have hfl : ¬ F lb := fun f => by have := h.pair.flt _ f; omega
  have hgl : ¬ G lb := fun f => by have := h.pair.glt _ f; omega
  have hbl : lb ≠ bb := fun e => by have := h.blk.lt; omega
  rw [← hlb] at hbk
  have HP := Lib.hid (h.pb.below hba)
  have HWL := Lib.hid h.well
  have HBL := Lib.hid (Below.up hba h.pair.size)
  have HI := Lib.hid (hi.below (Below.up hba h.pair.size))
  have HBK := Lib.hid hbk
  have hc0 : wa.cell? ⟨lb, 0, none⟩ = some (.int .i64 6) := hbk.cell 0
  have hc1 : wa.cell? ⟨lb, 1, none⟩ = some (.slice A m c) := hbk.cell 1
  have hc2 : wa.cell? ⟨lb, 2, none⟩ = some (.slice A2 m2 c2) := hbk.cell 2
  have hc3 : wa.cell? ⟨lb, 3, none⟩ = some (.int .i64 n) := hbk.cell 3
  have hc4 : wa.cell? ⟨lb, 4, none⟩ = some (.int .i64 keep) := hbk.cell 4
  have d0 : wa.cell? ⟨bb, 0, none⟩ = some (.pointer (some ⟨tb, 0, none⟩)) := HP.out.c0
  have d1 : wa.cell? ⟨bb, 1, none⟩ = some (pat (jo.map (·.1))) := HP.out.c1
  have d2 : wa.cell? ⟨bb, 2, none⟩ = some (.pointer (some ⟨rb, 0, none⟩)) := HP.out.c2
  have d3 : wa.cell? ⟨bb, 3, none⟩ = some (pat (jo.map (·.2.1))) := HP.out.c3
  have HFL := Lib.hid hfl
  have HGL := Lib.hid hgl
  have HNB := Lib.hid hbl
  have HWA := Lib.hid hwa
  have HLB := Lib.hid hlb
  have HM := Lib.hid hm
  have HM2 := Lib.hid hm2
  have H := Lib.hid h
  have HWB := Lib.hid (hba.trans (Below.up (Below.refl _ _).drew hba.size))
  clear h hi hm hm2 hba hbk hwa hlb hfl hgl hbl
  go_enter Tryz.func9, Tryz.ntmps9
  go_wp2_with fail
  rw [← HWA.out, ← HLB.out]
  clear HWA HLB
  go_wp2_with fail
  refine wp_region_phased (fun W => W.cell? ⟨bb, 0, none⟩ = some (.pointer (some ⟨tb, 0, none⟩)) ∧ W.cell? ⟨bb, 2, none⟩ = some (.pointer (some ⟨rb, 0, none⟩)) ∧ W.cell? ⟨lb, 3, none⟩ = some (.int .i64 n) ∧ W.cell? ⟨lb, 1, none⟩ = some (.slice A m c)) 24 (by kernel_rfl) ⟨d0, d2, hc3, hc1⟩ (fun hS => ?_)
  clear hc0 hc1 hc2 hc3 hc4 d0 d1 d2 d3
  have HPd := Lib.hid (HP.out.below (Below.refl _ _).drew)
  have HBKd := Lib.hid (HBK.out.drew)
  have HBLd := Lib.hid (HBL.out.trans (Below.up (Below.refl _ _).drew HP.out.pair.size))
  have HId := Lib.hid (HI.out.below (Below.up (Below.refl _ _).drew HP.out.pair.size))
  refine wpAnyP_pure (v := ?_) 0 (at_toArray rfl) (by kernel_rfl) (by kernel_rfl) (by kernel_rfl) (fun _ _ _ h => h) (Or.inl ⟨by rfl, fun W => ?_⟩) ?_
  rotate_left 1
  · (go_simp <;> (try go_bits) <;> with_reducible rfl)
  simp only [Act.put, List.setIfInBounds_toArray, List.set_cons_zero, List.set_cons_succ]
  refine wpAnyP_pure (v := ?_) 1 (at_toArray rfl) (by kernel_rfl) (by kernel_rfl) (by kernel_rfl) (fun _ _ _ h => h) (Or.inl ⟨by rfl, fun W => ?_⟩) ?_
  rotate_left 1
  · (go_simp <;> (try go_bits) <;> with_reducible rfl)
  simp only [Act.put, List.setIfInBounds_toArray, List.set_cons_zero, List.set_cons_succ]
  refine wpAnyP_pure (v := ?_) 2 (at_toArray rfl) (by kernel_rfl) (by kernel_rfl) (by kernel_rfl) (fun _ _ _ h => h) (Or.inl ⟨by rfl, fun W => ?_⟩) ?_
  rotate_left 1
  · (go_simp <;> (try go_bits) <;> with_reducible rfl)
  simp only [Act.put, List.setIfInBounds_toArray, List.set_cons_zero, List.set_cons_succ]
  refine wpAnyP_load (v := ?_) 3 (by kernel_rfl) (at_toArray rfl) (by kernel_rfl) (by kernel_rfl) (by kernel_rfl) (fun _ _ _ h => h) (by first | assumption | rfl) (Or.inl ⟨by rfl, fun W hS => ?_⟩) ?_
  rotate_left 1
  · (obtain ⟨_, _, _, _⟩ := hS; go_simp <;> (try go_bits) <;> with_reducible rfl)
  simp only [Act.put, List.setIfInBounds_toArray, List.set_cons_zero, List.set_cons_succ]
  refine wpAnyP_pure (v := ?_) 4 (at_toArray rfl) (by kernel_rfl) (by kernel_rfl) (by kernel_rfl) (fun _ _ _ h => h) (Or.inl ⟨by rfl, fun W => ?_⟩) ?_
  rotate_left 1
  · (go_simp <;> (try go_bits) <;> with_reducible rfl)
  simp only [Act.put, List.setIfInBounds_toArray, List.set_cons_zero, List.set_cons_succ]
  refine wpAnyP_load (v := ?_) 5 (by kernel_rfl) (at_toArray rfl) (by kernel_rfl) (by kernel_rfl) (by kernel_rfl) (fun _ _ _ h => h) (by first | assumption | rfl) (Or.inl ⟨by rfl, fun W hS => ?_⟩) ?_
  rotate_left 1
  · (obtain ⟨_, _, _, _⟩ := hS; go_simp <;> (try go_bits) <;> with_reducible rfl)
  simp only [Act.put, List.setIfInBounds_toArray, List.set_cons_zero, List.set_cons_succ]
  refine wpAnyP_pure (v := ?_) 6 (at_toArray rfl) (by kernel_rfl) (by kernel_rfl) (by kernel_rfl) (fun _ _ _ h => h) (Or.inl ⟨by rfl, fun W => ?_⟩) ?_
  rotate_left 1
  · (go_simp <;> (try go_bits) <;> with_reducible rfl)
  simp only [Act.put, List.setIfInBounds_toArray, List.set_cons_zero, List.set_cons_succ]
  refine wpAnyP_load (v := ?_) 7 (by kernel_rfl) (at_toArray rfl) (by kernel_rfl) (by kernel_rfl) (by kernel_rfl) (fun _ _ _ h => h) (by first | assumption | rfl) (Or.inl ⟨by rfl, fun W hS => ?_⟩) ?_
  rotate_left 1
  · (obtain ⟨_, _, _, _⟩ := hS; go_simp <;> (try go_bits) <;> with_reducible rfl)
  simp only [Act.put, List.setIfInBounds_toArray, List.set_cons_zero, List.set_cons_succ]
  refine wpAnyP_pure (v := ?_) 9 (at_toArray rfl) (by kernel_rfl) (by kernel_rfl) (by kernel_rfl) (fun _ _ _ h => h) (Or.inl ⟨by rfl, fun W => ?_⟩) ?_
  rotate_left 1
  · (go_simp <;> (try go_bits) <;> with_reducible rfl)
  simp only [Act.put, List.setIfInBounds_toArray, List.set_cons_zero, List.set_cons_succ]
  refine wpAnyP_pure (v := ?_) 10 (at_toArray rfl) (by kernel_rfl) (by kernel_rfl) (by kernel_rfl) (fun _ _ _ h => h) (Or.inl ⟨by rfl, fun W => ?_⟩) ?_
  rotate_left 1
  · (go_simp <;> (try go_bits) <;> with_reducible rfl)
  simp only [Act.put, List.setIfInBounds_toArray, List.set_cons_zero, List.set_cons_succ]
  refine wpAnyP_pure (v := ?_) 11 (at_toArray rfl) (by kernel_rfl) (by kernel_rfl) (by kernel_rfl) (fun _ _ _ h => h) (Or.inl ⟨by rfl, fun W => ?_⟩) ?_
  rotate_left 1
  · (go_simp <;> (try go_bits) <;> with_reducible rfl)
  simp only [Act.put, List.setIfInBounds_toArray, List.set_cons_zero, List.set_cons_succ]
  refine wpAnyP_load (v := ?_) 12 (by kernel_rfl) (at_toArray rfl) (by kernel_rfl) (by kernel_rfl) (by kernel_rfl) (fun _ _ _ h => h) (by first | assumption | rfl) (Or.inl ⟨by rfl, fun W hS => ?_⟩) ?_
  rotate_left 1
  · (obtain ⟨_, _, _, _⟩ := hS; go_simp <;> (try go_bits) <;> with_reducible rfl)
  simp only [Act.put, List.setIfInBounds_toArray, List.set_cons_zero, List.set_cons_succ]
  refine wpAnyP_pure (v := ?_) 13 (at_toArray rfl) (by kernel_rfl) (by kernel_rfl) (by kernel_rfl) (fun _ _ _ h => h) (Or.inl ⟨by rfl, fun W => ?_⟩) ?_
  rotate_left 1
  · (go_simp <;> (try go_bits) <;> with_reducible rfl)
  simp only [Act.put, List.setIfInBounds_toArray, List.set_cons_zero, List.set_cons_succ]
  refine wpAnyP_load (v := ?_) 14 (by kernel_rfl) (at_toArray rfl) (by kernel_rfl) (by kernel_rfl) (by kernel_rfl) (fun _ _ _ h => h) (by first | assumption | rfl) (Or.inl ⟨by rfl, fun W hS => ?_⟩) ?_
  rotate_left 1
  · (obtain ⟨_, _, _, _⟩ := hS; go_simp <;> (try go_bits) <;> with_reducible rfl)
  simp only [Act.put, List.setIfInBounds_toArray, List.set_cons_zero, List.set_cons_succ]
  refine wpAnyP_pure (v := ?_) 15 (at_toArray rfl) (by kernel_rfl) (by kernel_rfl) (by kernel_rfl) (fun _ _ _ h => h) (Or.inl ⟨by rfl, fun W => ?_⟩) ?_
  rotate_left 1
  · (go_simp <;> (try go_bits) <;> with_reducible rfl)
  simp only [Act.put, List.setIfInBounds_toArray, List.set_cons_zero, List.set_cons_succ]
  refine wpAnyP_load (v := ?_) 16 (by kernel_rfl) (at_toArray rfl) (by kernel_rfl) (by kernel_rfl) (by kernel_rfl) (fun _ _ _ h => h) (by first | assumption | rfl) (Or.inl ⟨by rfl, fun W hS => ?_⟩) ?_
  rotate_left 1
  · (obtain ⟨_, _, _, _⟩ := hS; go_simp <;> (try go_bits) <;> with_reducible rfl)
  simp only [Act.put, List.setIfInBounds_toArray, List.set_cons_zero, List.set_cons_succ]
  refine wpAnyP_one 8 (at_toArray rfl) (by kernel_rfl) rfl (fun K hK => ?_)
  go_wp2_with fail
  rw [HM.out]
  refine (append_any tb n A c ys T F _ HPd.out.pair.tape HId.out.x (HId.out.na HPd.out.pair.fB)).mono ?_
  rw [← HM.out]
  rintro e w1 ⟨rfl, F1, ht, hu⟩
  obtain ⟨hp1, hb1⟩ := HPd.out.updT ht hu
  have HP1 := Lib.hid hp1
  have HB1 := Lib.hid (HBLd.out.trans hb1)
  have HBK1 := Lib.hid (HBKd.out.fr hu.fr HFL.out)
  have HI1 := Lib.hid (HId.out.below hb1)
  have HU1 := Lib.hid hu
  clear ht hu hp1 hb1
  go_wp2_with fail
  refine hK.out _ _ (fun _ _ => ⟨HP1.out.c0, HP1.out.c2, HBK1.out.cell 3, HBK1.out.cell 1⟩) ?_
  clear hK hS
  refine wpAnyP_one 17 (at_toArray rfl) (by kernel_rfl) rfl (fun K hK => ?_)
  go_wp2_with fail
  rw [HM.out]
  refine (rappend_any rb n A c ys T G _ HP1.out.pair.ref HI1.out.x (HI1.out.na HP1.out.pair.gB)).mono ?_
  rw [← HM.out]
  rintro e w2 ⟨rfl, G2, ht, hu⟩
  obtain ⟨hp2, hb2⟩ := HP1.out.updR ht hu
  have HP2 := Lib.hid hp2
  have HB2 := Lib.hid (HB1.out.trans hb2)
  have HBK2 := Lib.hid (HBK1.out.fr hu.fr HGL.out)
  have HU2 := Lib.hid hu
  clear ht hu hp2 hb2
  go_wp2_with fail
  refine hK.out _ _ (fun _ _ => ⟨HP2.out.c0, HP2.out.c2, HBK2.out.cell 3, HBK2.out.cell 1⟩) ?_
  clear hK
  obtain ⟨⟨r, T2⟩, hr⟩ : ∃ r, r = T.append n ys := ⟨_, rfl⟩
  rw [← hr] at HP2 ⊢
  have HRR := Lib.hid hr
  clear hr
  have hrr : (r == r) = true := by simp
  refine wpAnyP_pure (v := ?_) 18 (at_toArray rfl) (by kernel_rfl) (by kernel_rfl) (by kernel_rfl) (fun _ _ _ h => h) (Or.inl ⟨by rfl, fun W => ?_⟩) ?_
  rotate_left 1
  · (go_simp <;> (try go_bits) <;> with_reducible rfl)
  simp only [Act.put, List.setIfInBounds_toArray, List.set_cons_zero, List.set_cons_succ]
  refine wpAnyP_pure (v := ?_) 19 (at_toArray rfl) (by kernel_rfl) (by kernel_rfl) (by kernel_rfl) (fun _ _ _ h => h) (Or.inl ⟨by rfl, fun W => ?_⟩) ?_
  rotate_left 1
  · (go_simp <;> (try go_bits) <;> with_reducible rfl)
  simp only [Act.put, List.setIfInBounds_toArray, List.set_cons_zero, List.set_cons_succ]
  refine wpAnyP_pure (v := ?_) 20 (at_toArray rfl) (by kernel_rfl) (by kernel_rfl) (by kernel_rfl) (fun _ _ _ h => h) (Or.inl ⟨by rfl, fun W => ?_⟩) ?_
  rotate_left 1
  · (go_simp <;> (try go_bits) <;> with_reducible rfl)
  simp only [Act.put, List.setIfInBounds_toArray, List.set_cons_zero, List.set_cons_succ]
  refine wpAnyP_oneG 21 (at_toArray rfl) (by kernel_rfl) (by rfl) (fun K hK => ?_)
  go_wp2_with fail
  refine (bopen_any B bb tb rb _ F1 G2 _ _ w2 HP2.out.pair HP2.out.blk HP2.out.nf HP2.out.ng HP2.out.bB (by rw [show T2 = (T.append n ys).2 by rw [← HRR.out]]; exact tappend_well HWL.out n ys)).mono ?_
  rintro e w3 ⟨rfl, hb, hf, T3, F3, G3, jo3, hp⟩
  have HB3 := Lib.hid (HB2.out.trans hb)
  have HP3 := Lib.hid hp
  have HBK3 := Lib.hid (HBK2.out.fr hf (fun x => x.elim (fun f => (HU1.out.new lb f).elim HFL.out (fun h => by have := HBKd.out.lt; omega)) (fun x => x.elim (fun g => (HU2.out.new lb g).elim HGL.out (fun h => by have := HBK1.out.lt; omega)) HNB.out)))
  clear hb hp hf
  have HPB3 := Lib.hid HP3.out.pb
  go_wp2_with fail
  refine hK.out _ _ (fun _ _ => ⟨HPB3.out.c0, HPB3.out.c2, HBK3.out.cell 3, HBK3.out.cell 1⟩) ?_
  clear hK
  refine wpAnyP_pure (v := ?_) 22 (at_toArray rfl) (by kernel_rfl) (by kernel_rfl) (by kernel_rfl) (fun _ _ _ h => h) (Or.inl ⟨by rfl, fun W => ?_⟩) ?_
  rotate_left 1
  · (go_simp <;> (try go_bits) <;> with_reducible rfl)
  simp only [Act.put, List.setIfInBounds_toArray, List.set_cons_zero, List.set_cons_succ]
  refine wpAnyP_pure (v := ?_) 23 (at_toArray rfl) (by kernel_rfl) (by kernel_rfl) (by kernel_rfl) (fun _ _ _ h => h) (Or.inl ⟨by rfl, fun W => ?_⟩) ?_
  rotate_left 1
  · (go_simp <;> (try go_bits) <;> with_reducible rfl)
  simp only [Act.put, List.setIfInBounds_toArray, List.set_cons_zero, List.set_cons_succ]
  refine wpAnyP_done (by kernel_rfl) ?_ _
  go_wp2_with fail
  go_ret
  exact ⟨rfl, HB3.out, T3, F3, G3, jo3, HP3.out⟩

set_option maxRecDepth 100000 in
set_option maxHeartbeats 8000000 in
theorem act7_any (B bb tb rb : Nat) (T : TS) (F G : Nat → Prop) (jo : Option (Nat × Nat × JS)) (n keep : Int) (A A2 : Option Addr) (c c2 : Nat) (ys : List UInt8) (ls : List (List UInt8)) (w : World)
    (h : Bth B w bb tb rb T F G jo) (hi : ActIn B w A A2 ys ls n) :
    Calls Tryz.prog 9 #[.pointer (some ⟨bb, 0, none⟩), .agg #[.int .i64 7, .slice A ys.length c, .slice A2 ls.length c2, .int .i64 n, .int .i64 keep]] w (ActPost B w bb tb rb) := by
  obtain ⟨m, hm⟩ : ∃ m, m = ys.length := ⟨_, rfl⟩
  obtain ⟨m2, hm2⟩ : ∃ m2, m2 = ls.length := ⟨_, rfl⟩
  rw [← hm, ← hm2]
  obtain ⟨wa, hwa⟩ : ∃ wa, wa = w.alloc (.cells #[.int .i64 7, .slice A m c, .slice A2 m2 c2, .int .i64 n, .int .i64 keep] 38) := ⟨_, rfl⟩
  have hba : Below w.heap.size w wa := by rw [hwa]; exact (Below.refl _ _).alloc (Nat.le_refl _) _
  have hbk : Blk wa w.heap.size #[.int .i64 7, .slice A m c, .slice A2 m2 c2, .int .i64 n, .int .i64 keep] 38 := by rw [hwa]; exact Blk.new w _ _
  obtain ⟨lb, hlb⟩ : ∃ lb, lb = w.heap.size := ⟨_, rfl⟩
  have hBl : B ≤ lb := by rw [hlb]; exact h.pair.size
  have hfl : ¬ F lb := fun f => by have := h.pair.flt _ f; omega
  have hgl : ¬ G lb := fun f => by have := h.pair.glt _ f; omega
  have hbl : lb ≠ bb := fun e => by have := h.blk.lt; omega
  rw [← hlb] at hbk
  have HP := Lib.hid (h.pb.below hba)
  have HWL := Lib.hid h.well
  have HBL := Lib.hid (Below.up hba h.pair.size)
  have HI := Lib.hid (hi.below (Below.up hba h.pair.size))
  have HBK := Lib.hid hbk
  have hc0 : wa.cell? ⟨lb, 0, none⟩ = some (.int .i64 7) := hbk.cell 0
  have hc1 : wa.cell? ⟨lb, 1, none⟩ = some (.slice A m c) := hbk.cell 1
  have hc2 : wa.cell? ⟨lb, 2, none⟩ = some (.slice A2 m2 c2) := hbk.cell 2
  have hc3 : wa.cell? ⟨lb, 3, none⟩ = some (.int .i64 n) := hbk.cell 3
  have hc4 : wa.cell? ⟨lb, 4, none⟩ = some (.int .i64 keep) := hbk.cell 4
  have d0 : wa.cell? ⟨bb, 0, none⟩ = some (.pointer (some ⟨tb, 0, none⟩)) := HP.out.c0
  have d1 : wa.cell? ⟨bb, 1, none⟩ = some (pat (jo.map (·.1))) := HP.out.c1
  have d2 : wa.cell? ⟨bb, 2, none⟩ = some (.pointer (some ⟨rb, 0, none⟩)) := HP.out.c2
  have d3 : wa.cell? ⟨bb, 3, none⟩ = some (pat (jo.map (·.2.1))) := HP.out.c3
  have HFL := Lib.hid hfl
  have HGL := Lib.hid hgl
  have HNB := Lib.hid hbl
  have HWA := Lib.hid hwa
  have HLB := Lib.hid hlb
  have HM := Lib.hid hm
  have HM2 := Lib.hid hm2
  have H := Lib.hid h
  have HWB := Lib.hid (hba.trans (Below.up (Below.refl _ _).drew hba.size))
  clear h hi hm hm2 hba hbk hwa hlb hfl hgl hbl
  go_enter Tryz.func9, Tryz.ntmps9
  go_wp2_with fail
  rw [← HWA.out, ← HLB.out]
  clear HWA HLB
  go_wp2_with fail
  refine wp_region_phased (fun W => W.cell? ⟨bb, 0, none⟩ = some (.pointer (some ⟨tb, 0, none⟩)) ∧ W.cell? ⟨bb, 2, none⟩ = some (.pointer (some ⟨rb, 0, none⟩)) ∧ W.cell? ⟨lb, 3, none⟩ = some (.int .i64 n)) 20 (by kernel_rfl) ⟨d0, d2, hc3⟩ (fun hS => ?_)
  clear hc0 hc1 hc2 hc3 hc4 d0 d1 d2 d3
  have HPd := Lib.hid (HP.out.below (Below.refl _ _).drew)
  have HBKd := Lib.hid (HBK.out.drew)
  have HBLd := Lib.hid (HBL.out.trans (Below.up (Below.refl _ _).drew HP.out.pair.size))
  have HId := Lib.hid (HI.out.below (Below.up (Below.refl _ _).drew HP.out.pair.size))
  refine wpAnyP_pure (v := ?_) 0 (at_toArray rfl) (by kernel_rfl) (by kernel_rfl) (by kernel_rfl) (fun _ _ _ h => h) (Or.inl ⟨by rfl, fun W => ?_⟩) ?_
  rotate_left 1
  · (go_simp <;> (try go_bits) <;> with_reducible rfl)
  simp only [Act.put, List.setIfInBounds_toArray, List.set_cons_zero, List.set_cons_succ]
  refine wpAnyP_pure (v := ?_) 1 (at_toArray rfl) (by kernel_rfl) (by kernel_rfl) (by kernel_rfl) (fun _ _ _ h => h) (Or.inl ⟨by rfl, fun W => ?_⟩) ?_
  rotate_left 1
  · (go_simp <;> (try go_bits) <;> with_reducible rfl)
  simp only [Act.put, List.setIfInBounds_toArray, List.set_cons_zero, List.set_cons_succ]
  refine wpAnyP_pure (v := ?_) 2 (at_toArray rfl) (by kernel_rfl) (by kernel_rfl) (by kernel_rfl) (fun _ _ _ h => h) (Or.inl ⟨by rfl, fun W => ?_⟩) ?_
  rotate_left 1
  · (go_simp <;> (try go_bits) <;> with_reducible rfl)
  simp only [Act.put, List.setIfInBounds_toArray, List.set_cons_zero, List.set_cons_succ]
  refine wpAnyP_load (v := ?_) 3 (by kernel_rfl) (at_toArray rfl) (by kernel_rfl) (by kernel_rfl) (by kernel_rfl) (fun _ _ _ h => h) (by first | assumption | rfl) (Or.inl ⟨by rfl, fun W hS => ?_⟩) ?_
  rotate_left 1
  · (obtain ⟨_, _, _⟩ := hS; go_simp <;> (try go_bits) <;> with_reducible rfl)
  simp only [Act.put, List.setIfInBounds_toArray, List.set_cons_zero, List.set_cons_succ]
  refine wpAnyP_pure (v := ?_) 4 (at_toArray rfl) (by kernel_rfl) (by kernel_rfl) (by kernel_rfl) (fun _ _ _ h => h) (Or.inl ⟨by rfl, fun W => ?_⟩) ?_
  rotate_left 1
  · (go_simp <;> (try go_bits) <;> with_reducible rfl)
  simp only [Act.put, List.setIfInBounds_toArray, List.set_cons_zero, List.set_cons_succ]
  refine wpAnyP_load (v := ?_) 5 (by kernel_rfl) (at_toArray rfl) (by kernel_rfl) (by kernel_rfl) (by kernel_rfl) (fun _ _ _ h => h) (by first | assumption | rfl) (Or.inl ⟨by rfl, fun W hS => ?_⟩) ?_
  rotate_left 1
  · (obtain ⟨_, _, _⟩ := hS; go_simp <;> (try go_bits) <;> with_reducible rfl)
  simp only [Act.put, List.setIfInBounds_toArray, List.set_cons_zero, List.set_cons_succ]
  refine wpAnyP_pure (v := ?_) 7 (at_toArray rfl) (by kernel_rfl) (by kernel_rfl) (by kernel_rfl) (fun _ _ _ h => h) (Or.inl ⟨by rfl, fun W => ?_⟩) ?_
  rotate_left 1
  · (go_simp <;> (try go_bits) <;> with_reducible rfl)
  simp only [Act.put, List.setIfInBounds_toArray, List.set_cons_zero, List.set_cons_succ]
  refine wpAnyP_pure (v := ?_) 8 (at_toArray rfl) (by kernel_rfl) (by kernel_rfl) (by kernel_rfl) (fun _ _ _ h => h) (Or.inl ⟨by rfl, fun W => ?_⟩) ?_
  rotate_left 1
  · (go_simp <;> (try go_bits) <;> with_reducible rfl)
  simp only [Act.put, List.setIfInBounds_toArray, List.set_cons_zero, List.set_cons_succ]
  refine wpAnyP_pure (v := ?_) 9 (at_toArray rfl) (by kernel_rfl) (by kernel_rfl) (by kernel_rfl) (fun _ _ _ h => h) (Or.inl ⟨by rfl, fun W => ?_⟩) ?_
  rotate_left 1
  · (go_simp <;> (try go_bits) <;> with_reducible rfl)
  simp only [Act.put, List.setIfInBounds_toArray, List.set_cons_zero, List.set_cons_succ]
  refine wpAnyP_load (v := ?_) 10 (by kernel_rfl) (at_toArray rfl) (by kernel_rfl) (by kernel_rfl) (by kernel_rfl) (fun _ _ _ h => h) (by first | assumption | rfl) (Or.inl ⟨by rfl, fun W hS => ?_⟩) ?_
  rotate_left 1
  · (obtain ⟨_, _, _⟩ := hS; go_simp <;> (try go_bits) <;> with_reducible rfl)
  simp only [Act.put, List.setIfInBounds_toArray, List.set_cons_zero, List.set_cons_succ]
  refine wpAnyP_pure (v := ?_) 11 (at_toArray rfl) (by kernel_rfl) (by kernel_rfl) (by kernel_rfl) (fun _ _ _ h => h) (Or.inl ⟨by rfl, fun W => ?_⟩) ?_
  rotate_left 1
  · (go_simp <;> (try go_bits) <;> with_reducible rfl)
  simp only [Act.put, List.setIfInBounds_toArray, List.set_cons_zero, List.set_cons_succ]
  refine wpAnyP_load (v := ?_) 12 (by kernel_rfl) (at_toArray rfl) (by kernel_rfl) (by kernel_rfl) (by kernel_rfl) (fun _ _ _ h => h) (by first | assumption | rfl) (Or.inl ⟨by rfl, fun W hS => ?_⟩) ?_
  rotate_left 1
  · (obtain ⟨_, _, _⟩ := hS; go_simp <;> (try go_bits) <;> with_reducible rfl)
  simp only [Act.put, List.setIfInBounds_toArray, List.set_cons_zero, List.set_cons_succ]
  refine wpAnyP_one 6 (at_toArray rfl) (by kernel_rfl) rfl (fun K hK => ?_)
  go_wp2_with fail
  refine (clear_any tb n T F _ HPd.out.pair.tape).mono ?_
  rintro e w1 ⟨rfl, F1, ht, hu⟩
  obtain ⟨hp1, hb1⟩ := HPd.out.updT ht hu
  have HP1 := Lib.hid hp1
  have HB1 := Lib.hid (HBLd.out.trans hb1)
  have HBK1 := Lib.hid (HBKd.out.fr hu.fr HFL.out)
  have HI1 := Lib.hid (HId.out.below hb1)
  have HU1 := Lib.hid hu
  clear ht hu hp1 hb1
  go_wp2_with fail
  refine hK.out _ _ (fun _ _ => ⟨HP1.out.c0, HP1.out.c2, HBK1.out.cell 3⟩) ?_
  clear hK hS
  refine wpAnyP_one 13 (at_toArray rfl) (by kernel_rfl) rfl (fun K hK => ?_)
  go_wp2_with fail
  refine (rclear_any rb n T G _ HP1.out.pair.ref).mono ?_
  rintro e w2 ⟨rfl, G2, ht, hu⟩
  obtain ⟨hp2, hb2⟩ := HP1.out.updR ht hu
  have HP2 := Lib.hid hp2
  have HB2 := Lib.hid (HB1.out.trans hb2)
  have HBK2 := Lib.hid (HBK1.out.fr hu.fr HGL.out)
  have HU2 := Lib.hid hu
  clear ht hu hp2 hb2
  go_wp2_with fail
  refine hK.out _ _ (fun _ _ => ⟨HP2.out.c0, HP2.out.c2, HBK2.out.cell 3⟩) ?_
  clear hK
  obtain ⟨⟨r, T2⟩, hr⟩ : ∃ r, r = T.clear n := ⟨_, rfl⟩
  rw [← hr] at HP2 ⊢
  have HRR := Lib.hid hr
  clear hr
  have hrr : (r == r) = true := by simp
  refine wpAnyP_pure (v := ?_) 14 (at_toArray rfl) (by kernel_rfl) (by kernel_rfl) (by kernel_rfl) (fun _ _ _ h => h) (Or.inl ⟨by rfl, fun W => ?_⟩) ?_
  rotate_left 1
  · (go_simp <;> (try go_bits) <;> with_reducible rfl)
  simp only [Act.put, List.setIfInBounds_toArray, List.set_cons_zero, List.set_cons_succ]
  refine wpAnyP_pure (v := ?_) 15 (at_toArray rfl) (by kernel_rfl) (by kernel_rfl) (by kernel_rfl) (fun _ _ _ h => h) (Or.inl ⟨by rfl, fun W => ?_⟩) ?_
  rotate_left 1
  · (go_simp <;> (try go_bits) <;> with_reducible rfl)
  simp only [Act.put, List.setIfInBounds_toArray, List.set_cons_zero, List.set_cons_succ]
  refine wpAnyP_pure (v := ?_) 16 (at_toArray rfl) (by kernel_rfl) (by kernel_rfl) (by kernel_rfl) (fun _ _ _ h => h) (Or.inl ⟨by rfl, fun W => ?_⟩) ?_
  rotate_left 1
  · (go_simp <;> (try go_bits) <;> with_reducible rfl)
  simp only [Act.put, List.setIfInBounds_toArray, List.set_cons_zero, List.set_cons_succ]
  refine wpAnyP_oneG 17 (at_toArray rfl) (by kernel_rfl) (by rfl) (fun K hK => ?_)
  go_wp2_with fail
  refine (bopen_any B bb tb rb _ F1 G2 _ _ w2 HP2.out.pair HP2.out.blk HP2.out.nf HP2.out.ng HP2.out.bB (by rw [show T2 = (T.clear n).2 by rw [← HRR.out]]; exact tclear_well HWL.out n)).mono ?_
  rintro e w3 ⟨rfl, hb, hf, T3, F3, G3, jo3, hp⟩
  have HB3 := Lib.hid (HB2.out.trans hb)
  have HP3 := Lib.hid hp
  have HBK3 := Lib.hid (HBK2.out.fr hf (fun x => x.elim (fun f => (HU1.out.new lb f).elim HFL.out (fun h => by have := HBKd.out.lt; omega)) (fun x => x.elim (fun g => (HU2.out.new lb g).elim HGL.out (fun h => by have := HBK1.out.lt; omega)) HNB.out)))
  clear hb hp hf
  have HPB3 := Lib.hid HP3.out.pb
  go_wp2_with fail
  refine hK.out _ _ (fun _ _ => ⟨HPB3.out.c0, HPB3.out.c2, HBK3.out.cell 3⟩) ?_
  clear hK
  refine wpAnyP_pure (v := ?_) 18 (at_toArray rfl) (by kernel_rfl) (by kernel_rfl) (by kernel_rfl) (fun _ _ _ h => h) (Or.inl ⟨by rfl, fun W => ?_⟩) ?_
  rotate_left 1
  · (go_simp <;> (try go_bits) <;> with_reducible rfl)
  simp only [Act.put, List.setIfInBounds_toArray, List.set_cons_zero, List.set_cons_succ]
  refine wpAnyP_pure (v := ?_) 19 (at_toArray rfl) (by kernel_rfl) (by kernel_rfl) (by kernel_rfl) (fun _ _ _ h => h) (Or.inl ⟨by rfl, fun W => ?_⟩) ?_
  rotate_left 1
  · (go_simp <;> (try go_bits) <;> with_reducible rfl)
  simp only [Act.put, List.setIfInBounds_toArray, List.set_cons_zero, List.set_cons_succ]
  refine wpAnyP_done (by kernel_rfl) ?_ _
  go_wp2_with fail
  go_ret
  exact ⟨rfl, HB3.out, T3, F3, G3, jo3, HP3.out⟩

set_option maxRecDepth 100000 in
set_option maxHeartbeats 8000000 in
theorem act0s_any (B bb tb rb : Nat) (T : TS) (F G : Nat → Prop) (jb rj : Nat) (J : JS) (n keep : Int) (A A2 : Option Addr) (c c2 : Nat) (ys : List UInt8) (ls : List (List UInt8)) (w : World)
    (h : Bth B w bb tb rb T F G (some (jb, rj, J))) (hi : ActIn B w A A2 ys ls n) :
    Calls Tryz.prog 9 #[.pointer (some ⟨bb, 0, none⟩), .agg #[.int .i64 0, .slice A ys.length c, .slice A2 ls.length c2, .int .i64 n, .int .i64 keep]] w (ActPost B w bb tb rb) := by
  obtain ⟨m, hm⟩ : ∃ m, m = ys.length := ⟨_, rfl⟩
  obtain ⟨m2, hm2⟩ : ∃ m2, m2 = ls.length := ⟨_, rfl⟩
  rw [← hm, ← hm2]
  obtain ⟨wa, hwa⟩ : ∃ wa, wa = w.alloc (.cells #[.int .i64 0, .slice A m c, .slice A2 m2 c2, .int .i64 n, .int .i64 keep] 38) := ⟨_, rfl⟩
  have hba : Below w.heap.size w wa := by rw [hwa]; exact (Below.refl _ _).alloc (Nat.le_refl _) _
  have hbk : Blk wa w.heap.size #[.int .i64 0, .slice A m c, .slice A2 m2 c2, .int .i64 n, .int .i64 keep] 38 := by rw [hwa]; exact Blk.new w _ _
  obtain ⟨lb, hlb⟩ : ∃ lb, lb = w.heap.size := ⟨_, rfl⟩
  have hBl : B ≤ lb := by rw [hlb]; exact h.pair.size
  have hfl : ¬ F lb := fun f => by have := h.pair.flt _ f; omega
  have hgl : ¬ G lb := fun f => by have := h.pair.glt _ f; omega
  have hbl : lb ≠ bb := fun e => by have := h.blk.lt; omega
  rw [← hlb] at hbk
  have HP := Lib.hid (h.pb.below hba)
  have HWL := Lib.hid h.well
  have HBL := Lib.hid (Below.up hba h.pair.size)
  have HI := Lib.hid (hi.below (Below.up hba h.pair.size))
  have HBK := Lib.hid hbk
  have hc0 : wa.cell? ⟨lb, 0, none⟩ = some (.int .i64 0) := hbk.cell 0
  have hc1 : wa.cell? ⟨lb, 1, none⟩ = some (.slice A m c) := hbk.cell 1
  have hc2 : wa.cell? ⟨lb, 2, none⟩ = some (.slice A2 m2 c2) := hbk.cell 2
  have hc3 : wa.cell? ⟨lb, 3, none⟩ = some (.int .i64 n) := hbk.cell 3
  have hc4 : wa.cell? ⟨lb, 4, none⟩ = some (.int .i64 keep) := hbk.cell 4
  have d0 : wa.cell? ⟨bb, 0, none⟩ = some (.pointer (some ⟨tb, 0, none⟩)) := HP.out.c0
  have d1 : wa.cell? ⟨bb, 1, none⟩ = some (.pointer (some ⟨jb, 0, none⟩)) := HP.out.c1
  have d2 : wa.cell? ⟨bb, 2, none⟩ = some (.pointer (some ⟨rb, 0, none⟩)) := HP.out.c2
  have d3 : wa.cell? ⟨bb, 3, none⟩ = some (.pointer (some ⟨rj, 0, none⟩)) := HP.out.c3
  have HFL := Lib.hid hfl
  have HGL := Lib.hid hgl
  have HNB := Lib.hid hbl
  have HWA := Lib.hid hwa
  have HLB := Lib.hid hlb
  have HM := Lib.hid hm
  have HM2 := Lib.hid hm2
  have H := Lib.hid h
  have HWB := Lib.hid (hba.trans (Below.up (Below.refl _ _).drew hba.size))
  clear h hi hm hm2 hba hbk hwa hlb hfl hgl hbl
  have HJ := Lib.hid (H.out.js2.below (show Below w.heap.size w wa by rw [HWA.out]; exact (Below.refl _ _).alloc (Nat.le_refl _) _))
  have HJT := Lib.hid (H.out.js jb rj J rfl).jt
  have HLJ : Hid (lb ≠ jb ∧ lb ≠ rj) := Lib.hid ⟨fun e => by have := (H.out.js jb rj J rfl).blk.lt; have := HLB.out; omega, fun e => by have := (H.out.js jb rj J rfl).ref.lt; have := HLB.out; omega⟩
  have e3 := d3
  rw [HWA.out] at e3
  go_enter Tryz.func9, Tryz.ntmps9
  go_wp2_with fail
  rw [← HWA.out, ← HLB.out]
  clear HWA HLB
  refine wp_region_phased (fun W => W.cell? ⟨bb, 1, none⟩ = some (.pointer (some ⟨jb, 0, none⟩)) ∧ W.cell? ⟨bb, 3, none⟩ = some (.pointer (some ⟨rj, 0, none⟩)) ∧ W.cell? ⟨lb, 1, none⟩ = some (.slice A m c)) 16 (by kernel_rfl) ⟨d1, d3, hc1⟩ (fun hS => ?_)
  clear hc0 hc1 hc2 hc3 hc4 d0 d1 d2 d3
  have HPd := Lib.hid (HP.out.below (Below.refl _ _).drew)
  have HBKd := Lib.hid (HBK.out.drew)
  have HBLd := Lib.hid (HBL.out.trans (Below.up (Below.refl _ _).drew HP.out.pair.size))
  have HId := Lib.hid (HI.out.below (Below.up (Below.refl _ _).drew HP.out.pair.size))
  have HJd := Lib.hid (HJ.out.below (Below.refl _ _).drew)
  refine wpAnyP_pure (v := ?_) 0 (at_toArray rfl) (by kernel_rfl) (by kernel_rfl) (by kernel_rfl) (fun _ _ _ h => h) (Or.inl ⟨by rfl, fun W => ?_⟩) ?_
  rotate_left 1
  · (go_simp <;> (try go_bits) <;> with_reducible rfl)
  simp only [Act.put, List.setIfInBounds_toArray, List.set_cons_zero, List.set_cons_succ]
  refine wpAnyP_pure (v := ?_) 1 (at_toArray rfl) (by kernel_rfl) (by kernel_rfl) (by kernel_rfl) (fun _ _ _ h => h) (Or.inl ⟨by rfl, fun W => ?_⟩) ?_
  rotate_left 1
  · (go_simp <;> (try go_bits) <;> with_reducible rfl)
  simp only [Act.put, List.setIfInBounds_toArray, List.set_cons_zero, List.set_cons_succ]
  refine wpAnyP_pure (v := ?_) 2 (at_toArray rfl) (by kernel_rfl) (by kernel_rfl) (by kernel_rfl) (fun _ _ _ h => h) (Or.inl ⟨by rfl, fun W => ?_⟩) ?_
  rotate_left 1
  · (go_simp <;> (try go_bits) <;> with_reducible rfl)
  simp only [Act.put, List.setIfInBounds_toArray, List.set_cons_zero, List.set_cons_succ]
  refine wpAnyP_load (v := ?_) 3 (by kernel_rfl) (at_toArray rfl) (by kernel_rfl) (by kernel_rfl) (by kernel_rfl) (fun _ _ _ h => h) (by first | assumption | rfl) (Or.inl ⟨by rfl, fun W hS => ?_⟩) ?_
  rotate_left 1
  · (obtain ⟨_, _, _⟩ := hS; go_simp <;> (try go_bits) <;> with_reducible rfl)
  simp only [Act.put, List.setIfInBounds_toArray, List.set_cons_zero, List.set_cons_succ]
  refine wpAnyP_pure (v := ?_) 4 (at_toArray rfl) (by kernel_rfl) (by kernel_rfl) (by kernel_rfl) (fun _ _ _ h => h) (Or.inl ⟨by rfl, fun W => ?_⟩) ?_
  rotate_left 1
  · (go_simp <;> (try go_bits) <;> with_reducible rfl)
  simp only [Act.put, List.setIfInBounds_toArray, List.set_cons_zero, List.set_cons_succ]
  refine wpAnyP_load (v := ?_) 5 (by kernel_rfl) (at_toArray rfl) (by kernel_rfl) (by kernel_rfl) (by kernel_rfl) (fun _ _ _ h => h) (by first | assumption | rfl) (Or.inl ⟨by rfl, fun W hS => ?_⟩) ?_
  rotate_left 1
  · (obtain ⟨_, _, _⟩ := hS; go_simp <;> (try go_bits) <;> with_reducible rfl)
  simp only [Act.put, List.setIfInBounds_toArray, List.set_cons_zero, List.set_cons_succ]
  refine wpAnyP_pure (v := ?_) 7 (at_toArray rfl) (by kernel_rfl) (by kernel_rfl) (by kernel_rfl) (fun _ _ _ h => h) (Or.inl ⟨by rfl, fun W => ?_⟩) ?_
  rotate_left 1
  · (go_simp <;> (try go_bits) <;> with_reducible rfl)
  simp only [Act.put, List.setIfInBounds_toArray, List.set_cons_zero, List.set_cons_succ]
  refine wpAnyP_pure (v := ?_) 8 (at_toArray rfl) (by kernel_rfl) (by kernel_rfl) (by kernel_rfl) (fun _ _ _ h => h) (Or.inl ⟨by rfl, fun W => ?_⟩) ?_
  rotate_left 1
  · (go_simp <;> (try go_bits) <;> with_reducible rfl)
  simp only [Act.put, List.setIfInBounds_toArray, List.set_cons_zero, List.set_cons_succ]
  refine wpAnyP_pure (v := ?_) 9 (at_toArray rfl) (by kernel_rfl) (by kernel_rfl) (by kernel_rfl) (fun _ _ _ h => h) (Or.inl ⟨by rfl, fun W => ?_⟩) ?_
  rotate_left 1
  · (go_simp <;> (try go_bits) <;> with_reducible rfl)
  simp only [Act.put, List.setIfInBounds_toArray, List.set_cons_zero, List.set_cons_succ]
  refine wpAnyP_load (v := ?_) 10 (by kernel_rfl) (at_toArray rfl) (by kernel_rfl) (by kernel_rfl) (by kernel_rfl) (fun _ _ _ h => h) (by first | assumption | rfl) (Or.inl ⟨by rfl, fun W hS => ?_⟩) ?_
  rotate_left 1
  · (obtain ⟨_, _, _⟩ := hS; go_simp <;> (try go_bits) <;> with_reducible rfl)
  simp only [Act.put, List.setIfInBounds_toArray, List.set_cons_zero, List.set_cons_succ]
  refine wpAnyP_pure (v := ?_) 11 (at_toArray rfl) (by kernel_rfl) (by kernel_rfl) (by kernel_rfl) (fun _ _ _ h => h) (Or.inl ⟨by rfl, fun W => ?_⟩) ?_
  rotate_left 1
  · (go_simp <;> (try go_bits) <;> with_reducible rfl)
  simp only [Act.put, List.setIfInBounds_toArray, List.set_cons_zero, List.set_cons_succ]
  refine wpAnyP_load (v := ?_) 12 (by kernel_rfl) (at_toArray rfl) (by kernel_rfl) (by kernel_rfl) (by kernel_rfl) (fun _ _ _ h => h) (by first | assumption | rfl) (Or.inl ⟨by rfl, fun W hS => ?_⟩) ?_
  rotate_left 1
  · (obtain ⟨_, _, _⟩ := hS; go_simp <;> (try go_bits) <;> with_reducible rfl)
  simp only [Act.put, List.setIfInBounds_toArray, List.set_cons_zero, List.set_cons_succ]
  refine wpAnyP_one 6 (at_toArray rfl) (by kernel_rfl) rfl (fun K hK => ?_)
  go_wp2_with fail
  rw [HM.out]
  refine (jappend_any A c ys (HJd.out.jrr HPd.out) HId.out.x).mono ?_
  rw [← HM.out]
  rintro e w1 ⟨rfl, F1, hj, hu⟩
  obtain ⟨hp1, hj1, hb1⟩ := HJd.out.updJ HPd.out hj hu
  have HP1 := Lib.hid hp1
  have HJ1 := Lib.hid hj1
  have HB1 := Lib.hid (HBLd.out.trans hb1)
  have HBK1 := Lib.hid (HBKd.out.fr hu.fr (fun x => x.elim HFL.out HLJ.out.1))
  have HI1 := Lib.hid (HId.out.below hb1)
  clear hj hu hp1 hj1 hb1
  go_wp2_with fail
  refine hK.out _ _ (fun _ _ => ⟨HP1.out.c1, HP1.out.c3, HBK1.out.cell 1⟩) ?_
  clear hK hS
  refine wpAnyP_one 13 (at_toArray rfl) (by kernel_rfl) rfl (fun K hK => ?_)
  go_wp2_with fail
  rw [HM.out]
  refine (rjappend_any A c ys (HJ1.out.rjr HP1.out) HI1.out.x).mono ?_
  rw [← HM.out]
  rintro e w2 ⟨rfl, G2, hj, hu⟩
  obtain ⟨hp2, hj2, hb2⟩ := HJ1.out.updRJ HP1.out hj hu
  have HP2 := Lib.hid hp2
  have HJ2 := Lib.hid hj2
  have HB2 := Lib.hid (HB1.out.trans hb2)
  have HBK2 := Lib.hid (HBK1.out.fr hu.fr (fun x => x.elim HGL.out HLJ.out.2))
  clear hj hu hp2 hj2 hb2
  go_wp2_with fail
  refine hK.out _ _ (fun _ _ => ⟨HP2.out.c1, HP2.out.c3, HBK2.out.cell 1⟩) ?_
  clear hK
  obtain ⟨⟨r, T2, J2⟩, hr⟩ : ∃ r, r = J.append T ys := ⟨_, rfl⟩
  rw [← hr] at HP2 HJ2 ⊢
  have HRR := Lib.hid hr
  clear hr
  have hrr : (r == r) = true := by simp
  refine wpAnyP_pure (v := ?_) 14 (at_toArray rfl) (by kernel_rfl) (by kernel_rfl) (by kernel_rfl) (fun _ _ _ h => h) (Or.inl ⟨by rfl, fun W => ?_⟩) ?_
  rotate_left 1
  · (go_simp <;> (try go_bits) <;> with_reducible rfl)
  simp only [Act.put, List.setIfInBounds_toArray, List.set_cons_zero, List.set_cons_succ]
  refine wpAnyP_pure (v := ?_) 15 (at_toArray rfl) (by kernel_rfl) (by kernel_rfl) (by kernel_rfl) (fun _ _ _ h => h) (Or.inl ⟨by rfl, fun W => ?_⟩) ?_
  rotate_left 1
  · (go_simp <;> (try go_bits) <;> with_reducible rfl)
  simp only [Act.put, List.setIfInBounds_toArray, List.set_cons_zero, List.set_cons_succ]
  refine wpAnyP_done (by kernel_rfl) ?_ _
  go_wp2_with fail
  go_ret
  exact ⟨rfl, HB2.out, T2, F1, G2, some (jb, rj, J2), HP2.out.bth HJ2.out (by rw [show T2 = (J.append T ys).2.1 by rw [← HRR.out]]; exact jappend_well HWL.out ys) (by rw [show T2 = (J.append T ys).2.1 by rw [← HRR.out], show J2 = (J.append T ys).2.2 by rw [← HRR.out]]; exact HJT.out.append HWL.out ys)⟩

set_option maxRecDepth 100000 in
set_option maxHeartbeats 8000000 in
theorem act1s_any (B bb tb rb : Nat) (T : TS) (F G : Nat → Prop) (jb rj : Nat) (J : JS) (n keep : Int) (A A2 : Option Addr) (c c2 : Nat) (ys : List UInt8) (ls : List (List UInt8)) (w : World)
    (h : Bth B w bb tb rb T F G (some (jb, rj, J))) (hi : ActIn B w A A2 ys ls n) :
    Calls Tryz.prog 9 #[.pointer (some ⟨bb, 0, none⟩), .agg #[.int .i64 1, .slice A ys.length c, .slice A2 ls.length c2, .int .i64 n, .int .i64 keep]] w (ActPost B w bb tb rb) := by
  obtain ⟨m, hm⟩ : ∃ m, m = ys.length := ⟨_, rfl⟩
  obtain ⟨m2, hm2⟩ : ∃ m2, m2 = ls.length := ⟨_, rfl⟩
  rw [← hm, ← hm2]
  obtain ⟨wa, hwa⟩ : ∃ wa, wa = w.alloc (.cells #[.int .i64 1, .slice A m c, .slice A2 m2 c2, .int .i64 n, .int .i64 keep] 38) := ⟨_, rfl⟩
  have hba : Below w.heap.size w wa := by rw [hwa]; exact (Below.refl _ _).alloc (Nat.le_refl _) _
  have hbk : Blk wa w.heap.size #[.int .i64 1, .slice A m c, .slice A2 m2 c2, .int .i64 n, .int .i64 keep] 38 := by rw [hwa]; exact Blk.new w _ _
  obtain ⟨lb, hlb⟩ : ∃ lb, lb = w.heap.size := ⟨_, rfl⟩
  have hBl : B ≤ lb := by rw [hlb]; exact h.pair.size
  have hfl : ¬ F lb := fun f => by have := h.pair.flt _ f; omega
  have hgl : ¬ G lb := fun f => by have := h.pair.glt _ f; omega
  have hbl : lb ≠ bb := fun e => by have := h.blk.lt; omega
  rw [← hlb] at hbk
  have HP := Lib.hid (h.pb.below hba)
  have HWL := Lib.hid h.well
  have HBL := Lib.hid (Below.up hba h.pair.size)
  have HI := Lib.hid (hi.below (Below.up hba h.pair.size))
  have HBK := Lib.hid hbk
  have hc0 : wa.cell? ⟨lb, 0, none⟩ = some (.int .i64 1) := hbk.cell 0
  have hc1 : wa.cell? ⟨lb, 1, none⟩ = some (.slice A m c) := hbk.cell 1
  have hc2 : wa.cell? ⟨lb, 2, none⟩ = some (.slice A2 m2 c2) := hbk.cell 2
  have hc3 : wa.cell? ⟨lb, 3, none⟩ = some (.int .i64 n) := hbk.cell 3
  have hc4 : wa.cell? ⟨lb, 4, none⟩ = some (.int .i64 keep) := hbk.cell 4
  have d0 : wa.cell? ⟨bb, 0, none⟩ = some (.pointer (some ⟨tb, 0, none⟩)) := HP.out.c0
  have d1 : wa.cell? ⟨bb, 1, none⟩ = some (.pointer (some ⟨jb, 0, none⟩)) := HP.out.c1
  have d2 : wa.cell? ⟨bb, 2, none⟩ = some (.pointer (some ⟨rb, 0, none⟩)) := HP.out.c2
  have d3 : wa.cell? ⟨bb, 3, none⟩ = some (.pointer (some ⟨rj, 0, none⟩)) := HP.out.c3
  have HFL := Lib.hid hfl
  have HGL := Lib.hid hgl
  have HNB := Lib.hid hbl
  have HWA := Lib.hid hwa
  have HLB := Lib.hid hlb
  have HM := Lib.hid hm
  have HM2 := Lib.hid hm2
  have H := Lib.hid h
  have HWB := Lib.hid (hba.trans (Below.up (Below.refl _ _).drew hba.size))
  clear h hi hm hm2 hba hbk hwa hlb hfl hgl hbl
  have HJ := Lib.hid (H.out.js2.below (show Below w.heap.size w wa by rw [HWA.out]; exact (Below.refl _ _).alloc (Nat.le_refl _) _))
  have HJT := Lib.hid (H.out.js jb rj J rfl).jt
  have HLJ : Hid (lb ≠ jb ∧ lb ≠ rj) := Lib.hid ⟨fun e => by have := (H.out.js jb rj J rfl).blk.lt; have := HLB.out; omega, fun e => by have := (H.out.js jb rj J rfl).ref.lt; have := HLB.out; omega⟩
  have e3 := d3
  rw [HWA.out] at e3
  go_enter Tryz.func9, Tryz.ntmps9
  go_wp2_with fail
  rw [← HWA.out, ← HLB.out]
  clear HWA HLB
  refine wp_region_phased (fun W => W.cell? ⟨bb, 1, none⟩ = some (.pointer (some ⟨jb, 0, none⟩)) ∧ W.cell? ⟨bb, 3, none⟩ = some (.pointer (some ⟨rj, 0, none⟩))) 12 (by kernel_rfl) ⟨d1, d3⟩ (fun hS => ?_)
  clear hc0 hc1 hc2 hc3 hc4 d0 d1 d2 d3
  have HPd := Lib.hid (HP.out.below (Below.refl _ _).drew)
  have HBKd := Lib.hid (HBK.out.drew)
  have HBLd := Lib.hid (HBL.out.trans (Below.up (Below.refl _ _).drew HP.out.pair.size))
  have HId := Lib.hid (HI.out.below (Below.up (Below.refl _ _).drew HP.out.pair.size))
  have HJd := Lib.hid (HJ.out.below (Below.refl _ _).drew)
  refine wpAnyP_pure (v := ?_) 0 (at_toArray rfl) (by kernel_rfl) (by kernel_rfl) (by kernel_rfl) (fun _ _ _ h => h) (Or.inl ⟨by rfl, fun W => ?_⟩) ?_
  rotate_left 1
  · (go_simp <;> (try go_bits) <;> with_reducible rfl)
  simp only [Act.put, List.setIfInBounds_toArray, List.set_cons_zero, List.set_cons_succ]
  refine wpAnyP_pure (v := ?_) 1 (at_toArray rfl) (by kernel_rfl) (by kernel_rfl) (by kernel_rfl) (fun _ _ _ h => h) (Or.inl ⟨by rfl, fun W => ?_⟩) ?_
  rotate_left 1
  · (go_simp <;> (try go_bits) <;> with_reducible rfl)
  simp only [Act.put, List.setIfInBounds_toArray, List.set_cons_zero, List.set_cons_succ]
  refine wpAnyP_pure (v := ?_) 2 (at_toArray rfl) (by kernel_rfl) (by kernel_rfl) (by kernel_rfl) (fun _ _ _ h => h) (Or.inl ⟨by rfl, fun W => ?_⟩) ?_
  rotate_left 1
  · (go_simp <;> (try go_bits) <;> with_reducible rfl)
  simp only [Act.put, List.setIfInBounds_toArray, List.set_cons_zero, List.set_cons_succ]
  refine wpAnyP_load (v := ?_) 3 (by kernel_rfl) (at_toArray rfl) (by kernel_rfl) (by kernel_rfl) (by kernel_rfl) (fun _ _ _ h => h) (by first | assumption | rfl) (Or.inl ⟨by rfl, fun W hS => ?_⟩) ?_
  rotate_left 1
  · (obtain ⟨_, _⟩ := hS; go_simp <;> (try go_bits) <;> with_reducible rfl)
  simp only [Act.put, List.setIfInBounds_toArray, List.set_cons_zero, List.set_cons_succ]
  refine wpAnyP_pure (v := ?_) 5 (at_toArray rfl) (by kernel_rfl) (by kernel_rfl) (by kernel_rfl) (fun _ _ _ h => h) (Or.inl ⟨by rfl, fun W => ?_⟩) ?_
  rotate_left 1
  · (go_simp <;> (try go_bits) <;> with_reducible rfl)
  simp only [Act.put, List.setIfInBounds_toArray, List.set_cons_zero, List.set_cons_succ]
  refine wpAnyP_pure (v := ?_) 6 (at_toArray rfl) (by kernel_rfl) (by kernel_rfl) (by kernel_rfl) (fun _ _ _ h => h) (Or.inl ⟨by rfl, fun W => ?_⟩) ?_
  rotate_left 1
  · (go_simp <;> (try go_bits) <;> with_reducible rfl)
  simp only [Act.put, List.setIfInBounds_toArray, List.set_cons_zero, List.set_cons_succ]
  refine wpAnyP_pure (v := ?_) 7 (at_toArray rfl) (by kernel_rfl) (by kernel_rfl) (by kernel_rfl) (fun _ _ _ h => h) (Or.inl ⟨by rfl, fun W => ?_⟩) ?_
  rotate_left 1
  · (go_simp <;> (try go_bits) <;> with_reducible rfl)
  simp only [Act.put, List.setIfInBounds_toArray, List.set_cons_zero, List.set_cons_succ]
  refine wpAnyP_load (v := ?_) 8 (by kernel_rfl) (at_toArray rfl) (by kernel_rfl) (by kernel_rfl) (by kernel_rfl) (fun _ _ _ h => h) (by first | assumption | rfl) (Or.inl ⟨by rfl, fun W hS => ?_⟩) ?_
  rotate_left 1
  · (obtain ⟨_, _⟩ := hS; go_simp <;> (try go_bits) <;> with_reducible rfl)
  simp only [Act.put, List.setIfInBounds_toArray, List.set_cons_zero, List.set_cons_succ]
  refine wpAnyP_one 4 (at_toArray rfl) (by kernel_rfl) rfl (fun K hK => ?_)
  go_wp2_with fail
  refine (jsync_any (HJd.out.jrr HPd.out)).mono ?_
  rintro e w1 ⟨rfl, F1, hj, hu⟩
  obtain ⟨hp1, hj1, hb1⟩ := HJd.out.updJ HPd.out hj hu
  have HP1 := Lib.hid hp1
  have HJ1 := Lib.hid hj1
  have HB1 := Lib.hid (HBLd.out.trans hb1)
  have HBK1 := Lib.hid (HBKd.out.fr hu.fr (fun x => x.elim HFL.out HLJ.out.1))
  have HI1 := Lib.hid (HId.out.below hb1)
  clear hj hu hp1 hj1 hb1
  go_wp2_with fail
  refine hK.out _ _ (fun _ _ => ⟨HP1.out.c1, HP1.out.c3⟩) ?_
  clear hK hS
  refine wpAnyP_one 9 (at_toArray rfl) (by kernel_rfl) rfl (fun K hK => ?_)
  go_wp2_with fail
  refine (rjsync_any (HJ1.out.rjr HP1.out)).mono ?_
  rintro e w2 ⟨rfl, G2, hj, hu⟩
  obtain ⟨hp2, hj2, hb2⟩ := HJ1.out.updRJ HP1.out hj hu
  have HP2 := Lib.hid hp2
  have HJ2 := Lib.hid hj2
  have HB2 := Lib.hid (HB1.out.trans hb2)
  have HBK2 := Lib.hid (HBK1.out.fr hu.fr (fun x => x.elim HGL.out HLJ.out.2))
  clear hj hu hp2 hj2 hb2
  go_wp2_with fail
  refine hK.out _ _ (fun _ _ => ⟨HP2.out.c1, HP2.out.c3⟩) ?_
  clear hK
  obtain ⟨⟨r, T2, J2⟩, hr⟩ : ∃ r, r = J.sync T := ⟨_, rfl⟩
  rw [← hr] at HP2 HJ2 ⊢
  have HRR := Lib.hid hr
  clear hr
  have hrr : (r == r) = true := by simp
  refine wpAnyP_pure (v := ?_) 10 (at_toArray rfl) (by kernel_rfl) (by kernel_rfl) (by kernel_rfl) (fun _ _ _ h => h) (Or.inl ⟨by rfl, fun W => ?_⟩) ?_
  rotate_left 1
  · (go_simp <;> (try go_bits) <;> with_reducible rfl)
  simp only [Act.put, List.setIfInBounds_toArray, List.set_cons_zero, List.set_cons_succ]
  refine wpAnyP_pure (v := ?_) 11 (at_toArray rfl) (by kernel_rfl) (by kernel_rfl) (by kernel_rfl) (fun _ _ _ h => h) (Or.inl ⟨by rfl, fun W => ?_⟩) ?_
  rotate_left 1
  · (go_simp <;> (try go_bits) <;> with_reducible rfl)
  simp only [Act.put, List.setIfInBounds_toArray, List.set_cons_zero, List.set_cons_succ]
  refine wpAnyP_done (by kernel_rfl) ?_ _
  go_wp2_with fail
  go_ret
  exact ⟨rfl, HB2.out, T2, F1, G2, some (jb, rj, J2), HP2.out.bth HJ2.out (by rw [show T2 = (J.sync T).2.1 by rw [← HRR.out]]; exact jsync_well HWL.out) (by rw [show T2 = (J.sync T).2.1 by rw [← HRR.out], show J2 = (J.sync T).2.2 by rw [← HRR.out]]; exact HJT.out.sync)⟩

set_option maxRecDepth 100000 in
set_option maxHeartbeats 8000000 in
theorem act2s_any (B bb tb rb : Nat) (T : TS) (F G : Nat → Prop) (jb rj : Nat) (J : JS) (n keep : Int) (A A2 : Option Addr) (c c2 : Nat) (ys : List UInt8) (ls : List (List UInt8)) (w : World)
    (h : Bth B w bb tb rb T F G (some (jb, rj, J))) (hi : ActIn B w A A2 ys ls n) :
    Calls Tryz.prog 9 #[.pointer (some ⟨bb, 0, none⟩), .agg #[.int .i64 2, .slice A ys.length c, .slice A2 ls.length c2, .int .i64 n, .int .i64 keep]] w (ActPost B w bb tb rb) := by
  obtain ⟨m, hm⟩ : ∃ m, m = ys.length := ⟨_, rfl⟩
  obtain ⟨m2, hm2⟩ : ∃ m2, m2 = ls.length := ⟨_, rfl⟩
  rw [← hm, ← hm2]
  obtain ⟨wa, hwa⟩ : ∃ wa, wa = w.alloc (.cells #[.int .i64 2, .slice A m c, .slice A2 m2 c2, .int .i64 n, .int .i64 keep] 38) := ⟨_, rfl⟩
  have hba : Below w.heap.size w wa := by rw [hwa]; exact (Below.refl _ _).alloc (Nat.le_refl _) _
  have hbk : Blk wa w.heap.size #[.int .i64 2, .slice A m c, .slice A2 m2 c2, .int .i64 n, .int .i64 keep] 38 := by rw [hwa]; exact Blk.new w _ _
  obtain ⟨lb, hlb⟩ : ∃ lb, lb = w.heap.size := ⟨_, rfl⟩
  have hBl : B ≤ lb := by rw [hlb]; exact h.pair.size
  have hfl : ¬ F lb := fun f => by have := h.pair.flt _ f; omega
  have hgl : ¬ G lb := fun f => by have := h.pair.glt _ f; omega
  have hbl : lb ≠ bb := fun e => by have := h.blk.lt; omega
  rw [← hlb] at hbk
  have HP := Lib.hid (h.pb.below hba)
  have HWL := Lib.hid h.well
  have HBL := Lib.hid (Below.up hba h.pair.size)
  have HI := Lib.hid (hi.below (Below.up hba h.pair.size))
  have HBK := Lib.hid hbk
  have hc0 : wa.cell? ⟨lb, 0, none⟩ = some (.int .i64 2) := hbk.cell 0
  have hc1 : wa.cell? ⟨lb, 1, none⟩ = some (.slice A m c) := hbk.cell 1
  have hc2 : wa.cell? ⟨lb, 2, none⟩ = some (.slice A2 m2 c2) := hbk.cell 2
  have hc3 : wa.cell? ⟨lb, 3, none⟩ = some (.int .i64 n) := hbk.cell 3
  have hc4 : wa.cell? ⟨lb, 4, none⟩ = some (.int .i64 keep) := hbk.cell 4
  have d0 : wa.cell? ⟨bb, 0, none⟩ = some (.pointer (some ⟨tb, 0, none⟩)) := HP.out.c0
  have d1 : wa.cell? ⟨bb, 1, none⟩ = some (.pointer (some ⟨jb, 0, none⟩)) := HP.out.c1
  have d2 : wa.cell? ⟨bb, 2, none⟩ = some (.pointer (some ⟨rb, 0, none⟩)) := HP.out.c2
  have d3 : wa.cell? ⟨bb, 3, none⟩ = some (.pointer (some ⟨rj, 0, none⟩)) := HP.out.c3
  have HFL := Lib.hid hfl
  have HGL := Lib.hid hgl
  have HNB := Lib.hid hbl
  have HWA := Lib.hid hwa
  have HLB := Lib.hid hlb
  have HM := Lib.hid hm
  have HM2 := Lib.hid hm2
  have H := Lib.hid h
  have HWB := Lib.hid (hba.trans (Below.up (Below.refl _ _).drew hba.size))
  clear h hi hm hm2 hba hbk hwa hlb hfl hgl hbl
  have HJ := Lib.hid (H.out.js2.below (show Below w.heap.size w wa by rw [HWA.out]; exact (Below.refl _ _).alloc (Nat.le_refl _) _))
  have HJT := Lib.hid (H.out.js jb rj J rfl).jt
  have HLJ : Hid (lb ≠ jb ∧ lb ≠ rj) := Lib.hid ⟨fun e => by have := (H.out.js jb rj J rfl).blk.lt; have := HLB.out; omega, fun e => by have := (H.out.js jb rj J rfl).ref.lt; have := HLB.out; omega⟩
  have e3 := d3
  rw [HWA.out] at e3
  go_enter Tryz.func9, Tryz.ntmps9
  go_wp2_with fail
  rw [← HWA.out, ← HLB.out]
  clear HWA HLB
  refine wp_region_phased (fun W => W.cell? ⟨bb, 1, none⟩ = some (.pointer (some ⟨jb, 0, none⟩)) ∧ W.cell? ⟨bb, 3, none⟩ = some (.pointer (some ⟨rj, 0, none⟩)) ∧ W.cell? ⟨lb, 2, none⟩ = some (.slice A2 m2 c2)) 16 (by kernel_rfl) ⟨d1, d3, hc2⟩ (fun hS => ?_)
  clear hc0 hc1 hc2 hc3 hc4 d0 d1 d2 d3
  have HPd := Lib.hid (HP.out.below (Below.refl _ _).drew)
  have HBKd := Lib.hid (HBK.out.drew)
  have HBLd := Lib.hid (HBL.out.trans (Below.up (Below.refl _ _).drew HP.out.pair.size))
  have HId := Lib.hid (HI.out.below (Below.up (Below.refl _ _).drew HP.out.pair.size))
  have HJd := Lib.hid (HJ.out.below (Below.refl _ _).drew)
  refine wpAnyP_pure (v := ?_) 0 (at_toArray rfl) (by kernel_rfl) (by kernel_rfl) (by kernel_rfl) (fun _ _ _ h => h) (Or.inl ⟨by rfl, fun W => ?_⟩) ?_
  rotate_left 1
  · (go_simp <;> (try go_bits) <;> with_reducible rfl)
  simp only [Act.put, List.setIfInBounds_toArray, List.set_cons_zero, List.set_cons_succ]
  refine wpAnyP_pure (v := ?_) 1 (at_toArray rfl) (by kernel_rfl) (by kernel_rfl) (by kernel_rfl) (fun _ _ _ h => h) (Or.inl ⟨by rfl, fun W => ?_⟩) ?_
  rotate_left 1
  · (go_simp <;> (try go_bits) <;> with_reducible rfl)
  simp only [Act.put, List.setIfInBounds_toArray, List.set_cons_zero, List.set_cons_succ]
  refine wpAnyP_pure (v := ?_) 2 (at_toArray rfl) (by kernel_rfl) (by kernel_rfl) (by kernel_rfl) (fun _ _ _ h => h) (Or.inl ⟨by rfl, fun W => ?_⟩) ?_
  rotate_left 1
  · (go_simp <;> (try go_bits) <;> with_reducible rfl)
  simp only [Act.put, List.setIfInBounds_toArray, List.set_cons_zero, List.set_cons_succ]
  refine wpAnyP_load (v := ?_) 3 (by kernel_rfl) (at_toArray rfl) (by kernel_rfl) (by kernel_rfl) (by kernel_rfl) (fun _ _ _ h => h) (by first | assumption | rfl) (Or.inl ⟨by rfl, fun W hS => ?_⟩) ?_
  rotate_left 1
  · (obtain ⟨_, _, _⟩ := hS; go_simp <;> (try go_bits) <;> with_reducible rfl)
  simp only [Act.put, List.setIfInBounds_toArray, List.set_cons_zero, List.set_cons_succ]
  refine wpAnyP_pure (v := ?_) 4 (at_toArray rfl) (by kernel_rfl) (by kernel_rfl) (by kernel_rfl) (fun _ _ _ h => h) (Or.inl ⟨by rfl, fun W => ?_⟩) ?_
  rotate_left 1
  · (go_simp <;> (try go_bits) <;> with_reducible rfl)
  simp only [Act.put, List.setIfInBounds_toArray, List.set_cons_zero, List.set_cons_succ]
  refine wpAnyP_load (v := ?_) 5 (by kernel_rfl) (at_toArray rfl) (by kernel_rfl) (by kernel_rfl) (by kernel_rfl) (fun _ _ _ h => h) (by first | assumption | rfl) (Or.inl ⟨by rfl, fun W hS => ?_⟩) ?_
  rotate_left 1
  · (obtain ⟨_, _, _⟩ := hS; go_simp <;> (try go_bits) <;> with_reducible rfl)
  simp only [Act.put, List.setIfInBounds_toArray, List.set_cons_zero, List.set_cons_succ]
  refine wpAnyP_pure (v := ?_) 7 (at_toArray rfl) (by kernel_rfl) (by kernel_rfl) (by kernel_rfl) (fun _ _ _ h => h) (Or.inl ⟨by rfl, fun W => ?_⟩) ?_
  rotate_left 1
  · (go_simp <;> (try go_bits) <;> with_reducible rfl)
  simp only [Act.put, List.setIfInBounds_toArray, List.set_cons_zero, List.set_cons_succ]
  refine wpAnyP_pure (v := ?_) 8 (at_toArray rfl) (by kernel_rfl) (by kernel_rfl) (by kernel_rfl) (fun _ _ _ h => h) (Or.inl ⟨by rfl, fun W => ?_⟩) ?_
  rotate_left 1
  · (go_simp <;> (try go_bits) <;> with_reducible rfl)
  simp only [Act.put, List.setIfInBounds_toArray, List.set_cons_zero, List.set_cons_succ]
  refine wpAnyP_pure (v := ?_) 9 (at_toArray rfl) (by kernel_rfl) (by kernel_rfl) (by kernel_rfl) (fun _ _ _ h => h) (Or.inl ⟨by rfl, fun W => ?_⟩) ?_
  rotate_left 1
  · (go_simp <;> (try go_bits) <;> with_reducible rfl)
  simp only [Act.put, List.setIfInBounds_toArray, List.set_cons_zero, List.set_cons_succ]
  refine wpAnyP_load (v := ?_) 10 (by kernel_rfl) (at_toArray rfl) (by kernel_rfl) (by kernel_rfl) (by kernel_rfl) (fun _ _ _ h => h) (by first | assumption | rfl) (Or.inl ⟨by rfl, fun W hS => ?_⟩) ?_
  rotate_left 1
  · (obtain ⟨_, _, _⟩ := hS; go_simp <;> (try go_bits) <;> with_reducible rfl)
  simp only [Act.put, List.setIfInBounds_toArray, List.set_cons_zero, List.set_cons_succ]
  refine wpAnyP_pure (v := ?_) 11 (at_toArray rfl) (by kernel_rfl) (by kernel_rfl) (by kernel_rfl) (fun _ _ _ h => h) (Or.inl ⟨by rfl, fun W => ?_⟩) ?_
  rotate_left 1
  · (go_simp <;> (try go_bits) <;> with_reducible rfl)
  simp only [Act.put, List.setIfInBounds_toArray, List.set_cons_zero, List.set_cons_succ]
  refine wpAnyP_load (v := ?_) 12 (by kernel_rfl) (at_toArray rfl) (by kernel_rfl) (by kernel_rfl) (by kernel_rfl) (fun _ _ _ h => h) (by first | assumption | rfl) (Or.inl ⟨by rfl, fun W hS => ?_⟩) ?_
  rotate_left 1
  · (obtain ⟨_, _, _⟩ := hS; go_simp <;> (try go_bits) <;> with_reducible rfl)
  simp only [Act.put, List.setIfInBounds_toArray, List.set_cons_zero, List.set_cons_succ]
  refine wpAnyP_one 6 (at_toArray rfl) (by kernel_rfl) rfl (fun K hK => ?_)
  go_wp2_with fail
  rw [HM2.out]
  refine (jlay_any A2 c2 ls (HJd.out.jrr HPd.out) (show RLs _ (FJ F jb) A2 ls from HId.out.r.sub (fun k hk => hk.elim (HPd.out.pair.fB k) (fun e => e ▸ HJd.out.jB))) (Nat.le_trans HI.out.l (by omega)) HJT.out.ok).mono ?_
  rw [← HM2.out]
  rintro e w1 ⟨rfl, F1, hj, hu⟩
  obtain ⟨hp1, hj1, hb1⟩ := HJd.out.updJ HPd.out hj hu
  have HP1 := Lib.hid hp1
  have HJ1 := Lib.hid hj1
  have HB1 := Lib.hid (HBLd.out.trans hb1)
  have HBK1 := Lib.hid (HBKd.out.fr hu.fr (fun x => x.elim HFL.out HLJ.out.1))
  have HI1 := Lib.hid (HId.out.below hb1)
  clear hj hu hp1 hj1 hb1
  go_wp2_with fail
  refine hK.out _ _ (fun _ _ => ⟨HP1.out.c1, HP1.out.c3, HBK1.out.cell 2⟩) ?_
  clear hK hS
  refine wpAnyP_one 13 (at_toArray rfl) (by kernel_rfl) rfl (fun K hK => ?_)
  go_wp2_with fail
  rw [HM2.out]
  refine (rjlay_any A2 c2 ls (HJ1.out.rjr HP1.out) (show RLs _ (FJ G rj) A2 ls from HI1.out.r.sub (fun k hk => hk.elim (HP1.out.pair.gB k) (fun e => e ▸ HJ1.out.rB))) (Nat.le_trans HI.out.l (by omega)) HJT.out.ok).mono ?_
  rw [← HM2.out]
  rintro e w2 ⟨rfl, G2, hj, hu⟩
  obtain ⟨hp2, hj2, hb2⟩ := HJ1.out.updRJ HP1.out hj hu
  have HP2 := Lib.hid hp2
  have HJ2 := Lib.hid hj2
  have HB2 := Lib.hid (HB1.out.trans hb2)
  have HBK2 := Lib.hid (HBK1.out.fr hu.fr (fun x => x.elim HGL.out HLJ.out.2))
  clear hj hu hp2 hj2 hb2
  go_wp2_with fail
  refine hK.out _ _ (fun _ _ => ⟨HP2.out.c1, HP2.out.c3, HBK2.out.cell 2⟩) ?_
  clear hK
  obtain ⟨⟨r, T2, J2⟩, hr⟩ : ∃ r, r = J.lay T ls := ⟨_, rfl⟩
  rw [← hr] at HP2 HJ2 ⊢
  have HRR := Lib.hid hr
  clear hr
  have hrr : (r == r) = true := by simp
  refine wpAnyP_pure (v := ?_) 14 (at_toArray rfl) (by kernel_rfl) (by kernel_rfl) (by kernel_rfl) (fun _ _ _ h => h) (Or.inl ⟨by rfl, fun W => ?_⟩) ?_
  rotate_left 1
  · (go_simp <;> (try go_bits) <;> with_reducible rfl)
  simp only [Act.put, List.setIfInBounds_toArray, List.set_cons_zero, List.set_cons_succ]
  refine wpAnyP_pure (v := ?_) 15 (at_toArray rfl) (by kernel_rfl) (by kernel_rfl) (by kernel_rfl) (fun _ _ _ h => h) (Or.inl ⟨by rfl, fun W => ?_⟩) ?_
  rotate_left 1
  · (go_simp <;> (try go_bits) <;> with_reducible rfl)
  simp only [Act.put, List.setIfInBounds_toArray, List.set_cons_zero, List.set_cons_succ]
  refine wpAnyP_done (by kernel_rfl) ?_ _
  go_wp2_with fail
  go_ret
  exact ⟨rfl, HB2.out, T2, F1, G2, some (jb, rj, J2), HP2.out.bth HJ2.out (by rw [show T2 = (J.lay T ls).2.1 by rw [← HRR.out]]; exact (lay_all HJT.out.ok HWL.out ls).1) (by rw [show T2 = (J.lay T ls).2.1 by rw [← HRR.out], show J2 = (J.lay T ls).2.2 by rw [← HRR.out]]; exact (lay_all HJT.out.ok HWL.out ls).2.1 (.inl HJT.out))⟩

set_option maxRecDepth 100000 in
set_option maxHeartbeats 8000000 in
theorem actxs_any (B bb tb rb : Nat) (T : TS) (F G : Nat → Prop) (jb rj : Nat) (J : JS) (kind : Int) (h0 : ¬ kind = 0) (h1 : ¬ kind = 1) (h2 : ¬ kind = 2) (h3 : ¬ kind = 3) (h4 : ¬ kind = 4) (h5 : ¬ kind = 5) (h6 : ¬ kind = 6) (h7 : ¬ kind = 7) (n keep : Int) (A A2 : Option Addr) (c c2 : Nat) (ys : List UInt8) (ls : List (List UInt8)) (w : World)
    (h : Bth B w bb tb rb T F G (some (jb, rj, J))) (hi : ActIn B w A A2 ys ls n) :
    Calls Tryz.prog 9 #[.pointer (some ⟨bb, 0, none⟩), .agg #[.int .i64 kind, .slice A ys.length c, .slice A2 ls.length c2, .int .i64 n, .int .i64 keep]] w (ActPost B w bb tb rb) := by
  obtain ⟨m, hm⟩ : ∃ m, m = ys.length := ⟨_, rfl⟩
  obtain ⟨m2, hm2⟩ : ∃ m2, m2 = ls.length := ⟨_, rfl⟩
  rw [← hm, ← hm2]
  obtain ⟨wa, hwa⟩ : ∃ wa, wa = w.alloc (.cells #[.int .i64 kind, .slice A m c, .slice A2 m2 c2, .int .i64 n, .int .i64 keep] 38) := ⟨_, rfl⟩
  have hba : Below w.heap.size w wa := by rw [hwa]; exact (Below.refl _ _).alloc (Nat.le_refl _) _
  have hbk : Blk wa w.heap.size #[.int .i64 kind, .slice A m c, .slice A2 m2 c2, .int .i64 n, .int .i64 keep] 38 := by rw [hwa]; exact Blk.new w _ _
  obtain ⟨lb, hlb⟩ : ∃ lb, lb = w.heap.size := ⟨_, rfl⟩
  have hBl : B ≤ lb := by rw [hlb]; exact h.pair.size
  have hfl : ¬ F lb := fun f => by have := h.pair.flt _ f; omega
  have hgl : ¬ G lb := fun f => by have := h.pair.glt _ f; omega
  have hbl : lb ≠ bb := fun e => by have := h.blk.lt; omega
  rw [← hlb] at hbk
  have HP := Lib.hid (h.pb.below hba)
  have HWL := Lib.hid h.well
  have HBL := Lib.hid (Below.up hba h.pair.size)
  have HI := Lib.hid (hi.below (Below.up hba h.pair.size))
  have HBK := Lib.hid hbk
  have hc0 : wa.cell? ⟨lb, 0, none⟩ = some (.int .i64 kind) := hbk.cell 0
  have hc1 : wa.cell? ⟨lb, 1, none⟩ = some (.slice A m c) := hbk.cell 1
  have hc2 : wa.cell? ⟨lb, 2, none⟩ = some (.slice A2 m2 c2) := hbk.cell 2
  have hc3 : wa.cell? ⟨lb, 3, none⟩ = some (.int .i64 n) := hbk.cell 3
  have hc4 : wa.cell? ⟨lb, 4, none⟩ = some (.int .i64 keep) := hbk.cell 4
  have d0 : wa.cell? ⟨bb, 0, none⟩ = some (.pointer (some ⟨tb, 0, none⟩)) := HP.out.c0
  have d1 : wa.cell? ⟨bb, 1, none⟩ = some (.pointer (some ⟨jb, 0, none⟩)) := HP.out.c1
  have d2 : wa.cell? ⟨bb, 2, none⟩ = some (.pointer (some ⟨rb, 0, none⟩)) := HP.out.c2
  have d3 : wa.cell? ⟨bb, 3, none⟩ = some (.pointer (some ⟨rj, 0, none⟩)) := HP.out.c3
  have HFL := Lib.hid hfl
  have HGL := Lib.hid hgl
  have HNB := Lib.hid hbl
  have HWA := Lib.hid hwa
  have HLB := Lib.hid hlb
  have HM := Lib.hid hm
  have HM2 := Lib.hid hm2
  have H := Lib.hid h
  have HWB := Lib.hid (hba.trans (Below.up (Below.refl _ _).drew hba.size))
  clear h hi hm hm2 hba hbk hwa hlb hfl hgl hbl
  have HJ := Lib.hid (H.out.js2.below (show Below w.heap.size w wa by rw [HWA.out]; exact (Below.refl _ _).alloc (Nat.le_refl _) _))
  have HJT := Lib.hid (H.out.js jb rj J rfl).jt
  have HLJ : Hid (lb ≠ jb ∧ lb ≠ rj) := Lib.hid ⟨fun e => by have := (H.out.js jb rj J rfl).blk.lt; have := HLB.out; omega, fun e => by have := (H.out.js jb rj J rfl).ref.lt; have := HLB.out; omega⟩
  have e3 := d3
  rw [HWA.out] at e3
  go_enter Tryz.func9, Tryz.ntmps9
  go_wp2_with fail
  rw [← HWA.out, ← HLB.out]
  clear HWA HLB
  go_ret
  exact ⟨rfl, HBL.out, T, F, G, some (jb, rj, J), HP.out.bth HJ.out HWL.out HJT.out⟩

set_option maxRecDepth 100000 in
set_option maxHeartbeats 8000000 in
theorem actxn_any (B bb tb rb : Nat) (T : TS) (F G : Nat → Prop) (kind : Int) (h3 : ¬ kind = 3) (h4 : ¬ kind = 4) (h5 : ¬ kind = 5) (h6 : ¬ kind = 6) (h7 : ¬ kind = 7) (n keep : Int) (A A2 : Option Addr) (c c2 : Nat) (ys : List UInt8) (ls : List (List UInt8)) (w : World)
    (h : Bth B w bb tb rb T F G none) (hi : ActIn B w A A2 ys ls n) :
    Calls Tryz.prog 9 #[.pointer (some ⟨bb, 0, none⟩), .agg #[.int .i64 kind, .slice A ys.length c, .slice A2 ls.length c2, .int .i64 n, .int .i64 keep]] w (ActPost B w bb tb rb) := by
  obtain ⟨m, hm⟩ : ∃ m, m = ys.length := ⟨_, rfl⟩
  obtain ⟨m2, hm2⟩ : ∃ m2, m2 = ls.length := ⟨_, rfl⟩
  rw [← hm, ← hm2]
  obtain ⟨wa, hwa⟩ : ∃ wa, wa = w.alloc (.cells #[.int .i64 kind, .slice A m c, .slice A2 m2 c2, .int .i64 n, .int .i64 keep] 38) := ⟨_, rfl⟩
  have hba : Below w.heap.size w wa := by rw [hwa]; exact (Below.refl _ _).alloc (Nat.le_refl _) _
  have hbk : Blk wa w.heap.size #[.int .i64 kind, .slice A m c, .slice A2 m2 c2, .int .i64 n, .int .i64 keep] 38 := by rw [hwa]; exact Blk.new w _ _
  obtain ⟨lb, hlb⟩ : ∃ lb, lb = w.heap.size := ⟨_, rfl⟩
  have hBl : B ≤ lb := by rw [hlb]; exact h.pair.size
  have hfl : ¬ F lb := fun f => by have := h.pair.flt _ f; omega
  have hgl : ¬ G lb := fun f => by have := h.pair.glt _ f; omega
  have hbl : lb ≠ bb := fun e => by have := h.blk.lt; omega
  rw [← hlb] at hbk
  have HP := Lib.hid (h.pb.below hba)
  have HWL := Lib.hid h.well
  have HBL := Lib.hid (Below.up hba h.pair.size)
  have HI := Lib.hid (hi.below (Below.up hba h.pair.size))
  have HBK := Lib.hid hbk
  have hc0 : wa.cell? ⟨lb, 0, none⟩ = some (.int .i64 kind) := hbk.cell 0
  have hc1 : wa.cell? ⟨lb, 1, none⟩ = some (.slice A m c) := hbk.cell 1
  have hc2 : wa.cell? ⟨lb, 2, none⟩ = some (.slice A2 m2 c2) := hbk.cell 2
  have hc3 : wa.cell? ⟨lb, 3, none⟩ = some (.int .i64 n) := hbk.cell 3
  have hc4 : wa.cell? ⟨lb, 4, none⟩ = some (.int .i64 keep) := hbk.cell 4
  have d0 : wa.cell? ⟨bb, 0, none⟩ = some (.pointer (some ⟨tb, 0, none⟩)) := HP.out.c0
  have d1 : wa.cell? ⟨bb, 1, none⟩ = some (.pointer none) := HP.out.c1
  have d2 : wa.cell? ⟨bb, 2, none⟩ = some (.pointer (some ⟨rb, 0, none⟩)) := HP.out.c2
  have d3 : wa.cell? ⟨bb, 3, none⟩ = some (.pointer none) := HP.out.c3
  have HFL := Lib.hid hfl
  have HGL := Lib.hid hgl
  have HNB := Lib.hid hbl
  have HWA := Lib.hid hwa
  have HLB := Lib.hid hlb
  have HM := Lib.hid hm
  have HM2 := Lib.hid hm2
  have H := Lib.hid h
  have HWB := Lib.hid (hba.trans (Below.up (Below.refl _ _).drew hba.size))
  clear h hi hm hm2 hba hbk hwa hlb hfl hgl hbl
  have e3 := d3
  rw [HWA.out] at e3
  go_enter Tryz.func9, Tryz.ntmps9
  go_wp2_with fail
  rw [← HWA.out, ← HLB.out]
  clear HWA HLB
  go_ret
  exact ⟨rfl, HBL.out, T, F, G, none, HP.out.bth0 HWL.out⟩

theorem bact_any (B bb tb rb : Nat) (T : TS) (F G : Nat → Prop) (jo : Option (Nat × Nat × JS)) (kind n keep : Int) (A A2 : Option Addr) (c c2 : Nat) (ys : List UInt8) (ls : List (List UInt8)) (w : World)
    (h : Bth B w bb tb rb T F G jo) (hi : ActIn B w A A2 ys ls n) :
    Calls Tryz.prog 9 #[.pointer (some ⟨bb, 0, none⟩), .agg #[.int .i64 kind, .slice A ys.length c, .slice A2 ls.length c2, .int .i64 n, .int .i64 keep]] w (ActPost B w bb tb rb) := by
  by_cases h3 : kind = 3
  · subst h3; exact act3_any B bb tb rb T F G jo n keep A A2 c c2 ys ls w h hi
  · by_cases h4 : kind = 4
    · subst h4; exact act4_any B bb tb rb T F G jo n keep A A2 c c2 ys ls w h hi
    · by_cases h5 : kind = 5
      · subst h5; exact act5_any B bb tb rb T F G jo n keep A A2 c c2 ys ls w h hi
      · by_cases h6 : kind = 6
        · subst h6; exact act6_any B bb tb rb T F G jo n keep A A2 c c2 ys ls w h hi
        · by_cases h7 : kind = 7
          · subst h7; exact act7_any B bb tb rb T F G jo n keep A A2 c c2 ys ls w h hi
          · match jo, h with
            | none, h => exact actxn_any B bb tb rb T F G kind h3 h4 h5 h6 h7 n keep A A2 c c2 ys ls w h hi
            | some (jb, rj, J), h =>
              by_cases h0 : kind = 0
              · subst h0; exact act0s_any B bb tb rb T F G jb rj J n keep A A2 c c2 ys ls w h hi
              · by_cases h1 : kind = 1
                · subst h1; exact act1s_any B bb tb rb T F G jb rj J n keep A A2 c c2 ys ls w h hi
                · by_cases h2 : kind = 2
                  · subst h2; exact act2s_any B bb tb rb T F G jb rj J n keep A A2 c c2 ys ls w h hi
                  · exact actxs_any B bb tb rb T F G jb rj J kind h0 h1 h2 h3 h4 h5 h6 h7 n keep A A2 c c2 ys ls w h hi

end Go.Proofs.YtdhafdejionefaaGreat
