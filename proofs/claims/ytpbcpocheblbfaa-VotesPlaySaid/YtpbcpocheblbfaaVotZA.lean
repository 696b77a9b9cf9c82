/- The document's Less and better. -/
import Derived.Test.YtpbcpocheblbfaaVotY
import Derived.Lib.Bytes
namespace Go.Proofs.Ytpbcpocheblbfaa
set_option linter.unusedVariables false
set_option linter.unusedSimpArgs false
open Go.RowKit Go.MapKept

theorem bl_diff : ∀ (k : Nat) (xs ys : List UInt8) (a b : UInt8), (∀ j, j < k → xs[j]? = ys[j]?) → xs[k]? = some a → ys[k]? = some b → a ≠ b → Op.bytesLess xs ys = decide (a < b)
  | 0, x :: xs, y :: ys, a, b, _, h1, h2, hne => by
    simp at h1 h2
    subst h1 h2
    unfold Op.bytesLess
    simp [hne]
  | k + 1, x :: xs, y :: ys, a, b, h, h1, h2, hne => by
    have h0 := h 0 (by omega)
    simp at h0
    subst h0
    have ih := bl_diff k xs ys a b (fun j hj => by simpa using h (j + 1) (by omega)) (by simpa using h1) (by simpa using h2) hne
    unfold Op.bytesLess
    rw [ih]
    have : ¬ x < x := UInt8.lt_irrefl x
    simp [this]
  | _, [], _, _, _, _, h1, _, _ => by simp at h1
  | _, _ :: _, [], _, _, _, _, h2, _ => by simp at h2
theorem bl_same : ∀ xs : List UInt8, Op.bytesLess xs xs = false
  | [] => by unfold Op.bytesLess; rfl
  | x :: xs => by
    unfold Op.bytesLess
    rw [bl_same xs]
    have : ¬ x < x := UInt8.lt_irrefl x
    simp [this]
set_option maxRecDepth 100000 in
set_option maxHeartbeats 4000000 in
theorem rless_any (w : World) (xs ys : List UInt8) (hx : xs.length = 32) (hy : ys.length = 32) :
    Calls Try.prog 31 #[tval xs, tval ys] w fun e w' => e = .returned (.bool (Op.bytesLess xs ys)) ∧ Below w.heap.size w w' := by
  obtain ⟨r, hr⟩ : ∃ r, r = Op.bytesLess xs ys := ⟨_, rfl⟩
  rw [← hr]
  have HR := Lib.hid hr
  have HX := Lib.hid hx
  have HY := Lib.hid hy
  clear hr hx hy
  go_enter Try.func31, Try.ntmps31
  go_wp2_with (first | (refine wpList_box_big rfl 28 _ rfl (bv xs).toArray rfl ?_; intro xb w1 HXB hb1 hbl1 HS1) | (refine wpList_box_big rfl 28 _ rfl (bv ys).toArray rfl ?_; intro yb w2 HYB hb2 hbl2 HS2))
  have HBL := Lib.hid (hbl1.trans (Below.up hbl2 hbl1.size))
  have H1 := Lib.hid (hb1.below hbl2)
  have H2 := Lib.hid hb2
  clear hb1 hb2 hbl1 hbl2 HXB HYB HS1 HS2
  go_loopw [5] (fun iv wr => ∃ k : Nat, k ≤ 32 ∧ iv = .int .i64 (k : Int) ∧ Hid (∀ j, j < k → xs[j]? = ys[j]?) ∧ Hid (Below w.heap.size w wr) ∧ Hid (Blk wr xb (bv xs).toArray 28) ∧ Hid (Blk wr yb (bv ys).toArray 28)) (fun iv _ => 32 - (intOf iv).toNat)
  case atStart => exact ⟨0, by omega, rfl, Lib.hid (fun j hj => by omega), HBL, H1, H2⟩
  case round =>
    clear HBL H1 H2
    obtain ⟨k, hk, rfl, HE, HBL, H1, H2⟩ := hrel
    by_cases hlt : k < 32
    · have l1 : (k : Int) < 32 := by omega
      obtain ⟨a, ha⟩ : ∃ a, xs[k]? = some a := ⟨_, List.getElem?_eq_getElem (by rw [HX.out]; exact hlt)⟩
      obtain ⟨b, hb⟩ : ∃ b, ys[k]? = some b := ⟨_, List.getElem?_eq_getElem (by rw [HY.out]; exact hlt)⟩
      have HAB := Lib.hid (show xs[k]? = some a ∧ ys[k]? = some b from ⟨ha, hb⟩)
      have hca : wr.cell? ⟨xb, k, none⟩ = some (.int .u8 (a.toNat : Int)) := by have := range_of_blk H1.out k (.int .u8 (a.toNat : Int)) (by unfold bv; rw [List.getElem?_map, ha]; rfl); rwa [Nat.zero_add] at this
      have hcb : wr.cell? ⟨yb, k, none⟩ = some (.int .u8 (b.toNat : Int)) := by have := range_of_blk H2.out k (.int .u8 (b.toNat : Int)) (by unfold bv; rw [List.getElem?_map, hb]; rfl); rwa [Nat.zero_add] at this
      clear ha hb
      go_wp2_with fail
      have hd := (Below.refl wr.heap.size wr).drew
      have HBd := Lib.hid (HBL.out.trans (Below.up hd HBL.out.size))
      have H1d := Lib.hid (H1.out.below hd)
      have H2d := Lib.hid (H2.out.below hd)
      refine wp_region_phased (fun W => W.cell? ⟨xb, k, none⟩ = some (.int .u8 (a.toNat : Int)) ∧ W.cell? ⟨yb, k, none⟩ = some (.int .u8 (b.toNat : Int))) 7 (by kernel_rfl) ⟨cell_bl hca hd, cell_bl hcb hd⟩ (fun hS => ?_)
      clear hca hcb hd
      refine wpAnyP_pure (v := ?_) 0 (at_toArray rfl) (by kernel_rfl) (by kernel_rfl) (by kernel_rfl) (fun _ _ _ h => h) (Or.inl ⟨by rfl, fun W => ?_⟩) ?_
      rotate_left 1
      · (go_simp <;> (try go_bits) <;> with_reducible rfl)
      simp only [Act.put, List.setIfInBounds_toArray, List.set_cons_zero, List.set_cons_succ]
      refine wpAnyP_pure (v := ?_) 1 (at_toArray rfl) (by kernel_rfl) (by kernel_rfl) (by kernel_rfl) (fun _ _ _ h => h) (Or.inl ⟨by rfl, fun W => ?_⟩) ?_
      rotate_left 1
      · (go_simp <;> (try go_bits) <;> with_reducible rfl)
      simp only [Act.put, List.setIfInBounds_toArray, List.set_cons_zero, List.set_cons_succ]
      refine wpAnyP_load (v := ?_) 2 (by kernel_rfl) (at_toArray rfl) (by kernel_rfl) (by kernel_rfl) (by kernel_rfl) (fun _ _ _ h => h) (by first | assumption | rfl) (Or.inl ⟨by rfl, fun W hS => ?_⟩) ?_
      rotate_left 1
      · (obtain ⟨s1, s2⟩ := hS; go_simp <;> (try go_bits) <;> with_reducible rfl)
      simp only [Act.put, List.setIfInBounds_toArray, List.set_cons_zero, List.set_cons_succ]
      refine wpAnyP_pure (v := ?_) 3 (at_toArray rfl) (by kernel_rfl) (by kernel_rfl) (by kernel_rfl) (fun _ _ _ h => h) (Or.inl ⟨by rfl, fun W => ?_⟩) ?_
      rotate_left 1
      · (go_simp <;> (try go_bits) <;> with_reducible rfl)
      simp only [Act.put, List.setIfInBounds_toArray, List.set_cons_zero, List.set_cons_succ]
      refine wpAnyP_pure (v := ?_) 4 (at_toArray rfl) (by kernel_rfl) (by kernel_rfl) (by kernel_rfl) (fun _ _ _ h => h) (Or.inl ⟨by rfl, fun W => ?_⟩) ?_
      rotate_left 1
      · (go_simp <;> (try go_bits) <;> with_reducible rfl)
      simp only [Act.put, List.setIfInBounds_toArray, List.set_cons_zero, List.set_cons_succ]
      refine wpAnyP_load (v := ?_) 5 (by kernel_rfl) (at_toArray rfl) (by kernel_rfl) (by kernel_rfl) (by kernel_rfl) (fun _ _ _ h => h) (by first | assumption | rfl) (Or.inl ⟨by rfl, fun W hS => ?_⟩) ?_
      rotate_left 1
      · (obtain ⟨s1, s2⟩ := hS; go_simp <;> (try go_bits) <;> with_reducible rfl)
      simp only [Act.put, List.setIfInBounds_toArray, List.set_cons_zero, List.set_cons_succ]
      refine wpAnyP_pure (v := ?_) 6 (at_toArray rfl) (by kernel_rfl) (by kernel_rfl) (by kernel_rfl) (fun _ _ _ h => h) (Or.inl ⟨by rfl, fun W => ?_⟩) ?_
      rotate_left 1
      · (go_simp <;> (try go_bits) <;> with_reducible rfl)
      simp only [Act.put, List.setIfInBounds_toArray, List.set_cons_zero, List.set_cons_succ]
      refine wpAnyP_done (by kernel_rfl) ?_ _
      have hS1 := hS
      clear hS
      generalize wr.drew = w3 at *
      clear HBL H1 H2
      by_cases hab : a = b
      · subst hab
        have HE2 : Hid (∀ j, j < k + 1 → xs[j]? = ys[j]?) := Lib.hid fun j hj => by
          by_cases hjk : j < k
          · exact HE.out j hjk
          · obtain rfl : j = k := by omega
            rw [HAB.out.1, HAB.out.2]
        go_wp2_with fail
        try go_frame
        go_roundw
        case rel => exact ⟨k + 1, by omega, by go_num, HE2, HBd, H1d, H2d⟩
        case measure => simp [intOf]; omega
      · have hne : ((a.toNat : Int) != (b.toNat : Int)) = true := by
          rw [bne_iff_ne]
          intro e
          exact hab (UInt8.toNat_inj.1 (by omega))
        have hr : r = decide (a < b) := by rw [HR.out]; exact bl_diff k xs ys a b HE.out HAB.out.1 HAB.out.2 hab
        have hlt2 : decide (a < b) = decide ((a.toNat : Int) < (b.toNat : Int)) := decide_eq_decide.2 (by rw [UInt8.lt_iff_toNat_lt]; omega)
        rw [hlt2] at hr
        have HRR := Lib.hid hr
        clear hr hlt2
        simp only [hne]
        clear hne
        go_wp2_with fail
        have hd := (Below.refl w3.heap.size w3).drew
        refine wp_region_phased (fun W => W.cell? ⟨xb, k, none⟩ = some (.int .u8 (a.toNat : Int)) ∧ W.cell? ⟨yb, k, none⟩ = some (.int .u8 (b.toNat : Int))) 8 (by kernel_rfl) ⟨cell_bl hS1.1 hd, cell_bl hS1.2 hd⟩ (fun hS => ?_)
        refine wpAnyP_pure (v := ?_) 0 (at_toArray rfl) (by kernel_rfl) (by kernel_rfl) (by kernel_rfl) (fun _ _ _ h => h) (Or.inl ⟨by rfl, fun W => ?_⟩) ?_
        rotate_left 1
        · (go_simp <;> (try go_bits) <;> with_reducible rfl)
        simp only [Act.put, List.setIfInBounds_toArray, List.set_cons_zero, List.set_cons_succ]
        refine wpAnyP_pure (v := ?_) 1 (at_toArray rfl) (by kernel_rfl) (by kernel_rfl) (by kernel_rfl) (fun _ _ _ h => h) (Or.inl ⟨by rfl, fun W => ?_⟩) ?_
        rotate_left 1
        · (go_simp <;> (try go_bits) <;> with_reducible rfl)
        simp only [Act.put, List.setIfInBounds_toArray, List.set_cons_zero, List.set_cons_succ]
        refine wpAnyP_load (v := ?_) 2 (by kernel_rfl) (at_toArray rfl) (by kernel_rfl) (by kernel_rfl) (by kernel_rfl) (fun _ _ _ h => h) (by first | assumption | rfl) (Or.inl ⟨by rfl, fun W hS => ?_⟩) ?_
        rotate_left 1
        · (obtain ⟨s1, s2⟩ := hS; go_simp <;> (try go_bits) <;> with_reducible rfl)
        simp only [Act.put, List.setIfInBounds_toArray, List.set_cons_zero, List.set_cons_succ]
        refine wpAnyP_pure (v := ?_) 3 (at_toArray rfl) (by kernel_rfl) (by kernel_rfl) (by kernel_rfl) (fun _ _ _ h => h) (Or.inl ⟨by rfl, fun W => ?_⟩) ?_
        rotate_left 1
        · (go_simp <;> (try go_bits) <;> with_reducible rfl)
        simp only [Act.put, List.setIfInBounds_toArray, List.set_cons_zero, List.set_cons_succ]
        refine wpAnyP_pure (v := ?_) 4 (at_toArray rfl) (by kernel_rfl) (by kernel_rfl) (by kernel_rfl) (fun _ _ _ h => h) (Or.inl ⟨by rfl, fun W => ?_⟩) ?_
        rotate_left 1
        · (go_simp <;> (try go_bits) <;> with_reducible rfl)
        simp only [Act.put, List.setIfInBounds_toArray, List.set_cons_zero, List.set_cons_succ]
        refine wpAnyP_load (v := ?_) 5 (by kernel_rfl) (at_toArray rfl) (by kernel_rfl) (by kernel_rfl) (by kernel_rfl) (fun _ _ _ h => h) (by first | assumption | rfl) (Or.inl ⟨by rfl, fun W hS => ?_⟩) ?_
        rotate_left 1
        · (obtain ⟨s1, s2⟩ := hS; go_simp <;> (try go_bits) <;> with_reducible rfl)
        simp only [Act.put, List.setIfInBounds_toArray, List.set_cons_zero, List.set_cons_succ]
        refine wpAnyP_pure (v := ?_) 6 (at_toArray rfl) (by kernel_rfl) (by kernel_rfl) (by kernel_rfl) (fun _ _ _ h => h) (Or.inl ⟨by rfl, fun W => ?_⟩) ?_
        rotate_left 1
        · (go_simp <;> (try go_bits) <;> with_reducible rfl)
        simp only [Act.put, List.setIfInBounds_toArray, List.set_cons_zero, List.set_cons_succ]
        refine wpAnyP_pure (v := ?_) 7 (at_toArray rfl) (by kernel_rfl) (by kernel_rfl) (by kernel_rfl) (fun _ _ _ h => h) (Or.inl ⟨by rfl, fun W => ?_⟩) ?_
        rotate_left 1
        · (go_simp <;> (try go_bits) <;> with_reducible rfl)
        simp only [Act.put, List.setIfInBounds_toArray, List.set_cons_zero, List.set_cons_succ]
        refine wpAnyP_done (by kernel_rfl) ?_ _
        go_wp2_with fail
        go_ret
        exact ⟨by rw [HRR.out]; first | rfl | (simp; done), HBd.out.trans (Below.up hd HBd.out.size)⟩
    · have l1 : ¬ (k : Int) < 32 := by omega
      have hr : r = false := by
        rw [HR.out]
        have : xs = ys := List.ext_getElem? fun j => by
          by_cases hj : j < k
          · exact HE.out j hj
          · rw [List.getElem?_eq_none (by rw [HX.out]; omega), List.getElem?_eq_none (by rw [HY.out]; omega)]
        rw [this, bl_same]
      go_wp2_with fail
      go_ret
      exact ⟨by first | (rw [hr]; rfl) | rfl, HBL.out⟩

theorem strD_list (xs : List UInt8) : (strD xs).toList = xs := by
  unfold strD
  rw [Lib.strOfNums_toList]
  unfold Lib.bytesOf
  rw [List.map_map]
  conv => rhs; rw [← List.map_id xs]
  apply List.map_congr_left
  intro b _
  simp
theorem lessP_eq (xs ys : List UInt8) : lessP xs ys = Op.bytesLess xs ys := by unfold lessP; rw [strD_list, strD_list]
set_option maxRecDepth 100000 in
set_option maxHeartbeats 4000000 in
theorem better_any (w : World) (u v : Vt) (hu : u.ok) (hv : v.ok) :
    Calls Try.prog 29 #[vval u, vval v] w fun e w' => e = .returned (.bool (aheadP u v)) ∧ Below w.heap.size w w' := by
  obtain ⟨r, hr⟩ : ∃ r, r = aheadP u v := ⟨_, rfl⟩
  rw [← hr]
  unfold aheadP at hr
  have HR := Lib.hid hr
  have HU := Lib.hid hu
  have HV := Lib.hid hv
  clear hr hu hv
  go_enter Try.func29, Try.ntmps29
  by_cases h1 : u.view = v.view
  · have H1 := Lib.hid h1
    clear h1
    by_cases h2 : u.dig = v.dig
    · have H2 := Lib.hid h2
      have HD := Lib.hid (show decide (u.dig = v.dig) = true from decide_eq_true h2)
      clear h2
      by_cases h3 : u.epoch = v.epoch
      · have H3 := Lib.hid h3
        clear h3
        go_wp2_with (first | (refine wpList_box_big rfl 30 _ rfl (vcells u).toArray rfl ?_; intro ub w1 HUB hb1 hbl1 HS1) | (refine wpList_box_big rfl 30 _ rfl (vcells v).toArray rfl ?_; intro vb w2 HVB hb2 hbl2 HS2; obtain ⟨p0, p1, p2, p3⟩ := vote_cells (hb1.below hbl2); obtain ⟨q0, q1, q2, q3⟩ := vote_cells hb2; have ru := vdig_range (hb1.below hbl2); have rv := vdig_range hb2; have hbl := hbl1.trans (Below.up hbl2 hbl1.size); rw [← H1.out] at q2; rw [← H3.out] at q1) | (refine wpList_val rfl (load_dig HU.out.dig ru rfl rfl) ?_) | (refine wpList_val rfl (load_dig HV.out.dig rv rfl rfl) ?_) | (refine wpList_val (v := .bool false) rfl (by rw [dig_neq _ HU.out.dig HV.out.dig rfl rfl rfl, HD.out]; rfl) ?_))
        go_ret
        have hr := HR.out
        simp only [H1.out, H2.out, H3.out, ne_eq, not_true_eq_false, if_false] at hr
        exact ⟨by rw [hr]; rfl, hbl⟩
      · go_wp2_with (first | (refine wpList_box_big rfl 30 _ rfl (vcells u).toArray rfl ?_; intro ub w1 HUB hb1 hbl1 HS1) | (refine wpList_box_big rfl 30 _ rfl (vcells v).toArray rfl ?_; intro vb w2 HVB hb2 hbl2 HS2; obtain ⟨p0, p1, p2, p3⟩ := vote_cells (hb1.below hbl2); obtain ⟨q0, q1, q2, q3⟩ := vote_cells hb2; have ru := vdig_range (hb1.below hbl2); have rv := vdig_range hb2; have hbl := hbl1.trans (Below.up hbl2 hbl1.size); rw [← H1.out] at q2) | (refine wpList_val rfl (load_dig HU.out.dig ru rfl rfl) ?_) | (refine wpList_val rfl (load_dig HV.out.dig rv rfl rfl) ?_) | (refine wpList_val (v := .bool false) rfl (by rw [dig_neq _ HU.out.dig HV.out.dig rfl rfl rfl, HD.out]; rfl) ?_))
        go_ret
        have hr := HR.out
        simp only [H1.out, H2.out, h3, ne_eq, not_true_eq_false, not_false_eq_true, if_true, if_false] at hr
        exact ⟨by rw [hr]; rfl, hbl⟩
    · have HD := Lib.hid (show decide (u.dig = v.dig) = false from decide_eq_false h2)
      have H2 := Lib.hid h2
      clear h2
      go_wp2_with (first | (refine wpList_box_big rfl 30 _ rfl (vcells u).toArray rfl ?_; intro ub w1 HUB hb1 hbl1 HS1) | (refine wpList_box_big rfl 30 _ rfl (vcells v).toArray rfl ?_; intro vb w2 HVB hb2 hbl2 HS2; obtain ⟨p0, p1, p2, p3⟩ := vote_cells (hb1.below hbl2); obtain ⟨q0, q1, q2, q3⟩ := vote_cells hb2; have ru := vdig_range (hb1.below hbl2); have rv := vdig_range hb2; have hbl := hbl1.trans (Below.up hbl2 hbl1.size); rw [← H1.out] at q2) | (refine wpList_val rfl (load_dig HU.out.dig ru rfl rfl) ?_) | (refine wpList_val rfl (load_dig HV.out.dig rv rfl rfl) ?_) | (refine wpList_val (v := .bool true) rfl (by rw [dig_neq _ HU.out.dig HV.out.dig rfl rfl rfl, HD.out]; rfl) ?_))
      have hcall := rless_any w2 u.dig v.dig HU.out.dig HV.out.dig
      rw [← lessP_eq] at hcall
      refine hcall.mono ?_
      rintro e w3 ⟨rfl, hbl3⟩
      go_wp2_with fail
      go_ret
      have hr := HR.out
      simp only [H1.out, H2.out, ne_eq, not_true_eq_false, not_false_eq_true, if_true, if_false] at hr
      exact ⟨by rw [hr]; rfl, hbl.trans (Below.up hbl3 hbl.size)⟩
  · have H1 := Lib.hid h1
    go_wp2_with (first | (refine wpList_box_big rfl 30 _ rfl (vcells u).toArray rfl ?_; intro ub w1 HUB hb1 hbl1 HS1) | (refine wpList_box_big rfl 30 _ rfl (vcells v).toArray rfl ?_; intro vb w2 HVB hb2 hbl2 HS2; obtain ⟨p0, p1, p2, p3⟩ := vote_cells (hb1.below hbl2); obtain ⟨q0, q1, q2, q3⟩ := vote_cells hb2; have ru := vdig_range (hb1.below hbl2); have rv := vdig_range hb2; have hbl := hbl1.trans (Below.up hbl2 hbl1.size)) | (refine wpList_val rfl (load_dig HU.out.dig ru rfl rfl) ?_) | (refine wpList_val rfl (load_dig HV.out.dig rv rfl rfl) ?_) | (refine wpList_val rfl (dig_neq _ HU.out.dig HV.out.dig rfl rfl rfl) ?_))
    go_ret
    have hr := HR.out
    simp only [H1.out, ne_eq, not_false_eq_true, if_true] at hr
    exact ⟨by rw [hr]; rfl, hbl⟩

end Go.Proofs.Ytpbcpocheblbfaa
