/- Which digest is less, which vote stands ahead: the walks. -/
import Derived.Test.YtpbcpocheblbfaaVotN
import Derived.Laws.BytesArg
namespace Go.Proofs.Ytpbcpocheblbfaa
set_option linter.unusedVariables false
set_option linter.unusedSimpArgs false
open Go.RowKit Go.MapKept

def strD (xs : List UInt8) : ByteArray := strOfNums (xs.map fun b => (b.toNat : Int))
def lessP (xs ys : List UInt8) : Bool := Op.bytesLess (strD xs).toList (strD ys).toList
theorem exec_conv {o : Oper} {w : World} {ρ : Operand → Value} {x : Operand} {b : Nat} {xs : List UInt8} (hc : w.rangeAt b 0 (bv xs)) (hl : xs.length = 32) (ho : o.op = .convert 74 9 x) (hx : ρ x = .slice (some ⟨b, 0, none⟩) 32 32) :
    (execOp ρ o).run Try.prog w = .ok (.value (.string (strD xs))) w := by
  have h := run_convert_bytes_arg (P := Try.prog) w 74 5 Try.underlying74 Try.underlying5 b 0 32 32 (xs.map fun b => (b.toNat : Int)) (by simp [hl]) (fun i hi => by
    have := hc i (.int .u8 ((xs.getD i 0).toNat : Int)) (bv_get xs i (by omega))
    rw [this]
    congr 2
    simp [List.getD, List.getElem?_eq_getElem (show i < xs.length by omega)]) 9 Try.underlying9
  unfold execOp
  simp only [ho, hx, Sem.run_bind, h, Result.andThen_ok, Sem.run_pure]
  rfl
theorem exec_strless {o : Oper} {w : World} {ρ : Operand → Value} {x y : Operand} {t' : TypeId} {s t : ByteArray} (ho : o.op = .binOp .lss 9 x y t') (hx : ρ x = .string s) (hy : ρ y = .string t) :
    (execOp ρ o).run Try.prog w = .ok (.value (.bool (Op.bytesLess s.toList t.toList))) w := by
  unfold execOp
  simp only [ho, hx, hy]
  simp [binOp, eqGuard, Op.stringOp]
set_option maxRecDepth 100000 in
set_option maxHeartbeats 4000000 in
theorem less_any (w : World) (xs ys : List UInt8) (hx : xs.length = 32) (hy : ys.length = 32) :
    Calls Try.prog 30 #[tval xs, tval ys] w fun e w' => e = .returned (.bool (lessP xs ys)) ∧ Below w.heap.size w w' := by
  go_enter Try.func30, Try.ntmps30
  go_wp2_with (first | (refine wpList_box_big rfl 28 _ rfl (bv xs).toArray rfl ?_; intro xb w1 HXB hb1 hbl1 HS1) | (refine wpList_box_big rfl 28 _ rfl (bv ys).toArray rfl ?_; intro yb w2 HYB hb2 hbl2 HS2))
  have h1 := HXB.out
  have h2 := HYB.out
  have h3 := HS1.out
  have hbl := hbl1.trans (Below.up hbl2 (by omega))
  have hr1 := range_below (range_of_blk (hb1.below hbl2)) (Below.refl w2.heap.size w2).drew
  have hr2 := range_below (range_of_blk hb2) (Below.refl w2.heap.size w2).drew
  have hfin : Below w.heap.size w w2.drew := hbl.trans (Below.up (Below.refl w2.heap.size w2).drew (by have := hbl.size; omega))
  clear hb1 hb2 hbl1 hbl2 HXB HYB HS1 HS2 h1 h2 h3
  refine wp_region_phased (fun W => W.rangeAt xb 0 (bv xs) ∧ W.rangeAt yb 0 (bv ys)) 6 (by kernel_rfl) ⟨hr1, hr2⟩ (fun hS => ?_)
  refine wpAnyP_pure (v := ?_) 0 (at_toArray rfl) (by kernel_rfl) (by kernel_rfl) (by kernel_rfl) (fun _ _ _ h => h) (Or.inl ⟨by rfl, fun W => ?_⟩) ?_
  rotate_left 1
  · (go_simp <;> (try go_bits) <;> with_reducible rfl)
  simp only [Act.put, List.setIfInBounds_toArray, List.set_cons_zero, List.set_cons_succ]
  refine wpAnyP_load (v := .string (strD xs)) 1 (by kernel_rfl) (at_toArray rfl) (by kernel_rfl) (by kernel_rfl) (by kernel_rfl) (fun _ _ _ h => h) (by first | assumption | rfl) (Or.inl ⟨by rfl, fun W hS => (by obtain ⟨s1, s2⟩ := hS; exact exec_conv s1 hx rfl rfl)⟩) ?_
  simp only [Act.put, List.setIfInBounds_toArray, List.set_cons_zero, List.set_cons_succ]
  refine wpAnyP_pure (v := ?_) 2 (at_toArray rfl) (by kernel_rfl) (by kernel_rfl) (by kernel_rfl) (fun _ _ _ h => h) (Or.inl ⟨by rfl, fun W => ?_⟩) ?_
  rotate_left 1
  · (go_simp <;> (try go_bits) <;> with_reducible rfl)
  simp only [Act.put, List.setIfInBounds_toArray, List.set_cons_zero, List.set_cons_succ]
  refine wpAnyP_load (v := .string (strD ys)) 3 (by kernel_rfl) (at_toArray rfl) (by kernel_rfl) (by kernel_rfl) (by kernel_rfl) (fun _ _ _ h => h) (by first | assumption | rfl) (Or.inl ⟨by rfl, fun W hS => (by obtain ⟨s1, s2⟩ := hS; exact exec_conv s2 hy rfl rfl)⟩) ?_
  simp only [Act.put, List.setIfInBounds_toArray, List.set_cons_zero, List.set_cons_succ]
  refine wpAnyP_load (v := .bool (lessP xs ys)) 4 (by kernel_rfl) (at_toArray rfl) (by kernel_rfl) (by kernel_rfl) (by kernel_rfl) (fun _ _ _ h => h) (by first | assumption | rfl) (Or.inl ⟨by rfl, fun W hS => (by obtain ⟨s1, s2⟩ := hS; exact exec_strless rfl rfl rfl)⟩) ?_
  simp only [Act.put, List.setIfInBounds_toArray, List.set_cons_zero, List.set_cons_succ]
  refine wpAnyP_pure (v := ?_) 5 (at_toArray rfl) (by kernel_rfl) (by kernel_rfl) (by kernel_rfl) (fun _ _ _ h => h) (Or.inl ⟨by rfl, fun W => ?_⟩) ?_
  rotate_left 1
  · (go_simp <;> (try go_bits) <;> with_reducible rfl)
  simp only [Act.put, List.setIfInBounds_toArray, List.set_cons_zero, List.set_cons_succ]
  refine wpAnyP_done (by kernel_rfl) ?_ _
  go_wp2_with fail
  go_ret
  exact ⟨rfl, hfin⟩

def aheadP (u v : Vt) : Bool :=
  if u.view ≠ v.view then decide (v.view < u.view)
  else if u.dig ≠ v.dig then lessP u.dig v.dig
  else if u.epoch ≠ v.epoch then decide (u.epoch < v.epoch)
  else decide (u.slot < v.slot)
theorem vdig_range {w : World} {b : Nat} {v : Vt} {t : TypeId} (h : Blk w b (vcells v).toArray t) : w.rangeAt b 4 (bv v.dig) :=
  (range_part (xs := [.int .i64 v.kind, .int .i64 v.epoch, .int .i64 v.view, .int .i64 v.slot]) (range_of_blk h)).2
set_option maxRecDepth 100000 in
set_option maxHeartbeats 4000000 in
theorem ahead_any (w : World) (u v : Vt) (hu : u.ok) (hv : v.ok) :
    Calls Try.prog 24 #[vval u, vval v] w fun e w' => e = .returned (.bool (aheadP u v)) ∧ Below w.heap.size w w' := by
  obtain ⟨r, hr⟩ : ∃ r, r = aheadP u v := ⟨_, rfl⟩
  rw [← hr]
  unfold aheadP at hr
  have HR := Lib.hid hr
  have HU := Lib.hid hu
  have HV := Lib.hid hv
  clear hr hu hv
  go_enter Try.func24, Try.ntmps24
  by_cases h1 : u.view = v.view
  · have H1 := Lib.hid h1
    clear h1
    by_cases h2 : u.dig = v.dig
    · have H2 := Lib.hid h2
      have hd : decide (u.dig = v.dig) = true := decide_eq_true h2
      clear h2
      by_cases h3 : u.epoch = v.epoch
      · have H3 := Lib.hid h3
        clear h3
        go_wp2_with (first | (refine wpList_box_big rfl 30 _ rfl (vcells u).toArray rfl ?_; intro ub w1 HUB hb1 hbl1 HS1) | (refine wpList_box_big rfl 30 _ rfl (vcells v).toArray rfl ?_; intro vb w2 HVB hb2 hbl2 HS2; obtain ⟨p0, p1, p2, p3⟩ := vote_cells (hb1.below hbl2); obtain ⟨q0, q1, q2, q3⟩ := vote_cells hb2; have ru := vdig_range (hb1.below hbl2); have rv := vdig_range hb2; have hbl := hbl1.trans (Below.up hbl2 hbl1.size); rw [← H1.out] at q2; rw [← H3.out] at q1) | (refine wpList_val rfl (load_dig HU.out.dig ru rfl rfl) ?_) | (refine wpList_val rfl (load_dig HV.out.dig rv rfl rfl) ?_) | (refine wpList_val rfl (dig_neq _ HU.out.dig HV.out.dig rfl rfl rfl) ?_))
        go_ret
        have hr := HR.out
        simp only [H1.out, H2.out, H3.out, ne_eq, not_true_eq_false, if_false] at hr
        exact ⟨by rw [hr]; rfl, hbl⟩
      · go_wp2_with (first | (refine wpList_box_big rfl 30 _ rfl (vcells u).toArray rfl ?_; intro ub w1 HUB hb1 hbl1 HS1) | (refine wpList_box_big rfl 30 _ rfl (vcells v).toArray rfl ?_; intro vb w2 HVB hb2 hbl2 HS2; obtain ⟨p0, p1, p2, p3⟩ := vote_cells (hb1.below hbl2); obtain ⟨q0, q1, q2, q3⟩ := vote_cells hb2; have ru := vdig_range (hb1.below hbl2); have rv := vdig_range hb2; have hbl := hbl1.trans (Below.up hbl2 hbl1.size); rw [← H1.out] at q2) | (refine wpList_val rfl (load_dig HU.out.dig ru rfl rfl) ?_) | (refine wpList_val rfl (load_dig HV.out.dig rv rfl rfl) ?_) | (refine wpList_val rfl (dig_neq _ HU.out.dig HV.out.dig rfl rfl rfl) ?_))
        go_ret
        have hr := HR.out
        simp only [H1.out, H2.out, h3, ne_eq, not_true_eq_false, not_false_eq_true, if_true, if_false] at hr
        exact ⟨by rw [hr]; rfl, hbl⟩
    · have hd : decide (u.dig = v.dig) = false := decide_eq_false h2
      have H2 := Lib.hid h2
      clear h2
      go_wp2_with (first | (refine wpList_box_big rfl 30 _ rfl (vcells u).toArray rfl ?_; intro ub w1 HUB hb1 hbl1 HS1) | (refine wpList_box_big rfl 30 _ rfl (vcells v).toArray rfl ?_; intro vb w2 HVB hb2 hbl2 HS2; obtain ⟨p0, p1, p2, p3⟩ := vote_cells (hb1.below hbl2); obtain ⟨q0, q1, q2, q3⟩ := vote_cells hb2; have ru := vdig_range (hb1.below hbl2); have rv := vdig_range hb2; have hbl := hbl1.trans (Below.up hbl2 hbl1.size); rw [← H1.out] at q2) | (refine wpList_val rfl (load_dig HU.out.dig ru rfl rfl) ?_) | (refine wpList_val rfl (load_dig HV.out.dig rv rfl rfl) ?_) | (refine wpList_val rfl (dig_neq _ HU.out.dig HV.out.dig rfl rfl rfl) ?_))
      refine (less_any w2 u.dig v.dig HU.out.dig HV.out.dig).mono ?_
      rintro e w3 ⟨rfl, hbl3⟩
      go_wp2_with fail
      go_ret
      have hr := HR.out
      simp only [H1.out, H2.out, ne_eq, not_true_eq_false, not_false_eq_true, if_true, if_false] at hr
      exact ⟨by rw [hr]; rfl, hbl.trans (Below.up hbl3 hbl.size)⟩
  · have H1 := Lib.hid h1
    go_wp2_with (first | (refine wpList_box_big rfl 30 _ rfl (vcells u).toArray rfl ?_; intro ub w1 HUB hb1 hbl1 HS1) | (refine wpList_box_big rfl 30 _ rfl (vcells v).toArray rfl ?_; intro vb w2 HVB hb2 hbl2 HS2; obtain ⟨p0, p1, p2, p3⟩ := vote_cells (hb1.below hbl2); obtain ⟨q0, q1, q2, q3⟩ := vote_cells hb2; have ru := vdig_range (hb1.below hbl2); have rv := vdig_range hb2; have hbl := hbl1.trans (Below.up hbl2 hbl1.size)) | (refine wpList_val rfl (load_dig HU.out.dig ru rfl rfl) ?_) | (refine wpList_val rfl (load_dig HV.out.dig rv rfl rfl) ?_) | (refine wpList_val rfl (dig_neq _ HU.out.dig HV.out.dig rfl rfl rfl) ?_))
    go_ret
    have hr := HR.out
    simp only [H1.out, ne_eq, not_false_eq_true, if_true] at hr
    exact ⟨by rw [hr]; rfl, hbl⟩

end Go.Proofs.Ytpbcpocheblbfaa
