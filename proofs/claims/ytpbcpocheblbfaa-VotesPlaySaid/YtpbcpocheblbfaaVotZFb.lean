/- The document's Add: a vote of kind 2. -/
import Derived.Test.YtpbcpocheblbfaaVotZF
namespace Go.Proofs.Ytpbcpocheblbfaa
set_option linter.unusedVariables false
set_option linter.unusedSimpArgs false
open Go.RowKit Go.MapKept

set_option maxRecDepth 100000 in
set_option maxHeartbeats 16000000 in
theorem radd_2 (w : World) {rb N : Nat} {M : List (Ent One)} (h : RefB w rb (N : Int) (ones M)) (hi : Inv N M) (hap : Apart M) (hok : ∀ p ∈ M, p.2.ok) (hN : N ≤ 64) (hsm : M.length < 1000) (node : Int) (v : Vt) (t : List UInt8) (hn : I64 node) (hv : v.ok) (ht : t.length = 16) (hkk : v.kind = 2) :
    Calls Try.prog 15 #[.pointer (some ⟨rb, 0, none⟩), .int .i64 node, vval v, tval t] w (RAddPost w rb N (addP (N : Int) M node v t)) := by
  have hput : OnOk (ones (putM M (v.kind, node) (v, t))) := fun a ha => by
    obtain ⟨p, hp, rfl⟩ := List.mem_map.1 ha
    rcases putM_mem hp with rfl | hp
    · exact ⟨hn, hv, ht⟩
    · have := hi.each p hp
      exact ⟨i64_of (by simp only; omega) (by simp only; omega), (hok p hp).vote, (hok p hp).tag⟩
  have hpl := putM_len M (v.kind, node) (v, t)
  have hps : (ones (putM M (v.kind, node) (v, t))).length ≤ 1000 := by unfold ones; rw [List.length_map]; omega
  have hlk := look_ones (fun p hp => (hi.each p hp).1) v.kind node
  have hcase := at_case (ones M) v.kind node
  have hnew := fun hl => ones_put_new (M := M) (k := (v.kind, node)) hl hap (v, t)
  have hold := fun i y hi => ones_put_old (M := M) (k := (v.kind, node)) (i := i) (y := y) hi hap (v, t)
  obtain ⟨r, hr⟩ : ∃ r, r = addP (N : Int) M node v t := ⟨_, rfl⟩
  rw [← hr]
  unfold addP at hr
  have HR := Lib.hid hr
  have H := Lib.hid h
  have HNV := Lib.hid (show VAct.ok ⟨node, v, t⟩ from ⟨hn, hv, ht⟩)
  have HPUT := Lib.hid hput
  have HPS := Lib.hid hps
  have HLK := Lib.hid hlk
  have HCASE := Lib.hid hcase
  have HNEW := Lib.hid hnew
  have HOLD := Lib.hid hold
  have HINV := Lib.hid hi
  clear hr h hn hv ht hput hps hlk hcase hnew hold hpl hi hap hok hsm
  go_enter Try.func15, Try.ntmps15
  obtain ⟨kind, hkd⟩ : ∃ kind, kind = v.kind := ⟨_, rfl⟩
  have HKD := Lib.hid hkd
  have HKK : Hid (kind = 2) := Lib.hid (by rw [hkd]; exact hkk)
  clear hkd hkk
  by_cases h1 : node < 0
  · have hr := HR.out
    rw [if_pos (.inl h1)] at hr
    subst hr
    go_wp2_with (first | ((with_reducible show wpList _ _ _ (⟨some 6, _, _, _, _, _⟩ :: _) _ _); refine wpList_box_big rfl 30 _ rfl (vcells v).toArray rfl ?_; intro vb w1 HVB hb1 hbl1 HS1) | ((with_reducible show wpList _ _ _ (⟨some 7, _, _, _, _, _⟩ :: _) _ _); refine wpList_box_big rfl 32 _ rfl (bv t).toArray rfl ?_; intro tb w2 HTB hb2 hbl2 HS2; have hbl := hbl1.trans (Below.up hbl2 hbl1.size); have HH2 := Lib.hid (H.out.below hbl); obtain ⟨A0, c00, hbk0, _⟩ := HH2.out.read; have c0 : w2.cell? ⟨rb, 0, none⟩ = some (.int .i64 (N : Int)) := hbk0.cell 0; have k0 := (vote_cells (hb1.below hbl2)).1; rw [← HKD.out] at k0))
    go_ret
    exact ⟨rfl, HH2.out, Fr.of_below hbl⟩
  · by_cases h2 : (N : Int) ≤ node
    · have hr := HR.out
      rw [if_pos (.inr h2)] at hr
      subst hr
      go_wp2_with (first | ((with_reducible show wpList _ _ _ (⟨some 6, _, _, _, _, _⟩ :: _) _ _); refine wpList_box_big rfl 30 _ rfl (vcells v).toArray rfl ?_; intro vb w1 HVB hb1 hbl1 HS1) | ((with_reducible show wpList _ _ _ (⟨some 7, _, _, _, _, _⟩ :: _) _ _); refine wpList_box_big rfl 32 _ rfl (bv t).toArray rfl ?_; intro tb w2 HTB hb2 hbl2 HS2; have hbl := hbl1.trans (Below.up hbl2 hbl1.size); have HH2 := Lib.hid (H.out.below hbl); obtain ⟨A0, c00, hbk0, _⟩ := HH2.out.read; have c0 : w2.cell? ⟨rb, 0, none⟩ = some (.int .i64 (N : Int)) := hbk0.cell 0; have k0 := (vote_cells (hb1.below hbl2)).1; rw [← HKD.out] at k0))
      go_ret
      exact ⟨rfl, HH2.out, Fr.of_below hbl⟩
    · have hr := HR.out
      rw [if_neg (by omega)] at hr
      have HR := Lib.hid hr
      clear hr
      have hr := HR.out
      rw [if_neg (by rw [← HKD.out]; have := HKK.out; omega)] at hr
      have HR := Lib.hid hr
      clear hr
      obtain rfl : kind = 2 := HKK.out
      clear HKK
      · go_wp2_with (first | ((with_reducible show wpList _ _ _ (⟨some 6, _, _, _, _, _⟩ :: _) _ _); refine wpList_box_big rfl 30 _ rfl (vcells v).toArray rfl ?_; intro vb w1 HVB hb1 hbl1 HS1) | ((with_reducible show wpList _ _ _ (⟨some 7, _, _, _, _, _⟩ :: _) _ _); refine wpList_box_big rfl 32 _ rfl (bv t).toArray rfl ?_; intro tb w2 HTB hb2 hbl2 HS2; have hbl := hbl1.trans (Below.up hbl2 hbl1.size); have HH2 := Lib.hid (H.out.below hbl); obtain ⟨A0, c00, hbk0, _⟩ := HH2.out.read; have c0 : w2.cell? ⟨rb, 0, none⟩ = some (.int .i64 (N : Int)) := hbk0.cell 0; have k0 := (vote_cells (hb1.below hbl2)).1; rw [← HKD.out] at k0))
        have hvb := HVB.out
        have htb := HTB.out
        have hs1 := HS1.out
        have hs2 := HS2.out
        have HB1 := Lib.hid (hb1.below hbl2)
        have HB2 := Lib.hid hb2
        have HBL := Lib.hid hbl
        have hvt : vb < tb ∧ tb < w2.heap.size ∧ w.heap.size ≤ vb := by omega
        have hrw : rb < w.heap.size := H.out.lt
        clear hbk0 hb1 hb2 hbl1 hbl2 hbl hvb htb hs1 hs2 HVB HTB HS1 HS2 c0 k0
        have hcall := at_any w2 HH2.out 2 node
        have hcase := HCASE.out
        rw [← HKD.out] at hcase
        generalize atP (ones M) 2 node = k0 at hcall hcase
        refine hcall.mono ?_
        rintro e w' ⟨rfl, rfl⟩
        clear hcall
        have hlk := HLK.out
        rw [← HKD.out] at hlk
        rcases hcase with ⟨hk0, hnone⟩ | ⟨k, a, rfl, hka, hsome⟩
        · have l0 : k0 < 0 := by omega
          rw [hnone] at hlk
          have hlk : lookM M (2, node) = none := hlk
          have hr := HR.out
          rw [← HKD.out, hlk, if_pos (.inl rfl)] at hr
          have hones := HNEW.out (by rw [← HKD.out]; exact hlk)
          rw [HKD.out] at hr
          have HONES := Lib.hid hones
          have HRR := Lib.hid hr
          clear hk0 hnone hlk hr hones HR HCASE HLK HNEW HOLD
          dsimp only
          go_wp2_with (first | ((with_reducible show wpList _ _ _ (⟨some 38, _, _, _, _, _⟩ :: _) _ _); refine wpList_val rfl (load_vote HNV.out.vote (range_of_blk HB1.out) rfl rfl) ?_) | ((with_reducible show wpList _ _ _ (⟨some 39, _, _, _, _, _⟩ :: _) _ _); refine wpList_val rfl (load_tag HNV.out.tag (range_of_blk HB2.out) rfl rfl) ?_) | ((with_reducible show wpList _ _ _ (⟨some 40, _, _, _, _, _⟩ :: _) _ _); refine wpList_val rfl (exec_build3 _ _ _ _ _ _ _ _ _ _ rfl rfl rfl rfl _ (built_one70 HNV.out.vote HNV.out.tag)) ?_) | ((with_reducible show wpList _ _ _ (⟨some 10, _, _, _, _, _⟩ :: _) _ _); refine wpList_alloc_big rfl 70 rfl (acells zeroA).toArray 53 (by kernel_rfl) ?_; intro xb w3 HXB hb3 hbl3 HS3) | ((with_reducible show wpList _ _ _ (⟨none, .store 70 _ _, _, _, _, _⟩ :: _) _ _); refine wpList_store_big rfl 70 _ _ rfl _ rfl (acells ⟨node, v, t⟩) rfl _ _ hb3 (size70 HNV.out) (by rw [acells_len HNV.out]; rfl) (acells_one _) ?_; intro w4 hb4 hf4 HS4))
          --NONE[
          have hxb := HXB.out
          have hs3 := HS3.out
          have hs4 := HS4.out
          have hb24 : Below w2.heap.size w2 w4 := below_fr hbl3 hf4 (by omega)
          have HH4 := Lib.hid (HH2.out.below hb24)
          obtain ⟨A, c, hbk, hvr⟩ := HH4.out.read
          have c1 : w4.cell? ⟨rb, 1, none⟩ = some (.slice A (ones M).length c) := hbk.cell 1
          have HBL4 := Lib.hid (HBL.out.trans (Below.up hb24 HBL.out.size))
          have hx4 : Hid (w4.drew.rangeAt xb 0 (acells ⟨node, v, t⟩)) := Lib.hid (range_of_blk hb4)
          have HVR := Lib.hid hvr
          have HBK := Lib.hid hbk
          have hrx : rb < xb ∧ xb < w4.heap.size := ⟨by omega, by omega⟩
          have HOK := Lib.hid HH4.out.ok
          have HSM := Lib.hid HH4.out.small
          have HSS : Hid (∀ W : World, Below w4.heap.size w4 W → W.cell? ⟨rb, 1, none⟩ = some (.slice A (ones M).length c) ∧ W.rangeAt xb 0 (acells ⟨node, v, t⟩)) := Lib.hid fun W hb => ⟨cell_bl (hbk.cell 1) hb, range_below (range_of_blk hb4) hb⟩
          have B4 : Hid (Below w4.heap.size w4 w4.drew) := Lib.hid (Below.refl w4.heap.size w4).drew
          clear hxb hs3 hs4 hb24 hbk hvr hx4 hb3 hbl3 hb4 hf4 HXB HS3 HS4 c1
          have HSS4 := HSS.out w4.drew B4.out
          refine wp_region_phased (fun W => W.cell? ⟨rb, 1, none⟩ = some (.slice A (ones M).length c) ∧ W.rangeAt xb 0 (acells ⟨node, v, t⟩)) 12 (by kernel_rfl) HSS4 (fun hS => ?_)
          clear HSS4
          refine wpAnyP_pure (v := ?_) 0 (at_toArray rfl) (by kernel_rfl) (by kernel_rfl) (by kernel_rfl) (fun _ _ _ h => h) (Or.inl ⟨by rfl, fun W => ?_⟩) ?_
          rotate_left 1
          · (go_simp <;> (try go_bits) <;> with_reducible rfl)
          simp only [Act.put, List.setIfInBounds_toArray, List.set_cons_zero, List.set_cons_succ]
          refine wpAnyP_pure (v := ?_) 2 (at_toArray rfl) (by kernel_rfl) (by kernel_rfl) (by kernel_rfl) (fun _ _ _ h => h) (Or.inl ⟨by rfl, fun W => ?_⟩) ?_
          rotate_left 1
          · (go_simp <;> (try go_bits) <;> with_reducible rfl)
          simp only [Act.put, List.setIfInBounds_toArray, List.set_cons_zero, List.set_cons_succ]
          refine wpAnyP_pure (v := ?_) 3 (at_toArray rfl) (by kernel_rfl) (by kernel_rfl) (by kernel_rfl) (fun _ _ _ h => h) (Or.inl ⟨by rfl, fun W => ?_⟩) ?_
          rotate_left 1
          · (go_simp <;> (try go_bits) <;> with_reducible rfl)
          simp only [Act.put, List.setIfInBounds_toArray, List.set_cons_zero, List.set_cons_succ]
          refine wpAnyP_pure (v := ?_) 4 (at_toArray rfl) (by kernel_rfl) (by kernel_rfl) (by kernel_rfl) (fun _ _ _ h => h) (Or.inl ⟨by rfl, fun W => ?_⟩) ?_
          rotate_left 1
          · (go_simp <;> (try go_bits) <;> with_reducible rfl)
          simp only [Act.put, List.setIfInBounds_toArray, List.set_cons_zero, List.set_cons_succ]
          refine wpAnyP_load (v := ?_) 5 (by kernel_rfl) (at_toArray rfl) (by kernel_rfl) (by kernel_rfl) (by kernel_rfl) (fun _ _ _ h => h) (by first | assumption | rfl) (Or.inl ⟨by rfl, fun W hS => ?_⟩) ?_
          rotate_left 1
          · (obtain ⟨s1, s2⟩ := hS; go_simp <;> (try go_bits) <;> with_reducible rfl)
          simp only [Act.put, List.setIfInBounds_toArray, List.set_cons_zero, List.set_cons_succ]
          refine wpAnyP_load (v := (.agg (acells ⟨node, v, t⟩).toArray)) 7 (by kernel_rfl) (at_toArray rfl) (by kernel_rfl) (by kernel_rfl) (by kernel_rfl) (fun _ _ _ h => h) (by first | assumption | rfl) (Or.inl ⟨by rfl, fun W hS => (by obtain ⟨s1, s2⟩ := hS; exact load_one70 HNV.out s2 rfl rfl)⟩) ?_
          simp only [Act.put, List.setIfInBounds_toArray, List.set_cons_zero, List.set_cons_succ]
          refine wpAnyP_two 1 8 (at_toArray rfl) (at_toArray rfl) (by kernel_rfl) rfl rfl (fun K hK => ?_) (fun K hK => ?_)
          · refine wp_bslice0 rfl (rb + 1) (by have := B4.out.size; omega) fun gb w5 hO hgb hb hsz => ?_
            have B5 := Lib.hid (B4.out.trans (Below.up hb B4.out.size))
            have HO := Lib.hid hO
            have hgb := hgb.out
            have hwi := B4.out.size
            have hgl : w4.heap.size ≤ gb ∧ gb < w5.heap.size := by have := hsz.out; omega
            have hS5 := HSS.out w5 B5.out
            refine hK.out _ _ (fun _ _ => hS5) ?_
            clear hK hO hb hsz hwi
            refine wpAnyP_two 6 8 (at_toArray rfl) (at_toArray rfl) (by kernel_rfl) rfl rfl (fun K hK => ?_) (fun K hK => ?_)
            · refine wp_append_ones _ _ rfl (rb + 1) _ [] rfl HO.out (by have := B5.out.size; omega) A (ones M).length c rfl (ones M) rfl HOK.out (HVR.out.below B5.out) (by have := HSM.out; simp only [List.length_nil]; omega) ?_
              intro v6 w6 hO6 hg6 ha6
              have hf6 : Fr (fun k => k = gb) w5 w6 := Fr.grown hg6 (fun k hk => by cases hk; rfl)
              have B6 := Lib.hid (below_fr B5.out hf6 hgl.1)
              have HO6 := Lib.hid hO6
              have hwi := B5.out.size
              have h6 : ∀ k, v6.ownBlock = some k → w4.heap.size ≤ k := fun k hk => by
                rcases ha6 with e | e
                · rw [e] at hk; cases hk; exact hgl.1
                · rw [e] at hk; cases hk; exact hwi
              have H6 := Lib.hid h6
              have hS6 := HSS.out w6 B6.out
              refine hK.out _ _ (fun _ _ => hS6) ?_
              clear hK hO6 hg6 ha6 hf6 hwi h6
              refine wpAnyP_one 8 (at_toArray rfl) (by kernel_rfl) rfl (fun K hK => ?_)
              refine wp_bslice1 _ rfl ⟨node, v, t⟩ rfl HNV.out fun sb w7 hsb hB hb hsz => ?_
              have B7 := Lib.hid (B6.out.trans (Below.up hb B6.out.size))
              have HSB := Lib.hid hB
              have hsb := hsb.out
              have hwi := B6.out.size
              have hsl : w4.heap.size ≤ sb ∧ sb < w7.heap.size := by have := hsz.out; omega
              have HO6 := Lib.hid (HO6.out.below hb)
              have hS7 := HSS.out w7 B7.out
              refine hK.out _ _ (fun _ _ => hS7) ?_
              clear hK hB hb hsz hwi
              refine wpAnyP_one 9 (at_toArray rfl) (by kernel_rfl) rfl (fun K hK => ?_)
              refine wp_append_ones _ _ rfl (rb + 1) v6 (ones M) rfl HO6.out (by have := B7.out.size; omega) (some ⟨sb, 0, none⟩) 1 1 rfl [⟨node, v, t⟩] rfl (onok_one HNV.out) (vr_one HSB.out) (by have := HSM.out; simp only [List.length_cons, List.length_nil]; omega) ?_
              intro v9 w9 hO9 hg9 ha9
              have hf9 : Fr (fun k => v6.ownBlock = some k) w7 w9 := Fr.grown hg9 (fun k hk => hk)
              have B9 := Lib.hid (Fr.below B7.out hf9 (fun k hk => H6.out k hk))
              have hS9 := HSS.out w9 B9.out
              refine hK.out _ _ (fun _ _ => hS9) ?_
              obtain ⟨A9, n9, c9, rfl⟩ := hO9.form2
              have HO9 := Lib.hid hO9
              clear hK hO9 hg9 ha9 hf9 hS9
              refine wpAnyP_pure (v := ?_) 10 (at_toArray rfl) (by kernel_rfl) (by kernel_rfl) (by kernel_rfl) (fun _ _ _ h => h) (Or.inl ⟨by rfl, fun W => ?_⟩) ?_
              rotate_left 1
              · (go_simp <;> (try go_bits) <;> with_reducible rfl)
              simp only [Act.put, List.setIfInBounds_toArray, List.set_cons_zero, List.set_cons_succ]
              refine wpAnyP_pure (v := ?_) 11 (at_toArray rfl) (by kernel_rfl) (by kernel_rfl) (by kernel_rfl) (fun _ _ _ h => h) (Or.inl ⟨by rfl, fun W => ?_⟩) ?_
              rotate_left 1
              · (go_simp <;> (try go_bits) <;> with_reducible rfl)
              simp only [Act.put, List.setIfInBounds_toArray, List.set_cons_zero, List.set_cons_succ]
              have hb9 := HBK.out.below B9.out
              have e9 : w9.cell? ⟨rb, 1, none⟩ = some (.slice A (ones M).length c) := hb9.cell 1
              have g9 : w9.frozen? ⟨rb, 1, none⟩ = false := hb9.free 1
              have HB9 := Lib.hid hb9
              clear hb9
              refine wpAnyP_one 12 (at_toArray rfl) (by kernel_rfl) rfl (fun K hK => ?_)
              go_wp2_with fail
              refine hK.out _ _ (fun h => absurd h (by decide)) ?_
              clear hK
              refine wpAnyP_done (by kernel_rfl) ?_ _
              obtain ⟨q1, q2⟩ := radd_end HB9.out hrw HO9.out (by rw [← HONES.out]; exact HPUT.out) (by rw [← HONES.out]; exact HPS.out) (HBL4.out.trans (Below.up B9.out HBL4.out.size))
              have Q1 := Lib.hid q1
              have Q2 := Lib.hid q2
              clear q1 q2 e9 g9 hS
              go_wp2_with fail
              go_ret
              rw [HRR.out]
              refine ⟨rfl, ?_, Q2.out⟩
              rw [HONES.out]
              exact Q1.out
            · refine wp_bslice1 _ rfl ⟨node, v, t⟩ rfl HNV.out fun sb w6 hsb hB hb hsz => ?_
              have B6 := Lib.hid (B5.out.trans (Below.up hb B5.out.size))
              have HSB := Lib.hid hB
              have hsb := hsb.out
              have hwi := B5.out.size
              have hsl : w4.heap.size ≤ sb ∧ sb < w6.heap.size := by have := hsz.out; omega
              have HO := Lib.hid (HO.out.below hb)
              have hne : sb ≠ gb := by omega
              have hgl : w4.heap.size ≤ gb ∧ gb < w6.heap.size := by have := hb.size; omega
              have hS6 := HSS.out w6 B6.out
              refine hK.out _ _ (fun _ _ => hS6) ?_
              clear hK hB hb hsz hwi
              refine wpAnyP_one 6 (at_toArray rfl) (by kernel_rfl) rfl (fun K hK => ?_)
              refine wp_append_ones _ _ rfl (rb + 1) _ [] rfl HO.out (by have := B6.out.size; omega) A (ones M).length c rfl (ones M) rfl HOK.out (HVR.out.below B6.out) (by have := HSM.out; simp only [List.length_nil]; omega) ?_
              intro v6 w7 hO6 hg6 ha6
              have hf6 : Fr (fun k => k = gb) w6 w7 := Fr.grown hg6 (fun k hk => by cases hk; rfl)
              have B7 := Lib.hid (below_fr B6.out hf6 hgl.1)
              have HO6 := Lib.hid hO6
              have hwi := B6.out.size
              have h6 : ∀ k, v6.ownBlock = some k → w4.heap.size ≤ k := fun k hk => by
                rcases ha6 with e | e
                · rw [e] at hk; cases hk; exact hgl.1
                · rw [e] at hk; cases hk; exact hwi
              have HSB := Lib.hid (HSB.out.fr hf6 hne)
              have H6 := Lib.hid h6
              have hS7 := HSS.out w7 B7.out
              refine hK.out _ _ (fun _ _ => hS7) ?_
              clear hK hO6 hg6 ha6 hf6 hwi h6
              refine wpAnyP_one 9 (at_toArray rfl) (by kernel_rfl) rfl (fun K hK => ?_)
              refine wp_append_ones _ _ rfl (rb + 1) v6 (ones M) rfl HO6.out (by have := B7.out.size; omega) (some ⟨sb, 0, none⟩) 1 1 rfl [⟨node, v, t⟩] rfl (onok_one HNV.out) (vr_one HSB.out) (by have := HSM.out; simp only [List.length_cons, List.length_nil]; omega) ?_
              intro v9 w9 hO9 hg9 ha9
              have hf9 : Fr (fun k => v6.ownBlock = some k) w7 w9 := Fr.grown hg9 (fun k hk => hk)
              have B9 := Lib.hid (Fr.below B7.out hf9 (fun k hk => H6.out k hk))
              have hS9 := HSS.out w9 B9.out
              refine hK.out _ _ (fun _ _ => hS9) ?_
              obtain ⟨A9, n9, c9, rfl⟩ := hO9.form2
              have HO9 := Lib.hid hO9
              clear hK hO9 hg9 ha9 hf9 hS9
              refine wpAnyP_pure (v := ?_) 10 (at_toArray rfl) (by kernel_rfl) (by kernel_rfl) (by kernel_rfl) (fun _ _ _ h => h) (Or.inl ⟨by rfl, fun W => ?_⟩) ?_
              rotate_left 1
              · (go_simp <;> (try go_bits) <;> with_reducible rfl)
              simp only [Act.put, List.setIfInBounds_toArray, List.set_cons_zero, List.set_cons_succ]
              refine wpAnyP_pure (v := ?_) 11 (at_toArray rfl) (by kernel_rfl) (by kernel_rfl) (by kernel_rfl) (fun _ _ _ h => h) (Or.inl ⟨by rfl, fun W => ?_⟩) ?_
              rotate_left 1
              · (go_simp <;> (try go_bits) <;> with_reducible rfl)
              simp only [Act.put, List.setIfInBounds_toArray, List.set_cons_zero, List.set_cons_succ]
              have hb9 := HBK.out.below B9.out
              have e9 : w9.cell? ⟨rb, 1, none⟩ = some (.slice A (ones M).length c) := hb9.cell 1
              have g9 : w9.frozen? ⟨rb, 1, none⟩ = false := hb9.free 1
              have HB9 := Lib.hid hb9
              clear hb9
              refine wpAnyP_one 12 (at_toArray rfl) (by kernel_rfl) rfl (fun K hK => ?_)
              go_wp2_with fail
              refine hK.out _ _ (fun h => absurd h (by decide)) ?_
              clear hK
              refine wpAnyP_done (by kernel_rfl) ?_ _
              obtain ⟨q1, q2⟩ := radd_end HB9.out hrw HO9.out (by rw [← HONES.out]; exact HPUT.out) (by rw [← HONES.out]; exact HPS.out) (HBL4.out.trans (Below.up B9.out HBL4.out.size))
              have Q1 := Lib.hid q1
              have Q2 := Lib.hid q2
              clear q1 q2 e9 g9 hS
              go_wp2_with fail
              go_ret
              rw [HRR.out]
              refine ⟨rfl, ?_, Q2.out⟩
              rw [HONES.out]
              exact Q1.out
          · refine wp_bslice1 _ rfl ⟨node, v, t⟩ rfl HNV.out fun sb w5 hsb hB hb hsz => ?_
            have B5 := Lib.hid (B4.out.trans (Below.up hb B4.out.size))
            have HSB := Lib.hid hB
            have hsb := hsb.out
            have hwi := B4.out.size
            have hsl : w4.heap.size ≤ sb ∧ sb < w5.heap.size := by have := hsz.out; omega
            have hS5 := HSS.out w5 B5.out
            refine hK.out _ _ (fun _ _ => hS5) ?_
            clear hK hB hb hsz hwi
            refine wpAnyP_one 1 (at_toArray rfl) (by kernel_rfl) rfl (fun K hK => ?_)
            refine wp_bslice0 rfl (rb + 1) (by have := B5.out.size; omega) fun gb w6 hO hgb hb hsz => ?_
            have B6 := Lib.hid (B5.out.trans (Below.up hb B5.out.size))
            have HO := Lib.hid hO
            have hgb := hgb.out
            have hwi := B5.out.size
            have hgl : w4.heap.size ≤ gb ∧ gb < w6.heap.size := by have := hsz.out; omega
            have HSB := Lib.hid (HSB.out.below hb)
            have hsl : w4.heap.size ≤ sb ∧ sb < w6.heap.size := by have := hb.size; omega
            have hne : sb ≠ gb := by omega
            have hS6 := HSS.out w6 B6.out
            refine hK.out _ _ (fun _ _ => hS6) ?_
            clear hK hO hb hsz hwi
            refine wpAnyP_one 6 (at_toArray rfl) (by kernel_rfl) rfl (fun K hK => ?_)
            refine wp_append_ones _ _ rfl (rb + 1) _ [] rfl HO.out (by have := B6.out.size; omega) A (ones M).length c rfl (ones M) rfl HOK.out (HVR.out.below B6.out) (by have := HSM.out; simp only [List.length_nil]; omega) ?_
            intro v6 w7 hO6 hg6 ha6
            have hf6 : Fr (fun k => k = gb) w6 w7 := Fr.grown hg6 (fun k hk => by cases hk; rfl)
            have B7 := Lib.hid (below_fr B6.out hf6 hgl.1)
            have HO6 := Lib.hid hO6
            have hwi := B6.out.size
            have h6 : ∀ k, v6.ownBlock = some k → w4.heap.size ≤ k := fun k hk => by
              rcases ha6 with e | e
              · rw [e] at hk; cases hk; exact hgl.1
              · rw [e] at hk; cases hk; exact hwi
            have HSB := Lib.hid (HSB.out.fr hf6 hne)
            have H6 := Lib.hid h6
            have hS7 := HSS.out w7 B7.out
            refine hK.out _ _ (fun _ _ => hS7) ?_
            clear hK hO6 hg6 ha6 hf6 hwi h6
            refine wpAnyP_one 9 (at_toArray rfl) (by kernel_rfl) rfl (fun K hK => ?_)
            refine wp_append_ones _ _ rfl (rb + 1) v6 (ones M) rfl HO6.out (by have := B7.out.size; omega) (some ⟨sb, 0, none⟩) 1 1 rfl [⟨node, v, t⟩] rfl (onok_one HNV.out) (vr_one HSB.out) (by have := HSM.out; simp only [List.length_cons, List.length_nil]; omega) ?_
            intro v9 w9 hO9 hg9 ha9
            have hf9 : Fr (fun k => v6.ownBlock = some k) w7 w9 := Fr.grown hg9 (fun k hk => hk)
            have B9 := Lib.hid (Fr.below B7.out hf9 (fun k hk => H6.out k hk))
            have hS9 := HSS.out w9 B9.out
            refine hK.out _ _ (fun _ _ => hS9) ?_
            obtain ⟨A9, n9, c9, rfl⟩ := hO9.form2
            have HO9 := Lib.hid hO9
            clear hK hO9 hg9 ha9 hf9 hS9
            refine wpAnyP_pure (v := ?_) 10 (at_toArray rfl) (by kernel_rfl) (by kernel_rfl) (by kernel_rfl) (fun _ _ _ h => h) (Or.inl ⟨by rfl, fun W => ?_⟩) ?_
            rotate_left 1
            · (go_simp <;> (try go_bits) <;> with_reducible rfl)
            simp only [Act.put, List.setIfInBounds_toArray, List.set_cons_zero, List.set_cons_succ]
            refine wpAnyP_pure (v := ?_) 11 (at_toArray rfl) (by kernel_rfl) (by kernel_rfl) (by kernel_rfl) (fun _ _ _ h => h) (Or.inl ⟨by rfl, fun W => ?_⟩) ?_
            rotate_left 1
            · (go_simp <;> (try go_bits) <;> with_reducible rfl)
            simp only [Act.put, List.setIfInBounds_toArray, List.set_cons_zero, List.set_cons_succ]
            have hb9 := HBK.out.below B9.out
            have e9 : w9.cell? ⟨rb, 1, none⟩ = some (.slice A (ones M).length c) := hb9.cell 1
            have g9 : w9.frozen? ⟨rb, 1, none⟩ = false := hb9.free 1
            have HB9 := Lib.hid hb9
            clear hb9
            refine wpAnyP_one 12 (at_toArray rfl) (by kernel_rfl) rfl (fun K hK => ?_)
            go_wp2_with fail
            refine hK.out _ _ (fun h => absurd h (by decide)) ?_
            clear hK
            refine wpAnyP_done (by kernel_rfl) ?_ _
            obtain ⟨q1, q2⟩ := radd_end HB9.out hrw HO9.out (by rw [← HONES.out]; exact HPUT.out) (by rw [← HONES.out]; exact HPS.out) (HBL4.out.trans (Below.up B9.out HBL4.out.size))
            have Q1 := Lib.hid q1
            have Q2 := Lib.hid q2
            clear q1 q2 e9 g9 hS
            go_wp2_with fail
            go_ret
            rw [HRR.out]
            refine ⟨rfl, ?_, Q2.out⟩
            rw [HONES.out]
            exact Q1.out
          --NONE]
        · skip
          --SOME[
          have hlk2 : lookM M (2, node) = some (a.vote, a.tag) := by rw [hlk, hsome]; rfl
          have hx : lookX M (2, node) = (a.vote, a.tag) := by unfold lookX; rw [hlk2]; rfl
          have hr0 := HR.out
          rw [← HKD.out, hlk2, hx] at hr0
          have hr : r = if a.vote.view < v.view then (0, putM M (2, node) (v, t)) else if a.vote = v then (0, M) else if a.vote.view = v.view then (181, M) else (90, M) := by rw [hr0]; simp
          have hset : ones (putM M (v.kind, node) (v, t)) = (ones M).set k ⟨node, v, t⟩ := by
            obtain ⟨y, hy⟩ := isAt_old HINV.out hka (find_isAt hsome)
            exact HOLD.out k y (by rw [← HKD.out]; exact hy)
          have HSET := Lib.hid hset
          rw [HKD.out] at hr
          have HRR := Lib.hid hr
          have HKA := Lib.hid hka
          have l0 : 0 ≤ (k : Int) := by omega
          clear hlk2 hx hr0 hr hset hka hsome hlk HR HCASE HLK HNEW HOLD
          dsimp only
          obtain ⟨xw, hxw⟩ : ∃ xw, xw = a.vote.view := ⟨_, rfl⟩
          obtain ⟨vw, hvw⟩ : ∃ vw, vw = v.view := ⟨_, rfl⟩
          have hr := HRR.out
          rw [← hxw, ← hvw] at hr
          have HRR := Lib.hid hr
          have HXW := Lib.hid hxw
          have HVW := Lib.hid hvw
          clear hr hxw hvw
          have HOK := Lib.hid HH2.out.ok
          have hsm := HH2.out.small
          obtain ⟨A, c, hbk, hvr⟩ := HH2.out.read
          obtain ⟨n, hn⟩ : ∃ n, n = (ones M).length := ⟨_, rfl⟩
          have hkn : k < n := by rw [hn]; exact (List.getElem?_eq_some_iff.1 HKA.out).1
          rw [← hn] at hbk hsm
          have HN := Lib.hid hn
          have HBK := Lib.hid hbk
          have HVR := Lib.hid hvr
          have HA : Hid a.ok := Lib.hid (HOK.out a (List.mem_of_getElem? HKA.out))
          obtain ⟨b5, off, hAe, hc⟩ := hvr k a HKA.out
          subst hAe
          have hs1 := act_vote hc
          have HSS : Hid (∀ W : World, Below w2.heap.size w2 W → W.cell? ⟨rb, 1, none⟩ = some (.slice (some ⟨b5, off, none⟩) n c) ∧ W.rangeAt b5 (off + k * 53 + 1) (vcells a.vote)) := Lib.hid fun W hb => ⟨cell_bl (hbk.cell 1) hb, range_below hs1 hb⟩
          have l1 : (k : Int) < (n : Int) := by omega
          have l0 : decide ((k : Int) < 0) = false := by simp
          clear hbk hvr hc hs1 hn
          by_cases hxe : a.vote = v
          · have hr := HRR.out
            rw [if_neg (by rw [HXW.out, HVW.out, hxe]; omega), if_pos hxe] at hr
            subst hr
            have HD := Lib.hid (show decide (a.vote = v) = true from decide_eq_true hxe)
            clear hxe
            go_wp2_with (first | ((with_reducible show wpList _ _ _ (⟨some 38, _, _, _, _, _⟩ :: _) _ _); refine wpList_val rfl (load_vote HNV.out.vote (range_of_blk HB1.out) rfl rfl) ?_) | ((with_reducible show wpList _ _ _ (⟨some 39, _, _, _, _, _⟩ :: _) _ _); refine wpList_val rfl (load_tag HNV.out.tag (range_of_blk HB2.out) rfl rfl) ?_) | ((with_reducible show wpList _ _ _ (⟨some 40, _, _, _, _, _⟩ :: _) _ _); refine wpList_val rfl (exec_build3 _ _ _ _ _ _ _ _ _ _ rfl rfl rfl rfl _ (built_one70 HNV.out.vote HNV.out.tag)) ?_) | ((with_reducible show wpList _ _ _ (⟨some 10, _, _, _, _, _⟩ :: _) _ _); refine wpList_alloc_big rfl 70 rfl (acells zeroA).toArray 53 (by kernel_rfl) ?_; intro xb w3 HXB hb3 hbl3 HS3) | ((with_reducible show wpList _ _ _ (⟨none, .store 70 _ _, _, _, _, _⟩ :: _) _ _); refine wpList_store_big rfl 70 _ _ rfl _ rfl (acells ⟨node, v, t⟩) rfl _ _ hb3 (size70 HNV.out) (by rw [acells_len HNV.out]; rfl) (acells_one _) ?_; intro w4 hb4 hf4 HS4; obtain ⟨q1, q2, q3, q4⟩ := radd_mid1 HXB HS3 HS4 hbl3 hb4 hf4; have B4 := Lib.hid q1; have HX4 := Lib.hid q2; have hxl := q3; have C1 := Lib.hid (HSS.out w4 q1).2; have c1 := (HSS.out w4 q1).1; clear q1 q2 q3 q4 HXB HS3 HS4 hbl3 hb3 hb4 hf4) | ((with_reducible show wpList _ _ _ (⟨some 62, _, _, _, _, _⟩ :: _) _ _); refine wpList_val rfl (load_vote HA.out.vote C1.out rfl rfl) ?_) | ((with_reducible show wpList _ _ _ (⟨some 11, _, _, _, _, _⟩ :: _) _ _); refine wpList_alloc_big rfl 30 rfl (vcells zeroV).toArray 36 (by kernel_rfl) ?_; intro ob w5 HOB hb5 hbl5 HS5) | ((with_reducible show wpList _ _ _ (⟨none, .store 30 _ _, _, _, _, _⟩ :: _) _ _); refine wpList_store_big rfl 30 _ _ rfl _ rfl (vcells a.vote) rfl _ _ hb5 (sizeVote HA.out.vote) (by rw [vcells_len HA.out.vote]; rfl) (vcells_one _) ?_; intro w6 hb6 hf6 HS6; obtain ⟨q1, q2, q3, q4⟩ := radd_mid1 HOB HS5 HS6 hbl5 hb6 hf6; have h46 := q1.size; have B6 := Lib.hid (B4.out.trans (Below.up q1 B4.out.size)); have HOB6 := Lib.hid hb6; have HX6 := Lib.hid (HX4.out.below q1); have HB6 := Lib.hid (HB1.out.below B6.out); have c1 := (HSS.out w6 B6.out).1; have x2 := (vote_cells hb6).2.2.1; rw [← HXW.out] at x2; have v2 := (vote_cells HB6.out).2.2.1; rw [← HVW.out] at v2; clear q1 q2 q3 q4 HOB HS5 HS6 hbl5 hb5 hb6 hf6) | ((with_reducible show wpList _ _ _ (⟨some 63, _, _, _, _, _⟩ :: _) _ _); refine wpList_val rfl (load_vote HA.out.vote (range_of_blk HOB6.out) rfl rfl) ?_) | ((with_reducible show wpList _ _ _ (⟨some 64, _, _, _, _, _⟩ :: _) _ _); refine wpList_val rfl (load_vote HNV.out.vote (range_of_blk HB6.out) rfl rfl) ?_) | ((with_reducible show wpList _ _ _ (⟨some 65, _, _, _, _, _⟩ :: _) _ _); refine wpList_val rfl (vote_eqlB _ HD.out HA.out.vote HNV.out.vote rfl rfl rfl) ?_))
            go_ret
            exact ⟨rfl, HH2.out.below B6.out, Fr.of_below (HBL.out.trans (Below.up B6.out HBL.out.size))⟩
          · have HD := Lib.hid (show decide (a.vote = v) = false from decide_eq_false hxe)
            have HNE := Lib.hid hxe
            clear hxe
            by_cases hee : xw = vw
            · have hr := HRR.out
              rw [if_neg (by omega), if_neg HNE.out, if_pos hee] at hr
              subst hr
              have hd2 : (xw == vw) = true := by simp [hee]
              clear hee
              go_wp2_with (first | ((with_reducible show wpList _ _ _ (⟨some 38, _, _, _, _, _⟩ :: _) _ _); refine wpList_val rfl (load_vote HNV.out.vote (range_of_blk HB1.out) rfl rfl) ?_) | ((with_reducible show wpList _ _ _ (⟨some 39, _, _, _, _, _⟩ :: _) _ _); refine wpList_val rfl (load_tag HNV.out.tag (range_of_blk HB2.out) rfl rfl) ?_) | ((with_reducible show wpList _ _ _ (⟨some 40, _, _, _, _, _⟩ :: _) _ _); refine wpList_val rfl (exec_build3 _ _ _ _ _ _ _ _ _ _ rfl rfl rfl rfl _ (built_one70 HNV.out.vote HNV.out.tag)) ?_) | ((with_reducible show wpList _ _ _ (⟨some 10, _, _, _, _, _⟩ :: _) _ _); refine wpList_alloc_big rfl 70 rfl (acells zeroA).toArray 53 (by kernel_rfl) ?_; intro xb w3 HXB hb3 hbl3 HS3) | ((with_reducible show wpList _ _ _ (⟨none, .store 70 _ _, _, _, _, _⟩ :: _) _ _); refine wpList_store_big rfl 70 _ _ rfl _ rfl (acells ⟨node, v, t⟩) rfl _ _ hb3 (size70 HNV.out) (by rw [acells_len HNV.out]; rfl) (acells_one _) ?_; intro w4 hb4 hf4 HS4; obtain ⟨q1, q2, q3, q4⟩ := radd_mid1 HXB HS3 HS4 hbl3 hb4 hf4; have B4 := Lib.hid q1; have HX4 := Lib.hid q2; have hxl := q3; have C1 := Lib.hid (HSS.out w4 q1).2; have c1 := (HSS.out w4 q1).1; clear q1 q2 q3 q4 HXB HS3 HS4 hbl3 hb3 hb4 hf4) | ((with_reducible show wpList _ _ _ (⟨some 62, _, _, _, _, _⟩ :: _) _ _); refine wpList_val rfl (load_vote HA.out.vote C1.out rfl rfl) ?_) | ((with_reducible show wpList _ _ _ (⟨some 11, _, _, _, _, _⟩ :: _) _ _); refine wpList_alloc_big rfl 30 rfl (vcells zeroV).toArray 36 (by kernel_rfl) ?_; intro ob w5 HOB hb5 hbl5 HS5) | ((with_reducible show wpList _ _ _ (⟨none, .store 30 _ _, _, _, _, _⟩ :: _) _ _); refine wpList_store_big rfl 30 _ _ rfl _ rfl (vcells a.vote) rfl _ _ hb5 (sizeVote HA.out.vote) (by rw [vcells_len HA.out.vote]; rfl) (vcells_one _) ?_; intro w6 hb6 hf6 HS6; obtain ⟨q1, q2, q3, q4⟩ := radd_mid1 HOB HS5 HS6 hbl5 hb6 hf6; have h46 := q1.size; have B6 := Lib.hid (B4.out.trans (Below.up q1 B4.out.size)); have HOB6 := Lib.hid hb6; have HX6 := Lib.hid (HX4.out.below q1); have HB6 := Lib.hid (HB1.out.below B6.out); have c1 := (HSS.out w6 B6.out).1; have x2 := (vote_cells hb6).2.2.1; rw [← HXW.out] at x2; have v2 := (vote_cells HB6.out).2.2.1; rw [← HVW.out] at v2; clear q1 q2 q3 q4 HOB HS5 HS6 hbl5 hb5 hb6 hf6) | ((with_reducible show wpList _ _ _ (⟨some 63, _, _, _, _, _⟩ :: _) _ _); refine wpList_val rfl (load_vote HA.out.vote (range_of_blk HOB6.out) rfl rfl) ?_) | ((with_reducible show wpList _ _ _ (⟨some 64, _, _, _, _, _⟩ :: _) _ _); refine wpList_val rfl (load_vote HNV.out.vote (range_of_blk HB6.out) rfl rfl) ?_) | ((with_reducible show wpList _ _ _ (⟨some 65, _, _, _, _, _⟩ :: _) _ _); refine wpList_val rfl (vote_eqlB _ HD.out HA.out.vote HNV.out.vote rfl rfl rfl) ?_))
              go_ret
              exact ⟨rfl, HH2.out.below B6.out, Fr.of_below (HBL.out.trans (Below.up B6.out HBL.out.size))⟩
            · have hd2 : (xw == vw) = false := by simp [hee]
              by_cases hgt : vw < xw
              · have hr := HRR.out
                rw [if_neg (by omega), if_neg HNE.out, if_neg hee] at hr
                subst hr
                clear hee
                go_wp2_with (first | ((with_reducible show wpList _ _ _ (⟨some 38, _, _, _, _, _⟩ :: _) _ _); refine wpList_val rfl (load_vote HNV.out.vote (range_of_blk HB1.out) rfl rfl) ?_) | ((with_reducible show wpList _ _ _ (⟨some 39, _, _, _, _, _⟩ :: _) _ _); refine wpList_val rfl (load_tag HNV.out.tag (range_of_blk HB2.out) rfl rfl) ?_) | ((with_reducible show wpList _ _ _ (⟨some 40, _, _, _, _, _⟩ :: _) _ _); refine wpList_val rfl (exec_build3 _ _ _ _ _ _ _ _ _ _ rfl rfl rfl rfl _ (built_one70 HNV.out.vote HNV.out.tag)) ?_) | ((with_reducible show wpList _ _ _ (⟨some 10, _, _, _, _, _⟩ :: _) _ _); refine wpList_alloc_big rfl 70 rfl (acells zeroA).toArray 53 (by kernel_rfl) ?_; intro xb w3 HXB hb3 hbl3 HS3) | ((with_reducible show wpList _ _ _ (⟨none, .store 70 _ _, _, _, _, _⟩ :: _) _ _); refine wpList_store_big rfl 70 _ _ rfl _ rfl (acells ⟨node, v, t⟩) rfl _ _ hb3 (size70 HNV.out) (by rw [acells_len HNV.out]; rfl) (acells_one _) ?_; intro w4 hb4 hf4 HS4; obtain ⟨q1, q2, q3, q4⟩ := radd_mid1 HXB HS3 HS4 hbl3 hb4 hf4; have B4 := Lib.hid q1; have HX4 := Lib.hid q2; have hxl := q3; have C1 := Lib.hid (HSS.out w4 q1).2; have c1 := (HSS.out w4 q1).1; clear q1 q2 q3 q4 HXB HS3 HS4 hbl3 hb3 hb4 hf4) | ((with_reducible show wpList _ _ _ (⟨some 62, _, _, _, _, _⟩ :: _) _ _); refine wpList_val rfl (load_vote HA.out.vote C1.out rfl rfl) ?_) | ((with_reducible show wpList _ _ _ (⟨some 11, _, _, _, _, _⟩ :: _) _ _); refine wpList_alloc_big rfl 30 rfl (vcells zeroV).toArray 36 (by kernel_rfl) ?_; intro ob w5 HOB hb5 hbl5 HS5) | ((with_reducible show wpList _ _ _ (⟨none, .store 30 _ _, _, _, _, _⟩ :: _) _ _); refine wpList_store_big rfl 30 _ _ rfl _ rfl (vcells a.vote) rfl _ _ hb5 (sizeVote HA.out.vote) (by rw [vcells_len HA.out.vote]; rfl) (vcells_one _) ?_; intro w6 hb6 hf6 HS6; obtain ⟨q1, q2, q3, q4⟩ := radd_mid1 HOB HS5 HS6 hbl5 hb6 hf6; have h46 := q1.size; have B6 := Lib.hid (B4.out.trans (Below.up q1 B4.out.size)); have HOB6 := Lib.hid hb6; have HX6 := Lib.hid (HX4.out.below q1); have HB6 := Lib.hid (HB1.out.below B6.out); have c1 := (HSS.out w6 B6.out).1; have x2 := (vote_cells hb6).2.2.1; rw [← HXW.out] at x2; have v2 := (vote_cells HB6.out).2.2.1; rw [← HVW.out] at v2; clear q1 q2 q3 q4 HOB HS5 HS6 hbl5 hb5 hb6 hf6) | ((with_reducible show wpList _ _ _ (⟨some 63, _, _, _, _, _⟩ :: _) _ _); refine wpList_val rfl (load_vote HA.out.vote (range_of_blk HOB6.out) rfl rfl) ?_) | ((with_reducible show wpList _ _ _ (⟨some 64, _, _, _, _, _⟩ :: _) _ _); refine wpList_val rfl (load_vote HNV.out.vote (range_of_blk HB6.out) rfl rfl) ?_) | ((with_reducible show wpList _ _ _ (⟨some 65, _, _, _, _, _⟩ :: _) _ _); refine wpList_val rfl (vote_eqlB _ HD.out HA.out.vote HNV.out.vote rfl rfl rfl) ?_))
                go_ret
                exact ⟨rfl, HH2.out.below B6.out, Fr.of_below (HBL.out.trans (Below.up B6.out HBL.out.size))⟩
              · have hr := HRR.out
                rw [if_pos (by omega)] at hr
                have HRR := Lib.hid hr
                clear hr hee
                go_wp2_with (first | ((with_reducible show wpList _ _ _ (⟨some 38, _, _, _, _, _⟩ :: _) _ _); refine wpList_val rfl (load_vote HNV.out.vote (range_of_blk HB1.out) rfl rfl) ?_) | ((with_reducible show wpList _ _ _ (⟨some 39, _, _, _, _, _⟩ :: _) _ _); refine wpList_val rfl (load_tag HNV.out.tag (range_of_blk HB2.out) rfl rfl) ?_) | ((with_reducible show wpList _ _ _ (⟨some 40, _, _, _, _, _⟩ :: _) _ _); refine wpList_val rfl (exec_build3 _ _ _ _ _ _ _ _ _ _ rfl rfl rfl rfl _ (built_one70 HNV.out.vote HNV.out.tag)) ?_) | ((with_reducible show wpList _ _ _ (⟨some 10, _, _, _, _, _⟩ :: _) _ _); refine wpList_alloc_big rfl 70 rfl (acells zeroA).toArray 53 (by kernel_rfl) ?_; intro xb w3 HXB hb3 hbl3 HS3) | ((with_reducible show wpList _ _ _ (⟨none, .store 70 _ _, _, _, _, _⟩ :: _) _ _); refine wpList_store_big rfl 70 _ _ rfl _ rfl (acells ⟨node, v, t⟩) rfl _ _ hb3 (size70 HNV.out) (by rw [acells_len HNV.out]; rfl) (acells_one _) ?_; intro w4 hb4 hf4 HS4; obtain ⟨q1, q2, q3, q4⟩ := radd_mid1 HXB HS3 HS4 hbl3 hb4 hf4; have B4 := Lib.hid q1; have HX4 := Lib.hid q2; have hxl := q3; have C1 := Lib.hid (HSS.out w4 q1).2; have c1 := (HSS.out w4 q1).1; clear q1 q2 q3 q4 HXB HS3 HS4 hbl3 hb3 hb4 hf4) | ((with_reducible show wpList _ _ _ (⟨some 62, _, _, _, _, _⟩ :: _) _ _); refine wpList_val rfl (load_vote HA.out.vote C1.out rfl rfl) ?_) | ((with_reducible show wpList _ _ _ (⟨some 11, _, _, _, _, _⟩ :: _) _ _); refine wpList_alloc_big rfl 30 rfl (vcells zeroV).toArray 36 (by kernel_rfl) ?_; intro ob w5 HOB hb5 hbl5 HS5) | ((with_reducible show wpList _ _ _ (⟨none, .store 30 _ _, _, _, _, _⟩ :: _) _ _); refine wpList_store_big rfl 30 _ _ rfl _ rfl (vcells a.vote) rfl _ _ hb5 (sizeVote HA.out.vote) (by rw [vcells_len HA.out.vote]; rfl) (vcells_one _) ?_; intro w6 hb6 hf6 HS6; obtain ⟨q1, q2, q3, q4⟩ := radd_mid1 HOB HS5 HS6 hbl5 hb6 hf6; have h46 := q1.size; have B6 := Lib.hid (B4.out.trans (Below.up q1 B4.out.size)); have HOB6 := Lib.hid hb6; have HX6 := Lib.hid (HX4.out.below q1); have HB6 := Lib.hid (HB1.out.below B6.out); have c1 := (HSS.out w6 B6.out).1; have x2 := (vote_cells hb6).2.2.1; rw [← HXW.out] at x2; have v2 := (vote_cells HB6.out).2.2.1; rw [← HVW.out] at v2; clear q1 q2 q3 q4 HOB HS5 HS6 hbl5 hb5 hb6 hf6) | ((with_reducible show wpList _ _ _ (⟨some 63, _, _, _, _, _⟩ :: _) _ _); refine wpList_val rfl (load_vote HA.out.vote (range_of_blk HOB6.out) rfl rfl) ?_) | ((with_reducible show wpList _ _ _ (⟨some 64, _, _, _, _, _⟩ :: _) _ _); refine wpList_val rfl (load_vote HNV.out.vote (range_of_blk HB6.out) rfl rfl) ?_) | ((with_reducible show wpList _ _ _ (⟨some 65, _, _, _, _, _⟩ :: _) _ _); refine wpList_val rfl (vote_eqlB _ HD.out HA.out.vote HNV.out.vote rfl rfl rfl) ?_) | ((with_reducible show wpList _ _ _ (⟨some 77, _, _, _, _, _⟩ :: _) _ _); refine wpList_bslice0 rfl rfl (rb + 1) (by have := B6.out.size; omega) ?_; intro gb w7 hO hgb hb hsz; have HO := Lib.hid hO; have B7 := Lib.hid (B6.out.trans (Below.up hb B6.out.size)); have h67 := hb.size; have hgb := hgb.out; have hgl : gb < w7.heap.size := (by have := hsz.out; omega); have HX7 := Lib.hid (HX6.out.below hb); have HVR7 := Lib.hid (HVR.out.below B7.out); have c7 := (HSS.out w7 B7.out).1; have h26 := B6.out.size; clear hO hb hsz) | ((with_reducible show wpList _ _ _ (⟨some 82, _, _, _, _, _⟩ :: _) _ _); refine wpList_append_ones rfl _ _ rfl (rb + 1) _ [] rfl HO.out (by have := B7.out.size; omega) (some ⟨b5, off, none⟩) n c rfl (ones M) HN.out HOK.out HVR7.out (by rw [← HN.out]; simp only [List.length_nil]; omega) ?_; intro v8 w8 hO8 hg8 ha8; obtain ⟨g, c8, rfl, q1, q2, q3⟩ := radd_mid2 HN.out (by omega) hO8 hg8 ha8 (by omega) B7.out; have hgx := q1; have B8 := Lib.hid q2; have HO8 := Lib.hid hO8; have HX8 := Lib.hid (HX7.out.fr q3 (by omega)); have hb8 := HBK.out.below q2; have e8 : w8.cell? ⟨rb, 1, none⟩ = some (.slice (some ⟨b5, off, none⟩) n c) := hb8.cell 1; have g8 : w8.frozen? ⟨rb, 1, none⟩ = false := hb8.free 1; have h78 := q3.size; have HBX8 := Lib.hid hb8; clear hO8 hg8 ha8 q1 q2 q3 hb8))
                have hrw6 : w.heap.size ≤ w8.heap.size ∧ xb < w8.heap.size ∧ w.heap.size ≤ g := ⟨by have := B8.out.size; have := HBL.out.size; omega, HX8.out.lt, by have := HBL.out.size; omega⟩
                have HB8 := HBX8
                have hf9 : Fr (fun k => k = rb) w8 (w8.setCell ⟨rb, 1, none⟩ (.slice (some ⟨g, 0, none⟩) n c8)) := Fr.setCell _ _ _ _ rfl
                have hb9 : Blk (w8.setCell ⟨rb, 1, none⟩ (.slice (some ⟨g, 0, none⟩) n c8)) rb #[.int .i64 (N : Int), .slice (some ⟨g, 0, none⟩) n c8] 68 := HB8.out.set 1 _
                have hO9 := HO8.out.fr hf9 (fun k hk e => by (have : g = k := (by simpa [Value.ownBlock] using hk)); omega)
                have hF9 : Fr (fun k => k = rb) w (w8.setCell ⟨rb, 1, none⟩ (.slice (some ⟨g, 0, none⟩) n c8)) := (Fr.of_below (HBL.out.trans (Below.up B8.out HBL.out.size))).trans hf9 (fun k hk => .inl hk)
                have hX9 := HX8.out.fr hf9 (by omega)
                generalize w8.setCell ⟨rb, 1, none⟩ (.slice (some ⟨g, 0, none⟩) n c8) = w9 at hf9 hb9 hO9 hF9 hX9 ⊢
                have HB9 := Lib.hid hb9
                have HO9 := Lib.hid hO9
                have HF9 := Lib.hid hF9
                have HX9 := Lib.hid hX9
                clear hf9 hb9 hO9 hF9 hX9 e8 g8 HSS HB8 HO8 HO HX8
                go_wp2_with fail
                have B9 : Hid (Below w9.heap.size w9 w9.drew) := Lib.hid (Below.refl w9.heap.size w9).drew
                refine wp_region_phased (fun W => W.cell? ⟨rb, 1, none⟩ = some (.slice (some ⟨g, 0, none⟩) n c8) ∧ W.rangeAt xb 0 (acells ⟨node, v, t⟩)) 7 (by kernel_rfl) ⟨cell_bl (HB9.out.cell 1) B9.out, range_below (range_of_blk HX9.out) B9.out⟩ (fun hS => ?_)
                refine wpAnyP_pure (v := ?_) 0 (at_toArray rfl) (by kernel_rfl) (by kernel_rfl) (by kernel_rfl) (fun _ _ _ h => h) (Or.inl ⟨by rfl, fun W => ?_⟩) ?_
                rotate_left 1
                · (go_simp <;> (try go_bits) <;> with_reducible rfl)
                simp only [Act.put, List.setIfInBounds_toArray, List.set_cons_zero, List.set_cons_succ]
                refine wpAnyP_pure (v := ?_) 1 (at_toArray rfl) (by kernel_rfl) (by kernel_rfl) (by kernel_rfl) (fun _ _ _ h => h) (Or.inl ⟨by rfl, fun W => ?_⟩) ?_
                rotate_left 1
                · (go_simp <;> (try go_bits) <;> with_reducible rfl)
                simp only [Act.put, List.setIfInBounds_toArray, List.set_cons_zero, List.set_cons_succ]
                refine wpAnyP_pure (v := ?_) 2 (at_toArray rfl) (by kernel_rfl) (by kernel_rfl) (by kernel_rfl) (fun _ _ _ h => h) (Or.inl ⟨by rfl, fun W => ?_⟩) ?_
                rotate_left 1
                · (go_simp <;> (try go_bits) <;> with_reducible rfl)
                simp only [Act.put, List.setIfInBounds_toArray, List.set_cons_zero, List.set_cons_succ]
                refine wpAnyP_load (v := ?_) 3 (by kernel_rfl) (at_toArray rfl) (by kernel_rfl) (by kernel_rfl) (by kernel_rfl) (fun _ _ _ h => h) (by first | assumption | rfl) (Or.inl ⟨by rfl, fun W hS => ?_⟩) ?_
                rotate_left 1
                · (obtain ⟨s1, s2⟩ := hS; go_simp <;> (try go_bits) <;> with_reducible rfl)
                simp only [Act.put, List.setIfInBounds_toArray, List.set_cons_zero, List.set_cons_succ]
                refine wpAnyP_pure (v := ?_) 4 (at_toArray rfl) (by kernel_rfl) (by kernel_rfl) (by kernel_rfl) (fun _ _ _ h => h) (Or.inl ⟨by rfl, fun W => ?_⟩) ?_
                rotate_left 1
                · (go_simp <;> (try go_bits) <;> with_reducible rfl)
                simp only [Act.put, List.setIfInBounds_toArray, List.set_cons_zero, List.set_cons_succ]
                refine wpAnyP_load (v := (.agg (acells ⟨node, v, t⟩).toArray)) 5 (by kernel_rfl) (at_toArray rfl) (by kernel_rfl) (by kernel_rfl) (by kernel_rfl) (fun _ _ _ h => h) (by first | assumption | rfl) (Or.inl ⟨by rfl, fun W hS => (by obtain ⟨s1, s2⟩ := hS; exact load_one70 HNV.out s2 rfl rfl)⟩) ?_
                simp only [Act.put, List.setIfInBounds_toArray, List.set_cons_zero, List.set_cons_succ]
                refine wpAnyP_pure (v := ?_) 6 (at_toArray rfl) (by kernel_rfl) (by kernel_rfl) (by kernel_rfl) (fun _ _ _ h => h) (Or.inl ⟨by rfl, fun W => ?_⟩) ?_
                rotate_left 1
                · (go_simp <;> (try go_bits) <;> with_reducible rfl)
                simp only [Act.put, List.setIfInBounds_toArray, List.set_cons_zero, List.set_cons_succ]
                have HO9d : Hid (VO (rb + 1) w9.drew (.slice (some ⟨g, 0, none⟩) n c8) (ones M)) := Lib.hid HO9.out
                have hth : w9.drew.there g (k * 53) (acells ⟨node, v, t⟩).toArray.size := by
                  rw [List.size_toArray, acells_len HNV.out]
                  exact HO9d.out.there HN.out hkn
                have HTH := Lib.hid hth
                clear hth
                refine wpAnyP_one 7 (at_toArray rfl) (by kernel_rfl) rfl (fun K hK => ?_)
                refine wp_store_mid 70 _ _ rfl g (k * 53) (acells ⟨node, v, t⟩).toArray ?_ rfl HTH.out (by rw [List.size_toArray]; exact size70 HNV.out) (all_oneCell_toArray (acells_one _)) ?_
                · first | rfl | (show Value.pointer (some ⟨g, 0 + k * 53, none⟩) = _; rw [Nat.zero_add])
                refine hK.out _ _ (fun h => absurd h (by decide)) ?_
                clear hK hS
                refine wpAnyP_done (by kernel_rfl) ?_ _
                obtain ⟨q1, q2⟩ := radd_end2 (w9 := w9.drew) (s := ⟨node, v, t⟩) (HB9.out) HN.out HO9d.out HOK.out hkn HNV.out (by rw [← HSET.out]; exact HPUT.out) (by rw [← HSET.out]; exact HPS.out) (HF9.out.trans (Fr.of_below (F := fun _ => False) B9.out) (fun _ h => h.elim)) (by omega) hrw
                have Q1 := Lib.hid q1
                have Q2 := Lib.hid q2
                clear q1 q2
                go_wp2_with fail
                go_ret
                rw [HRR.out]
                refine ⟨rfl, ?_, Q2.out⟩
                rw [HSET.out]
                exact Q1.out
          --SOME]

end Go.Proofs.Ytpbcpocheblbfaa
