/- The law VotesOne: the walk. -/
import Derived.Test.YtpbcpocheblbfaaVotM
import Derived.Test.YtpbcpocheblbfaaVotS
namespace Go.Proofs.Ytpbcpocheblbfaa
set_option linter.unusedVariables false
set_option linter.unusedSimpArgs false
open Go.RowKit Go.MapKept

theorem need_wrap {q q2 : Nat} {need : Int} (hq : q < 21) (hq2 : q2 < (4 + 3 * q) / 2) (hnd : need = (4 + 3 * (q : Int)) / 2 + 1 + (q2 : Int)) : wrap64 need = need := by
  unfold wrap64
  omega
theorem need_big {N q q2 : Nat} {need : Int} (hN : N = 4 + 3 * q) (hnd : need = (4 + 3 * (q : Int)) / 2 + 1 + (q2 : Int)) : (N : Int) < 2 * need := by
  omega
theorem goodN_of {N q : Nat} (h : N = 4 + 3 * q ∧ q < 21) : goodN (N : Int) = true := by
  unfold goodN; simp; omega
set_option maxRecDepth 100000 in
set_option maxHeartbeats 16000000 in
theorem lawOne (f : Int) (A : Option Addr) (c : Nat) (xs : List VAct) (more : Int) (w : World) (h : VActsR w A xs) (hl : xs.length ≤ 9223372036854775807) :
    Calls Try.prog 4 #[.int .i64 f, .slice A xs.length c, .int .i64 more] w fun e w' => e = .returned (.bool true) ∧ Below w.heap.size w w' := by
  obtain ⟨q, hq, hqe⟩ := modq f 21 (by decide) (by decide)
  have hqe : wrap64 ((IntKind.u64.wrap f).tmod 21) = (q : Int) := hqe
  obtain ⟨m, hm⟩ : ∃ m, m = xs.length := ⟨_, rfl⟩
  obtain ⟨N, hN⟩ : ∃ N : Nat, N = 4 + 3 * q := ⟨_, rfl⟩
  rw [← hm]
  rw [← hm] at hl
  have H := Lib.hid h
  have HM := Lib.hid hm
  clear h hm
  go_enter Try.func4, Try.ntmps4
  go_wp2_with fail
  rw [hqe]
  obtain ⟨q2, hq2, hqe2⟩ := modq more ((4 + 3 * q) / 2) (by omega) (by omega)
  have hqe2 : wrap64 ((IntKind.u64.wrap more).tmod ((4 + 3 * (q : Int)) / 2)) = (q2 : Int) := by
    have e : (((4 + 3 * q) / 2 : Nat) : Int) = (4 + 3 * (q : Int)) / 2 := by omega
    rw [e] at hqe2
    exact hqe2
  rw [hqe2]
  obtain ⟨need, hnd⟩ : ∃ need : Int, need = (4 + 3 * (q : Int)) / 2 + 1 + (q2 : Int) := ⟨_, rfl⟩
  have hwr : wrap64 ((4 + 3 * (q : Int)) / 2 + 1 + (q2 : Int)) = need := by
    rw [← hnd]
    exact need_wrap hq hq2 hnd
  rw [hwr]
  have hNq : (4 + 3 * (q : Int)) = (N : Int) := by omega
  have hn2 : (N : Int) < 2 * need := need_big hN hnd
  have hN64 : N ≤ 64 := by omega
  have hgood : goodN (N : Int) = true := goodN_of ⟨hN, hq⟩
  rw [hNq]
  clear hqe hqe2 hwr hNq hN hq hnd hq2
  clear hqe hqe2
  refine (vnew_ok N w hgood).mono ?_
  rintro e w1 ⟨bb, mb, rfl, HB0, hbb, hmb, hbl0⟩
  have HB := Lib.hid HB0
  have HBL := Lib.hid hbl0
  have HN2 := Lib.hid hn2
  clear HB0 hbl0 hgood hn2
  by_cases hm200 : 200 < m
  · have l200 : (200 : Int) < (m : Int) := by omega
    go_wp2_with fail
    refine (lives_ok w1).mono ?_
    rintro e w2 ⟨rfl, hbl2⟩
    go_wp2_with fail
    go_ret
    exact ⟨rfl, HBL.out.trans (Below.up hbl2 HBL.out.size)⟩
  · have l200 : ¬ (200 : Int) < (m : Int) := by omega
    have HH0 : Hid (∃ M : List (Ent One), M.length ≤ 0 ∧ Inv N M ∧ BookR w1 bb mb (N : Int) M) := Lib.hid ⟨[], Nat.le_refl _, Inv.nil N, HB.out⟩
    clear HB
    go_wp2_with fail
    clear l200
    go_loopw [52] (fun i wr => ∃ k : Nat, k ≤ m ∧ i = .int .i64 (k : Int) ∧ Hid (∃ M : List (Ent One), M.length ≤ k ∧ Inv N M ∧ BookR wr bb mb (N : Int) M) ∧ Hid (Below w.heap.size w wr)) (fun i _ => m - (intOf i).toNat)
    case atStart => exact ⟨0, Nat.zero_le _, rfl, HH0, HBL⟩
    case round =>
      clear HH0 HBL
      obtain ⟨k, hk, rfl, HH, HBL⟩ := hrel
      by_cases hlt : k < m
      · obtain ⟨a, ha⟩ : ∃ a, xs[k]? = some a := ⟨_, List.getElem?_eq_getElem (by rw [← HM.out]; exact hlt)⟩
        obtain ⟨hao, b, off, rfl, hlb, hc⟩ := H.out k a ha
        have HA := Lib.hid hao
        have HC := Lib.hid (range_below (range_below hc (Below.refl _ _)) HBL.out)
        obtain ⟨M, hMk, hinv, hBR⟩ := HH.out
        have HB := Lib.hid hBR
        have HMK := Lib.hid hMk
        have HIN := Lib.hid hinv
        have l1 : (k : Int) < (m : Int) := by omega
        clear hao ha hc HH hMk hBR hinv
        go_wp2_with (first | (refine wpList_val rfl (load_act HA.out HC.out rfl rfl) ?_) | (refine wpList_alloc_big rfl 34 rfl (acells zeroA).toArray 53 act_zero_cells ?_; intro ab w2 HAB hb2 hbl2 HS2) | (refine wpList_store_big rfl 34 _ _ rfl _ rfl (acells a) rfl _ _ hb2 (sizeAct HA.out) (by rw [acells_len HA.out]; rfl) (acells_one _) ?_; intro w3 hb3 hf3 HS3; have hr3 := range_of_blk hb3; have an3 := act_node hr3) | (refine wpList_val rfl (load_vote HA.out.vote (act_vote hr3) rfl rfl) ?_) | (refine wpList_val rfl (load_tag HA.out.tag (act_tag HA.out hr3) rfl rfl) ?_))
        have hab := HAB.out
        have hs2 := HS2.out
        have hs3 := HS3.out
        have hbm : bb < wr.heap.size ∧ mb < wr.heap.size := ⟨HB.out.blk.lt, HB.out.map.lt⟩
        have HB3 := Lib.hid ((HB.out.below hbl2).fr hf3 (by omega) (by omega))
        have HBL3 := Lib.hid (below_fr (HBL.out.trans (Below.up hbl2 HBL.out.size)) hf3 (by have := HBL.out.size; omega))
        clear hb2 hb3 hf3 hbl2 hab hs2 hs3 HAB HS2 HS3 HB HBL HC hbm hr3 an3
        refine (add_any w3 HB3.out (by have := HMK.out; omega) a.node a.vote a.tag HA.out.node HA.out.vote HA.out.tag).mono ?_
        rintro e w4 ⟨rfl, hb4, hf4⟩
        have hml := addP_len (N : Int) M a.node a.vote a.tag
        have hin := HIN.out.add a.node a.vote a.tag
        generalize addP (N : Int) M a.node a.vote a.tag = r at hb4 hml hin ⊢
        obtain ⟨r1, M2⟩ := r
        simp only at hb4 hml hin ⊢
        have HX : Hid (∃ M : List (Ent One), M.length ≤ k + 1 ∧ Inv N M ∧ BookR w4 bb mb (N : Int) M) := Lib.hid ⟨M2, by have := HMK.out; omega, hin, hb4⟩
        have HBL4 := Lib.hid (Fr.below HBL3.out hf4 (fun k hk => by omega))
        clear hb4 hml hf4 hin HB3 HBL3 HMK HIN
        go_wp2_with fail
        try go_frame
        go_roundw
        case rel => exact ⟨k + 1, by omega, by go_num, HX, HBL4⟩
        case measure => simp [intOf]; omega
      · have l1 : ¬ (k : Int) < (m : Int) := by omega
        obtain ⟨M, hMk, hinv, hBR⟩ := HH.out
        have HB := Lib.hid hBR
        have HIN := Lib.hid hinv
        clear hMk hinv hBR HH hk hlt
        go_wp2_with fail
        clear l1
        go_loopw [12] (fun iv wz => ∃ kd : Int, 1 ≤ kd ∧ kd ≤ 3 ∧ iv = .int .i64 kd ∧ Hid (BookR wz bb mb (N : Int) M) ∧ Hid (Below w.heap.size w wz)) (fun iv _ => (3 - intOf iv).toNat)
        case atStart => exact ⟨1, by omega, by omega, rfl, HB, HBL⟩
        case round =>
          clear HB HBL
          obtain ⟨kd, hk1, hk3, rfl, HB, HBL⟩ := hrel
          by_cases hk2 : kd ≤ 2
          · go_wp2_with fail
            refine (best_any wr HB.out hN64 kd need).mono ?_
            rintro e w5 ⟨D, hD, A5, c5, rfl, hsr, hA5, hbl5⟩
            have hbest := fun v => best_says (v := v) HIN.out HB.out.map.apart hD HN2.out kd
            have hcvo := best_ok (N := N) HB.out.ok hD kd need
            generalize ((foldB M kd need D).1 && certOk M (foldB M kd need D).2 N need) = bs at hbest ⊢
            generalize (if (foldB M kd need D).1 then certV M (foldB M kd need D).2 N need else zeroV) = cv at hbest hcvo ⊢
            generalize (if (foldB M kd need D).1 then certL M (foldB M kd need D).2 N need else []).length = n5
            have HBEST := Lib.hid hbest
            have HCV := Lib.hid hcvo
            have HB5 := Lib.hid (HB.out.below hbl5)
            have HBL5 := Lib.hid (HBL.out.trans (Below.up hbl5 HBL.out.size))
            clear hbest hcvo hsr hA5 hbl5 hD HB HBL
            go_wp2_with (first | (refine wpList_alloc_big rfl 39 rfl (ccells zeroV (.slice none 0 0)).toArray 37 (by kernel_rfl) ?_; intro cb w6 HCB hb6 hbl6 HS6) | (refine wpList_store_big rfl 39 _ _ rfl _ rfl (ccells cv (.slice A5 n5 c5)) rfl _ _ hb6 (sizeCert HCV.out _) (by rw [ccells_len HCV.out]; rfl) (ccells_one _ rfl) ?_; intro w7 hb7 hf7 HS7))
            have hcb := HCB.out
            have hb57 := below_fr hbl6 hf7 (by omega)
            have HB7 := Lib.hid (HB5.out.below hb57)
            have HBL7 := Lib.hid (HBL5.out.trans (Below.up hb57 HBL5.out.size))
            have HC7 := Lib.hid hb7
            have HR7 := Lib.hid (Below.refl w7.heap.size w7)
            clear hb6 hbl6 hb7 hf7 hb57 hcb HCB HS6 HS7 HB5 HBL5
            go_loopw [78] (fun iv wz => ∃ j : Nat, j ≤ m ∧ iv = .int .i64 (j : Int) ∧ Hid (Below w7.heap.size w7 wz)) (fun iv _ => m - (intOf iv).toNat)
            case atStart => exact ⟨0, Nat.zero_le _, rfl, HR7⟩
            case round =>
              clear HR7
              obtain ⟨j, hj, rfl, HW⟩ := hrel
              by_cases hjm : j < m
              · obtain ⟨a, ha⟩ : ∃ a, xs[j]? = some a := ⟨_, List.getElem?_eq_getElem (by rw [← HM.out]; exact hjm)⟩
                obtain ⟨hao, b, off, hAe, hlb, hc⟩ := H.out j a ha
                subst hAe
                have HA := Lib.hid hao
                have HC := Lib.hid (range_below (range_below hc HBL7.out) HW.out)
                have HB := Lib.hid (HB7.out.below HW.out)
                have HBL := Lib.hid (HBL7.out.trans (Below.up HW.out HBL7.out.size))
                have HCC := Lib.hid (HC7.out.below HW.out)
                have l1 : (j : Int) < (m : Int) := by omega
                clear hao ha hc
                go_wp2_with (first | (refine wpList_val rfl (load_act HA.out HC.out rfl rfl) ?_) | (refine wpList_alloc_big rfl 34 rfl (acells zeroA).toArray 53 act_zero_cells ?_; intro ab z2 HAB hb2 hbl2 HS2) | (refine wpList_store_big rfl 34 _ _ rfl _ rfl (acells a) rfl _ _ hb2 (sizeAct HA.out) (by rw [acells_len HA.out]; rfl) (acells_one _) ?_; intro z3 hb3 hf3 HS3; have hr3 := range_of_blk hb3) | (refine wpList_val rfl (load_vote HA.out.vote (act_vote hr3) rfl rfl) ?_))
                have hab := HAB.out
                have hs2 := HS2.out
                have hs3 := HS3.out
                have hb13 : Below wr.heap.size wr z3 := below_fr hbl2 hf3 (by omega)
                have HB3 := Lib.hid (HB.out.below hb13)
                have HBL3 := Lib.hid (HBL.out.trans (Below.up hb13 HBL.out.size))
                have HW3 := Lib.hid (HW.out.trans (Below.up hb13 HW.out.size))
                have HC3 := Lib.hid (HCC.out.below hb13)
                have HA3 := Lib.hid hb3
                clear hb2 hb3 hf3 hbl2 hab hs2 hs3 hb13 hr3 HAB HS2 HS3 HB HBL HW HCC HC
                refine (cert_any z3 HB3.out hN64 a.vote HA.out.vote need).mono ?_
                rintro e z4 ⟨A6, c6, rfl, hsr, hA6, hbl4⟩
                have huo : (certV M a.vote N need).ok := by unfold certV; split; exact HA.out.vote; exact zeroV_ok
                have hun : certOk M a.vote N need = true → certV M a.vote N need = a.vote := fun h => by unfold certV; rw [h]; rfl
                have hbst := HBEST.out a.vote
                generalize certOk M a.vote N need = ok at hun hbst ⊢
                generalize (certL M a.vote N need).length = n6
                generalize certV M a.vote N need = u at hun huo ⊢
                have HU := Lib.hid huo
                have HB4 := Lib.hid (HB3.out.below hbl4)
                have HBL4 := Lib.hid (HBL3.out.trans (Below.up hbl4 HBL3.out.size))
                have HW4 := Lib.hid (HW3.out.trans (Below.up hbl4 HW3.out.size))
                have HC4 := Lib.hid (HC3.out.below hbl4)
                have HA4 := Lib.hid (HA3.out.below hbl4)
                clear hsr hA6 hbl4 huo HB3 HBL3 HW3 HC3 HA3
                cases ok with
                | false =>
                  clear hun hbst
                  go_wp2_with (first | (refine wpList_alloc_big rfl 39 rfl (ccells zeroV (.slice none 0 0)).toArray 37 (by kernel_rfl) ?_; intro db z5 HDB hb5 hbl5 HS5) | (refine wpList_store_big rfl 39 _ _ rfl _ rfl (ccells u (.slice A6 n6 c6)) rfl _ _ hb5 (sizeCert HU.out _) (by rw [ccells_len HU.out]; rfl) (ccells_one _ rfl) ?_; intro z6 hb6 hf6 HS6))
                  have hdb := HDB.out
                  have HW6 := Lib.hid (HW4.out.trans (Below.up (below_fr hbl5 hf6 (by omega)) HW4.out.size))
                  clear hb5 hbl5 hb6 hf6 hdb
                  try go_frame
                  go_roundw
                  case rel => exact ⟨j + 1, by omega, by go_num, HW6⟩
                  case measure => simp [intOf]; omega
                | true =>
                  have hun := hun rfl
                  subst hun
                  by_cases hkk : a.vote.kind = kd
                  · obtain ⟨e1, e2⟩ := hbst hkk rfl
                    subst e1
                    subst e2
                    have hd : decide (a.vote = a.vote) = true := decide_eq_true rfl
                    have HKK := Lib.hid hkk
                    clear hbst hkk
                    go_wp2_with (first | (refine wpList_alloc_big rfl 39 rfl (ccells zeroV (.slice none 0 0)).toArray 37 (by kernel_rfl) ?_; intro db z5 HDB hb5 hbl5 HS5) | (refine wpList_store_big rfl 39 _ _ rfl _ rfl (ccells a.vote (.slice A6 n6 c6)) rfl _ _ hb5 (sizeCert HU.out _) (by rw [ccells_len HU.out]; rfl) (ccells_one _ rfl) ?_; intro z6 hb6 hf6 HS6; have hdb := HDB.out; have ha6 := (HA4.out.below hbl5).fr hf6 (by have := HA4.out.lt; omega); have hk6 := act_kind (range_of_blk ha6); rw [HKK.out] at hk6; have hc6 := (range_part (range_of_blk hb6)).1; have hc7 := (range_part (range_of_blk ((HC4.out.below hbl5).fr hf6 (by have := HC4.out.lt; omega)))).1) | (refine wpList_valG rfl (load_vote HU.out hc6 rfl rfl) ?_) | (refine wpList_valG rfl (load_vote HU.out hc7 rfl rfl) ?_) | (refine wpList_valG rfl (vote_neq _ HU.out HU.out rfl rfl rfl) ?_))
                    have HW6 := Lib.hid (HW4.out.trans (Below.up (below_fr hbl5 hf6 (by omega)) HW4.out.size))
                    clear hb5 hbl5 hb6 hf6 hdb ha6 hk6 hc6 hc7
                    try go_frame
                    go_roundw
                    case rel => exact ⟨j + 1, by omega, by go_num, HW6⟩
                    case measure => simp [intOf]; omega
                  · have hkd : decide (a.vote.kind = kd) = false := decide_eq_false hkk
                    clear hbst
                    go_wp2_with (first | (refine wpList_alloc_big rfl 39 rfl (ccells zeroV (.slice none 0 0)).toArray 37 (by kernel_rfl) ?_; intro db z5 HDB hb5 hbl5 HS5) | (refine wpList_store_big rfl 39 _ _ rfl _ rfl (ccells a.vote (.slice A6 n6 c6)) rfl _ _ hb5 (sizeCert HU.out _) (by rw [ccells_len HU.out]; rfl) (ccells_one _ rfl) ?_; intro z6 hb6 hf6 HS6; have hdb := HDB.out; have ha6 := (HA4.out.below hbl5).fr hf6 (by have := HA4.out.lt; omega); have hk6 := act_kind (range_of_blk ha6)))
                    have HW6 := Lib.hid (HW4.out.trans (Below.up (below_fr hbl5 hf6 (by omega)) HW4.out.size))
                    clear hb5 hbl5 hb6 hf6 hdb ha6 hk6
                    try go_frame
                    go_roundw
                    case rel => exact ⟨j + 1, by omega, by go_num, HW6⟩
                    case measure => simp [intOf]; omega
              · have l1 : ¬ (j : Int) < (m : Int) := by omega
                have HX := Lib.hid (HB7.out.below HW.out)
                have HXL := Lib.hid (HBL7.out.trans (Below.up HW.out HBL7.out.size))
                go_wp2_with fail
                try go_frame
                go_roundw
                case rel => exact ⟨kd + 1, by omega, by omega, by go_num, HX, HXL⟩
                case measure => simp [intOf]; omega
          · go_wp2_with fail
            refine (lives_ok wr).mono ?_
            rintro e w2 ⟨rfl, hbl2⟩
            go_wp2_with fail
            go_ret
            exact ⟨rfl, HBL.out.trans (Below.up hbl2 HBL.out.size)⟩

end Go.Proofs.Ytpbcpocheblbfaa
