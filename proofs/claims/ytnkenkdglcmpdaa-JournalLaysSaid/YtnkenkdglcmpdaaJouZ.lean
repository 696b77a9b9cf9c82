/- The law JournalKeeps: behind any failure a journal opens with a beginning of its records. -/
import Derived.Test.YtnkenkdglcmpdaaJouY
namespace Go.Proofs.Ytnkenkdglcmpdaa
set_option linter.unusedVariables false
set_option linter.unusedSimpArgs false
open Go.RowKit

set_option maxRecDepth 100000 in
set_option maxHeartbeats 16000000 in
theorem lawKeeps (A : Option Addr) (c : Nat) (xs : List RecV) (SA : Option Addr) (sn sc : Nat) (n keep : Int) (w : World) (h : RecsR w A xs) (hl : xs.length ≤ 9223372036854775807) (hcap : xs.length ≤ c) (hbo : BoolsR w SA sn) (hsn : sn ≤ 9223372036854775807) :
    Calls Try.prog 14 #[.slice A xs.length c, .slice SA sn sc, .int .i64 n, .int .i64 keep] w fun e w' => e = .returned (.bool true) ∧ Below w.heap.size w w' := by
  obtain ⟨N, hN⟩ : ∃ N, N = xs.length := ⟨_, rfl⟩
  rw [← hN] at hl hcap ⊢
  have HBO := Lib.hid hbo
  obtain ⟨B, hB⟩ : ∃ B, B = w.heap.size := ⟨_, rfl⟩
  rw [← hB]
  have HBW := Lib.hid hB
  clear hB
  have HN := Lib.hid hN
  have H := Lib.hid h
  clear h hN hbo
  go_enter Try.func14, Try.ntmps14
  by_cases h100 : 100 < N
  · go_wp2_with fail
    refine (jlives_true w).mono ?_
    rintro e w1 ⟨rfl, hb⟩
    go_wp2_with fail
    go_ret
    exact ⟨rfl, by rw [HBW.out]; exact hb⟩
  go_wp2_with fail
  rw [HN.out]
  refine (light8_any A c xs w H.out (by rw [← HN.out]; exact hl)).mono ?_
  rw [← HN.out]
  rintro e w1 ⟨b, rfl, hlb, hb1⟩
  have HB1 := Lib.hid hb1
  cases b with
  | false =>
    clear hb1 hlb
    go_wp2_with fail
    refine (jlives_true w1).mono ?_
    rintro e w2 ⟨rfl, hb⟩
    have HB2 := Lib.hid (HB1.out.trans (Below.up hb HB1.out.size))
    clear hb
    go_wp2_with fail
    go_ret
    exact ⟨rfl, by rw [HBW.out]; exact HB2.out⟩
  | true =>
    obtain ⟨ls, hll, hrl, hs8, htot⟩ := recs_lists H.out (hlb rfl)
    rw [← HBW.out] at hrl HB1
    have HL := Lib.hid (hrl.old HB1.out)
    have HS := Lib.hid hs8
    have HTO := Lib.hid htot
    have hNl : N = ls.length := by rw [HN.out, hll]
    have HNL := Lib.hid hNl
    have HSZ : Hid (B ≤ w1.heap.size) := Lib.hid (by have := HB1.out.size; have := HBW.out; omega)
    clear hll hrl hs8 htot hlb hb1 hNl HN H
    go_wp2_with fail
    refine (made w1.heap.size 1048576 w1 rfl (by decide) (by decide)).mono ?_
    rintro e w2 ⟨tb, rfl, ⟨hs2, F2, h2, hF2⟩, b2⟩
    have H2 := Lib.hid h2
    have B2 := Lib.hid (HB1.out.trans (Below.up b2 HSZ.out))
    have HF2 : Hid (∀ k, F2 k → B ≤ k) := Lib.hid fun k hk => Nat.le_trans HSZ.out (hF2 k hk)
    have HS2 : Hid (B ≤ w2.heap.size) := Lib.hid (Nat.le_trans HSZ.out b2.size)
    have HL2 := Lib.hid (HL.out.old (Below.up b2 HSZ.out))
    clear h2 b2 hs2 hF2 HB1 HSZ HL
    go_wp2_with fail
    refine (jopen_any H2.out).mono ?_
    rintro e w3 ⟨F3, h3⟩
    rw [show openP (TS.new 1048576) = n1 from rfl, if_pos n1_e.1, n1_e.2] at h3
    obtain ⟨jb, A3, c3, rfl, hj3, hjb, _, hu3⟩ := h3
    have hB3 := upd_below hu3 HS2.out HF2.out
    have H3 := Lib.hid (show JN B w3 jb tb n1.2.2 n1.2.1 F3 from ⟨hj3, hB3.2, Nat.le_trans HS2.out hu3.fr.size⟩)
    have B3 := Lib.hid (B2.out.trans hB3.1)
    have HL3 := Lib.hid (HL2.out.old hB3.1)
    clear hj3 hu3 hB3 hjb H2 B2 HF2 HS2 HL2
    obtain ⟨mm, hm6, hme⟩ := modq n 200 (by decide) (by decide)
    have hme : wrap64 ((IntKind.u64.wrap n).tmod 200) = (mm : Int) := hme
    obtain ⟨hkp, hal⟩ := n1_kept ls
    have HKP := Lib.hid hkp
    have HAL := Lib.hid hal
    clear hkp hal
    go_wp2_with fail
    rw [hme]
    refine (arm_any tb (mm : Int) keep n1.2.1 F3 w3 H3.out.jr.tape (by omega)).mono ?_
    rw [arm_fine HAL.out.off]
    rintro e w4 ⟨rfl, F4, ht4, hu4⟩
    obtain ⟨hj4, hu4'⟩ := H3.out.jr.upd ht4 hu4
    obtain ⟨h4, b4⟩ := H3.out.upd hj4 hu4'
    have H4 := Lib.hid h4
    have B4 := Lib.hid (B3.out.trans b4)
    have HL4 := Lib.hid (HL3.out.old b4)
    have HK4 := Lib.hid (HKP.out.armed (some ((mm : Int), keep)))
    have HA4 := Lib.hid (HAL.out.armed (some ((mm : Int), keep)))
    clear ht4 hu4 hj4 hu4' h4 b4 H3 B3 HL3 HKP HAL hme
    go_wp2_with fail
    go_loopw [13, 51] (fun sv i wr => ∃ (k s : Nat) (F : Nat → Prop) (J : JS) (T : TS), k ≤ N ∧ i = .int .i64 (k : Int) ∧ sv = .int .i64 (s : Int) ∧ s ≤ k ∧ Hid (JN B wr jb tb J T F) ∧ Hid (Kept T ls s) ∧ Hid (Alive T J ls k ∨ Dead T) ∧ Hid (Below B w wr) ∧ Hid (RLs wr (fun k => B ≤ k) A ls)) (fun _ i _ => N - (intOf i).toNat)
    case atStart => exact ⟨0, 0, F4, _, _, Nat.zero_le _, rfl, rfl, Nat.le_refl _, H4, HK4, Lib.hid (.inl HA4.out), B4, HL4⟩
    case round =>
      clear H4 B4 HL4 HK4 HA4
      obtain ⟨k, s, F, J, T, hk, rfl, rfl, hsk, HJ, HK, HAD, HB, HL⟩ := hrel
      by_cases hlt : k < N
      · obtain ⟨l, hl1⟩ : ∃ l, ls[k]? = some l := ⟨_, List.getElem?_eq_getElem (by rw [← HNL.out]; exact hlt)⟩
        obtain ⟨b, off, cc, hA, hbl, hX, hcell, A1, n1', rfl, hn1, hrb, hX1⟩ := HL.out k l hl1
        have hcall := jappend_any A1 n1' l HJ.out.jr hrb
        obtain ⟨m, hm⟩ : ∃ m, m = l.length := ⟨_, rfl⟩
        rw [← hm] at hcall hcell
        obtain ⟨⟨p, T', J'⟩, hr⟩ : ∃ r, r = J.append T l := ⟨_, rfl⟩
        have hcase : (p = 0 ∧ Alive T' J' ls (k + 1) ∧ Kept T' ls s) ∨ (p = 150 ∧ Dead T' ∧ Kept T' ls s) := by
          rcases HAD.out with ha | hd
          · have := ha.append HK.out l hl1 HS.out HTO.out
            rw [← hr] at this
            exact this
          · have e := hd.append (J := J) (l := l)
            rw [← hr] at e
            cases e
            exact .inr ⟨rfl, hd, HK.out⟩
        rw [← hr] at hcall
        have HC := Lib.hid hcall
        subst hA
        clear hl1 hrb hX1 hcall hm hr HAD
        rcases hcase with ⟨rfl, ha, hk'⟩ | ⟨rfl, hd, hk'⟩
        · have HA' := Lib.hid ha
          have HK' := Lib.hid hk'
          clear ha hk'
          go_wp2_with fail
          refine HC.out.mono ?_
          rintro e w5 ⟨rfl, F5, hj5, hu5⟩
          obtain ⟨h5, b5⟩ := HJ.out.upd hj5 hu5
          have H5 := Lib.hid h5
          have B5 := Lib.hid (HB.out.trans b5)
          have HL5 := Lib.hid (HL.out.old b5)
          clear hj5 hu5 h5 b5 HC HJ HB HL HK
          by_cases hks : k < sn
          · obtain ⟨b2, o2, x, hSA, hb2, hc2⟩ := HBO.out.below B5.out (by rw [← HBW.out]; exact Nat.le_refl _) k hks
            subst hSA
            cases x with
            | true =>
              go_wp2_with fail
              refine (jsync_any H5.out.jr).mono ?_
              have hsy := HA'.out.sync HK'.out (by rw [← HNL.out]; omega)
              obtain ⟨⟨p6, T6, J6⟩, hr6⟩ : ∃ r, r = J'.sync T' := ⟨_, rfl⟩
              rw [← hr6] at hsy ⊢
              rintro e w6 ⟨rfl, F6, hj6, hu6⟩
              obtain ⟨h6, b6⟩ := H5.out.upd hj6 hu6
              have H6 := Lib.hid h6
              have B6 := Lib.hid (B5.out.trans b6)
              have HL6 := Lib.hid (HL5.out.old b6)
              clear hj6 hu6 h6 b6 H5 B5 HL5 hr6
              rcases hsy with ⟨hp6, ha6, hk6⟩ | ⟨hp6, hd6, hk6⟩
              · have hp6 : p6 = 0 := hp6
                subst hp6
                go_wp2_with fail
                go_roundw
                case rel => exact ⟨k + 1, k + 1, F6, J6, T6, hlt, by go_num, by go_num, Nat.le_refl _, H6, Lib.hid hk6, Lib.hid (.inl ha6), B6, HL6⟩
                case measure => simp [intOf]; omega
              · have hp6 : p6 = 150 := hp6
                subst hp6
                go_wp2_with fail
                go_roundw
                case rel => exact ⟨k + 1, s, F6, J6, T6, hlt, by go_num, rfl, by omega, H6, Lib.hid hk6, Lib.hid (.inr hd6), B6, HL6⟩
                case measure => simp [intOf]; omega
            | false =>
              go_wp2_with fail
              go_roundw
              case rel => exact ⟨k + 1, s, F5, J', T', hlt, by go_num, rfl, by omega, H5, HK', Lib.hid (.inl HA'.out), B5, HL5⟩
              case measure => simp [intOf]; omega
          · go_wp2_with fail
            go_roundw
            case rel => exact ⟨k + 1, s, F5, J', T', hlt, by go_num, rfl, by omega, H5, HK', Lib.hid (.inl HA'.out), B5, HL5⟩
            case measure => simp [intOf]; omega
        · have hd' := hd
          have HK' := Lib.hid hk'
          have HD := Lib.hid (show T'.off = true → T'.plan = none from fun _ => hd'.2)
          clear hk' hd hd'
          go_wp2_with fail
          refine HC.out.mono ?_
          rintro e w5 ⟨rfl, F5, hj5, hu5⟩
          obtain ⟨h5, b5⟩ := HJ.out.upd hj5 hu5
          have HO := Lib.hid h5.own
          have B5 := Lib.hid (HB.out.trans b5)
          have HL5 := Lib.hid (HL.out.old b5)
          clear hj5 hu5 h5 b5 HC HJ HB HL HK
          obtain ⟨F, hF⟩ : ∃ F, F = F5 := ⟨_, rfl⟩
          obtain ⟨T, hT⟩ : ∃ T, T = T' := ⟨_, rfl⟩
          rw [← hF, ← hT] at HO
          rw [← hT] at HK' HD
          have HB := B5
          have HL := HL5
          have HK := HK'
          clear B5 HL5 HK' hF hT
          go_wp2_with fail
          refine (fail_any tb keep T F w5 HO.out.tape).mono ?_
          obtain ⟨⟨pf, Tf⟩, hpf⟩ : ∃ r, r = T.fail keep := ⟨_, rfl⟩
          have hkf := HK.out.fail HD.out keep
          rw [← hpf] at hkf ⊢
          rintro e wf ⟨rfl, Ff, htf, huf⟩
          obtain ⟨hof, hbf⟩ := HO.out.upd htf huf
          have HOf := Lib.hid hof
          have HBf := Lib.hid (HB.out.trans hbf)
          have HLf := Lib.hid (HL.out.old hbf)
          have HKF := Lib.hid hkf
          clear htf huf hof hbf hkf hpf HO HB HL HK HD
          go_wp2_with fail
          refine (power_any tb Tf Ff wf HOf.out.tape).mono ?_
          obtain ⟨T2, hT2⟩ : ∃ T2, T2 = { Tf with off := false } := ⟨_, rfl⟩
          have hkf := HKF.out
          rw [← hT2] at hkf ⊢
          have ho2 : T2.off = false := by rw [hT2]
          have hp2 : T2.plan = none := by rw [hT2]; exact hkf.2
          obtain ⟨i2, hi2, hi2l, hag⟩ := hkf.1.again ho2 hp2 HS.out HTO.out
          have HAG := Lib.hid hag
          have hs2 : ∀ x ∈ ls.take i2, x.length ≤ 8000 := fun x hx => HS.out x (List.mem_of_mem_take hx)
          have ht2 : 20 * (ls.take i2).length + total (ls.take i2) ≤ 8000 := by have := total_take ls i2; have := HTO.out; omega
          have HS2 := Lib.hid hs2
          have HT2 := Lib.hid ht2
          rintro e wp ⟨rfl, htp, hup⟩
          obtain ⟨hop, hbp⟩ := HOf.out.upd htp hup
          have HOp := Lib.hid hop
          have HBp := Lib.hid (HBf.out.trans hbp)
          have HLp := Lib.hid (HLf.out.old hbp)
          clear htp hup hop hbp hkf hT2 ho2 hp2 hag hs2 ht2 HKF HOf HBf HLf
          obtain ⟨l2, hl2⟩ : ∃ l2, l2 = ls.take i2 := ⟨_, rfl⟩
          have hl2n : l2.length = i2 := by rw [hl2, List.length_take]; omega
          have hc1 := open_again HOp.out HAG.out (by omega) HS2.out HT2.out
          rw [← hl2, hl2n] at hc1
          have HC1 := Lib.hid hc1
          have HL2 := Lib.hid hl2
          have HLN := Lib.hid hl2n
          clear hc1 hl2 hl2n
          go_wp2_with fail
          refine HC1.out.mono ?_
          rintro e w11 ⟨F11, j11, A11, c11, T11, J11, rfl, hj11, ha11, hr11, hu11, hb11⟩
          have HO11 := Lib.hid hj11.own
          have HB11 := Lib.hid (HBp.out.trans hb11)
          have HL11 := Lib.hid (HLp.out.old hb11)
          have HR11 := Lib.hid (hr11.mono fun k _ h => Or.inl h)
          have hs2 := HS2.out
          have ht2 := HT2.out
          rw [← HL2.out] at hs2 ht2
          have hc2 := open_again HO11.out ha11 (by omega) hs2 ht2
          rw [HLN.out] at hc2
          have HC2 := Lib.hid hc2
          clear hj11 ha11 hr11 hu11 hb11 hc2 hs2 ht2 HOp HBp HLp HC1
          go_wp2_with fail
          refine HC2.out.mono ?_
          rintro e w12 ⟨F12, j12, A12, c12, T12, J12, rfl, hj12, ha12, hr12, hu12, hb12⟩
          have hs12 := hj12.size
          have HB12 := Lib.hid (HB11.out.trans hb12)
          have HL12 := Lib.hid (HL11.out.old hb12)
          have hsame := same16_any A11 A12 c11 c12 l2 l2 _ _ w12 (HR11.out.upd hu12) hr12 (by rw [HLN.out]; have := HNL.out; omega)
          rw [HLN.out, decide_eq_true rfl] at hsame
          have HSA := Lib.hid hsame
          have HR12 := Lib.hid (HR11.out.upd hu12)
          clear hj12 ha12 hr12 hu12 hb12 hsame HO11 HB11 HL11 HR11 HC2
          go_wp2_with fail
          refine HSA.out.mono ?_
          rintro e w13 ⟨rfl, hb13⟩
          have HB13 := Lib.hid (HB12.out.trans (Below.up hb13 hs12))
          have HL13 := Lib.hid (HL12.out.old (Below.up hb13 hs12))
          have HR13 := Lib.hid (HR12.out.upd (Upd.of_below hb13))
          have hs13 : B ≤ w13.heap.size := Nat.le_trans hs12 hb13.size
          have hbeg := begins_any A11 _ c11 c l2 ls _ _ w13 HR13.out HL13.out (by rw [← HNL.out]; omega) (by rw [← HNL.out]; exact hcap)
          rw [HLN.out, ← HNL.out, decide_eq_true (by exact ⟨by rw [HNL.out]; exact hi2l, HL2.out⟩)] at hbeg
          have HBE := Lib.hid hbeg
          clear hb13 hbeg HSA HB12 HL12 HR12
          go_wp2_with fail
          refine HBE.out.mono ?_
          rintro e w14 ⟨rfl, hb14⟩
          have HB14 := Lib.hid (HB13.out.trans (Below.up hb14 hs13))
          have hs14 : B ≤ w14.heap.size := Nat.le_trans hs13 hb14.size
          clear hb14 HBE HB13 HL13 HR13
          go_wp2_with fail
          refine (jlives_true w14).mono ?_
          rintro e w15 ⟨rfl, hb15⟩
          have HB15 := Lib.hid (HB14.out.trans (Below.up hb15 hs14))
          clear hb15
          go_wp2_with fail
          go_ret
          exact ⟨rfl, HB15.out⟩
      · have hkN : k = N := by omega
        subst hkN
        have HO := Lib.hid HJ.out.own
        have HD : Hid (T.off = true → T.plan = none) := Lib.hid fun ho => by
          rcases HAD.out with ha | hd
          · rw [ha.off] at ho; cases ho
          · exact hd.2
        clear HJ HAD
        go_wp2_with fail
        refine (fail_any tb keep T F wr HO.out.tape).mono ?_
        obtain ⟨⟨pf, Tf⟩, hpf⟩ : ∃ r, r = T.fail keep := ⟨_, rfl⟩
        have hkf := HK.out.fail HD.out keep
        rw [← hpf] at hkf ⊢
        rintro e wf ⟨rfl, Ff, htf, huf⟩
        obtain ⟨hof, hbf⟩ := HO.out.upd htf huf
        have HOf := Lib.hid hof
        have HBf := Lib.hid (HB.out.trans hbf)
        have HLf := Lib.hid (HL.out.old hbf)
        have HKF := Lib.hid hkf
        clear htf huf hof hbf hkf hpf HO HB HL HK HD
        go_wp2_with fail
        refine (power_any tb Tf Ff wf HOf.out.tape).mono ?_
        obtain ⟨T2, hT2⟩ : ∃ T2, T2 = { Tf with off := false } := ⟨_, rfl⟩
        have hkf := HKF.out
        rw [← hT2] at hkf ⊢
        have ho2 : T2.off = false := by rw [hT2]
        have hp2 : T2.plan = none := by rw [hT2]; exact hkf.2
        obtain ⟨i2, hi2, hi2l, hag⟩ := hkf.1.again ho2 hp2 HS.out HTO.out
        have HAG := Lib.hid hag
        have hs2 : ∀ x ∈ ls.take i2, x.length ≤ 8000 := fun x hx => HS.out x (List.mem_of_mem_take hx)
        have ht2 : 20 * (ls.take i2).length + total (ls.take i2) ≤ 8000 := by have := total_take ls i2; have := HTO.out; omega
        have HS2 := Lib.hid hs2
        have HT2 := Lib.hid ht2
        rintro e wp ⟨rfl, htp, hup⟩
        obtain ⟨hop, hbp⟩ := HOf.out.upd htp hup
        have HOp := Lib.hid hop
        have HBp := Lib.hid (HBf.out.trans hbp)
        have HLp := Lib.hid (HLf.out.old hbp)
        clear htp hup hop hbp hkf hT2 ho2 hp2 hag hs2 ht2 HKF HOf HBf HLf
        obtain ⟨l2, hl2⟩ : ∃ l2, l2 = ls.take i2 := ⟨_, rfl⟩
        have hl2n : l2.length = i2 := by rw [hl2, List.length_take]; omega
        have hc1 := open_again HOp.out HAG.out (by omega) HS2.out HT2.out
        rw [← hl2, hl2n] at hc1
        have HC1 := Lib.hid hc1
        have HL2 := Lib.hid hl2
        have HLN := Lib.hid hl2n
        clear hc1 hl2 hl2n
        go_wp2_with fail
        refine HC1.out.mono ?_
        rintro e w11 ⟨F11, j11, A11, c11, T11, J11, rfl, hj11, ha11, hr11, hu11, hb11⟩
        have HO11 := Lib.hid hj11.own
        have HB11 := Lib.hid (HBp.out.trans hb11)
        have HL11 := Lib.hid (HLp.out.old hb11)
        have HR11 := Lib.hid (hr11.mono fun k _ h => Or.inl h)
        have hs2 := HS2.out
        have ht2 := HT2.out
        rw [← HL2.out] at hs2 ht2
        have hc2 := open_again HO11.out ha11 (by omega) hs2 ht2
        rw [HLN.out] at hc2
        have HC2 := Lib.hid hc2
        clear hj11 ha11 hr11 hu11 hb11 hc2 hs2 ht2 HOp HBp HLp HC1
        go_wp2_with fail
        refine HC2.out.mono ?_
        rintro e w12 ⟨F12, j12, A12, c12, T12, J12, rfl, hj12, ha12, hr12, hu12, hb12⟩
        have hs12 := hj12.size
        have HB12 := Lib.hid (HB11.out.trans hb12)
        have HL12 := Lib.hid (HL11.out.old hb12)
        have hsame := same16_any A11 A12 c11 c12 l2 l2 _ _ w12 (HR11.out.upd hu12) hr12 (by rw [HLN.out]; have := HNL.out; omega)
        rw [HLN.out, decide_eq_true rfl] at hsame
        have HSA := Lib.hid hsame
        have HR12 := Lib.hid (HR11.out.upd hu12)
        clear hj12 ha12 hr12 hu12 hb12 hsame HO11 HB11 HL11 HR11 HC2
        go_wp2_with fail
        refine HSA.out.mono ?_
        rintro e w13 ⟨rfl, hb13⟩
        have HB13 := Lib.hid (HB12.out.trans (Below.up hb13 hs12))
        have HL13 := Lib.hid (HL12.out.old (Below.up hb13 hs12))
        have HR13 := Lib.hid (HR12.out.upd (Upd.of_below hb13))
        have hs13 : B ≤ w13.heap.size := Nat.le_trans hs12 hb13.size
        have hbeg := begins_any A11 _ c11 c l2 ls _ _ w13 HR13.out HL13.out (by rw [← HNL.out]; omega) (by rw [← HNL.out]; exact hcap)
        rw [HLN.out, ← HNL.out, decide_eq_true (by exact ⟨by rw [HNL.out]; exact hi2l, HL2.out⟩)] at hbeg
        have HBE := Lib.hid hbeg
        clear hb13 hbeg HSA HB12 HL12 HR12
        go_wp2_with fail
        refine HBE.out.mono ?_
        rintro e w14 ⟨rfl, hb14⟩
        have HB14 := Lib.hid (HB13.out.trans (Below.up hb14 hs13))
        have hs14 : B ≤ w14.heap.size := Nat.le_trans hs13 hb14.size
        clear hb14 HBE HB13 HL13 HR13
        go_wp2_with fail
        refine (jlives_true w14).mono ?_
        rintro e w15 ⟨rfl, hb15⟩
        have HB15 := Lib.hid (HB14.out.trans (Below.up hb15 hs14))
        clear hb15
        go_wp2_with fail
        go_ret
        exact ⟨rfl, HB15.out⟩

end Go.Proofs.Ytnkenkdglcmpdaa
