/- The law JournalLays: while records are laid anew, power fails. -/
import Derived.Test.YtnkenkdglcmpdaaJouAA
namespace Go.Proofs.Ytnkenkdglcmpdaa
set_option linter.unusedVariables false
set_option linter.unusedSimpArgs false
open Go.RowKit

theorem rb_old {B : Nat} {w w' : World} {A : Option Addr} {l : List UInt8} (h : RB w A l) (hX : ∀ a, A = some a → 0 < l.length → 0 ≤ a.block ∧ ¬ B ≤ a.block) (hb : Below B w w') : RB w' A l :=
  h.fr2 (F := fun k => B ≤ k) ⟨hb.os, hb.tape, hb.output, hb.size, fun k _ hk => hb.block k (by omega)⟩ fun a ha h0 => (hX a ha h0).2
theorem n1_turn : n1.2.2.turn = 1 := n1_run.turn
set_option maxRecDepth 100000 in
set_option maxHeartbeats 16000000 in
theorem lawLays (A AR : Option Addr) (c cR : Nat) (xs ys : List RecV) (sy n keep : Int) (w : World) (h : RecsR w A xs) (hl : xs.length ≤ 9223372036854775807) (hcap : xs.length ≤ c) (hR : RecsR w AR ys) (hlR : ys.length ≤ 9223372036854775807) :
    Calls Try.prog 15 #[.slice A xs.length c, .slice AR ys.length cR, .int .i64 sy, .int .i64 n, .int .i64 keep] w fun e w' => e = .returned (.bool true) ∧ Below w.heap.size w w' := by
  obtain ⟨N, hN⟩ : ∃ N, N = xs.length := ⟨_, rfl⟩
  obtain ⟨M, hM⟩ : ∃ M, M = ys.length := ⟨_, rfl⟩
  rw [← hN] at hl hcap ⊢
  rw [← hM] at hlR ⊢
  obtain ⟨B, hB⟩ : ∃ B, B = w.heap.size := ⟨_, rfl⟩
  rw [← hB]
  have HBW := Lib.hid hB
  clear hB
  have HN := Lib.hid hN
  have HM := Lib.hid hM
  have H := Lib.hid h
  have HR := Lib.hid hR
  clear h hN hR hM
  go_enter Try.func15, Try.ntmps15
  by_cases h100 : 100 < N
  · go_wp2_with fail
    refine (jlives_true w).mono ?_
    rintro e w1 ⟨rfl, hb⟩
    go_wp2_with fail
    go_ret
    exact ⟨rfl, by rw [HBW.out]; exact hb⟩
  by_cases h100R : 100 < M
  · go_wp2_with fail
    refine (jlives_true w).mono ?_
    rintro e w1 ⟨rfl, hb⟩
    go_wp2_with fail
    go_ret
    exact ⟨rfl, by rw [HBW.out]; exact hb⟩
  go_wp2_with fail
  rw [HN.out]
  refine (light8_any A c xs w H.out (by rw [← HN.out]; exact hl)).mono ?_
  rw [← HN.out]
  rintro e w1 ⟨b, rfl, hlb, hb1⟩
  have HB1 := Lib.hid hb1
  cases b with
  | false =>
    clear hb1 hlb
    go_wp2_with fail
    refine (jlives_true w1).mono ?_
    rintro e w2 ⟨rfl, hb⟩
    have HB2 := Lib.hid (HB1.out.trans (Below.up hb HB1.out.size))
    clear hb
    go_wp2_with fail
    go_ret
    exact ⟨rfl, by rw [HBW.out]; exact HB2.out⟩
  | true =>
    have HLB := Lib.hid (hlb rfl)
    clear hb1 hlb
    go_wp2_with fail
    rw [HM.out]
    refine (light8_any AR cR ys w1 (HR.out.below HB1.out) (by rw [← HM.out]; exact hlR)).mono ?_
    rw [← HM.out]
    rintro e w2 ⟨b, rfl, hlb, hb2⟩
    have HB2 := Lib.hid (HB1.out.trans (Below.up hb2 HB1.out.size))
    cases b with
    | false =>
      clear hb2 hlb
      go_wp2_with fail
      refine (jlives_true w2).mono ?_
      rintro e w3 ⟨rfl, hb⟩
      have HB3 := Lib.hid (HB2.out.trans (Below.up hb HB2.out.size))
      clear hb
      go_wp2_with fail
      go_ret
      exact ⟨rfl, by rw [HBW.out]; exact HB3.out⟩
    | true =>
      obtain ⟨ls, hll, hrl, hs8, htot⟩ := recs_lists H.out HLB.out
      obtain ⟨ms, hml, hrm, hm8, hmtot⟩ := recs_lists HR.out (hlb rfl)
      rw [← HBW.out] at hrl hrm HB2
      have HL := Lib.hid (hrl.old HB2.out)
      have HLM := Lib.hid (hrm.old HB2.out)
      have HS := Lib.hid hs8
      have HTO := Lib.hid htot
      have HSM := Lib.hid hm8
      have HTM := Lib.hid hmtot
      have hNl : N = ls.length := by rw [HN.out, hll]
      have HNL := Lib.hid hNl
      have hMl : M = ms.length := by rw [HM.out, hml]
      have HML := Lib.hid hMl
      have HSZ : Hid (B ≤ w2.heap.size) := Lib.hid (by have := HB2.out.size; have := HBW.out; omega)
      clear hll hrl hs8 htot hlb hb2 hNl HN H HB1 hml hrm hm8 hmtot hMl HM HR HLB
      go_wp2_with fail
      refine (made w2.heap.size 1048576 w2 rfl (by decide) (by decide)).mono ?_
      rintro e w3 ⟨tb, rfl, ⟨hs2, F2, h2, hF2⟩, b2⟩
      have H2 := Lib.hid h2
      have B2 := Lib.hid (HB2.out.trans (Below.up b2 HSZ.out))
      have HF2 : Hid (∀ k, F2 k → B ≤ k) := Lib.hid fun k hk => Nat.le_trans HSZ.out (hF2 k hk)
      have HS2 : Hid (B ≤ w3.heap.size) := Lib.hid (Nat.le_trans HSZ.out b2.size)
      have HL2 := Lib.hid (HL.out.old (Below.up b2 HSZ.out))
      have HM2 := Lib.hid (HLM.out.old (Below.up b2 HSZ.out))
      clear h2 b2 hs2 hF2 HB2 HSZ HL HLM
      go_wp2_with fail
      refine (jopen_any H2.out).mono ?_
      rintro e w4 ⟨F3, h3⟩
      rw [show openP (TS.new 1048576) = n1 from rfl, if_pos n1_e.1, n1_e.2] at h3
      obtain ⟨jb, A3, c3, rfl, hj3, hjb, _, hu3⟩ := h3
      have hB3 := upd_below hu3 HS2.out HF2.out
      have H3 := Lib.hid (show JN B w4 jb tb n1.2.2 n1.2.1 F3 from ⟨hj3, hB3.2, Nat.le_trans HS2.out hu3.fr.size⟩)
      have B3 := Lib.hid (B2.out.trans hB3.1)
      have HL3 := Lib.hid (HL2.out.old hB3.1)
      have HM3 := Lib.hid (HM2.out.old hB3.1)
      clear hj3 hu3 hB3 hjb H2 B2 HF2 HS2 HL2 HM2
      obtain ⟨q, hqN, hqe⟩ := modq sy (N + 1) (by omega) (by omega)
      have hqe : wrap64 ((IntKind.u64.wrap sy).tmod ((N : Int) + 1)) = (q : Int) := hqe
      obtain ⟨hkp, hal⟩ := n1_kept ls
      have HKP := Lib.hid hkp
      have HRU := Lib.hid (show Run n1.2.1 n1.2.2 (ls.take 0) from n1_run)
      clear hkp hal
      go_wp2_with fail
      rw [hqe]
      clear hqe
      go_loopw [59] (fun i wr => ∃ (k : Nat) (F : Nat → Prop) (J : JS) (T : TS), k ≤ N ∧ i = .int .i64 (k : Int) ∧ Hid (JN B wr jb tb J T F) ∧ Hid (Kept T ls (if q < k then q else 0)) ∧ Hid (Run T J (ls.take k)) ∧ Hid (Below B w wr) ∧ Hid (RLs wr (fun k => B ≤ k) A ls) ∧ Hid (RLs wr (fun k => B ≤ k) AR ms)) (fun i _ => N - (intOf i).toNat)
      case atStart => exact ⟨0, F3, _, _, Nat.zero_le _, rfl, H3, by rw [if_neg (by omega)]; exact HKP, HRU, B3, HL3, HM3⟩
      case round =>
        clear H3 B3 HL3 HM3 HKP HRU
        obtain ⟨k, F, J, T, hk, rfl, HJ, HK, HU, HB, HL, HM⟩ := hrel
        by_cases hlt : k < N
        · obtain ⟨l, hl1⟩ : ∃ l, ls[k]? = some l := ⟨_, List.getElem?_eq_getElem (by rw [← HNL.out]; exact hlt)⟩
          obtain ⟨b, off, cc, hA, hbl, hX, hcell, A1, n1', rfl, hn1, hrb, hX1⟩ := HL.out k l hl1
          obtain ⟨m, hm⟩ : ∃ m, m = l.length := ⟨_, rfl⟩
          have HMM := Lib.hid hm
          have HL1 := Lib.hid hl1
          have HRB := Lib.hid hrb
          have HX1 := Lib.hid hX1
          rw [← hm] at hcell
          subst hA
          clear hl1 hrb hX1 hm
          by_cases hkq : k = q
          · subst hkq
            go_wp2_with fail
            refine (jsync_any HJ.out.jr).mono ?_
            obtain ⟨hp6, hu6, hk6⟩ := HU.out.sync HK.out (by rw [← HNL.out]; omega)
            obtain ⟨⟨p6, T6, J6⟩, hr6⟩ : ∃ r, r = J.sync T := ⟨_, rfl⟩
            rw [← hr6] at hp6 hu6 hk6 ⊢
            have hp6 : p6 = 0 := hp6
            subst hp6
            have HU6 := Lib.hid hu6
            have HK6 := Lib.hid hk6
            rintro e w6 ⟨rfl, F6, hj6, hv6⟩
            obtain ⟨h6, b6⟩ := HJ.out.upd hj6 hv6
            have H6 := Lib.hid h6
            have B6 := Lib.hid (HB.out.trans b6)
            have HL6 := Lib.hid (HL.out.old b6)
            have HM6 := Lib.hid (HM.out.old b6)
            have HRB6 := Lib.hid (rb_old HRB.out HX1.out b6)
            clear hj6 hv6 h6 b6 hr6 hu6 hk6 HJ HB HL HM HRB HX1 HU HK
            go_wp2_with fail
            have hcall := jappend_any A1 n1' l H6.out.jr HRB6.out
            rw [← HMM.out] at hcall
            refine hcall.mono ?_
            obtain ⟨hp7, hu7, hk7⟩ := HU6.out.kept HK6.out l HL1.out HS.out HTO.out
            obtain ⟨⟨p7, T7, J7⟩, hr7⟩ : ∃ r, r = J6.append T6 l := ⟨_, rfl⟩
            have hp7 : (J6.append T6 l).1 = 0 := hp7
            have hu7 : Run (J6.append T6 l).2.1 (J6.append T6 l).2.2 (ls.take (k + 1)) := hu7
            have hk7 : Kept (J6.append T6 l).2.1 ls k := hk7
            rw [← hr7] at hp7 hu7 hk7 ⊢
            have hp7 : p7 = 0 := hp7
            subst hp7
            have HU7 := Lib.hid hu7
            have HK7 := Lib.hid hk7
            clear hcall
            rintro e w7 ⟨rfl, F7, hj7, hv7⟩
            obtain ⟨h7, b7⟩ := H6.out.upd hj7 hv7
            have H7 := Lib.hid h7
            have B7 := Lib.hid (B6.out.trans b7)
            have HL7 := Lib.hid (HL6.out.old b7)
            have HM7 := Lib.hid (HM6.out.old b7)
            clear hj7 hv7 h7 b7 hr7 hu7 hk7 H6 B6 HL6 HM6 HRB6 HU6 HK6
            go_wp2_with fail
            go_roundw
            case rel => exact ⟨k + 1, F7, J7, T7, hlt, by go_num, H7, by rw [if_pos (by omega)]; exact HK7, HU7, B7, HL7, HM7⟩
            case measure => simp [intOf]; omega
          · have hne : (((k : Int)) == (q : Int)) = false := by simp; omega
            go_wp2_with fail
            have hcall := jappend_any A1 n1' l HJ.out.jr HRB.out
            rw [← HMM.out] at hcall
            refine hcall.mono ?_
            obtain ⟨hp7, hu7, hk7⟩ := HU.out.kept HK.out l HL1.out HS.out HTO.out
            obtain ⟨⟨p7, T7, J7⟩, hr7⟩ : ∃ r, r = J.append T l := ⟨_, rfl⟩
            rw [← hr7] at hp7 hu7 hk7 ⊢
            have hp7 : p7 = 0 := hp7
            subst hp7
            have HU7 := Lib.hid hu7
            have HK7 := Lib.hid hk7
            clear hcall
            rintro e w7 ⟨rfl, F7, hj7, hv7⟩
            obtain ⟨h7, b7⟩ := HJ.out.upd hj7 hv7
            have H7 := Lib.hid h7
            have B7 := Lib.hid (HB.out.trans b7)
            have HL7 := Lib.hid (HL.out.old b7)
            have HM7 := Lib.hid (HM.out.old b7)
            clear hj7 hv7 h7 b7 hr7 hu7 hk7 HJ HB HL HM HRB HU HK
            go_wp2_with fail
            go_roundw
            case rel => exact ⟨k + 1, F7, J7, T7, hlt, by go_num, H7, by rw [show (if q < k + 1 then q else 0) = (if q < k then q else 0) by split <;> split <;> omega]; exact HK7, HU7, B7, HL7, HM7⟩
            case measure => simp [intOf]; omega
        · have hkN : k = N := by omega
          subst hkN
          obtain ⟨mm, hm6, hme⟩ := modq n 120 (by decide) (by decide)
          have HME := Lib.hid (show wrap64 ((IntKind.u64.wrap n).tmod 120) = (mm : Int) from hme)
          clear hme
          by_cases hkq : q = k
          · subst hkq
            go_wp2_with fail
            refine (jsync_any HJ.out.jr).mono ?_
            obtain ⟨hp6, hu6, hk6⟩ := HU.out.sync HK.out (by rw [← HNL.out]; omega)
            obtain ⟨⟨p6, T6, J6⟩, hr6⟩ : ∃ r, r = J.sync T := ⟨_, rfl⟩
            rw [← hr6] at hp6 hu6 hk6 ⊢
            have hp6 : p6 = 0 := hp6
            subst hp6
            have HU6 := Lib.hid hu6
            have HK6 := Lib.hid hk6
            rintro e w6 ⟨rfl, F6, hj6, hv6⟩
            obtain ⟨h6, b6⟩ := HJ.out.upd hj6 hv6
            have H6 := Lib.hid h6
            have B6 := Lib.hid (HB.out.trans b6)
            have HL6 := Lib.hid (HL.out.old b6)
            have HM6 := Lib.hid (HM.out.old b6)
            clear hj6 hv6 h6 b6 hr6 hu6 hk6 HJ HB HL HM HU HK
            obtain ⟨T, hT⟩ : ∃ T, T = T6 := ⟨_, rfl⟩
            obtain ⟨F, hF⟩ : ∃ F, F = F6 := ⟨_, rfl⟩
            obtain ⟨J, hJ⟩ : ∃ J, J = J6 := ⟨_, rfl⟩
            rw [← hT, ← hJ, ← hF] at H6
            rw [← hT, ← hJ] at HU6
            rw [← hT] at HK6
            have HJ := H6
            have HB := B6
            have HL := HL6
            have HM := HM6
            have HU : Hid (Run T J (ls.take q)) := HU6
            have HK : Hid (Kept T ls q) := HK6
            clear H6 B6 HL6 HM6 HU6 HK6 hT hF hJ
            go_wp2_with fail
            rw [HME.out]
            refine (arm_any tb (mm : Int) keep T F w6 HJ.out.jr.tape (by omega)).mono ?_
            rw [arm_fine HU.out.off]
            obtain ⟨T4, hT4⟩ : ∃ T4, T4 = { T with plan := some ((mm : Int), keep) } := ⟨_, rfl⟩
            have HK4 := Lib.hid (HK.out.armed (some ((mm : Int), keep)))
            have HA4 := Lib.hid (HU.out.alive.armed (some ((mm : Int), keep)))
            have HJT := Lib.hid HU.out.turn
            have HJA := Lib.hid HU.out.area
            rw [← hT4] at HK4 HA4 ⊢
            rintro e w4 ⟨rfl, F4, ht4, hu4⟩
            obtain ⟨hj4, hu4'⟩ := HJ.out.jr.upd ht4 hu4
            obtain ⟨h4, b4⟩ := HJ.out.upd hj4 hu4'
            have H4 := Lib.hid h4
            have B4 := Lib.hid (HB.out.trans b4)
            have HL4 := Lib.hid (HL.out.old b4)
            have HM4 := Lib.hid (HM.out.old b4)
            clear ht4 hu4 hj4 hu4' h4 b4 HJ HB HL HM HK HU hT4
            go_wp2_with fail
            have hcall := jlay_any AR cR ms H4.out.jr (HM4.out.own H4.out.from_) (by rw [← HML.out]; omega) ⟨.inl HJA.out, by rw [HJT.out]; decide⟩
            rw [← HML.out] at hcall
            refine hcall.mono ?_
            obtain ⟨ok, ho1, ho2, ho3, ho4⟩ := lay_out (M := ms) HA4.out HJT.out HK4.out HS.out HTO.out HSM.out HTM.out
            obtain ⟨⟨p5, T5, J5⟩, hr5⟩ : ∃ r, r = J.lay T4 ms := ⟨_, rfl⟩
            rw [← hr5] at ho1 ho2 ho3 ho4 ⊢
            have hp5 : (p5 == (0 : Int)) = ok := by
              have : p5 = (if ok = true then 0 else 150) := ho1
              rw [this]; cases ok <;> rfl
            have HO1 := Lib.hid ho2
            have HO3 := Lib.hid ho3
            have HO4 := Lib.hid ho4
            clear hcall hr5 ho1 ho2 ho3 ho4
            rintro e w5 ⟨rfl, F5, hj5, hv5⟩
            obtain ⟨h5, b5⟩ := H4.out.upd hj5 hv5
            have HO5 := Lib.hid h5.own
            have B5 := Lib.hid (B4.out.trans b5)
            have HL5 := Lib.hid (HL4.out.old b5)
            have HM5 := Lib.hid (HM4.out.old b5)
            clear hj5 hv5 h5 b5 H4 B4 HL4 HM4 HK4 HA4 HJT HJA
            go_wp2_with fail
            refine (fail_any tb keep T5 F5 w5 HO5.out.tape).mono ?_
            obtain ⟨a2, t2, l2, ht2, hag, hs2, hz2, hor⟩ := HO1.out.end_ HO3.out HO4.out keep HS.out HTO.out HSM.out HTM.out
            obtain ⟨⟨pf, Tf⟩, hpf⟩ : ∃ r, r = T5.fail keep := ⟨_, rfl⟩
            rw [← hpf] at hag ⊢
            rintro e wf ⟨rfl, Ff, htf, huf⟩
            obtain ⟨hof, hbf⟩ := HO5.out.upd htf huf
            have HOf := Lib.hid hof
            have HBf := Lib.hid (B5.out.trans hbf)
            have HLf := Lib.hid (HL5.out.old hbf)
            have HMf := Lib.hid (HM5.out.old hbf)
            have HAG := Lib.hid hag
            have HS2 := Lib.hid hs2
            have HZ2 := Lib.hid hz2
            have HOR := Lib.hid hor
            clear htf huf hof hbf hpf HO5 B5 HL5 HM5 HO1 HO3 HO4 hag hs2 hz2 hor
            go_wp2_with fail
            refine (power_any tb Tf Ff wf HOf.out.tape).mono ?_
            have hag := HAG.out
            obtain ⟨T2, hT2⟩ : ∃ T2, T2 = { Tf with off := false } := ⟨_, rfl⟩
            have hag : Again { Tf with off := false } a2 t2 l2 := hag
            rw [← hT2] at hag ⊢
            rintro e wp ⟨rfl, htp, hup⟩
            obtain ⟨hop, hbp⟩ := HOf.out.upd htp hup
            have HOp := Lib.hid hop
            have HBp := Lib.hid (HBf.out.trans hbp)
            have HLp := Lib.hid (HLf.out.old hbp)
            have HMp := Lib.hid (HMf.out.old hbp)
            have HAG2 := Lib.hid hag
            clear htp hup hop hbp hT2 hag HOf HBf HLf HMf HAG
            obtain ⟨n2, hn2⟩ : ∃ n2, n2 = l2.length := ⟨_, rfl⟩
            have hc1 := open_again HOp.out HAG2.out (by omega) HS2.out HZ2.out
            rw [← hn2] at hc1
            have HC1 := Lib.hid hc1
            have HN2 := Lib.hid hn2
            clear hc1 hn2
            go_wp2_with fail
            refine HC1.out.mono ?_
            rintro e w11 ⟨F11, j11, A11, c11, T11, J11, rfl, hj11, ha11, hr11, hu11, hb11⟩
            have hs11 := hj11.size
            have HB11 := Lib.hid (HBp.out.trans hb11)
            have HL11 := Lib.hid (HLp.out.old hb11)
            have HM11 := Lib.hid (HMp.out.old hb11)
            have hsame := same16_any A11 AR c11 cR l2 ms _ _ w11 hr11 HM11.out (by have := HZ2.out; omega)
            rw [← HN2.out, ← HML.out] at hsame
            have hbeg := fun (w12 : World) (hb12 : Below w11.heap.size w11 w12) => begins_any A11 A c11 c l2 ls _ _ w12 (hr11.upd (Upd.of_below hb12)) (HL11.out.old (Below.up hb12 hs11)) (by have := HNL.out; omega) (by rw [← HNL.out]; exact hcap)
            rw [← HN2.out, ← HNL.out] at hbeg
            have HSA := Lib.hid hsame
            have HBG := Lib.hid hbeg
            clear hj11 ha11 hr11 hu11 hb11 hsame hbeg HOp HBp HLp HMp HC1 HAG2
            by_cases hlm : l2 = ms
            · rw [decide_eq_true hlm] at HSA
              cases ok with
              | true =>
                go_wp2_with fail
                refine HSA.out.mono ?_
                rintro e w13 ⟨rfl, hb13⟩
                have HB13 := Lib.hid (HB11.out.trans (Below.up hb13 hs11))
                have hs13 : B ≤ w13.heap.size := Nat.le_trans hs11 hb13.size
                clear hb13 HSA HBG HB11
                go_wp2_with fail
                refine (jlives_true w13).mono ?_
                rintro e w15 ⟨rfl, hb15⟩
                have HB15 := Lib.hid (HB13.out.trans (Below.up hb15 hs13))
                clear hb15
                go_wp2_with fail
                go_ret
                exact ⟨rfl, HB15.out⟩
              | false =>
                go_wp2_with fail
                refine HSA.out.mono ?_
                rintro e w13 ⟨rfl, hb13⟩
                have HB13 := Lib.hid (HB11.out.trans (Below.up hb13 hs11))
                have hs13 : B ≤ w13.heap.size := Nat.le_trans hs11 hb13.size
                clear hb13 HSA HBG HB11
                go_wp2_with fail
                refine (jlives_true w13).mono ?_
                rintro e w15 ⟨rfl, hb15⟩
                have HB15 := Lib.hid (HB13.out.trans (Below.up hb15 hs13))
                clear hb15
                go_wp2_with fail
                go_ret
                exact ⟨rfl, HB15.out⟩
            · rw [decide_eq_false hlm] at HSA
              obtain ⟨hokf, i2, hqi, hil, hli⟩ := HOR.out.resolve_left hlm
              subst hokf
              have hn2i : n2 = i2 := by rw [HN2.out, hli, List.length_take]; omega
              have hq2 : q ≤ n2 := by omega
              rw [decide_eq_true (by exact ⟨by rw [hn2i, HNL.out]; exact hil, by rw [hn2i]; exact hli⟩)] at HBG
              clear hli hlm hil hn2i hqi
              go_wp2_with fail
              refine HSA.out.mono ?_
              rintro e w13 ⟨rfl, hb13⟩
              have HB13 := Lib.hid (HB11.out.trans (Below.up hb13 hs11))
              have hs13 : B ≤ w13.heap.size := Nat.le_trans hs11 hb13.size
              have HBE := Lib.hid (HBG.out w13 hb13)
              clear hb13 HSA HBG HB11
              go_wp2_with fail
              refine HBE.out.mono ?_
              rintro e w14 ⟨rfl, hb14⟩
              have HB14 := Lib.hid (HB13.out.trans (Below.up hb14 hs13))
              have hs14 : B ≤ w14.heap.size := Nat.le_trans hs13 hb14.size
              clear hb14 HBE HB13
              go_wp2_with fail
              refine (jlives_true w14).mono ?_
              rintro e w15 ⟨rfl, hb15⟩
              have HB15 := Lib.hid (HB14.out.trans (Below.up hb15 hs14))
              clear hb15
              go_wp2_with fail
              go_ret
              exact ⟨rfl, HB15.out⟩
          · have hne : (((q : Int)) == (k : Int)) = false := by simp; omega
            rw [if_pos (by omega)] at HK
            go_wp2_with fail
            rw [HME.out]
            refine (arm_any tb (mm : Int) keep T F wr HJ.out.jr.tape (by omega)).mono ?_
            rw [arm_fine HU.out.off]
            obtain ⟨T4, hT4⟩ : ∃ T4, T4 = { T with plan := some ((mm : Int), keep) } := ⟨_, rfl⟩
            have HK4 := Lib.hid (HK.out.armed (some ((mm : Int), keep)))
            have HA4 := Lib.hid (HU.out.alive.armed (some ((mm : Int), keep)))
            have HJT := Lib.hid HU.out.turn
            have HJA := Lib.hid HU.out.area
            rw [← hT4] at HK4 HA4 ⊢
            rintro e w4 ⟨rfl, F4, ht4, hu4⟩
            obtain ⟨hj4, hu4'⟩ := HJ.out.jr.upd ht4 hu4
            obtain ⟨h4, b4⟩ := HJ.out.upd hj4 hu4'
            have H4 := Lib.hid h4
            have B4 := Lib.hid (HB.out.trans b4)
            have HL4 := Lib.hid (HL.out.old b4)
            have HM4 := Lib.hid (HM.out.old b4)
            clear ht4 hu4 hj4 hu4' h4 b4 HJ HB HL HM HK HU hT4
            go_wp2_with fail
            have hcall := jlay_any AR cR ms H4.out.jr (HM4.out.own H4.out.from_) (by rw [← HML.out]; omega) ⟨.inl HJA.out, by rw [HJT.out]; decide⟩
            rw [← HML.out] at hcall
            refine hcall.mono ?_
            obtain ⟨ok, ho1, ho2, ho3, ho4⟩ := lay_out (M := ms) HA4.out HJT.out HK4.out HS.out HTO.out HSM.out HTM.out
            obtain ⟨⟨p5, T5, J5⟩, hr5⟩ : ∃ r, r = J.lay T4 ms := ⟨_, rfl⟩
            rw [← hr5] at ho1 ho2 ho3 ho4 ⊢
            have hp5 : (p5 == (0 : Int)) = ok := by
              have : p5 = (if ok = true then 0 else 150) := ho1
              rw [this]; cases ok <;> rfl
            have HO1 := Lib.hid ho2
            have HO3 := Lib.hid ho3
            have HO4 := Lib.hid ho4
            clear hcall hr5 ho1 ho2 ho3 ho4
            rintro e w5 ⟨rfl, F5, hj5, hv5⟩
            obtain ⟨h5, b5⟩ := H4.out.upd hj5 hv5
            have HO5 := Lib.hid h5.own
            have B5 := Lib.hid (B4.out.trans b5)
            have HL5 := Lib.hid (HL4.out.old b5)
            have HM5 := Lib.hid (HM4.out.old b5)
            clear hj5 hv5 h5 b5 H4 B4 HL4 HM4 HK4 HA4 HJT HJA
            go_wp2_with fail
            refine (fail_any tb keep T5 F5 w5 HO5.out.tape).mono ?_
            obtain ⟨a2, t2, l2, ht2, hag, hs2, hz2, hor⟩ := HO1.out.end_ HO3.out HO4.out keep HS.out HTO.out HSM.out HTM.out
            obtain ⟨⟨pf, Tf⟩, hpf⟩ : ∃ r, r = T5.fail keep := ⟨_, rfl⟩
            rw [← hpf] at hag ⊢
            rintro e wf ⟨rfl, Ff, htf, huf⟩
            obtain ⟨hof, hbf⟩ := HO5.out.upd htf huf
            have HOf := Lib.hid hof
            have HBf := Lib.hid (B5.out.trans hbf)
            have HLf := Lib.hid (HL5.out.old hbf)
            have HMf := Lib.hid (HM5.out.old hbf)
            have HAG := Lib.hid hag
            have HS2 := Lib.hid hs2
            have HZ2 := Lib.hid hz2
            have HOR := Lib.hid hor
            clear htf huf hof hbf hpf HO5 B5 HL5 HM5 HO1 HO3 HO4 hag hs2 hz2 hor
            go_wp2_with fail
            refine (power_any tb Tf Ff wf HOf.out.tape).mono ?_
            have hag := HAG.out
            obtain ⟨T2, hT2⟩ : ∃ T2, T2 = { Tf with off := false } := ⟨_, rfl⟩
            have hag : Again { Tf with off := false } a2 t2 l2 := hag
            rw [← hT2] at hag ⊢
            rintro e wp ⟨rfl, htp, hup⟩
            obtain ⟨hop, hbp⟩ := HOf.out.upd htp hup
            have HOp := Lib.hid hop
            have HBp := Lib.hid (HBf.out.trans hbp)
            have HLp := Lib.hid (HLf.out.old hbp)
            have HMp := Lib.hid (HMf.out.old hbp)
            have HAG2 := Lib.hid hag
            clear htp hup hop hbp hT2 hag HOf HBf HLf HMf HAG
            obtain ⟨n2, hn2⟩ : ∃ n2, n2 = l2.length := ⟨_, rfl⟩
            have hc1 := open_again HOp.out HAG2.out (by omega) HS2.out HZ2.out
            rw [← hn2] at hc1
            have HC1 := Lib.hid hc1
            have HN2 := Lib.hid hn2
            clear hc1 hn2
            go_wp2_with fail
            refine HC1.out.mono ?_
            rintro e w11 ⟨F11, j11, A11, c11, T11, J11, rfl, hj11, ha11, hr11, hu11, hb11⟩
            have hs11 := hj11.size
            have HB11 := Lib.hid (HBp.out.trans hb11)
            have HL11 := Lib.hid (HLp.out.old hb11)
            have HM11 := Lib.hid (HMp.out.old hb11)
            have hsame := same16_any A11 AR c11 cR l2 ms _ _ w11 hr11 HM11.out (by have := HZ2.out; omega)
            rw [← HN2.out, ← HML.out] at hsame
            have hbeg := fun (w12 : World) (hb12 : Below w11.heap.size w11 w12) => begins_any A11 A c11 c l2 ls _ _ w12 (hr11.upd (Upd.of_below hb12)) (HL11.out.old (Below.up hb12 hs11)) (by have := HNL.out; omega) (by rw [← HNL.out]; exact hcap)
            rw [← HN2.out, ← HNL.out] at hbeg
            have HSA := Lib.hid hsame
            have HBG := Lib.hid hbeg
            clear hj11 ha11 hr11 hu11 hb11 hsame hbeg HOp HBp HLp HMp HC1 HAG2
            by_cases hlm : l2 = ms
            · rw [decide_eq_true hlm] at HSA
              cases ok with
              | true =>
                go_wp2_with fail
                refine HSA.out.mono ?_
                rintro e w13 ⟨rfl, hb13⟩
                have HB13 := Lib.hid (HB11.out.trans (Below.up hb13 hs11))
                have hs13 : B ≤ w13.heap.size := Nat.le_trans hs11 hb13.size
                clear hb13 HSA HBG HB11
                go_wp2_with fail
                refine (jlives_true w13).mono ?_
                rintro e w15 ⟨rfl, hb15⟩
                have HB15 := Lib.hid (HB13.out.trans (Below.up hb15 hs13))
                clear hb15
                go_wp2_with fail
                go_ret
                exact ⟨rfl, HB15.out⟩
              | false =>
                go_wp2_with fail
                refine HSA.out.mono ?_
                rintro e w13 ⟨rfl, hb13⟩
                have HB13 := Lib.hid (HB11.out.trans (Below.up hb13 hs11))
                have hs13 : B ≤ w13.heap.size := Nat.le_trans hs11 hb13.size
                clear hb13 HSA HBG HB11
                go_wp2_with fail
                refine (jlives_true w13).mono ?_
                rintro e w15 ⟨rfl, hb15⟩
                have HB15 := Lib.hid (HB13.out.trans (Below.up hb15 hs13))
                clear hb15
                go_wp2_with fail
                go_ret
                exact ⟨rfl, HB15.out⟩
            · rw [decide_eq_false hlm] at HSA
              obtain ⟨hokf, i2, hqi, hil, hli⟩ := HOR.out.resolve_left hlm
              subst hokf
              have hn2i : n2 = i2 := by rw [HN2.out, hli, List.length_take]; omega
              have hq2 : q ≤ n2 := by omega
              rw [decide_eq_true (by exact ⟨by rw [hn2i, HNL.out]; exact hil, by rw [hn2i]; exact hli⟩)] at HBG
              clear hli hlm hil hn2i hqi
              go_wp2_with fail
              refine HSA.out.mono ?_
              rintro e w13 ⟨rfl, hb13⟩
              have HB13 := Lib.hid (HB11.out.trans (Below.up hb13 hs11))
              have hs13 : B ≤ w13.heap.size := Nat.le_trans hs11 hb13.size
              have HBE := Lib.hid (HBG.out w13 hb13)
              clear hb13 HSA HBG HB11
              go_wp2_with fail
              refine HBE.out.mono ?_
              rintro e w14 ⟨rfl, hb14⟩
              have HB14 := Lib.hid (HB13.out.trans (Below.up hb14 hs13))
              have hs14 : B ≤ w14.heap.size := Nat.le_trans hs13 hb14.size
              clear hb14 HBE HB13
              go_wp2_with fail
              refine (jlives_true w14).mono ?_
              rintro e w15 ⟨rfl, hb15⟩
              have HB15 := Lib.hid (HB14.out.trans (Below.up hb15 hs14))
              clear hb15
              go_wp2_with fail
              go_ret
              exact ⟨rfl, HB15.out⟩

end Go.Proofs.Ytnkenkdglcmpdaa
