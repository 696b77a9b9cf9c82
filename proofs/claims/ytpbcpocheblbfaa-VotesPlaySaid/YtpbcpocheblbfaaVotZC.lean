/- The document's Best. -/
import Derived.Test.YtpbcpocheblbfaaVotZB
namespace Go.Proofs.Ytpbcpocheblbfaa
set_option linter.unusedVariables false
set_option linter.unusedSimpArgs false
open Go.RowKit Go.MapKept

def stepR (M : List (Ent One)) (kind need : Int) (N : Nat) (r : Bool × Vt) (i : Nat) : Bool × Vt :=
  match lookM M (kind, (i : Int)) with
  | some x => if certOk M x.1 N need = true ∧ (r.1 = false ∨ aheadP x.1 r.2 = true) then (true, x.1) else r
  | none => r
def refF (M : List (Ent One)) (kind need : Int) (N n : Nat) : Bool × Vt := (List.range n).foldl (stepR M kind need N) (false, zeroV)
theorem refF_succ (M : List (Ent One)) (kind need : Int) (N n : Nat) : refF M kind need N (n + 1) = stepR M kind need N (refF M kind need N n) n := by
  unfold refF
  rw [List.range_succ, List.foldl_append]
  rfl
theorem stepR_eq (M : List (Ent One)) (kind need : Int) (N : Nat) (r : Bool × Vt) (i : Nat) : stepR M kind need N r i = if (lookM M (kind, (i : Int))).isSome = true ∧ certOk M (lookX M (kind, (i : Int))).1 N need = true ∧ (r.1 = false ∨ aheadP (lookX M (kind, (i : Int))).1 r.2 = true) then (true, (lookX M (kind, (i : Int))).1) else r := by
  unfold stepR lookX
  cases lookM M (kind, (i : Int)) with
  | none => simp
  | some x => simp
def bestL (M : List (Ent One)) (N : Nat) (need : Int) (r : Bool × Vt) : List Sg := if r.1 then certL M r.2 N need else []
/-- What the best so far holds. -/
structure BV (w : World) (cb : Nat) (u : Vt) (L : List Sg) : Prop where
  blk : ∃ A c, Blk w cb (ccells u (.slice A L.length c)).toArray 39 ∧ SR w A L ∧ (∀ a, A = some a → 0 < L.length → cb < a.block)
  ok : u.ok
theorem BV.below {w w' : World} {cb : Nat} {u : Vt} {L : List Sg} (h : BV w cb u L) (hb : Below w.heap.size w w') : BV w' cb u L := by
  obtain ⟨A, c, h1, h2, h3⟩ := h.blk
  exact ⟨⟨A, c, h1.below hb, h2.below hb, h3⟩, h.ok⟩
set_option maxRecDepth 100000 in
set_option maxHeartbeats 16000000 in
theorem rbest_any (w : World) {rb N : Nat} {M : List (Ent One)} (h : RefB w rb (N : Int) (ones M)) (hi : Inv N M) (hok : ∀ p ∈ M, p.2.ok) (hN : N ≤ 64) (kind need : Int) :
    Calls Try.prog 20 #[.pointer (some ⟨rb, 0, none⟩), .int .i64 kind, .int .i64 need] w (CertPost w (refF M kind need N N).2 (bestL M N need (refF M kind need N N)) (refF M kind need N N).1) := by
  obtain ⟨r0, hr0⟩ : ∃ r, r = refF M kind need N N := ⟨_, rfl⟩
  rw [← hr0]
  have HR0 := Lib.hid hr0
  have H := Lib.hid h
  have HI := Lib.hid hi
  have HOK := Lib.hid hok
  clear h hi hok hr0
  go_enter Try.func20, Try.ntmps20
  go_wp2_with (first | (refine wpList_alloc_big rfl 39 rfl (ccells zeroV (.slice none 0 0)).toArray 37 (by kernel_rfl) ?_; intro cb w2 HCB hb2 hbl2 HS2))
  rename_i rb6 w1 HRB hb1 hbl1 HS1 KK hKK
  have e1 := HRB.out
  have e2 := HCB.out
  have e3 := HS1.out
  have e4 := HS2.out
  have hnum : w.heap.size ≤ rb6 ∧ rb6 < cb ∧ cb < w2.heap.size := by omega
  have hwr : w.heap.size ≤ rb6 ∧ rb6 < cb := ⟨hnum.1, hnum.2.1⟩
  have HBL := Lib.hid (hbl1.trans (Below.up hbl2 hbl1.size))
  have HB6 := Lib.hid (hb1.below hbl2)
  have HBV : Hid (BV w2 cb (refF M kind need N 0).2 (bestL M N need (refF M kind need N 0))) := Lib.hid ⟨⟨none, 0, hb2, SR.nil _ _, fun a ha => by cases ha⟩, zeroV_ok⟩
  clear e1 e2 e3 e4 hb1 hb2 hbl1 hbl2 HRB HCB HS1 HS2 hnum
  go_loopw [9, 10] (fun bv nv wr => ∃ k : Nat, k ≤ N ∧ nv = .int .i64 (k : Int) ∧ bv = .bool (refF M kind need N k).1 ∧ Hid (BV wr cb (refF M kind need N k).2 (bestL M N need (refF M kind need N k))) ∧ Hid (Blk wr rb6 (ccells zeroV (.slice none 0 0)).toArray 39) ∧ Hid (Below w.heap.size w wr)) (fun _ nv _ => N - (intOf nv).toNat)
  case atStart => exact ⟨0, Nat.zero_le _, rfl, rfl, HBV, HB6, HBL⟩
  case round =>
    clear HBV HB6 HBL
    obtain ⟨k, hk, rfl, rfl, HBV, HB6, HBL⟩ := hrel
    have HR := Lib.hid (H.out.below HBL.out)
    obtain ⟨A0, c0, hbk, _⟩ := HR.out.read
    have cn : wr.cell? ⟨rb, 0, none⟩ = some (.int .i64 (N : Int)) := hbk.cell 0
    clear hbk
    by_cases hlt : k < N
    · have l1 : (k : Int) < (N : Int) := by omega
      go_wp2_with fail
      have hstep := refF_succ M kind need N k
      rw [stepR_eq] at hstep
      generalize refF M kind need N k = r at HBV hstep ⊢
      have hcall := rof_any wr HR.out HI.out kind (k : Int)
      have hxok : (lookX M (kind, (k : Int))).ok := lookX_ok HOK.out _
      generalize lookX M (kind, (k : Int)) = X at hstep hcall hxok
      generalize (lookM M (kind, (k : Int))).isSome = bs at hstep hcall
      have HX := Lib.hid hxok
      have HST := Lib.hid hstep
      clear hstep hxok cn
      refine hcall.mono ?_
      rintro e w2 ⟨rfl, hbl2⟩
      have HBV2 := Lib.hid (HBV.out.below hbl2)
      have HB62 := Lib.hid (HB6.out.below hbl2)
      have HBL2 := Lib.hid (HBL.out.trans (Below.up hbl2 HBL.out.size))
      clear hbl2 hcall HBV HB6 HBL HR
      cases bs with
      | false =>
        have HN : Hid (refF M kind need N (k + 1) = r) := Lib.hid (by rw [HST.out]; simp)
        go_wp2_with (first | (refine wpList_alloc_big rfl 30 rfl (vcells zeroV).toArray 36 (by kernel_rfl) ?_; intro xb z1 HXB hb1 hbl1 HS1) | (refine wpList_alloc_big rfl 32 rfl (bv zeroT).toArray 16 (by kernel_rfl) ?_; intro tb z2 HTB hb2 hbl2 HS2) | (refine wpList_store_big rfl 30 _ _ rfl _ rfl (vcells X.1) rfl _ _ (hb1.below hbl2) (sizeVote HX.out.vote) (by rw [vcells_len HX.out.vote]; rfl) (vcells_one _) ?_; intro z3 hb3 hf3 HS3) | (refine wpList_store_big rfl 32 _ _ rfl _ rfl (bv X.2) rfl _ _ (hb2.fr hf3 (by have := HXB.out; have := HTB.out; have := HS1.out; omega)) (sizeTag HX.out.tag) (by rw [bv_length, HX.out.tag]; rfl) (bv_one' _) ?_; intro z4 hb4 hf4 HS4; have hxb := HXB.out; have htb := HTB.out; have hs1 := HS1.out; have hbb := below_fr (below_fr (hbl1.trans (Below.up hbl2 hbl1.size)) hf3 (by omega)) hf4 (by omega); have HBB := Lib.hid hbb; have HX4 := Lib.hid (hb3.fr hf4 (by omega)); clear hbb))
        have Q1 := Lib.hid (HBV2.out.below HBB.out)
        have Q2 := Lib.hid (HB62.out.below HBB.out)
        have Q3 := Lib.hid (HBL2.out.trans (Below.up HBB.out HBL2.out.size))
        clear hb1 hb2 hbl1 hbl2 hb3 hf3 hb4 hf4 hxb htb hs1 HXB HTB HS1 HS2 HS3 HS4
        try go_frame
        go_roundw
        case rel => exact ⟨k + 1, hlt, by go_num, by rw [HN.out], by rw [HN.out]; exact Q1, Q2, Q3⟩
        case measure => simp [intOf]; omega
      | true =>
        go_wp2_with (first | (refine wpList_alloc_big rfl 30 rfl (vcells zeroV).toArray 36 (by kernel_rfl) ?_; intro xb z1 HXB hb1 hbl1 HS1) | (refine wpList_alloc_big rfl 32 rfl (bv zeroT).toArray 16 (by kernel_rfl) ?_; intro tb z2 HTB hb2 hbl2 HS2) | (refine wpList_store_big rfl 30 _ _ rfl _ rfl (vcells X.1) rfl _ _ (hb1.below hbl2) (sizeVote HX.out.vote) (by rw [vcells_len HX.out.vote]; rfl) (vcells_one _) ?_; intro z3 hb3 hf3 HS3) | (refine wpList_store_big rfl 32 _ _ rfl _ rfl (bv X.2) rfl _ _ (hb2.fr hf3 (by have := HXB.out; have := HTB.out; have := HS1.out; omega)) (sizeTag HX.out.tag) (by rw [bv_length, HX.out.tag]; rfl) (bv_one' _) ?_; intro z4 hb4 hf4 HS4; have hxb := HXB.out; have htb := HTB.out; have hs1 := HS1.out; have hbb := below_fr (below_fr (hbl1.trans (Below.up hbl2 hbl1.size)) hf3 (by omega)) hf4 (by omega); have HBB := Lib.hid hbb; have HX4 := Lib.hid (hb3.fr hf4 (by omega)); clear hbb) | (refine wpList_val rfl (load_vote HX.out.vote (range_of_blk HX4.out) rfl rfl) ?_))
        have Q1 := Lib.hid (HBV2.out.below HBB.out)
        have Q2 := Lib.hid (HB62.out.below HBB.out)
        have Q3 := Lib.hid (HBL2.out.trans (Below.up HBB.out HBL2.out.size))
        clear hb1 hb2 hbl1 hbl2 hb3 hf3 hb4 hf4 hxb htb hs1 HXB HTB HS1 HS2 HS3 HS4
        clear HBV2 HB62 HBL2 HX4 HBB
        have hcall := rcert_any z4 (H.out.below Q3.out) HI.out HOK.out hN X.1 HX.out.vote need
        have hcv : certOk M X.1 N need = true → certV M X.1 N need = X.1 := fun h => by unfold certV; rw [h]; rfl
        have hbl' : certOk M X.1 N need = true → certL M X.1 N need = bestL M N need (true, X.1) := fun h => rfl
        have huo : (certV M X.1 N need).ok := by unfold certV; split; exact HX.out.vote; exact zeroV_ok
        have hst := HST.out
        generalize certOk M X.1 N need = ok at hcall hcv hbl' hst
        generalize certV M X.1 N need = u2 at hcall hcv huo
        generalize certL M X.1 N need = L2 at hcall hbl'
        refine hcall.mono ?_
        rintro e z5 ⟨A5, c5, rfl, hsr, hA, hbl5⟩
        obtain ⟨n5, hn5⟩ : ∃ n, n = L2.length := ⟨_, rfl⟩
        rw [← hn5]
        have HN5 := Lib.hid hn5
        have HSR := Lib.hid hsr
        have HAA := Lib.hid hA
        have HU := Lib.hid huo
        have HST2 := Lib.hid hst
        have hcl : cb < z4.heap.size := by obtain ⟨_, _, hb, _⟩ := Q1.out.blk; exact hb.lt
        have P1 := Lib.hid (Q1.out.below hbl5)
        have P2 := Lib.hid (Q2.out.below hbl5)
        have P3 := Lib.hid (Q3.out.trans (Below.up hbl5 Q3.out.size))
        have hz45 := hbl5.size
        clear hn5 hsr hA huo hst hbl5 hcall HST Q1 Q2 Q3
        cases ok with
        | false =>
          have HN : Hid (refF M kind need N (k + 1) = r) := Lib.hid (by rw [HST2.out]; simp)
          clear hcv hbl'
          go_wp2_with (first | (refine wpList_alloc_big rfl 39 rfl (ccells zeroV (.slice none 0 0)).toArray 37 (by kernel_rfl) ?_; intro db z6 HDB hb6 hbl6 HS6) | (refine wpList_store_big rfl 39 _ _ rfl _ rfl (ccells u2 (.slice A5 n5 c5)) rfl _ _ hb6 (sizeCert HU.out _) (by rw [ccells_len HU.out]; rfl) (ccells_one _ rfl) ?_; intro z7 hb7 hf7 HS7; have hdb := HDB.out; have hb57 := below_fr hbl6 hf7 (by omega); have HB57 := Lib.hid hb57; have hdl := hb7.lt; have rd := (range_part (range_of_blk hb7)).1; clear hb57))
          have Q1 := Lib.hid (P1.out.below HB57.out)
          have R2 := Lib.hid (P2.out.below HB57.out)
          have R3 := Lib.hid (P3.out.trans (Below.up HB57.out P3.out.size))
          clear hb6 hbl6 hb7 hf7 rd hdl hdb
          try go_frame
          go_roundw
          case rel => exact ⟨k + 1, hlt, by go_num, by rw [HN.out], by rw [HN.out]; exact Q1, R2, R3⟩
          case measure => simp [intOf]; omega
        | true =>
          have hu2 := hcv rfl
          subst hu2
          have hL := Lib.hid (hbl' rfl)
          clear hcv hbl'
          obtain ⟨ri, rv⟩ := r
          obtain ⟨A6, c6, hcb, hsr6, hA6⟩ := P1.out.blk
          have HCB5 := Lib.hid hcb
          have HRV := Lib.hid P1.out.ok
          generalize (bestL M N need (ri, rv)).length = n6 at hcb HCB5 hA6
          clear hcb hsr6 hA6
          cases ri with
          | false =>
            go_wp2_with (first | (refine wpList_alloc_big rfl 39 rfl (ccells zeroV (.slice none 0 0)).toArray 37 (by kernel_rfl) ?_; intro db z6 HDB hb6 hbl6 HS6) | (refine wpList_store_big rfl 39 _ _ rfl _ rfl (ccells X.1 (.slice A5 n5 c5)) rfl _ _ hb6 (sizeCert HU.out _) (by rw [ccells_len HU.out]; rfl) (ccells_one _ rfl) ?_; intro z7 hb7 hf7 HS7; have hdb := HDB.out; have hb57 := below_fr hbl6 hf7 (by omega); have HB57 := Lib.hid hb57; have hdl := hb7.lt; have rd := (range_part (range_of_blk hb7)).1; have HCB7 := Lib.hid ((HCB5.out.below hbl6).fr hf7 (by omega)); have rall := range_of_blk hb7; clear hb57) | (refine wpList_val rfl (load_cert HX.out.vote rall rfl rfl) ?_) | (refine wpList_store_big rfl 39 _ _ rfl _ rfl (ccells X.1 (.slice A5 n5 c5)) rfl _ _ HCB7.out (sizeCert HU.out _) (by rw [ccells_len HU.out]; simp [ccells_len HRV.out]) (ccells_one _ rfl) ?_; intro z9 hb9 hf9 HS9))
            have HWB := HB57
            have hcb8 := HCB7.out
            have HN : Hid (refF M kind need N (k + 1) = (true, X.1)) := Lib.hid (by rw [HST2.out]; simp)
            have hfz : Below w.heap.size w z9 := below_fr (P3.out.trans (Below.up HWB.out P3.out.size)) hf9 (by omega)
            have R3 := Lib.hid hfz
            have R2 := Lib.hid ((P2.out.below HWB.out).fr hf9 (by omega))
            have HBVN : Hid (BV z9 cb (true, X.1).2 (bestL M N need (true, X.1))) := Lib.hid ⟨⟨A5, c5, by rw [← hL.out, ← HN5.out]; exact hb9, by
              rw [← hL.out]
              intro i s hs
              obtain ⟨b, off, e, hr⟩ := HSR.out i s hs
              have := HAA.out _ e (by have := (List.getElem?_eq_some_iff.1 hs).1; omega)
              exact ⟨b, off, e, range_fr (range_below hr HWB.out) hf9 (by simp only at this; omega)⟩, by
              rw [← hL.out]
              intro a ha hl
              have := HAA.out a ha hl
              omega⟩, HX.out.vote⟩
            clear hb9 hf9 HS9 hfz hcb8
            clear hb6 hbl6 hb7 hf7 rd hdl hdb rall HCB7
            try go_frame
            go_roundw
            case rel => exact ⟨k + 1, hlt, by go_num, by rw [HN.out], by rw [HN.out]; exact HBVN, R2, R3⟩
            case measure => simp [intOf]; omega
          | true =>
            go_wp2_with (first | (refine wpList_alloc_big rfl 39 rfl (ccells zeroV (.slice none 0 0)).toArray 37 (by kernel_rfl) ?_; intro db z6 HDB hb6 hbl6 HS6) | (refine wpList_store_big rfl 39 _ _ rfl _ rfl (ccells X.1 (.slice A5 n5 c5)) rfl _ _ hb6 (sizeCert HU.out _) (by rw [ccells_len HU.out]; rfl) (ccells_one _ rfl) ?_; intro z7 hb7 hf7 HS7; have hdb := HDB.out; have hb57 := below_fr hbl6 hf7 (by omega); have HB57 := Lib.hid hb57; have hdl := hb7.lt; have rd := (range_part (range_of_blk hb7)).1; have HCB7 := Lib.hid ((HCB5.out.below hbl6).fr hf7 (by omega)); have rall := range_of_blk hb7; have rc := (range_part (range_of_blk HCB7.out)).1; clear hb57) | (refine wpList_valG rfl (load_vote HX.out.vote rd rfl rfl) ?_) | (refine wpList_valG rfl (load_vote HRV.out rc rfl rfl) ?_))
            have hcall := better_any z7 X.1 rv HX.out.vote HRV.out
            have hst := HST2.out
            generalize aheadP X.1 rv = ar at hcall hst
            refine hcall.mono ?_
            rintro e z8 ⟨rfl, hbl8⟩
            have HWB := Lib.hid (HB57.out.trans (Below.up hbl8 HB57.out.size))
            have HCB8 := Lib.hid (HCB7.out.below hbl8)
            have rall8 := range_below rall hbl8
            have HST3 := Lib.hid hst
            clear hcall hbl8 hb6 hbl6 hb7 hf7 rd hdb rall HCB7 rc hst HST2
            cases ar with
            | false =>
              have HN : Hid (refF M kind need N (k + 1) = (true, rv)) := Lib.hid (by rw [HST3.out]; simp)
              have Q1 := Lib.hid (P1.out.below HWB.out)
              have R2 := Lib.hid (P2.out.below HWB.out)
              have R3 := Lib.hid (P3.out.trans (Below.up HWB.out P3.out.size))
              go_wp2_with fail
              try go_frame
              go_roundw
              case rel => exact ⟨k + 1, hlt, by go_num, by rw [HN.out], by rw [HN.out]; exact Q1, R2, R3⟩
              case measure => simp [intOf]; omega
            | true =>
              go_wp2_with (first | (refine wpList_val rfl (load_cert HX.out.vote rall8 rfl rfl) ?_) | (refine wpList_store_big rfl 39 _ _ rfl _ rfl (ccells X.1 (.slice A5 n5 c5)) rfl _ _ HCB8.out (sizeCert HU.out _) (by rw [ccells_len HU.out]; simp [ccells_len HRV.out]) (ccells_one _ rfl) ?_; intro z9 hb9 hf9 HS9))
              have hcb8 := HCB8.out
              have HN : Hid (refF M kind need N (k + 1) = (true, X.1)) := Lib.hid (by rw [HST3.out]; simp)
              have hfz : Below w.heap.size w z9 := below_fr (P3.out.trans (Below.up HWB.out P3.out.size)) hf9 (by omega)
              have R3 := Lib.hid hfz
              have R2 := Lib.hid ((P2.out.below HWB.out).fr hf9 (by omega))
              have HBVN : Hid (BV z9 cb (true, X.1).2 (bestL M N need (true, X.1))) := Lib.hid ⟨⟨A5, c5, by rw [← hL.out, ← HN5.out]; exact hb9, by
                rw [← hL.out]
                intro i s hs
                obtain ⟨b, off, e, hr⟩ := HSR.out i s hs
                have := HAA.out _ e (by have := (List.getElem?_eq_some_iff.1 hs).1; omega)
                exact ⟨b, off, e, range_fr (range_below hr HWB.out) hf9 (by simp only at this; omega)⟩, by
                rw [← hL.out]
                intro a ha hl
                have := HAA.out a ha hl
                omega⟩, HX.out.vote⟩
              clear hb9 hf9 HS9 hfz hcb8
              try go_frame
              go_roundw
              case rel => exact ⟨k + 1, hlt, by go_num, by rw [HN.out], by rw [HN.out]; exact HBVN, R2, R3⟩
              case measure => simp [intOf]; omega
    · have l1 : ¬ (k : Int) < (N : Int) := by omega
      have hkN : k = N := by omega
      subst hkN
      clear hlt
      have hr0 := HR0.out
      generalize refF M kind need k k = r at HBV hr0 ⊢
      subst hr0
      obtain ⟨A, c, hb, hsr, hA⟩ := HBV.out.blk
      have HUO := Lib.hid HBV.out.ok
      obtain ⟨n5, hn5⟩ : ∃ n, n = (bestL M k need r0).length := ⟨_, rfl⟩
      rw [← hn5] at hb
      have HN5 := Lib.hid hn5
      have HSR := Lib.hid hsr
      have HAA := Lib.hid hA
      clear hn5 hsr hA
      go_wp2_with (first | (refine wpList_val rfl (load_cert HUO.out (range_of_blk hb) rfl rfl) ?_) | (refine wpList_store_big rfl 39 _ _ rfl _ rfl (ccells r0.2 (.slice A n5 c)) rfl _ _ HB6.out (sizeCert HUO.out _) (by rw [ccells_len HUO.out]; rfl) (ccells_one _ rfl) ?_; intro w4 hb4 hf4 HS4))
      refine bodyPost_ret (results_ct rfl rfl (var_cert HUO.out (range_of_blk hb4))) rfl ?_
      refine ⟨A, c, by rw [← HN5.out]; rfl, ?_, ?_, below_fr HBL.out hf4 (by omega)⟩
      · intro i s hs
        obtain ⟨b, off, e, hr⟩ := HSR.out i s hs
        have := HAA.out _ e (by have := (List.getElem?_eq_some_iff.1 hs).1; omega)
        exact ⟨b, off, e, range_fr hr hf4 (by simp only at this; omega)⟩
      · intro a ha hl
        have := HAA.out a ha hl
        omega

end Go.Proofs.Ytpbcpocheblbfaa
