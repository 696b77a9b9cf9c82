/- The law VotesOnce: the walk. -/
import Derived.Test.YtpbcpocheblbfaaVotJ
import Derived.Test.YtpbcpocheblbfaaVotK
import Derived.Test.YtpbcpocheblbfaaVotL
namespace Go.Proofs.Ytpbcpocheblbfaa
set_option linter.unusedVariables false
set_option linter.unusedSimpArgs false
open Go.RowKit Go.MapKept

def zeroA : VAct := ⟨0, zeroV, zeroT⟩
theorem act_zero_cells : (Try.prog.info? 34).map (fun i => (i.zero, i.size)) = some (some (.agg (acells zeroA).toArray), 53) := by kernel_rfl
theorem load_act {o : Oper} {w : World} {ρ : Operand → Value} {x : Operand} {b off : Nat} {a : VAct} (ha : a.ok) (hc : w.rangeAt b off (acells a)) (ho : o.op = .load 34 x) (hx : ρ x = .pointer (some ⟨b, off, none⟩)) : (execOp ρ o).run Try.prog w = .ok (.value (.agg (acells a).toArray)) w :=
  exec_load _ x ho b off hx _ _ hc Try.underlying34 rfl (sizeAct ha)
theorem act_vote {w : World} {b off : Nat} {a : VAct} (h : w.rangeAt b off (acells a)) : w.rangeAt b (off + 1) (vcells a.vote) := by
  have h2 := (range_part (xs := [.int .i64 a.node]) (ys := vcells a.vote ++ bv a.tag) h).2
  exact (range_part h2).1
theorem act_tag {w : World} {b off : Nat} {a : VAct} (ha : a.ok) (h : w.rangeAt b off (acells a)) : w.rangeAt b (off + 37) (bv a.tag) := by
  have h2 := (range_part (xs := [.int .i64 a.node]) (ys := vcells a.vote ++ bv a.tag) h).2
  have h3 := (range_part h2).2
  rw [vcells_len ha.vote] at h3
  exact h3
theorem act_node {w : World} {b off : Nat} {a : VAct} (h : w.rangeAt b off (acells a)) : w.cell? ⟨b, off, none⟩ = some (.int .i64 a.node) := h 0 _ rfl
theorem act_kind {w : World} {b off : Nat} {a : VAct} (h : w.rangeAt b off (acells a)) : w.cell? ⟨b, off + 1, none⟩ = some (.int .i64 a.vote.kind) := act_vote h 0 _ rfl

set_option maxRecDepth 100000 in
set_option maxHeartbeats 16000000 in
theorem lawOnce (f : Int) (A : Option Addr) (c : Nat) (xs : List VAct) (need : Int) (w : World) (h : VActsR w A xs) (hl : xs.length ≤ 9223372036854775807) :
    Calls Try.prog 3 #[.int .i64 f, .slice A xs.length c, .int .i64 need] w fun e w' => e = .returned (.bool true) ∧ Below w.heap.size w w' := by
  obtain ⟨q, hq, hqe⟩ := modq f 21 (by decide) (by decide)
  have hqe : wrap64 ((IntKind.u64.wrap f).tmod 21) = (q : Int) := hqe
  obtain ⟨m, hm⟩ : ∃ m, m = xs.length := ⟨_, rfl⟩
  obtain ⟨N, hN⟩ : ∃ N : Nat, N = 4 + 3 * q := ⟨_, rfl⟩
  rw [← hm]
  rw [← hm] at hl
  have H := Lib.hid h
  have HM := Lib.hid hm
  clear h hm
  go_enter Try.func3, Try.ntmps3
  go_wp2_with fail
  rw [hqe]
  have hNq : (4 + 3 * (q : Int)) = (N : Int) := by omega
  rw [hNq]
  have hN64 : N ≤ 64 := by omega
  have hgood : goodN (N : Int) = true := by unfold goodN; simp; omega
  clear hqe hNq hN hq
  clear hqe
  refine (vnew_ok N w hgood).mono ?_
  rintro e w1 ⟨bb, mb, rfl, HB0, hbb, hmb, hbl0⟩
  have HB := Lib.hid HB0
  have HBL := Lib.hid hbl0
  clear HB0 hbl0 hgood
  by_cases hm200 : 200 < m
  · have l200 : (200 : Int) < (m : Int) := by omega
    go_wp2_with fail
    refine (lives_ok w1).mono ?_
    rintro e w2 ⟨rfl, hbl2⟩
    go_wp2_with fail
    go_ret
    exact ⟨rfl, HBL.out.trans (Below.up hbl2 HBL.out.size)⟩
  · have l200 : ¬ (200 : Int) < (m : Int) := by omega
    have HH0 : Hid (∃ M : List (Ent One), M.length ≤ 0 ∧ BookR w1 bb mb (N : Int) M) := Lib.hid ⟨[], Nat.le_refl _, HB.out⟩
    clear HB
    go_wp2_with fail
    clear l200
    go_loopw [41] (fun i wr => ∃ k : Nat, k ≤ m ∧ i = .int .i64 (k : Int) ∧ Hid (∃ M : List (Ent One), M.length ≤ k ∧ BookR wr bb mb (N : Int) M) ∧ Hid (Below w.heap.size w wr)) (fun i _ => m - (intOf i).toNat)
    case atStart => exact ⟨0, Nat.zero_le _, rfl, HH0, HBL⟩
    case round =>
      clear HH0 HBL
      obtain ⟨k, hk, rfl, HH, HBL⟩ := hrel
      by_cases hlt : k < m
      · obtain ⟨a, ha⟩ : ∃ a, xs[k]? = some a := ⟨_, List.getElem?_eq_getElem (by rw [← HM.out]; exact hlt)⟩
        obtain ⟨hao, b, off, rfl, hlb, hc⟩ := H.out k a ha
        have HA := Lib.hid hao
        have HC := Lib.hid (range_below (range_below hc (Below.refl _ _)) HBL.out)
        obtain ⟨M, hMk, hBR⟩ := HH.out
        have HB := Lib.hid hBR
        have HMK := Lib.hid hMk
        have l1 : (k : Int) < (m : Int) := by omega
        clear hao ha hc HH hMk hBR
        go_wp2_with (first | (refine wpList_val rfl (load_act HA.out HC.out rfl rfl) ?_) | (refine wpList_alloc_big rfl 34 rfl (acells zeroA).toArray 53 act_zero_cells ?_; intro ab w2 HAB hb2 hbl2 HS2) | (refine wpList_store_big rfl 34 _ _ rfl _ rfl (acells a) rfl _ _ hb2 (sizeAct HA.out) (by rw [acells_len HA.out]; rfl) (acells_one _) ?_; intro w3 hb3 hf3 HS3; have hr3 := range_of_blk hb3; have an3 := act_node hr3) | (refine wpList_val rfl (load_vote HA.out.vote (act_vote hr3) rfl rfl) ?_) | (refine wpList_val rfl (load_tag HA.out.tag (act_tag HA.out hr3) rfl rfl) ?_))
        have hab := HAB.out
        have hs2 := HS2.out
        have hs3 := HS3.out
        have hbm : bb < wr.heap.size ∧ mb < wr.heap.size := ⟨HB.out.blk.lt, HB.out.map.lt⟩
        have HB3 := Lib.hid ((HB.out.below hbl2).fr hf3 (by omega) (by omega))
        have HBL3 := Lib.hid (below_fr (HBL.out.trans (Below.up hbl2 HBL.out.size)) hf3 (by have := HBL.out.size; omega))
        have HA3 := Lib.hid hb3
        have hwab : w.heap.size ≤ ab ∧ mb < ab := ⟨by have := HBL.out.size; omega, by omega⟩
        clear hb2 hb3 hf3 hbl2 hab hs2 hs3 HAB HS2 HS3 HB HBL HC hbm hr3 an3
        refine (add_any w3 HB3.out (by have := HMK.out; omega) a.node a.vote a.tag HA.out.node HA.out.vote HA.out.tag).mono ?_
        rintro e w4 ⟨rfl, hb4, hf4⟩
        have hml := addP_len (N : Int) M a.node a.vote a.tag
        generalize addP (N : Int) M a.node a.vote a.tag = r at hb4 hml ⊢
        obtain ⟨r1, M2⟩ := r
        simp only at hb4 hml ⊢
        have HB4 := Lib.hid hb4
        have HA4 := Lib.hid (HA3.out.fr hf4 (by omega))
        have HBL4 := Lib.hid (Fr.below HBL3.out hf4 (fun k hk => by omega))
        have HML : Hid (M2.length ≤ k + 1) := Lib.hid (by have := HMK.out; omega)
        clear hb4 hml hf4 HA3 HB3 HBL3 HMK
        go_wp2_with (first | (refine wpList_val rfl (load_vote HA.out.vote (act_vote (range_of_blk HA4.out)) rfl rfl) ?_))
        refine (cert_any w4 HB4.out hN64 a.vote HA.out.vote need).mono ?_
        rintro e w5 ⟨A5, c5, rfl, hsr, hA5, hbl5⟩
        have hsay := fun h => cert_says (M := M2) (v := a.vote) (N := N) (need := need) h
        have huo : (certV M2 a.vote N need).ok := by unfold certV; split; exact HA.out.vote; exact zeroV_ok
        have hlo : SgOk (certL M2 a.vote N need) := by
          unfold certL; split
          · exact fun s hs => signsP_ok HB4.out.ok _ _ s (List.mem_of_mem_take hs)
          · intro s hs; cases hs
        have hun := fun h => (cert_says (M := M2) (v := a.vote) (N := N) (need := need) h).vote
        generalize certOk M2 a.vote N need = ok at hsay hun ⊢
        generalize certL M2 a.vote N need = L at hsay hlo hsr ⊢
        generalize certV M2 a.vote N need = u at hun huo ⊢
        obtain ⟨n5, hn5⟩ : ∃ n, n = L.length := ⟨_, rfl⟩
        rw [← hn5]
        have HSAY := Lib.hid hsay
        have HU := Lib.hid huo
        have HLO := Lib.hid hlo
        have HSR := Lib.hid hsr
        have HN5 := Lib.hid hn5
        have HB5 := Lib.hid (HB4.out.below hbl5)
        have HA5 := Lib.hid (HA4.out.below hbl5)
        have HBL5 := Lib.hid (HBL4.out.trans (Below.up hbl5 HBL4.out.size))
        have hl5 : ab < w5.heap.size := HA5.out.lt
        have hl5w : w.heap.size ≤ w5.heap.size := HBL5.out.size
        clear hsay huo hlo hsr hn5 hA5 hbl5 HB4 HA4 HBL4
        cases ok with
        | false =>
          clear hun HSAY
          go_wp2_with (first | (refine wpList_alloc_big rfl 39 rfl (ccells zeroV (.slice none 0 0)).toArray 37 (by kernel_rfl) ?_; intro cb w6 HCB hb6 hbl6 HS6) | (refine wpList_store_big rfl 39 _ _ rfl _ rfl (ccells u (.slice A5 n5 c5)) rfl _ _ hb6 (sizeCert HU.out _) (by rw [ccells_len HU.out]; rfl) (ccells_one _ rfl) ?_; intro w7 hb7 hf7 HS7))
          have hcb := HCB.out
          have hs6 := HS6.out
          have hs7 := HS7.out
          have HB7 := Lib.hid ((HB5.out.below hbl6).fr hf7 (by have := HB5.out.blk.lt; omega) (by have := HB5.out.map.lt; omega))
          have HA7 := Lib.hid ((HA5.out.below hbl6).fr hf7 (by omega))
          have HBL7 := Lib.hid (below_fr (HBL5.out.trans (Below.up hbl6 HBL5.out.size)) hf7 (by omega))
          have HSR7 : Hid (SR w7 A5 L) := Lib.hid (fun i s hs => by
            obtain ⟨b1, o1, e1, e2⟩ := HSR.out i s hs
            have := World.block_lt_of_cell? w5 _ (e2 0 _ rfl)
            exact ⟨b1, o1, e1, range_fr (range_below e2 hbl6) hf7 (by simp only at this; omega)⟩)
          have HC7 := Lib.hid hb7
          have HOUT : Hid (∀ W, Below w7.heap.size w7 W → (∃ M : List (Ent One), M.length ≤ k + 1 ∧ BookR W bb mb (N : Int) M) ∧ Below w.heap.size w W) := Lib.hid fun W hW => ⟨⟨M2, HML.out, HB7.out.below hW⟩, HBL7.out.trans (Below.up hW HBL7.out.size)⟩
          clear hb7 hf7 hbl6 hb6 hcb hs6 hs7 HCB HS6 HS7 HB5 HA5 HBL5 HSR
          try go_frame
          go_roundw
          case rel => exact ⟨k + 1, by omega, by go_num, Lib.hid (HOUT.out _ (Below.refl _ _)).1, Lib.hid (HOUT.out _ (Below.refl _ _)).2⟩
          case measure => simp [intOf]; omega
        | true =>
          have hsay := HSAY.out rfl
          have HEA := Lib.hid hsay.each
          have hun := hun rfl
          subst hun
          have hlen : (n5 : Int) = need := by rw [HN5.out]; exact hsay.len
          obtain ⟨cn, hcn⟩ : ∃ cn, cn = countM M2 a.vote := ⟨_, rfl⟩
          have l3 : ¬ (cn : Int) < need := by have := hsay.count; omega
          have hn5 : n5 ≤ 64 := by have := hsay.small; rw [HN5.out]; omega
          have HCN := Lib.hid hcn
          have hd : decide (a.vote = a.vote) = true := decide_eq_true rfl
          clear hsay HSAY hcn hun
          subst hlen
          go_wp2_with (first | (refine wpList_alloc_big rfl 39 rfl (ccells zeroV (.slice none 0 0)).toArray 37 (by kernel_rfl) ?_; intro cb w6 HCB hb6 hbl6 HS6) | (refine wpList_store_big rfl 39 _ _ rfl _ rfl (ccells a.vote (.slice A5 n5 c5)) rfl _ _ hb6 (sizeCert HU.out _) (by rw [ccells_len HU.out]; rfl) (ccells_one _ rfl) ?_; intro w7 hb7 hf7 HS7; have c36 := ccell36 HU.out hb7; have hv7 := (range_part (range_of_blk hb7)).1; have hr7 := range_of_blk ((HA5.out.below hbl6).fr hf7 (by have := HCB.out; omega))) | (refine wpList_valG rfl (load_vote HU.out hv7 rfl rfl) ?_) | (refine wpList_valG rfl (load_vote HA.out.vote (act_vote hr7) rfl rfl) ?_) | (refine wpList_valG rfl (vote_neq _ HA.out.vote HA.out.vote rfl rfl rfl) ?_))
          have hcb := HCB.out
          have hs6 := HS6.out
          have hs7 := HS7.out
          have HB7 := Lib.hid ((HB5.out.below hbl6).fr hf7 (by have := HB5.out.blk.lt; omega) (by have := HB5.out.map.lt; omega))
          have HA7 := Lib.hid ((HA5.out.below hbl6).fr hf7 (by omega))
          have HBL7 := Lib.hid (below_fr (HBL5.out.trans (Below.up hbl6 HBL5.out.size)) hf7 (by omega))
          have HSR7 : Hid (SR w7 A5 L) := Lib.hid (fun i s hs => by
            obtain ⟨b1, o1, e1, e2⟩ := HSR.out i s hs
            have := World.block_lt_of_cell? w5 _ (e2 0 _ rfl)
            exact ⟨b1, o1, e1, range_fr (range_below e2 hbl6) hf7 (by simp only at this; omega)⟩)
          have HC7 := Lib.hid hb7
          have HOUT : Hid (∀ W, Below w7.heap.size w7 W → (∃ M : List (Ent One), M.length ≤ k + 1 ∧ BookR W bb mb (N : Int) M) ∧ Below w.heap.size w W) := Lib.hid fun W hW => ⟨⟨M2, HML.out, HB7.out.below hW⟩, HBL7.out.trans (Below.up hW HBL7.out.size)⟩
          clear hb7 hf7 hbl6 hb6 hcb hs6 hs7 HCB HS6 HS7 HB5 HA5 HBL5 HSR
          refine (count_any w7 HB7.out a.vote HU.out).mono ?_
          rintro e w8 ⟨rfl, hbl8⟩
          rw [← HCN.out]
          have HB8 := Lib.hid (HB7.out.below hbl8)
          have HA8 := Lib.hid (HA7.out.below hbl8)
          have HC8 := Lib.hid (HC7.out.below hbl8)
          have HSR8 := Lib.hid (HSR7.out.below hbl8)
          have HOUT8 : Hid (∀ W, Below w8.heap.size w8 W → (∃ M : List (Ent One), M.length ≤ k + 1 ∧ BookR W bb mb (N : Int) M) ∧ Below w.heap.size w W) := Lib.hid fun W hW => HOUT.out W (hbl8.trans (Below.up hW hbl8.size))
          have c36 := ccell36 HU.out HC8.out
          clear hbl8 HB7 HA7 HC7 HSR7 HOUT HBL7 hv7 hr7
          go_wp2_with fail
          have HBL8 := Lib.hid (Below.refl w8.heap.size w8)
          have hfirst : Hid (∀ s, L[0]? = some s → (-1 : Int) < s.1) := Lib.hid fun s hs => by have := (HEA.out 0 s hs).1; omega
          have l3' : decide (cn < n5) = false := decide_eq_false (by omega)
          simp only [l3']
          clear l3 l3' c36
          go_loopw [13, 86] (fun lv jv wz => ∃ (j : Nat) (l : Int), j ≤ n5 ∧ jv = .int .i64 (j : Int) ∧ lv = .int .i64 l ∧ Hid (∀ s, L[j]? = some s → l < s.1) ∧ Hid (Below w8.heap.size w8 wz)) (fun _ jv _ => n5 - (intOf jv).toNat)
          case atStart => exact ⟨0, -1, Nat.zero_le _, rfl, rfl, hfirst, HBL8⟩
          case round =>
            clear HBL8 hfirst
            obtain ⟨j, l, hj, rfl, rfl, HF, HBL⟩ := hrel
            by_cases hjl : j < n5
            · obtain ⟨s, hs⟩ : ∃ s, L[j]? = some s := ⟨_, List.getElem?_eq_getElem (by rw [← HN5.out]; exact hjl)⟩
              obtain ⟨b5, off5, hA5, hr5⟩ := HSR8.out j s hs
              subst hA5
              have hls := HF.out s hs
              obtain ⟨e1, e2, e3, e4⟩ := HEA.out j s hs
              obtain ⟨sn, st⟩ := s
              simp only at hls e1 e2 e3 e4 hr5
              have HST := Lib.hid (show st.length = 16 from HLO.out _ (List.mem_of_getElem? hs))
              have HNX : Hid (∀ t, L[j + 1]? = some t → sn < t.1) := Lib.hid fun t ht => (HEA.out (j + 1) t ht).2.2.2 j _ hs (Nat.lt_succ_self j)
              have HR5 := Lib.hid (range_below hr5 HBL.out)
              have HLK := Lib.hid e3
              have HSN := Lib.hid (show I64 sn from i64_of (by omega) (by omega))
              have HB := Lib.hid (HB8.out.below HBL.out)
              have HAA := Lib.hid (HA8.out.below HBL.out)
              have l4 : (j : Int) < (n5 : Int) := by omega
              have L5 : Hid (¬ sn ≤ l) := Lib.hid (by omega)
              have hd2 : decide (st = st) = true := decide_eq_true rfl
              clear hr5 e1 e2 e3 e4 hs hls
              go_wp2_with (first | (refine wpList_val rfl (load_sign HST.out HR5.out rfl rfl) ?_) | (refine wpList_alloc_big rfl 44 rfl (scells 0 zeroT).toArray 17 (by kernel_rfl) ?_; intro sb z2 HSB hb2 hbl2 HS2) | (refine wpList_store_big rfl 44 _ _ rfl _ rfl (scells sn st) rfl _ _ hb2 (sizeSign HST.out) (by simp only [scells, List.length_cons, bv_length, HST.out]; rfl) (scells_one _ _) ?_; intro z3 hb3 hf3 HS3; have hsb := HSB.out; have hs2 := HS2.out; have hs3 := HS3.out; have hax := HAA.out.lt; have hs0 : z3.cell? ⟨sb, 0, none⟩ = some (.int .i64 sn) := range_of_blk hb3 0 _ rfl; have hk3 := act_kind (range_of_blk ((HAA.out.below hbl2).fr hf3 (by omega)))))
              have HB3 := Lib.hid ((HB.out.below hbl2).fr hf3 (by have := HB.out.blk.lt; omega) (by have := HB.out.map.lt; omega))
              have HS4 := Lib.hid hb3
              have HBL3 := Lib.hid (below_fr (HBL.out.trans (Below.up hbl2 HBL.out.size)) hf3 (by have := HBL.out.size; omega))
              have HA3 := Lib.hid ((HAA.out.below hbl2).fr hf3 (by omega))
              clear hb2 hbl2 hb3 hf3 hsb hs2 hs3 hax hs0 hk3 HSB HS2 HS3 HB HBL HAA HR5
              refine (of_any z3 HB3.out a.vote.kind sn HA.out.vote.kind HSN.out).mono ?_
              rintro e z4 ⟨rfl, hbl4⟩
              have hX : lookX M2 (a.vote.kind, sn) = (a.vote, st) := by unfold lookX; rw [HLK.out]; rfl
              rw [hX, HLK.out]
              have HS5 := Lib.hid (HS4.out.below hbl4)
              have HA4 := Lib.hid (HA3.out.below hbl4)
              have HBL4 := Lib.hid (HBL3.out.trans (Below.up hbl4 HBL3.out.size))
              have hab4 : ab < z4.heap.size ∧ sb < z4.heap.size := ⟨HA4.out.lt, HS5.out.lt⟩
              clear hX hbl4 HS4 HBL3 HA3 HB3
              go_wp2_with (first | (refine wpList_alloc_big rfl 30 rfl (vcells zeroV).toArray 36 (by kernel_rfl) ?_; intro vb z5 HVB hb5 hbl5 HS6) | (refine wpList_alloc_big rfl 32 rfl (bv zeroT).toArray 16 (by kernel_rfl) ?_; intro tb z6 HTB hb6 hbl6 HS7) | (refine wpList_store_big rfl 30 _ _ rfl _ rfl (vcells a.vote) rfl _ _ (hb5.below hbl6) (sizeVote HU.out) (by rw [vcells_len HU.out]; rfl) (vcells_one _) ?_; intro z7 hb7 hf7 HS8) | (refine wpList_store_big rfl 32 _ _ rfl _ rfl (bv st) rfl _ _ (hb6.fr hf7 (by have := HVB.out; have := HTB.out; have := HS6.out; omega)) (sizeTag HST.out) (by rw [bv_length, HST.out]; rfl) (bv_one' _) ?_; intro z8 hb8 hf8 HS9; have hvb := HVB.out; have htb := HTB.out; have hs6 := HS6.out; have hs7 := HS7.out; have hS8 := ((HS5.out.below hbl5).below hbl6).fr hf7 (by omega); have hS9 := hS8.fr hf8 (by omega); have hA9 := (((HA4.out.below hbl5).below hbl6).fr hf7 (by omega)).fr hf8 (by omega); have hv9 := hb7.fr hf8 (by omega); have hs0 : z8.cell? ⟨sb, 0, none⟩ = some (.int .i64 sn) := range_of_blk hS9 0 _ rfl; have hst9 : z8.rangeAt sb 1 (bv st) := (range_part (xs := [.int .i64 sn]) (range_of_blk hS9)).2; have hr9 := act_vote (range_of_blk hA9)) | (refine wpList_valG (by first | rfl | (have hdd : decide (sn ≤ l) = false := decide_eq_false (by have := L5.out; omega); simp only [hdd]; rfl)) (load_vote HU.out (range_of_blk hv9) rfl rfl) ?_) | (refine wpList_valG (by first | rfl | (have hdd : decide (sn ≤ l) = false := decide_eq_false (by have := L5.out; omega); simp only [hdd]; rfl)) (load_vote HU.out hr9 rfl rfl) ?_) | (refine wpList_valG (by first | rfl | (have hdd : decide (sn ≤ l) = false := decide_eq_false (by have := L5.out; omega); simp only [hdd]; rfl)) (vote_neq _ HU.out HU.out rfl rfl rfl) ?_) | (refine wpList_valG (by first | rfl | (have hdd : decide (sn ≤ l) = false := decide_eq_false (by have := L5.out; omega); simp only [hdd]; rfl)) (load_tag HST.out (range_of_blk hb8) rfl rfl) ?_) | (refine wpList_valG (by first | rfl | (have hdd : decide (sn ≤ l) = false := decide_eq_false (by have := L5.out; omega); simp only [hdd]; rfl)) (load_tag HST.out hst9 rfl rfl) ?_) | (refine wpList_valG (by first | rfl | (have hdd : decide (sn ≤ l) = false := decide_eq_false (by have := L5.out; omega); simp only [hdd]; rfl)) (tag_neq _ HST.out HST.out rfl rfl rfl) ?_))
              have HBL8 := Lib.hid (below_fr (below_fr (HBL4.out.trans (Below.up (hbl5.trans (Below.up hbl6 (by omega))) HBL4.out.size)) hf7 (by have := HBL4.out.size; omega)) hf8 (by have := HBL4.out.size; omega))
              clear hb5 hb6 hbl5 hbl6 hb7 hf7 hb8 hf8 hvb htb hs6 hs7 hS8 hS9 hA9 hv9 hs0 hst9 hr9
              go_roundw
              case rel => exact ⟨j + 1, sn, by omega, by go_num, rfl, HNX, HBL8⟩
              case measure => simp [intOf]; omega
            · have l4 : ¬ (j : Int) < (n5 : Int) := by omega
              have HO := HOUT8.out _ HBL.out
              have HO1 := Lib.hid HO.1
              have HO2 := Lib.hid HO.2
              clear HO
              go_wp2_with fail
              try go_frame
              go_roundw
              case rel => exact ⟨k + 1, by omega, by go_num, HO1, HO2⟩
              case measure => simp [intOf]; omega
      · have l1 : ¬ (k : Int) < (m : Int) := by omega
        go_wp2_with fail
        refine (lives_ok wr).mono ?_
        rintro e w2 ⟨rfl, hbl2⟩
        go_wp2_with fail
        go_ret
        exact ⟨rfl, HBL.out.trans (Below.up hbl2 HBL.out.size)⟩

end Go.Proofs.Ytpbcpocheblbfaa
