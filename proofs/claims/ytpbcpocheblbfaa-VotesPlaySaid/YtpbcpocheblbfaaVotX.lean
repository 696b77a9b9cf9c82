/- The document's book of votes: signs, Count, Cert. -/
import Derived.Test.YtpbcpocheblbfaaVotW
namespace Go.Proofs.Ytpbcpocheblbfaa
set_option linter.unusedVariables false
set_option linter.unusedSimpArgs false
open Go.RowKit Go.MapKept

def SignsPost (w : World) (L : List Sg) (e : Ending) (w' : World) : Prop := ∃ A c, e = .returned (.slice A L.length c) ∧ L.length ≤ c ∧ SR w' A L ∧ (∀ a, A = some a → 0 < L.length → w.heap.size ≤ a.block) ∧ (L = [] ∨ ∃ a, A = some a) ∧ Below w.heap.size w w'
set_option maxRecDepth 100000 in
set_option maxHeartbeats 8000000 in
theorem rsigns_any (w : World) {rb N : Nat} {M : List (Ent One)} (h : RefB w rb (N : Int) (ones M)) (hi : Inv N M) (hok : ∀ p ∈ M, p.2.ok) (hN : N ≤ 64) (v : Vt) (hv : v.ok) :
    Calls Try.prog 27 #[.pointer (some ⟨rb, 0, none⟩), vval v] w (SignsPost w (signsP M v N)) := by
  have H := Lib.hid h
  have HI := Lib.hid hi
  have HOK := Lib.hid hok
  have HV := Lib.hid hv
  clear h hi hok hv
  go_enter Try.func27, Try.ntmps27
  go_wp2_with (first | (refine wpList_box_big rfl 30 _ rfl (vcells v).toArray rfl ?_; intro vb w1 HVB hb1 hbl1 HS1))
  have hvb := HVB.out
  have hs1 := HS1.out
  have HB1 := Lib.hid hb1
  have HBL1 := Lib.hid hbl1
  have hwv : w.heap.size ≤ vb := by omega
  have HSZ1 : Hid (vb < w1.heap.size) := Lib.hid (by omega)
  clear hb1 hbl1 hs1 HVB HS1
  go_loopw [5, 6] (fun sv nv wr => ∃ (k : Nat) (s : Value), k ≤ N ∧ nv = .int .i64 (k : Int) ∧ sv = s ∧ Hid (SO (vb + 1) wr s (signsP M v k)) ∧ Hid (Blk wr vb (vcells v).toArray 30) ∧ Hid (Below w.heap.size w wr) ∧ Hid (vb < wr.heap.size)) (fun _ nv _ => N - (intOf nv).toNat)
  case atStart => exact ⟨0, .slice none 0 0, Nat.zero_le _, rfl, rfl, Lib.hid (SO.nil _ _), HB1, HBL1, HSZ1⟩
  case round =>
    clear HB1 HBL1 HSZ1
    obtain ⟨k, s, hk, rfl, rfl, HSO, HB, HBL, HSZ⟩ := hrel
    have HR := Lib.hid (H.out.below HBL.out)
    obtain ⟨A0, c0, hbk, _⟩ := HR.out.read
    have cn : wr.cell? ⟨rb, 0, none⟩ = some (.int .i64 (N : Int)) := hbk.cell 0
    clear hbk
    by_cases hlt : k < N
    · have l1 : (k : Int) < (N : Int) := by omega
      have ck := (vote_cells HB.out).1
      go_wp2_with fail
      obtain ⟨X, hX⟩ : ∃ X, X = lookX M (v.kind, (k : Int)) := ⟨_, rfl⟩
      obtain ⟨bs, hbs⟩ : ∃ bs, bs = (lookM M (v.kind, (k : Int))).isSome := ⟨_, rfl⟩
      have hhit := hit_eq M v k
      have hcall := rof_any wr HR.out HI.out v.kind (k : Int)
      rw [← hX, ← hbs] at hhit hcall
      have HX : Hid X.ok := Lib.hid (by rw [hX]; exact lookX_ok HOK.out _)
      have HSC := Lib.hid (signsP_succ M v k)
      have HHIT := Lib.hid hhit
      clear hX hbs hhit cn ck
      refine hcall.mono ?_
      rintro e w2 ⟨rfl, hbl2⟩
      have hsz := HSZ.out
      have hlw : w.heap.size ≤ wr.heap.size := HBL.out.size
      have HSO2 := Lib.hid (HSO.out.below hbl2)
      have HB2 := Lib.hid (HB.out.below hbl2)
      have HBL2 := Lib.hid (HBL.out.trans (Below.up hbl2 HBL.out.size))
      have hs2 : vb < w2.heap.size := by have := hbl2.size; omega
      clear hbl2 hcall HSO HB HBL HR hsz hlw HSZ
      have HALL : Hid (∀ w6 : World, Below w2.heap.size w2 w6 → SO (vb + 1) w6 u5 (signsP M v k) ∧ Blk w6 vb (vcells v).toArray 30 ∧ Below w.heap.size w w6 ∧ vb < w6.heap.size) := Lib.hid fun w6 hb => ⟨HSO2.out.below hb, HB2.out.below hb, HBL2.out.trans (Below.up hb HBL2.out.size), by have := hb.size; omega⟩
      cases bs with
      | false =>
        have hnone : hit M v k = none := by rw [HHIT.out]; simp
        have HNX : Hid (signsP M v (k + 1) = signsP M v k) := Lib.hid (by rw [HSC.out, hnone]; simp)
        clear hnone
        go_wp2_with (first | (refine wpList_alloc_big rfl 30 rfl (vcells zeroV).toArray 36 (by kernel_rfl) ?_; intro xb z1 HXB hb1 hbl1 HS1) | (refine wpList_alloc_big rfl 32 rfl (bv zeroT).toArray 16 (by kernel_rfl) ?_; intro tb z2 HTB hb2 hbl2 HS2) | (refine wpList_store_big rfl 30 _ _ rfl _ rfl (vcells X.1) rfl _ _ (hb1.below hbl2) (sizeVote HX.out.vote) (by rw [vcells_len HX.out.vote]; rfl) (vcells_one _) ?_; intro z3 hb3 hf3 HS3) | (refine wpList_store_big rfl 32 _ _ rfl _ rfl (bv X.2) rfl _ _ (hb2.fr hf3 (by have := HXB.out; have := HTB.out; have := HS1.out; omega)) (sizeTag HX.out.tag) (by rw [bv_length, HX.out.tag]; rfl) (bv_one' _) ?_; intro z4 hb4 hf4 HS4; have hxb := HXB.out; have htb := HTB.out; have hs1 := HS1.out; have hbb := below_fr (below_fr (hbl1.trans (Below.up hbl2 hbl1.size)) hf3 (by omega)) hf4 (by omega); obtain ⟨a1, a2, a3, a4⟩ := HALL.out z4 hbb; have A1 := Lib.hid a1; have A2 := Lib.hid a2; have A3 := Lib.hid a3; have A4 := Lib.hid a4; clear a1 a2 a3 a4; have hx4 := range_of_blk (hb3.fr hf4 (by omega)); have ht4 := range_of_blk hb4))
        clear hb1 hb2 hbl1 hbl2 hb3 hf3 hb4 hf4 hxb htb hs1 hbb hx4 ht4 HXB HTB HS1 HS2 HS3 HS4
        try go_frame
        go_roundw
        case rel => exact ⟨k + 1, _, hlt, by go_num, rfl, by rw [HNX.out]; exact A1, A2, A3, A4⟩
        case measure => simp [intOf]; omega
      | true =>
        by_cases hxe : X.1 = v
        · have hd : decide (X.1 = v) = true := decide_eq_true hxe
          have hsome : hit M v k = some ((k : Int), X.2) := by rw [HHIT.out, if_pos ⟨rfl, hxe⟩]
          have HNX : Hid (signsP M v (k + 1) = signsP M v k ++ [((k : Int), X.2)]) := Lib.hid (by rw [HSC.out, hsome]; rfl)
          have HSL : Hid ((signsP M v k).length ≤ 1000000) := Lib.hid (by have := signsP_len M v k; omega)
          clear hsome hxe
          go_wp2_with (first | (refine wpList_alloc_big rfl 30 rfl (vcells zeroV).toArray 36 (by kernel_rfl) ?_; intro xb z1 HXB hb1 hbl1 HS1) | (refine wpList_alloc_big rfl 32 rfl (bv zeroT).toArray 16 (by kernel_rfl) ?_; intro tb z2 HTB hb2 hbl2 HS2) | (refine wpList_store_big rfl 30 _ _ rfl _ rfl (vcells X.1) rfl _ _ (hb1.below hbl2) (sizeVote HX.out.vote) (by rw [vcells_len HX.out.vote]; rfl) (vcells_one _) ?_; intro z3 hb3 hf3 HS3) | (refine wpList_store_big rfl 32 _ _ rfl _ rfl (bv X.2) rfl _ _ (hb2.fr hf3 (by have := HXB.out; have := HTB.out; have := HS1.out; omega)) (sizeTag HX.out.tag) (by rw [bv_length, HX.out.tag]; rfl) (bv_one' _) ?_; intro z4 hb4 hf4 HS4; have hxb := HXB.out; have htb := HTB.out; have hs1 := HS1.out; have hbb := below_fr (below_fr (hbl1.trans (Below.up hbl2 hbl1.size)) hf3 (by omega)) hf4 (by omega); obtain ⟨a1, a2, a3, a4⟩ := HALL.out z4 hbb; have A1 := Lib.hid a1; have A2 := Lib.hid a2; have A3 := Lib.hid a3; have A4 := Lib.hid a4; clear a1 a2 a3 a4; have hx4 := range_of_blk (hb3.fr hf4 (by omega)); have ht4 := range_of_blk hb4) | (refine wpList_valG rfl (load_vote HX.out.vote hx4 rfl rfl) ?_) | (refine wpList_valG rfl (load_vote HV.out (range_of_blk A2.out) rfl rfl) ?_) | (refine wpList_valG rfl (vote_eql _ HX.out.vote HV.out rfl rfl rfl) ?_) | (refine wpList_val rfl (load_tag HX.out.tag ht4 rfl rfl) ?_) | (refine wpList_val rfl (exec_build2 _ _ _ _ _ _ _ rfl rfl rfl _ (built_sign HX.out.tag)) ?_) | (refine wpList_bslice_sign rfl _ rfl (k : Int) X.2 rfl HX.out.tag ?_; intro ab w7 HAB hb7 hbl7 HS7) | (refine wpList_append_sign rfl _ _ rfl (vb + 1) _ (signsP M v k) rfl (A1.out.below hbl7) ab rfl (k : Int) X.2 HX.out.tag hb7 HSL.out (by have := A4.out; have := hbl7.size; omega) ?_; intro s' w8 hO8 hg8 ha8))
          have hF8 : Fr (fun i => u5.ownBlock = some i) w7 w8 := Fr.grown hg8 (fun k hk => hk)
          have hlt5 := fun i hi => (A1.out.lt i hi).1
          have B1 : Hid (SO (vb + 1) w8 s' (signsP M v (k + 1))) := Lib.hid (by rw [HNX.out]; exact hO8)
          have B2 := Lib.hid ((A2.out.below hbl7).fr hF8 (fun e => by have := hlt5 vb e; omega))
          have B3 : Hid (Below w.heap.size w w8) := Lib.hid (Fr.below (A3.out.trans (Below.up hbl7 A3.out.size)) hF8 (fun i hi => by have := hlt5 i hi; omega))
          have B4 : Hid (vb < w8.heap.size) := Lib.hid B2.out.lt
          clear hb1 hb2 hbl1 hbl2 hb3 hf3 hb4 hf4 hxb htb hs1 hbb hx4 ht4 HXB HTB HS1 HS2 HS3 HS4
          clear hb7 hbl7 hO8 hg8 ha8 hF8 hlt5 A1 A2 A3 A4 HAB HS7
          go_wp2_with fail
          try go_frame
          go_roundw
          case rel => exact ⟨k + 1, _, hlt, by go_num, rfl, B1, B2, B3, B4⟩
          case measure => simp [intOf]; omega
        · have hd : decide (X.1 = v) = false := decide_eq_false hxe
          have hnone : hit M v k = none := by rw [HHIT.out]; simp [hxe]
          have HNX : Hid (signsP M v (k + 1) = signsP M v k) := Lib.hid (by rw [HSC.out, hnone]; simp)
          clear hnone hxe
          go_wp2_with (first | (refine wpList_alloc_big rfl 30 rfl (vcells zeroV).toArray 36 (by kernel_rfl) ?_; intro xb z1 HXB hb1 hbl1 HS1) | (refine wpList_alloc_big rfl 32 rfl (bv zeroT).toArray 16 (by kernel_rfl) ?_; intro tb z2 HTB hb2 hbl2 HS2) | (refine wpList_store_big rfl 30 _ _ rfl _ rfl (vcells X.1) rfl _ _ (hb1.below hbl2) (sizeVote HX.out.vote) (by rw [vcells_len HX.out.vote]; rfl) (vcells_one _) ?_; intro z3 hb3 hf3 HS3) | (refine wpList_store_big rfl 32 _ _ rfl _ rfl (bv X.2) rfl _ _ (hb2.fr hf3 (by have := HXB.out; have := HTB.out; have := HS1.out; omega)) (sizeTag HX.out.tag) (by rw [bv_length, HX.out.tag]; rfl) (bv_one' _) ?_; intro z4 hb4 hf4 HS4; have hxb := HXB.out; have htb := HTB.out; have hs1 := HS1.out; have hbb := below_fr (below_fr (hbl1.trans (Below.up hbl2 hbl1.size)) hf3 (by omega)) hf4 (by omega); obtain ⟨a1, a2, a3, a4⟩ := HALL.out z4 hbb; have A1 := Lib.hid a1; have A2 := Lib.hid a2; have A3 := Lib.hid a3; have A4 := Lib.hid a4; clear a1 a2 a3 a4; have hx4 := range_of_blk (hb3.fr hf4 (by omega)); have ht4 := range_of_blk hb4) | (refine wpList_valG rfl (load_vote HX.out.vote hx4 rfl rfl) ?_) | (refine wpList_valG rfl (load_vote HV.out (range_of_blk A2.out) rfl rfl) ?_) | (refine wpList_valG rfl (vote_eql _ HX.out.vote HV.out rfl rfl rfl) ?_))
          clear hb1 hb2 hbl1 hbl2 hb3 hf3 hb4 hf4 hxb htb hs1 hbb hx4 ht4 HXB HTB HS1 HS2 HS3 HS4
          try go_frame
          go_roundw
          case rel => exact ⟨k + 1, _, hlt, by go_num, rfl, by rw [HNX.out]; exact A1, A2, A3, A4⟩
          case measure => simp [intOf]; omega
    · have l1 : ¬ (k : Int) < (N : Int) := by omega
      have hkN : k = N := by omega
      subst hkN
      have HSK := Lib.hid (signsP_ok HOK.out v k)
      go_wp2_with fail
      go_ret
      obtain ⟨A', c', e1, e2, e3, e4⟩ := HSO.out.reads HSK.out
      refine ⟨A', c', by rw [← e1]; rfl, e3, e2, fun a ha hl => by have := e4 a ha hl; omega, ?_, HBL.out⟩
      rcases HSO.out.2 with ⟨_, h0⟩ | ⟨g, cap, cur, e5, _⟩
      · exact .inl (List.eq_nil_of_length_eq_zero h0)
      · rw [e5] at e1
        cases e1
        exact .inr ⟨_, rfl⟩

end Go.Proofs.Ytpbcpocheblbfaa
