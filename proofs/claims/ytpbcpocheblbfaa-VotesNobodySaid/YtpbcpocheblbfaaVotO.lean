/- The law VotesNobody: the walk. -/
import Derived.Test.YtpbcpocheblbfaaVotJ
import Derived.Test.YtpbcpocheblbfaaVotK
import Derived.Test.YtpbcpocheblbfaaVotN
namespace Go.Proofs.Ytpbcpocheblbfaa
set_option linter.unusedVariables false
set_option linter.unusedSimpArgs false
open Go.RowKit Go.MapKept

theorem act_vote' {w : World} {b off : Nat} {a : VAct} (h : w.rangeAt b off (acells a)) : w.rangeAt b (off + 1) (vcells a.vote) := by
  have h2 := (range_part (xs := [.int .i64 a.node]) (ys := vcells a.vote ++ bv a.tag) h).2
  exact (range_part h2).1
theorem act_tag' {w : World} {b off : Nat} {a : VAct} (ha : a.ok) (h : w.rangeAt b off (acells a)) : w.rangeAt b (off + 37) (bv a.tag) := by
  have h2 := (range_part (xs := [.int .i64 a.node]) (ys := vcells a.vote ++ bv a.tag) h).2
  have h3 := (range_part h2).2
  rw [vcells_len ha.vote] at h3
  exact h3
theorem act_node' {w : World} {b : Nat} {a : VAct} (h : w.rangeAt b 0 (acells a)) : w.cell? ⟨b, 0, none⟩ = some (.int .i64 a.node) := h 0 _ rfl
theorem act_kind' {w : World} {b : Nat} {a : VAct} (h : w.rangeAt b 0 (acells a)) : w.cell? ⟨b, 1, none⟩ = some (.int .i64 a.vote.kind) := act_vote' h 0 _ rfl
theorem built_book0 : Try.prog.built 55 [] = some #[.int .i64 0, .map none] := by kernel_rfl
/-- What each round of the law leans on. -/
structure Nb (w0 w : World) (ab sb : Nat) (a : VAct) : Prop where
  act : Blk w ab (acells a).toArray 34
  bel : Below w0.heap.size w0 w
  row : ∀ k : Nat, k < 2 → ∃ p, w.cell? ⟨sb, k, none⟩ = some (.pointer p) ∧ NoBook w p
theorem Nb.below {w0 w w' : World} {ab sb : Nat} {a : VAct} (h : Nb w0 w ab sb a) (hb : Below w.heap.size w w') : Nb w0 w' ab sb a :=
  ⟨h.act.below hb, h.bel.trans (Below.up hb h.bel.size), fun k hk => by
    obtain ⟨p, h1, h2⟩ := h.row k hk
    exact ⟨p, cell_bl h1 hb, h2.below hb⟩⟩
theorem below_st {w w' w'' : World} {b : Nat} (h : Below w.heap.size w w') (hf : Fr (fun k => k = b) w' w'') (hb : w.heap.size ≤ b) : Below w.heap.size w w'' := Fr.below h hf (fun k hk => by omega)

set_option maxRecDepth 100000 in
set_option maxHeartbeats 8000000 in
theorem lawNobody (a : VAct) (ha : a.ok) (w : World) :
    Calls Try.prog 6 #[.agg (acells a).toArray] w fun e w' => e = .returned (.bool true) ∧ Below w.heap.size w w' := by
  have HA := Lib.hid ha
  clear ha
  go_enter Try.func6, Try.ntmps6
  go_wp2_with (first | (refine wpList_box_big rfl 34 _ rfl _ rfl ?_; intro ab w1 HAB hb1 hbl1 HS1) | (refine wpList_val rfl (exec_build0 _ rfl _ built_book0) ?_) | (refine wpList_box_big rfl 55 _ rfl _ rfl ?_; intro xb w2 HXB hb2 hbl2 HS2))
  obtain ⟨sb, hsb⟩ : ∃ sb, sb = w2.heap.size := ⟨_, rfl⟩
  have h0 : Nb w (w2.alloc (.cells #[.pointer none, .pointer (some ⟨xb, 0, none⟩)] 24)) ab sb a := by
    have e1 := HAB.out
    have e2 := HXB.out
    have e3 := HS1.out
    have e4 := HS2.out
    have hbk := Blk.new w2 #[.pointer none, .pointer (some ⟨xb, 0, none⟩)] 24
    have hal : Below w2.heap.size w2 (w2.alloc (.cells #[.pointer none, .pointer (some ⟨xb, 0, none⟩)] 24)) := (Below.refl _ _).alloc (Nat.le_refl _) _
    refine ⟨(hb1.below hbl2).below hal, (hbl1.trans (Below.up hbl2 (by omega))).trans (Below.up hal (by omega)), fun k hk => ?_⟩
    rw [hsb]
    match k, hk with
    | 0, _ => exact ⟨none, hbk.cell 0, .inl rfl⟩
    | 1, _ => exact ⟨some ⟨xb, 0, none⟩, hbk.cell 1, .inr ⟨xb, rfl, (hb2.below hal).cell 1⟩⟩
  have H0 := Lib.hid h0
  have hw0 : w.heap.size ≤ ab := by have := HAB.out; omega
  rw [← hsb]
  clear h0 hb1 hbl1 hb2 hbl2 HAB HXB HS1 HS2
  go_loopw [16] (fun iv wr => ∃ k : Nat, k ≤ 2 ∧ iv = .int .i64 (k : Int) ∧ Hid (Nb w wr ab sb a)) (fun iv _ => 2 - (intOf iv).toNat)
  case atStart => exact ⟨0, by omega, rfl, H0⟩
  case round =>
    clear H0 hsb
    obtain ⟨k, hk, rfl, HN⟩ := hrel
    by_cases hlt : k < 2
    · obtain ⟨p, hc, hnp⟩ := HN.out.row k hlt
      have hr := range_of_blk HN.out.act
      have hcn := act_node' hr
      have hck := act_kind' hr
      have l1 : (k : Int) < 2 := by omega
      have HNP := Lib.hid hnp
      clear hnp
      go_wp2_with fail
      refine (of_no p wr HNP.out a.vote.kind a.node).mono ?_
      rintro e w3 ⟨rfl, hbl3⟩
      have HN3 := Lib.hid (HN.out.below hbl3)
      have HP3 := Lib.hid (HNP.out.below hbl3)
      clear hc hr hcn hck hbl3 HN HNP
      go_wp2_with (first | (refine wpList_alloc_big rfl 30 rfl (vcells zeroV).toArray 36 (by kernel_rfl) ?_; intro vb w4 HVB hb4 hbl4 HS4) | (refine wpList_alloc_big rfl 32 rfl (bv zeroT).toArray 16 (by kernel_rfl) ?_; intro tb w5 HTB hb5 hbl5 HS5) | (refine wpList_store_big rfl 30 _ _ rfl _ rfl (vcells zeroV) rfl _ _ (hb4.below hbl5) (sizeVote zeroV_ok) (by rw [vcells_len zeroV_ok]; rfl) (vcells_one _) ?_; intro w6 hb6 hf6 HS6) | (refine wpList_store_big rfl 32 _ _ rfl _ rfl (bv zeroT) rfl _ _ (hb5.fr hf6 (by have := HVB.out; have := HTB.out; have := HS4.out; omega)) (sizeTag zeroT_16) (by rw [bv_length, zeroT_16]; rfl) (bv_one' _) ?_; intro w7 hb7 hf7 HS7; have HN7 := HN3.out.below (below_st (below_st (hbl4.trans (Below.up hbl5 hbl4.size)) hf6 (by have := HVB.out; omega)) hf7 (by have := HVB.out; have := HTB.out; have := HS4.out; omega)); have HP7 := Lib.hid (HP3.out.below (below_st (below_st (hbl4.trans (Below.up hbl5 hbl4.size)) hf6 (by have := HVB.out; omega)) hf7 (by have := HVB.out; have := HTB.out; have := HS4.out; omega))); have hr := range_of_blk HN7.act; have HN7 := Lib.hid HN7) | (refine wpList_val rfl (load_vote HA.out.vote (act_vote' hr) rfl rfl) ?_))
      clear hb4 hbl4 hb5 hbl5 hb6 hf6 hb7 hf7 HVB HTB HS4 HS5 HS6 HS7 hr HN3 HP3
      refine (cert_no p w7 HP7.out a.vote 1).mono ?_
      rintro e w8 ⟨rfl, hbl8⟩
      have HN8 := Lib.hid (HN7.out.below hbl8)
      have HP8 := Lib.hid (HP7.out.below hbl8)
      clear hbl8 HN7 HP7
      go_wp2_with (first | (refine wpList_alloc_big rfl 39 rfl (ccells zeroV (.slice none 0 0)).toArray 37 (by kernel_rfl) ?_; intro cb w9 HCB hb9 hbl9 HS9) | (refine wpList_store_big rfl 39 _ _ rfl _ rfl (ccells zeroV (.slice none 0 0)) rfl _ _ hb9 (sizeCert zeroV_ok _) (by rw [ccells_len zeroV_ok]; rfl) (ccells_one _ rfl) ?_; intro w10 hb10 hf10 HS10; have HN10 := Lib.hid (HN8.out.below (below_st hbl9 hf10 (by have := HCB.out; omega))); have HP10 := Lib.hid (HP8.out.below (below_st hbl9 hf10 (by have := HCB.out; omega))); have hck := act_kind' (range_of_blk HN10.out.act)))
      clear hb9 hbl9 hb10 hf10 HCB HS9 HS10 hck HN8 HP8
      refine (best_no p w10 HP10.out a.vote.kind 1).mono ?_
      rintro e w11 ⟨rfl, hbl11⟩
      have HN11 := Lib.hid (HN10.out.below hbl11)
      have HP11 := Lib.hid (HP10.out.below hbl11)
      clear hbl11 HN10 HP10
      go_wp2_with (first | (refine wpList_alloc_big rfl 39 rfl (ccells zeroV (.slice none 0 0)).toArray 37 (by kernel_rfl) ?_; intro cb w12 HCB hb12 hbl12 HS12) | (refine wpList_store_big rfl 39 _ _ rfl _ rfl (ccells zeroV (.slice none 0 0)) rfl _ _ hb12 (sizeCert zeroV_ok _) (by rw [ccells_len zeroV_ok]; rfl) (ccells_one _ rfl) ?_; intro w13 hb13 hf13 HS13; have HN13 := Lib.hid (HN11.out.below (below_st hbl12 hf13 (by have := HCB.out; omega))); have HP13 := Lib.hid (HP11.out.below (below_st hbl12 hf13 (by have := HCB.out; omega))); have hr := range_of_blk HN13.out.act; have hcn := act_node' hr) | (refine wpList_val rfl (load_vote HA.out.vote (act_vote' hr) rfl rfl) ?_) | (refine wpList_val rfl (load_tag HA.out.tag (act_tag' HA.out hr) rfl rfl) ?_))
      clear hb12 hbl12 hb13 hf13 HCB HS12 HS13 hr hcn HN11 HP11
      refine (add_no p w13 HP13.out a.node a.vote a.tag).mono ?_
      rintro e w14 ⟨rfl, hbl14⟩
      have HN14 := Lib.hid (HN13.out.below hbl14)
      have HP14 := Lib.hid (HP13.out.below hbl14)
      have hr := range_of_blk HN14.out.act
      clear hbl14 HN13 HP13
      go_wp2_with (refine wpList_valG rfl (load_vote HA.out.vote (act_vote' hr) rfl rfl) ?_)
      refine (count_no p w14 HP14.out a.vote).mono ?_
      rintro e w15 ⟨rfl, hbl15⟩
      have HN15 := Lib.hid (HN14.out.below hbl15)
      clear hbl15 HN14 HP14 hr
      go_wp2_with fail
      try go_frame
      go_roundw
      case rel => exact ⟨k + 1, by omega, by go_num, HN15⟩
      case measure => simp [intOf]; omega
    · have l1 : ¬ (k : Int) < 2 := by omega
      go_wp2_with fail
      refine (lives_ok wr).mono ?_
      rintro e w2 ⟨rfl, hbl2⟩
      go_wp2_with fail
      go_ret
      exact ⟨rfl, HN.out.bel.trans (Below.up hbl2 HN.out.bel.size)⟩

end Go.Proofs.Ytpbcpocheblbfaa
