/- The law VotesPlay: the walk. -/
import Derived.Test.YtpbcpocheblbfaaVotZH
namespace Go.Proofs.Ytpbcpocheblbfaa
set_option linter.unusedVariables false
set_option linter.unusedSimpArgs false
open Go.RowKit Go.MapKept

set_option maxRecDepth 100000 in
set_option maxHeartbeats 32000000 in
theorem lawPlay (nodes : Int) (A : Option Addr) (c : Nat) (xs : List VAct) (need : Int) (w : World) (h : VActsR w A xs) (hl : xs.length ≤ 9223372036854775807) :
    Calls Try.prog 5 #[.int .i64 nodes, .slice A xs.length c, .int .i64 need] w fun e w' => e = .returned (.bool true) ∧ Below w.heap.size w w' := by
  obtain ⟨m, hm⟩ : ∃ m, m = xs.length := ⟨_, rfl⟩
  rw [← hm]
  rw [← hm] at hl
  have H := Lib.hid h
  have HM := Lib.hid hm
  clear h hm
  by_cases hg : goodN nodes = true
  · obtain ⟨N, rfl⟩ : ∃ N : Nat, nodes = (N : Int) := ⟨nodes.toNat, by unfold goodN at hg; simp at hg; omega⟩
    have hN64 : N ≤ 64 := by unfold goodN at hg; simp at hg; omega
    have HG := Lib.hid hg
    clear hg
    go_enter Try.func5, Try.ntmps5
    go_wp2_with fail
    refine (vnew_ok N w HG.out).mono ?_
    rintro e w1 ⟨bb, mb, rfl, HB0, hbb, hmb, hbl0⟩
    have HB0 := Lib.hid HB0
    have HBL0 := Lib.hid hbl0
    clear hbl0
    go_wp2_with fail
    refine (rbnew_ok N w1 HG.out).mono ?_
    rintro e w2 ⟨rb, rfl, HR0, hrb, hbl1⟩
    have hbr : bb < rb ∧ mb < rb := by have := HB0.out.blk.lt; have := HB0.out.map.lt; omega
    have HB := Lib.hid (HB0.out.below hbl1)
    have HR := Lib.hid HR0
    have HBL := Lib.hid (HBL0.out.trans (Below.up hbl1 HBL0.out.size))
    have hrw : w.heap.size ≤ rb := by have := HBL0.out.size; omega
    have hbm := HB.out.ne
    clear HR0 hbl1 hrb HB0 HBL0
    by_cases hm200 : 200 < m
    · have l200 : (200 : Int) < (m : Int) := by omega
      go_wp2_with fail
      refine (lives_ok w2).mono ?_
      rintro e w3 ⟨rfl, hbl2⟩
      go_wp2_with fail
      go_ret
      exact ⟨rfl, HBL.out.trans (Below.up hbl2 HBL.out.size)⟩
    · have l200 : decide ((200 : Int) < (m : Int)) = false := decide_eq_false (by omega)
      have HH0 : Hid (∃ M : List (Ent One), M.length ≤ 0 ∧ Inv N M ∧ BookR w2 bb mb (N : Int) M ∧ RefB w2 rb (N : Int) (ones M)) := Lib.hid ⟨[], Nat.le_refl _, Inv.nil N, HB.out, HR.out⟩
      clear HB HR
      go_wp2_with fail
      clear l200
      go_loopw [45] (fun i wr => ∃ k : Nat, k ≤ m ∧ i = .int .i64 (k : Int) ∧ Hid (∃ M : List (Ent One), M.length ≤ k ∧ Inv N M ∧ BookR wr bb mb (N : Int) M ∧ RefB wr rb (N : Int) (ones M)) ∧ Hid (Below w.heap.size w wr)) (fun i _ => m - (intOf i).toNat)
      case atStart => exact ⟨0, Nat.zero_le _, rfl, HH0, HBL⟩
      case round =>
        clear HH0 HBL
        obtain ⟨k, hk, rfl, HH, HBL⟩ := hrel
        by_cases hlt : k < m
        · obtain ⟨a, ha⟩ : ∃ a, xs[k]? = some a := ⟨_, List.getElem?_eq_getElem (by rw [← HM.out]; exact hlt)⟩
          obtain ⟨hao, b, off, rfl, hlb, hc⟩ := H.out k a ha
          have HA := Lib.hid hao
          have HC := Lib.hid (range_below (range_below hc (Below.refl _ _)) HBL.out)
          obtain ⟨M, hMk, hinv, hBR, hRB⟩ := HH.out
          have HB := Lib.hid hBR
          have HR := Lib.hid hRB
          have HMK := Lib.hid hMk
          have HIN := Lib.hid hinv
          have l1 : (k : Int) < (m : Int) := by omega
          clear hao ha hc HH hMk hBR hRB hinv
          go_wp2_with (first | ((with_reducible show wpList _ _ _ (⟨some 48, _, _, _, _, _⟩ :: _) _ _); refine wpList_val rfl (load_act HA.out HC.out rfl rfl) ?_) | ((with_reducible show wpList _ _ _ (⟨some 10, _, _, _, _, _⟩ :: _) _ _); refine wpList_alloc_big rfl 34 rfl (acells zeroA).toArray 53 act_zero_cells ?_; intro ab z1 HAB hb1 hbl1 HS1) | ((with_reducible show wpList _ _ _ (⟨none, .store 34 _ _, _, _, _, _⟩ :: _) _ _); refine wpList_store_big rfl 34 _ _ rfl _ rfl (acells a) rfl _ _ hb1 (sizeAct HA.out) (by rw [acells_len HA.out]; rfl) (acells_one _) ?_; intro w3 hb3 hf3 HS3))
          obtain ⟨q1, q2⟩ := one_new HAB hbl1 hb3 hf3
          have hbl := HBL.out.size
          have hab := HAB.out
          have hrl := HR.out.lt
          have habl : rb < ab ∧ ab < w3.heap.size ∧ w.heap.size ≤ ab := ⟨by omega, hb3.lt, by omega⟩
          have HB3 := Lib.hid (HB.out.below q1)
          have HR3 := Lib.hid (HR.out.below q1)
          have HBL3 := Lib.hid (HBL.out.trans (Below.up q1 HBL.out.size))
          have HA3 := Lib.hid q2
          clear q1 q2 hb1 hbl1 hb3 hf3 hab HAB HS1 HS3 hbl hrl HB HR HBL HC
          have hd := (Below.refl w3.heap.size w3).drew
          refine wp_region_phased (fun W => W.cell? ⟨ab, 0, none⟩ = some (.int .i64 a.node) ∧ W.rangeAt ab 1 (vcells a.vote) ∧ W.rangeAt ab 37 (bv a.tag)) 28 (by kernel_rfl) (act_all HA.out (HA3.out.below hd)) (fun hS => ?_)
          have HBd := Lib.hid (HB3.out.below hd)
          have HRd := Lib.hid (HR3.out.below hd)
          have HBLd := Lib.hid (HBL3.out.trans (Below.up hd HBL3.out.size))
          have HAd := Lib.hid (HA3.out.below hd)
          clear hd HB3 HR3 HBL3 HA3
          refine wpAnyP_pure (v := ?_) 0 (at_toArray rfl) (by kernel_rfl) (by kernel_rfl) (by kernel_rfl) (fun _ _ _ h => h) (Or.inl ⟨by rfl, fun W => ?_⟩) ?_
          rotate_left 1
          · (go_simp <;> (try go_bits) <;> with_reducible rfl)
          simp only [Act.put, List.setIfInBounds_toArray, List.set_cons_zero, List.set_cons_succ]
          refine wpAnyP_pure (v := ?_) 1 (at_toArray rfl) (by kernel_rfl) (by kernel_rfl) (by kernel_rfl) (fun _ _ _ h => h) (Or.inl ⟨by rfl, fun W => ?_⟩) ?_
          rotate_left 1
          · (go_simp <;> (try go_bits) <;> with_reducible rfl)
          simp only [Act.put, List.setIfInBounds_toArray, List.set_cons_zero, List.set_cons_succ]
          refine wpAnyP_load (v := ?_) 2 (by kernel_rfl) (at_toArray rfl) (by kernel_rfl) (by kernel_rfl) (by kernel_rfl) (fun _ _ _ h => h) (by first | assumption | rfl) (Or.inl ⟨by rfl, fun W hS => ?_⟩) ?_
          rotate_left 1
          · (obtain ⟨s1, s2, s3⟩ := hS; go_simp <;> (try go_bits) <;> with_reducible rfl)
          simp only [Act.put, List.setIfInBounds_toArray, List.set_cons_zero, List.set_cons_succ]
          refine wpAnyP_pure (v := ?_) 3 (at_toArray rfl) (by kernel_rfl) (by kernel_rfl) (by kernel_rfl) (fun _ _ _ h => h) (Or.inl ⟨by rfl, fun W => ?_⟩) ?_
          rotate_left 1
          · (go_simp <;> (try go_bits) <;> with_reducible rfl)
          simp only [Act.put, List.setIfInBounds_toArray, List.set_cons_zero, List.set_cons_succ]
          refine wpAnyP_load (v := vval a.vote) 4 (by kernel_rfl) (at_toArray rfl) (by kernel_rfl) (by kernel_rfl) (by kernel_rfl) (fun _ _ _ h => h) (by first | assumption | rfl) (Or.inl ⟨by rfl, fun W hS => (by obtain ⟨s1, s2, s3⟩ := hS; exact load_vote HA.out.vote s2 rfl rfl)⟩) ?_
          simp only [Act.put, List.setIfInBounds_toArray, List.set_cons_zero, List.set_cons_succ]
          refine wpAnyP_pure (v := ?_) 5 (at_toArray rfl) (by kernel_rfl) (by kernel_rfl) (by kernel_rfl) (fun _ _ _ h => h) (Or.inl ⟨by rfl, fun W => ?_⟩) ?_
          rotate_left 1
          · (go_simp <;> (try go_bits) <;> with_reducible rfl)
          simp only [Act.put, List.setIfInBounds_toArray, List.set_cons_zero, List.set_cons_succ]
          refine wpAnyP_load (v := tval a.tag) 6 (by kernel_rfl) (at_toArray rfl) (by kernel_rfl) (by kernel_rfl) (by kernel_rfl) (fun _ _ _ h => h) (by first | assumption | rfl) (Or.inl ⟨by rfl, fun W hS => (by obtain ⟨s1, s2, s3⟩ := hS; exact load_tag HA.out.tag s3 rfl rfl)⟩) ?_
          simp only [Act.put, List.setIfInBounds_toArray, List.set_cons_zero, List.set_cons_succ]
          refine wpAnyP_pure (v := ?_) 8 (at_toArray rfl) (by kernel_rfl) (by kernel_rfl) (by kernel_rfl) (fun _ _ _ h => h) (Or.inl ⟨by rfl, fun W => ?_⟩) ?_
          rotate_left 1
          · (go_simp <;> (try go_bits) <;> with_reducible rfl)
          simp only [Act.put, List.setIfInBounds_toArray, List.set_cons_zero, List.set_cons_succ]
          refine wpAnyP_pure (v := ?_) 9 (at_toArray rfl) (by kernel_rfl) (by kernel_rfl) (by kernel_rfl) (fun _ _ _ h => h) (Or.inl ⟨by rfl, fun W => ?_⟩) ?_
          rotate_left 1
          · (go_simp <;> (try go_bits) <;> with_reducible rfl)
          simp only [Act.put, List.setIfInBounds_toArray, List.set_cons_zero, List.set_cons_succ]
          refine wpAnyP_load (v := ?_) 10 (by kernel_rfl) (at_toArray rfl) (by kernel_rfl) (by kernel_rfl) (by kernel_rfl) (fun _ _ _ h => h) (by first | assumption | rfl) (Or.inl ⟨by rfl, fun W hS => ?_⟩) ?_
          rotate_left 1
          · (obtain ⟨s1, s2, s3⟩ := hS; go_simp <;> (try go_bits) <;> with_reducible rfl)
          simp only [Act.put, List.setIfInBounds_toArray, List.set_cons_zero, List.set_cons_succ]
          refine wpAnyP_pure (v := ?_) 11 (at_toArray rfl) (by kernel_rfl) (by kernel_rfl) (by kernel_rfl) (fun _ _ _ h => h) (Or.inl ⟨by rfl, fun W => ?_⟩) ?_
          rotate_left 1
          · (go_simp <;> (try go_bits) <;> with_reducible rfl)
          simp only [Act.put, List.setIfInBounds_toArray, List.set_cons_zero, List.set_cons_succ]
          refine wpAnyP_load (v := vval a.vote) 12 (by kernel_rfl) (at_toArray rfl) (by kernel_rfl) (by kernel_rfl) (by kernel_rfl) (fun _ _ _ h => h) (by first | assumption | rfl) (Or.inl ⟨by rfl, fun W hS => (by obtain ⟨s1, s2, s3⟩ := hS; exact load_vote HA.out.vote s2 rfl rfl)⟩) ?_
          simp only [Act.put, List.setIfInBounds_toArray, List.set_cons_zero, List.set_cons_succ]
          refine wpAnyP_pure (v := ?_) 13 (at_toArray rfl) (by kernel_rfl) (by kernel_rfl) (by kernel_rfl) (fun _ _ _ h => h) (Or.inl ⟨by rfl, fun W => ?_⟩) ?_
          rotate_left 1
          · (go_simp <;> (try go_bits) <;> with_reducible rfl)
          simp only [Act.put, List.setIfInBounds_toArray, List.set_cons_zero, List.set_cons_succ]
          refine wpAnyP_load (v := tval a.tag) 14 (by kernel_rfl) (at_toArray rfl) (by kernel_rfl) (by kernel_rfl) (by kernel_rfl) (fun _ _ _ h => h) (by first | assumption | rfl) (Or.inl ⟨by rfl, fun W hS => (by obtain ⟨s1, s2, s3⟩ := hS; exact load_tag HA.out.tag s3 rfl rfl)⟩) ?_
          simp only [Act.put, List.setIfInBounds_toArray, List.set_cons_zero, List.set_cons_succ]
          refine wpAnyP_one 7 (at_toArray rfl) (by kernel_rfl) rfl (fun K hK => ?_)
          go_wp2_with fail
          refine (add_any _ HBd.out (by have := HMK.out; omega) a.node a.vote a.tag HA.out.node HA.out.vote HA.out.tag).mono ?_
          rintro e w4 ⟨rfl, hb4, hf4⟩
          have HB4 := Lib.hid hb4
          have HR4 := Lib.hid (HRd.out.fr hf4 (fun i hi => by omega))
          have HBL4 := Lib.hid (Fr.below HBLd.out hf4 (fun k hk => by omega))
          have HA4 := Lib.hid (HAd.out.fr hf4 (by omega))
          have HAP := Lib.hid HBd.out.map.apart
          have HOK := Lib.hid HBd.out.ok
          clear hb4 hf4 HBd HRd HBLd HAd
          go_wp2_with fail
          refine hK.out _ _ (fun _ _ => act_all HA.out HA4.out) ?_
          clear hK hS
          refine wpAnyP_one 15 (at_toArray rfl) (by kernel_rfl) rfl (fun K hK => ?_)
          go_wp2_with fail
          refine (radd_any w4 HR4.out HIN.out HAP.out HOK.out hN64 (by have := HMK.out; omega) a.node a.vote a.tag HA.out.node HA.out.vote HA.out.tag).mono ?_
          rintro e w5 ⟨rfl, hr5, hf5⟩
          have hml := addP_len (N : Int) M a.node a.vote a.tag
          have hin := HIN.out.add a.node a.vote a.tag
          generalize addP (N : Int) M a.node a.vote a.tag = r at HB4 hr5 hml hin ⊢
          obtain ⟨r1, M2⟩ := r
          dsimp only at HB4 hr5 hml hin ⊢
          have HB5 := Lib.hid (HB4.out.fr hf5 (by omega) (by omega))
          have HR5 := Lib.hid hr5
          have HBL5 := Lib.hid (Fr.below HBL4.out hf5 (fun k hk => by omega))
          have HA5 := Lib.hid (HA4.out.fr hf5 (by omega))
          have hS5 := act_all HA.out HA5.out
          have HIN := Lib.hid hin
          have HML : Hid (M2.length ≤ k + 1) := Lib.hid (by have := HMK.out; omega)
          have HAP := Lib.hid HB5.out.map.apart
          have HOK := Lib.hid HB5.out.ok
          clear hr5 hf5 hml hin HB4 HR4 HBL4 HA4 HMK
          go_wp2_with fail
          refine hK.out _ _ (fun _ _ => hS5) ?_
          clear hK
          refine wpAnyP_pure (v := ?_) 16 (at_toArray rfl) (by kernel_rfl) (by kernel_rfl) (by kernel_rfl) (fun _ _ _ h => h) (Or.inl ⟨by rfl, fun W => ?_⟩) ?_
          rotate_left 1
          · (go_simp <;> (try go_bits) <;> with_reducible rfl)
          simp only [Act.put, List.setIfInBounds_toArray, List.set_cons_zero, List.set_cons_succ]
          refine wpAnyP_pure (v := ?_) 17 (at_toArray rfl) (by kernel_rfl) (by kernel_rfl) (by kernel_rfl) (fun _ _ _ h => h) (Or.inl ⟨by rfl, fun W => ?_⟩) ?_
          rotate_left 1
          · (go_simp <;> (try go_bits) <;> with_reducible rfl)
          simp only [Act.put, List.setIfInBounds_toArray, List.set_cons_zero, List.set_cons_succ]
          refine wpAnyP_pure (v := ?_) 18 (at_toArray rfl) (by kernel_rfl) (by kernel_rfl) (by kernel_rfl) (fun _ _ _ h => h) (Or.inl ⟨by rfl, fun W => ?_⟩) ?_
          rotate_left 1
          · (go_simp <;> (try go_bits) <;> with_reducible rfl)
          simp only [Act.put, List.setIfInBounds_toArray, List.set_cons_zero, List.set_cons_succ]
          refine wpAnyP_pure (v := ?_) 19 (at_toArray rfl) (by kernel_rfl) (by kernel_rfl) (by kernel_rfl) (fun _ _ _ h => h) (Or.inl ⟨by rfl, fun W => ?_⟩) ?_
          rotate_left 1
          · (go_simp <;> (try go_bits) <;> with_reducible rfl)
          simp only [Act.put, List.setIfInBounds_toArray, List.set_cons_zero, List.set_cons_succ]
          refine wpAnyP_load (v := vval a.vote) 20 (by kernel_rfl) (at_toArray rfl) (by kernel_rfl) (by kernel_rfl) (by kernel_rfl) (fun _ _ _ h => h) (by first | assumption | rfl) (Or.inl ⟨by rfl, fun W hS => (by obtain ⟨s1, s2, s3⟩ := hS; exact load_vote HA.out.vote s2 rfl rfl)⟩) ?_
          simp only [Act.put, List.setIfInBounds_toArray, List.set_cons_zero, List.set_cons_succ]
          refine wpAnyP_pure (v := ?_) 22 (at_toArray rfl) (by kernel_rfl) (by kernel_rfl) (by kernel_rfl) (fun _ _ _ h => h) (Or.inl ⟨by rfl, fun W => ?_⟩) ?_
          rotate_left 1
          · (go_simp <;> (try go_bits) <;> with_reducible rfl)
          simp only [Act.put, List.setIfInBounds_toArray, List.set_cons_zero, List.set_cons_succ]
          refine wpAnyP_pure (v := ?_) 23 (at_toArray rfl) (by kernel_rfl) (by kernel_rfl) (by kernel_rfl) (fun _ _ _ h => h) (Or.inl ⟨by rfl, fun W => ?_⟩) ?_
          rotate_left 1
          · (go_simp <;> (try go_bits) <;> with_reducible rfl)
          simp only [Act.put, List.setIfInBounds_toArray, List.set_cons_zero, List.set_cons_succ]
          refine wpAnyP_load (v := vval a.vote) 24 (by kernel_rfl) (at_toArray rfl) (by kernel_rfl) (by kernel_rfl) (by kernel_rfl) (fun _ _ _ h => h) (by first | assumption | rfl) (Or.inl ⟨by rfl, fun W hS => (by obtain ⟨s1, s2, s3⟩ := hS; exact load_vote HA.out.vote s2 rfl rfl)⟩) ?_
          simp only [Act.put, List.setIfInBounds_toArray, List.set_cons_zero, List.set_cons_succ]
          refine wpAnyP_oneG 21 (at_toArray rfl) (by kernel_rfl) (by rfl) (fun K hK => ?_)
          go_wp2_with fail
          refine (count_any w5 HB5.out a.vote HA.out.vote).mono ?_
          rintro e w6 ⟨rfl, hbl6⟩
          have HR6 := Lib.hid (HR5.out.below hbl6)
          have HA6 := Lib.hid (HA5.out.below hbl6)
          have B6 := Lib.hid hbl6
          have hS6 := act_all HA.out HA6.out
          clear hbl6
          go_wp2_with fail
          refine hK.out _ _ (fun _ _ => hS6) ?_
          clear hK hS5
          refine wpAnyP_oneG 25 (at_toArray rfl) (by kernel_rfl) (by rfl) (fun K hK => ?_)
          go_wp2_with fail
          refine (rcount_any w6 HR6.out HIN.out HAP.out HOK.out hN64 a.vote HA.out.vote).mono ?_
          rintro e w7 ⟨rfl, hbl7⟩
          have B7 := Lib.hid (B6.out.trans (Below.up hbl7 B6.out.size))
          have hS7 := act_all HA.out (HA5.out.below B7.out)
          clear hbl7
          go_wp2_with fail
          refine hK.out _ _ (fun _ _ => hS7) ?_
          clear hK hS6
          refine wpAnyP_pure (v := ?_) 26 (at_toArray rfl) (by kernel_rfl) (by kernel_rfl) (by kernel_rfl) (fun _ _ _ h => h) (Or.inl ⟨by rfl, fun W => ?_⟩) ?_
          rotate_left 1
          · (go_simp <;> (try go_bits) <;> with_reducible rfl)
          simp only [Act.put, List.setIfInBounds_toArray, List.set_cons_zero, List.set_cons_succ]
          refine wpAnyP_pure (v := ?_) 27 (at_toArray rfl) (by kernel_rfl) (by kernel_rfl) (by kernel_rfl) (fun _ _ _ h => h) (Or.inl ⟨by rfl, fun W => ?_⟩) ?_
          rotate_left 1
          · (go_simp <;> (try go_bits) <;> with_reducible rfl)
          simp only [Act.put, List.setIfInBounds_toArray, List.set_cons_zero, List.set_cons_succ]
          refine wpAnyP_done (by kernel_rfl) ?_ _
          have HB7 := Lib.hid (HB5.out.below B7.out)
          have HR7 := Lib.hid (HR5.out.below B7.out)
          have HA7 := Lib.hid (HA5.out.below B7.out)
          have HBL7 := Lib.hid (HBL5.out.trans (Below.up B7.out HBL5.out.size))
          have an7 := hS7.1
          have ak7 := act_kind (range_of_blk HA7.out)
          clear hS7 B6 B7 HB5 HR5 HA5 HBL5 HR6 HA6
          go_wp2_with fail
          refine (of_any w7 HB7.out a.vote.kind a.node HA.out.vote.kind HA.out.node).mono ?_
          rintro e w8 ⟨rfl, hbl8⟩
          have hxok := lookX_ok HOK.out (a.vote.kind, a.node)
          have hrof := fun W h => rof_any (rb := rb) W h HIN.out a.vote.kind a.node
          generalize lookX M2 (a.vote.kind, a.node) = X at hxok hrof ⊢
          generalize (lookM M2 (a.vote.kind, a.node)).isSome = bs at hrof ⊢
          have HX := Lib.hid hxok
          have HROF := Lib.hid hrof
          have B8 := Lib.hid hbl8
          have HA8 := Lib.hid (HA7.out.below hbl8)
          clear hxok hrof hbl8 an7 ak7
          go_wp2_with (first | ((with_reducible show wpList _ _ _ (⟨some 11, _, _, _, _, _⟩ :: _) _ _); refine wpList_alloc_big rfl 30 rfl (vcells zeroV).toArray 36 (by kernel_rfl) ?_; intro vb z1 HVB hb1 hbl1 HS1) | ((with_reducible show wpList _ _ _ (⟨some 12, _, _, _, _, _⟩ :: _) _ _); refine wpList_alloc_big rfl 32 rfl (bv zeroT).toArray 16 (by kernel_rfl) ?_; intro tb z2 HTB hb2 hbl2 HS2) | ((with_reducible show wpList _ _ _ (⟨none, .store 30 _ _, _, _, _, _⟩ :: _) _ _); refine wpList_store_big rfl 30 _ _ rfl _ rfl (vcells X.1) rfl _ _ (hb1.below hbl2) (sizeVote HX.out.vote) (by rw [vcells_len HX.out.vote]; rfl) (vcells_one _) ?_; intro z3 hb3 hf3 HS3) | ((with_reducible show wpList _ _ _ (⟨none, .store 32 _ _, _, _, _, _⟩ :: _) _ _); refine wpList_store_big rfl 32 _ _ rfl _ rfl (bv X.2) rfl _ _ (hb2.fr hf3 (by have := HVB.out; have := HTB.out; have := HS1.out; omega)) (sizeTag HX.out.tag) (by rw [bv_length, HX.out.tag]; rfl) (bv_one' _) ?_; intro z4 hb4 hf4 HS4; obtain ⟨q1, q2, q3⟩ := two_new HVB HTB HS1 hbl1 hbl2 hb3 hf3 hb4 hf4; have B9 := Lib.hid (B8.out.trans (Below.up q1 B8.out.size)); have HA9 := Lib.hid (HA8.out.below q1); have an9 := (act_all HA.out HA9.out).1; have ak9 := act_kind (range_of_blk HA9.out); have V9 := Lib.hid q2; have T9 := Lib.hid q3; clear q1 q2 q3 hb1 hbl1 hb2 hbl2 hb3 hf3 hb4 hf4 HVB HTB HS1 HS2 HS3 HS4))
          refine (HROF.out z4 (HR7.out.below B9.out)).mono ?_
          rintro e w10 ⟨rfl, hbl10⟩
          have B10 := Lib.hid (B9.out.trans (Below.up hbl10 B9.out.size))
          have HA10 := Lib.hid (HA9.out.below hbl10)
          have V10 := Lib.hid (V9.out.below hbl10)
          have T10 := Lib.hid (T9.out.below hbl10)
          clear hbl10 an9 ak9 HA9 HA8 V9 T9 B8 B9 HROF
          go_wp2_with (first | ((with_reducible show wpList _ _ _ (⟨some 14, _, _, _, _, _⟩ :: _) _ _); refine wpList_alloc_big rfl 30 rfl (vcells zeroV).toArray 36 (by kernel_rfl) ?_; intro vd y1 HVB hb1 hbl1 HS1) | ((with_reducible show wpList _ _ _ (⟨some 15, _, _, _, _, _⟩ :: _) _ _); refine wpList_alloc_big rfl 32 rfl (bv zeroT).toArray 16 (by kernel_rfl) ?_; intro td y2 HTB hb2 hbl2 HS2) | ((with_reducible show wpList _ _ _ (⟨none, .store 30 _ _, _, _, _, _⟩ :: _) _ _); refine wpList_store_big rfl 30 _ _ rfl _ rfl (vcells X.1) rfl _ _ (hb1.below hbl2) (sizeVote HX.out.vote) (by rw [vcells_len HX.out.vote]; rfl) (vcells_one _) ?_; intro y3 hb3 hf3 HS3) | ((with_reducible show wpList _ _ _ (⟨none, .store 32 _ _, _, _, _, _⟩ :: _) _ _); refine wpList_store_big rfl 32 _ _ rfl _ rfl (bv X.2) rfl _ _ (hb2.fr hf3 (by have := HVB.out; have := HTB.out; have := HS1.out; omega)) (sizeTag HX.out.tag) (by rw [bv_length, HX.out.tag]; rfl) (bv_one' _) ?_; intro y4 hb4 hf4 HS4; obtain ⟨q1, q2, q3⟩ := two_new HVB HTB HS1 hbl1 hbl2 hb3 hf3 hb4 hf4; have B11 := Lib.hid (B10.out.trans (Below.up q1 B10.out.size)); have HA11 := Lib.hid (HA10.out.below q1); have V11 := Lib.hid (V10.out.below q1); have T11 := Lib.hid (T10.out.below q1); have V12 := Lib.hid q2; have T12 := Lib.hid q3; clear q1 q2 q3 hb1 hbl1 hb2 hbl2 hb3 hf3 hb4 hf4 HVB HTB HS1 HS2 HS3 HS4) | ((with_reducible show wpList _ _ _ (⟨some 102, _, _, _, _, _⟩ :: _) _ _); refine wpList_val rfl (load_vote HA.out.vote (act_vote (range_of_blk HA11.out)) rfl rfl) ?_))
          clear B10 HA10 V10 T10
          refine (cert_any y4 (HB7.out.below B11.out) hN64 a.vote HA.out.vote need).mono ?_
          rintro e w12 ⟨A5, c5, rfl, hsr, hA5, hbl12⟩
          have hrc := fun W h => rcert_any (rb := rb) W h HIN.out HOK.out hN64 a.vote HA.out.vote need
          have hall := certL_all (M := M2) HOK.out hN64 a.vote need
          have huo : (certV M2 a.vote N need).ok := by unfold certV; split; exact HA.out.vote; exact zeroV_ok
          generalize certOk M2 a.vote N need = ok at hrc ⊢
          generalize certL M2 a.vote N need = L at hsr hA5 hall hrc ⊢
          generalize certV M2 a.vote N need = u at huo hrc ⊢
          obtain ⟨n5, hn5⟩ : ∃ n, n = L.length := ⟨_, rfl⟩
          rw [← hn5]
          have HN5 := Lib.hid hn5
          have HRC := Lib.hid hrc
          have HALL := Lib.hid hall
          have HU := Lib.hid huo
          have SR12 := Lib.hid hsr
          have B1112 := Lib.hid hbl12
          have B12 := Lib.hid (B11.out.trans (Below.up hbl12 B11.out.size))
          clear hn5 hrc hall huo hsr hA5 hbl12
          go_wp2_with (first | ((with_reducible show wpList _ _ _ (⟨some 17, _, _, _, _, _⟩ :: _) _ _); refine wpList_alloc_big rfl 39 rfl (ccells zeroV (.slice none 0 0)).toArray 37 (by kernel_rfl) ?_; intro cb x1 HCB hb1 hbl1 HS1) | ((with_reducible show wpList _ _ _ (⟨none, .store 39 _ _, _, _, _, _⟩ :: _) _ _); refine wpList_store_big rfl 39 _ _ rfl _ rfl (ccells u (.slice A5 n5 c5)) rfl _ _ hb1 (sizeCert HU.out _) (by rw [ccells_len HU.out]; rfl) (ccells_one _ rfl) ?_; intro x2 hb2 hf2 HS2; obtain ⟨q1, q2⟩ := one_new HCB hbl1 hb2 hf2; have B13 := Lib.hid (B12.out.trans (Below.up q1 B12.out.size)); have HA13 := Lib.hid ((HA11.out.below B1112.out).below q1); have SR13 := Lib.hid (SR12.out.below q1); have B1113 := Lib.hid (B1112.out.trans (Below.up q1 B1112.out.size)); have C13 := Lib.hid q2; clear q1 q2 hb1 hbl1 hb2 hf2 HCB HS1 HS2) | ((with_reducible show wpList _ _ _ (⟨some 110, _, _, _, _, _⟩ :: _) _ _); refine wpList_val rfl (load_vote HA.out.vote (act_vote (range_of_blk HA13.out)) rfl rfl) ?_))
          clear SR12 B1112 B12
          refine (HRC.out x2 (HR7.out.below B13.out)).mono ?_
          rintro e w14 ⟨A6, c6, rfl, hsr, hA6, hbl14⟩
          rw [← HN5.out]
          have SR14 := Lib.hid (SR13.out.below hbl14)
          have SS14 := Lib.hid hsr
          have C14 := Lib.hid (C13.out.below hbl14)
          have B1114 := Lib.hid (B1113.out.trans (Below.up hbl14 B1113.out.size))
          have B14 := Lib.hid (B13.out.trans (Below.up hbl14 B13.out.size))
          clear hsr hA6 hbl14 SR13 C13 B1113 B13 HA13 HA11 HRC
          go_wp2_with (first | ((with_reducible show wpList _ _ _ (⟨some 19, _, _, _, _, _⟩ :: _) _ _); refine wpList_alloc_big rfl 39 rfl (ccells zeroV (.slice none 0 0)).toArray 37 (by kernel_rfl) ?_; intro cd s1 HCB hb1 hbl1 HS1) | ((with_reducible show wpList _ _ _ (⟨none, .store 39 _ _, _, _, _, _⟩ :: _) _ _); refine wpList_store_big rfl 39 _ _ rfl _ rfl (ccells u (.slice A6 n5 c6)) rfl _ _ hb1 (sizeCert HU.out _) (by rw [ccells_len HU.out]; rfl) (ccells_one _ rfl) ?_; intro s2 hb2 hf2 HS2; obtain ⟨q1, q2⟩ := one_new HCB hbl1 hb2 hf2; have B15 := Lib.hid (B14.out.trans (Below.up q1 B14.out.size)); have V15 := Lib.hid (V11.out.below (B1114.out.trans (Below.up q1 B1114.out.size))); have T15 := Lib.hid (T11.out.below (B1114.out.trans (Below.up q1 B1114.out.size))); have V16 := Lib.hid (V12.out.below (B1114.out.trans (Below.up q1 B1114.out.size))); have T16 := Lib.hid (T12.out.below (B1114.out.trans (Below.up q1 B1114.out.size))); have SR15 := Lib.hid (SR14.out.below q1); have SS15 := Lib.hid (SS14.out.below q1); have C15 := Lib.hid (C14.out.below q1); have C16 := Lib.hid q2; clear q1 q2 hb1 hbl1 hb2 hf2 HCB HS1 HS2) | ((with_reducible show wpList _ _ _ (⟨some 115, _, _, _, _, _⟩ :: _) _ _); refine wpList_val rfl (load_vote HX.out.vote (range_of_blk V15.out) rfl rfl) ?_) | ((with_reducible show wpList _ _ _ (⟨some 116, _, _, _, _, _⟩ :: _) _ _); refine wpList_val rfl (load_vote HX.out.vote (range_of_blk V16.out) rfl rfl) ?_) | ((with_reducible show wpList _ _ _ (⟨some 117, _, _, _, _, _⟩ :: _) _ _); refine wpList_val rfl (vote_neqS _ HX.out.vote rfl rfl rfl) ?_) | ((with_reducible show wpList _ _ _ (⟨some 119, _, _, _, _, _⟩ :: _) _ _); refine wpList_valG rfl (load_tag HX.out.tag (range_of_blk T15.out) rfl rfl) ?_) | ((with_reducible show wpList _ _ _ (⟨some 120, _, _, _, _, _⟩ :: _) _ _); refine wpList_valG rfl (load_tag HX.out.tag (range_of_blk T16.out) rfl rfl) ?_) | ((with_reducible show wpList _ _ _ (⟨some 121, _, _, _, _, _⟩ :: _) _ _); refine wpList_valG rfl (tag_neqS _ HX.out.tag rfl rfl rfl) ?_) | ((with_reducible show wpList _ _ _ (⟨some 129, _, _, _, _, _⟩ :: _) _ _); refine wpList_valG rfl (load_cert HU.out (range_of_blk C15.out) rfl rfl) ?_) | ((with_reducible show wpList _ _ _ (⟨some 130, _, _, _, _, _⟩ :: _) _ _); refine wpList_valG rfl (load_cert HU.out (range_of_blk C16.out) rfl rfl) ?_))
          have hsc := same_cert s2 c5 c6 u HU.out SR15.out SS15.out HALL.out.ok HALL.out.num HALL.out.small
          rw [← HN5.out] at hsc
          refine hsc.mono ?_
          rintro e w16 ⟨rfl, hbl16⟩
          have B16 := Lib.hid (B15.out.trans (Below.up hbl16 B15.out.size))
          clear hsc hbl16 B15 V15 T15 V16 T16 SR15 SS15 C15 C16 SR14 SS14 C14 B1114 B14 V11 T11 V12 T12 B11 HN5 HALL HU HA7
          go_wp2_with fail
          go_loopw [21] (fun kv wz => ∃ kd : Int, 0 ≤ kd ∧ kd ≤ 4 ∧ kv = .int .i64 kd ∧ Hid (Below w7.heap.size w7 wz)) (fun kv _ => (4 - intOf kv).toNat)
          case atStart => exact ⟨0, by omega, by omega, rfl, B16⟩
          case round =>
            clear B16
            obtain ⟨kd, hk0, hk4, rfl, HW⟩ := hrel
            by_cases hk3 : kd ≤ 3
            · go_wp2_with fail
              refine (best_doc wr (HB7.out.below HW.out) HIN.out hN64 kd need).mono ?_
              rintro e w12 ⟨A5, c5, rfl, hsr, hA5, hbl12⟩
              have hrc := fun W h => rbest_any (rb := rb) W h HIN.out HOK.out hN64 kd need
              have hall := bestL_all (M := M2) HOK.out hN64 need (refF M2 kd need N N)
              have huo := refF_ok HOK.out kd need N N
              generalize bestL M2 N need (refF M2 kd need N N) = L at hsr hA5 hall hrc ⊢
              generalize refF M2 kd need N N = rr at huo hrc ⊢
              obtain ⟨ok, u⟩ := rr
              dsimp only at huo hrc ⊢
              obtain ⟨n5, hn5⟩ : ∃ n, n = L.length := ⟨_, rfl⟩
              rw [← hn5]
              have HN5 := Lib.hid hn5
              have HRC := Lib.hid hrc
              have HALL := Lib.hid hall
              have HU := Lib.hid huo
              have SR12 := Lib.hid hsr
              have B12 := Lib.hid (HW.out.trans (Below.up hbl12 HW.out.size))
              clear hn5 hrc hall huo hsr hA5 hbl12
              go_wp2_with (first | ((with_reducible show wpList _ _ _ (⟨some 22, _, _, _, _, _⟩ :: _) _ _); refine wpList_alloc_big rfl 39 rfl (ccells zeroV (.slice none 0 0)).toArray 37 (by kernel_rfl) ?_; intro cb x1 HCB hb1 hbl1 HS1) | ((with_reducible show wpList _ _ _ (⟨none, .store 39 _ _, _, _, _, _⟩ :: _) _ _); refine wpList_store_big rfl 39 _ _ rfl _ rfl (ccells u (.slice A5 n5 c5)) rfl _ _ hb1 (sizeCert HU.out _) (by rw [ccells_len HU.out]; rfl) (ccells_one _ rfl) ?_; intro x2 hb2 hf2 HS2; obtain ⟨q1, q2⟩ := one_new HCB hbl1 hb2 hf2; have B13 := Lib.hid (B12.out.trans (Below.up q1 B12.out.size)); have SR13 := Lib.hid (SR12.out.below q1); have C13 := Lib.hid q2; clear q1 q2 hb1 hbl1 hb2 hf2 HCB HS1 HS2))
              clear SR12 B12
              refine (HRC.out x2 (HR7.out.below B13.out)).mono ?_
              rintro e w14 ⟨A6, c6, rfl, hsr, hA6, hbl14⟩
              rw [← HN5.out]
              have SR14 := Lib.hid (SR13.out.below hbl14)
              have SS14 := Lib.hid hsr
              have C14 := Lib.hid (C13.out.below hbl14)
              have B14 := Lib.hid (B13.out.trans (Below.up hbl14 B13.out.size))
              clear hsr hA6 hbl14 SR13 C13 B13 HRC
              go_wp2_with (first | ((with_reducible show wpList _ _ _ (⟨some 24, _, _, _, _, _⟩ :: _) _ _); refine wpList_alloc_big rfl 39 rfl (ccells zeroV (.slice none 0 0)).toArray 37 (by kernel_rfl) ?_; intro cd s1 HCB hb1 hbl1 HS1) | ((with_reducible show wpList _ _ _ (⟨none, .store 39 _ _, _, _, _, _⟩ :: _) _ _); refine wpList_store_big rfl 39 _ _ rfl _ rfl (ccells u (.slice A6 n5 c6)) rfl _ _ hb1 (sizeCert HU.out _) (by rw [ccells_len HU.out]; rfl) (ccells_one _ rfl) ?_; intro s2 hb2 hf2 HS2; obtain ⟨q1, q2⟩ := one_new HCB hbl1 hb2 hf2; have B15 := Lib.hid (B14.out.trans (Below.up q1 B14.out.size)); have SR15 := Lib.hid (SR14.out.below q1); have SS15 := Lib.hid (SS14.out.below q1); have C15 := Lib.hid (C14.out.below q1); have C16 := Lib.hid q2; clear q1 q2 hb1 hbl1 hb2 hf2 HCB HS1 HS2) | ((with_reducible show wpList _ _ _ (⟨some 157, _, _, _, _, _⟩ :: _) _ _); refine wpList_val rfl (load_cert HU.out (range_of_blk C15.out) rfl rfl) ?_) | ((with_reducible show wpList _ _ _ (⟨some 158, _, _, _, _, _⟩ :: _) _ _); refine wpList_val rfl (load_cert HU.out (range_of_blk C16.out) rfl rfl) ?_))
              have hsc := same_cert s2 c5 c6 u HU.out SR15.out SS15.out HALL.out.ok HALL.out.num HALL.out.small
              rw [← HN5.out] at hsc
              refine hsc.mono ?_
              rintro e w16 ⟨rfl, hbl16⟩
              have B16 := Lib.hid (B15.out.trans (Below.up hbl16 B15.out.size))
              clear hsc hbl16 B15 SR15 SS15 C15 C16 SR14 SS14 C14 B14 HN5 HALL HU HW
              go_wp2_with fail
              try go_frame
              go_roundw
              case rel => exact ⟨kd + 1, by omega, by omega, by go_num, B16⟩
              case measure => simp [intOf]; omega
            · have HX : Hid (∃ M : List (Ent One), M.length ≤ k + 1 ∧ Inv N M ∧ BookR wr bb mb (N : Int) M ∧ RefB wr rb (N : Int) (ones M)) := Lib.hid ⟨M2, HML.out, HIN.out, HB7.out.below HW.out, HR7.out.below HW.out⟩
              have HXL := Lib.hid (HBL7.out.trans (Below.up HW.out HBL7.out.size))
              go_wp2_with fail
              try go_frame
              go_roundw
              case rel => exact ⟨k + 1, by omega, by go_num, HX, HXL⟩
              case measure => simp [intOf]; omega
        · have l1 : ¬ (k : Int) < (m : Int) := by omega
          go_wp2_with fail
          refine (lives_ok wr).mono ?_
          rintro e w3 ⟨rfl, hbl2⟩
          go_wp2_with fail
          go_ret
          exact ⟨rfl, HBL.out.trans (Below.up hbl2 HBL.out.size)⟩
  · have hg : goodN nodes = false := by simpa using hg
    have HG := Lib.hid hg
    clear hg
    go_enter Try.func5, Try.ntmps5
    go_wp2_with fail
    refine (vnew_no nodes w HG.out).mono ?_
    rintro e w1 ⟨rfl, rfl⟩
    go_wp2_with fail
    refine (rbnew_no nodes w HG.out).mono ?_
    rintro e w1 ⟨rfl, rfl⟩
    go_wp2_with fail
    refine (lives_ok w).mono ?_
    rintro e w3 ⟨rfl, hbl2⟩
    go_wp2_with fail
    go_ret
    exact ⟨rfl, hbl2⟩

end Go.Proofs.Ytpbcpocheblbfaa
