/- Parts: The document's first frame: walk. .. A phased region: another condition put in the place of the first. -/
import Derived.Test.YtdhafdejionefaaGreatM07
import Derived.Test.YtdhafdejionefaaGreatM01
/- The document's first frame: walk. -/
namespace Go.Proofs.YtdhafdejionefaaGreat
set_option linter.unusedVariables false
set_option linter.unusedSimpArgs false
open Go.RowKit

def FirstPost (w : World) (r : Option (UInt8 × List UInt8 × Nat)) (e : Ending) (w' : World) : Prop :=
  Below w.heap.size w w' ∧ match r with
  | none => e = .returned (.tuple #[.int .u8 0, .slice none 0 0, .int .i64 0])
  | some (k, T, n) => ∃ v, e = .returned (.tuple #[.int .u8 (k.toNat : Int), v, .int .i64 (n : Int)]) ∧ CB w.heap.size (fun _ => False) w' v T
theorem FirstPost.no {w w' : World} {r : Option (UInt8 × List UInt8 × Nat)} {e : Ending} (h : r = none) (he : e = .returned (.tuple #[.int .u8 0, .slice none 0 0, .int .i64 0])) (hb : Below w.heap.size w w') : FirstPost w r e w' := by
  subst h; exact ⟨hb, he⟩
theorem rrdr_n (B : Nat) (A : Option Addr) (c n : Nat) (xs : List UInt8) (w : World) (hn : n = xs.length) (hB : B ≤ w.heap.size) (hr : RB w A xs) (hl : xs.length ≤ 140737488355328) :
    Calls Tryz.prog 89 #[.slice A n c] w fun e w' => ∃ pb, e = .returned (.pointer (some ⟨pb, 0, none⟩)) ∧ B ≤ pb ∧ RRd w' pb xs 0 0 ∧ Below B w w' := by
  subst hn; exact rrdr_any B A c xs w hB hr hl
theorem firstP_short {b : List UInt8} (h : b.length < 4) : firstP b = none := by
  match b with
  | [] => rfl
  | [_] => rfl
  | [_, _] => rfl
  | [_, _, _] => rfl
  | _ :: _ :: _ :: _ :: _ => simp at h; omega
set_option maxRecDepth 100000 in
set_option maxHeartbeats 4000000 in
theorem rfirst_any (A : Option Addr) (c : Nat) (b : List UInt8) (w : World) (hr : RB w A b) (hc : b.length ≤ c) (hl : b.length ≤ 1100000000) :
    Calls Tryz.prog 88 #[.slice A b.length c] w (FirstPost w (firstP b)) := by
  by_cases hlt : b.length < 4
  · rw [firstP_short hlt]
    obtain ⟨L, hL⟩ : ∃ L, L = b.length := ⟨_, rfl⟩
    rw [← hL] at hlt hl hc ⊢
    clear hL hr
    go_enter Tryz.func88, Tryz.ntmps88
    go_wp2_with fail
    go_ret3
    exact .no rfl rfl (Below.refl _ _)
  match b with
  | [] => exact absurd (by simp) hlt
  | [_] => exact absurd (by simp) hlt
  | [_, _] => exact absurd (by simp) hlt
  | [_, _, _] => exact absurd (by simp) hlt
  | x0 :: x1 :: x2 :: k :: b4 =>
    obtain ⟨R, hR⟩ : ∃ R, R = firstP (x0 :: x1 :: x2 :: k :: b4) := ⟨_, rfl⟩
    rw [← hR]
    rw [firstP_ref] at hR
    obtain ⟨bb, off, rfl, hbb, hcl⟩ := hr.2 (by simp)
    have hk3 : w.cell? ⟨bb, off + 3, none⟩ = some (.int .u8 (k.toNat : Int)) := hcl 3 (by simp)
    have hr4 : RB w (some ⟨bb, off + 4, none⟩) b4 := hr.drop 4
    obtain ⟨n, hn⟩ : ∃ n, n = b4.length := ⟨_, rfl⟩
    have hlen : (x0 :: x1 :: x2 :: k :: b4).length = n + 4 := by simp [hn]
    rw [hlen] at hc hl ⊢
    obtain ⟨q, hq⟩ : ∃ q, q = k.toNat := ⟨_, rfl⟩
    have hq256 : q < 256 := by rw [hq]; exact k.toNat_lt
    rw [← hq] at hk3
    have HQ := Lib.hid hq
    have HN := Lib.hid hn
    have HR := Lib.hid hR
    have HRB := Lib.hid hr
    have HR4 := Lib.hid hr4
    clear hq hn hR hr hr4 hcl hlen hlt
    by_cases h0 : n = 0
    · obtain rfl : b4 = [] := List.eq_nil_of_length_eq_zero (by rw [← HN.out]; exact h0)
      subst h0
      have hRn : R = none := by rw [HR.out, if_pos (.inl (by decide))]
      subst hRn
      go_enter Tryz.func88, Tryz.ntmps88
      by_cases hc4 : c = 4
      all_goals (try subst hc4)
      all_goals go_wp2_with fail
      all_goals (
        refine (rrdr_n w.heap.size _ _ 0 [] w rfl (Nat.le_refl _) (RB.nil _ _) (by simp)).mono ?_
        rintro e w1 ⟨pb, rfl, hpb, hrd, hb1⟩
        have HB1 := Lib.hid hb1
        have HW1 : w.heap.size ≤ w1.heap.size := hb1.size
        clear hb1)
      all_goals go_wp2_with fail
      all_goals (
        refine (rtext_any pb 4194304 [] w1 hrd (by simp)).mono ?_
        rw [show textR 4194304 [] = ([], [], 10) from rfl]
        rintro e w2 ⟨rfl, hd⟩
        have HB2 := Lib.hid (HB1.out.trans (rd_below hd.2 hpb HW1))
        obtain ⟨⟨A5, c5, h5⟩, _⟩ := hd
        have hE : w2.cell? ⟨pb, 2, none⟩ = some (.int .i64 10) := h5.blk.cell 2
        clear h5 hrd)
      all_goals go_wp2_with fail
      all_goals go_ret3
      all_goals exact .no rfl rfl HB2.out
    · have hc4 : ¬ c = 4 := by omega
      go_enter Tryz.func88, Tryz.ntmps88
      go_wp2_with fail
      refine (rrdr_n w.heap.size _ _ n b4 w HN.out (Nat.le_refl _) HR4.out (by rw [← HN.out]; omega)).mono ?_
      rintro e w1 ⟨pb, rfl, hpb, hrd, hb1⟩
      have HB1 := Lib.hid hb1
      have HW1 : w.heap.size ≤ w1.heap.size := hb1.size
      clear hb1
      go_wp2_with fail
      refine (rtext_any pb 4194304 b4 w1 hrd (by rw [← HN.out]; omega)).mono ?_
      rintro e w2 ⟨rfl, hd⟩
      have HB2 := Lib.hid (HB1.out.trans (rd_below hd.2 hpb HW1))
      obtain ⟨⟨A5, c5, h5⟩, _⟩ := hd
      have hE : w2.cell? ⟨pb, 2, none⟩ = some (.int .i64 (textR 4194304 b4).2.2) := h5.blk.cell 2
      have hP : w2.cell? ⟨pb, 1, none⟩ = some (.int .i64 (placeT 4194304 b4 : Int)) := h5.blk.cell 1
      have hR := HR.out
      have hp := placeT_le 4194304 b4
      rw [← HN.out] at hp
      obtain ⟨p, hpp⟩ : ∃ p, p = placeT 4194304 b4 := ⟨_, rfl⟩
      have hTl : (textR 4194304 b4).1.length ≤ 4194304 := by
        unfold textR
        split
        · simp
        · split
          · simp
          · split
            · simp
            · rename_i _ h _; simp only [List.length_take]; omega
      obtain ⟨T, hT⟩ : ∃ T, T = (textR 4194304 b4).1 := ⟨_, rfl⟩
      obtain ⟨E, hEE⟩ : ∃ E, E = (textR 4194304 b4).2.2 := ⟨_, rfl⟩
      rw [← hpp] at hP hR hp
      rw [← hT] at hR hTl ⊢
      rw [← hEE] at hE hR
      have HTL := Lib.hid hTl
      clear hpp hT hEE h5 hrd HR hTl
      have HW2 : w.heap.size ≤ w2.heap.size := HB2.out.size
      by_cases he : E = 0
      · subst he
        by_cases hk : q ≠ 68 ∧ q ≠ 71
        · have hkk : k ≠ 68 ∧ k ≠ 71 := ⟨fun e => hk.1 (by rw [HQ.out, e]; rfl), fun e => hk.2 (by rw [HQ.out, e]; rfl)⟩
          have hRn : R = none := by rw [hR, if_pos (.inr hkk)]
          subst hRn
          have hk1 : ((q : Int) != 68) = true := by have := hk.1; simp; omega
          have hk2 : ((q : Int) != 71) = true := by have := hk.2; simp; omega
          clear hk hkk hR
          go_wp2_with fail
          go_ret3
          exact .no rfl rfl HB2.out
        · have hkk : ¬ (k ≠ 68 ∧ k ≠ 71) := fun h => hk ⟨fun e => h.1 (UInt8.toNat_inj.1 (by rw [← HQ.out, e]; rfl)), fun e => h.2 (UInt8.toNat_inj.1 (by rw [← HQ.out, e]; rfl))⟩
          rw [if_neg (fun h => h.elim (fun h => h rfl) hkk)] at hR
          have HR := Lib.hid hR
          clear hR hkk
          have hq2 : q = 68 ∨ q = 71 := by omega
          have hc4p : 4 + p ≤ c := by omega
          have hcb : ∀ W, Below w2.heap.size w2 W → (convert 35 9 (.slice (some ⟨bb, off, none⟩) (4 + p) c)).run Tryz.prog W = .ok (.string (strB ((x0 :: x1 :: x2 :: k :: b4).take (4 + p)))) W := fun W hW =>
            run_str (((HRB.out.below HB2.out).below hW).take (4 + p)) (4 + p) c (by rw [List.length_take]; simp; rw [← HN.out]; omega)
          obtain ⟨sf, hsf⟩ : ∃ sf, sf = strB (frameB k T) := ⟨_, rfl⟩
          obtain ⟨sb, hsb⟩ : ∃ sb, sb = strB ((x0 :: x1 :: x2 :: k :: b4).take (4 + p)) := ⟨_, rfl⟩
          rw [← hsb] at hcb
          have HCB := Lib.hid hcb
          have HSF := Lib.hid hsf
          clear hcb
          by_cases hfr : frameB k T = (x0 :: x1 :: x2 :: k :: b4).take (4 + p)
          · obtain rfl : sf = sb := by rw [hsf, hsb, hfr]
            have HFR := Lib.hid hfr
            clear hfr hsf hsb
            rcases hq2 with rfl | rfl
            · have hRs : R = some (k, T, 4 + p) := by
                rw [HR.out, if_neg (by simp [HFR.out]), if_neg (by rintro ⟨h, _⟩; have := HQ.out; rw [h] at this; exact absurd this (by decide))]
              have HRS := Lib.hid hRs
              clear hRs
              go_wp2_with fail
              refine wp_region_phased (fun W => Below w2.heap.size w2 W) 10 (by kernel_rfl) (Below.refl _ _).drew (fun hS => ?_)
              refine wpAnyP_pure (v := ?_) 0 (at_toArray rfl) (by kernel_rfl) (by kernel_rfl) (by kernel_rfl) (fun _ _ _ h => h) (Or.inl ⟨by rfl, fun W => ?_⟩) ?_
              rotate_left 1
              · (go_simp <;> (try go_bits) <;> with_reducible rfl)
              simp only [Act.put, List.setIfInBounds_toArray, List.set_cons_zero, List.set_cons_succ]
              refine wpAnyP_pure (v := ?_) 1 (at_toArray rfl) (by kernel_rfl) (by kernel_rfl) (by kernel_rfl) (fun _ _ _ h => h) (Or.inl ⟨by rfl, fun W => ?_⟩) ?_
              rotate_left 1
              · (go_simp <;> (try go_bits) <;> with_reducible rfl)
              simp only [Act.put, List.setIfInBounds_toArray, List.set_cons_zero, List.set_cons_succ]
              refine wpAnyP_pure (v := ?_) 5 (at_toArray rfl) (by kernel_rfl) (by kernel_rfl) (by kernel_rfl) (fun _ _ _ h => h) (Or.inl ⟨by rfl, fun W => ?_⟩) ?_
              rotate_left 1
              · (go_simp <;> (try go_bits) <;> with_reducible rfl)
              simp only [Act.put, List.setIfInBounds_toArray, List.set_cons_zero, List.set_cons_succ]
              refine wpAnyP_pure (v := ?_) 6 (at_toArray rfl) (by kernel_rfl) (by kernel_rfl) (by kernel_rfl) (fun _ _ _ h => h) (Or.inl ⟨by rfl, fun W => ?_⟩) ?_
              rotate_left 1
              · (go_simp <;> (try go_bits) <;> with_reducible rfl)
              simp only [Act.put, List.setIfInBounds_toArray, List.set_cons_zero, List.set_cons_succ]
              refine wpAnyP_pure (v := ?_) 7 (at_toArray rfl) (by kernel_rfl) (by kernel_rfl) (by kernel_rfl) (fun _ _ _ h => h) (Or.inl ⟨by rfl, fun W => ?_⟩) ?_
              rotate_left 1
              · (go_simp <;> (try go_bits) <;> ((rw [if_pos (show (0 : Int) ≤ 4 + (p : Int) ∧ 4 + (p : Int) ≤ (c : Int) from ⟨by omega, by omega⟩)])) <;> with_reducible rfl)
              simp only [Act.put, List.setIfInBounds_toArray, List.set_cons_zero, List.set_cons_succ]
              refine wpAnyP_load (v := ?_) 8 (by kernel_rfl) (at_toArray rfl) (by kernel_rfl) (by kernel_rfl) (by kernel_rfl) (fun _ _ _ h => h) (by first | assumption | rfl) (Or.inl ⟨by rfl, fun W hS => ?_⟩) ?_
              rotate_left 1
              · (have hc := HCB.out W hS; go_simp <;> (try go_bits) <;> with_reducible rfl)
              simp only [Act.put, List.setIfInBounds_toArray, List.set_cons_zero, List.set_cons_succ]
              obtain ⟨w3, c3, hcv, hrT, hcT, hb3⟩ := conv_bytes w2.drew T (by have := HTL.out; omega)
              have HRT := Lib.hid hrT
              have HB3 := Lib.hid ((Below.refl w2.heap.size w2).drew.trans hb3)
              have hs3 : w2.heap.size ≤ w3.heap.size := HB3.out.size
              clear hrT hb3 hcT
              refine wpAnyP_one 2 (at_toArray rfl) (by kernel_rfl) rfl (fun K hK => ?_)
              go_wp2_with fail
              refine hK.out _ _ (fun _ _ => HB3.out) ?_
              clear hK hcv
              refine wpAnyP_one 3 (at_toArray rfl) (by kernel_rfl) rfl (fun K hK => ?_)
              go_wp2_with fail
              have hfrm : Calls Tryz.prog 60 #[.int .u8 68, .slice (some ⟨w2.heap.size, 0, none⟩) T.length c3] w3 fun e w' => ∃ v, e = .returned v ∧ OBB w2.heap.size w' v (frameB k T) ∧ Below w2.heap.size w3 w' := by
                have := rframe_any w2.heap.size k (some ⟨w2.heap.size, 0, none⟩) c3 T w3 hs3 HRT.out (by have := HTL.out; omega)
                rw [← HQ.out] at this
                exact this
              refine hfrm.mono ?_
              clear hfrm
              rintro e w4 ⟨v, rfl, hv, hb4⟩
              have HB4 := Lib.hid (HB3.out.trans hb4)
              have hfl : (frameB k T).length ≤ 140737488355328 := by
                have := frameB_len k T
                have := nbytes_small (n := T.length) (by have := HTL.out; omega)
                have := HTL.out
                omega
              obtain ⟨A6, c6, rfl, hr6, _⟩ := hv.reads' hfl
              have hcv4 := run_str hr6 _ c6 rfl
              rw [← HSF.out] at hcv4
              clear hv hb4 hr6 hfl HRT
              go_wp2_with fail
              refine hK.out _ _ (fun _ _ => HB4.out) ?_
              clear hK
              refine wpAnyP_one 4 (at_toArray rfl) (by kernel_rfl) rfl (fun K hK => ?_)
              go_wp2_with fail
              refine hK.out _ _ (fun _ _ => HB4.out) ?_
              clear hK hcv4
              refine wpAnyP_pure (v := ?_) 9 (at_toArray rfl) (by kernel_rfl) (by kernel_rfl) (by kernel_rfl) (fun _ _ _ h => h) (Or.inl ⟨by rfl, fun W => ?_⟩) ?_
              rotate_left 1
              · (go_simp <;> (try go_bits) <;> with_reducible rfl)
              simp only [Act.put, List.setIfInBounds_toArray, List.set_cons_zero, List.set_cons_succ]
              refine wpAnyP_done (by kernel_rfl) ?_ _
              have HB4 := Lib.hid (HB2.out.trans (Below.up HB4.out HW2))
              have hs4 : w.heap.size ≤ w4.heap.size := HB4.out.size
              have HBW := HB4
              have HSW := hs4
              obtain ⟨w7, c7, hcv7, hrT7, hcT7, hb7⟩ := conv_bytes w4 T (by have := HTL.out; omega)
              have HR7 := Lib.hid hrT7
              have HC7 := Lib.hid hcT7
              have HB7 := Lib.hid (HBW.out.trans (Below.up hb7 HSW))
              clear hrT7 hcT7 hb7
              go_wp2_with fail
              go_ret3
              rw [HRS.out]
              exact ⟨HB7.out, _, by rw [← HQ.out]; rfl, _, _, rfl, HC7.out, HR7.out, fun a ha _ => by cases ha; exact ⟨HSW, fun h => h⟩⟩
            · by_cases hno : numberP T = 0
              · have hRs : R = none := by
                  rw [HR.out, if_neg (by simp [HFR.out]), if_pos ⟨UInt8.toNat_inj.1 (by rw [← HQ.out]; rfl), hno⟩]
                have HRS := Lib.hid hRs
                have HNO := Lib.hid hno
                clear hRs hno
                go_wp2_with fail
                refine wp_region_phased (fun W => Below w2.heap.size w2 W) 10 (by kernel_rfl) (Below.refl _ _).drew (fun hS => ?_)
                refine wpAnyP_pure (v := ?_) 0 (at_toArray rfl) (by kernel_rfl) (by kernel_rfl) (by kernel_rfl) (fun _ _ _ h => h) (Or.inl ⟨by rfl, fun W => ?_⟩) ?_
                rotate_left 1
                · (go_simp <;> (try go_bits) <;> with_reducible rfl)
                simp only [Act.put, List.setIfInBounds_toArray, List.set_cons_zero, List.set_cons_succ]
                refine wpAnyP_pure (v := ?_) 1 (at_toArray rfl) (by kernel_rfl) (by kernel_rfl) (by kernel_rfl) (fun _ _ _ h => h) (Or.inl ⟨by rfl, fun W => ?_⟩) ?_
                rotate_left 1
                · (go_simp <;> (try go_bits) <;> with_reducible rfl)
                simp only [Act.put, List.setIfInBounds_toArray, List.set_cons_zero, List.set_cons_succ]
                refine wpAnyP_pure (v := ?_) 5 (at_toArray rfl) (by kernel_rfl) (by kernel_rfl) (by kernel_rfl) (fun _ _ _ h => h) (Or.inl ⟨by rfl, fun W => ?_⟩) ?_
                rotate_left 1
                · (go_simp <;> (try go_bits) <;> with_reducible rfl)
                simp only [Act.put, List.setIfInBounds_toArray, List.set_cons_zero, List.set_cons_succ]
                refine wpAnyP_pure (v := ?_) 6 (at_toArray rfl) (by kernel_rfl) (by kernel_rfl) (by kernel_rfl) (fun _ _ _ h => h) (Or.inl ⟨by rfl, fun W => ?_⟩) ?_
                rotate_left 1
                · (go_simp <;> (try go_bits) <;> with_reducible rfl)
                simp only [Act.put, List.setIfInBounds_toArray, List.set_cons_zero, List.set_cons_succ]
                refine wpAnyP_pure (v := ?_) 7 (at_toArray rfl) (by kernel_rfl) (by kernel_rfl) (by kernel_rfl) (fun _ _ _ h => h) (Or.inl ⟨by rfl, fun W => ?_⟩) ?_
                rotate_left 1
                · (go_simp <;> (try go_bits) <;> ((rw [if_pos (show (0 : Int) ≤ 4 + (p : Int) ∧ 4 + (p : Int) ≤ (c : Int) from ⟨by omega, by omega⟩)])) <;> with_reducible rfl)
                simp only [Act.put, List.setIfInBounds_toArray, List.set_cons_zero, List.set_cons_succ]
                refine wpAnyP_load (v := ?_) 8 (by kernel_rfl) (at_toArray rfl) (by kernel_rfl) (by kernel_rfl) (by kernel_rfl) (fun _ _ _ h => h) (by first | assumption | rfl) (Or.inl ⟨by rfl, fun W hS => ?_⟩) ?_
                rotate_left 1
                · (have hc := HCB.out W hS; go_simp <;> (try go_bits) <;> with_reducible rfl)
                simp only [Act.put, List.setIfInBounds_toArray, List.set_cons_zero, List.set_cons_succ]
                obtain ⟨w3, c3, hcv, hrT, hcT, hb3⟩ := conv_bytes w2.drew T (by have := HTL.out; omega)
                have HRT := Lib.hid hrT
                have HB3 := Lib.hid ((Below.refl w2.heap.size w2).drew.trans hb3)
                have hs3 : w2.heap.size ≤ w3.heap.size := HB3.out.size
                clear hrT hb3 hcT
                refine wpAnyP_one 2 (at_toArray rfl) (by kernel_rfl) rfl (fun K hK => ?_)
                go_wp2_with fail
                refine hK.out _ _ (fun _ _ => HB3.out) ?_
                clear hK hcv
                refine wpAnyP_one 3 (at_toArray rfl) (by kernel_rfl) rfl (fun K hK => ?_)
                go_wp2_with fail
                have hfrm : Calls Tryz.prog 60 #[.int .u8 71, .slice (some ⟨w2.heap.size, 0, none⟩) T.length c3] w3 fun e w' => ∃ v, e = .returned v ∧ OBB w2.heap.size w' v (frameB k T) ∧ Below w2.heap.size w3 w' := by
                  have := rframe_any w2.heap.size k (some ⟨w2.heap.size, 0, none⟩) c3 T w3 hs3 HRT.out (by have := HTL.out; omega)
                  rw [← HQ.out] at this
                  exact this
                refine hfrm.mono ?_
                clear hfrm
                rintro e w4 ⟨v, rfl, hv, hb4⟩
                have HB4 := Lib.hid (HB3.out.trans hb4)
                have hfl : (frameB k T).length ≤ 140737488355328 := by
                  have := frameB_len k T
                  have := nbytes_small (n := T.length) (by have := HTL.out; omega)
                  have := HTL.out
                  omega
                obtain ⟨A6, c6, rfl, hr6, _⟩ := hv.reads' hfl
                have hcv4 := run_str hr6 _ c6 rfl
                rw [← HSF.out] at hcv4
                clear hv hb4 hr6 hfl HRT
                go_wp2_with fail
                refine hK.out _ _ (fun _ _ => HB4.out) ?_
                clear hK
                refine wpAnyP_one 4 (at_toArray rfl) (by kernel_rfl) rfl (fun K hK => ?_)
                go_wp2_with fail
                refine hK.out _ _ (fun _ _ => HB4.out) ?_
                clear hK hcv4
                refine wpAnyP_pure (v := ?_) 9 (at_toArray rfl) (by kernel_rfl) (by kernel_rfl) (by kernel_rfl) (fun _ _ _ h => h) (Or.inl ⟨by rfl, fun W => ?_⟩) ?_
                rotate_left 1
                · (go_simp <;> (try go_bits) <;> with_reducible rfl)
                simp only [Act.put, List.setIfInBounds_toArray, List.set_cons_zero, List.set_cons_succ]
                refine wpAnyP_done (by kernel_rfl) ?_ _
                have HB4 := Lib.hid (HB2.out.trans (Below.up HB4.out HW2))
                have hs4 : w.heap.size ≤ w4.heap.size := HB4.out.size
                obtain ⟨w7, c7, hcv7, hrT7, hcT7, hb7⟩ := conv_bytes w4 T (by have := HTL.out; omega)
                have HR7 := Lib.hid hrT7
                have HB7 := Lib.hid (HB4.out.trans (Below.up hb7 hs4))
                have hs7 : w.heap.size ≤ w7.heap.size := HB7.out.size
                clear hrT7 hcT7 hb7
                go_wp2_with fail
                refine (rturn_any w.heap.size (some ⟨w4.heap.size, 0, none⟩) c7 T w7 hs7 HR7.out (by have := HTL.out; omega)).mono ?_
                rw [HNO.out]
                clear hcv7
                rintro e w8 ⟨rfl, hb8⟩
                have HB8 := Lib.hid (HB7.out.trans hb8)
                clear hb8
                go_wp2_with fail
                go_ret3
                exact .no HRS.out rfl HB8.out
              · have hRs : R = some (k, T, 4 + p) := by
                  rw [HR.out, if_neg (by simp [HFR.out]), if_neg (fun h => hno h.2)]
                have HRS := Lib.hid hRs
                have HNO := Lib.hid hno
                clear hRs hno
                go_wp2_with fail
                refine wp_region_phased (fun W => Below w2.heap.size w2 W) 10 (by kernel_rfl) (Below.refl _ _).drew (fun hS => ?_)
                refine wpAnyP_pure (v := ?_) 0 (at_toArray rfl) (by kernel_rfl) (by kernel_rfl) (by kernel_rfl) (fun _ _ _ h => h) (Or.inl ⟨by rfl, fun W => ?_⟩) ?_
                rotate_left 1
                · (go_simp <;> (try go_bits) <;> with_reducible rfl)
                simp only [Act.put, List.setIfInBounds_toArray, List.set_cons_zero, List.set_cons_succ]
                refine wpAnyP_pure (v := ?_) 1 (at_toArray rfl) (by kernel_rfl) (by kernel_rfl) (by kernel_rfl) (fun _ _ _ h => h) (Or.inl ⟨by rfl, fun W => ?_⟩) ?_
                rotate_left 1
                · (go_simp <;> (try go_bits) <;> with_reducible rfl)
                simp only [Act.put, List.setIfInBounds_toArray, List.set_cons_zero, List.set_cons_succ]
                refine wpAnyP_pure (v := ?_) 5 (at_toArray rfl) (by kernel_rfl) (by kernel_rfl) (by kernel_rfl) (fun _ _ _ h => h) (Or.inl ⟨by rfl, fun W => ?_⟩) ?_
                rotate_left 1
                · (go_simp <;> (try go_bits) <;> with_reducible rfl)
                simp only [Act.put, List.setIfInBounds_toArray, List.set_cons_zero, List.set_cons_succ]
                refine wpAnyP_pure (v := ?_) 6 (at_toArray rfl) (by kernel_rfl) (by kernel_rfl) (by kernel_rfl) (fun _ _ _ h => h) (Or.inl ⟨by rfl, fun W => ?_⟩) ?_
                rotate_left 1
                · (go_simp <;> (try go_bits) <;> with_reducible rfl)
                simp only [Act.put, List.setIfInBounds_toArray, List.set_cons_zero, List.set_cons_succ]
                refine wpAnyP_pure (v := ?_) 7 (at_toArray rfl) (by kernel_rfl) (by kernel_rfl) (by kernel_rfl) (fun _ _ _ h => h) (Or.inl ⟨by rfl, fun W => ?_⟩) ?_
                rotate_left 1
                · (go_simp <;> (try go_bits) <;> ((rw [if_pos (show (0 : Int) ≤ 4 + (p : Int) ∧ 4 + (p : Int) ≤ (c : Int) from ⟨by omega, by omega⟩)])) <;> with_reducible rfl)
                simp only [Act.put, List.setIfInBounds_toArray, List.set_cons_zero, List.set_cons_succ]
                refine wpAnyP_load (v := ?_) 8 (by kernel_rfl) (at_toArray rfl) (by kernel_rfl) (by kernel_rfl) (by kernel_rfl) (fun _ _ _ h => h) (by first | assumption | rfl) (Or.inl ⟨by rfl, fun W hS => ?_⟩) ?_
                rotate_left 1
                · (have hc := HCB.out W hS; go_simp <;> (try go_bits) <;> with_reducible rfl)
                simp only [Act.put, List.setIfInBounds_toArray, List.set_cons_zero, List.set_cons_succ]
                obtain ⟨w3, c3, hcv, hrT, hcT, hb3⟩ := conv_bytes w2.drew T (by have := HTL.out; omega)
                have HRT := Lib.hid hrT
                have HB3 := Lib.hid ((Below.refl w2.heap.size w2).drew.trans hb3)
                have hs3 : w2.heap.size ≤ w3.heap.size := HB3.out.size
                clear hrT hb3 hcT
                refine wpAnyP_one 2 (at_toArray rfl) (by kernel_rfl) rfl (fun K hK => ?_)
                go_wp2_with fail
                refine hK.out _ _ (fun _ _ => HB3.out) ?_
                clear hK hcv
                refine wpAnyP_one 3 (at_toArray rfl) (by kernel_rfl) rfl (fun K hK => ?_)
                go_wp2_with fail
                have hfrm : Calls Tryz.prog 60 #[.int .u8 71, .slice (some ⟨w2.heap.size, 0, none⟩) T.length c3] w3 fun e w' => ∃ v, e = .returned v ∧ OBB w2.heap.size w' v (frameB k T) ∧ Below w2.heap.size w3 w' := by
                  have := rframe_any w2.heap.size k (some ⟨w2.heap.size, 0, none⟩) c3 T w3 hs3 HRT.out (by have := HTL.out; omega)
                  rw [← HQ.out] at this
                  exact this
                refine hfrm.mono ?_
                clear hfrm
                rintro e w4 ⟨v, rfl, hv, hb4⟩
                have HB4 := Lib.hid (HB3.out.trans hb4)
                have hfl : (frameB k T).length ≤ 140737488355328 := by
                  have := frameB_len k T
                  have := nbytes_small (n := T.length) (by have := HTL.out; omega)
                  have := HTL.out
                  omega
                obtain ⟨A6, c6, rfl, hr6, _⟩ := hv.reads' hfl
                have hcv4 := run_str hr6 _ c6 rfl
                rw [← HSF.out] at hcv4
                clear hv hb4 hr6 hfl HRT
                go_wp2_with fail
                refine hK.out _ _ (fun _ _ => HB4.out) ?_
                clear hK
                refine wpAnyP_one 4 (at_toArray rfl) (by kernel_rfl) rfl (fun K hK => ?_)
                go_wp2_with fail
                refine hK.out _ _ (fun _ _ => HB4.out) ?_
                clear hK hcv4
                refine wpAnyP_pure (v := ?_) 9 (at_toArray rfl) (by kernel_rfl) (by kernel_rfl) (by kernel_rfl) (fun _ _ _ h => h) (Or.inl ⟨by rfl, fun W => ?_⟩) ?_
                rotate_left 1
                · (go_simp <;> (try go_bits) <;> with_reducible rfl)
                simp only [Act.put, List.setIfInBounds_toArray, List.set_cons_zero, List.set_cons_succ]
                refine wpAnyP_done (by kernel_rfl) ?_ _
                have HB4 := Lib.hid (HB2.out.trans (Below.up HB4.out HW2))
                have hs4 : w.heap.size ≤ w4.heap.size := HB4.out.size
                obtain ⟨w7, c7, hcv7, hrT7, hcT7, hb7⟩ := conv_bytes w4 T (by have := HTL.out; omega)
                have HR7 := Lib.hid hrT7
                have HB7 := Lib.hid (HB4.out.trans (Below.up hb7 hs4))
                have hs7 : w.heap.size ≤ w7.heap.size := HB7.out.size
                clear hrT7 hcT7 hb7
                go_wp2_with fail
                refine (rturn_any w.heap.size (some ⟨w4.heap.size, 0, none⟩) c7 T w7 hs7 HR7.out (by have := HTL.out; omega)).mono ?_
                obtain ⟨tn, htn⟩ : ∃ tn, tn = numberP T := ⟨_, rfl⟩
                rw [← htn]
                have htz : (tn == 0) = false := by have := HNO.out; simp [htn, this]
                clear hcv7 htn
                rintro e w8 ⟨rfl, hb8⟩
                have HB8 := Lib.hid (HB7.out.trans hb8)
                have hs8 : w.heap.size ≤ w8.heap.size := HB8.out.size
                clear hb8 HR7
                have HBW := HB8
                have HSW := hs8
                obtain ⟨w9, c9, hcv9, hrT9, hcT9, hb9⟩ := conv_bytes w8 T (by have := HTL.out; omega)
                have HR9 := Lib.hid hrT9
                have HC9 := Lib.hid hcT9
                have HB9 := Lib.hid (HB8.out.trans (Below.up hb9 hs8))
                clear hrT9 hcT9 hb9
                go_wp2_with fail
                go_ret3
                rw [HRS.out]
                exact ⟨HB9.out, _, by rw [← HQ.out]; rfl, _, _, rfl, HC9.out, HR9.out, fun a ha _ => by cases ha; exact ⟨hs8, fun h => h⟩⟩
          · have hRs : R = none := by rw [HR.out, if_pos hfr]
            have hne : (sf.toList == sb.toList) = false := by
              rw [ByteArray.toList_eq, ByteArray.toList_eq, hsf, hsb]
              simp [strB, hfr]
            have HRS := Lib.hid hRs
            clear hRs hfr hsf hsb
            rcases hq2 with rfl | rfl
            · go_wp2_with fail
              refine wp_region_phased (fun W => Below w2.heap.size w2 W) 10 (by kernel_rfl) (Below.refl _ _).drew (fun hS => ?_)
              refine wpAnyP_pure (v := ?_) 0 (at_toArray rfl) (by kernel_rfl) (by kernel_rfl) (by kernel_rfl) (fun _ _ _ h => h) (Or.inl ⟨by rfl, fun W => ?_⟩) ?_
              rotate_left 1
              · (go_simp <;> (try go_bits) <;> with_reducible rfl)
              simp only [Act.put, List.setIfInBounds_toArray, List.set_cons_zero, List.set_cons_succ]
              refine wpAnyP_pure (v := ?_) 1 (at_toArray rfl) (by kernel_rfl) (by kernel_rfl) (by kernel_rfl) (fun _ _ _ h => h) (Or.inl ⟨by rfl, fun W => ?_⟩) ?_
              rotate_left 1
              · (go_simp <;> (try go_bits) <;> with_reducible rfl)
              simp only [Act.put, List.setIfInBounds_toArray, List.set_cons_zero, List.set_cons_succ]
              refine wpAnyP_pure (v := ?_) 5 (at_toArray rfl) (by kernel_rfl) (by kernel_rfl) (by kernel_rfl) (fun _ _ _ h => h) (Or.inl ⟨by rfl, fun W => ?_⟩) ?_
              rotate_left 1
              · (go_simp <;> (try go_bits) <;> with_reducible rfl)
              simp only [Act.put, List.setIfInBounds_toArray, List.set_cons_zero, List.set_cons_succ]
              refine wpAnyP_pure (v := ?_) 6 (at_toArray rfl) (by kernel_rfl) (by kernel_rfl) (by kernel_rfl) (fun _ _ _ h => h) (Or.inl ⟨by rfl, fun W => ?_⟩) ?_
              rotate_left 1
              · (go_simp <;> (try go_bits) <;> with_reducible rfl)
              simp only [Act.put, List.setIfInBounds_toArray, List.set_cons_zero, List.set_cons_succ]
              refine wpAnyP_pure (v := ?_) 7 (at_toArray rfl) (by kernel_rfl) (by kernel_rfl) (by kernel_rfl) (fun _ _ _ h => h) (Or.inl ⟨by rfl, fun W => ?_⟩) ?_
              rotate_left 1
              · (go_simp <;> (try go_bits) <;> ((rw [if_pos (show (0 : Int) ≤ 4 + (p : Int) ∧ 4 + (p : Int) ≤ (c : Int) from ⟨by omega, by omega⟩)])) <;> with_reducible rfl)
              simp only [Act.put, List.setIfInBounds_toArray, List.set_cons_zero, List.set_cons_succ]
              refine wpAnyP_load (v := ?_) 8 (by kernel_rfl) (at_toArray rfl) (by kernel_rfl) (by kernel_rfl) (by kernel_rfl) (fun _ _ _ h => h) (by first | assumption | rfl) (Or.inl ⟨by rfl, fun W hS => ?_⟩) ?_
              rotate_left 1
              · (have hc := HCB.out W hS; go_simp <;> (try go_bits) <;> with_reducible rfl)
              simp only [Act.put, List.setIfInBounds_toArray, List.set_cons_zero, List.set_cons_succ]
              obtain ⟨w3, c3, hcv, hrT, hcT, hb3⟩ := conv_bytes w2.drew T (by have := HTL.out; omega)
              have HRT := Lib.hid hrT
              have HB3 := Lib.hid ((Below.refl w2.heap.size w2).drew.trans hb3)
              have hs3 : w2.heap.size ≤ w3.heap.size := HB3.out.size
              clear hrT hb3 hcT
              refine wpAnyP_one 2 (at_toArray rfl) (by kernel_rfl) rfl (fun K hK => ?_)
              go_wp2_with fail
              refine hK.out _ _ (fun _ _ => HB3.out) ?_
              clear hK hcv
              refine wpAnyP_one 3 (at_toArray rfl) (by kernel_rfl) rfl (fun K hK => ?_)
              go_wp2_with fail
              have hfrm : Calls Tryz.prog 60 #[.int .u8 68, .slice (some ⟨w2.heap.size, 0, none⟩) T.length c3] w3 fun e w' => ∃ v, e = .returned v ∧ OBB w2.heap.size w' v (frameB k T) ∧ Below w2.heap.size w3 w' := by
                have := rframe_any w2.heap.size k (some ⟨w2.heap.size, 0, none⟩) c3 T w3 hs3 HRT.out (by have := HTL.out; omega)
                rw [← HQ.out] at this
                exact this
              refine hfrm.mono ?_
              clear hfrm
              rintro e w4 ⟨v, rfl, hv, hb4⟩
              have HB4 := Lib.hid (HB3.out.trans hb4)
              have hfl : (frameB k T).length ≤ 140737488355328 := by
                have := frameB_len k T
                have := nbytes_small (n := T.length) (by have := HTL.out; omega)
                have := HTL.out
                omega
              obtain ⟨A6, c6, rfl, hr6, _⟩ := hv.reads' hfl
              have hcv4 := run_str hr6 _ c6 rfl
              rw [← HSF.out] at hcv4
              clear hv hb4 hr6 hfl HRT
              go_wp2_with fail
              refine hK.out _ _ (fun _ _ => HB4.out) ?_
              clear hK
              refine wpAnyP_one 4 (at_toArray rfl) (by kernel_rfl) rfl (fun K hK => ?_)
              go_wp2_with fail
              refine hK.out _ _ (fun _ _ => HB4.out) ?_
              clear hK hcv4
              refine wpAnyP_pure (v := ?_) 9 (at_toArray rfl) (by kernel_rfl) (by kernel_rfl) (by kernel_rfl) (fun _ _ _ h => h) (Or.inl ⟨by rfl, fun W => ?_⟩) ?_
              rotate_left 1
              · (go_simp <;> (try go_bits) <;> with_reducible rfl)
              simp only [Act.put, List.setIfInBounds_toArray, List.set_cons_zero, List.set_cons_succ]
              refine wpAnyP_done (by kernel_rfl) ?_ _
              have HB4 := Lib.hid (HB2.out.trans (Below.up HB4.out HW2))
              have hs4 : w.heap.size ≤ w4.heap.size := HB4.out.size
              go_wp2_with fail
              go_ret3
              exact .no HRS.out rfl HB4.out
            · go_wp2_with fail
              refine wp_region_phased (fun W => Below w2.heap.size w2 W) 10 (by kernel_rfl) (Below.refl _ _).drew (fun hS => ?_)
              refine wpAnyP_pure (v := ?_) 0 (at_toArray rfl) (by kernel_rfl) (by kernel_rfl) (by kernel_rfl) (fun _ _ _ h => h) (Or.inl ⟨by rfl, fun W => ?_⟩) ?_
              rotate_left 1
              · (go_simp <;> (try go_bits) <;> with_reducible rfl)
              simp only [Act.put, List.setIfInBounds_toArray, List.set_cons_zero, List.set_cons_succ]
              refine wpAnyP_pure (v := ?_) 1 (at_toArray rfl) (by kernel_rfl) (by kernel_rfl) (by kernel_rfl) (fun _ _ _ h => h) (Or.inl ⟨by rfl, fun W => ?_⟩) ?_
              rotate_left 1
              · (go_simp <;> (try go_bits) <;> with_reducible rfl)
              simp only [Act.put, List.setIfInBounds_toArray, List.set_cons_zero, List.set_cons_succ]
              refine wpAnyP_pure (v := ?_) 5 (at_toArray rfl) (by kernel_rfl) (by kernel_rfl) (by kernel_rfl) (fun _ _ _ h => h) (Or.inl ⟨by rfl, fun W => ?_⟩) ?_
              rotate_left 1
              · (go_simp <;> (try go_bits) <;> with_reducible rfl)
              simp only [Act.put, List.setIfInBounds_toArray, List.set_cons_zero, List.set_cons_succ]
              refine wpAnyP_pure (v := ?_) 6 (at_toArray rfl) (by kernel_rfl) (by kernel_rfl) (by kernel_rfl) (fun _ _ _ h => h) (Or.inl ⟨by rfl, fun W => ?_⟩) ?_
              rotate_left 1
              · (go_simp <;> (try go_bits) <;> with_reducible rfl)
              simp only [Act.put, List.setIfInBounds_toArray, List.set_cons_zero, List.set_cons_succ]
              refine wpAnyP_pure (v := ?_) 7 (at_toArray rfl) (by kernel_rfl) (by kernel_rfl) (by kernel_rfl) (fun _ _ _ h => h) (Or.inl ⟨by rfl, fun W => ?_⟩) ?_
              rotate_left 1
              · (go_simp <;> (try go_bits) <;> ((rw [if_pos (show (0 : Int) ≤ 4 + (p : Int) ∧ 4 + (p : Int) ≤ (c : Int) from ⟨by omega, by omega⟩)])) <;> with_reducible rfl)
              simp only [Act.put, List.setIfInBounds_toArray, List.set_cons_zero, List.set_cons_succ]
              refine wpAnyP_load (v := ?_) 8 (by kernel_rfl) (at_toArray rfl) (by kernel_rfl) (by kernel_rfl) (by kernel_rfl) (fun _ _ _ h => h) (by first | assumption | rfl) (Or.inl ⟨by rfl, fun W hS => ?_⟩) ?_
              rotate_left 1
              · (have hc := HCB.out W hS; go_simp <;> (try go_bits) <;> with_reducible rfl)
              simp only [Act.put, List.setIfInBounds_toArray, List.set_cons_zero, List.set_cons_succ]
              obtain ⟨w3, c3, hcv, hrT, hcT, hb3⟩ := conv_bytes w2.drew T (by have := HTL.out; omega)
              have HRT := Lib.hid hrT
              have HB3 := Lib.hid ((Below.refl w2.heap.size w2).drew.trans hb3)
              have hs3 : w2.heap.size ≤ w3.heap.size := HB3.out.size
              clear hrT hb3 hcT
              refine wpAnyP_one 2 (at_toArray rfl) (by kernel_rfl) rfl (fun K hK => ?_)
              go_wp2_with fail
              refine hK.out _ _ (fun _ _ => HB3.out) ?_
              clear hK hcv
              refine wpAnyP_one 3 (at_toArray rfl) (by kernel_rfl) rfl (fun K hK => ?_)
              go_wp2_with fail
              have hfrm : Calls Tryz.prog 60 #[.int .u8 71, .slice (some ⟨w2.heap.size, 0, none⟩) T.length c3] w3 fun e w' => ∃ v, e = .returned v ∧ OBB w2.heap.size w' v (frameB k T) ∧ Below w2.heap.size w3 w' := by
                have := rframe_any w2.heap.size k (some ⟨w2.heap.size, 0, none⟩) c3 T w3 hs3 HRT.out (by have := HTL.out; omega)
                rw [← HQ.out] at this
                exact this
              refine hfrm.mono ?_
              clear hfrm
              rintro e w4 ⟨v, rfl, hv, hb4⟩
              have HB4 := Lib.hid (HB3.out.trans hb4)
              have hfl : (frameB k T).length ≤ 140737488355328 := by
                have := frameB_len k T
                have := nbytes_small (n := T.length) (by have := HTL.out; omega)
                have := HTL.out
                omega
              obtain ⟨A6, c6, rfl, hr6, _⟩ := hv.reads' hfl
              have hcv4 := run_str hr6 _ c6 rfl
              rw [← HSF.out] at hcv4
              clear hv hb4 hr6 hfl HRT
              go_wp2_with fail
              refine hK.out _ _ (fun _ _ => HB4.out) ?_
              clear hK
              refine wpAnyP_one 4 (at_toArray rfl) (by kernel_rfl) rfl (fun K hK => ?_)
              go_wp2_with fail
              refine hK.out _ _ (fun _ _ => HB4.out) ?_
              clear hK hcv4
              refine wpAnyP_pure (v := ?_) 9 (at_toArray rfl) (by kernel_rfl) (by kernel_rfl) (by kernel_rfl) (fun _ _ _ h => h) (Or.inl ⟨by rfl, fun W => ?_⟩) ?_
              rotate_left 1
              · (go_simp <;> (try go_bits) <;> with_reducible rfl)
              simp only [Act.put, List.setIfInBounds_toArray, List.set_cons_zero, List.set_cons_succ]
              refine wpAnyP_done (by kernel_rfl) ?_ _
              have HB4 := Lib.hid (HB2.out.trans (Below.up HB4.out HW2))
              have hs4 : w.heap.size ≤ w4.heap.size := HB4.out.size
              go_wp2_with fail
              go_ret3
              exact .no HRS.out rfl HB4.out
      · have hRn : R = none := by rw [hR, if_pos (.inl he)]
        subst hRn
        have he' : (E != 0) = true := by simp [he]
        clear hR
        go_wp2_with fail
        go_ret3
        exact .no rfl rfl HB2.out

end Go.Proofs.YtdhafdejionefaaGreat

/- The document's Frames: walk. -/
namespace Go.Proofs.YtdhafdejionefaaGreat
set_option linter.unusedVariables false
set_option linter.unusedSimpArgs false
open Go.RowKit

/-- One value has been appended to an owned row. -/
theorem pushed0 {W w' : World} {B n : Nat} {v v' x : Value} {E E' : TypeId} {xs : List Value} (hown : W.ownsRow B E 1 v n xs)
    (hg : (W.alloc (.cells #[x] E')).grownBy w' v.ownBlock) (hat : v'.ownBlock = v.ownBlock ∨ v'.ownBlock = some (W.alloc (.cells #[x] E')).heap.size) :
    Fr (fun i => v.ownBlock = some i) W w' ∧ (v'.ownBlock = v.ownBlock ∨ ∃ k, v'.ownBlock = some k ∧ W.heap.size + 1 ≤ k) ∧ W.heap.size + 1 ≤ w'.heap.size := by
  have hf1 : Fr (fun i => v.ownBlock = some i) W (W.alloc (.cells #[x] E')) := Fr.alloc _ _ _
  have hf2 : Fr (fun i => v.ownBlock = some i) (W.alloc (.cells #[x] E')) w' := Fr.grown hg (fun k hk => hk)
  refine ⟨hf1.trans hf2 fun i h => .inl h, ?_, ?_⟩
  · rcases hat with h | h
    · exact .inl h
    · exact .inr ⟨_, h, by simp⟩
  · have := hf2.size; simp at *; omega
/-- Kinds and records, so far. -/
def OFr (B : Nat) (W : World) (pre : List (UInt8 × List UInt8)) (kv lv : Value) : Prop := ∃ cs : List Value,
  W.ownsRow B 5 1 kv pre.length (bv (pre.map (·.1))) ∧ W.ownsRow B 35 1 lv pre.length cs ∧
  ∀ (j : Nat) (c : Value) (p : UInt8 × List UInt8), cs[j]? = some c → pre[j]? = some p → CB B (fun k => kv.ownBlock = some k ∨ lv.ownBlock = some k) W c p.2
theorem OFr.below {B : Nat} {W W' : World} {pre : List (UInt8 × List UInt8)} {kv lv : Value} (h : OFr B W pre kv lv) (hb : Below W.heap.size W W') : OFr B W' pre kv lv := by
  obtain ⟨cs, h1, h2, h3⟩ := h
  have hf : Fr (fun _ => False) W W' := Fr.of_below hb
  exact ⟨cs, own_fr h1 hf (fun _ _ h => h), own_fr h2 hf (fun _ _ h => h), fun j c p hc hp => CB.mono2 (h3 j c p hc hp) ((h3 j c p hc hp).fr hf (fun _ h => h.elim)) (Nat.le_refl _) (fun _ _ h => h)⟩
theorem own_ne {W : World} {B B' : Nat} {kv lv : Value} {n m : Nat} {xs ys : List Value} (hko : W.ownsRow B 5 1 kv n xs) (hlo : W.ownsRow B' 35 1 lv m ys) : ∀ i, kv.ownBlock = some i → lv.ownBlock = some i → False := fun i h1 h2 => by
  obtain ⟨_, cap, cur, rfl, _, hg, _⟩ | ⟨_, _⟩ := hko.2.symm
  · obtain ⟨_, cap2, cur2, rfl, _, hg2, _⟩ | ⟨_, _⟩ := hlo.2.symm
    · simp [Value.ownBlock] at h1 h2
      subst h1; subst h2
      rw [hg] at hg2
      simp at hg2
    · simp_all [Value.ownBlock]
  · simp_all [Value.ownBlock]
/-- A frame more. -/
theorem OFr.push {B : Nat} {W W2 W4 : World} {pre : List (UInt8 × List UInt8)} {kv lv kv1 lv1 v : Value} {k : UInt8} {T : List UInt8} {cs : List Value} {E1 E2 : TypeId} {x : Value} {S : Nat}
    (h1 : W.ownsRow B 5 1 kv pre.length (bv (pre.map (·.1)))) (h2 : W.ownsRow B 35 1 lv pre.length cs)
    (h3 : ∀ (j : Nat) (c : Value) (p : UInt8 × List UInt8), cs[j]? = some c → pre[j]? = some p → CB B (fun k => kv.ownBlock = some k ∨ lv.ownBlock = some k) W c p.2)
    (hv : CB S (fun _ => False) W v T) (hS : ∀ i, kv.ownBlock = some i ∨ lv.ownBlock = some i → i < S) (hB : B ≤ S) (hBW : B ≤ W.heap.size)
    (ho1 : W2.ownsRow B 5 1 kv1 (pre.length + 1) (bv (pre.map (·.1)) ++ [.int .u8 (k.toNat : Int)]))
    (hg1 : (W.alloc (.cells #[x] E1)).grownBy W2 kv.ownBlock) (ha1 : kv1.ownBlock = kv.ownBlock ∨ kv1.ownBlock = some (W.alloc (.cells #[x] E1)).heap.size)
    (ho2 : W4.ownsRow B 35 1 lv1 (pre.length + 1) (cs ++ [v]))
    (hg2 : (W2.alloc (.cells #[v] E2)).grownBy W4 lv.ownBlock) (ha2 : lv1.ownBlock = lv.ownBlock ∨ lv1.ownBlock = some (W2.alloc (.cells #[v] E2)).heap.size) :
    OFr B W4 (pre ++ [(k, T)]) kv1 lv1 ∧ Below B W W4 := by
  obtain ⟨f1, n1, s1⟩ := pushed0 (x := x) h1 hg1 ha1
  have hne := own_ne h1 h2
  have h2' := own_fr h2 f1 (fun i hi h => hne i h hi)
  obtain ⟨f2, n2, s2⟩ := pushed0 h2' hg2 ha2
  have hfr : Fr (fun i => kv.ownBlock = some i ∨ lv.ownBlock = some i) W W4 := (f1.mono fun i h => .inl (.inl h)).trans f2 fun i h => .inl (.inr h)
  have hb : Below B W W4 := ⟨hfr.os, hfr.tape, hfr.output, hfr.size, fun i hi => hfr.block i (by omega) (fun hi' => by
    rcases hi' with h | h
    · have := (h1.lt i h).1; omega
    · have := (h2.lt i h).1; omega)⟩
  have hX : ∀ i, i < W.heap.size → (kv1.ownBlock = some i ∨ lv1.ownBlock = some i) → kv.ownBlock = some i ∨ lv.ownBlock = some i := by
    intro i hi h
    rcases h with h | h
    · rcases n1 with n1 | ⟨k', n1, n1'⟩
      · rw [n1] at h; exact .inl h
      · rw [n1] at h; cases h; omega
    · rcases n2 with n2 | ⟨k', n2, n2'⟩
      · rw [n2] at h; exact .inr h
      · rw [n2] at h; cases h; have := f1.size; omega
  refine ⟨⟨cs ++ [v], ?_, ?_, ?_⟩, hb⟩
  · have h := own_fr ho1 f2 (fun i hi h => by
      rcases n1 with n1 | ⟨k', n1, n1'⟩
      · rw [n1] at hi; exact hne i hi h
      · rw [n1] at hi; cases hi; have := (h2.lt _ h).2; omega)
    rw [List.length_append, List.map_append, bv_append]; exact h
  · rw [List.length_append]; exact ho2
  · intro j cc p hc hp
    have hcl : cs.length = pre.length := by have := h2.1; omega
    rcases Nat.lt_or_ge j pre.length with hj | hj
    · rw [List.getElem?_append_left (by omega)] at hc
      rw [List.getElem?_append_left hj] at hp
      have h0 := h3 j cc p hc hp
      exact CB.mono2 h0 (h0.fr hfr (fun i hi => .inr (.inl hi))) (Nat.le_refl _) hX
    · rw [List.getElem?_append_right (by omega)] at hc
      rw [List.getElem?_append_right hj] at hp
      have e0 : j - pre.length = 0 := by
        rcases Nat.eq_zero_or_pos (j - pre.length) with h | h
        · exact h
        · rw [List.getElem?_eq_none (by simp; omega)] at hp; cases hp
      rw [hcl, e0] at hc
      rw [e0] at hp
      simp at hc hp
      subst hc; subst hp
      obtain ⟨A, c, e1, e2, e3, e4⟩ := hv
      refine ⟨A, c, e1, e2, e3.fr2 hfr (fun a ha h0 hi => ?_), fun a ha h0 => ⟨?_, fun hi => ?_⟩⟩
      · have := (e4 a ha h0).1; have := hS _ hi; omega
      · have := (e4 a ha h0).1; omega
      · have h5 := (e4 a ha h0).1
        have h6 := hS _ (hX _ (rb_lt e3 a ha h0) hi)
        omega
def lenOf : Value → Nat
  | .slice _ n _ => n
  | _ => 0

set_option maxRecDepth 100000 in
set_option maxHeartbeats 4000000 in
theorem rframes_any (A : Option Addr) (c : Nat) (b : List UInt8) (w : World) (hr : RB w A b) (hc : b.length ≤ c) (hl : b.length ≤ 1100000000) :
    Calls Tryz.prog 72 #[.slice A b.length c] w fun e w' => ∃ kv lv, e = .returned (.tuple #[kv, lv]) ∧ OFr w.heap.size w' (framesP b) kv lv ∧ Below w.heap.size w w' := by
  obtain ⟨i0, hi0, hz0, hz1, hz2⟩ := info_parts info_u8'
  obtain ⟨i1, hi1, hy0, hy1, hy2⟩ := info_parts info_row
  have hfl := framesP_len b
  obtain ⟨n, hn⟩ : ∃ n, n = b.length := ⟨_, rfl⟩
  rw [← hn] at hc hl hfl ⊢
  obtain ⟨fs, hfs⟩ : ∃ fs, fs = framesP b := ⟨_, rfl⟩
  rw [← hfs] at hfl ⊢
  have HFS := Lib.hid hfs
  have HN := Lib.hid hn
  have HRB := Lib.hid hr
  have HFL := Lib.hid hfl
  clear hn hfs hr hfl
  go_enter Tryz.func72, Tryz.ntmps72
  go_wp2_with fail
  go_loopw [0, 4, 5] (fun bv kv lv wr => ∃ (pre : List (UInt8 × List UInt8)) (r : List UInt8) (A' : Option Addr) (m c' : Nat), Hid (fs = pre ++ framesP r) ∧ bv = .slice A' m c' ∧ Hid (m = r.length) ∧ m ≤ c' ∧ m ≤ n ∧ Hid (RB wr A' r) ∧ Hid (∀ a, A' = some a → 0 < r.length → a.block < w.heap.size) ∧ Hid (OFr w.heap.size wr pre kv lv) ∧ Hid (Below w.heap.size w wr)) (fun bv _ _ _ => lenOf bv)
  case atStart => exact ⟨[], b, A, n, c, Lib.hid (by rw [HFS.out]; rfl), rfl, HN, hc, Nat.le_refl _, HRB, Lib.hid fun a ha h0 => rb_lt HRB.out a ha h0, Lib.hid ⟨[], World.ownsRow_nil _ _ _ _, World.ownsRow_nil _ _ _ _, fun j c p hc hp => by simp at hc⟩, Lib.hid (Below.refl _ _)⟩
  case round =>
    clear HRB hc
    obtain ⟨pre, r, A', m, c', HX, rfl, HM, hmc, hmn, HR, HA, HO, HB⟩ := hrel
    have hfirst := rfirst_any A' c' r wr HR.out (by rw [← HM.out]; exact hmc) (by rw [← HM.out]; omega)
    rw [← HM.out] at hfirst
    have HF := Lib.hid hfirst
    clear hfirst
    go_wp2_with fail
    refine HF.out.mono ?_
    rintro e w1 ⟨hb1, hp⟩
    have hs1 : w.heap.size ≤ w1.heap.size := Nat.le_trans HB.out.size hb1.size
    match hf : firstP r with
    | none =>
      rw [hf] at hp
      have hp : e = .returned (.tuple #[.int .u8 0, .slice none 0 0, .int .i64 0]) := hp
      subst hp
      have HX2 : Hid (fs = pre) := Lib.hid (by rw [HX.out, framesP_none hf, List.append_nil])
      have HO2 := Lib.hid (HO.out.below hb1)
      have HB2 := Lib.hid (HB.out.trans (Below.up hb1 HB.out.size))
      clear hf hb1 HF HX HM HR HA HO HB
      go_wp2_with fail
      go_ret2
      exact ⟨_, _, rfl, by rw [HX2.out]; exact HO2.out, HB2.out⟩
    | some (k, T, q) =>
      rw [hf] at hp
      obtain ⟨v, rfl, hv⟩ := hp
      obtain ⟨vA, vc, rfl, hv1⟩ := hv
      have hv : CB wr.heap.size (fun _ => False) w1 (.slice vA T.length vc) T := ⟨vA, vc, rfl, hv1⟩
      clear hv1
      obtain ⟨_, hq, rr, hrr⟩ := first_inv hf
      have hq0 : 0 < q ∧ q ≤ m := by
        have := frameB_len k T
        have h2 := congrArg List.length hrr
        rw [List.length_append] at h2
        rw [HM.out]; omega
      obtain ⟨hq0, hqm⟩ := hq0
      have hqb : ((q : Int) == 0) = false := by simp; omega
      have HX2 : Hid (fs = (pre ++ [(k, T)]) ++ framesP (r.drop q)) := Lib.hid (by rw [HX.out, framesP_some hf]; simp)
      have hpl : pre.length + 1 ≤ 1100000000 := by
        have h1 := HX2.out
        have h2 := congrArg List.length h1
        have h3 := HFL.out
        simp at h2; omega
      obtain ⟨cs, h1, h2, h3⟩ := HO.out.below hb1
      have hS : ∀ i, u4.ownBlock = some i ∨ u5.ownBlock = some i → i < wr.heap.size := fun i hi => by
        obtain ⟨cs0, g1, g2, _⟩ := HO.out
        rcases hi with hi | hi
        · exact (g1.lt i hi).2
        · exact (g2.lt i hi).2
      have HBr := Lib.hid HB.out.size
      have HB1 := Lib.hid (HB.out.trans (Below.up hb1 HB.out.size))
      have HR1 := Lib.hid (HR.out.below hb1)
      have HP := Lib.hid (And.intro h1 (And.intro h2 (And.intro h3 (And.intro hv hS))))
      have h1' := own_fr h1 (Fr.alloc (fun _ => False) w1 (.cells #[.int .u8 (k.toNat : Int)] 5)) (fun _ _ h => h)
      have H1' := Lib.hid h1'
      clear hf hq hrr hb1 HF HX HR HO HB h1 h2 h3 hv hS h1'
      go_wp2_with (at_builtin; refine (fun (h : Hid _) => h.out) ?_)
      refine Lib.hid ?_
      refine wpList_append_own_at _ rfl (.tmp 19) (.tmp 21) 35 rfl w.heap.size 5 i0 (.int .u8 0) 1 1 Tryz.underlying35 hi0 hz0 hz1 hz2 rfl (by decide) u4 pre.length (bv (pre.map (·.1))) rfl H1'.out ⟨w1.heap.size, 0, none⟩ 1 1 [.int .u8 (k.toNat : Int)] rfl rfl (cell_one_new _ _ _) (by simp [Value.oneCell']) (by simp only [maxLen]; omega) (by omega) (by simp; omega) ?_
      intro kv1 w2 ho1 hg1 _ ha1
      have HG1 := Lib.hid (And.intro ho1 (And.intro hg1 ha1))
      have hf2 := (pushed0 (x := .int .u8 (k.toNat : Int)) HP.out.1 hg1 ha1)
      have h22 := own_fr HP.out.2.1 hf2.1 (fun i hi h => own_ne HP.out.1 HP.out.2.1 i h hi)
      have hs2 : w.heap.size ≤ w2.heap.size := by have := hf2.2.2; omega
      have H22 := Lib.hid (own_fr h22 (Fr.alloc (fun _ => False) w2 (.cells #[.slice vA T.length vc] 35)) (fun _ _ h => h))
      clear ho1 hg1 ha1 hf2 h22 H1'
      go_wp2_with (at_builtin; refine (fun (h : Hid _) => h.out) ?_)
      refine Lib.hid ?_
      refine wpList_append_own_at _ rfl (.tmp 23) (.tmp 25) 36 rfl w.heap.size 35 i1 (.slice none 0 0) 1 24 Tryz.underlying36 hi1 hy0 hy1 hy2 rfl (by decide) u5 pre.length cs rfl H22.out ⟨w2.heap.size, 0, none⟩ 1 1 [.slice vA T.length vc] rfl rfl (cell_one_new _ _ _) (by simp [Value.oneCell']) (by simp only [maxLen]; omega) (by omega) (by simp; omega) ?_
      intro lv1 w4 ho2 hg2 _ ha2
      obtain ⟨ho1, hg1, ha1⟩ := HG1.out
      obtain ⟨h1, h2, h3, hv, hS⟩ := HP.out
      obtain ⟨hO4, hB4⟩ := OFr.push h1 h2 h3 hv hS HBr.out hs1 ho1 hg1 ha1 ho2 hg2 ha2
      have HO4 := Lib.hid hO4
      have HB4 := Lib.hid (HB1.out.trans hB4)
      have HR4 : Hid (RB w4 A' r) := Lib.hid (HR1.out.fr2 (F := fun k => w.heap.size ≤ k) ⟨hB4.os, hB4.tape, hB4.output, hB4.size, fun i _ hi => hB4.block i (by omega)⟩ fun a ha h0 => by have := HA.out a ha h0; omega)
      clear ho1 hg1 ha1 ho2 hg2 ha2 h1 h2 h3 hv hS hO4 hB4 HG1 HP H22 HB1 HR1
      have hdl : (r.drop q).length = m - q := by rw [List.length_drop, ← HM.out]
      have HDL := Lib.hid hdl
      clear hdl
      by_cases hcq : c' = q
      · subst hcq
        have hmq : m = c' := by omega
        subst hmq
        go_wp2_with fail
        go_roundw
        case rel => exact ⟨pre ++ [(k, T)], r.drop m, A', 0, 0, HX2, by simp, Lib.hid (by rw [HDL.out]; omega), by omega, by omega, Lib.hid (by rw [List.eq_nil_of_length_eq_zero (l := r.drop m) (by rw [HDL.out]; omega)]; exact RB.nil _ _), Lib.hid (fun a ha h0 => by rw [HDL.out] at h0; omega), HO4, HB4⟩
        case measure => simp [lenOf]; omega
      · go_wp2_with fail
        go_roundw
        case rel =>
          refine ⟨pre ++ [(k, T)], r.drop q, _, m - q, c' - q, HX2, rfl, Lib.hid HDL.out.symm, by omega, by omega, Lib.hid ?_, Lib.hid (fun a ha h0 => ?_), HO4, HB4⟩
          · have := HR4.out.dropS q c' (by rw [← HM.out]; exact hmc)
            rwa [if_neg hcq] at this
          · have hpos : 0 < r.length := by rw [← HM.out]; omega
            obtain ⟨bb, off, e, _, _⟩ := HR4.out.2 hpos
            have h1 := HA.out _ e hpos
            rw [e] at ha
            cases ha
            have hq1 : q ≠ 0 := by omega
            simpa [Addr.add, hq1] using h1
        case measure => simp [lenOf]; omega

end Go.Proofs.YtdhafdejionefaaGreat

/- A phased region: another condition put in the place of the first. -/
namespace Go.Proofs.YtdhafdejionefaaGreat
set_option linter.unusedVariables false
set_option linter.unusedSimpArgs false

section
variable {P : Program} {ops : Array Oper} {Q : Exit → Act → World → Prop} {md : Region.Mode} {S S' : World → Prop} {m m' : Nat}
theorem ready_lt2 {listed : Array Bool} {i : Nat} (h : i ∈ Region.ready md ops listed) : i < ops.size := by
  obtain ⟨_, oj, hoj, _⟩ := mem_ready.1 h
  exact (Array.getElem?_eq_some_iff.1 hoj).1
/-- A condition may be put in the place of another one that it implies. -/
theorem wpAnyP_re (S' : World → Prop) (m' : Nat) (hm : ops.size ≤ m') (hSS : ∀ w, S' w → S w) : ∀ (fuel : Nat) (listed : Array Bool) (a : Act) (w : World), S' w → wpAnyP P md ops Q S' m' fuel listed a w → wpAnyP P md ops Q S m fuel listed a w
  | 0, _, _, _, _, h => h
  | fuel + 1, listed, a, w, hs, h => ⟨h.1, fun i hi => wpOp_mono (fun a' w' h' => ⟨fun _ _ => hSS _ (h'.1 (Nat.lt_of_lt_of_le (ready_lt2 hi) hm) hs), wpAnyP_re S' m' hm hSS fuel _ a' w' (h'.1 (Nat.lt_of_lt_of_le (ready_lt2 hi) hm) hs) h'.2⟩) (h.2 i hi)⟩
end

end Go.Proofs.YtdhafdejionefaaGreat
