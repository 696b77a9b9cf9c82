/- The document's first frame: walk. -/
import Derived.Test.YtnkenkdglcmpdaaRefC
namespace Go.Proofs.Ytnkenkdglcmpdaa
set_option linter.unusedVariables false
set_option linter.unusedSimpArgs false
open Go.RowKit

def FirstPost (w : World) (r : Option (UInt8 × List UInt8 × Nat)) (e : Ending) (w' : World) : Prop :=
  Below w.heap.size w w' ∧ match r with
  | none => e = .returned (.tuple #[.int .u8 0, .slice none 0 0, .int .i64 0])
  | some (k, T, n) => ∃ v, e = .returned (.tuple #[.int .u8 (k.toNat : Int), v, .int .i64 (n : Int)]) ∧ CB w.heap.size (fun _ => False) w' v T
theorem FirstPost.no {w w' : World} {r : Option (UInt8 × List UInt8 × Nat)} {e : Ending} (h : r = none) (he : e = .returned (.tuple #[.int .u8 0, .slice none 0 0, .int .i64 0])) (hb : Below w.heap.size w w') : FirstPost w r e w' := by
  subst h; exact ⟨hb, he⟩
theorem rread_n (B : Nat) (A : Option Addr) (c n : Nat) (xs : List UInt8) (w : World) (hn : n = xs.length) (hB : B ≤ w.heap.size) (hr : RB w A xs) (hl : xs.length ≤ 140737488355328) :
    Calls Try.prog 98 #[.slice A n c] w fun e w' => ∃ pb, e = .returned (.pointer (some ⟨pb, 0, none⟩)) ∧ B ≤ pb ∧ RRd w' pb xs 0 0 ∧ Below B w w' := by
  subst hn; exact rread_any B A c xs w hB hr hl
theorem firstP_short {b : List UInt8} (h : b.length < 4) : firstP b = none := by
  match b with
  | [] => rfl
  | [_] => rfl
  | [_, _] => rfl
  | [_, _, _] => rfl
  | _ :: _ :: _ :: _ :: _ => simp at h; omega
set_option maxRecDepth 100000 in
set_option maxHeartbeats 4000000 in
theorem rfirst_any (A : Option Addr) (c : Nat) (b : List UInt8) (w : World) (hr : RB w A b) (hc : b.length ≤ c) (hl : b.length ≤ 1000000000) :
    Calls Try.prog 83 #[.slice A b.length c] w (FirstPost w (firstP b)) := by
  by_cases hlt : b.length < 4
  · rw [firstP_short hlt]
    obtain ⟨L, hL⟩ : ∃ L, L = b.length := ⟨_, rfl⟩
    rw [← hL] at hlt hl hc ⊢
    clear hL hr
    go_enter Try.func83, Try.ntmps83
    go_wp2_with fail
    go_ret3
    exact .no rfl rfl (Below.refl _ _)
  match b with
  | [] => exact absurd (by simp) hlt
  | [_] => exact absurd (by simp) hlt
  | [_, _] => exact absurd (by simp) hlt
  | [_, _, _] => exact absurd (by simp) hlt
  | x0 :: x1 :: x2 :: k :: b4 =>
    obtain ⟨R, hR⟩ : ∃ R, R = firstP (x0 :: x1 :: x2 :: k :: b4) := ⟨_, rfl⟩
    rw [← hR]
    rw [firstP_ref] at hR
    obtain ⟨bb, off, rfl, hbb, hcl⟩ := hr.2 (by simp)
    have hk3 : w.cell? ⟨bb, off + 3, none⟩ = some (.int .u8 (k.toNat : Int)) := hcl 3 (by simp)
    have hr4 : RB w (some ⟨bb, off + 4, none⟩) b4 := hr.drop 4
    obtain ⟨n, hn⟩ : ∃ n, n = b4.length := ⟨_, rfl⟩
    have hlen : (x0 :: x1 :: x2 :: k :: b4).length = n + 4 := by simp [hn]
    rw [hlen] at hc hl ⊢
    obtain ⟨q, hq⟩ : ∃ q, q = k.toNat := ⟨_, rfl⟩
    have hq256 : q < 256 := by rw [hq]; exact k.toNat_lt
    rw [← hq] at hk3
    have HQ := Lib.hid hq
    have HN := Lib.hid hn
    have HR := Lib.hid hR
    have HRB := Lib.hid hr
    have HR4 := Lib.hid hr4
    clear hq hn hR hr hr4 hcl hlen hlt
    by_cases h0 : n = 0
    · obtain rfl : b4 = [] := List.eq_nil_of_length_eq_zero (by rw [← HN.out]; exact h0)
      subst h0
      have hRn : R = none := by rw [HR.out, if_pos (.inl (by decide))]
      subst hRn
      go_enter Try.func83, Try.ntmps83
      by_cases hc4 : c = 4
      all_goals (try subst hc4)
      all_goals go_wp2_with fail
      all_goals (
        refine (rread_n w.heap.size _ _ 0 [] w rfl (Nat.le_refl _) (RB.nil _ _) (by simp)).mono ?_
        rintro e w1 ⟨pb, rfl, hpb, hrd, hb1⟩
        have HB1 := Lib.hid hb1
        have HW1 : w.heap.size ≤ w1.heap.size := hb1.size
        clear hb1)
      all_goals go_wp2_with fail
      all_goals (
        refine (rtext_any pb 4194304 [] w1 hrd (by simp)).mono ?_
        rw [show textR 4194304 [] = ([], [], 10) from rfl]
        rintro e w2 ⟨rfl, hd⟩
        have HB2 := Lib.hid (HB1.out.trans (rd_below hd.2 hpb HW1))
        obtain ⟨⟨A5, c5, h5⟩, _⟩ := hd
        have hE : w2.cell? ⟨pb, 2, none⟩ = some (.int .i64 10) := h5.blk.cell 2
        clear h5 hrd)
      all_goals go_wp2_with fail
      all_goals go_ret3
      all_goals exact .no rfl rfl HB2.out
    · have hc4 : ¬ c = 4 := by omega
      go_enter Try.func83, Try.ntmps83
      go_wp2_with fail
      refine (rread_n w.heap.size _ _ n b4 w HN.out (Nat.le_refl _) HR4.out (by rw [← HN.out]; omega)).mono ?_
      rintro e w1 ⟨pb, rfl, hpb, hrd, hb1⟩
      have HB1 := Lib.hid hb1
      have HW1 : w.heap.size ≤ w1.heap.size := hb1.size
      clear hb1
      go_wp2_with fail
      refine (rtext_any pb 4194304 b4 w1 hrd (by rw [← HN.out]; omega)).mono ?_
      rintro e w2 ⟨rfl, hd⟩
      have HB2 := Lib.hid (HB1.out.trans (rd_below hd.2 hpb HW1))
      obtain ⟨⟨A5, c5, h5⟩, _⟩ := hd
      have hE : w2.cell? ⟨pb, 2, none⟩ = some (.int .i64 (textR 4194304 b4).2.2) := h5.blk.cell 2
      have hP : w2.cell? ⟨pb, 1, none⟩ = some (.int .i64 (placeT 4194304 b4 : Int)) := h5.blk.cell 1
      have hR := HR.out
      have hp := placeT_le 4194304 b4
      rw [← HN.out] at hp
      obtain ⟨p, hpp⟩ : ∃ p, p = placeT 4194304 b4 := ⟨_, rfl⟩
      have hTl : (textR 4194304 b4).1.length ≤ 4194304 := by
        unfold textR
        split
        · simp
        · split
          · simp
          · split
            · simp
            · rename_i _ h _; simp only [List.length_take]; omega
      obtain ⟨T, hT⟩ : ∃ T, T = (textR 4194304 b4).1 := ⟨_, rfl⟩
      obtain ⟨E, hEE⟩ : ∃ E, E = (textR 4194304 b4).2.2 := ⟨_, rfl⟩
      rw [← hpp] at hP hR hp
      rw [← hT] at hR hTl ⊢
      rw [← hEE] at hE hR
      have HTL := Lib.hid hTl
      clear hpp hT hEE h5 hrd HR hTl
      have HW2 : w.heap.size ≤ w2.heap.size := HB2.out.size
      by_cases he : E = 0
      · subst he
        by_cases hk : q ≠ 68 ∧ q ≠ 71
        · have hkk : k ≠ 68 ∧ k ≠ 71 := ⟨fun e => hk.1 (by rw [HQ.out, e]; rfl), fun e => hk.2 (by rw [HQ.out, e]; rfl)⟩
          have hRn : R = none := by rw [hR, if_pos (.inr hkk)]
          subst hRn
          have hk1 : ((q : Int) != 68) = true := by have := hk.1; simp; omega
          have hk2 : ((q : Int) != 71) = true := by have := hk.2; simp; omega
          clear hk hkk hR
          go_wp2_with fail
          go_ret3
          exact .no rfl rfl HB2.out
        · have hkk : ¬ (k ≠ 68 ∧ k ≠ 71) := fun h => hk ⟨fun e => h.1 (UInt8.toNat_inj.1 (by rw [← HQ.out, e]; rfl)), fun e => h.2 (UInt8.toNat_inj.1 (by rw [← HQ.out, e]; rfl))⟩
          rw [if_neg (fun h => h.elim (fun h => h rfl) hkk)] at hR
          have HR := Lib.hid hR
          clear hR hkk
          have hq2 : q = 68 ∨ q = 71 := by omega
          have hc4p : 4 + p ≤ c := by omega
          have hcb : ∀ W, Below w2.heap.size w2 W → (convert 22 9 (.slice (some ⟨bb, off, none⟩) (4 + p) c)).run Try.prog W = .ok (.string (strB ((x0 :: x1 :: x2 :: k :: b4).take (4 + p)))) W := fun W hW =>
            run_str (((HRB.out.below HB2.out).below hW).take (4 + p)) (4 + p) c (by rw [List.length_take]; simp; rw [← HN.out]; omega)
          obtain ⟨sf, hsf⟩ : ∃ sf, sf = strB (frameB k T) := ⟨_, rfl⟩
          obtain ⟨sb, hsb⟩ : ∃ sb, sb = strB ((x0 :: x1 :: x2 :: k :: b4).take (4 + p)) := ⟨_, rfl⟩
          rw [← hsb] at hcb
          have HCB := Lib.hid hcb
          have HSF := Lib.hid hsf
          clear hcb
          by_cases hfr : frameB k T = (x0 :: x1 :: x2 :: k :: b4).take (4 + p)
          · obtain rfl : sf = sb := by rw [hsf, hsb, hfr]
            have HFR := Lib.hid hfr
            clear hfr hsf hsb
            rcases hq2 with rfl | rfl
            · have hRs : R = some (k, T, 4 + p) := by
                rw [HR.out, if_neg (by simp [HFR.out]), if_neg (by rintro ⟨h, _⟩; have := HQ.out; rw [h] at this; exact absurd this (by decide))]
              have HRS := Lib.hid hRs
              clear hRs
              go_wp2_with fail
              refine wp_region_phased (fun W => Below w2.heap.size w2 W) 10 (by kernel_rfl) (Below.refl _ _).drew (fun hS => ?_)
              refine wpAnyP_pure (v := ?_) 0 (at_toArray rfl) (by kernel_rfl) (by kernel_rfl) (by kernel_rfl) (fun _ _ _ h => h) (Or.inl ⟨by rfl, fun W => ?_⟩) ?_
              rotate_left 1
              · (go_simp <;> (try go_bits) <;> with_reducible rfl)
              simp only [Act.put, List.setIfInBounds_toArray, List.set_cons_zero, List.set_cons_succ]
              refine wpAnyP_pure (v := ?_) 1 (at_toArray rfl) (by kernel_rfl) (by kernel_rfl) (by kernel_rfl) (fun _ _ _ h => h) (Or.inl ⟨by rfl, fun W => ?_⟩) ?_
              rotate_left 1
              · (go_simp <;> (try go_bits) <;> with_reducible rfl)
              simp only [Act.put, List.setIfInBounds_toArray, List.set_cons_zero, List.set_cons_succ]
              refine wpAnyP_pure (v := ?_) 5 (at_toArray rfl) (by kernel_rfl) (by kernel_rfl) (by kernel_rfl) (fun _ _ _ h => h) (Or.inl ⟨by rfl, fun W => ?_⟩) ?_
              rotate_left 1
              · (go_simp <;> (try go_bits) <;> with_reducible rfl)
              simp only [Act.put, List.setIfInBounds_toArray, List.set_cons_zero, List.set_cons_succ]
              refine wpAnyP_pure (v := ?_) 6 (at_toArray rfl) (by kernel_rfl) (by kernel_rfl) (by kernel_rfl) (fun _ _ _ h => h) (Or.inl ⟨by rfl, fun W => ?_⟩) ?_
              rotate_left 1
              · (go_simp <;> (try go_bits) <;> with_reducible rfl)
              simp only [Act.put, List.setIfInBounds_toArray, List.set_cons_zero, List.set_cons_succ]
              refine wpAnyP_pure (v := ?_) 7 (at_toArray rfl) (by kernel_rfl) (by kernel_rfl) (by kernel_rfl) (fun _ _ _ h => h) (Or.inl ⟨by rfl, fun W => ?_⟩) ?_
              rotate_left 1
              · (go_simp <;> (try go_bits) <;> ((rw [if_pos (show (0 : Int) ≤ 4 + (p : Int) ∧ 4 + (p : Int) ≤ (c : Int) from ⟨by omega, by omega⟩)])) <;> with_reducible rfl)
              simp only [Act.put, List.setIfInBounds_toArray, List.set_cons_zero, List.set_cons_succ]
              refine wpAnyP_load (v := ?_) 8 (by kernel_rfl) (at_toArray rfl) (by kernel_rfl) (by kernel_rfl) (by kernel_rfl) (fun _ _ _ h => h) (by first | assumption | rfl) (Or.inl ⟨by rfl, fun W hS => ?_⟩) ?_
              rotate_left 1
              · (have hc := HCB.out W hS; go_simp <;> (try go_bits) <;> with_reducible rfl)
              simp only [Act.put, List.setIfInBounds_toArray, List.set_cons_zero, List.set_cons_succ]
              obtain ⟨w3, c3, hcv, hrT, hcT, hb3⟩ := conv_bytes w2.drew T (by have := HTL.out; omega)
              have HRT := Lib.hid hrT
              have HB3 := Lib.hid ((Below.refl w2.heap.size w2).drew.trans hb3)
              have hs3 : w2.heap.size ≤ w3.heap.size := HB3.out.size
              clear hrT hb3 hcT
              refine wpAnyP_one 2 (at_toArray rfl) (by kernel_rfl) rfl (fun K hK => ?_)
              go_wp2_with fail
              refine hK.out _ _ (fun _ _ => HB3.out) ?_
              clear hK hcv
              refine wpAnyP_one 3 (at_toArray rfl) (by kernel_rfl) rfl (fun K hK => ?_)
              go_wp2_with fail
              have hfrm : Calls Try.prog 54 #[.int .u8 68, .slice (some ⟨w2.heap.size, 0, none⟩) T.length c3] w3 fun e w' => ∃ v, e = .returned v ∧ OBB w2.heap.size w' v (frameB k T) ∧ Below w2.heap.size w3 w' := by
                have := rframe_any w2.heap.size k (some ⟨w2.heap.size, 0, none⟩) c3 T w3 hs3 HRT.out (by have := HTL.out; omega)
                rw [← HQ.out] at this
                exact this
              refine hfrm.mono ?_
              clear hfrm
              rintro e w4 ⟨v, rfl, hv, hb4⟩
              have HB4 := Lib.hid (HB3.out.trans hb4)
              have hfl : (frameB k T).length ≤ 140737488355328 := by
                have := frameB_len k T
                have := nbytes_small (n := T.length) (by have := HTL.out; omega)
                have := HTL.out
                omega
              obtain ⟨A6, c6, rfl, hr6, _⟩ := hv.reads' hfl
              have hcv4 := run_str hr6 _ c6 rfl
              rw [← HSF.out] at hcv4
              clear hv hb4 hr6 hfl HRT
              go_wp2_with fail
              refine hK.out _ _ (fun _ _ => HB4.out) ?_
              clear hK
              refine wpAnyP_one 4 (at_toArray rfl) (by kernel_rfl) rfl (fun K hK => ?_)
              go_wp2_with fail
              refine hK.out _ _ (fun _ _ => HB4.out) ?_
              clear hK hcv4
              refine wpAnyP_pure (v := ?_) 9 (at_toArray rfl) (by kernel_rfl) (by kernel_rfl) (by kernel_rfl) (fun _ _ _ h => h) (Or.inl ⟨by rfl, fun W => ?_⟩) ?_
              rotate_left 1
              · (go_simp <;> (try go_bits) <;> with_reducible rfl)
              simp only [Act.put, List.setIfInBounds_toArray, List.set_cons_zero, List.set_cons_succ]
              refine wpAnyP_done (by kernel_rfl) ?_ _
              have HB4 := Lib.hid (HB2.out.trans (Below.up HB4.out HW2))
              have hs4 : w.heap.size ≤ w4.heap.size := HB4.out.size
              have HBW := HB4
              have HSW := hs4
              obtain ⟨w7, c7, hcv7, hrT7, hcT7, hb7⟩ := conv_bytes w4 T (by have := HTL.out; omega)
              have HR7 := Lib.hid hrT7
              have HC7 := Lib.hid hcT7
              have HB7 := Lib.hid (HBW.out.trans (Below.up hb7 HSW))
              clear hrT7 hcT7 hb7
              go_wp2_with fail
              go_ret3
              rw [HRS.out]
              exact ⟨HB7.out, _, by rw [← HQ.out]; rfl, _, _, rfl, HC7.out, HR7.out, fun a ha _ => by cases ha; exact ⟨HSW, fun h => h⟩⟩
            · by_cases hno : numberP T = 0
              · have hRs : R = none := by
                  rw [HR.out, if_neg (by simp [HFR.out]), if_pos ⟨UInt8.toNat_inj.1 (by rw [← HQ.out]; rfl), hno⟩]
                have HRS := Lib.hid hRs
                have HNO := Lib.hid hno
                clear hRs hno
                go_wp2_with fail
                refine wp_region_phased (fun W => Below w2.heap.size w2 W) 10 (by kernel_rfl) (Below.refl _ _).drew (fun hS => ?_)
                refine wpAnyP_pure (v := ?_) 0 (at_toArray rfl) (by kernel_rfl) (by kernel_rfl) (by kernel_rfl) (fun _ _ _ h => h) (Or.inl ⟨by rfl, fun W => ?_⟩) ?_
                rotate_left 1
                · (go_simp <;> (try go_bits) <;> with_reducible rfl)
                simp only [Act.put, List.setIfInBounds_toArray, List.set_cons_zero, List.set_cons_succ]
                refine wpAnyP_pure (v := ?_) 1 (at_toArray rfl) (by kernel_rfl) (by kernel_rfl) (by kernel_rfl) (fun _ _ _ h => h) (Or.inl ⟨by rfl, fun W => ?_⟩) ?_
                rotate_left 1
                · (go_simp <;> (try go_bits) <;> with_reducible rfl)
                simp only [Act.put, List.setIfInBounds_toArray, List.set_cons_zero, List.set_cons_succ]
                refine wpAnyP_pure (v := ?_) 5 (at_toArray rfl) (by kernel_rfl) (by kernel_rfl) (by kernel_rfl) (fun _ _ _ h => h) (Or.inl ⟨by rfl, fun W => ?_⟩) ?_
                rotate_left 1
                · (go_simp <;> (try go_bits) <;> with_reducible rfl)
                simp only [Act.put, List.setIfInBounds_toArray, List.set_cons_zero, List.set_cons_succ]
                refine wpAnyP_pure (v := ?_) 6 (at_toArray rfl) (by kernel_rfl) (by kernel_rfl) (by kernel_rfl) (fun _ _ _ h => h) (Or.inl ⟨by rfl, fun W => ?_⟩) ?_
                rotate_left 1
                · (go_simp <;> (try go_bits) <;> with_reducible rfl)
                simp only [Act.put, List.setIfInBounds_toArray, List.set_cons_zero, List.set_cons_succ]
                refine wpAnyP_pure (v := ?_) 7 (at_toArray rfl) (by kernel_rfl) (by kernel_rfl) (by kernel_rfl) (fun _ _ _ h => h) (Or.inl ⟨by rfl, fun W => ?_⟩) ?_
                rotate_left 1
                · (go_simp <;> (try go_bits) <;> ((rw [if_pos (show (0 : Int) ≤ 4 + (p : Int) ∧ 4 + (p : Int) ≤ (c : Int) from ⟨by omega, by omega⟩)])) <;> with_reducible rfl)
                simp only [Act.put, List.setIfInBounds_toArray, List.set_cons_zero, List.set_cons_succ]
                refine wpAnyP_load (v := ?_) 8 (by kernel_rfl) (at_toArray rfl) (by kernel_rfl) (by kernel_rfl) (by kernel_rfl) (fun _ _ _ h => h) (by first | assumption | rfl) (Or.inl ⟨by rfl, fun W hS => ?_⟩) ?_
                rotate_left 1
                · (have hc := HCB.out W hS; go_simp <;> (try go_bits) <;> with_reducible rfl)
                simp only [Act.put, List.setIfInBounds_toArray, List.set_cons_zero, List.set_cons_succ]
                obtain ⟨w3, c3, hcv, hrT, hcT, hb3⟩ := conv_bytes w2.drew T (by have := HTL.out; omega)
                have HRT := Lib.hid hrT
                have HB3 := Lib.hid ((Below.refl w2.heap.size w2).drew.trans hb3)
                have hs3 : w2.heap.size ≤ w3.heap.size := HB3.out.size
                clear hrT hb3 hcT
                refine wpAnyP_one 2 (at_toArray rfl) (by kernel_rfl) rfl (fun K hK => ?_)
                go_wp2_with fail
                refine hK.out _ _ (fun _ _ => HB3.out) ?_
                clear hK hcv
                refine wpAnyP_one 3 (at_toArray rfl) (by kernel_rfl) rfl (fun K hK => ?_)
                go_wp2_with fail
                have hfrm : Calls Try.prog 54 #[.int .u8 71, .slice (some ⟨w2.heap.size, 0, none⟩) T.length c3] w3 fun e w' => ∃ v, e = .returned v ∧ OBB w2.heap.size w' v (frameB k T) ∧ Below w2.heap.size w3 w' := by
                  have := rframe_any w2.heap.size k (some ⟨w2.heap.size, 0, none⟩) c3 T w3 hs3 HRT.out (by have := HTL.out; omega)
                  rw [← HQ.out] at this
                  exact this
                refine hfrm.mono ?_
                clear hfrm
                rintro e w4 ⟨v, rfl, hv, hb4⟩
                have HB4 := Lib.hid (HB3.out.trans hb4)
                have hfl : (frameB k T).length ≤ 140737488355328 := by
                  have := frameB_len k T
                  have := nbytes_small (n := T.length) (by have := HTL.out; omega)
                  have := HTL.out
                  omega
                obtain ⟨A6, c6, rfl, hr6, _⟩ := hv.reads' hfl
                have hcv4 := run_str hr6 _ c6 rfl
                rw [← HSF.out] at hcv4
                clear hv hb4 hr6 hfl HRT
                go_wp2_with fail
                refine hK.out _ _ (fun _ _ => HB4.out) ?_
                clear hK
                refine wpAnyP_one 4 (at_toArray rfl) (by kernel_rfl) rfl (fun K hK => ?_)
                go_wp2_with fail
                refine hK.out _ _ (fun _ _ => HB4.out) ?_
                clear hK hcv4
                refine wpAnyP_pure (v := ?_) 9 (at_toArray rfl) (by kernel_rfl) (by kernel_rfl) (by kernel_rfl) (fun _ _ _ h => h) (Or.inl ⟨by rfl, fun W => ?_⟩) ?_
                rotate_left 1
                · (go_simp <;> (try go_bits) <;> with_reducible rfl)
                simp only [Act.put, List.setIfInBounds_toArray, List.set_cons_zero, List.set_cons_succ]
                refine wpAnyP_done (by kernel_rfl) ?_ _
                have HB4 := Lib.hid (HB2.out.trans (Below.up HB4.out HW2))
                have hs4 : w.heap.size ≤ w4.heap.size := HB4.out.size
                obtain ⟨w7, c7, hcv7, hrT7, hcT7, hb7⟩ := conv_bytes w4 T (by have := HTL.out; omega)
                have HR7 := Lib.hid hrT7
                have HB7 := Lib.hid (HB4.out.trans (Below.up hb7 hs4))
                have hs7 : w.heap.size ≤ w7.heap.size := HB7.out.size
                clear hrT7 hcT7 hb7
                go_wp2_with fail
                refine (rturn_any w.heap.size (some ⟨w4.heap.size, 0, none⟩) c7 T w7 hs7 HR7.out (by have := HTL.out; omega)).mono ?_
                rw [HNO.out]
                clear hcv7
                rintro e w8 ⟨rfl, hb8⟩
                have HB8 := Lib.hid (HB7.out.trans hb8)
                clear hb8
                go_wp2_with fail
                go_ret3
                exact .no HRS.out rfl HB8.out
              · have hRs : R = some (k, T, 4 + p) := by
                  rw [HR.out, if_neg (by simp [HFR.out]), if_neg (fun h => hno h.2)]
                have HRS := Lib.hid hRs
                have HNO := Lib.hid hno
                clear hRs hno
                go_wp2_with fail
                refine wp_region_phased (fun W => Below w2.heap.size w2 W) 10 (by kernel_rfl) (Below.refl _ _).drew (fun hS => ?_)
                refine wpAnyP_pure (v := ?_) 0 (at_toArray rfl) (by kernel_rfl) (by kernel_rfl) (by kernel_rfl) (fun _ _ _ h => h) (Or.inl ⟨by rfl, fun W => ?_⟩) ?_
                rotate_left 1
                · (go_simp <;> (try go_bits) <;> with_reducible rfl)
                simp only [Act.put, List.setIfInBounds_toArray, List.set_cons_zero, List.set_cons_succ]
                refine wpAnyP_pure (v := ?_) 1 (at_toArray rfl) (by kernel_rfl) (by kernel_rfl) (by kernel_rfl) (fun _ _ _ h => h) (Or.inl ⟨by rfl, fun W => ?_⟩) ?_
                rotate_left 1
                · (go_simp <;> (try go_bits) <;> with_reducible rfl)
                simp only [Act.put, List.setIfInBounds_toArray, List.set_cons_zero, List.set_cons_succ]
                refine wpAnyP_pure (v := ?_) 5 (at_toArray rfl) (by kernel_rfl) (by kernel_rfl) (by kernel_rfl) (fun _ _ _ h => h) (Or.inl ⟨by rfl, fun W => ?_⟩) ?_
                rotate_left 1
                · (go_simp <;> (try go_bits) <;> with_reducible rfl)
                simp only [Act.put, List.setIfInBounds_toArray, List.set_cons_zero, List.set_cons_succ]
                refine wpAnyP_pure (v := ?_) 6 (at_toArray rfl) (by kernel_rfl) (by kernel_rfl) (by kernel_rfl) (fun _ _ _ h => h) (Or.inl ⟨by rfl, fun W => ?_⟩) ?_
                rotate_left 1
                · (go_simp <;> (try go_bits) <;> with_reducible rfl)
                simp only [Act.put, List.setIfInBounds_toArray, List.set_cons_zero, List.set_cons_succ]
                refine wpAnyP_pure (v := ?_) 7 (at_toArray rfl) (by kernel_rfl) (by kernel_rfl) (by kernel_rfl) (fun _ _ _ h => h) (Or.inl ⟨by rfl, fun W => ?_⟩) ?_
                rotate_left 1
                · (go_simp <;> (try go_bits) <;> ((rw [if_pos (show (0 : Int) ≤ 4 + (p : Int) ∧ 4 + (p : Int) ≤ (c : Int) from ⟨by omega, by omega⟩)])) <;> with_reducible rfl)
                simp only [Act.put, List.setIfInBounds_toArray, List.set_cons_zero, List.set_cons_succ]
                refine wpAnyP_load (v := ?_) 8 (by kernel_rfl) (at_toArray rfl) (by kernel_rfl) (by kernel_rfl) (by kernel_rfl) (fun _ _ _ h => h) (by first | assumption | rfl) (Or.inl ⟨by rfl, fun W hS => ?_⟩) ?_
                rotate_left 1
                · (have hc := HCB.out W hS; go_simp <;> (try go_bits) <;> with_reducible rfl)
                simp only [Act.put, List.setIfInBounds_toArray, List.set_cons_zero, List.set_cons_succ]
                obtain ⟨w3, c3, hcv, hrT, hcT, hb3⟩ := conv_bytes w2.drew T (by have := HTL.out; omega)
                have HRT := Lib.hid hrT
                have HB3 := Lib.hid ((Below.refl w2.heap.size w2).drew.trans hb3)
                have hs3 : w2.heap.size ≤ w3.heap.size := HB3.out.size
                clear hrT hb3 hcT
                refine wpAnyP_one 2 (at_toArray rfl) (by kernel_rfl) rfl (fun K hK => ?_)
                go_wp2_with fail
                refine hK.out _ _ (fun _ _ => HB3.out) ?_
                clear hK hcv
                refine wpAnyP_one 3 (at_toArray rfl) (by kernel_rfl) rfl (fun K hK => ?_)
                go_wp2_with fail
                have hfrm : Calls Try.prog 54 #[.int .u8 71, .slice (some ⟨w2.heap.size, 0, none⟩) T.length c3] w3 fun e w' => ∃ v, e = .returned v ∧ OBB w2.heap.size w' v (frameB k T) ∧ Below w2.heap.size w3 w' := by
                  have := rframe_any w2.heap.size k (some ⟨w2.heap.size, 0, none⟩) c3 T w3 hs3 HRT.out (by have := HTL.out; omega)
                  rw [← HQ.out] at this
                  exact this
                refine hfrm.mono ?_
                clear hfrm
                rintro e w4 ⟨v, rfl, hv, hb4⟩
                have HB4 := Lib.hid (HB3.out.trans hb4)
                have hfl : (frameB k T).length ≤ 140737488355328 := by
                  have := frameB_len k T
                  have := nbytes_small (n := T.length) (by have := HTL.out; omega)
                  have := HTL.out
                  omega
                obtain ⟨A6, c6, rfl, hr6, _⟩ := hv.reads' hfl
                have hcv4 := run_str hr6 _ c6 rfl
                rw [← HSF.out] at hcv4
                clear hv hb4 hr6 hfl HRT
                go_wp2_with fail
                refine hK.out _ _ (fun _ _ => HB4.out) ?_
                clear hK
                refine wpAnyP_one 4 (at_toArray rfl) (by kernel_rfl) rfl (fun K hK => ?_)
                go_wp2_with fail
                refine hK.out _ _ (fun _ _ => HB4.out) ?_
                clear hK hcv4
                refine wpAnyP_pure (v := ?_) 9 (at_toArray rfl) (by kernel_rfl) (by kernel_rfl) (by kernel_rfl) (fun _ _ _ h => h) (Or.inl ⟨by rfl, fun W => ?_⟩) ?_
                rotate_left 1
                · (go_simp <;> (try go_bits) <;> with_reducible rfl)
                simp only [Act.put, List.setIfInBounds_toArray, List.set_cons_zero, List.set_cons_succ]
                refine wpAnyP_done (by kernel_rfl) ?_ _
                have HB4 := Lib.hid (HB2.out.trans (Below.up HB4.out HW2))
                have hs4 : w.heap.size ≤ w4.heap.size := HB4.out.size
                obtain ⟨w7, c7, hcv7, hrT7, hcT7, hb7⟩ := conv_bytes w4 T (by have := HTL.out; omega)
                have HR7 := Lib.hid hrT7
                have HB7 := Lib.hid (HB4.out.trans (Below.up hb7 hs4))
                have hs7 : w.heap.size ≤ w7.heap.size := HB7.out.size
                clear hrT7 hcT7 hb7
                go_wp2_with fail
                refine (rturn_any w.heap.size (some ⟨w4.heap.size, 0, none⟩) c7 T w7 hs7 HR7.out (by have := HTL.out; omega)).mono ?_
                obtain ⟨tn, htn⟩ : ∃ tn, tn = numberP T := ⟨_, rfl⟩
                rw [← htn]
                have htz : (tn == 0) = false := by have := HNO.out; simp [htn, this]
                clear hcv7 htn
                rintro e w8 ⟨rfl, hb8⟩
                have HB8 := Lib.hid (HB7.out.trans hb8)
                have hs8 : w.heap.size ≤ w8.heap.size := HB8.out.size
                clear hb8 HR7
                have HBW := HB8
                have HSW := hs8
                obtain ⟨w9, c9, hcv9, hrT9, hcT9, hb9⟩ := conv_bytes w8 T (by have := HTL.out; omega)
                have HR9 := Lib.hid hrT9
                have HC9 := Lib.hid hcT9
                have HB9 := Lib.hid (HB8.out.trans (Below.up hb9 hs8))
                clear hrT9 hcT9 hb9
                go_wp2_with fail
                go_ret3
                rw [HRS.out]
                exact ⟨HB9.out, _, by rw [← HQ.out]; rfl, _, _, rfl, HC9.out, HR9.out, fun a ha _ => by cases ha; exact ⟨hs8, fun h => h⟩⟩
          · have hRs : R = none := by rw [HR.out, if_pos hfr]
            have hne : (sf.toList == sb.toList) = false := by
              rw [ByteArray.toList_eq, ByteArray.toList_eq, hsf, hsb]
              simp [strB, hfr]
            have HRS := Lib.hid hRs
            clear hRs hfr hsf hsb
            rcases hq2 with rfl | rfl
            · go_wp2_with fail
              refine wp_region_phased (fun W => Below w2.heap.size w2 W) 10 (by kernel_rfl) (Below.refl _ _).drew (fun hS => ?_)
              refine wpAnyP_pure (v := ?_) 0 (at_toArray rfl) (by kernel_rfl) (by kernel_rfl) (by kernel_rfl) (fun _ _ _ h => h) (Or.inl ⟨by rfl, fun W => ?_⟩) ?_
              rotate_left 1
              · (go_simp <;> (try go_bits) <;> with_reducible rfl)
              simp only [Act.put, List.setIfInBounds_toArray, List.set_cons_zero, List.set_cons_succ]
              refine wpAnyP_pure (v := ?_) 1 (at_toArray rfl) (by kernel_rfl) (by kernel_rfl) (by kernel_rfl) (fun _ _ _ h => h) (Or.inl ⟨by rfl, fun W => ?_⟩) ?_
              rotate_left 1
              · (go_simp <;> (try go_bits) <;> with_reducible rfl)
              simp only [Act.put, List.setIfInBounds_toArray, List.set_cons_zero, List.set_cons_succ]
              refine wpAnyP_pure (v := ?_) 5 (at_toArray rfl) (by kernel_rfl) (by kernel_rfl) (by kernel_rfl) (fun _ _ _ h => h) (Or.inl ⟨by rfl, fun W => ?_⟩) ?_
              rotate_left 1
              · (go_simp <;> (try go_bits) <;> with_reducible rfl)
              simp only [Act.put, List.setIfInBounds_toArray, List.set_cons_zero, List.set_cons_succ]
              refine wpAnyP_pure (v := ?_) 6 (at_toArray rfl) (by kernel_rfl) (by kernel_rfl) (by kernel_rfl) (fun _ _ _ h => h) (Or.inl ⟨by rfl, fun W => ?_⟩) ?_
              rotate_left 1
              · (go_simp <;> (try go_bits) <;> with_reducible rfl)
              simp only [Act.put, List.setIfInBounds_toArray, List.set_cons_zero, List.set_cons_succ]
              refine wpAnyP_pure (v := ?_) 7 (at_toArray rfl) (by kernel_rfl) (by kernel_rfl) (by kernel_rfl) (fun _ _ _ h => h) (Or.inl ⟨by rfl, fun W => ?_⟩) ?_
              rotate_left 1
              · (go_simp <;> (try go_bits) <;> ((rw [if_pos (show (0 : Int) ≤ 4 + (p : Int) ∧ 4 + (p : Int) ≤ (c : Int) from ⟨by omega, by omega⟩)])) <;> with_reducible rfl)
              simp only [Act.put, List.setIfInBounds_toArray, List.set_cons_zero, List.set_cons_succ]
              refine wpAnyP_load (v := ?_) 8 (by kernel_rfl) (at_toArray rfl) (by kernel_rfl) (by kernel_rfl) (by kernel_rfl) (fun _ _ _ h => h) (by first | assumption | rfl) (Or.inl ⟨by rfl, fun W hS => ?_⟩) ?_
              rotate_left 1
              · (have hc := HCB.out W hS; go_simp <;> (try go_bits) <;> with_reducible rfl)
              simp only [Act.put, List.setIfInBounds_toArray, List.set_cons_zero, List.set_cons_succ]
              obtain ⟨w3, c3, hcv, hrT, hcT, hb3⟩ := conv_bytes w2.drew T (by have := HTL.out; omega)
              have HRT := Lib.hid hrT
              have HB3 := Lib.hid ((Below.refl w2.heap.size w2).drew.trans hb3)
              have hs3 : w2.heap.size ≤ w3.heap.size := HB3.out.size
              clear hrT hb3 hcT
              refine wpAnyP_one 2 (at_toArray rfl) (by kernel_rfl) rfl (fun K hK => ?_)
              go_wp2_with fail
              refine hK.out _ _ (fun _ _ => HB3.out) ?_
              clear hK hcv
              refine wpAnyP_one 3 (at_toArray rfl) (by kernel_rfl) rfl (fun K hK => ?_)
              go_wp2_with fail
              have hfrm : Calls Try.prog 54 #[.int .u8 68, .slice (some ⟨w2.heap.size, 0, none⟩) T.length c3] w3 fun e w' => ∃ v, e = .returned v ∧ OBB w2.heap.size w' v (frameB k T) ∧ Below w2.heap.size w3 w' := by
                have := rframe_any w2.heap.size k (some ⟨w2.heap.size, 0, none⟩) c3 T w3 hs3 HRT.out (by have := HTL.out; omega)
                rw [← HQ.out] at this
                exact this
              refine hfrm.mono ?_
              clear hfrm
              rintro e w4 ⟨v, rfl, hv, hb4⟩
              have HB4 := Lib.hid (HB3.out.trans hb4)
              have hfl : (frameB k T).length ≤ 140737488355328 := by
                have := frameB_len k T
                have := nbytes_small (n := T.length) (by have := HTL.out; omega)
                have := HTL.out
                omega
              obtain ⟨A6, c6, rfl, hr6, _⟩ := hv.reads' hfl
              have hcv4 := run_str hr6 _ c6 rfl
              rw [← HSF.out] at hcv4
              clear hv hb4 hr6 hfl HRT
              go_wp2_with fail
              refine hK.out _ _ (fun _ _ => HB4.out) ?_
              clear hK
              refine wpAnyP_one 4 (at_toArray rfl) (by kernel_rfl) rfl (fun K hK => ?_)
              go_wp2_with fail
              refine hK.out _ _ (fun _ _ => HB4.out) ?_
              clear hK hcv4
              refine wpAnyP_pure (v := ?_) 9 (at_toArray rfl) (by kernel_rfl) (by kernel_rfl) (by kernel_rfl) (fun _ _ _ h => h) (Or.inl ⟨by rfl, fun W => ?_⟩) ?_
              rotate_left 1
              · (go_simp <;> (try go_bits) <;> with_reducible rfl)
              simp only [Act.put, List.setIfInBounds_toArray, List.set_cons_zero, List.set_cons_succ]
              refine wpAnyP_done (by kernel_rfl) ?_ _
              have HB4 := Lib.hid (HB2.out.trans (Below.up HB4.out HW2))
              have hs4 : w.heap.size ≤ w4.heap.size := HB4.out.size
              go_wp2_with fail
              go_ret3
              exact .no HRS.out rfl HB4.out
            · go_wp2_with fail
              refine wp_region_phased (fun W => Below w2.heap.size w2 W) 10 (by kernel_rfl) (Below.refl _ _).drew (fun hS => ?_)
              refine wpAnyP_pure (v := ?_) 0 (at_toArray rfl) (by kernel_rfl) (by kernel_rfl) (by kernel_rfl) (fun _ _ _ h => h) (Or.inl ⟨by rfl, fun W => ?_⟩) ?_
              rotate_left 1
              · (go_simp <;> (try go_bits) <;> with_reducible rfl)
              simp only [Act.put, List.setIfInBounds_toArray, List.set_cons_zero, List.set_cons_succ]
              refine wpAnyP_pure (v := ?_) 1 (at_toArray rfl) (by kernel_rfl) (by kernel_rfl) (by kernel_rfl) (fun _ _ _ h => h) (Or.inl ⟨by rfl, fun W => ?_⟩) ?_
              rotate_left 1
              · (go_simp <;> (try go_bits) <;> with_reducible rfl)
              simp only [Act.put, List.setIfInBounds_toArray, List.set_cons_zero, List.set_cons_succ]
              refine wpAnyP_pure (v := ?_) 5 (at_toArray rfl) (by kernel_rfl) (by kernel_rfl) (by kernel_rfl) (fun _ _ _ h => h) (Or.inl ⟨by rfl, fun W => ?_⟩) ?_
              rotate_left 1
              · (go_simp <;> (try go_bits) <;> with_reducible rfl)
              simp only [Act.put, List.setIfInBounds_toArray, List.set_cons_zero, List.set_cons_succ]
              refine wpAnyP_pure (v := ?_) 6 (at_toArray rfl) (by kernel_rfl) (by kernel_rfl) (by kernel_rfl) (fun _ _ _ h => h) (Or.inl ⟨by rfl, fun W => ?_⟩) ?_
              rotate_left 1
              · (go_simp <;> (try go_bits) <;> with_reducible rfl)
              simp only [Act.put, List.setIfInBounds_toArray, List.set_cons_zero, List.set_cons_succ]
              refine wpAnyP_pure (v := ?_) 7 (at_toArray rfl) (by kernel_rfl) (by kernel_rfl) (by kernel_rfl) (fun _ _ _ h => h) (Or.inl ⟨by rfl, fun W => ?_⟩) ?_
              rotate_left 1
              · (go_simp <;> (try go_bits) <;> ((rw [if_pos (show (0 : Int) ≤ 4 + (p : Int) ∧ 4 + (p : Int) ≤ (c : Int) from ⟨by omega, by omega⟩)])) <;> with_reducible rfl)
              simp only [Act.put, List.setIfInBounds_toArray, List.set_cons_zero, List.set_cons_succ]
              refine wpAnyP_load (v := ?_) 8 (by kernel_rfl) (at_toArray rfl) (by kernel_rfl) (by kernel_rfl) (by kernel_rfl) (fun _ _ _ h => h) (by first | assumption | rfl) (Or.inl ⟨by rfl, fun W hS => ?_⟩) ?_
              rotate_left 1
              · (have hc := HCB.out W hS; go_simp <;> (try go_bits) <;> with_reducible rfl)
              simp only [Act.put, List.setIfInBounds_toArray, List.set_cons_zero, List.set_cons_succ]
              obtain ⟨w3, c3, hcv, hrT, hcT, hb3⟩ := conv_bytes w2.drew T (by have := HTL.out; omega)
              have HRT := Lib.hid hrT
              have HB3 := Lib.hid ((Below.refl w2.heap.size w2).drew.trans hb3)
              have hs3 : w2.heap.size ≤ w3.heap.size := HB3.out.size
              clear hrT hb3 hcT
              refine wpAnyP_one 2 (at_toArray rfl) (by kernel_rfl) rfl (fun K hK => ?_)
              go_wp2_with fail
              refine hK.out _ _ (fun _ _ => HB3.out) ?_
              clear hK hcv
              refine wpAnyP_one 3 (at_toArray rfl) (by kernel_rfl) rfl (fun K hK => ?_)
              go_wp2_with fail
              have hfrm : Calls Try.prog 54 #[.int .u8 71, .slice (some ⟨w2.heap.size, 0, none⟩) T.length c3] w3 fun e w' => ∃ v, e = .returned v ∧ OBB w2.heap.size w' v (frameB k T) ∧ Below w2.heap.size w3 w' := by
                have := rframe_any w2.heap.size k (some ⟨w2.heap.size, 0, none⟩) c3 T w3 hs3 HRT.out (by have := HTL.out; omega)
                rw [← HQ.out] at this
                exact this
              refine hfrm.mono ?_
              clear hfrm
              rintro e w4 ⟨v, rfl, hv, hb4⟩
              have HB4 := Lib.hid (HB3.out.trans hb4)
              have hfl : (frameB k T).length ≤ 140737488355328 := by
                have := frameB_len k T
                have := nbytes_small (n := T.length) (by have := HTL.out; omega)
                have := HTL.out
                omega
              obtain ⟨A6, c6, rfl, hr6, _⟩ := hv.reads' hfl
              have hcv4 := run_str hr6 _ c6 rfl
              rw [← HSF.out] at hcv4
              clear hv hb4 hr6 hfl HRT
              go_wp2_with fail
              refine hK.out _ _ (fun _ _ => HB4.out) ?_
              clear hK
              refine wpAnyP_one 4 (at_toArray rfl) (by kernel_rfl) rfl (fun K hK => ?_)
              go_wp2_with fail
              refine hK.out _ _ (fun _ _ => HB4.out) ?_
              clear hK hcv4
              refine wpAnyP_pure (v := ?_) 9 (at_toArray rfl) (by kernel_rfl) (by kernel_rfl) (by kernel_rfl) (fun _ _ _ h => h) (Or.inl ⟨by rfl, fun W => ?_⟩) ?_
              rotate_left 1
              · (go_simp <;> (try go_bits) <;> with_reducible rfl)
              simp only [Act.put, List.setIfInBounds_toArray, List.set_cons_zero, List.set_cons_succ]
              refine wpAnyP_done (by kernel_rfl) ?_ _
              have HB4 := Lib.hid (HB2.out.trans (Below.up HB4.out HW2))
              have hs4 : w.heap.size ≤ w4.heap.size := HB4.out.size
              go_wp2_with fail
              go_ret3
              exact .no HRS.out rfl HB4.out
      · have hRn : R = none := by rw [hR, if_pos (.inl he)]
        subst hRn
        have he' : (E != 0) = true := by simp [he]
        clear hR
        go_wp2_with fail
        go_ret3
        exact .no rfl rfl HB2.out

end Go.Proofs.Ytnkenkdglcmpdaa
