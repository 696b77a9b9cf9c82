/- The document's first and turn: plain law and walks. -/
import Derived.Test.YtnkenkdglcmpdaaRefB
namespace Go.Proofs.Ytnkenkdglcmpdaa
set_option linter.unusedVariables false
set_option linter.unusedSimpArgs false
open Go.RowKit

theorem sum3_eq (c : Nat) (h : c < 16777216) (x0 x1 x2 : UInt8) : sum3 c = [x0, x1, x2] ↔ c = x0.toNat * 65536 + x1.toNat * 256 + x2.toNat := by
  constructor
  · intro he
    have h1 := sum3_num c h
    unfold sum3 at he
    simp only [List.cons.injEq, and_true] at he
    obtain ⟨e0, e1, e2⟩ := he
    rw [e0, e1, e2] at h1
    exact h1.symm
  · intro he
    rw [he]; exact sum3_inv x0 x1 x2
theorem firstP_ref (x0 x1 x2 k : UInt8) (b4 : List UInt8) : firstP (x0 :: x1 :: x2 :: k :: b4) =
    if (textR 4194304 b4).2.2 ≠ 0 ∨ (k ≠ 68 ∧ k ≠ 71) then none
    else if frameB k (textR 4194304 b4).1 ≠ (x0 :: x1 :: x2 :: k :: b4).take (4 + placeT 4194304 b4) then none
    else if k = 71 ∧ numberP (textR 4194304 b4).1 = 0 then none
    else some (k, (textR 4194304 b4).1, 4 + placeT 4194304 b4) := by
  rw [firstP]
  unfold textR placeT
  match hn : numP b4 with
  | (n, s, e) =>
    simp only
    by_cases hk : k ≠ 68 ∧ k ≠ 71
    · rw [if_pos hk, if_pos (.inr hk)]
    rw [if_neg hk]
    by_cases he : e = 0
    · subst he
      by_cases hm : 4194304 < n
      · rw [if_pos (.inr (.inl hm))]
        simp [hm]
      by_cases hcut : (b4.length : Int) - s < n
      · rw [if_pos (.inr (.inr hcut))]
        simp [hm, hcut]
      rw [if_neg (by simp [hm, hcut])]
      obtain ⟨m, r, e1, e2, e3, e4⟩ := numP_inv hn
      have e2' : s.toNat = 1 + nbytes m := by rw [e2]; omega
      have e1' : n.toNat = m := by rw [e1]; omega
      simp only [hm, hcut, if_false, ne_eq, not_true_eq_false, false_or, if_neg hk]
      rw [e1', e2']
      have hlen : b4.length = 1 + nbytes m + r.length := by rw [e3, List.length_append, putN_len]
      have hmr : m ≤ r.length := by omega
      have hdrop : b4.drop (1 + nbytes m) = r := by rw [e3, ← putN_len m, List.drop_left]
      rw [hdrop]
      have hxl : (r.take m).length = m := by rw [List.length_take]; omega
      have hput : putT (r.take m) = putN m ++ r.take m := by unfold putT; rw [hxl]
      have htk : b4.take (1 + nbytes m + m) = putT (r.take m) := by
        rw [hput, e3, ← putN_len m, List.take_length_add_append]
      have htk4 : (x0 :: x1 :: x2 :: k :: b4).take (4 + (1 + nbytes m + m)) = x0 :: x1 :: x2 :: k :: putT (r.take m) := by
        rw [show 4 + (1 + nbytes m + m) = (1 + nbytes m + m) + 1 + 1 + 1 + 1 by omega]
        simp only [List.take_succ_cons]
        rw [htk]
      rw [htk, htk4]
      have hiff : frameB k (r.take m) = x0 :: x1 :: x2 :: k :: putT (r.take m) ↔ (crcS (k :: putT (r.take m))).toNat = x0.toNat * 65536 + x1.toNat * 256 + x2.toNat := by
        rw [← sum3_eq _ (crcS_lt _)]
        unfold frameB
        rw [show x0 :: x1 :: x2 :: k :: putT (r.take m) = [x0, x1, x2] ++ (k :: putT (r.take m)) from rfl]
        exact List.append_left_inj _
      simp only [hiff, Nat.add_assoc]
    · rw [if_pos (.inl he)]
      simp [he]
theorem rnumberP_read (xs : List UInt8) : doneR (xs.drop (placeR 1099511627776 xs)) (numR 1099511627776 xs).2.2 = doneR (numR 1099511627776 xs).2.1 (numR 1099511627776 xs).2.2 := by
  unfold doneR numR placeR
  by_cases h1 : (numP xs).2.2 ≠ 0
  · simp [h1]
  · by_cases h2 : (1099511627776 : Int) < (numP xs).1
    · simp [h1, h2]
    · simp [h1, h2]
theorem placeR_le (most : Int) (xs : List UInt8) : placeR most xs ≤ xs.length := by
  have h := numP_small xs
  unfold placeR
  split
  · omega
  · split
    · omega
    · rename_i h1 _
      have := h.2.2.2.2 (Classical.byContradiction fun hh => h1 hh)
      omega
theorem placeT_le (most : Int) (xs : List UInt8) : placeT most xs ≤ xs.length := by
  have h := numP_small xs
  unfold placeT
  split
  · omega
  · split
    · omega
    · split
      · omega
      · rename_i h1 _ h2
        have := h.2.2.2.2 (Classical.byContradiction fun hh => h1 hh)
        omega
theorem rturn_any (B : Nat) (A : Option Addr) (c : Nat) (xs : List UInt8) (w : World) (hB : B ≤ w.heap.size) (hr : RB w A xs) (hl : xs.length ≤ 140737488355328) :
    Calls Try.prog 100 #[.slice A xs.length c] w fun e w' => e = .returned (.int .i64 (numberP xs)) ∧ Below B w w' := by
  obtain ⟨d, hd⟩ : ∃ d, d = numberP xs := ⟨_, rfl⟩
  rw [← hd]
  rw [numberP_read, ← rnumberP_read] at hd
  have HD := Lib.hid hd
  clear hd
  go_enter Try.func100, Try.ntmps100
  go_wp2_with fail
  refine (rread_any B A c xs w hB hr hl).mono ?_
  rintro r w1 ⟨pb, rfl, hpb, hrd, hb⟩
  have hB1 : B ≤ w1.heap.size := Nat.le_trans hB hb.size
  go_wp2_with fail
  refine (rnum_any pb 1099511627776 xs w1 hrd hl).mono ?_
  rintro r w2 ⟨rfl, hd⟩
  have hb2 := hb.trans (rd_below hd.2 hpb hB1)
  go_wp2_with fail
  refine (rdone_any pb _ _ _ w2 hd.1 hl (placeR_le _ _)).mono ?_
  rintro r w3 ⟨rfl, nd, rfl⟩
  obtain ⟨t, ht⟩ : ∃ t, t = doneR (xs.drop (placeR 1099511627776 xs)) (numR 1099511627776 xs).2.2 := ⟨_, rfl⟩
  have HD2 := HD.out
  rw [← ht] at HD2 ⊢
  clear ht HD
  have HB := Lib.hid (hb2.trans (Below.up (below_drewN w2 nd) (Nat.le_trans hB hb2.size)))
  clear hb hd hb2 hrd hr
  by_cases h0 : t = 0
  · subst h0
    rw [if_pos rfl] at HD2
    subst HD2
    go_wp2_with fail
    go_ret
    exact ⟨rfl, HB.out⟩
  · have h0' : (t != 0) = true := by simp [h0]
    rw [if_neg h0] at HD2
    subst HD2
    go_wp2_with fail
    go_ret
    exact ⟨rfl, HB.out⟩

end Go.Proofs.Ytnkenkdglcmpdaa
