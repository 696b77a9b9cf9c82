/- The votes: plain laws of what a book computes. -/
import Derived.Test.YtpbcpocheblbfaaVotI
namespace Go.Proofs.Ytpbcpocheblbfaa
set_option linter.unusedVariables false
set_option linter.unusedSimpArgs false
open Go.RowKit Go.MapKept

theorem addP_len (N : Int) (M : List (Ent One)) (node : Int) (v : Vt) (t : List UInt8) : (addP N M node v t).2.length ≤ M.length + 1 := by
  unfold addP
  have := putM_len M (v.kind, node) (v, t)
  repeat' split
  all_goals simp only
  all_goals omega
theorem hit_some {M : List (Ent One)} {v : Vt} {i : Nat} {s : Sg} (h : hit M v i = some s) : s.1 = (i : Int) ∧ lookM M (v.kind, (i : Int)) = some (v, s.2) := by
  unfold hit at h
  split at h
  · rename_i x hx
    by_cases hv : x.1 = v
    · simp [hv] at h
      subst h
      refine ⟨rfl, ?_⟩
      rw [hx, ← hv]
    · simp [hv] at h
  · cases h
theorem signsP_mem {M : List (Ent One)} {v : Vt} {n : Nat} {s : Sg} (h : s ∈ signsP M v n) : ∃ i : Nat, i < n ∧ s.1 = (i : Int) ∧ lookM M (v.kind, (i : Int)) = some (v, s.2) := by
  obtain ⟨i, hi, hs⟩ := List.mem_filterMap.1 h
  obtain ⟨h1, h2⟩ := hit_some hs
  exact ⟨i, List.mem_range.1 hi, h1, h2⟩
theorem signsP_rise (M : List (Ent One)) (v : Vt) (n : Nat) : (signsP M v n).Pairwise (fun s t => s.1 < t.1) := by
  unfold signsP
  rw [List.pairwise_filterMap]
  refine List.pairwise_lt_range.imp ?_
  intro i j hij s hs t ht
  rw [(hit_some hs).1, (hit_some ht).1]
  omega
theorem countP_more {α : Type} {p q : α → Bool} (hpq : ∀ x, p x = true → q x = true) : ∀ {L : List α} {e : α}, e ∈ L → q e = true → p e = false → L.countP p + 1 ≤ L.countP q
  | x :: L, e, he, hq, hp => by
    have hle : L.countP p ≤ L.countP q := List.countP_mono_left fun x _ h => hpq x h
    rw [List.countP_cons, List.countP_cons]
    rcases List.mem_cons.1 he with rfl | he
    · rw [hq, hp]; simp; omega
    · have := countP_more hpq he hq hp
      have h1 := hpq x
      cases h2 : p x <;> cases h3 : q x <;> simp_all <;> omega
theorem count_signs_below (M : List (Ent One)) (v : Vt) : ∀ n : Nat, (signsP M v n).length ≤ M.countP fun p => decide (p.2.1 = v ∧ p.1.2 < (n : Int))
  | 0 => by simp [signsP]
  | n + 1 => by
    have ih := count_signs_below M v n
    rw [signsP_succ, List.length_append]
    cases h : hit M v n with
    | none =>
      simp only [Option.toList_none, List.length_nil, Nat.add_zero]
      refine Nat.le_trans ih (List.countP_mono_left fun x _ hx => ?_)
      simp only [decide_eq_true_eq] at hx ⊢
      exact ⟨hx.1, by have := hx.2; push_cast; omega⟩
    | some s =>
      have hm := lookM_mem (hit_some h).2
      simp only [Option.toList_some, List.length_cons, List.length_nil]
      refine Nat.le_trans (Nat.add_le_add_right ih 1) (countP_more ?_ hm (by simp; omega) (by simp))
      intro x hx
      simp only [decide_eq_true_eq] at hx ⊢
      exact ⟨hx.1, by have := hx.2; push_cast; omega⟩
theorem count_signs (M : List (Ent One)) (v : Vt) (n : Nat) : (signsP M v n).length ≤ countM M v :=
  Nat.le_trans (count_signs_below M v n) (List.countP_mono_left fun x _ hx => by simp only [decide_eq_true_eq] at hx ⊢; exact hx.1)
/-- What a cert says. -/
structure CertSays (M : List (Ent One)) (v : Vt) (N : Nat) (need : Int) (L : List Sg) : Prop where
  len : (L.length : Int) = need
  count : need ≤ (countM M v : Int)
  small : L.length ≤ N
  vote : certV M v N need = v
  each : ∀ (i : Nat) (s : Sg), L[i]? = some s → 0 ≤ s.1 ∧ s.1 < N ∧ lookM M (v.kind, s.1) = some (v, s.2) ∧ ∀ (j : Nat) (t : Sg), L[j]? = some t → j < i → t.1 < s.1
theorem cert_says {M : List (Ent One)} {v : Vt} {N : Nat} {need : Int} (h : certOk M v N need = true) : CertSays M v N need (certL M v N need) := by
  have hL : certL M v N need = (signsP M v N).take need.toNat := by unfold certL; rw [h]; rfl
  have hV : certV M v N need = v := by unfold certV; rw [h]; rfl
  unfold certOk at h
  simp only [Bool.and_eq_true, decide_eq_true_eq] at h
  have hc := count_signs M v N
  have hn := signsP_len M v N
  refine ⟨?_, by omega, ?_, hV, fun i s hs => ?_⟩
  · rw [hL, List.length_take]; omega
  · rw [hL, List.length_take]; omega
  · rw [hL, List.getElem?_take] at hs
    split at hs
    · have hm := List.mem_of_getElem? hs
      obtain ⟨k, hk, h1, h2⟩ := signsP_mem hm
      refine ⟨by omega, by omega, by rw [h1]; exact h2, fun j t ht hj => ?_⟩
      rw [hL, List.getElem?_take] at ht
      split at ht
      · obtain ⟨hj1, hj2⟩ := List.getElem?_eq_some_iff.1 ht
        obtain ⟨hi1, hi2⟩ := List.getElem?_eq_some_iff.1 hs
        have := List.pairwise_iff_getElem.1 (signsP_rise M v N) j i hj1 hi1 hj
        rw [hj2, hi2] at this
        exact this
      · cases ht
    · cases hs

end Go.Proofs.Ytpbcpocheblbfaa
