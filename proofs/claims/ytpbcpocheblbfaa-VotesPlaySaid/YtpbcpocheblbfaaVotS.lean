/- The votes: plain laws of a book whose keys are its votes' kinds and nodes. -/
import Derived.Test.YtpbcpocheblbfaaVotL
import Derived.Test.YtpbcpocheblbfaaVotR
namespace Go.Proofs.Ytpbcpocheblbfaa
set_option linter.unusedVariables false
set_option linter.unusedSimpArgs false
open Go.RowKit Go.MapKept

/-- What every book holds. -/
structure Inv (N : Nat) (M : List (Ent One)) : Prop where
  each : ∀ p ∈ M, p.1.1 = p.2.1.kind ∧ 0 ≤ p.1.2 ∧ p.1.2 < (N : Int)
theorem Inv.nil (N : Nat) : Inv N [] := ⟨fun p hp => by cases hp⟩
theorem Inv.add {N : Nat} {M : List (Ent One)} (h : Inv N M) (node : Int) (v : Vt) (t : List UInt8) : Inv N (addP (N : Int) M node v t).2 := by
  unfold addP
  split
  · exact h
  · rename_i hn
    split
    · exact h
    · split
      · refine ⟨fun p hp => ?_⟩
        rcases putM_mem hp with rfl | hp
        · exact ⟨rfl, by simp only; omega, by simp only; omega⟩
        · exact h.each p hp
      · split
        · exact h
        · split <;> exact h
abbrev Apart (M : List (Ent One)) : Prop := M.Pairwise (fun p q => p.1 ≠ q.1)
theorem count_key {M : List (Ent One)} (h : Apart M) (k : Int × Int) : M.countP (fun p => decide (p.1 = k)) ≤ 1 := by
  induction M with
  | nil => simp
  | cons p M ih =>
    rw [List.countP_cons]
    have hp := List.pairwise_cons.1 h
    by_cases hk : p.1 = k
    · have : M.countP (fun p => decide (p.1 = k)) = 0 := by
        rw [List.countP_eq_zero]
        intro q hq
        simp only [decide_eq_true_eq]
        intro e
        exact hp.1 q hq (by rw [hk, e])
      simp [hk, this]
    · have := ih hp.2
      simp [hk]
      exact this
theorem countP_split {α : Type} {p q r : α → Bool} : ∀ {L : List α}, (∀ x ∈ L, r x = true → p x = true ∨ q x = true) → L.countP r ≤ L.countP p + L.countP q
  | [], _ => by simp
  | x :: L, h => by
    have ih := countP_split (L := L) (fun y hy => h y (List.mem_cons_of_mem _ hy))
    have hx := h x (List.mem_cons_self ..)
    rw [List.countP_cons, List.countP_cons, List.countP_cons]
    cases h1 : p x <;> cases h2 : q x <;> cases h3 : r x <;> simp_all <;> omega
theorem countP_both {α : Type} {p q r : α → Bool} : ∀ {L : List α}, (∀ x ∈ L, p x = true → r x = true) → (∀ x ∈ L, q x = true → r x = true) → (∀ x ∈ L, p x = true → q x = true → False) → L.countP p + L.countP q ≤ L.countP r
  | [], _, _, _ => by simp
  | x :: L, h1, h2, h3 => by
    have ih := countP_both (L := L) (fun y hy => h1 y (List.mem_cons_of_mem _ hy)) (fun y hy => h2 y (List.mem_cons_of_mem _ hy)) (fun y hy => h3 y (List.mem_cons_of_mem _ hy))
    have a1 := h1 x (List.mem_cons_self ..)
    have a2 := h2 x (List.mem_cons_self ..)
    have a3 := h3 x (List.mem_cons_self ..)
    rw [List.countP_cons, List.countP_cons, List.countP_cons]
    cases e1 : p x <;> cases e2 : q x <;> cases e3 : r x <;> simp_all <;> omega
theorem hit_of {M : List (Ent One)} (h : Apart M) {v : Vt} {i : Nat} {t : List UInt8} (hm : ((v.kind, (i : Int)), (v, t)) ∈ M) : hit M v i = some ((i : Int), t) := by
  unfold hit
  rw [(look_some h hm).1]
  simp
theorem signs_count_below {N : Nat} {M : List (Ent One)} (h : Inv N M) (ha : Apart M) (v : Vt) : ∀ n : Nat, M.countP (fun p => decide (p.2.1 = v ∧ p.1.2 < (n : Int))) ≤ (signsP M v n).length
  | 0 => by
    rw [show M.countP (fun p => decide (p.2.1 = v ∧ p.1.2 < ((0 : Nat) : Int))) = 0 from ?_]
    · exact Nat.zero_le _
    · rw [List.countP_eq_zero]
      intro p hp
      have := (h.each p hp).2.1
      simp
      intro _
      omega
  | n + 1 => by
    have ih := signs_count_below h ha v n
    rw [signsP_succ, List.length_append]
    have hs : M.countP (fun p => decide (p.2.1 = v ∧ p.1.2 < ((n + 1 : Nat) : Int))) ≤ M.countP (fun p => decide (p.2.1 = v ∧ p.1.2 < (n : Int))) + M.countP (fun p => decide (p.2.1 = v ∧ p.1.2 = (n : Int))) :=
      countP_split fun x _ hx => by
        simp only [decide_eq_true_eq] at hx ⊢
        by_cases hl : x.1.2 < (n : Int)
        · exact .inl ⟨hx.1, hl⟩
        · exact .inr ⟨hx.1, by have := hx.2; push_cast at this; omega⟩
    have ho : M.countP (fun p => decide (p.2.1 = v ∧ p.1.2 = (n : Int))) ≤ (hit M v n).toList.length := by
      cases hh : hit M v n with
      | some s =>
        refine Nat.le_trans ?_ (count_key ha (v.kind, (n : Int)))
        refine List.countP_mono_left fun x hx hp => ?_
        simp only [decide_eq_true_eq] at hp ⊢
        exact Prod.ext (by rw [(h.each x hx).1, hp.1]) hp.2
      | none =>
        have : M.countP (fun p => decide (p.2.1 = v ∧ p.1.2 = (n : Int))) = 0 := by
          rw [List.countP_eq_zero]
          intro p hp
          simp only [decide_eq_true_eq]
          rintro ⟨h1, h2⟩
          obtain ⟨⟨k1, k2⟩, v', t⟩ := p
          simp only at h1 h2
          subst h1
          have hk := (h.each _ hp).1
          simp only at hk
          subst hk
          subst h2
          rw [hit_of ha hp] at hh
          cases hh
        rw [this]
        exact Nat.zero_le _
    omega
theorem count_eq {N : Nat} {M : List (Ent One)} (h : Inv N M) (ha : Apart M) (v : Vt) : countM M v = (signsP M v N).length := by
  refine Nat.le_antisymm ?_ (count_signs M v N)
  refine Nat.le_trans ?_ (signs_count_below h ha v N)
  refine List.countP_mono_left fun x hx hp => ?_
  simp only [decide_eq_true_eq] at hp ⊢
  exact ⟨hp, (h.each x hx).2.2⟩
theorem certOk_iff {N : Nat} {M : List (Ent One)} (h : Inv N M) (ha : Apart M) (v : Vt) (need : Int) : certOk M v N need = true ↔ 1 ≤ need ∧ need ≤ (countM M v : Int) := by
  unfold certOk
  rw [count_eq h ha v]
  simp
theorem kind_count {N : Nat} {M : List (Ent One)} (h : Inv N M) (ha : Apart M) (kind : Int) : ∀ n : Nat, M.countP (fun p => decide (p.1.1 = kind ∧ p.1.2 < (n : Int))) ≤ n
  | 0 => by
    rw [show M.countP (fun p => decide (p.1.1 = kind ∧ p.1.2 < ((0 : Nat) : Int))) = 0 from ?_]
    · exact Nat.le_refl _
    · rw [List.countP_eq_zero]
      intro p hp
      have := (h.each p hp).2.1
      simp
      intro _
      omega
  | n + 1 => by
    have ih := kind_count h ha kind n
    have hs : M.countP (fun p => decide (p.1.1 = kind ∧ p.1.2 < ((n + 1 : Nat) : Int))) ≤ M.countP (fun p => decide (p.1.1 = kind ∧ p.1.2 < (n : Int))) + M.countP (fun p => decide (p.1 = (kind, (n : Int)))) :=
      countP_split fun x _ hx => by
        simp only [decide_eq_true_eq] at hx ⊢
        by_cases hl : x.1.2 < (n : Int)
        · exact .inl ⟨hx.1, hl⟩
        · exact .inr (Prod.ext hx.1 (by have := hx.2; push_cast at this; simp only; omega))
    have := count_key ha (kind, (n : Int))
    omega
theorem two_votes {N : Nat} {M : List (Ent One)} (h : Inv N M) (ha : Apart M) {u v : Vt} (hk : u.kind = v.kind) (hne : u ≠ v) : countM M u + countM M v ≤ N := by
  refine Nat.le_trans ?_ (kind_count h ha u.kind N)
  refine countP_both ?_ ?_ ?_
  · intro x hx hp
    simp only [decide_eq_true_eq] at hp ⊢
    have := h.each x hx
    exact ⟨by rw [this.1, hp], this.2.2⟩
  · intro x hx hp
    simp only [decide_eq_true_eq] at hp ⊢
    have := h.each x hx
    exact ⟨by rw [this.1, hp, hk], this.2.2⟩
  · intro x hx h1 h2
    simp only [decide_eq_true_eq] at h1 h2
    exact hne (h1.symm.trans h2)

/-! ### The best -/
def Fits (M : List (Ent One)) (kind need : Int) (v : Vt) : Prop := v.kind = kind ∧ need ≤ (countM M v : Int)
theorem fold_from (M : List (Ent One)) (kind need : Int) : ∀ (D : List (Ent One)) (r : Bool × Vt), (r.1 = true → Fits M kind need r.2) →
    ((D.foldl (fun r p => lookB M kind need r p.2.1) r).1 = true → Fits M kind need (D.foldl (fun r p => lookB M kind need r p.2.1) r).2) ∧ ((r.1 = true ∨ ∃ p ∈ D, Fits M kind need p.2.1) → (D.foldl (fun r p => lookB M kind need r p.2.1) r).1 = true)
  | [], r, h => ⟨h, fun h' => h'.elim id (fun ⟨p, hp, _⟩ => by cases hp)⟩
  | p :: D, r, h => by
    have h1 : (lookB M kind need r p.2.1).1 = true → Fits M kind need (lookB M kind need r p.2.1).2 := by
      unfold lookB
      split
      · rename_i hc; exact fun _ => ⟨hc.1, hc.2.1⟩
      · exact h
    obtain ⟨a, b⟩ := fold_from M kind need D _ h1
    refine ⟨a, fun hh => b ?_⟩
    rcases hh with hr | ⟨q, hq, hf⟩
    · left; unfold lookB; split
      · rfl
      · exact hr
    · rcases List.mem_cons.1 hq with rfl | hq
      · left; unfold lookB
        by_cases hr : r.1 = true
        · split
          · rfl
          · exact hr
        · rw [if_pos ⟨hf.1, hf.2, .inl (by simpa using hr)⟩]
      · exact .inr ⟨q, hq, hf⟩
theorem fold_fits (M : List (Ent One)) (kind need : Int) (D : List (Ent One)) : ((foldB M kind need D).1 = true → Fits M kind need (foldB M kind need D).2) ∧ ((∃ p ∈ D, Fits M kind need p.2.1) → (foldB M kind need D).1 = true) := by
  obtain ⟨a, b⟩ := fold_from M kind need D (false, zeroV) (fun h => by cases h)
  exact ⟨a, fun h => b (.inr h)⟩
/-- More than half: one best, and it is that vote. -/
theorem one_best {N : Nat} {M : List (Ent One)} (h : Inv N M) (ha : Apart M) {D : List (Ent One)} (hD : M.Perm D) {need : Int} (hn : (N : Int) < 2 * need) {v : Vt} (hok : certOk M v N need = true) :
    (foldB M v.kind need D).1 = true ∧ (foldB M v.kind need D).2 = v := by
  obtain ⟨h1, h2⟩ := (certOk_iff h ha v need).1 hok
  have hpos : 0 < countM M v := by omega
  obtain ⟨p, hp, hv⟩ := List.countP_pos_iff.1 hpos
  simp only [decide_eq_true_eq] at hv
  obtain ⟨a, b⟩ := fold_fits M v.kind need D
  have ht := b ⟨p, hD.mem_iff.1 hp, by rw [hv], by rw [hv]; exact h2⟩
  refine ⟨ht, ?_⟩
  obtain ⟨c, d⟩ := a ht
  by_cases he : (foldB M v.kind need D).2 = v
  · exact he
  · have := two_votes h ha c he
    omega

theorem fold_ok_from (M : List (Ent One)) (kind need : Int) : ∀ (D : List (Ent One)) (r : Bool × Vt), r.2.ok → (∀ p ∈ D, p.2.1.ok) → (D.foldl (fun r p => lookB M kind need r p.2.1) r).2.ok
  | [], r, h, _ => h
  | p :: D, r, h, hd => by
    refine fold_ok_from M kind need D _ ?_ (fun q hq => hd q (List.mem_cons_of_mem _ hq))
    show (lookB M kind need r p.2.1).2.ok
    unfold lookB
    split
    · exact hd p (List.mem_cons_self ..)
    · exact h
theorem fold_ok {M D : List (Ent One)} (h : ∀ p ∈ M, p.2.ok) (hD : M.Perm D) (kind need : Int) : (foldB M kind need D).2.ok :=
  fold_ok_from M kind need D (false, zeroV) zeroV_ok (fun p hp => (h p (hD.mem_iff.2 hp)).vote)
/-- What Best says of a vote that has a cert. -/
theorem best_says {N : Nat} {M : List (Ent One)} (h : Inv N M) (ha : Apart M) {D : List (Ent One)} (hD : M.Perm D) {need : Int} (hn : (N : Int) < 2 * need) (kind : Int) (v : Vt) (hk : v.kind = kind) (hok : certOk M v N need = true) :
    ((foldB M kind need D).1 && certOk M (foldB M kind need D).2 N need) = true ∧ (if (foldB M kind need D).1 then certV M (foldB M kind need D).2 N need else zeroV) = v := by
  subst hk
  obtain ⟨e1, e2⟩ := one_best h ha hD hn hok
  rw [e1, e2, hok]
  refine ⟨rfl, ?_⟩
  simp only [if_true]
  unfold certV
  rw [hok]
  rfl
theorem best_ok {N : Nat} {M : List (Ent One)} (h : ∀ p ∈ M, p.2.ok) {D : List (Ent One)} (hD : M.Perm D) (kind need : Int) : (if (foldB M kind need D).1 then certV M (foldB M kind need D).2 N need else zeroV).ok := by
  split
  · unfold certV
    split
    · exact fold_ok h hD kind need
    · exact zeroV_ok
  · exact zeroV_ok

end Go.Proofs.Ytpbcpocheblbfaa
