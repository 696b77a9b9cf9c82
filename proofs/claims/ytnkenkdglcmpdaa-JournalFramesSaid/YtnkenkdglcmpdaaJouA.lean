/- Numbers in bytes, frames of records: plain Lean, no program. -/
import Derived.Test.YtnkenkdglcmpdaaCrcPlain
namespace Go.Proofs.Ytnkenkdglcmpdaa
set_option linter.unusedVariables false
set_option linter.unusedSimpArgs false

/-- How many bytes a number has. -/
def nbytes (n : Nat) : Nat := if h : n = 0 then 0 else nbytes (n / 256) + 1
termination_by n
decreasing_by omega
theorem nbytes_zero : nbytes 0 = 0 := by rw [nbytes]; simp
theorem nbytes_pos {n : Nat} (h : 0 < n) : nbytes n = nbytes (n / 256) + 1 := by rw [nbytes, dif_neg (by omega)]
/-- The last k bytes of a number, the greatest first. -/
def be : Nat → Nat → List UInt8
  | 0, _ => []
  | k + 1, n => be k (n / 256) ++ [UInt8.ofNat (n % 256)]
theorem be_len : ∀ (k n : Nat), (be k n).length = k
  | 0, _ => rfl
  | k + 1, n => by rw [be, List.length_append, be_len k]; rfl
def val (xs : List UInt8) : Nat := xs.foldl (fun a x => 256 * a + x.toNat) 0
theorem val_snoc (xs : List UInt8) (x : UInt8) : val (xs ++ [x]) = 256 * val xs + x.toNat := by simp [val]
theorem val_be : ∀ (k n : Nat), n < 256 ^ k → val (be k n) = n
  | 0, n, h => by have : n = 0 := by simpa using h
                  subst this; rfl
  | k + 1, n, h => by
    rw [be, val_snoc, val_be k (n / 256) (by rw [Nat.div_lt_iff_lt_mul (by omega)]; rw [Nat.pow_succ] at h; exact h)]
    have : (UInt8.ofNat (n % 256)).toNat = n % 256 := by simp
    omega
theorem lt_nbytes (n : Nat) : n < 256 ^ nbytes n := by
  induction n using Nat.strongRecOn with
  | ind n ih =>
    rcases Nat.eq_zero_or_pos n with rfl | h
    · rw [nbytes_zero]; decide
    · have := ih (n / 256) (by omega)
      rw [nbytes_pos h, Nat.pow_succ]
      omega
theorem nbytes_le {k : Nat} : ∀ {n : Nat}, n < 256 ^ k → nbytes n ≤ k := by
  induction k with
  | zero => intro n h; have : n = 0 := by simpa using h
            subst this; rw [nbytes_zero]; exact Nat.le_refl 0
  | succ k ih =>
    intro n h
    rcases Nat.eq_zero_or_pos n with rfl | hp
    · rw [nbytes_zero]; omega
    · rw [nbytes_pos hp]
      have := ih (n := n / 256) (by rw [Nat.div_lt_iff_lt_mul (by omega)]; rw [Nat.pow_succ] at h; exact h)
      omega
/-- Byte i of the k last ones. -/
theorem be_get : ∀ (k n i : Nat), i < k → (be k n)[i]? = some (UInt8.ofNat (n / 256 ^ (k - 1 - i) % 256))
  | 0, _, _, h => by omega
  | k + 1, n, i, h => by
    rw [be]
    rcases Nat.lt_or_ge i k with h' | h'
    · rw [List.getElem?_append_left (by rw [be_len]; exact h'), be_get k (n / 256) i h', Nat.div_div_eq_div_mul]
      have e : 256 * 256 ^ (k - 1 - i) = 256 ^ (k + 1 - 1 - i) := by
        rw [← Nat.pow_succ']
        congr 1
        omega
      rw [e]
    · have : i = k := by omega
      subst this
      rw [List.getElem?_append_right (by rw [be_len]; omega), be_len]
      simp
/-- The greatest byte of a number is not zero. -/
theorem be_first {n : Nat} (h : 0 < n) : ∃ x xs, be (nbytes n) n = x :: xs ∧ x ≠ 0 ∧ x.toNat = n / 256 ^ (nbytes n - 1) := by
  have hl := be_len (nbytes n) n
  have hp : 0 < nbytes n := by rw [nbytes_pos h]; omega
  have h0 := be_get (nbytes n) n 0 hp
  match hb : be (nbytes n) n with
  | [] => rw [hb] at hl; simp at hl; omega
  | x :: xs =>
    rw [hb] at h0
    simp only [List.getElem?_cons_zero, Option.some.injEq, Nat.sub_zero] at h0
    have hlt : n / 256 ^ (nbytes n - 1) < 256 := by
      rw [Nat.div_lt_iff_lt_mul (Nat.pow_pos (by omega))]
      have := lt_nbytes n
      have e : 256 * 256 ^ (nbytes n - 1) = 256 ^ nbytes n := by
        rw [← Nat.pow_succ']; congr 1; omega
      omega
    have hge : 0 < n / 256 ^ (nbytes n - 1) := by
      apply Nat.div_pos _ (Nat.pow_pos (by omega))
      rcases Nat.lt_or_ge n (256 ^ (nbytes n - 1)) with hh | hh
      · have := nbytes_le hh; omega
      · exact hh
    have hx : x.toNat = n / 256 ^ (nbytes n - 1) := by
      rw [h0, Nat.mod_eq_of_lt hlt]
      simp
      exact hlt
    exact ⟨x, xs, rfl, fun e => by rw [e] at hx; simp at hx; omega, hx⟩
/-- Put. -/
def putN (n : Nat) : List UInt8 := UInt8.ofNat (nbytes n) :: be (nbytes n) n
/-- What number tells: the number, its size, the error. -/
def numP (b : List UInt8) : Int × Int × Int :=
  match b with
  | [] => (0, 0, 10)
  | k :: r =>
    if 8 < k.toNat then (0, 0, 11)
    else if r.length < k.toNat then (0, 0, 10)
    else if (0 < k.toNat ∧ r.getD 0 0 = 0) ∨ (k.toNat = 8 ∧ 127 < (r.getD 0 0).toNat) then (0, 0, 11)
    else ((val (r.take k.toNat) : Int), 1 + (k.toNat : Int), 0)

theorem rev_ind {α : Type} {P : List α → Prop} (h0 : P []) (h1 : ∀ xs x, P xs → P (xs ++ [x])) : ∀ xs, P xs := by
  have h : ∀ ys : List α, P ys.reverse := fun ys => by
    induction ys with
    | nil => exact h0
    | cons y ys ih => rw [List.reverse_cons]; exact h1 _ _ ih
  intro xs
  have := h xs.reverse
  rwa [List.reverse_reverse] at this
theorem val_lt : ∀ (xs : List UInt8), val xs < 256 ^ xs.length := by
  refine rev_ind (by decide) fun xs x ih => ?_
  rw [val_snoc, List.length_append, List.length_singleton, Nat.pow_succ]
  have := x.toNat_lt
  omega
theorem be_val : ∀ xs : List UInt8, be xs.length (val xs) = xs := by
  refine rev_ind rfl fun xs x ih => ?_
  rw [val_snoc, List.length_append, List.length_singleton, be]
  have h := x.toNat_lt
  rw [show (256 * val xs + x.toNat) / 256 = val xs by omega, ih, show (256 * val xs + x.toNat) % 256 = x.toNat by omega]
  simp
theorem val_cons (x : UInt8) : ∀ (xs : List UInt8), val (x :: xs) = x.toNat * 256 ^ xs.length + val xs := by
  refine rev_ind (by simp [val]) fun xs y ih => ?_
  rw [← List.cons_append, val_snoc, val_snoc, ih, List.length_append, List.length_singleton, Nat.pow_succ, Nat.mul_add]
  rw [← Nat.mul_assoc 256, Nat.mul_comm 256 x.toNat, Nat.mul_assoc x.toNat 256, Nat.mul_comm 256 (256 ^ xs.length)]
  omega
theorem nbytes_val (x : UInt8) (xs : List UInt8) (h : x ≠ 0) : nbytes (val (x :: xs)) = xs.length + 1 := by
  have h1 : nbytes (val (x :: xs)) ≤ xs.length + 1 := nbytes_le (by have := val_lt (x :: xs); simpa using this)
  rcases Nat.lt_or_ge (nbytes (val (x :: xs))) (xs.length + 1) with h2 | h2
  · exfalso
    have h3 := lt_nbytes (val (x :: xs))
    have h4 : 256 ^ nbytes (val (x :: xs)) ≤ 256 ^ xs.length := Nat.pow_le_pow_right (by omega) (by omega)
    have h5 : 1 ≤ x.toNat := by
      rcases Nat.eq_zero_or_pos x.toNat with e | e
      · exact absurd (UInt8.toNat_inj.1 (by rw [e]; rfl)) h
      · exact e
    have h6 := val_cons x xs
    have h7 : 256 ^ xs.length ≤ x.toNat * 256 ^ xs.length := Nat.le_mul_of_pos_left _ h5
    omega
  · omega
theorem putN_len (n : Nat) : (putN n).length = 1 + nbytes n := by rw [putN, List.length_cons, be_len]; omega
theorem nbytes_small {n : Nat} (h : n < 9223372036854775808) : nbytes n ≤ 8 := nbytes_le (by omega)
theorem numP_put (n : Nat) (r : List UInt8) (h : n < 9223372036854775808) : numP (putN n ++ r) = ((n : Int), 1 + (nbytes n : Int), 0) := by
  have h8 := nbytes_small h
  have hk : (UInt8.ofNat (nbytes n)).toNat = nbytes n := by simp; omega
  have hl := be_len (nbytes n) n
  have hc : ¬ ((0 < nbytes n ∧ (be (nbytes n) n ++ r).getD 0 0 = 0) ∨ (nbytes n = 8 ∧ 127 < ((be (nbytes n) n ++ r).getD 0 0).toNat)) := by
    rcases Nat.eq_zero_or_pos n with rfl | hp
    · rw [nbytes_zero]; simp
    · obtain ⟨x, xs, hb, h0, hx⟩ := be_first hp
      rw [hb]
      simp only [List.cons_append, List.getD_cons_zero]
      rintro (⟨_, h1⟩ | ⟨h1, h2⟩)
      · exact h0 h1
      · rw [hx, h1] at h2
        have : n / 256 ^ 7 < 128 := by rw [Nat.div_lt_iff_lt_mul (by decide)]; omega
        have e : (256 : Nat) ^ (8 - 1) = 256 ^ 7 := rfl
        omega
  rw [putN, List.cons_append, numP]
  rw [hk, if_neg (by omega), if_neg (by rw [List.length_append, hl]; omega), if_neg hc, List.take_append_of_le_length (by omega), List.take_of_length_le (by omega), val_be _ _ (lt_nbytes n)]
/-- What has been read is what Put lays. -/
theorem numP_inv {b : List UInt8} {n s : Int} (h : numP b = (n, s, 0)) : ∃ m : Nat, ∃ r, n = (m : Int) ∧ s = 1 + (nbytes m : Int) ∧ b = putN m ++ r ∧ m < 9223372036854775808 := by
  match b with
  | [] => simp [numP] at h
  | k :: r =>
    rw [numP] at h
    split at h
    · simp at h
    · split at h
      · simp at h
      · split at h
        · simp at h
        · rename_i h1 h2 h3
          simp only [Prod.mk.injEq, and_true] at h
          have hkl : (r.take k.toNat).length = k.toNat := by rw [List.length_take]; omega
          have hnb : nbytes (val (r.take k.toNat)) = k.toNat := by
            match hr : r.take k.toNat with
            | [] => rw [hr] at hkl; simp at hkl; rw [← hkl]; exact nbytes_zero
            | x :: xs =>
              rw [hr] at hkl
              rw [nbytes_val x xs ?_]
              · simpa using hkl
              · intro e
                apply h3
                refine .inl ⟨by rw [← hkl]; simp, ?_⟩
                match r, hr with
                | [], hr => simp at hr
                | y :: ys, hr =>
                  have hk0 : k.toNat = xs.length + 1 := by simpa using hkl.symm
                  rw [hk0, List.take_succ_cons] at hr
                  simp at hr
                  simp [hr.1, e]
          refine ⟨val (r.take k.toNat), r.drop k.toNat, h.1.symm, by rw [hnb]; exact h.2.symm, ?_, ?_⟩
          · rw [putN, hnb]
            have := be_val (r.take k.toNat)
            rw [hkl] at this
            rw [this, List.cons_append, List.take_append_drop]
            simp
          · rcases Nat.lt_or_ge k.toNat 8 with h8 | h8
            · have := val_lt (r.take k.toNat)
              rw [hkl] at this
              have h9 : 256 ^ k.toNat ≤ 256 ^ 7 := Nat.pow_le_pow_right (by omega) (by omega)
              have e : (256 : Nat) ^ 7 = 72057594037927936 := by decide
              omega
            · have hk8 : k.toNat = 8 := by omega
              match hr : r.take k.toNat with
              | [] => rw [hr] at hkl; simp at hkl; omega
              | x :: xs =>
                rw [hr] at hkl
                have hx : x.toNat ≤ 127 := by
                  match r, hr with
                  | [], hr => simp at hr
                  | y :: ys, hr =>
                    rw [hk8, List.take_succ_cons] at hr
                    simp at hr
                    have h4 := fun hh => h3 (.inr ⟨hk8, hh⟩)
                    simp [hr.1] at h4
                    exact h4
                have h5 := val_cons x xs
                have h6 := val_lt xs
                have h7 : xs.length = 7 := by simp at hkl; omega
                rw [h7] at h5 h6
                have e : (256 : Nat) ^ 7 = 72057594037927936 := by decide
                rw [e] at h5 h6
                omega

end Go.Proofs.Ytnkenkdglcmpdaa
