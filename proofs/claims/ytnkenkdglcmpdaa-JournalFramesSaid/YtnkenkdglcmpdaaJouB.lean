/- Frames of records: plain Lean, no program. -/
import Derived.Test.YtnkenkdglcmpdaaCrcB
import Derived.Test.YtnkenkdglcmpdaaJouA
namespace Go.Proofs.Ytnkenkdglcmpdaa
set_option linter.unusedVariables false
set_option linter.unusedSimpArgs false

def putT (xs : List UInt8) : List UInt8 := putN xs.length ++ xs
def sum3 (c : Nat) : List UInt8 := [UInt8.ofNat (c / 65536), UInt8.ofNat (c / 256 % 256), UInt8.ofNat (c % 256)]
/-- A record's frame. -/
def frameB (k : UInt8) (xs : List UInt8) : List UInt8 := sum3 (crcS (k :: putT xs)).toNat ++ k :: putT xs
/-- The number of a record; 0: it is none. -/
def numberP (xs : List UInt8) : Int := if (numP xs).2.2 = 0 ∧ (numP xs).1 ≤ 1099511627776 ∧ (numP xs).2.1 = (xs.length : Int) then (numP xs).1 else 0
/-- A record that a frame can hold. -/
def okF (p : UInt8 × List UInt8) : Prop := (p.1 = 68 ∨ p.1 = 71) ∧ p.2.length ≤ 4194304 ∧ (p.1 = 71 → numberP p.2 ≠ 0)
/-- The first frame of bytes: its kind, its record, how many bytes it has. -/
def firstP (b : List UInt8) : Option (UInt8 × List UInt8 × Nat) :=
  match b with
  | x0 :: x1 :: x2 :: k :: b4 =>
    if k ≠ 68 ∧ k ≠ 71 then none
    else if (numP b4).2.2 ≠ 0 ∨ 4194304 < (numP b4).1 ∨ (b4.length : Int) - (numP b4).2.1 < (numP b4).1 then none
    else if (crcS (k :: b4.take ((numP b4).2.1.toNat + (numP b4).1.toNat))).toNat ≠ x0.toNat * 65536 + x1.toNat * 256 + x2.toNat then none
    else if k = 71 ∧ numberP ((b4.drop (numP b4).2.1.toNat).take (numP b4).1.toNat) = 0 then none
    else some (k, (b4.drop (numP b4).2.1.toNat).take (numP b4).1.toNat, 4 + (numP b4).2.1.toNat + (numP b4).1.toNat)
  | _ => none
theorem sum3_num (c : Nat) (h : c < 16777216) : (UInt8.ofNat (c / 65536)).toNat * 65536 + (UInt8.ofNat (c / 256 % 256)).toNat * 256 + (UInt8.ofNat (c % 256)).toNat = c := by
  have h1 : (UInt8.ofNat (c / 65536)).toNat = c / 65536 := by simp; omega
  have h2 : (UInt8.ofNat (c / 256 % 256)).toNat = c / 256 % 256 := by simp
  have h3 : (UInt8.ofNat (c % 256)).toNat = c % 256 := by simp
  rw [h1, h2, h3]
  omega
theorem sum3_inv (x0 x1 x2 : UInt8) : sum3 (x0.toNat * 65536 + x1.toNat * 256 + x2.toNat) = [x0, x1, x2] := by
  have h0 := x0.toNat_lt
  have h1 := x1.toNat_lt
  have h2 := x2.toNat_lt
  unfold sum3
  rw [show (x0.toNat * 65536 + x1.toNat * 256 + x2.toNat) / 65536 = x0.toNat by omega, show (x0.toNat * 65536 + x1.toNat * 256 + x2.toNat) / 256 % 256 = x1.toNat by omega, show (x0.toNat * 65536 + x1.toNat * 256 + x2.toNat) % 256 = x2.toNat by omega]
  simp
theorem putT_len (xs : List UInt8) : (putT xs).length = 1 + nbytes xs.length + xs.length := by unfold putT; rw [List.length_append, putN_len]
theorem frameB_len (k : UInt8) (xs : List UInt8) : (frameB k xs).length = 5 + nbytes xs.length + xs.length := by
  unfold frameB
  rw [List.length_append, List.length_cons, putT_len]
  simp [sum3]
  omega
theorem crcS_lt (xs : List UInt8) : (crcS xs).toNat < 16777216 := (crcS xs).isLt
theorem numP_text (xs r : List UInt8) (h : xs.length ≤ 4194304) : numP (putT xs ++ r) = ((xs.length : Int), 1 + (nbytes xs.length : Int), 0) := by
  unfold putT
  rw [List.append_assoc]
  exact numP_put xs.length (xs ++ r) (by omega)
/-- What stands in a frame is read. -/
theorem first_frame (k : UInt8) (xs r : List UInt8) (h : okF (k, xs)) : firstP (frameB k xs ++ r) = some (k, xs, (frameB k xs).length) := by
  obtain ⟨hk, hl, hn⟩ := h
  have hn : k = 71 → numberP xs ≠ 0 := hn
  have hk : k = 68 ∨ k = 71 := hk
  have hl : xs.length ≤ 4194304 := hl
  have e : frameB k xs ++ r = UInt8.ofNat ((crcS (k :: putT xs)).toNat / 65536) :: UInt8.ofNat ((crcS (k :: putT xs)).toNat / 256 % 256) :: UInt8.ofNat ((crcS (k :: putT xs)).toNat % 256) :: k :: (putT xs ++ r) := by
    unfold frameB sum3
    simp
  have hs : (1 + (nbytes xs.length : Int)).toNat = 1 + nbytes xs.length := by omega
  have hd : (putT xs ++ r).drop (1 + nbytes xs.length) = xs ++ r := by
    unfold putT
    rw [List.append_assoc, ← putN_len xs.length, List.drop_left]
  have ht : (putT xs ++ r).take (1 + nbytes xs.length + xs.length) = putT xs := by
    rw [← putT_len, List.take_left]
  rw [e, firstP]
  simp only [numP_text xs r hl, hs, Int.toNat_natCast, hd, ht, List.take_left]
  rw [if_neg (by rcases hk with rfl | rfl <;> simp), if_neg (by rw [List.length_append, putT_len]; omega), if_neg (by rw [sum3_num _ (crcS_lt _)]; simp), if_neg (fun ⟨h1, h2⟩ => hn h1 h2), frameB_len]
  congr 3
  omega
/-- What is read stands in a frame. -/
theorem first_inv {b : List UInt8} {k : UInt8} {xs : List UInt8} {n : Nat} (h : firstP b = some (k, xs, n)) : okF (k, xs) ∧ n = (frameB k xs).length ∧ ∃ r, b = frameB k xs ++ r := by
  match b with
  | x0 :: x1 :: x2 :: k' :: b4 =>
    rw [firstP] at h
    split at h
    · cases h
    · split at h
      · cases h
      · split at h
        · cases h
        · split at h
          · cases h
          · rename_i h1 h2 h3 h4
            have he : (numP b4).2.2 = 0 := Classical.byContradiction fun hh => h2 (.inl hh)
            obtain ⟨m, r, e1, e2, e3, e4⟩ := numP_inv (b := b4) (n := (numP b4).1) (s := (numP b4).2.1) (by rw [← he])
            have e2' : (numP b4).2.1.toNat = 1 + nbytes m := by rw [e2]; omega
            have e1' : (numP b4).1.toNat = m := by rw [e1]; omega
            rw [e1', e2'] at h h3 h4
            simp only [Option.some.injEq, Prod.mk.injEq] at h
            obtain ⟨rfl, rfl, rfl⟩ := h
            have hlen : b4.length = 1 + nbytes m + r.length := by rw [e3, List.length_append, putN_len]
            have hm : m ≤ r.length := by
              have : ¬ ((b4.length : Int) - (numP b4).2.1 < (numP b4).1) := fun hh => h2 (.inr (.inr hh))
              rw [e1, e2] at this
              omega
            have hdrop : b4.drop (1 + nbytes m) = r := by rw [e3, ← putN_len m, List.drop_left]
            rw [hdrop] at h4 ⊢
            have hxl : (r.take m).length = m := by rw [List.length_take]; omega
            have hput : putT (r.take m) = putN m ++ r.take m := by unfold putT; rw [hxl]
            have htk : b4.take (1 + nbytes m + m) = putT (r.take m) := by
              rw [hput, e3, ← putN_len m, List.take_length_add_append]
            have h5 : ¬ (4194304 < (numP b4).1) := fun hh => h2 (.inr (.inl hh))
            rw [e1] at h5
            rw [htk] at h3
            refine ⟨⟨?_, ?_, ?_⟩, ?_, r.drop m, ?_⟩
            · show k' = 68 ∨ k' = 71
              rcases Classical.em (k' = 68) with h6 | h6
              · exact .inl h6
              · exact .inr (Classical.byContradiction fun h7 => h1 ⟨h6, h7⟩)
            · show (r.take m).length ≤ 4194304
              omega
            · exact fun h6 h7 => h4 ⟨h6, h7⟩
            · rw [frameB_len, hxl]; omega
            · have h6 : (crcS (k' :: putT (r.take m))).toNat = x0.toNat * 65536 + x1.toNat * 256 + x2.toNat := Classical.byContradiction fun hh => h3 hh
              unfold frameB
              rw [h6, sum3_inv, hput, e3]
              simp
  | [] => simp [firstP] at h
  | [_] => simp [firstP] at h
  | [_, _] => simp [firstP] at h
  | [_, _, _] => simp [firstP] at h
/-- A frame that is cut short is none. -/
theorem first_cut (k : UInt8) (xs : List UInt8) (j : Nat) (h : okF (k, xs)) (hj : j < (frameB k xs).length) : firstP ((frameB k xs).take j) = none := by
  match hf : firstP ((frameB k xs).take j) with
  | none => rfl
  | some (k', ys, n) =>
    exfalso
    obtain ⟨ho, hn, r, hr⟩ := first_inv hf
    have h1 : frameB k xs = frameB k' ys ++ (r ++ (frameB k xs).drop j) := by
      rw [← List.append_assoc, ← hr, List.take_append_drop]
    have h2 := first_frame k xs [] h
    rw [List.append_nil, h1, first_frame k' ys _ ho] at h2
    simp only [Option.some.injEq, Prod.mk.injEq] at h2
    have h3 := congrArg List.length hr
    rw [List.length_take, List.length_append] at h3
    have h4 := congrArg List.length h1
    obtain ⟨rfl, rfl, _⟩ := h2
    omega
/-- Frames, one behind another. -/
def encs (l : List (UInt8 × List UInt8)) : List UInt8 := l.flatMap fun p => frameB p.1 p.2
theorem encs_nil : encs [] = [] := rfl
theorem encs_cons (p : UInt8 × List UInt8) (l : List (UInt8 × List UInt8)) : encs (p :: l) = frameB p.1 p.2 ++ encs l := by simp [encs]
theorem encs_append (l m : List (UInt8 × List UInt8)) : encs (l ++ m) = encs l ++ encs m := by simp [encs]
def framesN : Nat → List UInt8 → List (UInt8 × List UInt8)
  | 0, _ => []
  | f + 1, b =>
    match firstP b with
    | none => []
    | some (k, xs, n) => (k, xs) :: framesN f (b.drop n)
def framesP (b : List UInt8) : List (UInt8 × List UInt8) := framesN b.length b
/-- Bytes have frames, and behind them no more. -/
structure IsFrames (b : List UInt8) (l : List (UInt8 × List UInt8)) (r : List UInt8) : Prop where
  eq : b = encs l ++ r
  ok : ∀ p ∈ l, okF p
  no : firstP r = none
theorem framesN_is : ∀ (f : Nat) (b : List UInt8), b.length ≤ f → ∃ r, IsFrames b (framesN f b) r
  | 0, b, h => by
    have : b = [] := List.eq_nil_of_length_eq_zero (by omega)
    subst this
    exact ⟨[], rfl, (fun p hp => by cases hp), rfl⟩
  | f + 1, b, h => by
    rw [framesN]
    match hf : firstP b with
    | none => exact ⟨b, rfl, (fun p hp => by cases hp), hf⟩
    | some (k, xs, n) =>
      obtain ⟨ho, hn, r, hr⟩ := first_inv hf
      have hd : b.drop n = r := by rw [hn, hr, List.drop_left]
      have hl : 5 ≤ n := by rw [hn, frameB_len]; omega
      obtain ⟨r', h1, h2, h3⟩ := framesN_is f (b.drop n) (by rw [List.length_drop]; omega)
      refine ⟨r', ?_, ?_, h3⟩
      · simp only
        rw [encs_cons, List.append_assoc, ← h1, hd, hr]
      · intro p hp
        rcases List.mem_cons.1 hp with rfl | hp
        · exact ho
        · exact h2 p hp
theorem frames_is (b : List UInt8) : ∃ r, IsFrames b (framesP b) r := framesN_is b.length b (Nat.le_refl _)
/-- There is but one way. -/
theorem frames_one : ∀ (l m : List (UInt8 × List UInt8)) (r s : List UInt8), (∀ p ∈ l, okF p) → (∀ p ∈ m, okF p) → firstP r = none → firstP s = none → encs l ++ r = encs m ++ s → l = m ∧ r = s
  | [], [], r, s, _, _, _, _, h => ⟨rfl, by simpa using h⟩
  | [], p :: m, r, s, _, hm, hr, _, h => by
    exfalso
    rw [encs_nil, List.nil_append, encs_cons, List.append_assoc] at h
    rw [h, first_frame p.1 p.2 _ (hm p (List.mem_cons_self ..))] at hr
    cases hr
  | p :: l, [], r, s, hl, _, _, hs, h => by
    exfalso
    rw [encs_nil, List.nil_append, encs_cons, List.append_assoc] at h
    rw [← h, first_frame p.1 p.2 _ (hl p (List.mem_cons_self ..))] at hs
    cases hs
  | p :: l, q :: m, r, s, hl, hm, hr, hs, h => by
    rw [encs_cons, encs_cons, List.append_assoc, List.append_assoc] at h
    have h1 := first_frame p.1 p.2 (encs l ++ r) (hl p (List.mem_cons_self ..))
    rw [h, first_frame q.1 q.2 _ (hm q (List.mem_cons_self ..))] at h1
    simp only [Option.some.injEq, Prod.mk.injEq] at h1
    obtain ⟨e1, e2, _⟩ := h1
    have hpq : q = p := Prod.ext e1 e2
    subst hpq
    obtain ⟨h2, h3⟩ := frames_one l m r s (fun x hx => hl x (List.mem_cons_of_mem _ hx)) (fun x hx => hm x (List.mem_cons_of_mem _ hx)) hr hs (List.append_cancel_left h)
    exact ⟨by rw [h2], h3⟩
theorem IsFrames.frames {b : List UInt8} {l : List (UInt8 × List UInt8)} {r : List UInt8} (h : IsFrames b l r) : framesP b = l := by
  obtain ⟨r', h'⟩ := frames_is b
  exact (frames_one _ _ r' r h'.ok h.ok h'.no h.no (h'.eq.symm.trans h.eq)).1
theorem frames_encs (l : List (UInt8 × List UInt8)) (h : ∀ p ∈ l, okF p) : framesP (encs l) = l := IsFrames.frames ⟨(List.append_nil _).symm, h, rfl⟩
/-- A beginning of frames has a beginning of them. -/
theorem frames_take : ∀ (l : List (UInt8 × List UInt8)) (j : Nat), (∀ p ∈ l, okF p) → ∃ i, i ≤ l.length ∧ framesP ((encs l).take j) = l.take i ∧ (encs (l.take i)).length ≤ j ∧ (i < l.length → j < (encs (l.take (i + 1))).length)
  | [], j, _ => ⟨0, Nat.le_refl _, by simp [encs_nil, framesP, framesN], by simp [encs_nil], fun h => by simp at h⟩
  | p :: l, j, h => by
    have hp := h p (List.mem_cons_self ..)
    rcases Nat.lt_or_ge j (frameB p.1 p.2).length with hj | hj
    · refine ⟨0, Nat.zero_le _, ?_, by simp [encs_nil], fun _ => by simpa [encs_cons, encs_nil] using hj⟩
      rw [encs_cons, List.take_append_of_le_length (by omega)]
      exact IsFrames.frames ⟨rfl, (fun q hq => by cases hq), first_cut p.1 p.2 j hp hj⟩
    · obtain ⟨i, h1, h2, h3, h4⟩ := frames_take l (j - (frameB p.1 p.2).length) (fun q hq => h q (List.mem_cons_of_mem _ hq))
      refine ⟨i + 1, by simp; omega, ?_, ?_, ?_⟩
      · obtain ⟨r, hr⟩ := frames_is ((encs l).take (j - (frameB p.1 p.2).length))
        refine IsFrames.frames (r := r) ⟨?_, ?_, hr.no⟩
        · rw [encs_cons, List.take_append, List.take_of_length_le hj, hr.eq, h2, List.take_succ_cons, encs_cons, List.append_assoc]
        · intro q hq
          exact h q (List.mem_of_mem_take hq)
      · rw [List.take_succ_cons, encs_cons, List.length_append]; omega
      · intro hi
        have := h4 (by simpa using hi)
        rw [List.take_succ_cons, encs_cons, List.length_append]; omega

end Go.Proofs.Ytnkenkdglcmpdaa
