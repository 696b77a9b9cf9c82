/- While records are laid anew, power fails: plain Lean. -/
import Derived.Test.YtnkenkdglcmpdaaJouZ
namespace Go.Proofs.Ytnkenkdglcmpdaa
set_option linter.unusedVariables false
set_option linter.unusedSimpArgs false
open Go.RowKit

theorem Run.alive {T : TS} {J : JS} {R : List (List UInt8)} {k : Nat} (h : Run T J (R.take k)) : Alive T J R k := ⟨h.off, h.fails, h.area, h.b0⟩
theorem Run.kept {T : TS} {J : JS} {R : List (List UInt8)} {k s : Nat} (h : Run T J (R.take k)) (hk : Kept T R s) (l : List UInt8) (hl : R[k]? = some l) (hs : ∀ x ∈ R, x.length ≤ 8000) (ht : 20 * R.length + total R ≤ 8000) :
    (J.append T l).1 = 0 ∧ Run (J.append T l).2.1 (J.append T l).2.2 (R.take (k + 1)) ∧ Kept (J.append T l).2.1 R s := by
  have hts := take_snoc R k l hl
  have h1 := h.append l (by rw [← hts]; exact fun x hx => hs x (List.mem_of_mem_take hx)) (by rw [← hts]; have := total_take R (k + 1); omega)
  rw [← hts] at h1
  rcases h.alive.append hk l hl hs ht with h2 | h2
  · exact ⟨h1.1, h1.2, h2.2.2⟩
  · rw [h1.1] at h2; exact absurd h2.1 (by decide)
theorem Run.sync {T : TS} {J : JS} {R : List (List UInt8)} {k s : Nat} (h : Run T J (R.take k)) (hk : Kept T R s) (hkl : k ≤ R.length) :
    (J.sync T).1 = 0 ∧ Run (J.sync T).2.1 (J.sync T).2.2 (R.take k) ∧ Kept (J.sync T).2.1 R k := by
  obtain ⟨e1, e2, e3, e4⟩ := sync_fine (T := T) (a := 0) (.inl rfl) h.off h.plan
  have ea : J.sync T = ((T.sync 0).1, (T.sync 0).2, J) := by
    unfold JS.sync
    rw [h.fault, if_neg (by simp), h.area]
  have h1 : (J.sync T).1 = 0 := by rw [ea]; exact e1
  refine ⟨h1, ?_, ?_⟩
  · rw [ea]
    exact ⟨e2.off.trans h.off, e2.plan h.plan, e2.fails.trans h.fails, h.area, h.turn, e3.trans h.b0, e2.other.trans h.b1, e2.room.trans h.room⟩
  · rcases h.alive.sync hk hkl with h2 | h2
    · exact h2.2.2
    · rw [h1] at h2; exact absurd h2.1 (by decide)
/-- What a tape keeps while the other area is laid. -/
structure Kept2 (T : TS) (R : List (List UInt8)) (q : Nat) (M : List (List UInt8)) : Prop where
  pre : T.b0 <+: encs (runF R)
  sure : (encs (runF (R.take q))).length ≤ T.s0
  le : q ≤ R.length
  s0 : T.s0 ≤ T.b0.length
  b1 : T.b1 <+: encs (laid M 2)
  s1 : T.b1 = [] ∨ T.s1 ≤ T.b1.length
  room : T.room = 1048576
theorem Kept2.gone {T : TS} {R M : List (List UInt8)} {s : Nat} (h : Kept2 T R s M) (k : Int) : Kept2 (T.gone k) R s M ∧ Dead (T.gone k) := by
  obtain ⟨h1, h2⟩ := keepN_le T.b0 T.s0 k h.s0
  refine ⟨⟨(List.take_prefix _ _).trans h.pre, Nat.le_trans h.sure h1, h.le, ?_, (List.take_prefix _ _).trans h.b1, ?_, h.room⟩, rfl, rfl⟩
  · show keepN T.b0 T.s0 k ≤ (T.b0.take (keepN T.b0 T.s0 k)).length
    rw [List.length_take]; omega
  · rcases h.s1 with hb | hs
    · exact .inl (by show T.b1.take _ = []; rw [hb]; simp)
    · obtain ⟨g1, g2⟩ := keepN_le T.b1 T.s1 k hs
      refine .inr ?_
      show keepN T.b1 T.s1 k ≤ (T.b1.take (keepN T.b1 T.s1 k)).length
      rw [List.length_take]; omega
/-- The other area holds the frames X; nothing has failed. -/
structure Live (T : TS) (R : List (List UInt8)) (q : Nat) (M : List (List UInt8)) (X : List (UInt8 × List UInt8)) : Prop where
  kept : Kept2 T R q M
  off : T.off = false
  b1 : T.b1 = encs X
  s1 : T.s1 ≤ T.b1.length
def LQ (R : List (List UInt8)) (q : Nat) (M : List (List UInt8)) (X : List (UInt8 × List UInt8)) (s : Int × Int × TS) : Prop :=
  (s.2.1 = 0 ∧ Live s.2.2 R q M X) ∨ (s.2.1 = 150 ∧ Dead s.2.2 ∧ Kept2 s.2.2 R q M)
theorem op_or (T : TS) (f : TS → TS) : T.op f = (0, f T.step) ∨ ∃ k, T.op f = (150, T.gone k) := by
  unfold TS.op
  match T.plan with
  | none => exact .inl rfl
  | some (l, k) =>
    simp only
    by_cases h : l = 0
    · rw [if_pos h]; exact .inr ⟨k, rfl⟩
    · rw [if_neg h]; exact .inl rfl
theorem encs_pre {X Y : List (UInt8 × List UInt8)} (h : X <+: Y) : encs X <+: encs Y := by
  obtain ⟨Z, rfl⟩ := h
  exact ⟨encs Z, (encs_append X Z).symm⟩
theorem Live.put {R M : List (List UInt8)} {q : Nat} {X : List (UInt8 × List UInt8)} {s : Int × Int × TS} (h : LQ R q M X s) (k : UInt8) (l : List UInt8) (hX : X ++ [(k, l)] <+: laid M 2) (hR : (encs (runF R)).length ≤ 9000) (hM : (encs (laid M 2)).length ≤ 9000) :
    LQ R q M (X ++ [(k, l)]) (layPut 1 (frameB k l) s) := by
  have he : encs (X ++ [(k, l)]) = encs X ++ frameB k l := by rw [encs_append, encs_one]
  rcases h with ⟨h0, h1⟩ | ⟨h0, h1, h2⟩
  · unfold layPut
    rw [if_pos h0]
    have l1 := h1.kept.pre.length_le
    have l2 := (encs_pre hX).length_le
    rw [he, List.length_append] at l2
    have hu : s.2.2.used = s.2.2.b0.length + (encs X).length := by unfold TS.used; rw [h1.b1]
    have e : s.2.2.append 1 (frameB k l) = s.2.2.op fun T => T.app 1 (frameB k l) := by
      unfold TS.append
      rw [h1.off, if_neg (by rw [faultN_ok (.inr rfl)]; simp), if_neg (by rw [hu, h1.kept.room]; omega)]
    rw [e]
    rcases op_or s.2.2 (fun T => T.app 1 (frameB k l)) with hx | ⟨x, hx⟩
    · rw [hx]
      have hs1 : s.2.2.s1 ≤ (s.2.2.b1 ++ frameB k l).length := by rw [List.length_append]; have := h1.s1; omega
      refine .inl ⟨rfl, ⟨⟨h1.kept.pre, h1.kept.sure, h1.kept.le, h1.kept.s0, ?_, .inr hs1, h1.kept.room⟩, h1.off, ?_, hs1⟩⟩
      · show s.2.2.b1 ++ frameB k l <+: _
        rw [h1.b1, ← he]; exact encs_pre hX
      · show s.2.2.b1 ++ frameB k l = _
        rw [h1.b1, he]
    · rw [hx]
      exact .inr ⟨rfl, (h1.kept.gone x).2, (h1.kept.gone x).1⟩
  · unfold layPut
    rw [if_neg (by rw [h0]; decide)]
    exact .inr ⟨h0, h1, h2⟩
theorem Live.fold {R M : List (List UInt8)} {q : Nat} (hR : (encs (runF R)).length ≤ 9000) (hM : (encs (laid M 2)).length ≤ 9000) : ∀ (ls : List (List UInt8)) (X : List (UInt8 × List UInt8)) (s : Int × Int × TS), LQ R q M X s → X ++ dat ls <+: laid M 2 → LQ R q M (X ++ dat ls) (layFold 1 ls s)
  | [], X, s, h, _ => by simpa [dat, layFold] using h
  | l :: ls, X, s, h, hX => by
    have e : X ++ dat (l :: ls) = (X ++ [(68, l)]) ++ dat ls := by simp [dat]
    rw [e] at hX ⊢
    have h1 := Live.put h 68 l ((List.prefix_append _ _).trans hX) hR hM
    exact Live.fold hR hM ls (X ++ [(68, l)]) _ h1 hX
/-- Records are laid anew: they are there, all of them, or power is gone. -/
theorem Live.lay {T : TS} {R M : List (List UInt8)} {q : Nat} (hk : Kept2 T R q M) (ho : T.off = false) (hR : (encs (runF R)).length ≤ 9000) (hM : (encs (laid M 2)).length ≤ 9000) :
    ((layN T 1 1 M).2.1 = 0 ∧ Live (layN T 1 1 M).2.2 R q M (laid M 2) ∧ (layN T 1 1 M).2.2.s1 = (layN T 1 1 M).2.2.b1.length) ∨
    ((layN T 1 1 M).2.1 = 150 ∧ Dead (layN T 1 1 M).2.2 ∧ Kept2 (layN T 1 1 M).2.2 R q M) := by
  have ec : T.clear 1 = T.op fun T => T.clr 1 := by
    unfold TS.clear
    rw [ho, if_neg (by rw [faultN_ok (.inr rfl)]; simp)]
  unfold layN
  rw [ec]
  rcases op_or T (fun T => T.clr 1) with hx | ⟨x, hx⟩
  · rw [hx, if_neg (by simp)]
    have h0 : LQ R q M [] (0, 0, T.step.clr 1) := by
      exact .inl ⟨rfl, ⟨⟨hk.pre, hk.sure, hk.le, hk.s0, ⟨encs (laid M 2), rfl⟩, .inl rfl, hk.room⟩, ho, rfl, Nat.le_refl _⟩⟩
    have h1 := Live.fold hR hM M [] _ h0 (by rw [List.nil_append]; exact List.prefix_append _ _)
    rw [List.nil_append] at h1
    have h2 : LQ R q M (laid M 2) (layEnd 1 1 (layFold 1 M (0, 0, T.step.clr 1))) := Live.put h1 71 (putN 2) (List.prefix_refl _) hR hM
    show (if (layEnd 1 1 (layFold 1 M (0, 0, T.step.clr 1))).2.1 = 0 then _ else _ : Int × Int × TS).2.1 = 0 ∧ _ ∨ _
    rcases h2 with ⟨e0, h3⟩ | ⟨e0, h3, h4⟩
    · simp only [e0, if_true]
      have es : (layEnd 1 1 (layFold 1 M (0, 0, T.step.clr 1))).2.2.sync 1 = (layEnd 1 1 (layFold 1 M (0, 0, T.step.clr 1))).2.2.op fun T => T.syn 1 := by
        unfold TS.sync
        rw [h3.off, if_neg (by rw [faultN_ok (.inr rfl)]; simp)]
      rw [es]
      rcases op_or (layEnd 1 1 (layFold 1 M (0, 0, T.step.clr 1))).2.2 (fun T => T.syn 1) with hy | ⟨y, hy⟩
      · rw [hy]
        exact .inl ⟨rfl, ⟨⟨h3.kept.pre, h3.kept.sure, h3.kept.le, h3.kept.s0, h3.kept.b1, .inr (Nat.le_refl _), h3.kept.room⟩, h3.off, h3.b1, Nat.le_refl _⟩, rfl⟩
      · rw [hy]
        exact .inr ⟨rfl, (h3.kept.gone y).2, (h3.kept.gone y).1⟩
    · have en : ¬ ((150 : Int) = 0) := by decide
      simp only [e0, if_neg en]
      exact .inr ⟨trivial, h3, h4⟩
  · rw [hx, if_pos (by simp)]
    exact .inr ⟨rfl, (hk.gone x).2, (hk.gone x).1⟩
/-- What Open finds then. -/
theorem Kept2.again {T : TS} {R M : List (List UInt8)} {s : Nat} (h : Kept2 T R s M) (ho : T.off = false) (hp : T.plan = none) (hs : ∀ x ∈ R, x.length ≤ 8000) (ht : 20 * R.length + total R ≤ 8000) (hsM : ∀ x ∈ M, x.length ≤ 8000) (htM : 20 * M.length + total M ≤ 8000) :
    Again T 1 2 M ∨ ((T.b1 ≠ encs (laid M 2)) ∧ ∃ i, s ≤ i ∧ i ≤ R.length ∧ Again T 0 1 (R.take i)) := by
  have h4M : ∀ x ∈ M, x.length ≤ 4194304 := fun x hx => by have := hsM x hx; omega
  have h4 : ∀ x ∈ R, x.length ≤ 4194304 := fun x hx => by have := hs x hx; omega
  have eM := encs_len M h4M
  have e2 := turnframe_len 2 (by omega)
  have e3 := turnframe_len 3 (by omega)
  have lM2 := laid_len M 2 (by omega)
  have lM3 := laid_len M 3 (by omega)
  have hlen := runF_len R h4
  have hle2 := h.pre.length_le
  have hleM := h.b1.length_le
  obtain ⟨n, hn⟩ : ∃ n, n = T.b0.length := ⟨_, rfl⟩
  have hb : T.b0 = (encs (runF R)).take n := by rw [hn]; exact List.prefix_iff_eq_take.1 h.pre
  obtain ⟨i, h1, h2, h3, h5⟩ := frames_take (runF R) n (runF_ok h4)
  have hsn : (encs ((runF R).take (s + 1))).length ≤ n := by rw [← runF_take]; have := h.sure; have := h.s0; omega
  have hRl : (runF R).length = R.length + 1 := by simp [runF, dat]
  have hi : s + 1 ≤ i := by
    rcases Nat.lt_or_ge i (s + 1) with hlt | hge
    · exfalso
      have hle := h.le
      have h6 := h5 (by omega)
      have h7 : (encs ((runF R).take (i + 1))).length ≤ (encs ((runF R).take (s + 1))).length := by
        have := encs_take_pre ((runF R).take (s + 1)) (i + 1)
        rw [List.take_take, Nat.min_eq_left (by omega)] at this
        exact this.length_le
      omega
    · exact hge
  obtain ⟨q, rfl⟩ : ∃ q, i = q + 1 := ⟨i - 1, by omega⟩
  have hf : framesP (T.b 0) = runF (R.take q) := by
    show framesP T.b0 = _
    rw [hb, h2, runF_take]
  have t0 : turnOf (framesP (T.b 0)) = 1 := by rw [hf, runF_turn]
  obtain ⟨n1, hn1⟩ : ∃ n, n = T.b1.length := ⟨_, rfl⟩
  have hb1 : T.b1 = (encs (laid M 2)).take n1 := by rw [hn1]; exact List.prefix_iff_eq_take.1 h.b1
  obtain ⟨j, g1, g2, g3, g5⟩ := frames_take (laid M 2) n1 (laid_ok h4M (by omega) (by omega))
  have hLl : (laid M 2).length = M.length + 1 := by simp [laid, dat]
  have hf1 : framesP (T.b 1) = (laid M 2).take j := by
    show framesP T.b1 = _
    rw [hb1, g2]
  rcases Nat.lt_or_ge j (M.length + 1) with hj | hj
  · have hd : (laid M 2).take j = dat (M.take j) := by
      unfold laid
      rw [List.take_append_of_le_length (by simp [dat]; omega)]
      simp [dat, List.map_take]
    have t1 : turnOf (framesP (T.b 1)) = 0 := by
      have := turnOf_dat [] (M.take j)
      rw [List.nil_append] at this
      rw [hf1, hd, this]; rfl
    have hsq : ∀ x ∈ R.take q, x.length ≤ 8000 := fun x hx => hs x (List.mem_of_mem_take hx)
    have htq := total_take R q
    have e1 := encs_len (R.take q) (fun x hx => by have := hsq x hx; omega)
    have lq := laid_len (R.take q) 2 (by omega)
    refine .inr ⟨fun hall => ?_, q, by omega, by omega, ⟨.inl rfl, ho, hp, by omega, by omega, by rw [t0]; rfl, by rw [hf, runF_recs], ?_, fun x hx => by have := hsq x hx; omega, ?_, by rw [h.room]; omega⟩, h.room, ?_⟩
    · have h6 := g5 (by omega)
      have h7 : (encs ((laid M 2).take (j + 1))).length ≤ (encs (laid M 2)).length := (encs_take_pre _ _).length_le
      rw [hn1, hall] at h6
      omega
    · show turnOf (framesP (T.b 1)) < _
      rw [t1]; decide
    · show ((T.b0.length : Int) + _ ≤ _)
      rw [show (1 : Nat) + 1 = 2 from rfl, lq, h.room]; omega
    · show T.b0.length ≤ 9000
      omega
  · have hall : (laid M 2).take j = laid M 2 := List.take_of_length_le (by omega)
    rw [hall] at hf1
    refine .inl ⟨⟨.inr rfl, ho, hp, by omega, by omega, by rw [hf1, turnOf_laid _ _ (by omega)], by rw [hf1, recsOf_laid], ?_, h4M, ?_, by rw [h.room]; omega⟩, h.room, ?_⟩
    · show turnOf (framesP (T.b 0)) < _
      rw [t0]; decide
    · show ((T.b1.length : Int) + _ ≤ _)
      rw [show 2 + 1 = 3 from rfl, lM3, h.room]; omega
    · show T.b1.length ≤ 9000
      omega
theorem Kept2.fail {T : TS} {R M : List (List UInt8)} {s : Nat} (h : Kept2 T R s M) (hd : T.off = true → T.plan = none) (k : Int) : Kept2 { (T.fail k).2 with off := false } R s M ∧ (T.fail k).2.plan = none ∧ (T.b1 = encs (laid M 2) → T.s1 = T.b1.length → (T.fail k).2.b1 = encs (laid M 2)) := by
  unfold TS.fail
  by_cases ho : T.off = true
  · rw [if_pos ho]
    exact ⟨⟨h.pre, h.sure, h.le, h.s0, h.b1, h.s1, h.room⟩, hd ho, fun hb _ => hb⟩
  · rw [if_neg ho]
    obtain ⟨g1, g2⟩ := h.gone k
    refine ⟨⟨g1.pre, g1.sure, g1.le, g1.s0, g1.b1, g1.s1, g1.room⟩, g2.2, fun hb hs => ?_⟩
    show T.b1.take (keepN T.b1 T.s1 k) = _
    obtain ⟨k1, k2⟩ := keepN_le T.b1 T.s1 k (by omega)
    rw [List.take_of_length_le (by omega), hb]
theorem Kept.two {T : TS} {R : List (List UInt8)} {s : Nat} (h : Kept T R s) (M : List (List UInt8)) : Kept2 T R s M := ⟨h.pre, h.sure, h.le, h.s0, by rw [h.b1]; exact ⟨encs (laid M 2), rfl⟩, .inl h.b1, h.room⟩

/-- Lay, on a tape of the law. -/
theorem lay_out {T : TS} {J : JS} {R M : List (List UInt8)} {k q : Nat} (h : Alive T J R k) (hj : J.turn = 1) (hk : Kept T R q) (hs : ∀ x ∈ R, x.length ≤ 8000) (ht : 20 * R.length + total R ≤ 8000) (hsM : ∀ x ∈ M, x.length ≤ 8000) (htM : 20 * M.length + total M ≤ 8000) :
    ∃ ok : Bool, (J.lay T M).1 = (if ok = true then 0 else 150) ∧ Kept2 (J.lay T M).2.1 R q M ∧ ((J.lay T M).2.1.off = true → (J.lay T M).2.1.plan = none) ∧ (ok = true → (J.lay T M).2.1.b1 = encs (laid M 2) ∧ (J.lay T M).2.1.s1 = (J.lay T M).2.1.b1.length) := by
  have h4M : ∀ x ∈ M, x.length ≤ 4194304 := fun x hx => by have := hsM x hx; omega
  have h4 : ∀ x ∈ R, x.length ≤ 4194304 := fun x hx => by have := hs x hx; omega
  have eM := encs_len M h4M
  have e2 := turnframe_len 2 (by omega)
  have lM2 := laid_len M 2 (by omega)
  have hlen := runF_len R h4
  unfold JS.lay
  rw [h.fault, if_neg (by simp), long_no h4M, if_neg (by simp), hj, if_neg (by decide), h.area]
  rw [show (1 : Int) - 0 = 1 from rfl]
  rcases Live.lay (hk.two M) h.off (by omega) (by omega) with ⟨e0, h1, h2⟩ | ⟨e0, h1, h2⟩
  · rw [if_pos e0]
    refine ⟨true, rfl, h1.kept, ?_, fun _ => ⟨h1.b1, h2⟩⟩
    intro ho
    have ho : (layN T 1 1 M).2.2.off = true := ho
    rw [h1.off] at ho; cases ho
  · rw [if_neg (by rw [e0]; decide), if_neg (by rw [e0]; decide)]
    exact ⟨false, e0, h2, fun _ => h1.2, fun h => by cases h⟩
/-- What is found behind it. -/
theorem Kept2.end_ {T : TS} {R M : List (List UInt8)} {q : Nat} {ok : Bool} (h : Kept2 T R q M) (hd : T.off = true → T.plan = none) (hok : ok = true → T.b1 = encs (laid M 2) ∧ T.s1 = T.b1.length) (k : Int) (hs : ∀ x ∈ R, x.length ≤ 8000) (ht : 20 * R.length + total R ≤ 8000) (hsM : ∀ x ∈ M, x.length ≤ 8000) (htM : 20 * M.length + total M ≤ 8000) :
    ∃ a t l, t ≤ 2 ∧ Again { (T.fail k).2 with off := false } a t l ∧ (∀ x ∈ l, x.length ≤ 8000) ∧ 20 * l.length + total l ≤ 8000 ∧ (l = M ∨ (ok = false ∧ ∃ i, q ≤ i ∧ i ≤ R.length ∧ l = R.take i)) := by
  obtain ⟨g1, g2, g3⟩ := h.fail hd k
  rcases g1.again rfl g2 hs ht hsM htM with h1 | ⟨h0, i, hi, hil, h1⟩
  · exact ⟨1, 2, M, by omega, h1, hsM, htM, .inl rfl⟩
  · have htq := total_take R i
    refine ⟨0, 1, R.take i, by omega, h1, fun x hx => hs x (List.mem_of_mem_take hx), by omega, .inr ⟨?_, i, hi, hil, rfl⟩⟩
    cases ok with
    | false => rfl
    | true => exact absurd (g3 (hok rfl).1 (hok rfl).2) h0

end Go.Proofs.Ytnkenkdglcmpdaa
