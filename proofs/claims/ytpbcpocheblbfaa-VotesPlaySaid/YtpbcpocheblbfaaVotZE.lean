/- The best of the map and the document's best are one: plain. -/
import Derived.Test.YtpbcpocheblbfaaVotZC
namespace Go.Proofs.Ytpbcpocheblbfaa
set_option linter.unusedVariables false
set_option linter.unusedSimpArgs false
open Go.RowKit Go.MapKept

theorem bl_total : ∀ xs ys : List UInt8, xs ≠ ys → Op.bytesLess xs ys = true ∨ Op.bytesLess ys xs = true
  | [], [], h => absurd rfl h
  | [], y :: ys, _ => .inl (by unfold Op.bytesLess; rfl)
  | x :: xs, [], _ => .inr (by unfold Op.bytesLess; rfl)
  | x :: xs, y :: ys, h => by
    unfold Op.bytesLess
    by_cases hxy : x = y
    · subst hxy
      have := bl_total xs ys (fun e => h (by rw [e]))
      rcases this with h1 | h1 <;> simp [h1]
    · rcases UInt8.lt_or_lt_of_ne hxy with h1 | h1
      · exact .inl (by simp [h1])
      · exact .inr (by simp [h1])
theorem bl_trans : ∀ xs ys zs : List UInt8, Op.bytesLess xs ys = true → Op.bytesLess ys zs = true → Op.bytesLess xs zs = true
  | _, _, [], _, h2 => by unfold Op.bytesLess at h2; cases h2
  | [], _, z :: zs, _, _ => by unfold Op.bytesLess; rfl
  | x :: xs, [], z :: zs, h1, _ => by unfold Op.bytesLess at h1; cases h1
  | x :: xs, y :: ys, z :: zs, h1, h2 => by
    unfold Op.bytesLess at h1 h2 ⊢
    simp only [Bool.or_eq_true, decide_eq_true_eq, Bool.and_eq_true, beq_iff_eq] at h1 h2 ⊢
    rcases h1 with h1 | ⟨rfl, h1⟩
    · rcases h2 with h2 | ⟨rfl, h2⟩
      · exact .inl (UInt8.lt_trans h1 h2)
      · exact .inl h1
    · rcases h2 with h2 | ⟨rfl, h2⟩
      · exact .inl h2
      · exact .inr ⟨rfl, bl_trans xs ys zs h1 h2⟩
theorem ahead_iff (u v : Vt) : aheadP u v = true ↔ (v.view < u.view ∨ (u.view = v.view ∧ ((u.dig ≠ v.dig ∧ Op.bytesLess u.dig v.dig = true) ∨ (u.dig = v.dig ∧ (u.epoch < v.epoch ∨ (u.epoch = v.epoch ∧ u.slot < v.slot)))))) := by
  unfold aheadP
  rw [lessP_eq]
  by_cases h1 : u.view = v.view
  · by_cases h2 : u.dig = v.dig
    · by_cases h3 : u.epoch = v.epoch
      · simp [h1, h2, h3]
      · simp [h1, h2, h3]
    · simp [h1, h2]
  · simp [h1]
theorem ahead_irr (u : Vt) : aheadP u u = false := by
  cases h : aheadP u u with
  | false => rfl
  | true => rw [ahead_iff] at h; simp at h
theorem ahead_trans {u v w : Vt} (h1 : aheadP u v = true) (h2 : aheadP v w = true) : aheadP u w = true := by
  rw [ahead_iff] at h1 h2 ⊢
  rcases h1 with h1 | ⟨a1, h1⟩
  · rcases h2 with h2 | ⟨a2, h2⟩
    · exact .inl (by omega)
    · exact .inl (by omega)
  · rcases h2 with h2 | ⟨a2, h2⟩
    · exact .inl (by omega)
    · refine .inr ⟨by omega, ?_⟩
      rcases h1 with ⟨b1, h1⟩ | ⟨b1, h1⟩
      · rcases h2 with ⟨b2, h2⟩ | ⟨b2, h2⟩
        · have ht := bl_trans _ _ _ h1 h2
          refine .inl ⟨fun e => ?_, ht⟩
          rw [e, bl_same] at ht
          cases ht
        · exact .inl ⟨by rw [← b2]; exact b1, by rw [← b2]; exact h1⟩
      · rcases h2 with ⟨b2, h2⟩ | ⟨b2, h2⟩
        · exact .inl ⟨by rw [b1]; exact b2, by rw [b1]; exact h2⟩
        · refine .inr ⟨b1.trans b2, ?_⟩
          omega
theorem ahead_total {u v : Vt} (hk : u.kind = v.kind) (hne : u ≠ v) : aheadP u v = true ∨ aheadP v u = true := by
  rw [ahead_iff, ahead_iff]
  by_cases h1 : u.view = v.view
  · by_cases h2 : u.dig = v.dig
    · by_cases h3 : u.epoch = v.epoch
      · have h4 : u.slot ≠ v.slot := fun h4 => hne (by cases u; cases v; simp_all)
        by_cases h5 : u.slot < v.slot
        · exact .inl (.inr ⟨h1, .inr ⟨h2, .inr ⟨h3, h5⟩⟩⟩)
        · exact .inr (.inr ⟨h1.symm, .inr ⟨h2.symm, .inr ⟨h3.symm, by omega⟩⟩⟩)
      · by_cases h5 : u.epoch < v.epoch
        · exact .inl (.inr ⟨h1, .inr ⟨h2, .inl h5⟩⟩)
        · exact .inr (.inr ⟨h1.symm, .inr ⟨h2.symm, .inl (by omega)⟩⟩)
    · rcases bl_total _ _ h2 with h3 | h3
      · exact .inl (.inr ⟨h1, .inl ⟨h2, h3⟩⟩)
      · exact .inr (.inr ⟨h1.symm, .inl ⟨fun e => h2 e.symm, h3⟩⟩)
  · by_cases h5 : v.view < u.view
    · exact .inl (.inl h5)
    · exact .inr (.inl (by omega))

/-- r is the best of S. -/
def Max (kind : Int) (S : Vt → Prop) (r : Bool × Vt) : Prop :=
  (r.1 = true → S r.2 ∧ ∀ x, S x → x = r.2 ∨ aheadP r.2 x = true) ∧ (r.1 = false → r.2 = zeroV ∧ ∀ x, ¬ S x) ∧ ∀ x, S x → x.kind = kind
theorem Max.step {kind : Int} {S : Vt → Prop} {r : Bool × Vt} (h : Max kind S r) (v : Vt) (hv : v.kind = kind) : Max kind (fun x => S x ∨ x = v) (if r.1 = false ∨ aheadP v r.2 = true then (true, v) else r) := by
  obtain ⟨h1, h2, h3⟩ := h
  have hk : ∀ x, S x ∨ x = v → x.kind = kind := fun x hx => hx.elim (h3 x) (fun e => by rw [e]; exact hv)
  by_cases hr : r.1 = false
  · rw [if_pos (.inl hr)]
    refine ⟨fun _ => ⟨.inr rfl, fun x hx => .inl (hx.elim (fun hs => absurd hs ((h2 hr).2 x)) id)⟩, fun h => (by cases h), hk⟩
  · have hr : r.1 = true := by simpa using hr
    obtain ⟨hs, hm⟩ := h1 hr
    by_cases ha : aheadP v r.2 = true
    · rw [if_pos (.inr ha)]
      refine ⟨fun _ => ⟨.inr rfl, fun x hx => ?_⟩, fun h => (by cases h), hk⟩
      rcases hx with hx | rfl
      · rcases hm x hx with rfl | hx
        · exact .inr ha
        · exact .inr (ahead_trans ha hx)
      · exact .inl rfl
    · rw [if_neg (by rw [hr]; simp [ha])]
      refine ⟨fun _ => ⟨.inl hs, fun x hx => ?_⟩, fun h => (by rw [hr] at h; cases h), hk⟩
      rcases hx with hx | rfl
      · exact hm x hx
      · by_cases he : x = r.2
        · exact .inl he
        · rcases ahead_total (by rw [hv, h3 _ hs]) he with h | h
          · exact absurd h ha
          · exact .inr h
theorem Max.keep {kind : Int} {S S' : Vt → Prop} {r : Bool × Vt} (h : Max kind S r) (he : ∀ x, S x ↔ S' x) : Max kind S' r := by
  have : S = S' := funext fun x => propext (he x)
  rw [← this]; exact h
theorem Max.one {kind : Int} {S : Vt → Prop} {r r' : Bool × Vt} (h : Max kind S r) (h' : Max kind S r') : r = r' := by
  obtain ⟨a1, a2, _⟩ := h
  obtain ⟨b1, b2, _⟩ := h'
  cases hr : r.1 with
  | false =>
    cases hr' : r'.1 with
    | false => exact Prod.ext (by rw [hr, hr']) (by rw [(a2 hr).1, (b2 hr').1])
    | true => exact absurd (b1 hr').1 ((a2 hr).2 _)
  | true =>
    cases hr' : r'.1 with
    | false => exact absurd (a1 hr).1 ((b2 hr').2 _)
    | true =>
      refine Prod.ext (by rw [hr, hr']) ?_
      rcases (a1 hr).2 _ (b1 hr').1 with e | e
      · exact e.symm
      · rcases (b1 hr').2 _ (a1 hr).1 with f | f
        · exact f
        · have := ahead_trans e f
          rw [ahead_irr] at this
          cases this
theorem fold_max (M : List (Ent One)) (kind need : Int) : ∀ (D : List (Ent One)) (S : Vt → Prop) (r : Bool × Vt), Max kind S r → Max kind (fun x => S x ∨ ∃ p ∈ D, p.2.1 = x ∧ Fits M kind need x) (D.foldl (fun r p => lookB M kind need r p.2.1) r)
  | [], S, r, h => h.keep fun x => by simp
  | p :: D, S, r, h => by
    rw [List.foldl_cons]
    by_cases hf : Fits M kind need p.2.1
    · have h1 := h.step p.2.1 hf.1
      have e : lookB M kind need r p.2.1 = if r.1 = false ∨ aheadP p.2.1 r.2 = true then (true, p.2.1) else r := by
        unfold lookB
        simp only [hf.1, hf.2, true_and]
      rw [e]
      refine (fold_max M kind need D _ _ h1).keep fun x => ?_
      constructor
      · rintro ((h | rfl) | ⟨q, hq, h⟩)
        · exact .inl h
        · exact .inr ⟨p, List.mem_cons_self .., rfl, hf⟩
        · exact .inr ⟨q, List.mem_cons_of_mem _ hq, h⟩
      · rintro (h | ⟨q, hq, h⟩)
        · exact .inl (.inl h)
        · rcases List.mem_cons.1 hq with rfl | hq
          · exact .inl (.inr h.1.symm)
          · exact .inr ⟨q, hq, h⟩
    · have e : lookB M kind need r p.2.1 = r := by
        unfold lookB
        rw [if_neg (fun h => hf ⟨h.1, h.2.1⟩)]
      rw [e]
      refine (fold_max M kind need D _ _ h).keep fun x => ?_
      constructor
      · rintro (h | ⟨q, hq, h⟩)
        · exact .inl h
        · exact .inr ⟨q, List.mem_cons_of_mem _ hq, h⟩
      · rintro (h | ⟨q, hq, h⟩)
        · exact .inl h
        · rcases List.mem_cons.1 hq with rfl | hq
          · exact absurd (by rw [h.1]; exact h.2) hf
          · exact .inr ⟨q, hq, h⟩
theorem max_nil (kind : Int) : Max kind (fun _ => False) (false, zeroV) := ⟨fun h => (by cases h), fun _ => ⟨rfl, fun _ h => h⟩, fun _ h => h.elim⟩
theorem ref_max {N : Nat} {M : List (Ent One)} (h : Inv N M) (kind need : Int) : ∀ n : Nat, Max kind (fun x => ∃ i : Nat, i < n ∧ ∃ t, lookM M (kind, (i : Int)) = some (x, t) ∧ certOk M x N need = true) (refF M kind need N n)
  | 0 => (max_nil kind).keep fun x => ⟨fun h => h.elim, fun ⟨i, hi, _⟩ => by omega⟩
  | n + 1 => by
    have ih := ref_max h kind need n
    rw [refF_succ]
    unfold stepR
    cases hl : lookM M (kind, (n : Int)) with
    | none =>
      refine ih.keep fun x => ⟨fun ⟨i, hi, hx⟩ => ⟨i, by omega, hx⟩, fun ⟨i, hi, t, hx, hc⟩ => ⟨i, ?_, t, hx, hc⟩⟩
      by_cases hin : i = n
      · subst hin; rw [hl] at hx; cases hx
      · omega
    | some y =>
      obtain ⟨yv, yt⟩ := y
      have hkd : yv.kind = kind := (h.each _ (lookM_mem hl)).1.symm
      simp only
      by_cases hc : certOk M yv N need = true
      · have h1 := ih.step yv hkd
        simp only [hc, true_and]
        refine h1.keep fun x => ⟨?_, ?_⟩
        · rintro (⟨i, hi, hx⟩ | rfl)
          · exact ⟨i, by omega, hx⟩
          · exact ⟨n, by omega, yt, hl, hc⟩
        · rintro ⟨i, hi, t, hx, hcx⟩
          by_cases hin : i = n
          · subst hin; rw [hl] at hx; cases hx; exact .inr rfl
          · exact .inl ⟨i, by omega, t, hx, hcx⟩
      · rw [if_neg (fun h => hc h.1)]
        refine ih.keep fun x => ⟨fun ⟨i, hi, hx⟩ => ⟨i, by omega, hx⟩, fun ⟨i, hi, t, hx, hcx⟩ => ⟨i, ?_, t, hx, hcx⟩⟩
        by_cases hin : i = n
        · subst hin; rw [hl] at hx; cases hx; exact absurd hcx hc
        · omega
theorem best_same {N : Nat} {M : List (Ent One)} (h : Inv N M) (ha : Apart M) {D : List (Ent One)} (hD : M.Perm D) (kind need : Int) :
    (if (foldB M kind need D).1 then certV M (foldB M kind need D).2 N need else zeroV) = (refF M kind need N N).2 ∧
    (if (foldB M kind need D).1 then certL M (foldB M kind need D).2 N need else []) = bestL M N need (refF M kind need N N) ∧
    ((foldB M kind need D).1 && certOk M (foldB M kind need D).2 N need) = (refF M kind need N N).1 := by
  have hr := ref_max h kind need N
  by_cases hn : 1 ≤ need
  · have hb := fold_max M kind need D _ _ (max_nil kind)
    have he : foldB M kind need D = refF M kind need N N := by
      refine Max.one hb (hr.keep fun x => ⟨?_, ?_⟩)
      · rintro ⟨i, hi, t, hx, hc⟩
        have hm := lookM_mem hx
        exact .inr ⟨_, hD.mem_iff.1 hm, rfl, (h.each _ hm).1.symm, ((certOk_iff h ha x need).1 hc).2⟩
      · rintro (h' | ⟨p, hp, rfl, hf⟩)
        · exact h'.elim
        · have hm := hD.mem_iff.2 hp
          obtain ⟨⟨k1, k2⟩, x, t⟩ := p
          have hi := h.each _ hm
          simp only at hi hf
          obtain ⟨k, rfl⟩ : ∃ k : Nat, k2 = (k : Int) := ⟨k2.toNat, by omega⟩
          have e1 : k1 = kind := by rw [hi.1, hf.1]
          subst e1
          exact ⟨k, by omega, t, (look_some ha hm).1, (certOk_iff h ha _ need).2 ⟨hn, hf.2⟩⟩
    rw [he]
    obtain ⟨h1, h2, _⟩ := hr
    generalize refF M kind need N N = r at h1 h2 ⊢
    obtain ⟨ri, rv⟩ := r
    cases ri with
    | false => exact ⟨by simpa using (h2 rfl).1.symm, rfl, rfl⟩
    | true =>
      obtain ⟨⟨i, hi, t, hx, hc⟩, _⟩ := h1 rfl
      simp only at hx hc
      refine ⟨?_, rfl, ?_⟩
      · simp only [if_true]; unfold certV; rw [hc]; rfl
      · simp [hc]
  · have hno : ∀ v, certOk M v N need = false := fun v => by unfold certOk; simp [hn]
    obtain ⟨h1, h2, _⟩ := hr
    generalize refF M kind need N N = r at h1 h2 ⊢
    obtain ⟨ri, rv⟩ := r
    cases ri with
    | true =>
      obtain ⟨⟨i, hi, t, hx, hc⟩, _⟩ := h1 rfl
      rw [hno] at hc
      cases hc
    | false =>
      have hz : rv = zeroV := (h2 rfl).1
      subst hz
      unfold certV certL bestL
      simp [hno]

end Go.Proofs.Ytpbcpocheblbfaa
