/- A phased region: a load that all of the second phase waits for, directly or through others of it. -/
import Derived.Test.YtpbcpocheblbfaaRegB
namespace Go.Proofs.Ytpbcpocheblbfaa
set_option linter.unusedVariables false
set_option linter.unusedSimpArgs false

section
variable {P : Program} {ops : Array Oper} {Q : Exit → Act → World → Prop} {md : Region.Mode} {S : World → Prop} {m : Nat}
/-- Each operation from m on waits for number i, or for another one from m on. -/
def depends (md : Region.Mode) (ops : Array Oper) (m i : Nat) : Bool :=
  (List.range ops.size).all fun j => decide (j < m) || ((ops[j]?).map fun o => o.after.any fun e => Region.binds md e && (e.on == i || decide (m ≤ e.on))).getD true
theorem depends_spec {i : Nat} (h : depends md ops m i = true) {j : Nat} {oj : Oper} (hj : ops[j]? = some oj) (hjm : ¬ j < m) : ∃ e ∈ oj.after, Region.binds md e = true ∧ (e.on = i ∨ m ≤ e.on) := by
  have hlt := (Array.getElem?_eq_some_iff.1 hj).1
  have h2 := List.all_eq_true.1 h j (List.mem_range.2 hlt)
  simp only [hjm, decide_false, Bool.false_or] at h2
  rw [hj] at h2
  simp only [Option.map_some, Option.getD_some] at h2
  rw [← Array.any_toList, List.any_eq_true] at h2
  obtain ⟨e, he, h3⟩ := h2
  simp only [Bool.and_eq_true, Bool.or_eq_true, beq_iff_eq, decide_eq_true_eq] at h3
  exact ⟨e, by simpa using he, h3.1, h3.2⟩
/-- None from m on has run. -/
def unrun (ops : Array Oper) (m : Nat) (listed : Array Bool) : Bool := (List.range ops.size).all fun j => decide (j < m) || !(listed.getD j false)
theorem unrun_spec {listed : Array Bool} (h : unrun ops m listed = true) (hs : listed.size = ops.size) : ∀ j, m ≤ j → listed.getD j false = false := fun j hj => by
  rcases Nat.lt_or_ge j ops.size with hlt | hge
  · have h2 := List.all_eq_true.1 h j (List.mem_range.2 hlt)
    have : ¬ j < m := by omega
    simpa [this] using h2
  · simp [Array.getD_eq_getD_getElem?, Array.getElem?_eq_none (show listed.size ≤ j by omega)]
theorem getD_set_false {listed : Array Bool} {j k : Nat} (h : j ≠ k) : (listed.setIfInBounds j true).getD k false = listed.getD k false := getD_set_ne false h
theorem wpAnyP_firstD {i : Nat} {oi : Oper} {v : Value} (hph : depends md ops m i = true) (him : i < m) (hi : ops[i]? = some oi) (hsel : ∀ (j : Nat) (o : Oper) cs b, ops[j]? = some o → o.op ≠ .select cs b)
    (hQ : ∀ c a w, Q (.panic c) (a.put oi.dst v) w → Q (.panic c) a w) :
    ∀ (fuel : Nat) (listed : Array Bool) (a : Act) (w : World),
      (∀ j oj, ops[j]? = some oj → j ≠ i → listed.getD j true = false → (∀ e ∈ oj.after, Region.binds md e = true → e.on ≠ i) → oi.apart ops oj = true) →
      (∀ j, m ≤ j → listed.getD j false = false) →
      i ∈ Region.ready md ops listed → YieldsIf P ops S oi v a → S w →
      wpAnyP P md ops Q S m fuel (listed.setIfInBounds i true) (a.put oi.dst v) w → wpAnyP P md ops Q S m (fuel + 1) listed a w := by
  intro fuel
  induction fuel with
  | zero =>
    intro listed a w _ _ hr hy hS H
    refine ⟨fun h => (by rw [h] at hr; cases hr), fun j hj => ?_⟩
    by_cases hji : j = i
    · subst hji; exact hy.wpOp hi hS ⟨fun _ h => h, H⟩
    · have := ready_mono hj hji
      rw [H.1] at this
      cases this
  | succ fuel ih =>
    intro listed a w hfree hun hr hy hS H
    refine ⟨fun h => (by rw [h] at hr; cases hr), fun j hj => ?_⟩
    by_cases hji : j = i
    · subst hji; exact hy.wpOp hi hS ⟨fun _ h => h, H⟩
    · have h1 := H.2 j (ready_mono hj hji)
      obtain ⟨hjun, oj, hoj, hall⟩ := mem_ready.1 hj
      have hnot : ∀ e ∈ oj.after, Region.binds md e = true → e.on ≠ i := fun e he hb heq => by
        have h1 := hall e he hb
        have h0 := (mem_ready.1 hr).1
        rw [heq] at h1
        rcases Nat.lt_or_ge i listed.size with h' | h'
        · simp [h'] at h0 h1; rw [h0] at h1; cases h1
        · simp [Array.getElem?_eq_none h'] at h1
      have hjm : j < m := Classical.byContradiction fun hjn => by
        obtain ⟨e, he, hb, heq⟩ := depends_spec hph hoj hjn
        rcases heq with heq | heq
        · exact hnot e he hb heq
        · have h1 := hall e he hb
          rw [hun _ heq] at h1; cases h1
      have h2 := wpOp_putIf hoj (hfree j oj hoj hji hjun hnot) (fun cs b => hsel i oi cs b hi) (fun cs b => hsel j oj cs b hoj) hQ hy h1
      have hfree' : ∀ k ok, ops[k]? = some ok → k ≠ i → (listed.setIfInBounds j true).getD k true = false →
          (∀ e ∈ ok.after, Region.binds md e = true → e.on ≠ i) → oi.apart ops ok = true := fun k ok hk hki hun hno => by
        refine hfree k ok hk hki ?_ hno
        by_cases hjk : j = k
        · subst hjk; exact hjun
        · rw [getD_set_ne true hjk] at hun; exact hun
      refine wpOp_mono (fun a' w' h3 => ⟨h3.2.1, ih (listed.setIfInBounds j true) a' w' hfree' (fun k hk => by rw [getD_set_false (by omega)]; exact hun k hk) (ready_mono hr (Ne.symm hji)) h3.1 (h3.2.1 hjm hS) ?_⟩) h2
      rw [Array.setIfInBounds_comm _ _ hji]
      exact h3.2.2
/-- Take number i first: it yields in every world that meets S; what is from m on has not run yet. -/
theorem wpAnyP_loadD {oi : Oper} {v : Value} {fuel : Nat} {listed : Array Bool} {a : Act} {w : World} (i : Nat) (hw : (depends md ops m i && decide (i < m)) = true) (hu : (unrun ops m listed && (listed.size == ops.size)) = true) (hi : ops[i]? = some oi)
    (hs : Region.noSelect ops = true) (hf : Region.free md ops listed i = true) (hr : (Region.ready md ops listed).contains i = true)
    (hQ : ∀ c a w, Q (.panic c) (a.put oi.dst v) w → Q (.panic c) a w) (hS : S w) (hy : YieldsIf P ops S oi v a)
    (h : wpAnyP P md ops Q S m fuel (listed.setIfInBounds i true) (a.put oi.dst v) w) : wpAnyP P md ops Q S m (fuel + 1) listed a w := by
  simp only [Bool.and_eq_true, decide_eq_true_eq, beq_iff_eq] at hw hu
  exact wpAnyP_firstD hw.1 hw.2 hi (Region.noSelect_spec hs) hQ fuel listed a w (Region.free_spec hi hf) (unrun_spec hu.1 hu.2) (by simpa using hr) hy hS h
/-- All below m have run: another condition may come in the place of the first. -/
theorem wpAnyP_swap (S' : World → Prop) (m' : Nat) : ∀ (fuel : Nat) (listed : Array Bool) (a : Act) (w : World), (∀ j, j < m → listed.getD j false = true) →
    wpAnyP P md ops Q S' m' fuel listed a w → wpAnyP P md ops Q S m fuel listed a w
  | 0, _, _, _, _, h => h
  | fuel + 1, listed, a, w, hl, h => ⟨h.1, fun i hi => wpOp_mono (fun a' w' h' => ⟨fun him => by
      have h0 := (mem_ready.1 hi).1
      have h1 := hl i him
      rcases Nat.lt_or_ge i listed.size with h'' | h''
      · simp [h''] at h0 h1; rw [h0] at h1; cases h1
      · simp [Array.getElem?_eq_none h''] at h1, wpAnyP_swap S' m' fuel _ a' w' (fun j hj => by
          by_cases hij : i = j
          · subst hij
            have h1 := hl i hj
            rcases Nat.lt_or_ge i listed.size with h'' | h''
            · simp [h'']
            · simp [Array.getElem?_eq_none h''] at h1
          · rw [getD_set_false hij]; exact hl j hj) h'.2⟩) (h.2 i hi)⟩
def ranAll (m : Nat) (listed : Array Bool) : Bool := (List.range m).all fun j => listed.getD j false
theorem wpAnyP_swapB (S' : World → Prop) (m' : Nat) {fuel : Nat} {listed : Array Bool} {a : Act} {w : World} (hl : ranAll m listed = true) (h : wpAnyP P md ops Q S' m' fuel listed a w) : wpAnyP P md ops Q S m fuel listed a w :=
  wpAnyP_swap S' m' fuel listed a w (fun j hj => List.all_eq_true.1 hl j (List.mem_range.2 hj)) h
end

end Go.Proofs.Ytpbcpocheblbfaa
