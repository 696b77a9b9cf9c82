/- Rows of signs: what a cert holds; laws for them. -/
import Derived.Test.YtpbcpocheblbfaaVotG
namespace Go.Proofs.Ytpbcpocheblbfaa
set_option linter.unusedVariables false
set_option linter.unusedSimpArgs false
open Go.RowKit Go.MapKept

abbrev Sg := Int × List UInt8
def sgs (L : List Sg) : List Value := L.flatMap fun s => scells s.1 s.2
def SgOk (L : List Sg) : Prop := ∀ s ∈ L, s.2.length = 16
theorem sgs_append (L M : List Sg) : sgs (L ++ M) = sgs L ++ sgs M := by simp [sgs]
theorem sgs_one (s : Sg) : sgs [s] = scells s.1 s.2 := by simp [sgs]
theorem sgs_len : ∀ {L : List Sg}, SgOk L → (sgs L).length = L.length * 17
  | [], _ => rfl
  | s :: L, h => by
    have ih := sgs_len (L := L) (fun x hx => h x (List.mem_cons_of_mem _ hx))
    have hs := h s (List.mem_cons_self ..)
    show (scells s.1 s.2 ++ sgs L).length = _
    rw [List.length_append, ih, List.length_cons]
    simp only [scells, List.length_cons, bv_length, hs]
    omega
theorem sgs_one' : ∀ (L : List Sg), ∀ u ∈ sgs L, u.oneCell' = true := by
  intro L u hu
  obtain ⟨s, _, hs⟩ := List.mem_flatMap.1 hu
  exact scells_one _ _ u hs
/-- An owned row of signs, at B or behind it. -/
def SO (B : Nat) (w : World) (v : Value) (L : List Sg) : Prop := w.ownsRow B 44 17 v L.length (sgs L)
/-- A slice that reads as signs. -/
def SR (w : World) (A : Option Addr) (L : List Sg) : Prop := ∀ (i : Nat) (s : Sg), L[i]? = some s → ∃ b off, A = some ⟨b, off, none⟩ ∧ w.rangeAt b (off + i * 17) (scells s.1 s.2)
theorem SR.below {w w' : World} {A : Option Addr} {L : List Sg} (h : SR w A L) (hb : Below w.heap.size w w') : SR w' A L := fun i s hs => by
  obtain ⟨b, off, e, hr⟩ := h i s hs
  exact ⟨b, off, e, range_below hr hb⟩
theorem SR.nil (w : World) (A : Option Addr) : SR w A [] := fun i s h => by simp at h
theorem SR.take {w : World} {A : Option Addr} {L : List Sg} (h : SR w A L) (n : Nat) : SR w A (L.take n) := fun i s hs => by
  rw [List.getElem?_take] at hs
  split at hs
  · exact h i s hs
  · cases hs
theorem sgs_at : ∀ {L : List Sg}, SgOk L → ∀ (i : Nat) (s : Sg), L[i]? = some s → ∃ pre post, sgs L = pre ++ scells s.1 s.2 ++ post ∧ pre.length = i * 17
  | [], _, i, s, h => by simp at h
  | x :: L, hok, 0, s, h => by
    simp at h; subst h
    exact ⟨[], sgs L, by simp [sgs], rfl⟩
  | x :: L, hok, i + 1, s, h => by
    obtain ⟨pre, post, e, hl⟩ := sgs_at (L := L) (fun y hy => hok y (List.mem_cons_of_mem _ hy)) i s (by simpa using h)
    have hx := hok x (List.mem_cons_self ..)
    refine ⟨scells x.1 x.2 ++ pre, post, ?_, ?_⟩
    · show scells x.1 x.2 ++ sgs L = _
      rw [e]; simp
    · rw [List.length_append, hl]
      simp only [scells, List.length_cons, bv_length, hx]
      omega
theorem SO.reads {B : Nat} {w : World} {v : Value} {L : List Sg} (h : SO B w v L) (hok : SgOk L) : ∃ A c, v = .slice A L.length c ∧ SR w A L ∧ L.length ≤ c ∧ (∀ a, A = some a → 0 < L.length → B ≤ a.block) := by
  rcases h.2 with ⟨rfl, h0⟩ | ⟨g, cap, cur, rfl, hg, hh, hc, _⟩
  · have : L = [] := List.eq_nil_of_length_eq_zero h0
    subst this
    exact ⟨none, 0, rfl, SR.nil _ _, Nat.le_refl _, fun a ha => by cases ha⟩
  · refine ⟨_, cap, rfl, fun i s hs => ⟨g, 0, rfl, fun j u hu => ?_⟩, hc, fun a ha _ => by cases ha; exact hg⟩
    obtain ⟨pre, post, e, hl⟩ := sgs_at hok i s hs
    have hj := (List.getElem?_eq_some_iff.1 hu).1
    have hat : (sgs L)[i * 17 + j]? = some u := by
      rw [e, List.append_assoc, List.getElem?_append_right (by omega), hl, show i * 17 + j - i * 17 = j by omega, List.getElem?_append_left hj]
      exact hu
    have := World.ownsRow.cells h (g := g) rfl _ _ hat
    rw [Addr.add_mid, Nat.zero_add] at this
    rw [Nat.zero_add]; exact this
theorem SO.nil (B : Nat) (w : World) : SO B w (.slice none 0 0) [] := World.ownsRow_nil _ _ _ _
theorem SO.fr {B : Nat} {F : Nat → Prop} {w w' : World} {v : Value} {L : List Sg} (h : SO B w v L) (hf : Fr F w w') (hn : ∀ k, v.ownBlock = some k → ¬ F k) : SO B w' v L := by
  refine ⟨h.1, ?_⟩
  rcases h.2 with h' | ⟨g, cap, cur, rfl, h1, hh, h2⟩
  · exact .inl h'
  · exact .inr ⟨g, cap, cur, rfl, h1, (hf.block g (Array.getElem?_eq_some_iff.1 hh).1 (hn g rfl)).trans hh, h2⟩
theorem SO.below {B : Nat} {w w' : World} {v : Value} {L : List Sg} (h : SO B w v L) (hb : Below w.heap.size w w') : SO B w' v L := h.fr (Fr.of_below (F := fun _ => False) hb) (fun _ _ h => h)
theorem SO.form {B : Nat} {w : World} {v : Value} {L : List Sg} (h : SO B w v L) : ∃ A c, v = .slice A L.length c := by
  rcases h.2 with ⟨rfl, h0⟩ | ⟨g, cap, cur, rfl, _⟩
  · exact ⟨none, 0, by rw [h0]⟩
  · exact ⟨_, cap, rfl⟩
theorem SO.form2 {B : Nat} {w : World} {v : Value} {L : List Sg} (h : SO B w v L) : ∃ A n c, v = .slice A n c := by
  obtain ⟨A, c, h⟩ := h.form
  exact ⟨A, _, c, h⟩
theorem SO.lt {B : Nat} {w : World} {v : Value} {L : List Sg} (h : SO B w v L) : ∀ k, v.ownBlock = some k → B ≤ k ∧ k < w.heap.size ∧ ∃ cs, Blk w k cs 44 := fun k hk => by
  rcases h.2 with ⟨rfl, h0⟩ | ⟨g, cap, cur, rfl, h1, hh, _⟩
  · simp [Value.ownBlock] at hk
  · simp [Value.ownBlock] at hk
    subst hk
    exact ⟨h1, (Array.getElem?_eq_some_iff.1 hh).1, cur, hh⟩
theorem info_sign : (Try.prog.info? 44).map (fun i => (i.zero, i.size, i.bytes)) = some (some (sval 0 zeroT), 17, 24) := by kernel_rfl
section
variable {ops : Array Oper} {rest : List Oper} {o : Oper} {a : Act} {w : World} {K : Act → World → Prop} {Q : Exit → Act → World → Prop}
/-- A guarded operation whose guard is met. -/
theorem wpList_valG {v : Value} {w' : World} (hg : Region.wanted o (yielded ops a.tmps) = true) (hrun : (execOp a.eval o).run Try.prog w = .ok (.value v) w') (h : wpList Try.prog ops Q rest (a.put o.dst v) w') : wpList Try.prog ops Q (o :: rest) a w :=
  wpList_step fun K hK => by rw [if_pos hg]; exact wp_val hrun (hK _ _ h)
/-- '[]api.Sign{s}'. -/
theorem wpList_bslice_sign (hg : o.guard = none) (x : Operand) (ho : o.op = .buildSlice 37 1 #[(0, x)]) (n : Int) (t : List UInt8) (hx : a.eval x = sval n t) (ht : t.length = 16)
    (h : ∀ b w', Hid (w.heap.size = b) → Blk w' b (scells n t).toArray 44 → Below w.heap.size w w' → Hid (w'.heap.size = b + 1) → wpList Try.prog ops Q rest (a.put o.dst (.slice (some ⟨b, 0, none⟩) 1 1)) w') : wpList Try.prog ops Q (o :: rest) a w := by
  obtain ⟨i, hi, hz, hs, hb⟩ := info_parts info_sign
  refine wpList_val hg (w' := w.alloc (.cells (scells n t).toArray 44)) ?_ (h _ _ (Lib.hid rfl) (Blk.new w _ _) ((Below.refl _ _).alloc (Nat.le_refl _) _) (Lib.hid (by simp)))
  have hf : Instr.fill (fun j => some (j * i.size, i.size)) ((Array.range (1 * i.size)).map ((sval 0 zeroT).cells[· % (sval 0 zeroT).cells.size]!)) [(0, sval n t)] = some (scells n t).toArray := by
    rw [hs]
    have e : ((Array.range (1 * 17)).map ((sval 0 zeroT).cells[· % (sval 0 zeroT).cells.size]!)) = (scells 0 zeroT).toArray := by kernel_rfl
    rw [e]
    have := fill_one (place := fun j => some (j * 17, 17)) (i := 0) (off := 0) (size := 17) (pre := []) (ys := scells 0 zeroT) (zs := []) (xs := scells n t) (rest := []) rfl rfl (by simp only [scells, List.length_cons, bv_length, ht]) (by decide) (v := sval n t) rfl
    simp only [List.nil_append, List.append_nil] at this
    rw [this]
    rfl
  unfold execOp
  simp only [ho, Sem.run_bind]
  rw [run_buildSlice w 37 44 1 _ (scells n t).toArray i (sval 0 zeroT) Try.underlying37 hi hz (by rw [hs]; decide) (by rw [hs]; decide) (by simpa [hx] using hf)]
  rfl
/-- 'append(s, x)', one sign more. -/
theorem wpList_append_sign (hg : o.guard = none) (s x : Operand) (ho : o.op = .call { callee := .builtin .append, args := #[s, x], argTypes := #[37, 37] })
    (B : Nat) (v : Value) (L : List Sg) (hs : a.eval s = v) (hO : SO B w v L) (b : Nat) (hx : a.eval x = .slice (some ⟨b, 0, none⟩) 1 1) (n : Int) (t : List UInt8) (ht : t.length = 16) (hb : Blk w b (scells n t).toArray 44) (hl : L.length ≤ 1000000) (hB : B ≤ w.heap.size)
    (h : ∀ v' w', SO B w' v' (L ++ [(n, t)]) → w.grownBy w' v.ownBlock → (v'.ownBlock = v.ownBlock ∨ v'.ownBlock = some w.heap.size) → wpList Try.prog ops Q rest (a.put o.dst v') w') : wpList Try.prog ops Q (o :: rest) a w := by
  obtain ⟨i, hi, hz, hs', hby⟩ := info_parts info_sign
  have h17 : (scells n t).length = 17 := by simp only [scells, List.length_cons, bv_length, ht]
  refine wpList_append_own_at w hg s x 37 ho B 44 i (sval 0 zeroT) 17 24 Try.underlying37 hi hz hs' hby (by decide) (by decide) v L.length (sgs L) hs hO ⟨b, 0, none⟩ 1 1 (scells n t) hx (by rw [h17]) (fun j u hu => ?_) (scells_one _ _) (by simp only [maxLen]; omega) (by omega) hB ?_
  · rw [Addr.add_mid, Nat.zero_add, hb.cell j]
    simpa using hu
  · intro v' w' h1 h2 _ h3
    refine h v' w' ?_ h2 h3
    unfold SO
    rw [List.length_append, sgs_append, sgs_one]
    exact h1
end
/-- The signs of the nodes below n that have just a vote. -/
def hit (M : List (Ent One)) (v : Vt) (i : Nat) : Option Sg := match lookM M (v.kind, (i : Int)) with
  | some x => if x.1 = v then some ((i : Int), x.2) else none
  | none => none
def signsP (M : List (Ent One)) (v : Vt) (n : Nat) : List Sg := (List.range n).filterMap (hit M v)
theorem signsP_succ (M : List (Ent One)) (v : Vt) (n : Nat) : signsP M v (n + 1) = signsP M v n ++ (hit M v n).toList := by
  unfold signsP
  rw [List.range_succ, List.filterMap_append]
  congr 1
theorem signsP_pre (M : List (Ent One)) (v : Vt) {m n : Nat} (h : m ≤ n) : signsP M v m <+: signsP M v n := by
  obtain ⟨k, rfl⟩ := Nat.exists_eq_add_of_le h
  clear h
  induction k with
  | zero => exact List.prefix_rfl
  | succ k ih => exact ih.trans (by rw [← Nat.add_assoc, signsP_succ]; exact List.prefix_append _ _)
theorem signsP_ok {M : List (Ent One)} (h : ∀ p ∈ M, p.2.ok) (v : Vt) (n : Nat) : SgOk (signsP M v n) := fun s hs => by
  unfold signsP at hs
  obtain ⟨i, _, hi⟩ := List.mem_filterMap.1 hs
  unfold hit at hi
  cases hl : lookM M (v.kind, (i : Int)) with
  | none => rw [hl] at hi; cases hi
  | some x =>
    rw [hl] at hi
    simp only at hi
    split at hi
    · cases hi; exact (h _ (lookM_mem hl)).tag
    · cases hi
theorem signsP_len (M : List (Ent One)) (v : Vt) (n : Nat) : (signsP M v n).length ≤ n := by
  unfold signsP
  exact Nat.le_trans (List.length_filterMap_le _ _) (by simp)

end Go.Proofs.Ytpbcpocheblbfaa
