/- The document's Add: laws of rows of votes; the walk. -/
import Derived.Test.YtpbcpocheblbfaaVotZC
import Derived.Great.BuildSlice
namespace Go.Proofs.Ytpbcpocheblbfaa
set_option linter.unusedVariables false
set_option linter.unusedSimpArgs false
open Go.RowKit Go.MapKept

theorem info_one70 : (Try.prog.info? 70).map (fun i => (i.zero, i.size, i.bytes)) = some (some (.agg (acells zeroA).toArray), 53, 88) := by kernel_rfl
/-- Two may come up: each comes up. -/
theorem wpAnyP_two {P : Program} {ops : Array Oper} {Q : Exit → Act → World → Prop} {md : Region.Mode} {S : World → Prop} {m : Nat} {fuel : Nat} {listed : Array Bool} {a : Act} {w : World} (i j : Nat) {o o' : Oper} (ho : ops[i]? = some o) (ho' : ops[j]? = some o') (hr : Region.ready md ops listed = [i, j]) (hg : o.guard = none) (hg' : o'.guard = none)
    (h : ∀ K : Act → World → Prop, Shut (∀ a' w', (i < m → S w → S w') → wpAnyP P md ops Q S m fuel (listed.setIfInBounds i true) a' w' → K a' w') → Oper.wp P o a w K Q)
    (h' : ∀ K : Act → World → Prop, Shut (∀ a' w', (j < m → S w → S w') → wpAnyP P md ops Q S m fuel (listed.setIfInBounds j true) a' w' → K a' w') → Oper.wp P o' a w K Q) : wpAnyP P md ops Q S m (fuel + 1) listed a w := by
  refine ⟨fun h0 => (by rw [hr] at h0; cases h0), fun k hk => ?_⟩
  rw [hr] at hk
  rcases List.mem_cons.1 hk with rfl | hk
  · unfold wpOp
    simp only [ho]
    rw [if_pos (by simp [Region.wanted, hg])]
    exact .inl (h _ (fun a' w' h1 h2 => ⟨h1, h2⟩))
  · obtain rfl : k = j := by simpa using hk
    unfold wpOp
    simp only [ho']
    rw [if_pos (by simp [Region.wanted, hg'])]
    exact .inl (h' _ (fun a' w' h1 h2 => ⟨h1, h2⟩))
section
variable {o : Oper} {a : Act} {w : World} {K : Act → World → Prop} {Q : Exit → Act → World → Prop}
theorem wp_bslice0 (ho : o.op = .buildSlice 66 0 #[]) (B : Nat) (hB : B ≤ w.heap.size)
    (h : ∀ b w', VO B w' (.slice (some ⟨b, 0, none⟩) 0 0) [] → Hid (w.heap.size = b) → Below w.heap.size w w' → Hid (w'.heap.size = b + 1) → K (a.put o.dst (.slice (some ⟨b, 0, none⟩) 0 0)) w') : o.wp Try.prog a w K Q := by
  obtain ⟨i, hi, hz, hs, hb⟩ := info_parts info_one70
  refine wp_val (w' := w.alloc (.cells #[] 70)) ?_ (h _ _ (World.ownsRow_made w #[] 0 hB (by simp [maxLen]) (by simp)) (Lib.hid rfl) ((Below.refl _ _).alloc (Nat.le_refl _) _) (Lib.hid (by simp)))
  unfold execOp
  simp only [ho, Sem.run_bind]
  simp [Instr.buildSlice, run_underlying Try.underlying66, sizeOf, typeInfo, hi, newRow, Instr.fill]
  exact congrArg (fun c => w.alloc (.cells c 70)) (Array.eq_empty_of_size_eq_zero (by simp))
theorem wp_bslice1 (x : Operand) (ho : o.op = .buildSlice 66 1 #[(0, x)]) (s : VAct) (hx : a.eval x = .agg (acells s).toArray) (hs : s.ok)
    (h : ∀ b w', Hid (w.heap.size = b) → Blk w' b (acells s).toArray 70 → Below w.heap.size w w' → Hid (w'.heap.size = b + 1) → K (a.put o.dst (.slice (some ⟨b, 0, none⟩) 1 1)) w') : o.wp Try.prog a w K Q := by
  obtain ⟨i, hi, hz, hs', hb⟩ := info_parts info_one70
  refine wp_val (w' := w.alloc (.cells (acells s).toArray 70)) ?_ (h _ _ (Lib.hid rfl) (Blk.new w _ _) ((Below.refl _ _).alloc (Nat.le_refl _) _) (Lib.hid (by simp)))
  have hf : Instr.fill (fun j => some (j * i.size, i.size)) ((Array.range (1 * i.size)).map ((Value.agg (acells zeroA).toArray).cells[· % (Value.agg (acells zeroA).toArray).cells.size]!)) [(0, .agg (acells s).toArray)] = some (acells s).toArray := by
    rw [hs']
    have e : ((Array.range (1 * 53)).map ((Value.agg (acells zeroA).toArray).cells[· % (Value.agg (acells zeroA).toArray).cells.size]!)) = (acells zeroA).toArray := by kernel_rfl
    rw [e]
    have := fill_one (place := fun j => some (j * 53, 53)) (i := 0) (off := 0) (size := 53) (pre := []) (ys := acells zeroA) (zs := []) (xs := acells s) (rest := []) rfl rfl (acells_len hs) (by decide) (v := .agg (acells s).toArray) rfl
    simp only [List.nil_append, List.append_nil] at this
    rw [this]
    rfl
  unfold execOp
  simp only [ho, Sem.run_bind]
  rw [run_buildSlice w 66 70 1 _ (acells s).toArray i (.agg (acells zeroA).toArray) Try.underlying66 hi hz (by rw [hs']; decide) (by rw [hs']; decide) (by simpa [hx] using hf)]
  rfl
theorem run_append_ones (B : Nat) (v : Value) (L : List VAct) (hO : VO B w v L) (hB : B ≤ w.heap.size) (A : Option Addr) (m c : Nat) (L2 : List VAct) (hm : m = L2.length) (hok : OnOk L2) (hr : VR w A L2) (hl : L.length + L2.length ≤ 100000) (ty : TypeId) :
    ∃ v' w', (Builtin.append_ #[66, 66] ty #[v, .slice A m c]).run Try.prog w = .ok v' w' ∧ VO B w' v' (L ++ L2) ∧ w.grownBy w' v.ownBlock ∧ (v'.ownBlock = v.ownBlock ∨ v'.ownBlock = some w.heap.size) := by
  subst hm
  obtain ⟨i, hi, hz, hs', hb⟩ := info_parts info_one70
  have hbyte : (L.length + L2.length) * 88 ≤ 140737488355328 := by omega
  have some_ : ∀ b off, A = some ⟨b, off, none⟩ ∨ L2 = [] → (∃ ad, A = some ad) → ∃ v' w', (Builtin.append_ #[66, 66] ty #[v, .slice A L2.length c]).run Try.prog w = .ok v' w' ∧ VO B w' v' (L ++ L2) ∧ w.grownBy w' v.ownBlock ∧ (v'.ownBlock = v.ownBlock ∨ v'.ownBlock = some w.heap.size) := by
    rintro b off hcase ⟨ad, rfl⟩
    obtain ⟨v', w', hrun, r1, r2, _, r4⟩ := run_append_own_at (P := Try.prog) w B 66 ty 70 i (.agg (acells zeroA).toArray) 53 88 Try.underlying66 hi hz hs' hb (by decide) (by omega) v L.length (ons L) hO ad L2.length c (ons L2) (ons_len hok) (fun j u hu => by
      have hj := (List.getElem?_eq_some_iff.1 hu).1
      rw [ons_len hok] at hj
      have hq : j / 53 < L2.length := by omega
      obtain ⟨s, hs⟩ : ∃ s, L2[j / 53]? = some s := ⟨_, List.getElem?_eq_getElem hq⟩
      obtain ⟨b', off', e, hra⟩ := hr _ s hs
      cases e
      obtain ⟨pre, post, e2, hl2⟩ := ons_at hok _ s hs
      rw [e2, List.append_assoc, List.getElem?_append_right (by omega), hl2] at hu
      have hsl := acells_len (hok s (List.mem_of_getElem? hs))
      rw [List.getElem?_append_left (by omega)] at hu
      have := hra (j - j / 53 * 53) u hu
      rw [Addr.add_mid]
      rw [show off' + j = off' + j / 53 * 53 + (j - j / 53 * 53) by omega]
      exact this) (ons_one' _) (by simp only [maxLen]; omega) hbyte hB
    refine ⟨v', w', hrun, ?_, r2, r4⟩
    unfold VO
    rw [ons_append, List.length_append]
    exact r1
  cases A with
  | some ad => 
    rcases L2 with _ | ⟨s, L2⟩
    · exact some_ 0 0 (.inr rfl) ⟨ad, rfl⟩
    · obtain ⟨b, off, e, _⟩ := hr 0 s rfl
      exact some_ b off (.inl e) ⟨ad, rfl⟩
  | none =>
    have : L2 = [] := by
      rcases L2 with _ | ⟨s, L2⟩
      · rfl
      · obtain ⟨b, off, e, _⟩ := hr 0 s rfl
        cases e
    subst this
    refine ⟨v, w, ?_, by simpa using hO, ⟨rfl, rfl, rfl, Nat.le_refl _, fun _ _ _ => rfl⟩, .inl rfl⟩
    rcases hO.2 with ⟨rfl, h0⟩ | ⟨g, cap, cur, rfl, _, _, hnc, _⟩
    · simp [Builtin.append_, run_underlying Try.underlying66, sizeOf, typeInfo, hi, Builtin.lenOf, Builtin.firstCells]
    · simp [Builtin.append_, run_underlying Try.underlying66, sizeOf, typeInfo, hi, Builtin.lenOf, Builtin.firstCells, hnc, storeCells]
theorem wp_append_ones (s x : Operand) (ho : o.op = .call { callee := .builtin .append, args := #[s, x], argTypes := #[66, 66] })
    (B : Nat) (v : Value) (L : List VAct) (hs : a.eval s = v) (hO : VO B w v L) (hB : B ≤ w.heap.size) (A : Option Addr) (m c : Nat) (hx : a.eval x = .slice A m c) (L2 : List VAct) (hm : m = L2.length) (hok : OnOk L2) (hr : VR w A L2) (hl : L.length + L2.length ≤ 100000)
    (h : ∀ v' w', VO B w' v' (L ++ L2) → w.grownBy w' v.ownBlock → (v'.ownBlock = v.ownBlock ∨ v'.ownBlock = some w.heap.size) → K (a.put o.dst v') w') : o.wp Try.prog a w K Q := by
  obtain ⟨v', w', hrun, h2, h3, h4⟩ := run_append_ones (w := w) B v L hO hB A m c L2 hm hok hr hl o.type
  unfold Oper.wp execOp
  simp only [ho, resolve, invoke, builtin, Sem.run_bind, Sem.run_pure, Result.andThen_ok, List.map_toArray, List.map_cons, List.map_nil, hs, hx, hrun]
  exact h v' w' h2 h3 h4
end

/-! ### A vote put into a row -/
theorem setCells_blk {t : TypeId} (b : Nat) : ∀ (vs : List Value) (o : Nat) (w : World) (cur : Array Value), Blk w b cur t → o + vs.length ≤ cur.size →
    ∃ cur', Blk (w.setCells b o vs) b cur' t ∧ cur'.size = cur.size ∧ ∀ j : Nat, cur'[j]? = if o ≤ j ∧ j < o + vs.length then vs[j - o]? else cur[j]?
  | [], o, w, cur, h, _ => ⟨cur, h, rfl, fun j => by rw [if_neg (by simp only [List.length_nil]; omega)]⟩
  | v :: vs, o, w, cur, h, hl => by
    simp only [List.length_cons] at hl
    obtain ⟨cur', h1, h2, h3⟩ := setCells_blk b vs (o + 1) (w.setCell ⟨b, o, none⟩ v) (cur.setIfInBounds o v) (h.set o v) (by simp; omega)
    refine ⟨cur', h1, by simpa using h2, fun j => ?_⟩
    rw [h3 j]
    simp only [List.length_cons]
    by_cases hj : j = o
    · subst hj
      rw [if_neg (by omega), if_pos (by omega)]
      simp [show j < cur.size by omega]
    · by_cases hr : o + 1 ≤ j ∧ j < o + 1 + vs.length
      · rw [if_pos hr, if_pos (by omega)]
        rw [show j - o = (j - (o + 1)) + 1 by omega, List.getElem?_cons_succ]
      · rw [if_neg hr, if_neg (by omega), Array.getElem?_setIfInBounds_ne (fun e => hj e.symm)]
theorem setCells_fr (b : Nat) : ∀ (vs : List Value) (o : Nat) (w : World), Fr (fun k => k = b) w (w.setCells b o vs) ∧ (w.setCells b o vs).heap.size = w.heap.size
  | [], o, w => ⟨Fr.of_below (Below.refl _ _), rfl⟩
  | v :: vs, o, w => by
    obtain ⟨h1, h2⟩ := setCells_fr b vs (o + 1) (w.setCell ⟨b, o, none⟩ v)
    exact ⟨(Fr.setCell (fun k => k = b) w ⟨b, o, none⟩ v rfl).trans h1 (fun k hk => .inl hk), h2.trans (size_set _ _ _)⟩
theorem ons_get {L : List VAct} (hok : OnOk L) {q : Nat} {s : VAct} (hs : L[q]? = some s) {r : Nat} (hr : r < 53) : (ons L)[q * 53 + r]? = (acells s)[r]? := by
  obtain ⟨pre, post, e, hl⟩ := ons_at hok q s hs
  have hsl := acells_len (hok s (List.mem_of_getElem? hs))
  rw [e, List.append_assoc, List.getElem?_append_right (by omega), hl, show q * 53 + r - q * 53 = r by omega, List.getElem?_append_left (by omega)]
theorem VO.set {B : Nat} {w : World} {g c i : Nat} {L : List VAct} (h : VO B w (.slice (some ⟨g, 0, none⟩) L.length c) L) (hok : OnOk L) (hi : i < L.length) {s : VAct} (hs : s.ok) : VO B (w.setCells g (i * 53) (acells s)) (.slice (some ⟨g, 0, none⟩) L.length c) (L.set i s) := by
  have hok' : OnOk (L.set i s) := fun x hx => (List.mem_or_eq_of_mem_set hx).elim (hok x) (fun e => by rw [e]; exact hs)
  rcases h.2 with ⟨e, _⟩ | ⟨g', cap, cur, e, hB, hh, hn, hcap, hsz, htk⟩
  · cases e
  · cases e
    have hlen : i * 53 + (acells s).length ≤ cur.size := by
      rw [acells_len hs, hsz]
      have : (i + 1) * 53 ≤ c * 53 := Nat.mul_le_mul_right _ (by omega)
      omega
    obtain ⟨cur', h1, h2, h3⟩ := setCells_blk (t := 70) g (acells s) (i * 53) w cur hh hlen
    refine ⟨by rw [ons_len hok', List.length_set], .inr ⟨g, c, cur', by rw [List.length_set], hB, h1, by rw [List.length_set]; exact hn, hcap, by rw [h2, hsz], ?_⟩⟩
    rw [List.length_set]
    apply List.ext_getElem?
    intro j
    rw [List.getElem?_take]
    by_cases hj : j < L.length * 53
    · rw [if_pos hj, Array.getElem?_toList, h3 j, acells_len hs]
      obtain ⟨q, r, hq, hr, rfl⟩ : ∃ q r : Nat, q < L.length ∧ r < 53 ∧ j = q * 53 + r := ⟨j / 53, j % 53, by omega, by omega, by omega⟩
      by_cases hqi : q = i
      · subst hqi
        rw [if_pos (by omega), ons_get hok' (s := s) (by rw [List.getElem?_set_self hi]) hr]
        congr 1
        omega
      · have hne : ¬ (i * 53 ≤ q * 53 + r ∧ q * 53 + r < i * 53 + 53) := by omega
        rw [if_neg hne]
        obtain ⟨x, hx⟩ : ∃ x, L[q]? = some x := ⟨_, List.getElem?_eq_getElem hq⟩
        rw [ons_get hok' (s := x) (by rw [List.getElem?_set_ne (fun e => hqi e.symm)]; exact hx) hr, ← ons_get hok hx hr, ← htk, List.getElem?_take, if_pos hj, Array.getElem?_toList]
    · rw [if_neg hj, List.getElem?_eq_none (by rw [ons_len hok', List.length_set]; omega)]
/-- The list behind an Add, in the document's order. -/
theorem ones_put_new {M : List (Ent One)} {k : Int × Int} (h : lookM M k = none) (ha : Apart M) (x : One) : ones (putM M k x) = ones M ++ [⟨k.2, x.1, x.2⟩] := by
  unfold putM
  have : hasM M k = false := by
    cases hh : hasM M k with
    | false => rfl
    | true =>
      obtain ⟨y, hy⟩ := hasM_mem hh
      rw [(look_some ha hy).1] at h
      cases h
  rw [this]
  simp [ones]
theorem ones_put_old {M : List (Ent One)} {k : Int × Int} {i : Nat} {y : One} (hi : M[i]? = some (k, y)) (ha : Apart M) (x : One) : ones (putM M k x) = (ones M).set i ⟨k.2, x.1, x.2⟩ := by
  have hm : (k, y) ∈ M := List.mem_of_getElem? hi
  unfold putM
  rw [(look_some ha hm).2]
  simp only [if_true, ones, List.map_map]
  apply List.ext_getElem?
  intro j
  rw [List.getElem?_map, List.getElem?_set, List.length_map, List.getElem?_map]
  have hil := (List.getElem?_eq_some_iff.1 hi).1
  by_cases hij : i = j
  · subst hij
    rw [if_pos rfl, if_pos hil, hi]
    simp
  · rw [if_neg hij]
    cases hj : M[j]? with
    | none => rfl
    | some p =>
      have hne : ¬ p.1 = k := fun e => by
        obtain ⟨h1, h2⟩ := List.getElem?_eq_some_iff.1 hi
        obtain ⟨h3, h4⟩ := List.getElem?_eq_some_iff.1 hj
        rcases Nat.lt_or_gt_of_ne hij with hlt | hlt
        · have := List.pairwise_iff_getElem.1 ha i j h1 h3 hlt
          rw [h2, h4] at this
          exact this e.symm
        · have := List.pairwise_iff_getElem.1 ha j i h3 h1 hlt
          rw [h2, h4] at this
          exact this e
      simp [hne]

end Go.Proofs.Ytpbcpocheblbfaa
