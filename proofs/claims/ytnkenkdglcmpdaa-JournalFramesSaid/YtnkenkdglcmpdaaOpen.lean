/- What came in, opened: rows of bytes, structs, rows of structs. -/
import Derived.Test.YtnkenkdglcmpdaaBase
import Derived.ProofKit
import Derived.Deep.Slices
import Derived.Deep.Fields
import Derived.ChangeSame
namespace Go.Proofs.Ytnkenkdglcmpdaa
set_option linter.unusedVariables false
set_option linter.unusedSimpArgs false
open Go.RowKit Go.ChangeShapes Go.WideShapes Go.Deep

section
variable {H : Type} {enc : TypeId × Value → H} {P : Program} {w : World} {base : Nat} {spare : Nat → Bool} {held : Bool}
theorem struct_cells {t : TypeId} {fs : Array Field} {fuel : Nat} {cs : List Value} {x : DataW H × List MemPlace} (he : P.underlying t = some (.struct fs)) (hone : oneCellFields P fs = true) (hC : P.cellsOf t = fs.size)
    (h : DataW.trod enc P w base spare held fuel t cs = some x) :
    cs.length = fs.size ∧ ∃ n, ∀ (j : Nat) (f : Field), fs[j]? = some f → ∃ v y, cs[j]? = some v ∧ DataW.trod enc P w base spare held n f.type [v] = some y := by
  obtain ⟨ys, n, _, _, hlen, hyl, hf⟩ := DataW.trod_struct he h
  rw [hC] at hlen
  refine ⟨hlen, n, fun j f hj => ?_⟩
  obtain ⟨ho, hk⟩ := hone_of hone j f hj
  have hjl : j < fs.size := (Array.getElem?_eq_some_iff.1 hj).1
  have h1 := hf j f hj
  rw [ho, hk, take1_drop cs j undef (by omega)] at h1
  exact ⟨cs.getD j undef, ys[j]'(by omega), by simp [List.getD_eq_getElem?_getD, List.getElem?_eq_getElem (show j < cs.length by omega)], h1.trans (List.getElem?_eq_getElem (by omega))⟩
theorem struct_arg {r : Reach} {b0 : Nat} {t : TypeId} {fs : Array Field} {v : Value} {d : DataW H} {p : List MemPlace} (hs : P.underlying t = some (.struct fs)) (hone : oneCellFields P fs = true) (hC : P.cellsOf t = fs.size)
    (hv : Value.okWide P w r b0 t v) (h : DataW.Trod enc P w base spare held t v d p) :
    ∃ cs : Array Value, v = .agg cs ∧ cs.size = fs.size ∧ ∃ n, ∀ (j : Nat) (f : Field), fs[j]? = some f → ∃ v y, cs[j]? = some v ∧ DataW.trod enc P w base spare held n f.type [v] = some y := by
  obtain ⟨cs, rfl, hsz⟩ := okWide_struct hs hv
  obtain ⟨fuel, hf⟩ := h
  obtain ⟨hl, n, hg⟩ := struct_cells hs hone hC hf
  refine ⟨cs, rfl, by simpa [Value.cells] using hl, n, fun j f hj => ?_⟩
  obtain ⟨v, y, h1, h2⟩ := hg j f hj
  exact ⟨v, y, by simpa [Value.cells] using h1, h2⟩
/-- A row: where it lies, the cells of each of its elements. -/
theorem open_rows {t e : TypeId} {fuel : Nat} {cs : List Value} {x : DataW H × List MemPlace} (ht : P.underlying t = some (.slice e)) (hpos : 0 < P.cellsOf e) (h : DataW.trod enc P w base spare held fuel t cs = some x) :
    ∃ (A : Option Addr) (len cap : Nat), cs = [.slice A len cap] ∧ len ≤ cap ∧ cap ≤ maxLen ∧ (A = none → cap = 0) ∧
      ∀ i, i < len → ∃ b off cs' n y, A = some ⟨b, off, none⟩ ∧ b < w.heap.size ∧ cs'.length = P.cellsOf e ∧ (∀ j, j < P.cellsOf e → w.cell? ⟨b, off + i * P.cellsOf e + j, none⟩ = cs'[j]?) ∧ DataW.trod enc P w base spare held n e cs' = some y := by
  rcases open_slice ht h with ⟨rfl, _⟩ | ⟨a, len, cap, m, n, D, Pl, rfl, hb, hl, hm, hmm, hx, hi⟩
  · exact ⟨none, 0, 0, rfl, Nat.le_refl _, Nat.zero_le _, fun _ => rfl, fun i hi => absurd hi (Nat.not_lt_zero _)⟩
  · refine ⟨some a, len, cap, rfl, hl, hm, (fun h => by cases h), fun i hil => ?_⟩
    obtain ⟨cs', hc, ht'⟩ := hi i (by split at hmm <;> omega)
    obtain ⟨_, hcl, hat⟩ := World.cells?_some hc
    obtain ⟨b, off, spot⟩ := a
    have hspot : spot = none := by
      obtain ⟨c0, hc0, _⟩ := hi 0 (by split at hmm <;> omega)
      have h0 := (World.cells?_some hc0).2.2 0 hpos
      rw [List.getElem?_eq_getElem (by rw [(World.cells?_some hc0).2.1]; exact hpos)] at h0
      have := World.cell?_spot h0
      simpa [Addr.add] using this
    have h0 := hat 0 hpos
    rw [List.getElem?_eq_getElem (by omega)] at h0
    subst hspot
    have ha : ∀ q, (⟨b, off, none⟩ : Addr).add q = ⟨b, off + q, none⟩ := fun q => by unfold Addr.add; split <;> simp_all
    have hlt := World.block_lt_of_cell? w _ h0
    rw [add_add, ha] at hlt
    refine ⟨b, off, cs', n, _, rfl, hlt, hcl, fun j hj => ?_, ht'⟩
    have := hat j hj
    rwa [add_add, ha, ← Nat.add_assoc] at this
theorem open_num {t : TypeId} {k : IntKind} {fuel : Nat} {v : Value} {x : DataW H × List MemPlace} (ht : P.underlying t = some (.int k)) (h : DataW.trod enc P w base spare held fuel t [v] = some x) : ∃ n, v = .int k n ∧ (Lit.int k n).wf = true := by
  obtain ⟨n, h1, _, h2⟩ := DataW.trod_int ht h
  simp only [List.cons.injEq, and_true] at h1
  exact ⟨n, h1, h2⟩
theorem open_row {t e : TypeId} {k : IntKind} {fuel : Nat} {v : Value} {x : DataW H × List MemPlace} (ht : P.underlying t = some (.slice e)) (he : P.underlying e = some (.int k)) (hc : P.cellsOf e = 1) (h : DataW.trod enc P w base (fun _ => true) held fuel t [v] = some x) :
    ∃ A len cap zs, v = .slice A len cap ∧ IsRow k w A len cap zs := by
  rcases open_ints ht he hc h with ⟨hcs, _⟩ | ⟨x, l, c, zs, hcs, _, hl, hm, hz, _, hcell, hwz⟩
  · simp only [List.cons.injEq, and_true] at hcs
    exact ⟨none, 0, 0, [], hcs, .inl ⟨rfl, rfl, rfl, rfl⟩⟩
  · simp only [List.cons.injEq, and_true] at hcs
    exact ⟨some x, l, c, zs, hcs, .inr ⟨_, rfl, hl, hm, by simpa using hz, hcell, hwz⟩⟩
end

/-- An act of the tape's laws, as it came in. -/
structure ActV where
  kind : Int
  area : Int
  n : Int
  keep : Int
  A : Option Addr
  len : Nat
  cap : Nat
  zs : List Int
def ActV.cells (a : ActV) : List Value := [.int .i64 a.kind, .int .i64 a.area, .slice a.A a.len a.cap, .int .i64 a.n, .int .i64 a.keep]
structure ActV.ok (w : World) (a : ActV) : Prop where
  kind : (Lit.int .i64 a.kind).wf = true
  area : (Lit.int .i64 a.area).wf = true
  n : (Lit.int .i64 a.n).wf = true
  keep : (Lit.int .i64 a.keep).wf = true
  data : IsRow .u8 w a.A a.len a.cap a.zs
theorem open_act {H : Type} {enc : TypeId × Value → H} {w : World} {base : Nat} {held : Bool} {fuel : Nat} {cs : List Value} {x : DataW H × List MemPlace}
    (h : DataW.trod enc Try.prog w base (fun _ => true) held fuel 37 cs = some x) : ∃ a : ActV, cs = a.cells ∧ a.ok w := by
  obtain ⟨hl, n, hf⟩ := struct_cells Try.underlying37 (by kernel_rfl) (by kernel_rfl) h
  match cs, hl with
  | [v0, v1, v2, v3, v4], _ =>
    obtain ⟨u0, y0, e0, t0⟩ := hf 0 _ rfl
    obtain ⟨u1, y1, e1, t1⟩ := hf 1 _ rfl
    obtain ⟨u2, y2, e2, t2⟩ := hf 2 _ rfl
    obtain ⟨u3, y3, e3, t3⟩ := hf 3 _ rfl
    obtain ⟨u4, y4, e4, t4⟩ := hf 4 _ rfl
    cases e0; cases e1; cases e2; cases e3; cases e4
    obtain ⟨a0, rfl, w0⟩ := open_num Try.underlying3 t0
    obtain ⟨a1, rfl, w1⟩ := open_num Try.underlying3 t1
    obtain ⟨A, l, c, zs, rfl, hr⟩ := open_row Try.underlying22 Try.underlying5 (by kernel_rfl) t2
    obtain ⟨a3, rfl, w3⟩ := open_num Try.underlying3 t3
    obtain ⟨a4, rfl, w4⟩ := open_num Try.underlying3 t4
    exact ⟨⟨a0, a1, a3, a4, A, l, c, zs⟩, rfl, w0, w1, w3, w4, hr⟩
/-- A row of acts. -/
structure ActsR (w : World) (A : Option Addr) (xs : List ActV) : Prop where
  ok : ∀ (i : Nat) (a : ActV), xs[i]? = some a → a.ok w
  cell : ∀ (i : Nat) (a : ActV), xs[i]? = some a → ∃ b off, A = some ⟨b, off, none⟩ ∧ b < w.heap.size ∧ ∀ j, j < 5 → w.cell? ⟨b, off + i * 5 + j, none⟩ = a.cells[j]?
theorem open_acts {H : Type} {enc : TypeId × Value → H} {w : World} {base : Nat} {held : Bool} {fuel : Nat} {v : Value} {x : DataW H × List MemPlace}
    (h : DataW.trod enc Try.prog w base (fun _ => true) held fuel 32 [v] = some x) : ∃ A xs c, v = .slice A xs.length c ∧ xs.length ≤ c ∧ c ≤ maxLen ∧ ActsR w A xs := by
  obtain ⟨A, len, cap, hv, hl, hm, _, hr⟩ := open_rows Try.underlying32 (by decide +kernel) h
  have hC : Try.prog.cellsOf 37 = 5 := by kernel_rfl
  rw [hC] at hr
  have : ∃ f : Nat → ActV, ∀ i, i < len → (f i).ok w ∧ ∃ b off, A = some ⟨b, off, none⟩ ∧ b < w.heap.size ∧ ∀ j, j < 5 → w.cell? ⟨b, off + i * 5 + j, none⟩ = (f i).cells[j]? := by
    classical
    have hex : ∀ i, i < len → ∃ a : ActV, a.ok w ∧ ∃ b off, A = some ⟨b, off, none⟩ ∧ b < w.heap.size ∧ ∀ j, j < 5 → w.cell? ⟨b, off + i * 5 + j, none⟩ = a.cells[j]? := fun i hi => by
      obtain ⟨b, off, cs', n, y, h1, h2, _, h3, h4⟩ := hr i hi
      obtain ⟨a, rfl, ha⟩ := open_act h4
      exact ⟨a, ha, b, off, h1, h2, h3⟩
    refine ⟨fun i => if hi : i < len then Classical.choose (hex i hi) else ⟨0, 0, 0, 0, none, 0, 0, []⟩, fun i hi => ?_⟩
    simp only [dif_pos hi]
    exact Classical.choose_spec (hex i hi)
  obtain ⟨f, hf⟩ := this
  simp only [List.cons.injEq, and_true] at hv
  have hget : ∀ i a, ((List.range len).map f)[i]? = some a → i < len ∧ f i = a := fun i a hi => by
    simp only [List.getElem?_map, Option.map_eq_some_iff, List.getElem?_range] at hi
    obtain ⟨j, hj, rfl⟩ := hi
    by_cases hil : i < len
    · simp [hil] at hj; subst hj; exact ⟨hil, rfl⟩
    · simp [hil] at hj
  refine ⟨A, (List.range len).map f, cap, by simpa using hv, by simpa using hl, hm, ⟨fun i a hi => ?_, fun i a hi => ?_⟩⟩
  · obtain ⟨hil, rfl⟩ := hget i a hi; exact (hf i hil).1
  · obtain ⟨hil, rfl⟩ := hget i a hi; exact (hf i hil).2

end Go.Proofs.Ytnkenkdglcmpdaa
