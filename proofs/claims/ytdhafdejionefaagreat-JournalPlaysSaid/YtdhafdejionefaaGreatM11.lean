/- Parts: What came in, opened: rows of bytes, structs, rows of structs. .. The document's tape: its words, the walks of its functions that change nothing, and of gone. -/
import Derived.Test.YtdhafdejionefaaGreatM00
import Derived.Test.YtdhafdejionefaaGreatM10
import Derived.Test.YtdhafdejionefaaGreatM04
import Derived.Test.YtdhafdejionefaaGreatM01
import Derived.ProofKit
import Derived.Deep.Slices
import Derived.Deep.Fields
import Derived.ChangeSame
import Derived.BigQuiet
/- What came in, opened: rows of bytes, structs, rows of structs. -/
namespace Go.Proofs.YtdhafdejionefaaGreat
set_option linter.unusedVariables false
set_option linter.unusedSimpArgs false
open Go.RowKit Go.ChangeShapes Go.WideShapes Go.Deep

section
variable {H : Type} {enc : TypeId × Value → H} {P : Program} {w : World} {base : Nat} {spare : Nat → Bool} {held : Bool}
theorem struct_cells {t : TypeId} {fs : Array Field} {fuel : Nat} {cs : List Value} {x : DataW H × List MemPlace} (he : P.underlying t = some (.struct fs)) (hone : oneCellFields P fs = true) (hC : P.cellsOf t = fs.size)
    (h : DataW.trod enc P w base spare held fuel t cs = some x) :
    cs.length = fs.size ∧ ∃ n, ∀ (j : Nat) (f : Field), fs[j]? = some f → ∃ v y, cs[j]? = some v ∧ DataW.trod enc P w base spare held n f.type [v] = some y := by
  obtain ⟨ys, n, _, _, hlen, hyl, hf⟩ := DataW.trod_struct he h
  rw [hC] at hlen
  refine ⟨hlen, n, fun j f hj => ?_⟩
  obtain ⟨ho, hk⟩ := hone_of hone j f hj
  have hjl : j < fs.size := (Array.getElem?_eq_some_iff.1 hj).1
  have h1 := hf j f hj
  rw [ho, hk, take1_drop cs j undef (by omega)] at h1
  exact ⟨cs.getD j undef, ys[j]'(by omega), by simp [List.getD_eq_getElem?_getD, List.getElem?_eq_getElem (show j < cs.length by omega)], h1.trans (List.getElem?_eq_getElem (by omega))⟩
theorem struct_arg {r : Reach} {b0 : Nat} {t : TypeId} {fs : Array Field} {v : Value} {d : DataW H} {p : List MemPlace} (hs : P.underlying t = some (.struct fs)) (hone : oneCellFields P fs = true) (hC : P.cellsOf t = fs.size)
    (hv : Value.okWide P w r b0 t v) (h : DataW.Trod enc P w base spare held t v d p) :
    ∃ cs : Array Value, v = .agg cs ∧ cs.size = fs.size ∧ ∃ n, ∀ (j : Nat) (f : Field), fs[j]? = some f → ∃ v y, cs[j]? = some v ∧ DataW.trod enc P w base spare held n f.type [v] = some y := by
  obtain ⟨cs, rfl, hsz⟩ := okWide_struct hs hv
  obtain ⟨fuel, hf⟩ := h
  obtain ⟨hl, n, hg⟩ := struct_cells hs hone hC hf
  refine ⟨cs, rfl, by simpa [Value.cells] using hl, n, fun j f hj => ?_⟩
  obtain ⟨v, y, h1, h2⟩ := hg j f hj
  exact ⟨v, y, by simpa [Value.cells] using h1, h2⟩
/-- A row: where it lies, the cells of each of its elements. -/
theorem open_rows {t e : TypeId} {fuel : Nat} {cs : List Value} {x : DataW H × List MemPlace} (ht : P.underlying t = some (.slice e)) (hpos : 0 < P.cellsOf e) (h : DataW.trod enc P w base spare held fuel t cs = some x) :
    ∃ (A : Option Addr) (len cap : Nat), cs = [.slice A len cap] ∧ len ≤ cap ∧ cap ≤ maxLen ∧ (A = none → cap = 0) ∧
      ∀ i, i < len → ∃ b off cs' n y, A = some ⟨b, off, none⟩ ∧ b < w.heap.size ∧ cs'.length = P.cellsOf e ∧ (∀ j, j < P.cellsOf e → w.cell? ⟨b, off + i * P.cellsOf e + j, none⟩ = cs'[j]?) ∧ DataW.trod enc P w base spare held n e cs' = some y := by
  rcases open_slice ht h with ⟨rfl, _⟩ | ⟨a, len, cap, m, n, D, Pl, rfl, hb, hl, hm, hmm, hx, hi⟩
  · exact ⟨none, 0, 0, rfl, Nat.le_refl _, Nat.zero_le _, fun _ => rfl, fun i hi => absurd hi (Nat.not_lt_zero _)⟩
  · refine ⟨some a, len, cap, rfl, hl, hm, (fun h => by cases h), fun i hil => ?_⟩
    obtain ⟨cs', hc, ht'⟩ := hi i (by split at hmm <;> omega)
    obtain ⟨_, hcl, hat⟩ := World.cells?_some hc
    obtain ⟨b, off, spot⟩ := a
    have hspot : spot = none := by
      obtain ⟨c0, hc0, _⟩ := hi 0 (by split at hmm <;> omega)
      have h0 := (World.cells?_some hc0).2.2 0 hpos
      rw [List.getElem?_eq_getElem (by rw [(World.cells?_some hc0).2.1]; exact hpos)] at h0
      have := World.cell?_spot h0
      simpa [Addr.add] using this
    have h0 := hat 0 hpos
    rw [List.getElem?_eq_getElem (by omega)] at h0
    subst hspot
    have ha : ∀ q, (⟨b, off, none⟩ : Addr).add q = ⟨b, off + q, none⟩ := fun q => by unfold Addr.add; split <;> simp_all
    have hlt := World.block_lt_of_cell? w _ h0
    rw [add_add, ha] at hlt
    refine ⟨b, off, cs', n, _, rfl, hlt, hcl, fun j hj => ?_, ht'⟩
    have := hat j hj
    rwa [add_add, ha, ← Nat.add_assoc] at this
theorem open_num {t : TypeId} {k : IntKind} {fuel : Nat} {v : Value} {x : DataW H × List MemPlace} (ht : P.underlying t = some (.int k)) (h : DataW.trod enc P w base spare held fuel t [v] = some x) : ∃ n, v = .int k n ∧ (Lit.int k n).wf = true := by
  obtain ⟨n, h1, _, h2⟩ := DataW.trod_int ht h
  simp only [List.cons.injEq, and_true] at h1
  exact ⟨n, h1, h2⟩
theorem open_row {t e : TypeId} {k : IntKind} {fuel : Nat} {v : Value} {x : DataW H × List MemPlace} (ht : P.underlying t = some (.slice e)) (he : P.underlying e = some (.int k)) (hc : P.cellsOf e = 1) (h : DataW.trod enc P w base (fun _ => true) held fuel t [v] = some x) :
    ∃ A len cap zs, v = .slice A len cap ∧ IsRow k w A len cap zs := by
  rcases open_ints ht he hc h with ⟨hcs, _⟩ | ⟨x, l, c, zs, hcs, _, hl, hm, hz, _, hcell, hwz⟩
  · simp only [List.cons.injEq, and_true] at hcs
    exact ⟨none, 0, 0, [], hcs, .inl ⟨rfl, rfl, rfl, rfl⟩⟩
  · simp only [List.cons.injEq, and_true] at hcs
    exact ⟨some x, l, c, zs, hcs, .inr ⟨_, rfl, hl, hm, by simpa using hz, hcell, hwz⟩⟩
end

end Go.Proofs.YtdhafdejionefaaGreat

/- Records that came in: opened, looked at by Light. -/
namespace Go.Proofs.YtdhafdejionefaaGreat
set_option linter.unusedVariables false
set_option linter.unusedSimpArgs false
open Go.RowKit

/-- A record, as it came in. -/
structure RecV where
  A : Option Addr
  len : Nat
  cap : Nat
  zs : List Int
structure RecsR (w : World) (A : Option Addr) (xs : List RecV) : Prop where
  ok : ∀ (i : Nat) (a : RecV), xs[i]? = some a → IsRow .u8 w a.A a.len a.cap a.zs
  cell : ∀ (i : Nat) (a : RecV), xs[i]? = some a → ∃ b off, A = some ⟨b, off, none⟩ ∧ b < w.heap.size ∧ w.cell? ⟨b, off + i, none⟩ = some (.slice a.A a.len a.cap)
theorem open_recs {H : Type} {enc : TypeId × Value → H} {w : World} {base : Nat} {held : Bool} {fuel : Nat} {v : Value} {x : DataW H × List MemPlace}
    (h : DataW.trod enc Tryz.prog w base (fun _ => true) held fuel 36 [v] = some x) : ∃ A xs c, v = .slice A xs.length c ∧ xs.length ≤ c ∧ c ≤ maxLen ∧ RecsR w A xs := by
  obtain ⟨A, len, cap, hv, hl, hm, _, hr⟩ := open_rows Tryz.underlying36 (by decide +kernel) h
  have hC : Tryz.prog.cellsOf 35 = 1 := by kernel_rfl
  rw [hC] at hr
  have : ∃ f : Nat → RecV, ∀ i, i < len → IsRow .u8 w (f i).A (f i).len (f i).cap (f i).zs ∧ ∃ b off, A = some ⟨b, off, none⟩ ∧ b < w.heap.size ∧ w.cell? ⟨b, off + i, none⟩ = some (.slice (f i).A (f i).len (f i).cap) := by
    classical
    have hex : ∀ i, i < len → ∃ a : RecV, IsRow .u8 w a.A a.len a.cap a.zs ∧ ∃ b off, A = some ⟨b, off, none⟩ ∧ b < w.heap.size ∧ w.cell? ⟨b, off + i, none⟩ = some (.slice a.A a.len a.cap) := fun i hi => by
      obtain ⟨b, off, cs', n, y, h1, h2, h5, h3, h4⟩ := hr i hi
      match cs', h5 with
      | [v0], _ =>
        obtain ⟨A', l, c, zs, rfl, hz⟩ := open_row Tryz.underlying35 Tryz.underlying5 (by kernel_rfl) h4
        have := h3 0 (by omega)
        simp only [Nat.mul_one, Nat.add_zero] at this
        exact ⟨⟨A', l, c, zs⟩, hz, b, off, h1, h2, this⟩
    refine ⟨fun i => if hi : i < len then Classical.choose (hex i hi) else ⟨none, 0, 0, []⟩, fun i hi => ?_⟩
    simp only [dif_pos hi]
    exact Classical.choose_spec (hex i hi)
  obtain ⟨f, hf⟩ := this
  simp only [List.cons.injEq, and_true] at hv
  have hget : ∀ i a, ((List.range len).map f)[i]? = some a → i < len ∧ f i = a := fun i a hi => by
    simp only [List.getElem?_map, Option.map_eq_some_iff, List.getElem?_range] at hi
    obtain ⟨j, hj, rfl⟩ := hi
    by_cases hil : i < len
    · simp [hil] at hj; subst hj; exact ⟨hil, rfl⟩
    · simp [hil] at hj
  refine ⟨A, (List.range len).map f, cap, by simpa using hv, by simpa using hl, hm, ⟨fun i a hi => ?_, fun i a hi => ?_⟩⟩
  · obtain ⟨hil, rfl⟩ := hget i a hi; exact (hf i hil).1
  · obtain ⟨hil, rfl⟩ := hget i a hi; exact (hf i hil).2
theorem isrow_below {w w' : World} {A : Option Addr} {len cap : Nat} {zs : List Int} (h : IsRow .u8 w A len cap zs) (hb : Below w.heap.size w w') : IsRow .u8 w' A len cap zs := by
  rcases h with h | ⟨x, h1, h2, h3, h4, h5, h6⟩
  · exact .inl h
  · refine .inr ⟨x, h1, h2, h3, h4, fun i hi => ?_, h6⟩
    have := h5 i hi
    exact (hb.cell (World.block_lt_of_cell? w _ this)).trans this
theorem RecsR.below {w w' : World} {A : Option Addr} {xs : List RecV} (h : RecsR w A xs) (hb : Below w.heap.size w w') : RecsR w' A xs := by
  refine ⟨fun i a hi => isrow_below (h.ok i a hi) hb, fun i a hi => ?_⟩
  obtain ⟨b, off, h1, h2, h3⟩ := h.cell i a hi
  exact ⟨b, off, h1, Nat.lt_of_lt_of_le h2 hb.size, (hb.cell (p := ⟨b, off + i, none⟩) h2).trans h3⟩
/-! ### Add, Light -/
theorem ret_z {a b : Int} (h : a = b) : Ending.returned (.int .i64 a) = Ending.returned (.int .i64 b) := by rw [h]
def addJ (n more most : Int) : Int := if most < n ∨ most < more ∨ most - more < n then most + 1 else n + more
theorem addJ_any (n more most s : Int) (hs : s = addJ n more most) (w : World) (h1 : 0 ≤ n) (h2 : n ≤ 4611686018427387904) (h3 : 0 ≤ more) (h4 : 0 ≤ most) (h5 : most ≤ 4611686018427387904) :
    Calls Tryz.prog 18 #[.int .i64 n, .int .i64 more, .int .i64 most] w fun e w' => e = .returned (.int .i64 s) ∧ ∃ n, w' = w.drewN n := by
  unfold addJ at hs
  by_cases c1 : most < n
  · rw [if_pos (.inl c1)] at hs
    have HS := Lib.hid hs
    clear hs
    go_enter Tryz.func18, Tryz.ntmps18
    go_wp2
    go_ret
    exact ⟨ret_z (by have := HS.out; omega), 0, rfl⟩
  · by_cases c2 : most < more
    · rw [if_pos (.inr (.inl c2))] at hs
      have HS := Lib.hid hs
      clear hs
      go_enter Tryz.func18, Tryz.ntmps18
      go_wp2
      go_ret
      exact ⟨ret_z (by have := HS.out; omega), 0, rfl⟩
    · by_cases c3 : most - more < n
      · rw [if_pos (.inr (.inr c3))] at hs
        have HS := Lib.hid hs
        clear hs
        go_enter Tryz.func18, Tryz.ntmps18
        go_wp2
        go_ret
        exact ⟨ret_z (by have := HS.out; omega), 0, rfl⟩
      · rw [if_neg (by omega)] at hs
        have HS := Lib.hid hs
        clear hs
        go_enter Tryz.func18, Tryz.ntmps18
        go_wp2
        go_ret
        exact ⟨ret_z (by have := HS.out; omega), 0, rfl⟩
def rlens (xs : List RecV) : Nat := (xs.map RecV.len).sum
theorem rlens_take (xs : List RecV) (k : Nat) (a : RecV) (h : xs[k]? = some a) : rlens (xs.take (k + 1)) = rlens (xs.take k) + a.len := by
  unfold rlens
  rw [List.take_add_one, h]
  simp
theorem rlens_le (xs : List RecV) (k : Nat) : rlens (xs.take k) ≤ rlens xs := by
  unfold rlens
  have := congrArg (fun l => (List.map RecV.len l).sum) (List.take_append_drop k xs)
  simp only [List.map_append, List.sum_append] at this
  omega
def Light8 (xs : List RecV) : Prop := 20 * xs.length + rlens xs ≤ 8000
theorem Light8.at {xs : List RecV} (h : Light8 xs) (i : Nat) (a : RecV) (hi : xs[i]? = some a) : a.len ≤ 8000 := by
  have h1 := rlens_take xs i a hi
  have h2 := rlens_le xs (i + 1)
  unfold Light8 at h
  omega
theorem addJ_step (n m : Int) (h0 : 0 ≤ n) (hn : n ≤ 8000) (hm : 0 ≤ m) : 0 ≤ addJ (addJ n 20 8000) m 8000 ∧ addJ (addJ n 20 8000) m 8000 ≤ 8001 ∧ 0 ≤ addJ n 20 8000 ∧ addJ n 20 8000 ≤ 8001 ∧ (addJ (addJ n 20 8000) m 8000 ≤ 8000 → n + 20 + m ≤ addJ (addJ n 20 8000) m 8000) := by
  unfold addJ
  omega
def Light8Post (xs : List RecV) (w : World) (e : Ending) (w' : World) : Prop := ∃ b, e = .returned (.bool b) ∧ (b = true → Light8 xs) ∧ Below w.heap.size w w'
set_option maxRecDepth 100000 in
set_option maxHeartbeats 2000000 in
theorem light8_any (A : Option Addr) (c : Nat) (xs : List RecV) (w : World) (h : RecsR w A xs) (hl : xs.length ≤ 9223372036854775807) :
    Calls Tryz.prog 17 #[.slice A xs.length c] w (Light8Post xs w) := by
  obtain ⟨m, hm⟩ : ∃ m, m = xs.length := ⟨_, rfl⟩
  rw [← hm]
  rw [← hm] at hl
  have H := Lib.hid h
  have HM := Lib.hid hm
  clear h hm
  go_enter Tryz.func17, Tryz.ntmps17
  go_wp2_with fail
  go_loopw [3, 4] (fun n i wr => ∃ k : Nat, ∃ s : Int, k ≤ m ∧ i = .int .i64 k ∧ n = .int .i64 s ∧ 0 ≤ s ∧ s ≤ 8001 ∧ Below w.heap.size w wr ∧ Hid (s ≤ 8000 → 20 * (k : Int) + (rlens (xs.take k) : Int) ≤ s)) (fun _ i _ => m - (intOf i).toNat)
  case atStart => exact ⟨0, 0, Nat.zero_le _, rfl, rfl, by omega, by omega, Below.refl _ _, Lib.hid fun _ => by simp [rlens]⟩
  case round =>
    obtain ⟨k, s, hk, rfl, rfl, hs0, hs1, hb, HS⟩ := hrel
    by_cases hlt : k < m
    · by_cases hs : s ≤ 8000
      · obtain ⟨a, ha⟩ : ∃ a, xs[k]? = some a := ⟨_, List.getElem?_eq_getElem (by rw [← HM.out]; exact hlt)⟩
        have H2 := H.out.below hb
        obtain ⟨b, off, rfl, hlb, hc2⟩ := H2.cell k a ha
        have hst := addJ_step s (a.len : Int) hs0 hs (by omega)
        obtain ⟨h1, h2, h3, h4, h5⟩ := hst
        obtain ⟨s1, e1⟩ : ∃ s1, s1 = addJ s 20 8000 := ⟨_, rfl⟩
        obtain ⟨s2, e2⟩ : ∃ s2, s2 = addJ s1 (a.len : Int) 8000 := ⟨_, rfl⟩
        rw [← e1] at h1 h2 h3 h4 h5
        rw [← e2] at h1 h2 h5
        have HA := Lib.hid ha
        have H5 := Lib.hid h5
        have E1 := Lib.hid e1
        have E2 := Lib.hid e2
        clear H2 ha h5 e1 e2
        have l1 : (k : Int) < (m : Int) := by omega
        go_wp2_with fail
        refine wp_region_phased (fun W => (∃ n, W = wr.drewN n) ∧ W.cell? ⟨b, off + k, none⟩ = some (.slice a.A a.len a.cap)) 9 (by kernel_rfl) ⟨⟨1, rfl⟩, hc2⟩ (fun hS => ?_)
        refine wpAnyP_pure (v := ?_) 0 (at_toArray rfl) (by kernel_rfl) (by kernel_rfl) (by kernel_rfl) (fun _ _ _ h => h) (Or.inl ⟨by rfl, fun W => ?_⟩) ?_
        rotate_left 1
        · (go_simp <;> (try go_bits) <;> with_reducible rfl)
        simp only [Act.put, List.setIfInBounds_toArray, List.set_cons_zero, List.set_cons_succ]
        refine wpAnyP_pure (v := ?_) 2 (at_toArray rfl) (by kernel_rfl) (by kernel_rfl) (by kernel_rfl) (fun _ _ _ h => h) (Or.inl ⟨by rfl, fun W => ?_⟩) ?_
        rotate_left 1
        · (go_simp <;> (try go_bits) <;> with_reducible rfl)
        simp only [Act.put, List.setIfInBounds_toArray, List.set_cons_zero, List.set_cons_succ]
        refine wpAnyP_pure (v := ?_) 3 (at_toArray rfl) (by kernel_rfl) (by kernel_rfl) (by kernel_rfl) (fun _ _ _ h => h) (Or.inl ⟨by rfl, fun W => ?_⟩) ?_
        rotate_left 1
        · (go_simp <;> (try go_bits) <;> with_reducible rfl)
        simp only [Act.put, List.setIfInBounds_toArray, List.set_cons_zero, List.set_cons_succ]
        refine wpAnyP_pure (v := ?_) 4 (at_toArray rfl) (by kernel_rfl) (by kernel_rfl) (by kernel_rfl) (fun _ _ _ h => h) (Or.inl ⟨by rfl, fun W => ?_⟩) ?_
        rotate_left 1
        · (go_simp <;> (try go_bits) <;> with_reducible rfl)
        simp only [Act.put, List.setIfInBounds_toArray, List.set_cons_zero, List.set_cons_succ]
        refine wpAnyP_load (v := ?_) 5 (by kernel_rfl) (at_toArray rfl) (by kernel_rfl) (by kernel_rfl) (by kernel_rfl) (fun _ _ _ h => h) (by first | assumption | rfl) (Or.inl ⟨by rfl, fun W hS => ?_⟩) ?_
        rotate_left 1
        · (obtain ⟨_, s1⟩ := hS; go_simp <;> (try go_bits) <;> with_reducible rfl)
        simp only [Act.put, List.setIfInBounds_toArray, List.set_cons_zero, List.set_cons_succ]
        refine wpAnyP_pure (v := ?_) 6 (at_toArray rfl) (by kernel_rfl) (by kernel_rfl) (by kernel_rfl) (fun _ _ _ h => h) (Or.inl ⟨by rfl, fun W => ?_⟩) ?_
        rotate_left 1
        · (go_simp <;> (try go_bits) <;> with_reducible rfl)
        simp only [Act.put, List.setIfInBounds_toArray, List.set_cons_zero, List.set_cons_succ]
        refine wpAnyP_one 1 (at_toArray rfl) (by kernel_rfl) rfl (fun K hK => ?_)
        go_wp2_with fail
        refine (addJ_any s 20 8000 s1 E1.out _ hs0 (by omega) (by omega) (by omega) (by omega)).mono ?_
        rintro e w' ⟨rfl, n1, rfl⟩
        go_wp2_with fail
        refine hK.out _ _ (fun _ _ => ⟨⟨1 + n1, rfl⟩, hc2⟩) ?_
        clear hK
        refine wpAnyP_one 7 (at_toArray rfl) (by kernel_rfl) rfl (fun K hK => ?_)
        go_wp2_with fail
        refine (addJ_any s1 (a.len : Int) 8000 s2 E2.out _ h3 (by omega) (by omega) (by omega) (by omega)).mono ?_
        rintro e w' ⟨rfl, n2, rfl⟩
        go_wp2_with fail
        refine hK.out _ _ (fun _ _ => ⟨⟨1 + n1 + n2, rfl⟩, hc2⟩) ?_
        clear hK
        refine wpAnyP_pure (v := ?_) 8 (at_toArray rfl) (by kernel_rfl) (by kernel_rfl) (by kernel_rfl) (fun _ _ _ h => h) (Or.inl ⟨by rfl, fun W => ?_⟩) ?_
        rotate_left 1
        · (go_simp <;> (try go_bits) <;> with_reducible rfl)
        simp only [Act.put, List.setIfInBounds_toArray, List.set_cons_zero, List.set_cons_succ]
        refine wpAnyP_done (by kernel_rfl) ?_ _
        clear hS
        have hb3 : Below w.heap.size w (wr.drewN (1 + n1 + n2)) := hb.trans ⟨rfl, rfl, rfl, Nat.le_refl _, fun _ _ => rfl⟩
        clear hb hc2
        generalize wr.drewN (1 + n1 + n2) = w2 at *
        go_wp2_with fail
        go_roundw
        case rel => exact ⟨k + 1, s2, by omega, by go_num, rfl, h1, h2, hb3, Lib.hid fun h => by
          have h6 := H5.out h
          have h7 := HS.out hs
          rw [rlens_take xs k a HA.out]
          omega⟩
        case measure => simp [intOf]; omega
      · go_wp2_with fail
        go_ret
        exact ⟨false, rfl, fun h => (by cases h), hb⟩
    · obtain rfl : k = m := by omega
      by_cases hs : s ≤ 8000
      · have l1 : ¬ (k : Int) < (k : Int) := by omega
        go_wp2_with fail
        go_ret
        refine ⟨true, rfl, fun _ => ?_, hb⟩
        have := HS.out hs
        rw [HM.out, List.take_length] at this
        show 20 * xs.length + rlens xs ≤ 8000
        omega
      · go_wp2_with fail
        go_ret
        exact ⟨false, rfl, fun h => (by cases h), hb⟩

end Go.Proofs.YtdhafdejionefaaGreat

/- The records that Light lets in; the walks of Same and begins. -/
namespace Go.Proofs.YtdhafdejionefaaGreat
set_option linter.unusedVariables false
set_option linter.unusedSimpArgs false
open Go.RowKit

def total (ls : List (List UInt8)) : Nat := (ls.map List.length).sum
theorem isrow_cap {w : World} {A : Option Addr} {len cap : Nat} {zs : List Int} (h : IsRow .u8 w A len cap zs) : len ≤ cap := by
  rcases h with ⟨_, rfl, rfl, _⟩ | ⟨x, h1, h2, _⟩
  · exact Nat.le_refl _
  · exact h2
theorem recs_lists {w : World} {A : Option Addr} {xs : List RecV} (h : RecsR w A xs) (hl : Light8 xs) :
    ∃ ls : List (List UInt8), ls.length = xs.length ∧ RLs w (fun k => w.heap.size ≤ k) A ls ∧ (∀ l ∈ ls, l.length ≤ 8000) ∧ 20 * ls.length + total ls ≤ 8000 := by
  have hex : ∀ i : Nat, ∃ ys : List UInt8, ∀ a, xs[i]? = some a → ys.length = a.len ∧ RB w a.A ys := fun i => by
    match hx : xs[i]? with
    | none => exact ⟨[], fun a ha => by cases ha⟩
    | some a =>
      obtain ⟨ys, h1, h2⟩ := (h.ok i a hx).bytes (by have := hl.at i a hx; omega)
      exact ⟨ys, fun b hb => by cases hb; exact ⟨h1, h2⟩⟩
  obtain ⟨f, hf⟩ : ∃ f : Nat → List UInt8, ∀ i a, xs[i]? = some a → (f i).length = a.len ∧ RB w a.A (f i) := ⟨fun i => Classical.choose (hex i), fun i => Classical.choose_spec (hex i)⟩
  have hget : ∀ i l, ((List.range xs.length).map f)[i]? = some l → ∃ a, xs[i]? = some a ∧ l = f i := fun i l hi => by
    simp only [List.getElem?_map, Option.map_eq_some_iff, List.getElem?_range] at hi
    obtain ⟨j, hj, rfl⟩ := hi
    by_cases hil : i < xs.length
    · simp [hil] at hj; subst hj; exact ⟨_, List.getElem?_eq_getElem hil, rfl⟩
    · simp [hil] at hj
  have hsum : ((List.range xs.length).map f).map List.length = xs.map RecV.len := by
    apply List.ext_getElem?
    intro i
    rcases Nat.lt_or_ge i xs.length with hi | hi
    · have e1 : xs[i]? = some xs[i] := List.getElem?_eq_getElem hi
      have e2 : ((List.range xs.length).map f)[i]? = some (f i) := by simp [hi]
      rw [List.getElem?_map, e2, List.getElem?_map, e1]
      simp only [Option.map_some, Option.some.injEq]
      exact (hf i _ e1).1
    · rw [List.getElem?_eq_none (by simpa using hi), List.getElem?_eq_none (by simpa using hi)]
  refine ⟨(List.range xs.length).map f, by simp, fun j l hj => ?_, fun l hlm => ?_, ?_⟩
  · obtain ⟨a, ha, rfl⟩ := hget j l hj
    obtain ⟨b, off, h1, h2, h3⟩ := h.cell j a ha
    obtain ⟨h4, h5⟩ := hf j a ha
    refine ⟨b, off, _, h1, h2, by omega, h3, a.A, a.cap, by rw [h4], by rw [h4]; exact isrow_cap (h.ok j a ha), h5, fun x hx h0 => ⟨Nat.zero_le _, ?_⟩⟩
    have := rb_lt h5 x hx h0
    omega
  · obtain ⟨i, hi⟩ := List.mem_iff_getElem?.1 hlm
    obtain ⟨a, ha, rfl⟩ := hget i l hi
    rw [(hf i a ha).1]
    exact hl.at i a ha
  · unfold total
    rw [hsum]
    have := hl
    unfold Light8 rlens at this
    simpa using this
theorem RLs.old {B : Nat} {w w' : World} {A : Option Addr} {ls : List (List UInt8)} (h : RLs w (fun k => B ≤ k) A ls) (hb : Below B w w') : RLs w' (fun k => B ≤ k) A ls :=
  h.upd ⟨⟨hb.os, hb.tape, hb.output, hb.size, fun k _ hk => hb.block k (by omega)⟩, fun k hk => .inl hk⟩
theorem RLs.at {w : World} {X : Nat → Prop} {A : Option Addr} {ls : List (List UInt8)} (h : RLs w X A ls) (k : Nat) (l : List UInt8) (hk : ls[k]? = some l) :
    ∃ b off A1 n, A = some ⟨b, off, none⟩ ∧ w.cell? ⟨b, off + k, none⟩ = some (.slice A1 l.length n) ∧ RB w A1 l := by
  obtain ⟨b, off, c, hA, hb, hX, hc, A1, n, rfl, e2, e3, e4⟩ := h k l hk
  exact ⟨b, off, A1, n, hA, hc, e3⟩
theorem strB_ne (x y : List UInt8) : (strB x = strB y) ↔ x = y := ⟨fun h => by have := congrArg (fun s => s.data.toList) h; simpa [strB] using this, fun h => by rw [h]⟩
set_option maxRecDepth 100000 in
set_option maxHeartbeats 2000000 in
theorem same16_any (A B : Option Addr) (c d : Nat) (ls ms : List (List UInt8)) (X Y : Nat → Prop) (w : World) (h1 : RLs w X A ls) (h2 : RLs w Y B ms) (hl : ls.length ≤ 2000000000) :
    Calls Tryz.prog 25 #[.slice A ls.length c, .slice B ms.length d] w fun e w' => e = .returned (.bool (decide (ls = ms))) ∧ Below w.heap.size w w' := by
  obtain ⟨r, hr⟩ : ∃ r, r = decide (ls = ms) := ⟨_, rfl⟩
  rw [← hr]
  obtain ⟨N, hN⟩ : ∃ N, N = ls.length := ⟨_, rfl⟩
  obtain ⟨M, hM⟩ : ∃ M, M = ms.length := ⟨_, rfl⟩
  rw [← hN] at hl
  rw [← hN, ← hM]
  have HR := Lib.hid hr
  have HN := Lib.hid hN
  have HM := Lib.hid hM
  have H1 := Lib.hid h1
  have H2 := Lib.hid h2
  clear hr hN hM h1 h2
  go_enter Tryz.func25, Tryz.ntmps25
  by_cases hNM : N = M
  · subst hNM
    go_wp2_with fail
    go_loopw [5] (fun i wr => ∃ k : Nat, k ≤ N ∧ i = .int .i64 (k : Int) ∧ Hid (ls.take k = ms.take k) ∧ Hid (Below w.heap.size w wr)) (fun i _ => N - (intOf i).toNat)
    case atStart => exact ⟨0, Nat.zero_le _, rfl, Lib.hid rfl, Lib.hid (Below.refl _ _)⟩
    case round =>
      obtain ⟨k, hk, rfl, HQ, HB⟩ := hrel
      by_cases hlt : k < N
      · obtain ⟨l, hl1⟩ : ∃ l, ls[k]? = some l := ⟨_, List.getElem?_eq_getElem (by rw [← HN.out]; exact hlt)⟩
        obtain ⟨m, hm1⟩ : ∃ m, ms[k]? = some m := ⟨_, List.getElem?_eq_getElem (by rw [← HM.out]; exact hlt)⟩
        obtain ⟨b1, o1, A1, n1, rfl, c1, r1⟩ := (H1.out.upd (Upd.of_below HB.out)).at k l hl1
        obtain ⟨b2, o2, A2, n2, rfl, c2, r2⟩ := (H2.out.upd (Upd.of_below HB.out)).at k m hm1
        have s1 := fun q => run_str (r1.below (show Below wr.heap.size wr (wr.drewN q) from ⟨rfl, rfl, rfl, Nat.le_refl _, fun _ _ => rfl⟩)) l.length n1 rfl
        have s2 := fun q => run_str (r2.below (show Below wr.heap.size wr (wr.drewN q) from ⟨rfl, rfl, rfl, Nat.le_refl _, fun _ _ => rfl⟩)) m.length n2 rfl
        obtain ⟨x, hx⟩ : ∃ x, x = l.length := ⟨_, rfl⟩
        obtain ⟨y, hy⟩ : ∃ y, y = m.length := ⟨_, rfl⟩
        obtain ⟨sl, hsl⟩ : ∃ s, s = strB l := ⟨_, rfl⟩
        obtain ⟨sm, hsm⟩ : ∃ s, s = strB m := ⟨_, rfl⟩
        rw [← hx] at c1
        rw [← hy] at c2
        simp only [← hx, ← hsl] at s1
        simp only [← hy, ← hsm] at s2
        have HC1 := Lib.hid s1
        have HC2 := Lib.hid s2
        clear s1 s2
        have l1 : (k : Int) < (N : Int) := by omega
        have HL1 := Lib.hid hl1
        have HM1 := Lib.hid hm1
        have HSL := Lib.hid hsl
        have HSM := Lib.hid hsm
        clear hl1 hm1 r1 r2 hx hy hsl hsm
        by_cases heq : sl = sm
        · subst heq
          go_wp2_with fail
          refine wp_region_phased (fun W => (∃ n, W = wr.drewN n) ∧ W.cell? ⟨b1, o1 + k, none⟩ = some (.slice A1 x n1) ∧ W.cell? ⟨b2, o2 + k, none⟩ = some (.slice A2 y n2)) 11 (by kernel_rfl) ⟨⟨1, rfl⟩, c1, c2⟩ (fun hS => ?_)
          refine wpAnyP_pure (v := ?_) 0 (at_toArray rfl) (by kernel_rfl) (by kernel_rfl) (by kernel_rfl) (fun _ _ _ h => h) (Or.inl ⟨by rfl, fun W => ?_⟩) ?_
          rotate_left 1
          · (go_simp <;> (try go_bits) <;> with_reducible rfl)
          simp only [Act.put, List.setIfInBounds_toArray, List.set_cons_zero, List.set_cons_succ]
          refine wpAnyP_pure (v := ?_) 1 (at_toArray rfl) (by kernel_rfl) (by kernel_rfl) (by kernel_rfl) (fun _ _ _ h => h) (Or.inl ⟨by rfl, fun W => ?_⟩) ?_
          rotate_left 1
          · (go_simp <;> (try go_bits) <;> with_reducible rfl)
          simp only [Act.put, List.setIfInBounds_toArray, List.set_cons_zero, List.set_cons_succ]
          refine wpAnyP_pure (v := ?_) 2 (at_toArray rfl) (by kernel_rfl) (by kernel_rfl) (by kernel_rfl) (fun _ _ _ h => h) (Or.inl ⟨by rfl, fun W => ?_⟩) ?_
          rotate_left 1
          · (go_simp <;> (try go_bits) <;> with_reducible rfl)
          simp only [Act.put, List.setIfInBounds_toArray, List.set_cons_zero, List.set_cons_succ]
          refine wpAnyP_load (v := ?_) 3 (by kernel_rfl) (at_toArray rfl) (by kernel_rfl) (by kernel_rfl) (by kernel_rfl) (fun _ _ _ h => h) (by first | assumption | rfl) (Or.inl ⟨by rfl, fun W hS => ?_⟩) ?_
          rotate_left 1
          · (obtain ⟨_, _, _⟩ := hS; go_simp <;> (try go_bits) <;> with_reducible rfl)
          simp only [Act.put, List.setIfInBounds_toArray, List.set_cons_zero, List.set_cons_succ]
          refine wpAnyP_load (v := ?_) 4 (by kernel_rfl) (at_toArray rfl) (by kernel_rfl) (by kernel_rfl) (by kernel_rfl) (fun _ _ _ h => h) (by first | assumption | rfl) (Or.inl ⟨by rfl, fun W hS => ?_⟩) ?_
          rotate_left 1
          · (obtain ⟨⟨n, rfl⟩, _⟩ := hS; have hc := HC1.out n; go_simp <;> (try go_bits) <;> with_reducible rfl)
          simp only [Act.put, List.setIfInBounds_toArray, List.set_cons_zero, List.set_cons_succ]
          refine wpAnyP_pure (v := ?_) 5 (at_toArray rfl) (by kernel_rfl) (by kernel_rfl) (by kernel_rfl) (fun _ _ _ h => h) (Or.inl ⟨by rfl, fun W => ?_⟩) ?_
          rotate_left 1
          · (go_simp <;> (try go_bits) <;> with_reducible rfl)
          simp only [Act.put, List.setIfInBounds_toArray, List.set_cons_zero, List.set_cons_succ]
          refine wpAnyP_pure (v := ?_) 6 (at_toArray rfl) (by kernel_rfl) (by kernel_rfl) (by kernel_rfl) (fun _ _ _ h => h) (Or.inl ⟨by rfl, fun W => ?_⟩) ?_
          rotate_left 1
          · (go_simp <;> (try go_bits) <;> with_reducible rfl)
          simp only [Act.put, List.setIfInBounds_toArray, List.set_cons_zero, List.set_cons_succ]
          refine wpAnyP_pure (v := ?_) 7 (at_toArray rfl) (by kernel_rfl) (by kernel_rfl) (by kernel_rfl) (fun _ _ _ h => h) (Or.inl ⟨by rfl, fun W => ?_⟩) ?_
          rotate_left 1
          · (go_simp <;> (try go_bits) <;> with_reducible rfl)
          simp only [Act.put, List.setIfInBounds_toArray, List.set_cons_zero, List.set_cons_succ]
          refine wpAnyP_load (v := ?_) 8 (by kernel_rfl) (at_toArray rfl) (by kernel_rfl) (by kernel_rfl) (by kernel_rfl) (fun _ _ _ h => h) (by first | assumption | rfl) (Or.inl ⟨by rfl, fun W hS => ?_⟩) ?_
          rotate_left 1
          · (obtain ⟨_, _, _⟩ := hS; go_simp <;> (try go_bits) <;> with_reducible rfl)
          simp only [Act.put, List.setIfInBounds_toArray, List.set_cons_zero, List.set_cons_succ]
          refine wpAnyP_load (v := ?_) 9 (by kernel_rfl) (at_toArray rfl) (by kernel_rfl) (by kernel_rfl) (by kernel_rfl) (fun _ _ _ h => h) (by first | assumption | rfl) (Or.inl ⟨by rfl, fun W hS => ?_⟩) ?_
          rotate_left 1
          · (obtain ⟨⟨n, rfl⟩, _⟩ := hS; have hc := HC2.out n; go_simp <;> (try go_bits) <;> with_reducible rfl)
          simp only [Act.put, List.setIfInBounds_toArray, List.set_cons_zero, List.set_cons_succ]
          refine wpAnyP_pure (v := ?_) 10 (at_toArray rfl) (by kernel_rfl) (by kernel_rfl) (by kernel_rfl) (fun _ _ _ h => h) (Or.inl ⟨by rfl, fun W => ?_⟩) ?_
          rotate_left 1
          · (go_simp <;> (try go_bits) <;> with_reducible rfl)
          simp only [Act.put, List.setIfInBounds_toArray, List.set_cons_zero, List.set_cons_succ]
          refine wpAnyP_done (by kernel_rfl) ?_ _
          go_wp2_with fail
          go_roundw
          case rel =>
            have e1 : l = m := (strB_ne l m).1 (HSL.out.symm.trans HSM.out)
            refine ⟨k + 1, hlt, by go_num, Lib.hid ?_, Lib.hid (HB.out.trans (Below.up (Below.refl _ _).drew HB.out.size))⟩
            rw [take_snoc ls k l HL1.out, take_snoc ms k m HM1.out, HQ.out, e1]
          case measure => simp [intOf]; omega
        · have e1 : l ≠ m := fun h => heq (by rw [HSL.out, HSM.out, h])
          have e2 : ls ≠ ms := fun h => e1 (by have := HL1.out; rw [h, HM1.out] at this; cases this; rfl)
          have hr := HR.out
          rw [decide_eq_false e2] at hr
          subst hr
          have hne : (sl.toList == sm.toList) = false := by
            rw [ByteArray.toList_eq, ByteArray.toList_eq, HSL.out, HSM.out]
            simp [strB, e1]
          go_wp2_with fail
          refine wp_region_phased (fun W => (∃ n, W = wr.drewN n) ∧ W.cell? ⟨b1, o1 + k, none⟩ = some (.slice A1 x n1) ∧ W.cell? ⟨b2, o2 + k, none⟩ = some (.slice A2 y n2)) 11 (by kernel_rfl) ⟨⟨1, rfl⟩, c1, c2⟩ (fun hS => ?_)
          refine wpAnyP_pure (v := ?_) 0 (at_toArray rfl) (by kernel_rfl) (by kernel_rfl) (by kernel_rfl) (fun _ _ _ h => h) (Or.inl ⟨by rfl, fun W => ?_⟩) ?_
          rotate_left 1
          · (go_simp <;> (try go_bits) <;> with_reducible rfl)
          simp only [Act.put, List.setIfInBounds_toArray, List.set_cons_zero, List.set_cons_succ]
          refine wpAnyP_pure (v := ?_) 1 (at_toArray rfl) (by kernel_rfl) (by kernel_rfl) (by kernel_rfl) (fun _ _ _ h => h) (Or.inl ⟨by rfl, fun W => ?_⟩) ?_
          rotate_left 1
          · (go_simp <;> (try go_bits) <;> with_reducible rfl)
          simp only [Act.put, List.setIfInBounds_toArray, List.set_cons_zero, List.set_cons_succ]
          refine wpAnyP_pure (v := ?_) 2 (at_toArray rfl) (by kernel_rfl) (by kernel_rfl) (by kernel_rfl) (fun _ _ _ h => h) (Or.inl ⟨by rfl, fun W => ?_⟩) ?_
          rotate_left 1
          · (go_simp <;> (try go_bits) <;> with_reducible rfl)
          simp only [Act.put, List.setIfInBounds_toArray, List.set_cons_zero, List.set_cons_succ]
          refine wpAnyP_load (v := ?_) 3 (by kernel_rfl) (at_toArray rfl) (by kernel_rfl) (by kernel_rfl) (by kernel_rfl) (fun _ _ _ h => h) (by first | assumption | rfl) (Or.inl ⟨by rfl, fun W hS => ?_⟩) ?_
          rotate_left 1
          · (obtain ⟨_, _, _⟩ := hS; go_simp <;> (try go_bits) <;> with_reducible rfl)
          simp only [Act.put, List.setIfInBounds_toArray, List.set_cons_zero, List.set_cons_succ]
          refine wpAnyP_load (v := ?_) 4 (by kernel_rfl) (at_toArray rfl) (by kernel_rfl) (by kernel_rfl) (by kernel_rfl) (fun _ _ _ h => h) (by first | assumption | rfl) (Or.inl ⟨by rfl, fun W hS => ?_⟩) ?_
          rotate_left 1
          · (obtain ⟨⟨n, rfl⟩, _⟩ := hS; have hc := HC1.out n; go_simp <;> (try go_bits) <;> with_reducible rfl)
          simp only [Act.put, List.setIfInBounds_toArray, List.set_cons_zero, List.set_cons_succ]
          refine wpAnyP_pure (v := ?_) 5 (at_toArray rfl) (by kernel_rfl) (by kernel_rfl) (by kernel_rfl) (fun _ _ _ h => h) (Or.inl ⟨by rfl, fun W => ?_⟩) ?_
          rotate_left 1
          · (go_simp <;> (try go_bits) <;> with_reducible rfl)
          simp only [Act.put, List.setIfInBounds_toArray, List.set_cons_zero, List.set_cons_succ]
          refine wpAnyP_pure (v := ?_) 6 (at_toArray rfl) (by kernel_rfl) (by kernel_rfl) (by kernel_rfl) (fun _ _ _ h => h) (Or.inl ⟨by rfl, fun W => ?_⟩) ?_
          rotate_left 1
          · (go_simp <;> (try go_bits) <;> with_reducible rfl)
          simp only [Act.put, List.setIfInBounds_toArray, List.set_cons_zero, List.set_cons_succ]
          refine wpAnyP_pure (v := ?_) 7 (at_toArray rfl) (by kernel_rfl) (by kernel_rfl) (by kernel_rfl) (fun _ _ _ h => h) (Or.inl ⟨by rfl, fun W => ?_⟩) ?_
          rotate_left 1
          · (go_simp <;> (try go_bits) <;> with_reducible rfl)
          simp only [Act.put, List.setIfInBounds_toArray, List.set_cons_zero, List.set_cons_succ]
          refine wpAnyP_load (v := ?_) 8 (by kernel_rfl) (at_toArray rfl) (by kernel_rfl) (by kernel_rfl) (by kernel_rfl) (fun _ _ _ h => h) (by first | assumption | rfl) (Or.inl ⟨by rfl, fun W hS => ?_⟩) ?_
          rotate_left 1
          · (obtain ⟨_, _, _⟩ := hS; go_simp <;> (try go_bits) <;> with_reducible rfl)
          simp only [Act.put, List.setIfInBounds_toArray, List.set_cons_zero, List.set_cons_succ]
          refine wpAnyP_load (v := ?_) 9 (by kernel_rfl) (at_toArray rfl) (by kernel_rfl) (by kernel_rfl) (by kernel_rfl) (fun _ _ _ h => h) (by first | assumption | rfl) (Or.inl ⟨by rfl, fun W hS => ?_⟩) ?_
          rotate_left 1
          · (obtain ⟨⟨n, rfl⟩, _⟩ := hS; have hc := HC2.out n; go_simp <;> (try go_bits) <;> with_reducible rfl)
          simp only [Act.put, List.setIfInBounds_toArray, List.set_cons_zero, List.set_cons_succ]
          refine wpAnyP_pure (v := ?_) 10 (at_toArray rfl) (by kernel_rfl) (by kernel_rfl) (by kernel_rfl) (fun _ _ _ h => h) (Or.inl ⟨by rfl, fun W => ?_⟩) ?_
          rotate_left 1
          · (go_simp <;> (try go_bits) <;> with_reducible rfl)
          simp only [Act.put, List.setIfInBounds_toArray, List.set_cons_zero, List.set_cons_succ]
          refine wpAnyP_done (by kernel_rfl) ?_ _
          go_wp2_with fail
          go_ret
          exact ⟨rfl, HB.out.trans (Below.up (Below.refl _ _).drew HB.out.size)⟩
      · have hkN : k = N := by omega
        subst hkN
        have e1 := HQ.out
        rw [HN.out, List.take_length, ← HN.out, HM.out, List.take_length] at e1
        have hr := HR.out
        rw [decide_eq_true e1] at hr
        subst hr
        go_wp2_with fail
        go_ret
        exact ⟨rfl, HB.out⟩
  · have e1 : ls ≠ ms := fun h => hNM (by rw [HN.out, HM.out, h])
    have hr := HR.out
    rw [decide_eq_false e1] at hr
    subst hr
    have hnm : ((N : Int) == (M : Int)) = false := by simp; omega
    go_wp2_with fail
    go_ret
    exact ⟨rfl, Below.refl _ _⟩

end Go.Proofs.YtdhafdejionefaaGreat

/- The document's tape: its words, the walks of its functions that change nothing, and of gone. -/
namespace Go.Proofs.YtdhafdejionefaaGreat
set_option linter.unusedVariables false
set_option linter.unusedSimpArgs false
open Go.RowKit
attribute [local go_sem] max2_int min2_int max_two min_two min_four

def rcells (T : TS) (l k : Int) (u0 u1 : Value) : Array Value :=
  #[.int .i64 T.room, u0, u1, .int .i64 (T.s0 : Int), .int .i64 (T.s1 : Int), .bool T.off, .bool T.plan.isSome, .int .i64 l, .int .i64 k, .int .i64 T.ops, .int .i64 T.fails]
/-- Block rb is the document's tape, and has T; F holds all of its blocks. -/
structure RefAt (w : World) (rb : Nat) (T : TS) (F : Nat → Prop) (l k : Int) (u0 u1 : Value) : Prop where
  blk : Blk w rb (rcells T l k u0 u1) 45
  o0 : OB w u0 T.b0
  o1 : OB w u1 T.b1
  pl : ∀ a b, T.plan = some (a, b) → a = l ∧ b = k
  apart : ∀ k, u0.ownBlock = some k → u1.ownBlock ≠ some k
  ft : F rb
  f0 : ∀ k, u0.ownBlock = some k → F k
  f1 : ∀ k, u1.ownBlock = some k → F k
  flt : ∀ k, F k → k < w.heap.size
  wf : T.ok
def RefR (w : World) (rb : Nat) (T : TS) (F : Nat → Prop) : Prop := ∃ l k u0 u1, RefAt w rb T F l k u0 u1
theorem RefAt.fr {w w' : World} {rb : Nat} {T : TS} {F G : Nat → Prop} {l k : Int} {u0 u1 : Value} (h : RefAt w rb T F l k u0 u1) (hf : Fr G w w') (hG : ∀ k, F k → ¬ G k) : RefAt w' rb T F l k u0 u1 :=
  ⟨h.blk.fr hf (hG _ h.ft), h.o0.fr hf (fun k hk => hG k (h.f0 k hk)), h.o1.fr hf (fun k hk => hG k (h.f1 k hk)), h.pl, h.apart, h.ft, h.f0, h.f1, fun k hk => Nat.lt_of_lt_of_le (h.flt k hk) hf.size, h.wf⟩
theorem RefR.fr {w w' : World} {rb : Nat} {T : TS} {F G : Nat → Prop} (h : RefR w rb T F) (hf : Fr G w w') (hG : ∀ k, F k → ¬ G k) : RefR w' rb T F := by
  obtain ⟨l, k, u0, u1, h⟩ := h; exact ⟨l, k, u0, u1, h.fr hf hG⟩
theorem RefAt.below {w w' : World} {rb : Nat} {T : TS} {F : Nat → Prop} {l k : Int} {u0 u1 : Value} (h : RefAt w rb T F l k u0 u1) (hf : Below w.heap.size w w') : RefAt w' rb T F l k u0 u1 := h.fr (Fr.of_below (F := fun _ => False) hf) (fun _ _ h => h)
theorem RefR.below {w w' : World} {rb : Nat} {T : TS} {F : Nat → Prop} (h : RefR w rb T F) (hf : Below w.heap.size w w') : RefR w' rb T F := h.fr (Fr.of_below (F := fun _ => False) hf) (fun _ _ h => h)
section
variable {w : World} {rb : Nat} {T : TS} {F : Nat → Prop} {l k : Int} {u0 u1 : Value}
theorem RefAt.len0 (h : RefAt w rb T F l k u0 u1) : T.b0.length ≤ 1073741824 := by
  have h1 := h.wf.fit; have h2 := h.wf.room; unfold TS.used at h1; omega
theorem RefAt.len1 (h : RefAt w rb T F l k u0 u1) : T.b1.length ≤ 1073741824 := by
  have h1 := h.wf.fit; have h2 := h.wf.room; unfold TS.used at h1; omega
/-- The block itself is written, in whatever cells; the rows stay. -/
theorem RefAt.re (h : RefAt w rb T F l k u0 u1) {w' : World} {T' : TS} {l' k' : Int} (hf : Fr (fun k => k = rb) w w') (hb : Blk w' rb (rcells T' l' k' u0 u1) 45) (e0 : T'.b0 = T.b0) (e1 : T'.b1 = T.b1) (ep : ∀ a b, T'.plan = some (a, b) → a = l' ∧ b = k') (ok : T'.ok) : RefAt w' rb T' F l' k' u0 u1 :=
  ⟨hb, e0 ▸ h.o0.fr hf (fun k hk e => h.o0.ne h.blk (by decide) (e ▸ hk)), e1 ▸ h.o1.fr hf (fun k hk e => h.o1.ne h.blk (by decide) (e ▸ hk)), ep, h.apart, h.ft, h.f0, h.f1, fun k hk => Nat.lt_of_lt_of_le (h.flt k hk) hf.size, ok⟩
theorem fr_own (w : World) (rb i : Nat) (v : Value) : Fr (fun k => k = rb) w (w.setCell ⟨rb, i, none⟩ v) := Fr.setCell _ w ⟨rb, i, none⟩ v rfl
theorem RefAt.row0 (h : RefAt w rb T F l k u0 u1) {w1 : World} {v : Value} {xs : List UInt8} (hf : Fresh w w1 v xs) (ok : TS.ok { T with b0 := xs }) :
    RefAt (w1.setCell ⟨rb, 1, none⟩ v) rb { T with b0 := xs } (fun k => F k ∨ v.ownBlock = some k) l k v u1 := by
  obtain ⟨ho, hb, hw⟩ := hf
  have h1 := h.below hb
  refine ⟨h1.blk.set 1 v, ho.setOther _ _ (ho.ne h1.blk (by decide)), h1.o1.setOther _ _ (h1.o1.ne h1.blk (by decide)), h.pl, ?_, .inl h.ft, fun k hk => .inr hk, fun k hk => .inl (h.f1 k hk), ?_, ok⟩
  · intro k hk hk1
    have a := hw k hk
    have b := h.o1.lt k hk1
    omega
  · intro k hk
    simp only [World.setCell, Array.size_modify]
    rcases hk with hk | hk
    · exact Nat.lt_of_lt_of_le (h.flt k hk) hb.size
    · exact ho.lt k hk
theorem RefAt.row1 (h : RefAt w rb T F l k u0 u1) {w1 : World} {v : Value} {xs : List UInt8} (hf : Fresh w w1 v xs) (ok : TS.ok { T with b1 := xs }) :
    RefAt (w1.setCell ⟨rb, 2, none⟩ v) rb { T with b1 := xs } (fun k => F k ∨ v.ownBlock = some k) l k u0 v := by
  obtain ⟨ho, hb, hw⟩ := hf
  have h1 := h.below hb
  refine ⟨h1.blk.set 2 v, h1.o0.setOther _ _ (h1.o0.ne h1.blk (by decide)), ho.setOther _ _ (ho.ne h1.blk (by decide)), h.pl, ?_, .inl h.ft, fun k hk => .inl (h.f0 k hk), fun k hk => .inr hk, ?_, ok⟩
  · intro k hk1 hk
    have a := hw k hk
    have b := h.o0.lt k hk1
    omega
  · intro k hk
    simp only [World.setCell, Array.size_modify]
    rcases hk with hk | hk
    · exact Nat.lt_of_lt_of_le (h.flt k hk) hb.size
    · exact ho.lt k hk
end
theorem upd_row {w w1 : World} {rb i : Nat} {F : Nat → Prop} {v : Value} {xs : List UInt8} (hf : Fresh w w1 v xs) (ht : F rb) : Upd w (w1.setCell ⟨rb, i, none⟩ v) F (fun k => F k ∨ v.ownBlock = some k) :=
  ⟨(Fr.of_below hf.2.1).trans (Fr.setCell F w1 _ _ ht) (fun _ h => .inl h), fun k hk => hk.elim .inl (fun h => .inr (hf.2.2 k h))⟩
theorem upd_re {w w' : World} {rb : Nat} {F : Nat → Prop} (hf : Fr (fun k => k = rb) w w') (ht : F rb) : Upd w w' F F := ⟨hf.mono fun i h => .inl (h ▸ ht), fun k h => .inl h⟩

theorem rfault_any (rb : Nat) (n : Int) (off : Bool) (w : World) (h5 : w.cell? ⟨rb, 5, none⟩ = some (.bool off)) :
    Calls Tryz.prog 57 #[.pointer (some ⟨rb, 0, none⟩), .int .i64 n] w fun e w' => e = .returned (.int .i64 (faultN off n)) ∧ w = w' := by
  obtain ⟨r, hr⟩ : ∃ r, faultN off n = r := ⟨_, rfl⟩
  rw [hr]
  unfold faultN at hr
  by_cases h0 : n = 0
  · subst h0
    rw [if_pos (.inl rfl)] at hr
    cases off
    all_goals
      go_enter Tryz.func57, Tryz.ntmps57
      go_wp2
      go_ret
      exact ⟨ret_int hr, rfl⟩
  · by_cases h1 : n = 1
    · subst h1
      rw [if_pos (.inr rfl)] at hr
      cases off
      all_goals
        go_enter Tryz.func57, Tryz.ntmps57
        go_wp2
        go_ret
        exact ⟨ret_int hr, rfl⟩
    · rw [if_neg (by omega)] at hr
      have b0 : (n != 0) = true := by rw [bne_iff_ne]; exact h0
      have b1 : (n != 1) = true := by rw [bne_iff_ne]; exact h1
      have HR := Lib.hid hr
      clear hr h0 h1
      go_enter Tryz.func57, Tryz.ntmps57
      go_wp2
      go_ret
      exact ⟨ret_int HR.out, rfl⟩
theorem rused_any (rb : Nat) (T : TS) (F : Nat → Prop) (w : World) (h : RefR w rb T F) :
    Calls Tryz.prog 40 #[.pointer (some ⟨rb, 0, none⟩)] w fun e w' => e = .returned (.int .i64 (T.used : Int)) ∧ ∃ n, w' = w.drewN n := by
  obtain ⟨l, k, u0, u1, h⟩ := h
  have l0 := h.len0
  have l1 := h.len1
  obtain ⟨A0, c0, rfl, _⟩ := h.o0.reads' (by omega)
  obtain ⟨A1, c1, rfl, _⟩ := h.o1.reads' (by omega)
  have h1 : w.cell? ⟨rb, 1, none⟩ = some (.slice A0 T.b0.length c0) := h.blk.cell 1
  have h2 : w.cell? ⟨rb, 2, none⟩ = some (.slice A1 T.b1.length c1) := h.blk.cell 2
  have hu : (T.b0.length : Int) + (T.b1.length : Int) = (T.used : Int) := by unfold TS.used; omega
  have HU := Lib.hid hu
  clear h hu
  go_enter Tryz.func40, Tryz.ntmps40
  go_wp2_with fail
  go_quiet (fail)
  go_wp2
  go_ret
  exact ⟨ret_int HU.out, _, rfl⟩
theorem rsure_any (rb : Nat) (n : Int) (T : TS) (F : Nat → Prop) (w : World) (h : RefR w rb T F) :
    Calls Tryz.prog 44 #[.pointer (some ⟨rb, 0, none⟩), .int .i64 n] w fun e w' => e = .returned (.int .i64 (T.sure n)) ∧ w = w' := by
  obtain ⟨l, k, u0, u1, h⟩ := h
  have h3 : w.cell? ⟨rb, 3, none⟩ = some (.int .i64 (T.s0 : Int)) := h.blk.cell 3
  have h4 : w.cell? ⟨rb, 4, none⟩ = some (.int .i64 (T.s1 : Int)) := h.blk.cell 4
  clear h
  obtain ⟨r, hr⟩ : ∃ r, T.sure n = r := ⟨_, rfl⟩
  rw [hr]
  unfold TS.sure at hr
  by_cases h0 : n = 0
  · subst h0
    rw [if_pos rfl] at hr
    have HR := Lib.hid hr
    clear hr
    go_enter Tryz.func44, Tryz.ntmps44
    go_wp2
    go_ret
    exact ⟨ret_int HR.out, rfl⟩
  · by_cases h1 : n = 1
    · subst h1
      rw [if_neg (by decide), if_pos rfl] at hr
      have HR := Lib.hid hr
      clear hr
      go_enter Tryz.func44, Tryz.ntmps44
      go_wp2
      go_ret
      exact ⟨ret_int HR.out, rfl⟩
    · rw [if_neg h0, if_neg h1] at hr
      have b0 : (n != 0) = true := by rw [bne_iff_ne]; exact h0
      have b1 : (n != 1) = true := by rw [bne_iff_ne]; exact h1
      have HR := Lib.hid hr
      clear hr h0 h1
      go_enter Tryz.func44, Tryz.ntmps44
      go_wp2
      go_ret
      exact ⟨ret_int HR.out, rfl⟩
set_option maxHeartbeats 1000000 in
theorem rread_any (rb : Nat) (n : Int) (T : TS) (F : Nat → Prop) (w : World) (h : RefR w rb T F) :
    Calls Tryz.prog 42 #[.pointer (some ⟨rb, 0, none⟩), .int .i64 n] w fun e w' => ∃ v, e = .returned (.tuple #[v, .int .i64 (faultN T.off n)]) ∧ Fresh w w' v (T.read n) := by
  obtain ⟨l, k, u0, u1, h⟩ := h
  have h5 : w.cell? ⟨rb, 5, none⟩ = some (.bool T.off) := h.blk.cell 5
  obtain ⟨xs, hxs⟩ : ∃ xs, T.read n = xs := ⟨_, rfl⟩
  rw [hxs]
  by_cases hz : faultN T.off n = 0
  · obtain ⟨ho, hn⟩ := fault_zero hz
    rw [hz]
    have HZ := Lib.hid hz
    have HLO := Lib.hid (show OB (w.alloc (.cells #[] 5)) (.slice (some ⟨w.heap.size, 0, none⟩) 0 0) [] from OB.lit w [] _ rfl (by decide))
    unfold TS.read at hxs
    rw [if_pos hz] at hxs
    clear hz
    rcases hn with rfl | rfl
    · obtain ⟨A, c, rfl, hr, _⟩ := h.o0.reads' (by have := h.len0; omega)
      have hc : (w.alloc (.cells #[] 5)).cell? ⟨rb, 1, none⟩ = some (.slice A T.b0.length c) := (h.blk.alloc _).cell 1
      have hl := h.len0
      have HR := Lib.hid (hr.below ((Below.refl w.heap.size w).alloc (Nat.le_refl _) (.cells #[] 5)))
      have HX : Hid (T.b0 = xs) := hxs
      clear hr h hxs
      go_enter Tryz.func42, Tryz.ntmps42
      go_wp2_with fail
      refine (rfault_any rb 0 T.off w h5).mono ?_
      rintro e w' ⟨rfl, rfl⟩
      rw [HZ.out]
      go_wp2_with (at_builtin; refine wpList_append_b rfl (.tmp 13) (.tmp 19) rfl (.slice (some ⟨w.heap.size, 0, none⟩) 0 0) [] rfl HLO.out A c T.b0 rfl HR.out (by simp; omega) ?_; intro v' w1 HO hg hat)
      have HF := Lib.hid (clone_facts HO hg hat)
      clear HO hg hat
      go_ret2
      rw [← HX.out]
      exact ⟨v', rfl, HF.out⟩
    · obtain ⟨A, c, rfl, hr, _⟩ := h.o1.reads' (by have := h.len1; omega)
      have hc : (w.alloc (.cells #[] 5)).cell? ⟨rb, 2, none⟩ = some (.slice A T.b1.length c) := (h.blk.alloc _).cell 2
      have hl := h.len1
      have HR := Lib.hid (hr.below ((Below.refl w.heap.size w).alloc (Nat.le_refl _) (.cells #[] 5)))
      have HX : Hid (T.b1 = xs) := hxs
      clear hr h hxs
      go_enter Tryz.func42, Tryz.ntmps42
      go_wp2_with fail
      refine (rfault_any rb 1 T.off w h5).mono ?_
      rintro e w' ⟨rfl, rfl⟩
      rw [HZ.out]
      go_wp2_with (at_builtin; refine wpList_append_b rfl (.tmp 13) (.tmp 19) rfl (.slice (some ⟨w.heap.size, 0, none⟩) 0 0) [] rfl HLO.out A c T.b1 rfl HR.out (by simp; omega) ?_; intro v' w1 HO hg hat)
      have HF := Lib.hid (clone_facts HO hg hat)
      clear HO hg hat
      go_ret2
      rw [← HX.out]
      exact ⟨v', rfl, HF.out⟩
  · have hx : xs = [] := by rw [← hxs]; unfold TS.read; rw [if_neg hz]
    subst hx
    obtain ⟨r, hr⟩ : ∃ r, r = faultN T.off n := ⟨_, rfl⟩
    have hne : (r != 0) = true := by rw [bne_iff_ne, hr]; exact hz
    have HR := Lib.hid hr
    rw [← hr]
    clear h hxs hz hr
    go_enter Tryz.func42, Tryz.ntmps42
    go_wp2_with fail
    refine (rfault_any rb n T.off w h5).mono ?_
    rintro e w' ⟨rfl, rfl⟩
    rw [← HR.out]
    go_wp2
    go_ret2
    exact ⟨_, rfl, fresh_nil w⟩

end Go.Proofs.YtdhafdejionefaaGreat
