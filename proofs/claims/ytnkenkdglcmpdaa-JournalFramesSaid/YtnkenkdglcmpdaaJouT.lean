/- Records that came in: opened, looked at by Light. -/
import Derived.Test.YtnkenkdglcmpdaaJouR
import Derived.Test.YtnkenkdglcmpdaaOpen
namespace Go.Proofs.Ytnkenkdglcmpdaa
set_option linter.unusedVariables false
set_option linter.unusedSimpArgs false
open Go.RowKit

/-- A record, as it came in. -/
structure RecV where
  A : Option Addr
  len : Nat
  cap : Nat
  zs : List Int
structure RecsR (w : World) (A : Option Addr) (xs : List RecV) : Prop where
  ok : ∀ (i : Nat) (a : RecV), xs[i]? = some a → IsRow .u8 w a.A a.len a.cap a.zs
  cell : ∀ (i : Nat) (a : RecV), xs[i]? = some a → ∃ b off, A = some ⟨b, off, none⟩ ∧ b < w.heap.size ∧ w.cell? ⟨b, off + i, none⟩ = some (.slice a.A a.len a.cap)
theorem open_recs {H : Type} {enc : TypeId × Value → H} {w : World} {base : Nat} {held : Bool} {fuel : Nat} {v : Value} {x : DataW H × List MemPlace}
    (h : DataW.trod enc Try.prog w base (fun _ => true) held fuel 67 [v] = some x) : ∃ A xs c, v = .slice A xs.length c ∧ xs.length ≤ c ∧ c ≤ maxLen ∧ RecsR w A xs := by
  obtain ⟨A, len, cap, hv, hl, hm, _, hr⟩ := open_rows Try.underlying67 (by decide +kernel) h
  have hC : Try.prog.cellsOf 22 = 1 := by kernel_rfl
  rw [hC] at hr
  have : ∃ f : Nat → RecV, ∀ i, i < len → IsRow .u8 w (f i).A (f i).len (f i).cap (f i).zs ∧ ∃ b off, A = some ⟨b, off, none⟩ ∧ b < w.heap.size ∧ w.cell? ⟨b, off + i, none⟩ = some (.slice (f i).A (f i).len (f i).cap) := by
    classical
    have hex : ∀ i, i < len → ∃ a : RecV, IsRow .u8 w a.A a.len a.cap a.zs ∧ ∃ b off, A = some ⟨b, off, none⟩ ∧ b < w.heap.size ∧ w.cell? ⟨b, off + i, none⟩ = some (.slice a.A a.len a.cap) := fun i hi => by
      obtain ⟨b, off, cs', n, y, h1, h2, h5, h3, h4⟩ := hr i hi
      match cs', h5 with
      | [v0], _ =>
        obtain ⟨A', l, c, zs, rfl, hz⟩ := open_row Try.underlying22 Try.underlying5 (by kernel_rfl) h4
        have := h3 0 (by omega)
        simp only [Nat.mul_one, Nat.add_zero] at this
        exact ⟨⟨A', l, c, zs⟩, hz, b, off, h1, h2, this⟩
    refine ⟨fun i => if hi : i < len then Classical.choose (hex i hi) else ⟨none, 0, 0, []⟩, fun i hi => ?_⟩
    simp only [dif_pos hi]
    exact Classical.choose_spec (hex i hi)
  obtain ⟨f, hf⟩ := this
  simp only [List.cons.injEq, and_true] at hv
  have hget : ∀ i a, ((List.range len).map f)[i]? = some a → i < len ∧ f i = a := fun i a hi => by
    simp only [List.getElem?_map, Option.map_eq_some_iff, List.getElem?_range] at hi
    obtain ⟨j, hj, rfl⟩ := hi
    by_cases hil : i < len
    · simp [hil] at hj; subst hj; exact ⟨hil, rfl⟩
    · simp [hil] at hj
  refine ⟨A, (List.range len).map f, cap, by simpa using hv, by simpa using hl, hm, ⟨fun i a hi => ?_, fun i a hi => ?_⟩⟩
  · obtain ⟨hil, rfl⟩ := hget i a hi; exact (hf i hil).1
  · obtain ⟨hil, rfl⟩ := hget i a hi; exact (hf i hil).2
theorem isrow_below {w w' : World} {A : Option Addr} {len cap : Nat} {zs : List Int} (h : IsRow .u8 w A len cap zs) (hb : Below w.heap.size w w') : IsRow .u8 w' A len cap zs := by
  rcases h with h | ⟨x, h1, h2, h3, h4, h5, h6⟩
  · exact .inl h
  · refine .inr ⟨x, h1, h2, h3, h4, fun i hi => ?_, h6⟩
    have := h5 i hi
    exact (hb.cell (World.block_lt_of_cell? w _ this)).trans this
theorem RecsR.below {w w' : World} {A : Option Addr} {xs : List RecV} (h : RecsR w A xs) (hb : Below w.heap.size w w') : RecsR w' A xs := by
  refine ⟨fun i a hi => isrow_below (h.ok i a hi) hb, fun i a hi => ?_⟩
  obtain ⟨b, off, h1, h2, h3⟩ := h.cell i a hi
  exact ⟨b, off, h1, Nat.lt_of_lt_of_le h2 hb.size, (hb.cell (p := ⟨b, off + i, none⟩) h2).trans h3⟩
/-! ### Add, Light -/
theorem ret_z {a b : Int} (h : a = b) : Ending.returned (.int .i64 a) = Ending.returned (.int .i64 b) := by rw [h]
def addJ (n more most : Int) : Int := if most < n ∨ most < more ∨ most - more < n then most + 1 else n + more
theorem addJ_any (n more most s : Int) (hs : s = addJ n more most) (w : World) (h1 : 0 ≤ n) (h2 : n ≤ 4611686018427387904) (h3 : 0 ≤ more) (h4 : 0 ≤ most) (h5 : most ≤ 4611686018427387904) :
    Calls Try.prog 59 #[.int .i64 n, .int .i64 more, .int .i64 most] w fun e w' => e = .returned (.int .i64 s) ∧ ∃ n, w' = w.drewN n := by
  unfold addJ at hs
  by_cases c1 : most < n
  · rw [if_pos (.inl c1)] at hs
    have HS := Lib.hid hs
    clear hs
    go_enter Try.func59, Try.ntmps59
    go_wp2
    go_ret
    exact ⟨ret_z (by have := HS.out; omega), 0, rfl⟩
  · by_cases c2 : most < more
    · rw [if_pos (.inr (.inl c2))] at hs
      have HS := Lib.hid hs
      clear hs
      go_enter Try.func59, Try.ntmps59
      go_wp2
      go_ret
      exact ⟨ret_z (by have := HS.out; omega), 0, rfl⟩
    · by_cases c3 : most - more < n
      · rw [if_pos (.inr (.inr c3))] at hs
        have HS := Lib.hid hs
        clear hs
        go_enter Try.func59, Try.ntmps59
        go_wp2
        go_ret
        exact ⟨ret_z (by have := HS.out; omega), 0, rfl⟩
      · rw [if_neg (by omega)] at hs
        have HS := Lib.hid hs
        clear hs
        go_enter Try.func59, Try.ntmps59
        go_wp2
        go_ret
        exact ⟨ret_z (by have := HS.out; omega), 0, rfl⟩
def rlens (xs : List RecV) : Nat := (xs.map RecV.len).sum
theorem rlens_take (xs : List RecV) (k : Nat) (a : RecV) (h : xs[k]? = some a) : rlens (xs.take (k + 1)) = rlens (xs.take k) + a.len := by
  unfold rlens
  rw [List.take_add_one, h]
  simp
theorem rlens_le (xs : List RecV) (k : Nat) : rlens (xs.take k) ≤ rlens xs := by
  unfold rlens
  have := congrArg (fun l => (List.map RecV.len l).sum) (List.take_append_drop k xs)
  simp only [List.map_append, List.sum_append] at this
  omega
def Light8 (xs : List RecV) : Prop := 20 * xs.length + rlens xs ≤ 8000
theorem Light8.at {xs : List RecV} (h : Light8 xs) (i : Nat) (a : RecV) (hi : xs[i]? = some a) : a.len ≤ 8000 := by
  have h1 := rlens_take xs i a hi
  have h2 := rlens_le xs (i + 1)
  unfold Light8 at h
  omega
theorem addJ_step (n m : Int) (h0 : 0 ≤ n) (hn : n ≤ 8000) (hm : 0 ≤ m) : 0 ≤ addJ (addJ n 20 8000) m 8000 ∧ addJ (addJ n 20 8000) m 8000 ≤ 8001 ∧ 0 ≤ addJ n 20 8000 ∧ addJ n 20 8000 ≤ 8001 ∧ (addJ (addJ n 20 8000) m 8000 ≤ 8000 → n + 20 + m ≤ addJ (addJ n 20 8000) m 8000) := by
  unfold addJ
  omega
def Light8Post (xs : List RecV) (w : World) (e : Ending) (w' : World) : Prop := ∃ b, e = .returned (.bool b) ∧ (b = true → Light8 xs) ∧ Below w.heap.size w w'
set_option maxRecDepth 100000 in
set_option maxHeartbeats 2000000 in
theorem light8_any (A : Option Addr) (c : Nat) (xs : List RecV) (w : World) (h : RecsR w A xs) (hl : xs.length ≤ 9223372036854775807) :
    Calls Try.prog 40 #[.slice A xs.length c] w (Light8Post xs w) := by
  obtain ⟨m, hm⟩ : ∃ m, m = xs.length := ⟨_, rfl⟩
  rw [← hm]
  rw [← hm] at hl
  have H := Lib.hid h
  have HM := Lib.hid hm
  clear h hm
  go_enter Try.func40, Try.ntmps40
  go_wp2_with fail
  go_loopw [3, 4] (fun n i wr => ∃ k : Nat, ∃ s : Int, k ≤ m ∧ i = .int .i64 k ∧ n = .int .i64 s ∧ 0 ≤ s ∧ s ≤ 8001 ∧ Below w.heap.size w wr ∧ Hid (s ≤ 8000 → 20 * (k : Int) + (rlens (xs.take k) : Int) ≤ s)) (fun _ i _ => m - (intOf i).toNat)
  case atStart => exact ⟨0, 0, Nat.zero_le _, rfl, rfl, by omega, by omega, Below.refl _ _, Lib.hid fun _ => by simp [rlens]⟩
  case round =>
    obtain ⟨k, s, hk, rfl, rfl, hs0, hs1, hb, HS⟩ := hrel
    by_cases hlt : k < m
    · by_cases hs : s ≤ 8000
      · obtain ⟨a, ha⟩ : ∃ a, xs[k]? = some a := ⟨_, List.getElem?_eq_getElem (by rw [← HM.out]; exact hlt)⟩
        have H2 := H.out.below hb
        obtain ⟨b, off, rfl, hlb, hc2⟩ := H2.cell k a ha
        have hst := addJ_step s (a.len : Int) hs0 hs (by omega)
        obtain ⟨h1, h2, h3, h4, h5⟩ := hst
        obtain ⟨s1, e1⟩ : ∃ s1, s1 = addJ s 20 8000 := ⟨_, rfl⟩
        obtain ⟨s2, e2⟩ : ∃ s2, s2 = addJ s1 (a.len : Int) 8000 := ⟨_, rfl⟩
        rw [← e1] at h1 h2 h3 h4 h5
        rw [← e2] at h1 h2 h5
        have HA := Lib.hid ha
        have H5 := Lib.hid h5
        have E1 := Lib.hid e1
        have E2 := Lib.hid e2
        clear H2 ha h5 e1 e2
        have l1 : (k : Int) < (m : Int) := by omega
        go_wp2_with fail
        refine wp_region_phased (fun W => (∃ n, W = wr.drewN n) ∧ W.cell? ⟨b, off + k, none⟩ = some (.slice a.A a.len a.cap)) 9 (by kernel_rfl) ⟨⟨1, rfl⟩, hc2⟩ (fun hS => ?_)
        refine wpAnyP_pure (v := ?_) 0 (at_toArray rfl) (by kernel_rfl) (by kernel_rfl) (by kernel_rfl) (fun _ _ _ h => h) (Or.inl ⟨by rfl, fun W => ?_⟩) ?_
        rotate_left 1
        · (go_simp <;> (try go_bits) <;> with_reducible rfl)
        simp only [Act.put, List.setIfInBounds_toArray, List.set_cons_zero, List.set_cons_succ]
        refine wpAnyP_pure (v := ?_) 2 (at_toArray rfl) (by kernel_rfl) (by kernel_rfl) (by kernel_rfl) (fun _ _ _ h => h) (Or.inl ⟨by rfl, fun W => ?_⟩) ?_
        rotate_left 1
        · (go_simp <;> (try go_bits) <;> with_reducible rfl)
        simp only [Act.put, List.setIfInBounds_toArray, List.set_cons_zero, List.set_cons_succ]
        refine wpAnyP_pure (v := ?_) 3 (at_toArray rfl) (by kernel_rfl) (by kernel_rfl) (by kernel_rfl) (fun _ _ _ h => h) (Or.inl ⟨by rfl, fun W => ?_⟩) ?_
        rotate_left 1
        · (go_simp <;> (try go_bits) <;> with_reducible rfl)
        simp only [Act.put, List.setIfInBounds_toArray, List.set_cons_zero, List.set_cons_succ]
        refine wpAnyP_pure (v := ?_) 4 (at_toArray rfl) (by kernel_rfl) (by kernel_rfl) (by kernel_rfl) (fun _ _ _ h => h) (Or.inl ⟨by rfl, fun W => ?_⟩) ?_
        rotate_left 1
        · (go_simp <;> (try go_bits) <;> with_reducible rfl)
        simp only [Act.put, List.setIfInBounds_toArray, List.set_cons_zero, List.set_cons_succ]
        refine wpAnyP_load (v := ?_) 5 (by kernel_rfl) (at_toArray rfl) (by kernel_rfl) (by kernel_rfl) (by kernel_rfl) (fun _ _ _ h => h) (by first | assumption | rfl) (Or.inl ⟨by rfl, fun W hS => ?_⟩) ?_
        rotate_left 1
        · (obtain ⟨_, s1⟩ := hS; go_simp <;> (try go_bits) <;> with_reducible rfl)
        simp only [Act.put, List.setIfInBounds_toArray, List.set_cons_zero, List.set_cons_succ]
        refine wpAnyP_pure (v := ?_) 6 (at_toArray rfl) (by kernel_rfl) (by kernel_rfl) (by kernel_rfl) (fun _ _ _ h => h) (Or.inl ⟨by rfl, fun W => ?_⟩) ?_
        rotate_left 1
        · (go_simp <;> (try go_bits) <;> with_reducible rfl)
        simp only [Act.put, List.setIfInBounds_toArray, List.set_cons_zero, List.set_cons_succ]
        refine wpAnyP_one 1 (at_toArray rfl) (by kernel_rfl) rfl (fun K hK => ?_)
        go_wp2_with fail
        refine (addJ_any s 20 8000 s1 E1.out _ hs0 (by omega) (by omega) (by omega) (by omega)).mono ?_
        rintro e w' ⟨rfl, n1, rfl⟩
        go_wp2_with fail
        refine hK.out _ _ (fun _ _ => ⟨⟨1 + n1, rfl⟩, hc2⟩) ?_
        clear hK
        refine wpAnyP_one 7 (at_toArray rfl) (by kernel_rfl) rfl (fun K hK => ?_)
        go_wp2_with fail
        refine (addJ_any s1 (a.len : Int) 8000 s2 E2.out _ h3 (by omega) (by omega) (by omega) (by omega)).mono ?_
        rintro e w' ⟨rfl, n2, rfl⟩
        go_wp2_with fail
        refine hK.out _ _ (fun _ _ => ⟨⟨1 + n1 + n2, rfl⟩, hc2⟩) ?_
        clear hK
        refine wpAnyP_pure (v := ?_) 8 (at_toArray rfl) (by kernel_rfl) (by kernel_rfl) (by kernel_rfl) (fun _ _ _ h => h) (Or.inl ⟨by rfl, fun W => ?_⟩) ?_
        rotate_left 1
        · (go_simp <;> (try go_bits) <;> with_reducible rfl)
        simp only [Act.put, List.setIfInBounds_toArray, List.set_cons_zero, List.set_cons_succ]
        refine wpAnyP_done (by kernel_rfl) ?_ _
        clear hS
        have hb3 : Below w.heap.size w (wr.drewN (1 + n1 + n2)) := hb.trans ⟨rfl, rfl, rfl, Nat.le_refl _, fun _ _ => rfl⟩
        clear hb hc2
        generalize wr.drewN (1 + n1 + n2) = w2 at *
        go_wp2_with fail
        go_roundw
        case rel => exact ⟨k + 1, s2, by omega, by go_num, rfl, h1, h2, hb3, Lib.hid fun h => by
          have h6 := H5.out h
          have h7 := HS.out hs
          rw [rlens_take xs k a HA.out]
          omega⟩
        case measure => simp [intOf]; omega
      · go_wp2_with fail
        go_ret
        exact ⟨false, rfl, fun h => (by cases h), hb⟩
    · obtain rfl : k = m := by omega
      by_cases hs : s ≤ 8000
      · have l1 : ¬ (k : Int) < (k : Int) := by omega
        go_wp2_with fail
        go_ret
        refine ⟨true, rfl, fun _ => ?_, hb⟩
        have := HS.out hs
        rw [HM.out, List.take_length] at this
        show 20 * xs.length + rlens xs ≤ 8000
        omega
      · go_wp2_with fail
        go_ret
        exact ⟨false, rfl, fun h => (by cases h), hb⟩

end Go.Proofs.Ytnkenkdglcmpdaa
