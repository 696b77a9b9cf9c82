/- The walks of Add and of the tape's Light. -/
import Derived.Test.YtnkenkdglcmpdaaTapeL
import Derived.Test.YtnkenkdglcmpdaaOpen
namespace Go.Proofs.Ytnkenkdglcmpdaa
set_option linter.unusedVariables false
set_option linter.unusedSimpArgs false
open Go.RowKit

def addI (n more most : Int) : Int := if most < n ∨ most < more ∨ most - more < n then most + 1 else n + more
theorem add_any (n more most : Int) (w : World) (h1 : 0 ≤ n) (h2 : n ≤ 4611686018427387904) (h3 : 0 ≤ more) (h4 : 0 ≤ most) (h5 : most ≤ 4611686018427387904) :
    Calls Try.prog 59 #[.int .i64 n, .int .i64 more, .int .i64 most] w fun e w' => e = .returned (.int .i64 (addI n more most)) ∧ ∃ n, w' = w.drewN n := by
  obtain ⟨r, hr⟩ : ∃ r, addI n more most = r := ⟨_, rfl⟩
  rw [hr]
  unfold addI at hr
  by_cases c1 : most < n
  · rw [if_pos (.inl c1)] at hr
    go_enter Try.func59, Try.ntmps59
    go_wp2
    go_ret
    exact ⟨ret_int (by omega), 0, rfl⟩
  · by_cases c2 : most < more
    · rw [if_pos (.inr (.inl c2))] at hr
      go_enter Try.func59, Try.ntmps59
      go_wp2
      go_ret
      exact ⟨ret_int (by omega), 0, rfl⟩
    · by_cases c3 : most - more < n
      · rw [if_pos (.inr (.inr c3))] at hr
        go_enter Try.func59, Try.ntmps59
        go_wp2
        go_ret
        exact ⟨ret_int (by omega), 0, rfl⟩
      · rw [if_neg (by omega)] at hr
        go_enter Try.func59, Try.ntmps59
        go_wp2
        go_ret
        exact ⟨ret_int (by omega), 0, rfl⟩

theorem add_is (n more most s : Int) (hs : s = addI n more most) (w : World) (h1 : 0 ≤ n) (h2 : n ≤ 4611686018427387904) (h3 : 0 ≤ more) (h4 : 0 ≤ most) (h5 : most ≤ 4611686018427387904) :
    Calls Try.prog 59 #[.int .i64 n, .int .i64 more, .int .i64 most] w fun e w' => e = .returned (.int .i64 s) ∧ ∃ n, w' = w.drewN n := by
  subst hs
  exact add_any n more most w h1 h2 h3 h4 h5
/-- What Light lets in. -/
def lens (xs : List ActV) : Nat := (xs.map ActV.len).sum
theorem lens_take (xs : List ActV) (k : Nat) (a : ActV) (h : xs[k]? = some a) : lens (xs.take (k + 1)) = lens (xs.take k) + a.len := by
  unfold lens
  rw [List.take_add_one, h]
  simp
theorem lens_le (xs : List ActV) (k : Nat) : lens (xs.take k) ≤ lens xs := by
  unfold lens
  have := congrArg (fun l => (List.map ActV.len l).sum) (List.take_append_drop k xs)
  simp only [List.map_append, List.sum_append] at this
  omega
def LightOk (xs : List ActV) : Prop := 20 * xs.length + lens xs ≤ 20000
theorem LightOk.at {xs : List ActV} (h : LightOk xs) (i : Nat) (a : ActV) (hi : xs[i]? = some a) : a.len ≤ 20000 := by
  have h1 := lens_take xs i a hi
  have h2 := lens_le xs (i + 1)
  unfold LightOk at h
  omega
def LightPost (xs : List ActV) (w : World) (e : Ending) (w' : World) : Prop := ∃ b, e = .returned (.bool b) ∧ (b = true → LightOk xs) ∧ Below w.heap.size w w'
theorem addI_step (n m : Int) (h0 : 0 ≤ n) (hn : n ≤ 20000) (hm : 0 ≤ m) : 0 ≤ addI (addI n 20 20000) m 20000 ∧ addI (addI n 20 20000) m 20000 ≤ 20001 ∧ 0 ≤ addI n 20 20000 ∧ addI n 20 20000 ≤ 20001 ∧ (addI (addI n 20 20000) m 20000 ≤ 20000 → n + 20 + m ≤ addI (addI n 20 20000) m 20000) := by
  unfold addI
  omega

theorem ActV.ok.below {w w' : World} {a : ActV} (h : a.ok w) (hb : Below w.heap.size w w') : a.ok w' := by
  refine ⟨h.kind, h.area, h.n, h.keep, ?_⟩
  rcases h.data with h | ⟨x, h1, h2, h3, h4, h5, h6⟩
  · exact .inl h
  · refine .inr ⟨x, h1, h2, h3, h4, fun i hi => ?_, h6⟩
    have := h5 i hi
    exact (hb.cell (World.block_lt_of_cell? w _ this)).trans this
theorem ActsR.below {w w' : World} {A : Option Addr} {xs : List ActV} (h : ActsR w A xs) (hb : Below w.heap.size w w') : ActsR w' A xs := by
  refine ⟨fun i a hi => (h.ok i a hi).below hb, fun i a hi => ?_⟩
  obtain ⟨b, off, h1, h2, h3⟩ := h.cell i a hi
  exact ⟨b, off, h1, Nat.lt_of_lt_of_le h2 hb.size, fun j hj => (hb.cell h2).trans (h3 j hj)⟩

set_option maxRecDepth 100000 in
set_option maxHeartbeats 2000000 in
theorem light_any (A : Option Addr) (c : Nat) (xs : List ActV) (w : World) (h : ActsR w A xs) (hl : xs.length ≤ 9223372036854775807) :
    Calls Try.prog 23 #[.slice A xs.length c] w (LightPost xs w) := by
  obtain ⟨m, hm⟩ : ∃ m, m = xs.length := ⟨_, rfl⟩
  rw [← hm]
  rw [← hm] at hl
  have H := Lib.hid h
  have HM := Lib.hid hm
  clear h hm
  go_enter Try.func23, Try.ntmps23
  go_wp2_with fail
  go_loopw [3, 4] (fun n i wr => ∃ k : Nat, ∃ s : Int, k ≤ m ∧ i = .int .i64 k ∧ n = .int .i64 s ∧ 0 ≤ s ∧ s ≤ 20001 ∧ Below w.heap.size w wr ∧ Hid (s ≤ 20000 → 20 * (k : Int) + (lens (xs.take k) : Int) ≤ s)) (fun _ i _ => m - (intOf i).toNat)
  case atStart => exact ⟨0, 0, Nat.zero_le _, rfl, rfl, by omega, by omega, Below.refl _ _, Lib.hid fun _ => by simp [lens]⟩
  case round =>
    obtain ⟨k, s, hk, rfl, rfl, hs0, hs1, hb, HS⟩ := hrel
    by_cases hlt : k < m
    · by_cases hs : s ≤ 20000
      · obtain ⟨a, ha⟩ : ∃ a, xs[k]? = some a := ⟨_, List.getElem?_eq_getElem (by rw [← HM.out]; exact hlt)⟩
        have H2 := H.out.below hb
        obtain ⟨b, off, rfl, hlb, hc⟩ := H2.cell k a ha
        have hc2 : wr.cell? ⟨b, off + k * 5 + 2, none⟩ = some (.slice a.A a.len a.cap) := hc 2 (by omega)
        have hst := addI_step s (a.len : Int) hs0 hs (by omega)
        obtain ⟨h1, h2, h3, h4, h5⟩ := hst
        obtain ⟨s1, e1⟩ : ∃ s1, s1 = addI s 20 20000 := ⟨_, rfl⟩
        obtain ⟨s2, e2⟩ : ∃ s2, s2 = addI s1 (a.len : Int) 20000 := ⟨_, rfl⟩
        rw [← e1] at h1 h2 h3 h4 h5
        rw [← e2] at h1 h2 h5
        have HA := Lib.hid ha
        have H5 := Lib.hid h5
        have E1 := Lib.hid e1
        have E2 := Lib.hid e2
        clear hc H2 ha h5 e1 e2
        have l1 : (k : Int) < (m : Int) := by omega
        go_wp2_with fail
        refine wp_region_phased (fun W => (∃ n, W = wr.drewN n) ∧ W.cell? ⟨b, off + k * 5 + 2, none⟩ = some (.slice a.A a.len a.cap)) 10 (by kernel_rfl) ⟨⟨1, rfl⟩, hc2⟩ (fun hS => ?_)
        refine wpAnyP_pure (v := ?_) 0 (at_toArray rfl) (by kernel_rfl) (by kernel_rfl) (by kernel_rfl) (fun _ _ _ h => h) (Or.inl ⟨by rfl, fun W => ?_⟩) ?_
        rotate_left 1
        · (go_simp <;> (try go_bits) <;> with_reducible rfl)
        simp only [Act.put, List.setIfInBounds_toArray, List.set_cons_zero, List.set_cons_succ]
        refine wpAnyP_pure (v := ?_) 2 (at_toArray rfl) (by kernel_rfl) (by kernel_rfl) (by kernel_rfl) (fun _ _ _ h => h) (Or.inl ⟨by rfl, fun W => ?_⟩) ?_
        rotate_left 1
        · (go_simp <;> (try go_bits) <;> with_reducible rfl)
        simp only [Act.put, List.setIfInBounds_toArray, List.set_cons_zero, List.set_cons_succ]
        refine wpAnyP_pure (v := ?_) 3 (at_toArray rfl) (by kernel_rfl) (by kernel_rfl) (by kernel_rfl) (fun _ _ _ h => h) (Or.inl ⟨by rfl, fun W => ?_⟩) ?_
        rotate_left 1
        · (go_simp <;> (try go_bits) <;> with_reducible rfl)
        simp only [Act.put, List.setIfInBounds_toArray, List.set_cons_zero, List.set_cons_succ]
        refine wpAnyP_pure (v := ?_) 4 (at_toArray rfl) (by kernel_rfl) (by kernel_rfl) (by kernel_rfl) (fun _ _ _ h => h) (Or.inl ⟨by rfl, fun W => ?_⟩) ?_
        rotate_left 1
        · (go_simp <;> (try go_bits) <;> with_reducible rfl)
        simp only [Act.put, List.setIfInBounds_toArray, List.set_cons_zero, List.set_cons_succ]
        refine wpAnyP_pure (v := ?_) 5 (at_toArray rfl) (by kernel_rfl) (by kernel_rfl) (by kernel_rfl) (fun _ _ _ h => h) (Or.inl ⟨by rfl, fun W => ?_⟩) ?_
        rotate_left 1
        · (go_simp <;> (try go_bits) <;> with_reducible rfl)
        simp only [Act.put, List.setIfInBounds_toArray, List.set_cons_zero, List.set_cons_succ]
        refine wpAnyP_load (v := ?_) 6 (by kernel_rfl) (at_toArray rfl) (by kernel_rfl) (by kernel_rfl) (by kernel_rfl) (fun _ _ _ h => h) (by first | assumption | rfl) (Or.inl ⟨by rfl, fun W hS => ?_⟩) ?_
        rotate_left 1
        · (obtain ⟨_, s1⟩ := hS; go_simp <;> (try go_bits) <;> with_reducible rfl)
        simp only [Act.put, List.setIfInBounds_toArray, List.set_cons_zero, List.set_cons_succ]
        refine wpAnyP_pure (v := ?_) 7 (at_toArray rfl) (by kernel_rfl) (by kernel_rfl) (by kernel_rfl) (fun _ _ _ h => h) (Or.inl ⟨by rfl, fun W => ?_⟩) ?_
        rotate_left 1
        · (go_simp <;> (try go_bits) <;> with_reducible rfl)
        simp only [Act.put, List.setIfInBounds_toArray, List.set_cons_zero, List.set_cons_succ]
        refine wpAnyP_one 1 (at_toArray rfl) (by kernel_rfl) rfl (fun K hK => ?_)
        go_wp2_with fail
        refine (add_is s 20 20000 s1 E1.out _ hs0 (by omega) (by omega) (by omega) (by omega)).mono ?_
        rintro e w' ⟨rfl, n1, rfl⟩
        go_wp2_with fail
        refine hK.out _ _ (fun _ _ => ⟨⟨1 + n1, rfl⟩, hc2⟩) ?_
        clear hK
        refine wpAnyP_one 8 (at_toArray rfl) (by kernel_rfl) rfl (fun K hK => ?_)
        go_wp2_with fail
        refine (add_is s1 (a.len : Int) 20000 s2 E2.out _ h3 (by omega) (by omega) (by omega) (by omega)).mono ?_
        rintro e w' ⟨rfl, n2, rfl⟩
        go_wp2_with fail
        refine hK.out _ _ (fun _ _ => ⟨⟨1 + n1 + n2, rfl⟩, hc2⟩) ?_
        clear hK
        refine wpAnyP_pure (v := ?_) 9 (at_toArray rfl) (by kernel_rfl) (by kernel_rfl) (by kernel_rfl) (fun _ _ _ h => h) (Or.inl ⟨by rfl, fun W => ?_⟩) ?_
        rotate_left 1
        · (go_simp <;> (try go_bits) <;> with_reducible rfl)
        simp only [Act.put, List.setIfInBounds_toArray, List.set_cons_zero, List.set_cons_succ]
        refine wpAnyP_done (by kernel_rfl) ?_ _
        clear hS
        have hb3 : Below w.heap.size w (wr.drewN (1 + n1 + n2)) := hb.trans ⟨rfl, rfl, rfl, Nat.le_refl _, fun _ _ => rfl⟩
        clear hb hc2
        generalize wr.drewN (1 + n1 + n2) = w2 at *
        go_wp2_with fail
        go_roundw
        case rel => exact ⟨k + 1, s2, by omega, by go_num, rfl, h1, h2, hb3, Lib.hid fun h => by
          have h6 := H5.out h
          have h7 := HS.out hs
          rw [lens_take xs k a HA.out]
          omega⟩
        case measure => simp [intOf]; omega
      · go_wp2_with fail
        go_ret
        exact ⟨false, rfl, fun h => (by cases h), hb⟩
    · obtain rfl : k = m := by omega
      by_cases hs : s ≤ 20000
      · have l1 : ¬ (k : Int) < (k : Int) := by omega
        go_wp2_with fail
        go_ret
        refine ⟨true, rfl, fun _ => ?_, hb⟩
        have := HS.out hs
        rw [HM.out, List.take_length] at this
        show 20 * xs.length + lens xs ≤ 20000
        omega
      · go_wp2_with fail
        go_ret
        exact ⟨false, rfl, fun h => (by cases h), hb⟩

end Go.Proofs.Ytnkenkdglcmpdaa
