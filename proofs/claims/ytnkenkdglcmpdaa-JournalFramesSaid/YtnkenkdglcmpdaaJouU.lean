/- The records that Light lets in; the walks of Same and begins. -/
import Derived.Test.YtnkenkdglcmpdaaJouT
import Derived.BigQuiet
namespace Go.Proofs.Ytnkenkdglcmpdaa
set_option linter.unusedVariables false
set_option linter.unusedSimpArgs false
open Go.RowKit

def total (ls : List (List UInt8)) : Nat := (ls.map List.length).sum
theorem isrow_cap {w : World} {A : Option Addr} {len cap : Nat} {zs : List Int} (h : IsRow .u8 w A len cap zs) : len ≤ cap := by
  rcases h with ⟨_, rfl, rfl, _⟩ | ⟨x, h1, h2, _⟩
  · exact Nat.le_refl _
  · exact h2
theorem recs_lists {w : World} {A : Option Addr} {xs : List RecV} (h : RecsR w A xs) (hl : Light8 xs) :
    ∃ ls : List (List UInt8), ls.length = xs.length ∧ RLs w (fun k => w.heap.size ≤ k) A ls ∧ (∀ l ∈ ls, l.length ≤ 8000) ∧ 20 * ls.length + total ls ≤ 8000 := by
  have hex : ∀ i : Nat, ∃ ys : List UInt8, ∀ a, xs[i]? = some a → ys.length = a.len ∧ RB w a.A ys := fun i => by
    match hx : xs[i]? with
    | none => exact ⟨[], fun a ha => by cases ha⟩
    | some a =>
      obtain ⟨ys, h1, h2⟩ := (h.ok i a hx).bytes (by have := hl.at i a hx; omega)
      exact ⟨ys, fun b hb => by cases hb; exact ⟨h1, h2⟩⟩
  obtain ⟨f, hf⟩ : ∃ f : Nat → List UInt8, ∀ i a, xs[i]? = some a → (f i).length = a.len ∧ RB w a.A (f i) := ⟨fun i => Classical.choose (hex i), fun i => Classical.choose_spec (hex i)⟩
  have hget : ∀ i l, ((List.range xs.length).map f)[i]? = some l → ∃ a, xs[i]? = some a ∧ l = f i := fun i l hi => by
    simp only [List.getElem?_map, Option.map_eq_some_iff, List.getElem?_range] at hi
    obtain ⟨j, hj, rfl⟩ := hi
    by_cases hil : i < xs.length
    · simp [hil] at hj; subst hj; exact ⟨_, List.getElem?_eq_getElem hil, rfl⟩
    · simp [hil] at hj
  have hsum : ((List.range xs.length).map f).map List.length = xs.map RecV.len := by
    apply List.ext_getElem?
    intro i
    rcases Nat.lt_or_ge i xs.length with hi | hi
    · have e1 : xs[i]? = some xs[i] := List.getElem?_eq_getElem hi
      have e2 : ((List.range xs.length).map f)[i]? = some (f i) := by simp [hi]
      rw [List.getElem?_map, e2, List.getElem?_map, e1]
      simp only [Option.map_some, Option.some.injEq]
      exact (hf i _ e1).1
    · rw [List.getElem?_eq_none (by simpa using hi), List.getElem?_eq_none (by simpa using hi)]
  refine ⟨(List.range xs.length).map f, by simp, fun j l hj => ?_, fun l hlm => ?_, ?_⟩
  · obtain ⟨a, ha, rfl⟩ := hget j l hj
    obtain ⟨b, off, h1, h2, h3⟩ := h.cell j a ha
    obtain ⟨h4, h5⟩ := hf j a ha
    refine ⟨b, off, _, h1, h2, by omega, h3, a.A, a.cap, by rw [h4], by rw [h4]; exact isrow_cap (h.ok j a ha), h5, fun x hx h0 => ⟨Nat.zero_le _, ?_⟩⟩
    have := rb_lt h5 x hx h0
    omega
  · obtain ⟨i, hi⟩ := List.mem_iff_getElem?.1 hlm
    obtain ⟨a, ha, rfl⟩ := hget i l hi
    rw [(hf i a ha).1]
    exact hl.at i a ha
  · unfold total
    rw [hsum]
    have := hl
    unfold Light8 rlens at this
    simpa using this
theorem RLs.old {B : Nat} {w w' : World} {A : Option Addr} {ls : List (List UInt8)} (h : RLs w (fun k => B ≤ k) A ls) (hb : Below B w w') : RLs w' (fun k => B ≤ k) A ls :=
  h.upd ⟨⟨hb.os, hb.tape, hb.output, hb.size, fun k _ hk => hb.block k (by omega)⟩, fun k hk => .inl hk⟩
theorem RLs.at {w : World} {X : Nat → Prop} {A : Option Addr} {ls : List (List UInt8)} (h : RLs w X A ls) (k : Nat) (l : List UInt8) (hk : ls[k]? = some l) :
    ∃ b off A1 n, A = some ⟨b, off, none⟩ ∧ w.cell? ⟨b, off + k, none⟩ = some (.slice A1 l.length n) ∧ RB w A1 l := by
  obtain ⟨b, off, c, hA, hb, hX, hc, A1, n, rfl, e2, e3, e4⟩ := h k l hk
  exact ⟨b, off, A1, n, hA, hc, e3⟩
theorem strB_ne (x y : List UInt8) : (strB x = strB y) ↔ x = y := ⟨fun h => by have := congrArg (fun s => s.data.toList) h; simpa [strB] using this, fun h => by rw [h]⟩
set_option maxRecDepth 100000 in
set_option maxHeartbeats 2000000 in
theorem same16_any (A B : Option Addr) (c d : Nat) (ls ms : List (List UInt8)) (X Y : Nat → Prop) (w : World) (h1 : RLs w X A ls) (h2 : RLs w Y B ms) (hl : ls.length ≤ 2000000000) :
    Calls Try.prog 44 #[.slice A ls.length c, .slice B ms.length d] w fun e w' => e = .returned (.bool (decide (ls = ms))) ∧ Below w.heap.size w w' := by
  obtain ⟨r, hr⟩ : ∃ r, r = decide (ls = ms) := ⟨_, rfl⟩
  rw [← hr]
  obtain ⟨N, hN⟩ : ∃ N, N = ls.length := ⟨_, rfl⟩
  obtain ⟨M, hM⟩ : ∃ M, M = ms.length := ⟨_, rfl⟩
  rw [← hN] at hl
  rw [← hN, ← hM]
  have HR := Lib.hid hr
  have HN := Lib.hid hN
  have HM := Lib.hid hM
  have H1 := Lib.hid h1
  have H2 := Lib.hid h2
  clear hr hN hM h1 h2
  go_enter Try.func44, Try.ntmps44
  by_cases hNM : N = M
  · subst hNM
    go_wp2_with fail
    go_loopw [5] (fun i wr => ∃ k : Nat, k ≤ N ∧ i = .int .i64 (k : Int) ∧ Hid (ls.take k = ms.take k) ∧ Hid (Below w.heap.size w wr)) (fun i _ => N - (intOf i).toNat)
    case atStart => exact ⟨0, Nat.zero_le _, rfl, Lib.hid rfl, Lib.hid (Below.refl _ _)⟩
    case round =>
      obtain ⟨k, hk, rfl, HQ, HB⟩ := hrel
      by_cases hlt : k < N
      · obtain ⟨l, hl1⟩ : ∃ l, ls[k]? = some l := ⟨_, List.getElem?_eq_getElem (by rw [← HN.out]; exact hlt)⟩
        obtain ⟨m, hm1⟩ : ∃ m, ms[k]? = some m := ⟨_, List.getElem?_eq_getElem (by rw [← HM.out]; exact hlt)⟩
        obtain ⟨b1, o1, A1, n1, rfl, c1, r1⟩ := (H1.out.upd (Upd.of_below HB.out)).at k l hl1
        obtain ⟨b2, o2, A2, n2, rfl, c2, r2⟩ := (H2.out.upd (Upd.of_below HB.out)).at k m hm1
        have s1 := fun q => run_str (r1.below (show Below wr.heap.size wr (wr.drewN q) from ⟨rfl, rfl, rfl, Nat.le_refl _, fun _ _ => rfl⟩)) l.length n1 rfl
        have s2 := fun q => run_str (r2.below (show Below wr.heap.size wr (wr.drewN q) from ⟨rfl, rfl, rfl, Nat.le_refl _, fun _ _ => rfl⟩)) m.length n2 rfl
        obtain ⟨x, hx⟩ : ∃ x, x = l.length := ⟨_, rfl⟩
        obtain ⟨y, hy⟩ : ∃ y, y = m.length := ⟨_, rfl⟩
        obtain ⟨sl, hsl⟩ : ∃ s, s = strB l := ⟨_, rfl⟩
        obtain ⟨sm, hsm⟩ : ∃ s, s = strB m := ⟨_, rfl⟩
        rw [← hx] at c1
        rw [← hy] at c2
        simp only [← hx, ← hsl] at s1
        simp only [← hy, ← hsm] at s2
        have HC1 := Lib.hid s1
        have HC2 := Lib.hid s2
        clear s1 s2
        have l1 : (k : Int) < (N : Int) := by omega
        have HL1 := Lib.hid hl1
        have HM1 := Lib.hid hm1
        have HSL := Lib.hid hsl
        have HSM := Lib.hid hsm
        clear hl1 hm1 r1 r2 hx hy hsl hsm
        by_cases heq : sl = sm
        · subst heq
          go_wp2_with fail
          refine wp_region_phased (fun W => (∃ n, W = wr.drewN n) ∧ W.cell? ⟨b1, o1 + k, none⟩ = some (.slice A1 x n1) ∧ W.cell? ⟨b2, o2 + k, none⟩ = some (.slice A2 y n2)) 11 (by kernel_rfl) ⟨⟨1, rfl⟩, c1, c2⟩ (fun hS => ?_)
          refine wpAnyP_pure (v := ?_) 0 (at_toArray rfl) (by kernel_rfl) (by kernel_rfl) (by kernel_rfl) (fun _ _ _ h => h) (Or.inl ⟨by rfl, fun W => ?_⟩) ?_
          rotate_left 1
          · (go_simp <;> (try go_bits) <;> with_reducible rfl)
          simp only [Act.put, List.setIfInBounds_toArray, List.set_cons_zero, List.set_cons_succ]
          refine wpAnyP_pure (v := ?_) 1 (at_toArray rfl) (by kernel_rfl) (by kernel_rfl) (by kernel_rfl) (fun _ _ _ h => h) (Or.inl ⟨by rfl, fun W => ?_⟩) ?_
          rotate_left 1
          · (go_simp <;> (try go_bits) <;> with_reducible rfl)
          simp only [Act.put, List.setIfInBounds_toArray, List.set_cons_zero, List.set_cons_succ]
          refine wpAnyP_pure (v := ?_) 2 (at_toArray rfl) (by kernel_rfl) (by kernel_rfl) (by kernel_rfl) (fun _ _ _ h => h) (Or.inl ⟨by rfl, fun W => ?_⟩) ?_
          rotate_left 1
          · (go_simp <;> (try go_bits) <;> with_reducible rfl)
          simp only [Act.put, List.setIfInBounds_toArray, List.set_cons_zero, List.set_cons_succ]
          refine wpAnyP_load (v := ?_) 3 (by kernel_rfl) (at_toArray rfl) (by kernel_rfl) (by kernel_rfl) (by kernel_rfl) (fun _ _ _ h => h) (by first | assumption | rfl) (Or.inl ⟨by rfl, fun W hS => ?_⟩) ?_
          rotate_left 1
          · (obtain ⟨_, _, _⟩ := hS; go_simp <;> (try go_bits) <;> with_reducible rfl)
          simp only [Act.put, List.setIfInBounds_toArray, List.set_cons_zero, List.set_cons_succ]
          refine wpAnyP_load (v := ?_) 4 (by kernel_rfl) (at_toArray rfl) (by kernel_rfl) (by kernel_rfl) (by kernel_rfl) (fun _ _ _ h => h) (by first | assumption | rfl) (Or.inl ⟨by rfl, fun W hS => ?_⟩) ?_
          rotate_left 1
          · (obtain ⟨⟨n, rfl⟩, _⟩ := hS; have hc := HC1.out n; go_simp <;> (try go_bits) <;> with_reducible rfl)
          simp only [Act.put, List.setIfInBounds_toArray, List.set_cons_zero, List.set_cons_succ]
          refine wpAnyP_pure (v := ?_) 5 (at_toArray rfl) (by kernel_rfl) (by kernel_rfl) (by kernel_rfl) (fun _ _ _ h => h) (Or.inl ⟨by rfl, fun W => ?_⟩) ?_
          rotate_left 1
          · (go_simp <;> (try go_bits) <;> with_reducible rfl)
          simp only [Act.put, List.setIfInBounds_toArray, List.set_cons_zero, List.set_cons_succ]
          refine wpAnyP_pure (v := ?_) 6 (at_toArray rfl) (by kernel_rfl) (by kernel_rfl) (by kernel_rfl) (fun _ _ _ h => h) (Or.inl ⟨by rfl, fun W => ?_⟩) ?_
          rotate_left 1
          · (go_simp <;> (try go_bits) <;> with_reducible rfl)
          simp only [Act.put, List.setIfInBounds_toArray, List.set_cons_zero, List.set_cons_succ]
          refine wpAnyP_pure (v := ?_) 7 (at_toArray rfl) (by kernel_rfl) (by kernel_rfl) (by kernel_rfl) (fun _ _ _ h => h) (Or.inl ⟨by rfl, fun W => ?_⟩) ?_
          rotate_left 1
          · (go_simp <;> (try go_bits) <;> with_reducible rfl)
          simp only [Act.put, List.setIfInBounds_toArray, List.set_cons_zero, List.set_cons_succ]
          refine wpAnyP_load (v := ?_) 8 (by kernel_rfl) (at_toArray rfl) (by kernel_rfl) (by kernel_rfl) (by kernel_rfl) (fun _ _ _ h => h) (by first | assumption | rfl) (Or.inl ⟨by rfl, fun W hS => ?_⟩) ?_
          rotate_left 1
          · (obtain ⟨_, _, _⟩ := hS; go_simp <;> (try go_bits) <;> with_reducible rfl)
          simp only [Act.put, List.setIfInBounds_toArray, List.set_cons_zero, List.set_cons_succ]
          refine wpAnyP_load (v := ?_) 9 (by kernel_rfl) (at_toArray rfl) (by kernel_rfl) (by kernel_rfl) (by kernel_rfl) (fun _ _ _ h => h) (by first | assumption | rfl) (Or.inl ⟨by rfl, fun W hS => ?_⟩) ?_
          rotate_left 1
          · (obtain ⟨⟨n, rfl⟩, _⟩ := hS; have hc := HC2.out n; go_simp <;> (try go_bits) <;> with_reducible rfl)
          simp only [Act.put, List.setIfInBounds_toArray, List.set_cons_zero, List.set_cons_succ]
          refine wpAnyP_pure (v := ?_) 10 (at_toArray rfl) (by kernel_rfl) (by kernel_rfl) (by kernel_rfl) (fun _ _ _ h => h) (Or.inl ⟨by rfl, fun W => ?_⟩) ?_
          rotate_left 1
          · (go_simp <;> (try go_bits) <;> with_reducible rfl)
          simp only [Act.put, List.setIfInBounds_toArray, List.set_cons_zero, List.set_cons_succ]
          refine wpAnyP_done (by kernel_rfl) ?_ _
          go_wp2_with fail
          go_roundw
          case rel =>
            have e1 : l = m := (strB_ne l m).1 (HSL.out.symm.trans HSM.out)
            refine ⟨k + 1, hlt, by go_num, Lib.hid ?_, Lib.hid (HB.out.trans (Below.up (Below.refl _ _).drew HB.out.size))⟩
            rw [take_snoc ls k l HL1.out, take_snoc ms k m HM1.out, HQ.out, e1]
          case measure => simp [intOf]; omega
        · have e1 : l ≠ m := fun h => heq (by rw [HSL.out, HSM.out, h])
          have e2 : ls ≠ ms := fun h => e1 (by have := HL1.out; rw [h, HM1.out] at this; cases this; rfl)
          have hr := HR.out
          rw [decide_eq_false e2] at hr
          subst hr
          have hne : (sl.toList == sm.toList) = false := by
            rw [ByteArray.toList_eq, ByteArray.toList_eq, HSL.out, HSM.out]
            simp [strB, e1]
          go_wp2_with fail
          refine wp_region_phased (fun W => (∃ n, W = wr.drewN n) ∧ W.cell? ⟨b1, o1 + k, none⟩ = some (.slice A1 x n1) ∧ W.cell? ⟨b2, o2 + k, none⟩ = some (.slice A2 y n2)) 11 (by kernel_rfl) ⟨⟨1, rfl⟩, c1, c2⟩ (fun hS => ?_)
          refine wpAnyP_pure (v := ?_) 0 (at_toArray rfl) (by kernel_rfl) (by kernel_rfl) (by kernel_rfl) (fun _ _ _ h => h) (Or.inl ⟨by rfl, fun W => ?_⟩) ?_
          rotate_left 1
          · (go_simp <;> (try go_bits) <;> with_reducible rfl)
          simp only [Act.put, List.setIfInBounds_toArray, List.set_cons_zero, List.set_cons_succ]
          refine wpAnyP_pure (v := ?_) 1 (at_toArray rfl) (by kernel_rfl) (by kernel_rfl) (by kernel_rfl) (fun _ _ _ h => h) (Or.inl ⟨by rfl, fun W => ?_⟩) ?_
          rotate_left 1
          · (go_simp <;> (try go_bits) <;> with_reducible rfl)
          simp only [Act.put, List.setIfInBounds_toArray, List.set_cons_zero, List.set_cons_succ]
          refine wpAnyP_pure (v := ?_) 2 (at_toArray rfl) (by kernel_rfl) (by kernel_rfl) (by kernel_rfl) (fun _ _ _ h => h) (Or.inl ⟨by rfl, fun W => ?_⟩) ?_
          rotate_left 1
          · (go_simp <;> (try go_bits) <;> with_reducible rfl)
          simp only [Act.put, List.setIfInBounds_toArray, List.set_cons_zero, List.set_cons_succ]
          refine wpAnyP_load (v := ?_) 3 (by kernel_rfl) (at_toArray rfl) (by kernel_rfl) (by kernel_rfl) (by kernel_rfl) (fun _ _ _ h => h) (by first | assumption | rfl) (Or.inl ⟨by rfl, fun W hS => ?_⟩) ?_
          rotate_left 1
          · (obtain ⟨_, _, _⟩ := hS; go_simp <;> (try go_bits) <;> with_reducible rfl)
          simp only [Act.put, List.setIfInBounds_toArray, List.set_cons_zero, List.set_cons_succ]
          refine wpAnyP_load (v := ?_) 4 (by kernel_rfl) (at_toArray rfl) (by kernel_rfl) (by kernel_rfl) (by kernel_rfl) (fun _ _ _ h => h) (by first | assumption | rfl) (Or.inl ⟨by rfl, fun W hS => ?_⟩) ?_
          rotate_left 1
          · (obtain ⟨⟨n, rfl⟩, _⟩ := hS; have hc := HC1.out n; go_simp <;> (try go_bits) <;> with_reducible rfl)
          simp only [Act.put, List.setIfInBounds_toArray, List.set_cons_zero, List.set_cons_succ]
          refine wpAnyP_pure (v := ?_) 5 (at_toArray rfl) (by kernel_rfl) (by kernel_rfl) (by kernel_rfl) (fun _ _ _ h => h) (Or.inl ⟨by rfl, fun W => ?_⟩) ?_
          rotate_left 1
          · (go_simp <;> (try go_bits) <;> with_reducible rfl)
          simp only [Act.put, List.setIfInBounds_toArray, List.set_cons_zero, List.set_cons_succ]
          refine wpAnyP_pure (v := ?_) 6 (at_toArray rfl) (by kernel_rfl) (by kernel_rfl) (by kernel_rfl) (fun _ _ _ h => h) (Or.inl ⟨by rfl, fun W => ?_⟩) ?_
          rotate_left 1
          · (go_simp <;> (try go_bits) <;> with_reducible rfl)
          simp only [Act.put, List.setIfInBounds_toArray, List.set_cons_zero, List.set_cons_succ]
          refine wpAnyP_pure (v := ?_) 7 (at_toArray rfl) (by kernel_rfl) (by kernel_rfl) (by kernel_rfl) (fun _ _ _ h => h) (Or.inl ⟨by rfl, fun W => ?_⟩) ?_
          rotate_left 1
          · (go_simp <;> (try go_bits) <;> with_reducible rfl)
          simp only [Act.put, List.setIfInBounds_toArray, List.set_cons_zero, List.set_cons_succ]
          refine wpAnyP_load (v := ?_) 8 (by kernel_rfl) (at_toArray rfl) (by kernel_rfl) (by kernel_rfl) (by kernel_rfl) (fun _ _ _ h => h) (by first | assumption | rfl) (Or.inl ⟨by rfl, fun W hS => ?_⟩) ?_
          rotate_left 1
          · (obtain ⟨_, _, _⟩ := hS; go_simp <;> (try go_bits) <;> with_reducible rfl)
          simp only [Act.put, List.setIfInBounds_toArray, List.set_cons_zero, List.set_cons_succ]
          refine wpAnyP_load (v := ?_) 9 (by kernel_rfl) (at_toArray rfl) (by kernel_rfl) (by kernel_rfl) (by kernel_rfl) (fun _ _ _ h => h) (by first | assumption | rfl) (Or.inl ⟨by rfl, fun W hS => ?_⟩) ?_
          rotate_left 1
          · (obtain ⟨⟨n, rfl⟩, _⟩ := hS; have hc := HC2.out n; go_simp <;> (try go_bits) <;> with_reducible rfl)
          simp only [Act.put, List.setIfInBounds_toArray, List.set_cons_zero, List.set_cons_succ]
          refine wpAnyP_pure (v := ?_) 10 (at_toArray rfl) (by kernel_rfl) (by kernel_rfl) (by kernel_rfl) (fun _ _ _ h => h) (Or.inl ⟨by rfl, fun W => ?_⟩) ?_
          rotate_left 1
          · (go_simp <;> (try go_bits) <;> with_reducible rfl)
          simp only [Act.put, List.setIfInBounds_toArray, List.set_cons_zero, List.set_cons_succ]
          refine wpAnyP_done (by kernel_rfl) ?_ _
          go_wp2_with fail
          go_ret
          exact ⟨rfl, HB.out.trans (Below.up (Below.refl _ _).drew HB.out.size)⟩
      · have hkN : k = N := by omega
        subst hkN
        have e1 := HQ.out
        rw [HN.out, List.take_length, ← HN.out, HM.out, List.take_length] at e1
        have hr := HR.out
        rw [decide_eq_true e1] at hr
        subst hr
        go_wp2_with fail
        go_ret
        exact ⟨rfl, HB.out⟩
  · have e1 : ls ≠ ms := fun h => hNM (by rw [HN.out, HM.out, h])
    have hr := HR.out
    rw [decide_eq_false e1] at hr
    subst hr
    have hnm : ((N : Int) == (M : Int)) = false := by simp; omega
    go_wp2_with fail
    go_ret
    exact ⟨rfl, Below.refl _ _⟩

end Go.Proofs.Ytnkenkdglcmpdaa
