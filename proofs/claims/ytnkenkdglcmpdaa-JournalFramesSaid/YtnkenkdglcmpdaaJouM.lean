/- The walks of the journal's methods: Append, left, Bytes, Sure. -/
import Derived.Test.YtnkenkdglcmpdaaJouL
namespace Go.Proofs.Ytnkenkdglcmpdaa
set_option linter.unusedVariables false
set_option linter.unusedSimpArgs false
open Go.RowKit

variable {w : World} {jb tb : Nat} {J : JS} {T : TS} {F : Nat → Prop}
theorem frame_n (B : Nat) (k : UInt8) (A : Option Addr) (c n : Nat) (xs : List UInt8) (w : World) (hn : xs.length = n) (hB : B ≤ w.heap.size) (hr : RB w A xs) (hy : xs.length ≤ 1000000000) :
    Calls Try.prog 53 #[.int .u8 (k.toNat : Int), .slice A n c] w fun e w' => ∃ A1 c1, e = .returned (.slice A1 (frameB k xs).length c1) ∧ RB w' A1 (frameB k xs) ∧ (∀ a, A1 = some a → B ≤ a.block) ∧ Below B w w' := by
  subst hn
  refine (frame_any B k A c xs w hB hr hy).mono ?_
  rintro e w' ⟨v, rfl, hv, hb⟩
  have hl : (frameB k xs).length ≤ 140737488355328 := by
    have := nbytes_small (n := xs.length) (by omega)
    rw [frameB_len]; omega
  obtain ⟨A1, c1, rfl, hr1, _, hA⟩ := hv.1.reads' hl
  exact ⟨A1, c1, rfl, hr1, fun a ha => hv.2 _ (hA a ha), hb⟩
set_option maxRecDepth 100000 in
set_option maxHeartbeats 2000000 in
theorem jappend_any (A : Option Addr) (c : Nat) (xs : List UInt8) (h : JR w jb tb J T F) (hx : RB w A xs) :
    Calls Try.prog 43 #[.pointer (some ⟨jb, 0, none⟩), .slice A xs.length c] w (DoesJ w jb tb F (J.append T xs)) := by
  obtain ⟨r, hr⟩ : ∃ r, r = J.append T xs := ⟨_, rfl⟩
  rw [← hr]
  unfold JS.append at hr
  obtain ⟨n, hn⟩ : ∃ n, n = xs.length := ⟨_, rfl⟩
  rw [← hn] at hr ⊢
  have HR := Lib.hid hr
  have HN := Lib.hid hn
  have hnb : n ≤ 140737488355328 := by rw [hn]; exact hx.1
  clear hr hn
  go_enter Try.func43, Try.ntmps43
  go_wp2_with fail
  refine (jfault_any h).mono ?_
  rintro e w1 ⟨rfl, hb⟩
  have h1 := h.below hb
  have hx1 := hx.below hb
  have HB := Lib.hid hb
  obtain ⟨v, hv⟩ : ∃ v, v = J.fault T := ⟨_, rfl⟩
  have hr := HR.out
  rw [← hv] at hr ⊢
  clear hv hb h HR hx
  by_cases h0 : v = 0
  · subst h0
    rw [if_neg (by simp)] at hr
    by_cases hl : 4194304 < n
    · rw [if_pos hl] at hr
      subst hr
      go_wp2_with fail
      go_ret
      exact ⟨rfl, F, h1, Upd.of_below HB.out⟩
    · rw [if_neg hl] at hr
      have HR := Lib.hid hr
      clear hr
      go_wp2_with fail
      refine (frame_n w1.heap.size 68 A c n xs w1 HN.out.symm (Nat.le_refl _) hx1 (by rw [← HN.out]; omega)).mono ?_
      rintro e w2 ⟨A1, c1, rfl, hf, hA1, hb2⟩
      have h2 := h1.below hb2
      have HF := Lib.hid hf
      have HB2 := Lib.hid (HB.out.trans (Below.up hb2 HB.out.size))
      have HA : Hid (∀ a, A1 = some a → 0 < (frameB 68 xs).length → ¬ F a.block) := Lib.hid fun a ha h0 hF => by
        have e1 := hA1 a ha
        obtain ⟨_, _, _, t⟩ := h1.tape
        have := t.flt _ hF
        omega
      have hfl : (frameB 68 xs).length ≤ 1000000000 := by
        have := nbytes_small (n := xs.length) (by rw [← HN.out]; omega)
        rw [frameB_len, ← HN.out]; rw [← HN.out] at this; omega
      obtain ⟨m, hm⟩ : ∃ m, m = (frameB 68 xs).length := ⟨_, rfl⟩
      have hr := HR.out
      rw [← hm] at hr hfl ⊢
      have HM := Lib.hid hm
      have HR := Lib.hid hr
      clear hr hm hb2 hf hA1 h1 hx1
      have c0 := h2.c0
      have c1' := h2.c1
      go_wp2_with fail
      refine wp_region_phased (fun W => W.cell? ⟨jb, 0, none⟩ = some (.pointer (some ⟨tb, 0, none⟩)) ∧ W.cell? ⟨jb, 1, none⟩ = some (.int .i64 J.area)) 11 (by kernel_rfl) ⟨c0, c1'⟩ (fun hS => ?_)
      have h2 := h2.below (Below.refl _ _).drew
      refine wpAnyP_pure (v := ?_) 0 (at_toArray rfl) (by kernel_rfl) (by kernel_rfl) (by kernel_rfl) (fun _ _ _ h => h) (Or.inl ⟨by rfl, fun W => ?_⟩) ?_
      rotate_left 1
      · (go_simp <;> (try go_bits) <;> with_reducible rfl)
      simp only [Act.put, List.setIfInBounds_toArray, List.set_cons_zero, List.set_cons_succ]
      refine wpAnyP_pure (v := ?_) 1 (at_toArray rfl) (by kernel_rfl) (by kernel_rfl) (by kernel_rfl) (fun _ _ _ h => h) (Or.inl ⟨by rfl, fun W => ?_⟩) ?_
      rotate_left 1
      · (go_simp <;> (try go_bits) <;> with_reducible rfl)
      simp only [Act.put, List.setIfInBounds_toArray, List.set_cons_zero, List.set_cons_succ]
      refine wpAnyP_pure (v := ?_) 2 (at_toArray rfl) (by kernel_rfl) (by kernel_rfl) (by kernel_rfl) (fun _ _ _ h => h) (Or.inl ⟨by rfl, fun W => ?_⟩) ?_
      rotate_left 1
      · (go_simp <;> (try go_bits) <;> with_reducible rfl)
      simp only [Act.put, List.setIfInBounds_toArray, List.set_cons_zero, List.set_cons_succ]
      refine wpAnyP_load (v := ?_) 3 (by kernel_rfl) (at_toArray rfl) (by kernel_rfl) (by kernel_rfl) (by kernel_rfl) (fun _ _ _ h => h) (by first | assumption | rfl) (Or.inl ⟨by rfl, fun W hS => ?_⟩) ?_
      rotate_left 1
      · (obtain ⟨_, _⟩ := hS; go_simp <;> (try go_bits) <;> with_reducible rfl)
      simp only [Act.put, List.setIfInBounds_toArray, List.set_cons_zero, List.set_cons_succ]
      refine wpAnyP_pure (v := ?_) 4 (at_toArray rfl) (by kernel_rfl) (by kernel_rfl) (by kernel_rfl) (fun _ _ _ h => h) (Or.inl ⟨by rfl, fun W => ?_⟩) ?_
      rotate_left 1
      · (go_simp <;> (try go_bits) <;> with_reducible rfl)
      simp only [Act.put, List.setIfInBounds_toArray, List.set_cons_zero, List.set_cons_succ]
      refine wpAnyP_pure (v := ?_) 5 (at_toArray rfl) (by kernel_rfl) (by kernel_rfl) (by kernel_rfl) (fun _ _ _ h => h) (Or.inl ⟨by rfl, fun W => ?_⟩) ?_
      rotate_left 1
      · (go_simp <;> (try go_bits) <;> with_reducible rfl)
      simp only [Act.put, List.setIfInBounds_toArray, List.set_cons_zero, List.set_cons_succ]
      refine wpAnyP_pure (v := ?_) 6 (at_toArray rfl) (by kernel_rfl) (by kernel_rfl) (by kernel_rfl) (fun _ _ _ h => h) (Or.inl ⟨by rfl, fun W => ?_⟩) ?_
      rotate_left 1
      · (go_simp <;> (try go_bits) <;> with_reducible rfl)
      simp only [Act.put, List.setIfInBounds_toArray, List.set_cons_zero, List.set_cons_succ]
      refine wpAnyP_load (v := ?_) 7 (by kernel_rfl) (at_toArray rfl) (by kernel_rfl) (by kernel_rfl) (by kernel_rfl) (fun _ _ _ h => h) (by first | assumption | rfl) (Or.inl ⟨by rfl, fun W hS => ?_⟩) ?_
      rotate_left 1
      · (obtain ⟨_, _⟩ := hS; go_simp <;> (try go_bits) <;> with_reducible rfl)
      simp only [Act.put, List.setIfInBounds_toArray, List.set_cons_zero, List.set_cons_succ]
      refine wpAnyP_pure (v := ?_) 8 (at_toArray rfl) (by kernel_rfl) (by kernel_rfl) (by kernel_rfl) (fun _ _ _ h => h) (Or.inl ⟨by rfl, fun W => ?_⟩) ?_
      rotate_left 1
      · (go_simp <;> (try go_bits) <;> with_reducible rfl)
      simp only [Act.put, List.setIfInBounds_toArray, List.set_cons_zero, List.set_cons_succ]
      refine wpAnyP_one 9 (at_toArray rfl) (by kernel_rfl) rfl (fun K hK => ?_)
      go_wp2_with fail
      rw [HM.out]
      refine (append_any tb J.area A1 c1 (frameB 68 xs) T F _ h2.tape (HF.out.below (Below.refl _ _).drew) HA.out).mono ?_
      rw [← HM.out]
      obtain ⟨⟨p, T'⟩, hp⟩ : ∃ p, p = T.append J.area (frameB 68 xs) := ⟨_, rfl⟩
      have hr := HR.out
      rw [← hp] at hr ⊢
      rintro e w3 ⟨rfl, F', ht, hu⟩
      obtain ⟨hj, hu'⟩ := h2.upd ht hu
      have HJ := Lib.hid hj
      have HU := Lib.hid (Upd.trans (Upd.of_below (HB2.out.trans (Below.up (Below.refl _ _).drew HB2.out.size))) hu')
      have d0 := hj.c0
      have d3 := hj.c3
      have e3 := hj.blk.free 3
      have HR := Lib.hid hr
      clear ht hu hu' hj hr hp
      go_wp2_with fail
      refine hK.out _ _ (fun _ _ => ⟨HJ.out.c0, HJ.out.c1⟩) ?_
      clear hK
      refine wpAnyP_pure (v := ?_) 10 (at_toArray rfl) (by kernel_rfl) (by kernel_rfl) (by kernel_rfl) (fun _ _ _ h => h) (Or.inl ⟨by rfl, fun W => ?_⟩) ?_
      rotate_left 1
      · (go_simp <;> (try go_bits) <;> with_reducible rfl)
      simp only [Act.put, List.setIfInBounds_toArray, List.set_cons_zero, List.set_cons_succ]
      refine wpAnyP_done (by kernel_rfl) ?_ _
      by_cases hp0 : p = 0
      · subst hp0
        have hr := HR.out
        rw [if_pos rfl] at hr
        subst hr
        go_wp2_with fail
        go_ret
        obtain ⟨k1, k2⟩ := HJ.out.set (J' := { J with bytes := wrap64 (J.bytes + (m : Int)) }) 3 (.int .i64 (wrap64 (J.bytes + (m : Int)))) rfl
        exact ⟨rfl, F', k1, HU.out.trans k2⟩
      · have hr := HR.out
        rw [if_neg hp0] at hr
        subst hr
        have hp0' : (p == 0) = false := by simp [hp0]
        go_wp2_with fail
        go_ret
        exact ⟨rfl, F', HJ.out, HU.out⟩
  · rw [if_pos h0] at hr
    subst hr
    have h0' : (v == 0) = false := by simp [h0]
    go_wp2_with fail
    go_ret
    exact ⟨rfl, F, h1, Upd.of_below HB.out⟩

def JS.left (J : JS) (T : TS) : Int := if faultN T.off J.area ≠ 0 then T.sure J.area else ((T.read J.area).length : Int)
def JS.len (J : JS) (T : TS) : Int := if J.fault T = 0 then J.bytes else J.left T
set_option maxHeartbeats 1000000 in
theorem jleft_any (h : JR w jb tb J T F) : Calls Try.prog 80 #[.pointer (some ⟨jb, 0, none⟩)] w fun e w' => e = .returned (.int .i64 (J.left T)) ∧ Below w.heap.size w w' := by
  obtain ⟨r, hr⟩ : ∃ r, r = J.left T := ⟨_, rfl⟩
  rw [← hr]
  unfold JS.left at hr
  have HR := Lib.hid hr
  clear hr
  have c0 := h.c0
  have c1 := h.c1
  go_enter Try.func80, Try.ntmps80
  go_wp2_with fail
  refine wp_region_phased (fun W => W.cell? ⟨jb, 0, none⟩ = some (.pointer (some ⟨tb, 0, none⟩)) ∧ W.cell? ⟨jb, 1, none⟩ = some (.int .i64 J.area)) 14 (by kernel_rfl) ⟨c0, c1⟩ (fun hS => ?_)
  have h2 := h.below (Below.refl _ _).drew
  refine wpAnyP_pure (v := ?_) 0 (at_toArray rfl) (by kernel_rfl) (by kernel_rfl) (by kernel_rfl) (fun _ _ _ h => h) (Or.inl ⟨by rfl, fun W => ?_⟩) ?_
  rotate_left 1
  · (go_simp <;> (try go_bits) <;> with_reducible rfl)
  simp only [Act.put, List.setIfInBounds_toArray, List.set_cons_zero, List.set_cons_succ]
  refine wpAnyP_pure (v := ?_) 1 (at_toArray rfl) (by kernel_rfl) (by kernel_rfl) (by kernel_rfl) (fun _ _ _ h => h) (Or.inl ⟨by rfl, fun W => ?_⟩) ?_
  rotate_left 1
  · (go_simp <;> (try go_bits) <;> with_reducible rfl)
  simp only [Act.put, List.setIfInBounds_toArray, List.set_cons_zero, List.set_cons_succ]
  refine wpAnyP_pure (v := ?_) 2 (at_toArray rfl) (by kernel_rfl) (by kernel_rfl) (by kernel_rfl) (fun _ _ _ h => h) (Or.inl ⟨by rfl, fun W => ?_⟩) ?_
  rotate_left 1
  · (go_simp <;> (try go_bits) <;> with_reducible rfl)
  simp only [Act.put, List.setIfInBounds_toArray, List.set_cons_zero, List.set_cons_succ]
  refine wpAnyP_load (v := ?_) 3 (by kernel_rfl) (at_toArray rfl) (by kernel_rfl) (by kernel_rfl) (by kernel_rfl) (fun _ _ _ h => h) (by first | assumption | rfl) (Or.inl ⟨by rfl, fun W hS => ?_⟩) ?_
  rotate_left 1
  · (obtain ⟨_, _⟩ := hS; go_simp <;> (try go_bits) <;> with_reducible rfl)
  simp only [Act.put, List.setIfInBounds_toArray, List.set_cons_zero, List.set_cons_succ]
  refine wpAnyP_pure (v := ?_) 4 (at_toArray rfl) (by kernel_rfl) (by kernel_rfl) (by kernel_rfl) (fun _ _ _ h => h) (Or.inl ⟨by rfl, fun W => ?_⟩) ?_
  rotate_left 1
  · (go_simp <;> (try go_bits) <;> with_reducible rfl)
  simp only [Act.put, List.setIfInBounds_toArray, List.set_cons_zero, List.set_cons_succ]
  refine wpAnyP_pure (v := ?_) 5 (at_toArray rfl) (by kernel_rfl) (by kernel_rfl) (by kernel_rfl) (fun _ _ _ h => h) (Or.inl ⟨by rfl, fun W => ?_⟩) ?_
  rotate_left 1
  · (go_simp <;> (try go_bits) <;> with_reducible rfl)
  simp only [Act.put, List.setIfInBounds_toArray, List.set_cons_zero, List.set_cons_succ]
  refine wpAnyP_pure (v := ?_) 6 (at_toArray rfl) (by kernel_rfl) (by kernel_rfl) (by kernel_rfl) (fun _ _ _ h => h) (Or.inl ⟨by rfl, fun W => ?_⟩) ?_
  rotate_left 1
  · (go_simp <;> (try go_bits) <;> with_reducible rfl)
  simp only [Act.put, List.setIfInBounds_toArray, List.set_cons_zero, List.set_cons_succ]
  refine wpAnyP_load (v := ?_) 7 (by kernel_rfl) (at_toArray rfl) (by kernel_rfl) (by kernel_rfl) (by kernel_rfl) (fun _ _ _ h => h) (by first | assumption | rfl) (Or.inl ⟨by rfl, fun W hS => ?_⟩) ?_
  rotate_left 1
  · (obtain ⟨_, _⟩ := hS; go_simp <;> (try go_bits) <;> with_reducible rfl)
  simp only [Act.put, List.setIfInBounds_toArray, List.set_cons_zero, List.set_cons_succ]
  refine wpAnyP_one 8 (at_toArray rfl) (by kernel_rfl) rfl (fun K hK => ?_)
  go_wp2_with fail
  refine (fault_look tb J.area T F _ h2.tape).mono ?_
  rintro e w3 ⟨A, c, m, rfl, hm, hc, hrr, hb, hAf⟩
  have h3 := h2.below hb
  have HB := Lib.hid (Below.trans (Below.refl _ w).drew hb)
  obtain ⟨v, hv⟩ : ∃ v, v = faultN T.off J.area := ⟨_, rfl⟩
  have hr := HR.out
  rw [← hv, ← hm] at hr
  rw [← hv]
  clear hv hb hrr hAf h h2 HR
  have HR := Lib.hid hr
  clear hr hm
  go_wp2_with fail
  refine hK.out _ _ (fun _ _ => ⟨h3.c0, h3.c1⟩) ?_
  clear hK
  refine wpAnyP_pure (v := ?_) 9 (at_toArray rfl) (by kernel_rfl) (by kernel_rfl) (by kernel_rfl) (fun _ _ _ h => h) (Or.inl ⟨by rfl, fun W => ?_⟩) ?_
  rotate_left 1
  · (go_simp <;> (try go_bits) <;> with_reducible rfl)
  simp only [Act.put, List.setIfInBounds_toArray, List.set_cons_zero, List.set_cons_succ]
  refine wpAnyP_pure (v := ?_) 10 (at_toArray rfl) (by kernel_rfl) (by kernel_rfl) (by kernel_rfl) (fun _ _ _ h => h) (Or.inl ⟨by rfl, fun W => ?_⟩) ?_
  rotate_left 1
  · (go_simp <;> (try go_bits) <;> with_reducible rfl)
  simp only [Act.put, List.setIfInBounds_toArray, List.set_cons_zero, List.set_cons_succ]
  refine wpAnyP_pure (v := ?_) 11 (at_toArray rfl) (by kernel_rfl) (by kernel_rfl) (by kernel_rfl) (fun _ _ _ h => h) (Or.inl ⟨by rfl, fun W => ?_⟩) ?_
  rotate_left 1
  · (go_simp <;> (try go_bits) <;> with_reducible rfl)
  simp only [Act.put, List.setIfInBounds_toArray, List.set_cons_zero, List.set_cons_succ]
  refine wpAnyP_pure (v := ?_) 12 (at_toArray rfl) (by kernel_rfl) (by kernel_rfl) (by kernel_rfl) (fun _ _ _ h => h) (Or.inl ⟨by rfl, fun W => ?_⟩) ?_
  rotate_left 1
  · (go_simp <;> (try go_bits) <;> with_reducible rfl)
  simp only [Act.put, List.setIfInBounds_toArray, List.set_cons_zero, List.set_cons_succ]
  refine wpAnyP_pure (v := ?_) 13 (at_toArray rfl) (by kernel_rfl) (by kernel_rfl) (by kernel_rfl) (fun _ _ _ h => h) (Or.inl ⟨by rfl, fun W => ?_⟩) ?_
  rotate_left 1
  · (go_simp <;> (try go_bits) <;> with_reducible rfl)
  simp only [Act.put, List.setIfInBounds_toArray, List.set_cons_zero, List.set_cons_succ]
  refine wpAnyP_done (by kernel_rfl) ?_ _
  by_cases h0 : v = 0
  · subst h0
    have hr := HR.out
    rw [if_neg (by simp)] at hr
    subst hr
    go_wp2_with fail
    go_ret
    exact ⟨rfl, HB.out⟩
  · have hr := HR.out
    rw [if_pos h0] at hr
    have HR := Lib.hid hr
    clear hr
    have h0' : (v == 0) = false := by simp [h0]
    have c0 := h3.c0
    have c1 := h3.c1
    go_wp2_with fail
    refine wp_region_phased (fun W => W.cell? ⟨jb, 0, none⟩ = some (.pointer (some ⟨tb, 0, none⟩)) ∧ W.cell? ⟨jb, 1, none⟩ = some (.int .i64 J.area)) 10 (by kernel_rfl) ⟨c0, c1⟩ (fun hS => ?_)
    have h4 := h3.below (Below.refl _ _).drew
    refine wpAnyP_pure (v := ?_) 0 (at_toArray rfl) (by kernel_rfl) (by kernel_rfl) (by kernel_rfl) (fun _ _ _ h => h) (Or.inl ⟨by rfl, fun W => ?_⟩) ?_
    rotate_left 1
    · (go_simp <;> (try go_bits) <;> with_reducible rfl)
    simp only [Act.put, List.setIfInBounds_toArray, List.set_cons_zero, List.set_cons_succ]
    refine wpAnyP_pure (v := ?_) 1 (at_toArray rfl) (by kernel_rfl) (by kernel_rfl) (by kernel_rfl) (fun _ _ _ h => h) (Or.inl ⟨by rfl, fun W => ?_⟩) ?_
    rotate_left 1
    · (go_simp <;> (try go_bits) <;> with_reducible rfl)
    simp only [Act.put, List.setIfInBounds_toArray, List.set_cons_zero, List.set_cons_succ]
    refine wpAnyP_pure (v := ?_) 2 (at_toArray rfl) (by kernel_rfl) (by kernel_rfl) (by kernel_rfl) (fun _ _ _ h => h) (Or.inl ⟨by rfl, fun W => ?_⟩) ?_
    rotate_left 1
    · (go_simp <;> (try go_bits) <;> with_reducible rfl)
    simp only [Act.put, List.setIfInBounds_toArray, List.set_cons_zero, List.set_cons_succ]
    refine wpAnyP_load (v := ?_) 3 (by kernel_rfl) (at_toArray rfl) (by kernel_rfl) (by kernel_rfl) (by kernel_rfl) (fun _ _ _ h => h) (by first | assumption | rfl) (Or.inl ⟨by rfl, fun W hS => ?_⟩) ?_
    rotate_left 1
    · (obtain ⟨_, _⟩ := hS; go_simp <;> (try go_bits) <;> with_reducible rfl)
    simp only [Act.put, List.setIfInBounds_toArray, List.set_cons_zero, List.set_cons_succ]
    refine wpAnyP_pure (v := ?_) 4 (at_toArray rfl) (by kernel_rfl) (by kernel_rfl) (by kernel_rfl) (fun _ _ _ h => h) (Or.inl ⟨by rfl, fun W => ?_⟩) ?_
    rotate_left 1
    · (go_simp <;> (try go_bits) <;> with_reducible rfl)
    simp only [Act.put, List.setIfInBounds_toArray, List.set_cons_zero, List.set_cons_succ]
    refine wpAnyP_pure (v := ?_) 5 (at_toArray rfl) (by kernel_rfl) (by kernel_rfl) (by kernel_rfl) (fun _ _ _ h => h) (Or.inl ⟨by rfl, fun W => ?_⟩) ?_
    rotate_left 1
    · (go_simp <;> (try go_bits) <;> with_reducible rfl)
    simp only [Act.put, List.setIfInBounds_toArray, List.set_cons_zero, List.set_cons_succ]
    refine wpAnyP_pure (v := ?_) 6 (at_toArray rfl) (by kernel_rfl) (by kernel_rfl) (by kernel_rfl) (fun _ _ _ h => h) (Or.inl ⟨by rfl, fun W => ?_⟩) ?_
    rotate_left 1
    · (go_simp <;> (try go_bits) <;> with_reducible rfl)
    simp only [Act.put, List.setIfInBounds_toArray, List.set_cons_zero, List.set_cons_succ]
    refine wpAnyP_load (v := ?_) 7 (by kernel_rfl) (at_toArray rfl) (by kernel_rfl) (by kernel_rfl) (by kernel_rfl) (fun _ _ _ h => h) (by first | assumption | rfl) (Or.inl ⟨by rfl, fun W hS => ?_⟩) ?_
    rotate_left 1
    · (obtain ⟨_, _⟩ := hS; go_simp <;> (try go_bits) <;> with_reducible rfl)
    simp only [Act.put, List.setIfInBounds_toArray, List.set_cons_zero, List.set_cons_succ]
    refine wpAnyP_one 8 (at_toArray rfl) (by kernel_rfl) rfl (fun K hK => ?_)
    go_wp2_with fail
    refine (sure_any tb J.area T F _ h4.tape).mono ?_
    rw [← HR.out]
    rintro e w5 ⟨rfl, rfl⟩
    go_wp2_with fail
    refine hK.out _ _ (fun _ h => h) ?_
    clear hK
    refine wpAnyP_pure (v := ?_) 9 (at_toArray rfl) (by kernel_rfl) (by kernel_rfl) (by kernel_rfl) (fun _ _ _ h => h) (Or.inl ⟨by rfl, fun W => ?_⟩) ?_
    rotate_left 1
    · (go_simp <;> (try go_bits) <;> with_reducible rfl)
    simp only [Act.put, List.setIfInBounds_toArray, List.set_cons_zero, List.set_cons_succ]
    refine wpAnyP_done (by kernel_rfl) ?_ _
    go_wp2_with fail
    go_ret
    exact ⟨rfl, HB.out.trans (Below.up (Below.refl _ _).drew HB.out.size)⟩
set_option maxHeartbeats 1000000 in
theorem jbytes_any (h : JR w jb tb J T F) : Calls Try.prog 47 #[.pointer (some ⟨jb, 0, none⟩)] w fun e w' => e = .returned (.int .i64 (J.len T)) ∧ Below w.heap.size w w' := by
  obtain ⟨r, hr⟩ : ∃ r, r = J.len T := ⟨_, rfl⟩
  rw [← hr]
  unfold JS.len at hr
  have HR := Lib.hid hr
  clear hr
  go_enter Try.func47, Try.ntmps47
  go_wp2_with fail
  refine (jfault_any h).mono ?_
  rintro e w1 ⟨rfl, hb⟩
  have h1 := h.below hb
  have HB := Lib.hid hb
  have hv : (J.fault T == 1) = false := by unfold JS.fault; split <;> rfl
  obtain ⟨v, hv'⟩ : ∃ v, v = J.fault T := ⟨_, rfl⟩
  rw [← hv'] at hv ⊢
  clear hb hv' h
  have c0 := h1.c0
  have c3 := h1.c3
  go_wp2_with fail
  refine (counts_any tb T F w1 h1.tape).mono ?_
  rintro e w2 ⟨rfl, n, hw2⟩
  have hb : Below w1.heap.size w1 w2 := by rw [hw2]; exact ⟨rfl, rfl, rfl, Nat.le_refl _, fun _ _ => rfl⟩
  have h2 := h1.below hb
  have HB2 := Lib.hid (HB.out.trans (Below.up hb HB.out.size))
  clear hw2 hb c0 c3 h1
  have c0 := h2.c0
  have c4 := h2.c4
  have hr := HR.out
  unfold JS.fault at hr
  obtain ⟨f1, hf1⟩ : ∃ f, f = T.fails := ⟨_, rfl⟩
  obtain ⟨f2, hf2⟩ : ∃ f, f = J.fails := ⟨_, rfl⟩
  rw [← hf1, ← hf2] at hr
  rw [← hf2] at c4
  rw [← hf1]
  clear HR
  have HR := Lib.hid hr
  clear hr hf1 hf2
  by_cases hf : f1 = f2
  · subst hf
    go_wp2_with fail
    refine (on_any tb T F w2 h2.tape).mono ?_
    rintro e w3 ⟨rfl, rfl⟩
    obtain ⟨o, ho⟩ : ∃ o, o = T.off := ⟨_, rfl⟩
    have hr := HR.out
    rw [← ho] at hr ⊢
    clear HR ho
    cases o with
    | true =>
      rw [if_neg (by simp)] at hr
      have HR := Lib.hid hr
      clear hr
      go_wp2_with fail
      refine (jleft_any h2).mono ?_
      rw [← HR.out]
      rintro e w4 ⟨rfl, hb⟩
      have HB3 := Lib.hid (HB2.out.trans (Below.up hb HB2.out.size))
      clear hb
      go_wp2_with fail
      go_ret
      exact ⟨rfl, HB3.out⟩
    | false =>
      rw [if_pos (by simp)] at hr
      subst hr
      go_wp2_with fail
      go_ret
      exact ⟨rfl, HB2.out⟩
  · have hfb : (f1 == f2) = false := by simp [hf]
    have hr := HR.out
    rw [if_neg (by simp [hf])] at hr
    have HR := Lib.hid hr
    clear hr
    go_wp2_with fail
    refine (jleft_any h2).mono ?_
    rw [← HR.out]
    rintro e w4 ⟨rfl, hb⟩
    have HB3 := Lib.hid (HB2.out.trans (Below.up hb HB2.out.size))
    clear hb
    go_wp2_with fail
    go_ret
    exact ⟨rfl, HB3.out⟩
set_option maxHeartbeats 1000000 in
theorem jsure_any (h : JR w jb tb J T F) : Calls Try.prog 46 #[.pointer (some ⟨jb, 0, none⟩)] w fun e w' => e = .returned (.bool (T.sure J.area == J.len T)) ∧ Below w.heap.size w w' := by
  obtain ⟨r, hr⟩ : ∃ r, r = (T.sure J.area == J.len T) := ⟨_, rfl⟩
  rw [← hr]
  have HR := Lib.hid hr
  clear hr
  go_enter Try.func46, Try.ntmps46
  go_wp2_with fail
  refine wp_region_phased (fun W => W.cell? ⟨jb, 0, none⟩ = some (.pointer (some ⟨tb, 0, none⟩)) ∧ W.cell? ⟨jb, 1, none⟩ = some (.int .i64 J.area)) 18 (by kernel_rfl) ⟨h.c0, h.c1⟩ (fun hS => ?_)
  have h1 := h.below (Below.refl _ _).drew
  refine wpAnyP_pure (v := ?_) 0 (at_toArray rfl) (by kernel_rfl) (by kernel_rfl) (by kernel_rfl) (fun _ _ _ h => h) (Or.inl ⟨by rfl, fun W => ?_⟩) ?_
  rotate_left 1
  · (go_simp <;> (try go_bits) <;> with_reducible rfl)
  simp only [Act.put, List.setIfInBounds_toArray, List.set_cons_zero, List.set_cons_succ]
  refine wpAnyP_one 1 (at_toArray rfl) (by kernel_rfl) rfl (fun K hK => ?_)
  go_wp2_with fail
  refine (jfault_any h1).mono ?_
  have hv : (J.fault T == 1) = false := by unfold JS.fault; split <;> rfl
  obtain ⟨v, hv'⟩ : ∃ v, v = J.fault T := ⟨_, rfl⟩
  rw [← hv'] at hv ⊢
  rintro e w1 ⟨rfl, hb⟩
  have h2 := h1.below hb
  have HB := Lib.hid (Below.trans (Below.refl _ w).drew hb)
  have hS2 : w1.cell? ⟨jb, 0, none⟩ = some (.pointer (some ⟨tb, 0, none⟩)) ∧ w1.cell? ⟨jb, 1, none⟩ = some (.int .i64 J.area) := ⟨h2.c0, h2.c1⟩
  clear hv' hb h h1
  go_wp2_with fail
  refine hK.out _ _ (fun _ _ => hS2) ?_
  clear hK hS
  have hvv : ((v != 1)) = true := by simp only [bne, hv]; rfl
  refine wpAnyP_pure (v := ?_) 2 (at_toArray rfl) (by kernel_rfl) (by kernel_rfl) (by kernel_rfl) (fun _ _ _ h => h) (Or.inl ⟨by rfl, fun W => ?_⟩) ?_
  rotate_left 1
  · (go_simp <;> (try go_bits) <;> with_reducible rfl)
  simp only [Act.put, List.setIfInBounds_toArray, List.set_cons_zero, List.set_cons_succ]
  refine wpAnyP_pure (v := ?_) 3 (at_toArray rfl) (by kernel_rfl) (by kernel_rfl) (by kernel_rfl) (fun _ _ _ h => h) (Or.inl ⟨by rfl, fun W => ?_⟩) ?_
  rotate_left 1
  · (go_simp <;> (try go_bits) <;> with_reducible rfl)
  simp only [Act.put, List.setIfInBounds_toArray, List.set_cons_zero, List.set_cons_succ]
  refine wpAnyP_pure (v := ?_) 4 (at_toArray rfl) (by kernel_rfl) (by kernel_rfl) (by kernel_rfl) (fun _ _ _ h => h) (Or.inl ⟨by rfl, fun W => ?_⟩) ?_
  rotate_left 1
  · (go_simp <;> (try go_bits) <;> with_reducible rfl)
  simp only [Act.put, List.setIfInBounds_toArray, List.set_cons_zero, List.set_cons_succ]
  refine wpAnyP_pure (v := ?_) 5 (at_toArray rfl) (by kernel_rfl) (by kernel_rfl) (by kernel_rfl) (fun _ _ _ h => h) (Or.inl ⟨by rfl, fun W => ?_⟩) ?_
  rotate_left 1
  · (go_simp <;> (try go_bits) <;> with_reducible rfl)
  simp only [Act.put, List.setIfInBounds_toArray, List.set_cons_zero, List.set_cons_succ]
  refine wpAnyP_pure (v := ?_) 6 (at_toArray rfl) (by kernel_rfl) (by kernel_rfl) (by kernel_rfl) (fun _ _ _ h => h) (Or.inl ⟨by rfl, fun W => ?_⟩) ?_
  rotate_left 1
  · (go_simp <;> (try go_bits) <;> with_reducible rfl)
  simp only [Act.put, List.setIfInBounds_toArray, List.set_cons_zero, List.set_cons_succ]
  refine wpAnyP_load (v := ?_) 7 (by kernel_rfl) (at_toArray rfl) (by kernel_rfl) (by kernel_rfl) (by kernel_rfl) (fun _ _ _ h => h) (by first | assumption | rfl) (Or.inl ⟨by rfl, fun W hS => ?_⟩) ?_
  rotate_left 1
  · (obtain ⟨_, _⟩ := hS; go_simp <;> (try go_bits) <;> with_reducible rfl)
  simp only [Act.put, List.setIfInBounds_toArray, List.set_cons_zero, List.set_cons_succ]
  refine wpAnyP_pure (v := ?_) 8 (at_toArray rfl) (by kernel_rfl) (by kernel_rfl) (by kernel_rfl) (fun _ _ _ h => h) (Or.inl ⟨by rfl, fun W => ?_⟩) ?_
  rotate_left 1
  · (go_simp <;> (try go_bits) <;> with_reducible rfl)
  simp only [Act.put, List.setIfInBounds_toArray, List.set_cons_zero, List.set_cons_succ]
  refine wpAnyP_pure (v := ?_) 9 (at_toArray rfl) (by kernel_rfl) (by kernel_rfl) (by kernel_rfl) (fun _ _ _ h => h) (Or.inl ⟨by rfl, fun W => ?_⟩) ?_
  rotate_left 1
  · (go_simp <;> (try go_bits) <;> with_reducible rfl)
  simp only [Act.put, List.setIfInBounds_toArray, List.set_cons_zero, List.set_cons_succ]
  refine wpAnyP_pure (v := ?_) 10 (at_toArray rfl) (by kernel_rfl) (by kernel_rfl) (by kernel_rfl) (fun _ _ _ h => h) (Or.inl ⟨by rfl, fun W => ?_⟩) ?_
  rotate_left 1
  · (go_simp <;> (try go_bits) <;> with_reducible rfl)
  simp only [Act.put, List.setIfInBounds_toArray, List.set_cons_zero, List.set_cons_succ]
  refine wpAnyP_load (v := ?_) 11 (by kernel_rfl) (at_toArray rfl) (by kernel_rfl) (by kernel_rfl) (by kernel_rfl) (fun _ _ _ h => h) (by first | assumption | rfl) (Or.inl ⟨by rfl, fun W hS => ?_⟩) ?_
  rotate_left 1
  · (obtain ⟨_, _⟩ := hS; go_simp <;> (try go_bits) <;> with_reducible rfl)
  simp only [Act.put, List.setIfInBounds_toArray, List.set_cons_zero, List.set_cons_succ]
  refine wpAnyP_pure (v := ?_) 13 (at_toArray rfl) (by kernel_rfl) (by kernel_rfl) (by kernel_rfl) (fun _ _ _ h => h) (Or.inl ⟨by rfl, fun W => ?_⟩) ?_
  rotate_left 1
  · (go_simp <;> (try go_bits) <;> with_reducible rfl)
  simp only [Act.put, List.setIfInBounds_toArray, List.set_cons_zero, List.set_cons_succ]
  refine wpAnyP_oneG 12 (at_toArray rfl) (by kernel_rfl) (by rfl) (fun K hK => ?_)
  go_wp2_with fail
  refine (sure_any tb J.area T F w1 h2.tape).mono ?_
  obtain ⟨x, hx⟩ : ∃ x, x = T.sure J.area := ⟨_, rfl⟩
  obtain ⟨y, hy⟩ : ∃ y, y = J.len T := ⟨_, rfl⟩
  have hr := HR.out
  rw [← hx, ← hy] at hr
  rw [← hx]
  rintro e w3 ⟨rfl, rfl⟩
  go_wp2_with fail
  refine hK.out _ _ (fun _ h => h) ?_
  clear hK
  refine wpAnyP_oneG 14 (at_toArray rfl) (by kernel_rfl) (by rfl) (fun K hK => ?_)
  go_wp2_with fail
  refine (jbytes_any h2).mono ?_
  rw [← hy]
  rintro e w4 ⟨rfl, hb⟩
  have h3 := h2.below hb
  have HB2 := Lib.hid (HB.out.trans (Below.up hb HB.out.size))
  have hS3 : w4.cell? ⟨jb, 0, none⟩ = some (.pointer (some ⟨tb, 0, none⟩)) ∧ w4.cell? ⟨jb, 1, none⟩ = some (.int .i64 J.area) := ⟨h3.c0, h3.c1⟩
  have HX := Lib.hid hx
  clear hb hx hy HR
  go_wp2_with fail
  refine hK.out _ _ (fun _ _ => hS3) ?_
  clear hK
  refine wpAnyP_pure (v := ?_) 15 (at_toArray rfl) (by kernel_rfl) (by kernel_rfl) (by kernel_rfl) (fun _ _ _ h => h) (Or.inl ⟨by rfl, fun W => ?_⟩) ?_
  rotate_left 1
  · (go_simp <;> (try go_bits) <;> with_reducible rfl)
  simp only [Act.put, List.setIfInBounds_toArray, List.set_cons_zero, List.set_cons_succ]
  refine wpAnyP_pure (v := ?_) 16 (at_toArray rfl) (by kernel_rfl) (by kernel_rfl) (by kernel_rfl) (fun _ _ _ h => h) (Or.inl ⟨by rfl, fun W => ?_⟩) ?_
  rotate_left 1
  · (go_simp <;> (try go_bits) <;> with_reducible rfl)
  simp only [Act.put, List.setIfInBounds_toArray, List.set_cons_zero, List.set_cons_succ]
  refine wpAnyP_pure (v := ?_) 17 (at_toArray rfl) (by kernel_rfl) (by kernel_rfl) (by kernel_rfl) (fun _ _ _ h => h) (Or.inl ⟨by rfl, fun W => ?_⟩) ?_
  rotate_left 1
  · (go_simp <;> (try go_bits) <;> with_reducible rfl)
  simp only [Act.put, List.setIfInBounds_toArray, List.set_cons_zero, List.set_cons_succ]
  refine wpAnyP_done (by kernel_rfl) ?_ _
  subst hr
  go_wp2_with fail
  go_ret
  have hx := HX.out
  subst hx
  exact ⟨rfl, HB2.out⟩

end Go.Proofs.Ytnkenkdglcmpdaa
