/- Parts: The walks of the document's Sync, Clear, Append. -/
import Derived.Test.YtdhafdejionefaaGreatM13
/- The walks of the document's Sync, Clear, Append. -/
namespace Go.Proofs.YtdhafdejionefaaGreat
set_option linter.unusedVariables false
set_option linter.unusedSimpArgs false
open Go.RowKit

theorem may_same {T T1 : TS} {r : Int} (h : T.may = (r, T1)) : r = 0 → T1.used = T.used ∧ T1.room = T.room := by
  rintro rfl
  unfold TS.may at h
  match hp : T.plan with
  | none => rw [hp] at h; cases h; exact ⟨rfl, rfl⟩
  | some (l, k) =>
    rw [hp] at h
    by_cases hl : l = 0
    · simp [hl] at h
    · simp [hl] at h; subst h; exact ⟨rfl, rfl⟩
set_option maxRecDepth 100000 in
set_option maxHeartbeats 4000000 in
theorem rsync_0 (rb : Nat) (T : TS) (F : Nat → Prop) (w : World) (h : RefR w rb T F) (ho : T.off = false) :
    Calls Tryz.prog 61 #[.pointer (some ⟨rb, 0, none⟩), .int .i64 0] w (DoesR w rb F (T.op fun T => T.syn 0)) := by
  have h5 : w.cell? ⟨rb, 5, none⟩ = some (.bool false) := by
    obtain ⟨l, k, u0, u1, h⟩ := h
    rw [← ho]; exact h.blk.cell 5
  have H := Lib.hid h
  obtain ⟨r, T1, hm⟩ : ∃ r T1, T.may = (r, T1) := ⟨_, _, rfl⟩
  have hfo : r = 0 ∨ r = 150 := by have := may_form T; rw [hm] at this; exact this
  have hop : (T.op fun T => T.syn 0) = if r = 0 then (0, T1.syn 0) else (r, T1) := by rw [op_may, hm]
  have HM := Lib.hid hm
  have HOP := Lib.hid hop
  clear h hm hop ho
  go_enter Tryz.func61, Tryz.ntmps61
  go_wp2_with fail
  refine (rfault_any rb 0 false w h5).mono ?_
  rintro e w' ⟨rfl, rfl⟩
  rw [show faultN false 0 = 0 from rfl]
  clear h5
  go_wp2_with fail
  refine (rmay_any rb T F w H.out).mono ?_
  rw [HM.out]
  rintro e w2 ⟨rfl, F', hr, hu⟩
  have HR : Hid (RefR w2 rb T1 F') := Lib.hid hr
  have HU := Lib.hid hu
  clear hr hu H
  rcases hfo with rfl | rfl
  · rw [if_pos rfl] at HOP
    obtain ⟨l, k, u0, u1, h⟩ := HR.out
    have hl := h.len0
    obtain ⟨A, c, rfl, _⟩ := h.o0.reads' (by omega)
    obtain ⟨n, hn⟩ : ∃ n, n = T1.b0.length := ⟨_, rfl⟩
    have e1 : w2.cell? ⟨rb, 1, none⟩ = some (.slice A n c) := by rw [hn]; exact h.blk.cell 1
    have e2 : w2.drew.cell? ⟨rb, 3, none⟩ = some (.int .i64 (T1.s0 : Int)) := h.blk.cell 3
    have g2 : w2.drew.frozen? ⟨rb, 3, none⟩ = false := h.blk.free 3
    have H4 := Lib.hid h
    have HN := Lib.hid hn
    clear h hn hl
    go_wp2_with fail
    refine wp_region_phased (fun W => W.cell? ⟨rb, 1, none⟩ = some (.slice A n c)) 12 (by kernel_rfl) e1 (fun hS0 => ?_)
    refine wpAnyP_pure (v := ?_) 0 (at_toArray rfl) (by kernel_rfl) (by kernel_rfl) (by kernel_rfl) (fun _ _ _ h => h) (Or.inl ⟨by rfl, fun W => ?_⟩) ?_
    rotate_left 1
    · (go_simp <;> (try go_bits) <;> with_reducible rfl)
    simp only [Act.put, List.setIfInBounds_toArray, List.set_cons_zero, List.set_cons_succ]
    refine wpAnyP_pure (v := ?_) 1 (at_toArray rfl) (by kernel_rfl) (by kernel_rfl) (by kernel_rfl) (fun _ _ _ h => h) (Or.inl ⟨by rfl, fun W => ?_⟩) ?_
    rotate_left 1
    · (go_simp <;> (try go_bits) <;> with_reducible rfl)
    simp only [Act.put, List.setIfInBounds_toArray, List.set_cons_zero, List.set_cons_succ]
    refine wpAnyP_pure (v := ?_) 2 (at_toArray rfl) (by kernel_rfl) (by kernel_rfl) (by kernel_rfl) (fun _ _ _ h => h) (Or.inl ⟨by rfl, fun W => ?_⟩) ?_
    rotate_left 1
    · (go_simp <;> (try go_bits) <;> with_reducible rfl)
    simp only [Act.put, List.setIfInBounds_toArray, List.set_cons_zero, List.set_cons_succ]
    refine wpAnyP_pure (v := ?_) 3 (at_toArray rfl) (by kernel_rfl) (by kernel_rfl) (by kernel_rfl) (fun _ _ _ h => h) (Or.inl ⟨by rfl, fun W => ?_⟩) ?_
    rotate_left 1
    · (go_simp <;> (try go_bits) <;> with_reducible rfl)
    simp only [Act.put, List.setIfInBounds_toArray, List.set_cons_zero, List.set_cons_succ]
    refine wpAnyP_pure (v := ?_) 4 (at_toArray rfl) (by kernel_rfl) (by kernel_rfl) (by kernel_rfl) (fun _ _ _ h => h) (Or.inl ⟨by rfl, fun W => ?_⟩) ?_
    rotate_left 1
    · (go_simp <;> (try go_bits) <;> with_reducible rfl)
    simp only [Act.put, List.setIfInBounds_toArray, List.set_cons_zero, List.set_cons_succ]
    refine wpAnyP_pure (v := ?_) 5 (at_toArray rfl) (by kernel_rfl) (by kernel_rfl) (by kernel_rfl) (fun _ _ _ h => h) (Or.inl ⟨by rfl, fun W => ?_⟩) ?_
    rotate_left 1
    · (go_simp <;> (try go_bits) <;> with_reducible rfl)
    simp only [Act.put, List.setIfInBounds_toArray, List.set_cons_zero, List.set_cons_succ]
    refine wpAnyP_pure (v := ?_) 6 (at_toArray rfl) (by kernel_rfl) (by kernel_rfl) (by kernel_rfl) (fun _ _ _ h => h) (Or.inl ⟨by rfl, fun W => ?_⟩) ?_
    rotate_left 1
    · (go_simp <;> (try go_bits) <;> with_reducible rfl)
    simp only [Act.put, List.setIfInBounds_toArray, List.set_cons_zero, List.set_cons_succ]
    refine wpAnyP_load (v := ?_) 7 (by kernel_rfl) (at_toArray rfl) (by kernel_rfl) (by kernel_rfl) (by kernel_rfl) (fun _ _ _ h => h) (by first | assumption | rfl) (Or.inl ⟨by rfl, fun W hS => ?_⟩) ?_
    rotate_left 1
    · (obtain f2 := hS; go_simp <;> (try go_bits) <;> with_reducible rfl)
    simp only [Act.put, List.setIfInBounds_toArray, List.set_cons_zero, List.set_cons_succ]
    refine wpAnyP_pure (v := ?_) 8 (at_toArray rfl) (by kernel_rfl) (by kernel_rfl) (by kernel_rfl) (fun _ _ _ h => h) (Or.inl ⟨by rfl, fun W => ?_⟩) ?_
    rotate_left 1
    · (go_simp <;> (try go_bits) <;> with_reducible rfl)
    simp only [Act.put, List.setIfInBounds_toArray, List.set_cons_zero, List.set_cons_succ]
    refine wpAnyP_pure (v := ?_) 9 (at_toArray rfl) (by kernel_rfl) (by kernel_rfl) (by kernel_rfl) (fun _ _ _ h => h) (Or.inl ⟨by rfl, fun W => ?_⟩) ?_
    rotate_left 1
    · (go_simp <;> (try go_bits) <;> with_reducible rfl)
    simp only [Act.put, List.setIfInBounds_toArray, List.set_cons_zero, List.set_cons_succ]
    refine wpAnyP_pure (v := ?_) 10 (at_toArray rfl) (by kernel_rfl) (by kernel_rfl) (by kernel_rfl) (fun _ _ _ h => h) (Or.inl ⟨by rfl, fun W => ?_⟩) ?_
    rotate_left 1
    · (go_simp <;> (try go_bits) <;> with_reducible rfl)
    simp only [Act.put, List.setIfInBounds_toArray, List.set_cons_zero, List.set_cons_succ]
    refine wpAnyP_pure (v := ?_) 11 (at_toArray rfl) (by kernel_rfl) (by kernel_rfl) (by kernel_rfl) (fun _ _ _ h => h) (Or.inl ⟨by rfl, fun W => ?_⟩) ?_
    rotate_left 1
    · (go_simp <;> (try go_bits) <;> with_reducible rfl)
    simp only [Act.put, List.setIfInBounds_toArray, List.set_cons_zero, List.set_cons_succ]
    refine wpAnyP_one 12 (at_toArray rfl) (by kernel_rfl) rfl (fun K hK => ?_)
    go_wp2_with fail
    refine hK.out _ _ (fun h => absurd h (by decide)) ?_
    clear hK
    refine wpAnyP_done (by kernel_rfl) ?_ _
    clear hS0 e1 e2 g2
    go_wp2_with fail
    go_ret
    rw [HOP.out]
    have h := H4.out
    have hf : Fr (fun k => k = rb) w2 (w2.setCell ⟨rb, 3, none⟩ (.int .i64 (n : Int))).drew := (fr_own w2 rb 3 _).trans (Fr.drew _ _) (fun _ h => .inl h)
    have hok : TS.ok { T1 with s0 := n } := ⟨by show n ≤ _; rw [HN.out]; exact Nat.le_refl _, h.wf.s1, h.wf.fit, h.wf.room, h.wf.left⟩
    have h9 := h.re (T' := { T1 with s0 := n }) (l' := l) (k' := k) hf (h.blk.set 3 (.int .i64 (n : Int))) rfl rfl h.pl hok
    have hsy : T1.syn 0 = { T1 with s0 := n } := by rw [HN.out]; rfl
    rw [hsy]
    exact ⟨rfl, F', ⟨_, _, _, _, h9⟩, HU.out.trans (upd_re hf h.ft)⟩
  · rw [if_neg (by decide)] at HOP
    go_wp2_with fail
    go_ret
    rw [HOP.out]
    exact ⟨rfl, F', HR.out, HU.out⟩
set_option maxRecDepth 100000 in
set_option maxHeartbeats 4000000 in
theorem rclear_0 (rb : Nat) (T : TS) (F : Nat → Prop) (w : World) (h : RefR w rb T F) (ho : T.off = false) :
    Calls Tryz.prog 32 #[.pointer (some ⟨rb, 0, none⟩), .int .i64 0] w (DoesR w rb F (T.op fun T => T.clr 0)) := by
  have h5 : w.cell? ⟨rb, 5, none⟩ = some (.bool false) := by
    obtain ⟨l, k, u0, u1, h⟩ := h
    rw [← ho]; exact h.blk.cell 5
  have H := Lib.hid h
  obtain ⟨r, T1, hm⟩ : ∃ r T1, T.may = (r, T1) := ⟨_, _, rfl⟩
  have hfo : r = 0 ∨ r = 150 := by have := may_form T; rw [hm] at this; exact this
  have hop : (T.op fun T => T.clr 0) = if r = 0 then (0, T1.clr 0) else (r, T1) := by rw [op_may, hm]
  have HM := Lib.hid hm
  have HOP := Lib.hid hop
  clear h hm hop ho
  go_enter Tryz.func32, Tryz.ntmps32
  go_wp2_with fail
  refine (rfault_any rb 0 false w h5).mono ?_
  rintro e w' ⟨rfl, rfl⟩
  rw [show faultN false 0 = 0 from rfl]
  clear h5
  go_wp2_with fail
  refine (rmay_any rb T F w H.out).mono ?_
  rw [HM.out]
  rintro e w2 ⟨rfl, F', hr, hu⟩
  have HR : Hid (RefR w2 rb T1 F') := Lib.hid hr
  have HU := Lib.hid hu
  clear hr hu H
  rcases hfo with rfl | rfl
  · rw [if_pos rfl] at HOP
    obtain ⟨l, k, u0, u1, h⟩ := HR.out
    have e1 : w2.cell? ⟨rb, 1, none⟩ = some u0 := h.blk.cell 1
    have g1 : w2.frozen? ⟨rb, 1, none⟩ = false := h.blk.free 1
    have hok : TS.ok { T1 with b0 := [], s0 := 0 } := by
      have hfit := h.wf.fit
      unfold TS.used at hfit
      refine ⟨Nat.le_refl _, h.wf.s1, ?_, h.wf.room, h.wf.left⟩
      show ((0 + T1.b1.length : Nat) : Int) ≤ T1.room
      omega
    have e2 : w2.cell? ⟨rb, 3, none⟩ = some (.int .i64 (T1.s0 : Int)) := h.blk.cell 3
    have g2 : w2.frozen? ⟨rb, 3, none⟩ = false := h.blk.free 3
    have H4 := Lib.hid h
    clear h
    go_wp2_with fail
    go_ret
    rw [HOP.out]
    have h := H4.out
    have hf : Fr (fun k => k = rb) w2 ((w2.setCell ⟨rb, 1, none⟩ (.slice none 0 0)).setCell ⟨rb, 3, none⟩ (.int .i64 0)) := (fr_own w2 rb 1 _).trans (fr_own _ rb 3 _) (fun _ h => .inl h)
    have hnb : ∀ k, (Value.slice none 0 0).ownBlock = some k → False := fun k hk => by simp [Value.ownBlock] at hk
    have h9 : RefAt ((w2.setCell ⟨rb, 1, none⟩ (.slice none 0 0)).setCell ⟨rb, 3, none⟩ (.int .i64 0)) rb { T1 with b0 := [], s0 := 0 } F' l k (.slice none 0 0) u1 := by
      have h1 := h.blk.set 1 (.slice none 0 0)
      refine ⟨h1.set 3 (.int .i64 0), ?_, ?_, h.pl, ?_, h.ft, ?_, ?_, fun k hk => Nat.lt_of_lt_of_le (h.flt k hk) hf.size, hok⟩
      · exact OB.nil _
      · exact h.o1.fr hf (fun k hk e => h.o1.ne h.blk (by decide) (e ▸ hk))
      · exact fun k hk => (hnb k hk).elim
      · exact fun k hk => (hnb k hk).elim
      · exact h.f1
    exact ⟨rfl, F', ⟨_, _, _, _, h9⟩, HU.out.trans (upd_re hf h.ft)⟩
  · rw [if_neg (by decide)] at HOP
    go_wp2_with fail
    go_ret
    rw [HOP.out]
    exact ⟨rfl, F', HR.out, HU.out⟩
set_option maxRecDepth 100000 in
set_option maxHeartbeats 4000000 in
theorem rappend_0 (rb : Nat) (A : Option Addr) (c : Nat) (xs : List UInt8) (T : TS) (F : Nat → Prop) (w : World) (h : RefR w rb T F) (ho : T.off = false) (hx : RB w A xs) (hA : ∀ a, A = some a → 0 < xs.length → ¬ F a.block) (hroom : ¬ T.room - (T.used : Int) < (xs.length : Int)) :
    Calls Tryz.prog 30 #[.pointer (some ⟨rb, 0, none⟩), .int .i64 0, .slice A xs.length c] w (DoesR w rb F (T.op fun T => T.app 0 xs)) := by
  have h5 : w.cell? ⟨rb, 5, none⟩ = some (.bool false) := by
    obtain ⟨l, k, u0, u1, h⟩ := h
    rw [← ho]; exact h.blk.cell 5
  have H := Lib.hid h
  obtain ⟨r, T1, hm⟩ : ∃ r T1, T.may = (r, T1) := ⟨_, _, rfl⟩
  have hfo : r = 0 ∨ r = 150 := by have := may_form T; rw [hm] at this; exact this
  have hop : (T.op fun T => T.app 0 xs) = if r = 0 then (0, T1.app 0 xs) else (r, T1) := by rw [op_may, hm]
  have HM := Lib.hid hm
  have HOP := Lib.hid hop
  obtain ⟨m, hme⟩ : ∃ m, m = xs.length := ⟨_, rfl⟩
  rw [← hme] at hroom ⊢
  have HME := Lib.hid hme
  have HX := Lib.hid hx
  have HA := Lib.hid hA
  have hml : m ≤ 140737488355328 := by rw [hme]; exact hx.1
  clear hme hx hA
  clear h hm hop ho
  go_enter Tryz.func30, Tryz.ntmps30
  go_wp2_with fail
  refine (rfault_any rb 0 false w h5).mono ?_
  rintro e w' ⟨rfl, rfl⟩
  rw [show faultN false 0 = 0 from rfl]
  clear h5
  go_wp2_with fail
  have hrm : w.cell? ⟨rb, 0, none⟩ = some (.int .i64 T.room) := by
    obtain ⟨l, k, u0, u1, h⟩ := H.out
    exact h.blk.cell 0
  obtain ⟨us, hus⟩ : ∃ us : Nat, us = T.used := ⟨_, rfl⟩
  rw [← hus] at hroom
  have hub : (us : Int) ≤ T.room ∧ T.room ≤ 1073741824 := by
    obtain ⟨l, k, u0, u1, h⟩ := H.out
    have := h.wf.fit
    exact ⟨by rw [hus]; exact this, h.wf.room⟩
  obtain ⟨hu1, hu2⟩ := hub
  have HUS := Lib.hid hus
  clear hus
  refine wp_region_phased (fun W => (∃ n, W = w.drewN n) ∧ W.cell? ⟨rb, 0, none⟩ = some (.int .i64 T.room)) 10 (by kernel_rfl) ⟨⟨1, rfl⟩, hrm⟩ (fun hS0 => ?_)
  refine wpAnyP_pure (v := ?_) 0 (at_toArray rfl) (by kernel_rfl) (by kernel_rfl) (by kernel_rfl) (fun _ _ _ h => h) (Or.inl ⟨by rfl, fun W => ?_⟩) ?_
  rotate_left 1
  · (go_simp <;> (try go_bits) <;> with_reducible rfl)
  simp only [Act.put, List.setIfInBounds_toArray, List.set_cons_zero, List.set_cons_succ]
  refine wpAnyP_pure (v := ?_) 1 (at_toArray rfl) (by kernel_rfl) (by kernel_rfl) (by kernel_rfl) (fun _ _ _ h => h) (Or.inl ⟨by rfl, fun W => ?_⟩) ?_
  rotate_left 1
  · (go_simp <;> (try go_bits) <;> with_reducible rfl)
  simp only [Act.put, List.setIfInBounds_toArray, List.set_cons_zero, List.set_cons_succ]
  refine wpAnyP_pure (v := ?_) 2 (at_toArray rfl) (by kernel_rfl) (by kernel_rfl) (by kernel_rfl) (fun _ _ _ h => h) (Or.inl ⟨by rfl, fun W => ?_⟩) ?_
  rotate_left 1
  · (go_simp <;> (try go_bits) <;> with_reducible rfl)
  simp only [Act.put, List.setIfInBounds_toArray, List.set_cons_zero, List.set_cons_succ]
  refine wpAnyP_pure (v := ?_) 3 (at_toArray rfl) (by kernel_rfl) (by kernel_rfl) (by kernel_rfl) (fun _ _ _ h => h) (Or.inl ⟨by rfl, fun W => ?_⟩) ?_
  rotate_left 1
  · (go_simp <;> (try go_bits) <;> with_reducible rfl)
  simp only [Act.put, List.setIfInBounds_toArray, List.set_cons_zero, List.set_cons_succ]
  refine wpAnyP_pure (v := ?_) 4 (at_toArray rfl) (by kernel_rfl) (by kernel_rfl) (by kernel_rfl) (fun _ _ _ h => h) (Or.inl ⟨by rfl, fun W => ?_⟩) ?_
  rotate_left 1
  · (go_simp <;> (try go_bits) <;> with_reducible rfl)
  simp only [Act.put, List.setIfInBounds_toArray, List.set_cons_zero, List.set_cons_succ]
  refine wpAnyP_load (v := ?_) 5 (by kernel_rfl) (at_toArray rfl) (by kernel_rfl) (by kernel_rfl) (by kernel_rfl) (fun _ _ _ h => h) (by first | assumption | rfl) (Or.inl ⟨by rfl, fun W hS => ?_⟩) ?_
  rotate_left 1
  · (obtain ⟨_, f1⟩ := hS; go_simp <;> (try go_bits) <;> with_reducible rfl)
  simp only [Act.put, List.setIfInBounds_toArray, List.set_cons_zero, List.set_cons_succ]
  refine wpAnyP_pure (v := ?_) 6 (at_toArray rfl) (by kernel_rfl) (by kernel_rfl) (by kernel_rfl) (fun _ _ _ h => h) (Or.inl ⟨by rfl, fun W => ?_⟩) ?_
  rotate_left 1
  · (go_simp <;> (try go_bits) <;> with_reducible rfl)
  simp only [Act.put, List.setIfInBounds_toArray, List.set_cons_zero, List.set_cons_succ]
  refine wpAnyP_one 7 (at_toArray rfl) (by kernel_rfl) rfl (fun K hK => ?_)
  go_wp2_with fail
  refine (rused_any rb T F _ (H.out.below (Below.refl _ _).drew)).mono ?_
  rw [← HUS.out]
  rintro e w' ⟨rfl, n1, rfl⟩
  go_wp2_with fail
  refine hK.out _ _ (fun _ _ => ⟨⟨1 + n1, rfl⟩, hrm⟩) ?_
  clear hK
  refine wpAnyP_pure (v := ?_) 8 (at_toArray rfl) (by kernel_rfl) (by kernel_rfl) (by kernel_rfl) (fun _ _ _ h => h) (Or.inl ⟨by rfl, fun W => ?_⟩) ?_
  rotate_left 1
  · (go_simp <;> (try go_bits) <;> with_reducible rfl)
  simp only [Act.put, List.setIfInBounds_toArray, List.set_cons_zero, List.set_cons_succ]
  refine wpAnyP_pure (v := ?_) 9 (at_toArray rfl) (by kernel_rfl) (by kernel_rfl) (by kernel_rfl) (fun _ _ _ h => h) (Or.inl ⟨by rfl, fun W => ?_⟩) ?_
  rotate_left 1
  · (go_simp <;> (try go_bits) <;> with_reducible rfl)
  simp only [Act.put, List.setIfInBounds_toArray, List.set_cons_zero, List.set_cons_succ]
  refine wpAnyP_done (by kernel_rfl) ?_ _
  clear hS0 hrm
  have hbn : Below w.heap.size w (w.drewN (1 + n1)) := ⟨rfl, rfl, rfl, Nat.le_refl _, fun _ _ => rfl⟩
  have HB := Lib.hid hbn
  have H2 := Lib.hid (H.out.below hbn)
  have HX2 := Lib.hid (HX.out.below hbn)
  clear H HX hbn
  generalize w.drewN (1 + n1) = wa at *
  go_wp2_with fail
  refine (rmay_any rb T F wa H2.out).mono ?_
  rw [HM.out]
  rintro e w2 ⟨rfl, F', hr, hu⟩
  have HR : Hid (RefR w2 rb T1 F') := Lib.hid hr
  have HU := Lib.hid hu
  have HX3 := Lib.hid (HX2.out.fr2 hu.fr HA.out)
  clear HX2 HA
  clear hr hu H2
  rcases hfo with rfl | rfl
  · rw [if_pos rfl] at HOP
    obtain ⟨l, k, u0, u1, h⟩ := HR.out
    have hl := h.len0
    obtain ⟨A1, c1, rfl, hr, _⟩ := h.o0.reads' (by omega)
    obtain ⟨b, hb⟩ : ∃ b, b = T1.b0 := ⟨_, rfl⟩
    have e1 : w2.cell? ⟨rb, 1, none⟩ = some (.slice A1 b.length c1) := by rw [hb]; exact h.blk.cell 1
    rw [← hb] at hr hl
    have hok : T1.used + m ≤ T1.room → TS.ok { T1 with b0 := b ++ xs } := fun hfit => by
      unfold TS.used at hfit
      refine ⟨?_, h.wf.s1, ?_, h.wf.room, h.wf.left⟩
      · show T1.s0 ≤ (b ++ xs).length
        have := h.wf.s0
        rw [List.length_append, hb]; omega
      · show (((b ++ xs).length + T1.b1.length : Nat) : Int) ≤ T1.room
        rw [List.length_append, ← HME.out, hb]; omega
    have hsame : T1.used = T.used ∧ T1.room = T.room := may_same HM.out rfl
    have HOK : Hid (TS.ok { T1 with b0 := b ++ xs }) := Lib.hid (hok (by have h1 := hsame.1; have h2 := hsame.2; have h3 := HUS.out; omega))
    have HAPP : Hid (T1.app 0 xs = { T1 with b0 := b ++ xs }) := Lib.hid (by rw [hb]; rfl)
    have H4 := Lib.hid h
    have HR4 := Lib.hid hr
    clear h hr hb hok hsame
    go_wp2_with fail
    refine wp_region_phased (fun W => W.cell? ⟨rb, 1, none⟩ = some (.slice A1 b.length c1)) 15 (by kernel_rfl) e1 (fun hS0 => ?_)
    obtain ⟨wd, hwd⟩ : ∃ wd, wd = w2.drew := ⟨_, rfl⟩
    have hbd : Below w2.heap.size w2 wd := by rw [hwd]; exact (Below.refl _ _).drew
    rw [← hwd] at hS0 ⊢
    have e2 : (wd.alloc (.cells #[] 5)).cell? ⟨rb, 1, none⟩ = some (.slice A1 b.length c1) := (World.cell?_alloc_lt _ _ _ (World.block_lt_of_cell? wd _ hS0)).trans hS0
    have H5 := Lib.hid (H4.out.below hbd)
    have HR5 := Lib.hid (HR4.out.below hbd)
    have HX5 := Lib.hid (HX3.out.below hbd)
    have HU5 := Lib.hid (((Upd.of_below HB.out).trans HU.out).trans (Upd.of_below hbd))
    clear hwd hbd H4 HR4 HX3 HR e1 HU HB
    refine wpAnyP_pure (v := ?_) 0 (at_toArray rfl) (by kernel_rfl) (by kernel_rfl) (by kernel_rfl) (fun _ _ _ h => h) (Or.inl ⟨by rfl, fun W => ?_⟩) ?_
    rotate_left 1
    · (go_simp <;> (try go_bits) <;> with_reducible rfl)
    simp only [Act.put, List.setIfInBounds_toArray, List.set_cons_zero, List.set_cons_succ]
    refine wpAnyP_pure (v := ?_) 1 (at_toArray rfl) (by kernel_rfl) (by kernel_rfl) (by kernel_rfl) (fun _ _ _ h => h) (Or.inl ⟨by rfl, fun W => ?_⟩) ?_
    rotate_left 1
    · (go_simp <;> (try go_bits) <;> with_reducible rfl)
    simp only [Act.put, List.setIfInBounds_toArray, List.set_cons_zero, List.set_cons_succ]
    refine wpAnyP_pure (v := ?_) 3 (at_toArray rfl) (by kernel_rfl) (by kernel_rfl) (by kernel_rfl) (fun _ _ _ h => h) (Or.inl ⟨by rfl, fun W => ?_⟩) ?_
    rotate_left 1
    · (go_simp <;> (try go_bits) <;> with_reducible rfl)
    simp only [Act.put, List.setIfInBounds_toArray, List.set_cons_zero, List.set_cons_succ]
    refine wpAnyP_pure (v := ?_) 4 (at_toArray rfl) (by kernel_rfl) (by kernel_rfl) (by kernel_rfl) (fun _ _ _ h => h) (Or.inl ⟨by rfl, fun W => ?_⟩) ?_
    rotate_left 1
    · (go_simp <;> (try go_bits) <;> with_reducible rfl)
    simp only [Act.put, List.setIfInBounds_toArray, List.set_cons_zero, List.set_cons_succ]
    refine wpAnyP_pure (v := ?_) 5 (at_toArray rfl) (by kernel_rfl) (by kernel_rfl) (by kernel_rfl) (fun _ _ _ h => h) (Or.inl ⟨by rfl, fun W => ?_⟩) ?_
    rotate_left 1
    · (go_simp <;> (try go_bits) <;> with_reducible rfl)
    simp only [Act.put, List.setIfInBounds_toArray, List.set_cons_zero, List.set_cons_succ]
    refine wpAnyP_pure (v := ?_) 6 (at_toArray rfl) (by kernel_rfl) (by kernel_rfl) (by kernel_rfl) (fun _ _ _ h => h) (Or.inl ⟨by rfl, fun W => ?_⟩) ?_
    rotate_left 1
    · (go_simp <;> (try go_bits) <;> with_reducible rfl)
    simp only [Act.put, List.setIfInBounds_toArray, List.set_cons_zero, List.set_cons_succ]
    refine wpAnyP_pure (v := ?_) 7 (at_toArray rfl) (by kernel_rfl) (by kernel_rfl) (by kernel_rfl) (fun _ _ _ h => h) (Or.inl ⟨by rfl, fun W => ?_⟩) ?_
    rotate_left 1
    · (go_simp <;> (try go_bits) <;> with_reducible rfl)
    simp only [Act.put, List.setIfInBounds_toArray, List.set_cons_zero, List.set_cons_succ]
    refine wpAnyP_load (v := ?_) 8 (by kernel_rfl) (at_toArray rfl) (by kernel_rfl) (by kernel_rfl) (by kernel_rfl) (fun _ _ _ h => h) (by first | assumption | rfl) (Or.inl ⟨by rfl, fun W hS => ?_⟩) ?_
    rotate_left 1
    · (obtain f2 := hS; go_simp <;> (try go_bits) <;> with_reducible rfl)
    simp only [Act.put, List.setIfInBounds_toArray, List.set_cons_zero, List.set_cons_succ]
    refine wpAnyP_pure (v := ?_) 10 (at_toArray rfl) (by kernel_rfl) (by kernel_rfl) (by kernel_rfl) (fun _ _ _ h => h) (Or.inl ⟨by rfl, fun W => ?_⟩) ?_
    rotate_left 1
    · (go_simp <;> (try go_bits) <;> with_reducible rfl)
    simp only [Act.put, List.setIfInBounds_toArray, List.set_cons_zero, List.set_cons_succ]
    refine wpAnyP_pure (v := ?_) 12 (at_toArray rfl) (by kernel_rfl) (by kernel_rfl) (by kernel_rfl) (fun _ _ _ h => h) (Or.inl ⟨by rfl, fun W => ?_⟩) ?_
    rotate_left 1
    · (go_simp <;> (try go_bits) <;> with_reducible rfl)
    simp only [Act.put, List.setIfInBounds_toArray, List.set_cons_zero, List.set_cons_succ]
    refine wpAnyP_pure (v := ?_) 13 (at_toArray rfl) (by kernel_rfl) (by kernel_rfl) (by kernel_rfl) (fun _ _ _ h => h) (Or.inl ⟨by rfl, fun W => ?_⟩) ?_
    rotate_left 1
    · (go_simp <;> (try go_bits) <;> with_reducible rfl)
    simp only [Act.put, List.setIfInBounds_toArray, List.set_cons_zero, List.set_cons_succ]
    refine wpAnyP_one 2 (at_toArray rfl) (by kernel_rfl) rfl (fun K hK => ?_)
    go_wp2_with fail
    refine hK.out _ _ (fun _ _ => e2) ?_
    clear hK
    refine wpAnyP_one 9 (at_toArray rfl) (by kernel_rfl) rfl (fun K hK => ?_)
    refine wp_append_b (.tmp 31) (.tmp 37) rfl (.slice (some ⟨wd.heap.size, 0, none⟩) 0 0) [] rfl (OB.lit wd [] _ rfl (by decide)) A1 c1 b rfl (HR5.out.below ((Below.refl wd.heap.size wd).alloc (Nat.le_refl _) _)) (by simp; omega) ?_
    intro v w1 HO hg hat
    have hfr := clone_facts HO hg hat
    clear HO hg hat
    have f2 : w1.cell? ⟨rb, 1, none⟩ = some (.slice A1 b.length c1) := (hfr.2.1.cell (World.block_lt_of_cell? wd _ hS0)).trans hS0
    refine hK.out _ _ (fun _ _ => f2) ?_
    simp only [Act.put, List.setIfInBounds_toArray, List.set_cons_zero, List.set_cons_succ]
    clear hK e2
    refine wpAnyP_one 11 (at_toArray rfl) (by kernel_rfl) rfl (fun K hK => ?_)
    refine wp_append_b (.tmp 38) (.tmp 39) rfl v b rfl hfr.1 A c xs (by rw [← HME.out]; rfl) (HX5.out.below hfr.2.1) (by rw [← HME.out]; omega) ?_
    intro v2 w3 HO hg hat
    have hfr2 : Fresh wd w3 v2 (b ++ xs) := by
      have hb3 : Below wd.heap.size wd w3 := hfr.2.1.grown hg hfr.2.1.size (fun k hk => hfr.2.2 k hk)
      refine ⟨HO, hb3, fun k hk => ?_⟩
      rcases hat with ha | ha
      · rw [ha] at hk; exact hfr.2.2 k hk
      · rw [ha] at hk; cases hk; exact hfr.2.1.size
    clear HO hg hat hfr
    have f3 : w3.cell? ⟨rb, 1, none⟩ = some (.slice A1 b.length c1) := (hfr2.2.1.cell (World.block_lt_of_cell? wd _ hS0)).trans hS0
    have g3 : w3.frozen? ⟨rb, 1, none⟩ = false := (H5.out.below hfr2.2.1).blk.free 1
    refine hK.out _ _ (fun _ _ => f3) ?_
    simp only [Act.put, List.setIfInBounds_toArray, List.set_cons_zero, List.set_cons_succ]
    clear hK hS0 f2
    have h6 := H5.out.row0 hfr2 HOK.out
    have u6 := HU5.out.trans (upd_row (rb := rb) (i := 1) hfr2 H5.out.ft)
    obtain ⟨A3, c3, rfl⟩ := hfr2.1.form
    obtain ⟨nn, hnn⟩ : ∃ nn, nn = (b ++ xs).length := ⟨_, rfl⟩
    rw [← hnn] at h6 u6 ⊢
    clear hnn
    have H6 := Lib.hid h6
    have U6 := Lib.hid u6
    clear h6 u6 hfr2
    refine wpAnyP_pure (v := ?_) 14 (at_toArray rfl) (by kernel_rfl) (by kernel_rfl) (by kernel_rfl) (fun _ _ _ h => h) (Or.inl ⟨by rfl, fun W => ?_⟩) ?_
    rotate_left 1
    · (go_simp <;> (try go_bits) <;> with_reducible rfl)
    simp only [Act.put, List.setIfInBounds_toArray, List.set_cons_zero, List.set_cons_succ]
    refine wpAnyP_one 15 (at_toArray rfl) (by kernel_rfl) rfl (fun K hK => ?_)
    go_wp2_with fail
    refine hK.out _ _ (fun h => absurd h (by decide)) ?_
    clear hK
    refine wpAnyP_done (by kernel_rfl) ?_ _
    clear f3 g3
    go_wp2_with fail
    go_ret
    rw [HOP.out, HAPP.out]
    exact ⟨rfl, _, ⟨_, _, _, _, H6.out⟩, U6.out⟩
  · rw [if_neg (by decide)] at HOP
    go_wp2_with fail
    go_ret
    rw [HOP.out]
    exact ⟨rfl, F', HR.out, ((Upd.of_below HB.out).trans HU.out)⟩
set_option maxRecDepth 100000 in
set_option maxHeartbeats 4000000 in
theorem rsync_1 (rb : Nat) (T : TS) (F : Nat → Prop) (w : World) (h : RefR w rb T F) (ho : T.off = false) :
    Calls Tryz.prog 61 #[.pointer (some ⟨rb, 0, none⟩), .int .i64 1] w (DoesR w rb F (T.op fun T => T.syn 1)) := by
  have h5 : w.cell? ⟨rb, 5, none⟩ = some (.bool false) := by
    obtain ⟨l, k, u0, u1, h⟩ := h
    rw [← ho]; exact h.blk.cell 5
  have H := Lib.hid h
  obtain ⟨r, T1, hm⟩ : ∃ r T1, T.may = (r, T1) := ⟨_, _, rfl⟩
  have hfo : r = 0 ∨ r = 150 := by have := may_form T; rw [hm] at this; exact this
  have hop : (T.op fun T => T.syn 1) = if r = 0 then (0, T1.syn 1) else (r, T1) := by rw [op_may, hm]
  have HM := Lib.hid hm
  have HOP := Lib.hid hop
  clear h hm hop ho
  go_enter Tryz.func61, Tryz.ntmps61
  go_wp2_with fail
  refine (rfault_any rb 1 false w h5).mono ?_
  rintro e w' ⟨rfl, rfl⟩
  rw [show faultN false 1 = 0 from rfl]
  clear h5
  go_wp2_with fail
  refine (rmay_any rb T F w H.out).mono ?_
  rw [HM.out]
  rintro e w2 ⟨rfl, F', hr, hu⟩
  have HR : Hid (RefR w2 rb T1 F') := Lib.hid hr
  have HU := Lib.hid hu
  clear hr hu H
  rcases hfo with rfl | rfl
  · rw [if_pos rfl] at HOP
    obtain ⟨l, k, u0, u1, h⟩ := HR.out
    have hl := h.len1
    obtain ⟨A, c, rfl, _⟩ := h.o1.reads' (by omega)
    obtain ⟨n, hn⟩ : ∃ n, n = T1.b1.length := ⟨_, rfl⟩
    have e1 : w2.cell? ⟨rb, 2, none⟩ = some (.slice A n c) := by rw [hn]; exact h.blk.cell 2
    have e2 : w2.drew.cell? ⟨rb, 4, none⟩ = some (.int .i64 (T1.s1 : Int)) := h.blk.cell 4
    have g2 : w2.drew.frozen? ⟨rb, 4, none⟩ = false := h.blk.free 4
    have H4 := Lib.hid h
    have HN := Lib.hid hn
    clear h hn hl
    go_wp2_with fail
    refine wp_region_phased (fun W => W.cell? ⟨rb, 2, none⟩ = some (.slice A n c)) 12 (by kernel_rfl) e1 (fun hS0 => ?_)
    refine wpAnyP_pure (v := ?_) 0 (at_toArray rfl) (by kernel_rfl) (by kernel_rfl) (by kernel_rfl) (fun _ _ _ h => h) (Or.inl ⟨by rfl, fun W => ?_⟩) ?_
    rotate_left 1
    · (go_simp <;> (try go_bits) <;> with_reducible rfl)
    simp only [Act.put, List.setIfInBounds_toArray, List.set_cons_zero, List.set_cons_succ]
    refine wpAnyP_pure (v := ?_) 1 (at_toArray rfl) (by kernel_rfl) (by kernel_rfl) (by kernel_rfl) (fun _ _ _ h => h) (Or.inl ⟨by rfl, fun W => ?_⟩) ?_
    rotate_left 1
    · (go_simp <;> (try go_bits) <;> with_reducible rfl)
    simp only [Act.put, List.setIfInBounds_toArray, List.set_cons_zero, List.set_cons_succ]
    refine wpAnyP_pure (v := ?_) 2 (at_toArray rfl) (by kernel_rfl) (by kernel_rfl) (by kernel_rfl) (fun _ _ _ h => h) (Or.inl ⟨by rfl, fun W => ?_⟩) ?_
    rotate_left 1
    · (go_simp <;> (try go_bits) <;> with_reducible rfl)
    simp only [Act.put, List.setIfInBounds_toArray, List.set_cons_zero, List.set_cons_succ]
    refine wpAnyP_pure (v := ?_) 3 (at_toArray rfl) (by kernel_rfl) (by kernel_rfl) (by kernel_rfl) (fun _ _ _ h => h) (Or.inl ⟨by rfl, fun W => ?_⟩) ?_
    rotate_left 1
    · (go_simp <;> (try go_bits) <;> with_reducible rfl)
    simp only [Act.put, List.setIfInBounds_toArray, List.set_cons_zero, List.set_cons_succ]
    refine wpAnyP_pure (v := ?_) 4 (at_toArray rfl) (by kernel_rfl) (by kernel_rfl) (by kernel_rfl) (fun _ _ _ h => h) (Or.inl ⟨by rfl, fun W => ?_⟩) ?_
    rotate_left 1
    · (go_simp <;> (try go_bits) <;> with_reducible rfl)
    simp only [Act.put, List.setIfInBounds_toArray, List.set_cons_zero, List.set_cons_succ]
    refine wpAnyP_pure (v := ?_) 5 (at_toArray rfl) (by kernel_rfl) (by kernel_rfl) (by kernel_rfl) (fun _ _ _ h => h) (Or.inl ⟨by rfl, fun W => ?_⟩) ?_
    rotate_left 1
    · (go_simp <;> (try go_bits) <;> with_reducible rfl)
    simp only [Act.put, List.setIfInBounds_toArray, List.set_cons_zero, List.set_cons_succ]
    refine wpAnyP_pure (v := ?_) 6 (at_toArray rfl) (by kernel_rfl) (by kernel_rfl) (by kernel_rfl) (fun _ _ _ h => h) (Or.inl ⟨by rfl, fun W => ?_⟩) ?_
    rotate_left 1
    · (go_simp <;> (try go_bits) <;> with_reducible rfl)
    simp only [Act.put, List.setIfInBounds_toArray, List.set_cons_zero, List.set_cons_succ]
    refine wpAnyP_load (v := ?_) 7 (by kernel_rfl) (at_toArray rfl) (by kernel_rfl) (by kernel_rfl) (by kernel_rfl) (fun _ _ _ h => h) (by first | assumption | rfl) (Or.inl ⟨by rfl, fun W hS => ?_⟩) ?_
    rotate_left 1
    · (obtain f2 := hS; go_simp <;> (try go_bits) <;> with_reducible rfl)
    simp only [Act.put, List.setIfInBounds_toArray, List.set_cons_zero, List.set_cons_succ]
    refine wpAnyP_pure (v := ?_) 8 (at_toArray rfl) (by kernel_rfl) (by kernel_rfl) (by kernel_rfl) (fun _ _ _ h => h) (Or.inl ⟨by rfl, fun W => ?_⟩) ?_
    rotate_left 1
    · (go_simp <;> (try go_bits) <;> with_reducible rfl)
    simp only [Act.put, List.setIfInBounds_toArray, List.set_cons_zero, List.set_cons_succ]
    refine wpAnyP_pure (v := ?_) 9 (at_toArray rfl) (by kernel_rfl) (by kernel_rfl) (by kernel_rfl) (fun _ _ _ h => h) (Or.inl ⟨by rfl, fun W => ?_⟩) ?_
    rotate_left 1
    · (go_simp <;> (try go_bits) <;> with_reducible rfl)
    simp only [Act.put, List.setIfInBounds_toArray, List.set_cons_zero, List.set_cons_succ]
    refine wpAnyP_pure (v := ?_) 10 (at_toArray rfl) (by kernel_rfl) (by kernel_rfl) (by kernel_rfl) (fun _ _ _ h => h) (Or.inl ⟨by rfl, fun W => ?_⟩) ?_
    rotate_left 1
    · (go_simp <;> (try go_bits) <;> with_reducible rfl)
    simp only [Act.put, List.setIfInBounds_toArray, List.set_cons_zero, List.set_cons_succ]
    refine wpAnyP_pure (v := ?_) 11 (at_toArray rfl) (by kernel_rfl) (by kernel_rfl) (by kernel_rfl) (fun _ _ _ h => h) (Or.inl ⟨by rfl, fun W => ?_⟩) ?_
    rotate_left 1
    · (go_simp <;> (try go_bits) <;> with_reducible rfl)
    simp only [Act.put, List.setIfInBounds_toArray, List.set_cons_zero, List.set_cons_succ]
    refine wpAnyP_one 12 (at_toArray rfl) (by kernel_rfl) rfl (fun K hK => ?_)
    go_wp2_with fail
    refine hK.out _ _ (fun h => absurd h (by decide)) ?_
    clear hK
    refine wpAnyP_done (by kernel_rfl) ?_ _
    clear hS0 e1 e2 g2
    go_wp2_with fail
    go_ret
    rw [HOP.out]
    have h := H4.out
    have hf : Fr (fun k => k = rb) w2 (w2.setCell ⟨rb, 4, none⟩ (.int .i64 (n : Int))).drew := (fr_own w2 rb 4 _).trans (Fr.drew _ _) (fun _ h => .inl h)
    have hok : TS.ok { T1 with s1 := n } := ⟨h.wf.s0, by show n ≤ _; rw [HN.out]; exact Nat.le_refl _, h.wf.fit, h.wf.room, h.wf.left⟩
    have h9 := h.re (T' := { T1 with s1 := n }) (l' := l) (k' := k) hf (h.blk.set 4 (.int .i64 (n : Int))) rfl rfl h.pl hok
    have hsy : T1.syn 1 = { T1 with s1 := n } := by rw [HN.out]; rfl
    rw [hsy]
    exact ⟨rfl, F', ⟨_, _, _, _, h9⟩, HU.out.trans (upd_re hf h.ft)⟩
  · rw [if_neg (by decide)] at HOP
    go_wp2_with fail
    go_ret
    rw [HOP.out]
    exact ⟨rfl, F', HR.out, HU.out⟩
set_option maxRecDepth 100000 in
set_option maxHeartbeats 4000000 in
theorem rclear_1 (rb : Nat) (T : TS) (F : Nat → Prop) (w : World) (h : RefR w rb T F) (ho : T.off = false) :
    Calls Tryz.prog 32 #[.pointer (some ⟨rb, 0, none⟩), .int .i64 1] w (DoesR w rb F (T.op fun T => T.clr 1)) := by
  have h5 : w.cell? ⟨rb, 5, none⟩ = some (.bool false) := by
    obtain ⟨l, k, u0, u1, h⟩ := h
    rw [← ho]; exact h.blk.cell 5
  have H := Lib.hid h
  obtain ⟨r, T1, hm⟩ : ∃ r T1, T.may = (r, T1) := ⟨_, _, rfl⟩
  have hfo : r = 0 ∨ r = 150 := by have := may_form T; rw [hm] at this; exact this
  have hop : (T.op fun T => T.clr 1) = if r = 0 then (0, T1.clr 1) else (r, T1) := by rw [op_may, hm]
  have HM := Lib.hid hm
  have HOP := Lib.hid hop
  clear h hm hop ho
  go_enter Tryz.func32, Tryz.ntmps32
  go_wp2_with fail
  refine (rfault_any rb 1 false w h5).mono ?_
  rintro e w' ⟨rfl, rfl⟩
  rw [show faultN false 1 = 0 from rfl]
  clear h5
  go_wp2_with fail
  refine (rmay_any rb T F w H.out).mono ?_
  rw [HM.out]
  rintro e w2 ⟨rfl, F', hr, hu⟩
  have HR : Hid (RefR w2 rb T1 F') := Lib.hid hr
  have HU := Lib.hid hu
  clear hr hu H
  rcases hfo with rfl | rfl
  · rw [if_pos rfl] at HOP
    obtain ⟨l, k, u0, u1, h⟩ := HR.out
    have e1 : w2.cell? ⟨rb, 2, none⟩ = some u1 := h.blk.cell 2
    have g1 : w2.frozen? ⟨rb, 2, none⟩ = false := h.blk.free 2
    have hok : TS.ok { T1 with b1 := [], s1 := 0 } := by
      have hfit := h.wf.fit
      unfold TS.used at hfit
      refine ⟨h.wf.s0, Nat.le_refl _, ?_, h.wf.room, h.wf.left⟩
      show ((T1.b0.length + 0 : Nat) : Int) ≤ T1.room
      omega
    have e2 : w2.cell? ⟨rb, 4, none⟩ = some (.int .i64 (T1.s1 : Int)) := h.blk.cell 4
    have g2 : w2.frozen? ⟨rb, 4, none⟩ = false := h.blk.free 4
    have H4 := Lib.hid h
    clear h
    go_wp2_with fail
    go_ret
    rw [HOP.out]
    have h := H4.out
    have hf : Fr (fun k => k = rb) w2 ((w2.setCell ⟨rb, 2, none⟩ (.slice none 0 0)).setCell ⟨rb, 4, none⟩ (.int .i64 0)) := (fr_own w2 rb 2 _).trans (fr_own _ rb 4 _) (fun _ h => .inl h)
    have hnb : ∀ k, (Value.slice none 0 0).ownBlock = some k → False := fun k hk => by simp [Value.ownBlock] at hk
    have h9 : RefAt ((w2.setCell ⟨rb, 2, none⟩ (.slice none 0 0)).setCell ⟨rb, 4, none⟩ (.int .i64 0)) rb { T1 with b1 := [], s1 := 0 } F' l k u0 (.slice none 0 0) := by
      have h1 := h.blk.set 2 (.slice none 0 0)
      refine ⟨h1.set 4 (.int .i64 0), ?_, ?_, h.pl, ?_, h.ft, ?_, ?_, fun k hk => Nat.lt_of_lt_of_le (h.flt k hk) hf.size, hok⟩
      · exact h.o0.fr hf (fun k hk e => h.o0.ne h.blk (by decide) (e ▸ hk))
      · exact OB.nil _
      · exact fun k _ hk => hnb k hk
      · exact h.f0
      · exact fun k hk => (hnb k hk).elim
    exact ⟨rfl, F', ⟨_, _, _, _, h9⟩, HU.out.trans (upd_re hf h.ft)⟩
  · rw [if_neg (by decide)] at HOP
    go_wp2_with fail
    go_ret
    rw [HOP.out]
    exact ⟨rfl, F', HR.out, HU.out⟩
set_option maxRecDepth 100000 in
set_option maxHeartbeats 4000000 in
theorem rappend_1 (rb : Nat) (A : Option Addr) (c : Nat) (xs : List UInt8) (T : TS) (F : Nat → Prop) (w : World) (h : RefR w rb T F) (ho : T.off = false) (hx : RB w A xs) (hA : ∀ a, A = some a → 0 < xs.length → ¬ F a.block) (hroom : ¬ T.room - (T.used : Int) < (xs.length : Int)) :
    Calls Tryz.prog 30 #[.pointer (some ⟨rb, 0, none⟩), .int .i64 1, .slice A xs.length c] w (DoesR w rb F (T.op fun T => T.app 1 xs)) := by
  have h5 : w.cell? ⟨rb, 5, none⟩ = some (.bool false) := by
    obtain ⟨l, k, u0, u1, h⟩ := h
    rw [← ho]; exact h.blk.cell 5
  have H := Lib.hid h
  obtain ⟨r, T1, hm⟩ : ∃ r T1, T.may = (r, T1) := ⟨_, _, rfl⟩
  have hfo : r = 0 ∨ r = 150 := by have := may_form T; rw [hm] at this; exact this
  have hop : (T.op fun T => T.app 1 xs) = if r = 0 then (0, T1.app 1 xs) else (r, T1) := by rw [op_may, hm]
  have HM := Lib.hid hm
  have HOP := Lib.hid hop
  obtain ⟨m, hme⟩ : ∃ m, m = xs.length := ⟨_, rfl⟩
  rw [← hme] at hroom ⊢
  have HME := Lib.hid hme
  have HX := Lib.hid hx
  have HA := Lib.hid hA
  have hml : m ≤ 140737488355328 := by rw [hme]; exact hx.1
  clear hme hx hA
  clear h hm hop ho
  go_enter Tryz.func30, Tryz.ntmps30
  go_wp2_with fail
  refine (rfault_any rb 1 false w h5).mono ?_
  rintro e w' ⟨rfl, rfl⟩
  rw [show faultN false 1 = 0 from rfl]
  clear h5
  go_wp2_with fail
  have hrm : w.cell? ⟨rb, 0, none⟩ = some (.int .i64 T.room) := by
    obtain ⟨l, k, u0, u1, h⟩ := H.out
    exact h.blk.cell 0
  obtain ⟨us, hus⟩ : ∃ us : Nat, us = T.used := ⟨_, rfl⟩
  rw [← hus] at hroom
  have hub : (us : Int) ≤ T.room ∧ T.room ≤ 1073741824 := by
    obtain ⟨l, k, u0, u1, h⟩ := H.out
    have := h.wf.fit
    exact ⟨by rw [hus]; exact this, h.wf.room⟩
  obtain ⟨hu1, hu2⟩ := hub
  have HUS := Lib.hid hus
  clear hus
  refine wp_region_phased (fun W => (∃ n, W = w.drewN n) ∧ W.cell? ⟨rb, 0, none⟩ = some (.int .i64 T.room)) 10 (by kernel_rfl) ⟨⟨1, rfl⟩, hrm⟩ (fun hS0 => ?_)
  refine wpAnyP_pure (v := ?_) 0 (at_toArray rfl) (by kernel_rfl) (by kernel_rfl) (by kernel_rfl) (fun _ _ _ h => h) (Or.inl ⟨by rfl, fun W => ?_⟩) ?_
  rotate_left 1
  · (go_simp <;> (try go_bits) <;> with_reducible rfl)
  simp only [Act.put, List.setIfInBounds_toArray, List.set_cons_zero, List.set_cons_succ]
  refine wpAnyP_pure (v := ?_) 1 (at_toArray rfl) (by kernel_rfl) (by kernel_rfl) (by kernel_rfl) (fun _ _ _ h => h) (Or.inl ⟨by rfl, fun W => ?_⟩) ?_
  rotate_left 1
  · (go_simp <;> (try go_bits) <;> with_reducible rfl)
  simp only [Act.put, List.setIfInBounds_toArray, List.set_cons_zero, List.set_cons_succ]
  refine wpAnyP_pure (v := ?_) 2 (at_toArray rfl) (by kernel_rfl) (by kernel_rfl) (by kernel_rfl) (fun _ _ _ h => h) (Or.inl ⟨by rfl, fun W => ?_⟩) ?_
  rotate_left 1
  · (go_simp <;> (try go_bits) <;> with_reducible rfl)
  simp only [Act.put, List.setIfInBounds_toArray, List.set_cons_zero, List.set_cons_succ]
  refine wpAnyP_pure (v := ?_) 3 (at_toArray rfl) (by kernel_rfl) (by kernel_rfl) (by kernel_rfl) (fun _ _ _ h => h) (Or.inl ⟨by rfl, fun W => ?_⟩) ?_
  rotate_left 1
  · (go_simp <;> (try go_bits) <;> with_reducible rfl)
  simp only [Act.put, List.setIfInBounds_toArray, List.set_cons_zero, List.set_cons_succ]
  refine wpAnyP_pure (v := ?_) 4 (at_toArray rfl) (by kernel_rfl) (by kernel_rfl) (by kernel_rfl) (fun _ _ _ h => h) (Or.inl ⟨by rfl, fun W => ?_⟩) ?_
  rotate_left 1
  · (go_simp <;> (try go_bits) <;> with_reducible rfl)
  simp only [Act.put, List.setIfInBounds_toArray, List.set_cons_zero, List.set_cons_succ]
  refine wpAnyP_load (v := ?_) 5 (by kernel_rfl) (at_toArray rfl) (by kernel_rfl) (by kernel_rfl) (by kernel_rfl) (fun _ _ _ h => h) (by first | assumption | rfl) (Or.inl ⟨by rfl, fun W hS => ?_⟩) ?_
  rotate_left 1
  · (obtain ⟨_, f1⟩ := hS; go_simp <;> (try go_bits) <;> with_reducible rfl)
  simp only [Act.put, List.setIfInBounds_toArray, List.set_cons_zero, List.set_cons_succ]
  refine wpAnyP_pure (v := ?_) 6 (at_toArray rfl) (by kernel_rfl) (by kernel_rfl) (by kernel_rfl) (fun _ _ _ h => h) (Or.inl ⟨by rfl, fun W => ?_⟩) ?_
  rotate_left 1
  · (go_simp <;> (try go_bits) <;> with_reducible rfl)
  simp only [Act.put, List.setIfInBounds_toArray, List.set_cons_zero, List.set_cons_succ]
  refine wpAnyP_one 7 (at_toArray rfl) (by kernel_rfl) rfl (fun K hK => ?_)
  go_wp2_with fail
  refine (rused_any rb T F _ (H.out.below (Below.refl _ _).drew)).mono ?_
  rw [← HUS.out]
  rintro e w' ⟨rfl, n1, rfl⟩
  go_wp2_with fail
  refine hK.out _ _ (fun _ _ => ⟨⟨1 + n1, rfl⟩, hrm⟩) ?_
  clear hK
  refine wpAnyP_pure (v := ?_) 8 (at_toArray rfl) (by kernel_rfl) (by kernel_rfl) (by kernel_rfl) (fun _ _ _ h => h) (Or.inl ⟨by rfl, fun W => ?_⟩) ?_
  rotate_left 1
  · (go_simp <;> (try go_bits) <;> with_reducible rfl)
  simp only [Act.put, List.setIfInBounds_toArray, List.set_cons_zero, List.set_cons_succ]
  refine wpAnyP_pure (v := ?_) 9 (at_toArray rfl) (by kernel_rfl) (by kernel_rfl) (by kernel_rfl) (fun _ _ _ h => h) (Or.inl ⟨by rfl, fun W => ?_⟩) ?_
  rotate_left 1
  · (go_simp <;> (try go_bits) <;> with_reducible rfl)
  simp only [Act.put, List.setIfInBounds_toArray, List.set_cons_zero, List.set_cons_succ]
  refine wpAnyP_done (by kernel_rfl) ?_ _
  clear hS0 hrm
  have hbn : Below w.heap.size w (w.drewN (1 + n1)) := ⟨rfl, rfl, rfl, Nat.le_refl _, fun _ _ => rfl⟩
  have HB := Lib.hid hbn
  have H2 := Lib.hid (H.out.below hbn)
  have HX2 := Lib.hid (HX.out.below hbn)
  clear H HX hbn
  generalize w.drewN (1 + n1) = wa at *
  go_wp2_with fail
  refine (rmay_any rb T F wa H2.out).mono ?_
  rw [HM.out]
  rintro e w2 ⟨rfl, F', hr, hu⟩
  have HR : Hid (RefR w2 rb T1 F') := Lib.hid hr
  have HU := Lib.hid hu
  have HX3 := Lib.hid (HX2.out.fr2 hu.fr HA.out)
  clear HX2 HA
  clear hr hu H2
  rcases hfo with rfl | rfl
  · rw [if_pos rfl] at HOP
    obtain ⟨l, k, u0, u1, h⟩ := HR.out
    have hl := h.len1
    obtain ⟨A1, c1, rfl, hr, _⟩ := h.o1.reads' (by omega)
    obtain ⟨b, hb⟩ : ∃ b, b = T1.b1 := ⟨_, rfl⟩
    have e1 : w2.cell? ⟨rb, 2, none⟩ = some (.slice A1 b.length c1) := by rw [hb]; exact h.blk.cell 2
    rw [← hb] at hr hl
    have hok : T1.used + m ≤ T1.room → TS.ok { T1 with b1 := b ++ xs } := fun hfit => by
      unfold TS.used at hfit
      refine ⟨h.wf.s0, ?_, ?_, h.wf.room, h.wf.left⟩
      · show T1.s1 ≤ (b ++ xs).length
        have := h.wf.s1
        rw [List.length_append, hb]; omega
      · show ((T1.b0.length + (b ++ xs).length : Nat) : Int) ≤ T1.room
        rw [List.length_append, ← HME.out, hb]; omega
    have hsame : T1.used = T.used ∧ T1.room = T.room := may_same HM.out rfl
    have HOK : Hid (TS.ok { T1 with b1 := b ++ xs }) := Lib.hid (hok (by have h1 := hsame.1; have h2 := hsame.2; have h3 := HUS.out; omega))
    have HAPP : Hid (T1.app 1 xs = { T1 with b1 := b ++ xs }) := Lib.hid (by rw [hb]; rfl)
    have H4 := Lib.hid h
    have HR4 := Lib.hid hr
    clear h hr hb hok hsame
    go_wp2_with fail
    refine wp_region_phased (fun W => W.cell? ⟨rb, 2, none⟩ = some (.slice A1 b.length c1)) 15 (by kernel_rfl) e1 (fun hS0 => ?_)
    obtain ⟨wd, hwd⟩ : ∃ wd, wd = w2.drew := ⟨_, rfl⟩
    have hbd : Below w2.heap.size w2 wd := by rw [hwd]; exact (Below.refl _ _).drew
    rw [← hwd] at hS0 ⊢
    have e2 : (wd.alloc (.cells #[] 5)).cell? ⟨rb, 2, none⟩ = some (.slice A1 b.length c1) := (World.cell?_alloc_lt _ _ _ (World.block_lt_of_cell? wd _ hS0)).trans hS0
    have H5 := Lib.hid (H4.out.below hbd)
    have HR5 := Lib.hid (HR4.out.below hbd)
    have HX5 := Lib.hid (HX3.out.below hbd)
    have HU5 := Lib.hid (((Upd.of_below HB.out).trans HU.out).trans (Upd.of_below hbd))
    clear hwd hbd H4 HR4 HX3 HR e1 HU HB
    refine wpAnyP_pure (v := ?_) 0 (at_toArray rfl) (by kernel_rfl) (by kernel_rfl) (by kernel_rfl) (fun _ _ _ h => h) (Or.inl ⟨by rfl, fun W => ?_⟩) ?_
    rotate_left 1
    · (go_simp <;> (try go_bits) <;> with_reducible rfl)
    simp only [Act.put, List.setIfInBounds_toArray, List.set_cons_zero, List.set_cons_succ]
    refine wpAnyP_pure (v := ?_) 1 (at_toArray rfl) (by kernel_rfl) (by kernel_rfl) (by kernel_rfl) (fun _ _ _ h => h) (Or.inl ⟨by rfl, fun W => ?_⟩) ?_
    rotate_left 1
    · (go_simp <;> (try go_bits) <;> with_reducible rfl)
    simp only [Act.put, List.setIfInBounds_toArray, List.set_cons_zero, List.set_cons_succ]
    refine wpAnyP_pure (v := ?_) 3 (at_toArray rfl) (by kernel_rfl) (by kernel_rfl) (by kernel_rfl) (fun _ _ _ h => h) (Or.inl ⟨by rfl, fun W => ?_⟩) ?_
    rotate_left 1
    · (go_simp <;> (try go_bits) <;> with_reducible rfl)
    simp only [Act.put, List.setIfInBounds_toArray, List.set_cons_zero, List.set_cons_succ]
    refine wpAnyP_pure (v := ?_) 4 (at_toArray rfl) (by kernel_rfl) (by kernel_rfl) (by kernel_rfl) (fun _ _ _ h => h) (Or.inl ⟨by rfl, fun W => ?_⟩) ?_
    rotate_left 1
    · (go_simp <;> (try go_bits) <;> with_reducible rfl)
    simp only [Act.put, List.setIfInBounds_toArray, List.set_cons_zero, List.set_cons_succ]
    refine wpAnyP_pure (v := ?_) 5 (at_toArray rfl) (by kernel_rfl) (by kernel_rfl) (by kernel_rfl) (fun _ _ _ h => h) (Or.inl ⟨by rfl, fun W => ?_⟩) ?_
    rotate_left 1
    · (go_simp <;> (try go_bits) <;> with_reducible rfl)
    simp only [Act.put, List.setIfInBounds_toArray, List.set_cons_zero, List.set_cons_succ]
    refine wpAnyP_pure (v := ?_) 6 (at_toArray rfl) (by kernel_rfl) (by kernel_rfl) (by kernel_rfl) (fun _ _ _ h => h) (Or.inl ⟨by rfl, fun W => ?_⟩) ?_
    rotate_left 1
    · (go_simp <;> (try go_bits) <;> with_reducible rfl)
    simp only [Act.put, List.setIfInBounds_toArray, List.set_cons_zero, List.set_cons_succ]
    refine wpAnyP_pure (v := ?_) 7 (at_toArray rfl) (by kernel_rfl) (by kernel_rfl) (by kernel_rfl) (fun _ _ _ h => h) (Or.inl ⟨by rfl, fun W => ?_⟩) ?_
    rotate_left 1
    · (go_simp <;> (try go_bits) <;> with_reducible rfl)
    simp only [Act.put, List.setIfInBounds_toArray, List.set_cons_zero, List.set_cons_succ]
    refine wpAnyP_load (v := ?_) 8 (by kernel_rfl) (at_toArray rfl) (by kernel_rfl) (by kernel_rfl) (by kernel_rfl) (fun _ _ _ h => h) (by first | assumption | rfl) (Or.inl ⟨by rfl, fun W hS => ?_⟩) ?_
    rotate_left 1
    · (obtain f2 := hS; go_simp <;> (try go_bits) <;> with_reducible rfl)
    simp only [Act.put, List.setIfInBounds_toArray, List.set_cons_zero, List.set_cons_succ]
    refine wpAnyP_pure (v := ?_) 10 (at_toArray rfl) (by kernel_rfl) (by kernel_rfl) (by kernel_rfl) (fun _ _ _ h => h) (Or.inl ⟨by rfl, fun W => ?_⟩) ?_
    rotate_left 1
    · (go_simp <;> (try go_bits) <;> with_reducible rfl)
    simp only [Act.put, List.setIfInBounds_toArray, List.set_cons_zero, List.set_cons_succ]
    refine wpAnyP_pure (v := ?_) 12 (at_toArray rfl) (by kernel_rfl) (by kernel_rfl) (by kernel_rfl) (fun _ _ _ h => h) (Or.inl ⟨by rfl, fun W => ?_⟩) ?_
    rotate_left 1
    · (go_simp <;> (try go_bits) <;> with_reducible rfl)
    simp only [Act.put, List.setIfInBounds_toArray, List.set_cons_zero, List.set_cons_succ]
    refine wpAnyP_pure (v := ?_) 13 (at_toArray rfl) (by kernel_rfl) (by kernel_rfl) (by kernel_rfl) (fun _ _ _ h => h) (Or.inl ⟨by rfl, fun W => ?_⟩) ?_
    rotate_left 1
    · (go_simp <;> (try go_bits) <;> with_reducible rfl)
    simp only [Act.put, List.setIfInBounds_toArray, List.set_cons_zero, List.set_cons_succ]
    refine wpAnyP_one 2 (at_toArray rfl) (by kernel_rfl) rfl (fun K hK => ?_)
    go_wp2_with fail
    refine hK.out _ _ (fun _ _ => e2) ?_
    clear hK
    refine wpAnyP_one 9 (at_toArray rfl) (by kernel_rfl) rfl (fun K hK => ?_)
    refine wp_append_b (.tmp 31) (.tmp 37) rfl (.slice (some ⟨wd.heap.size, 0, none⟩) 0 0) [] rfl (OB.lit wd [] _ rfl (by decide)) A1 c1 b rfl (HR5.out.below ((Below.refl wd.heap.size wd).alloc (Nat.le_refl _) _)) (by simp; omega) ?_
    intro v w1 HO hg hat
    have hfr := clone_facts HO hg hat
    clear HO hg hat
    have f2 : w1.cell? ⟨rb, 2, none⟩ = some (.slice A1 b.length c1) := (hfr.2.1.cell (World.block_lt_of_cell? wd _ hS0)).trans hS0
    refine hK.out _ _ (fun _ _ => f2) ?_
    simp only [Act.put, List.setIfInBounds_toArray, List.set_cons_zero, List.set_cons_succ]
    clear hK e2
    refine wpAnyP_one 11 (at_toArray rfl) (by kernel_rfl) rfl (fun K hK => ?_)
    refine wp_append_b (.tmp 38) (.tmp 39) rfl v b rfl hfr.1 A c xs (by rw [← HME.out]; rfl) (HX5.out.below hfr.2.1) (by rw [← HME.out]; omega) ?_
    intro v2 w3 HO hg hat
    have hfr2 : Fresh wd w3 v2 (b ++ xs) := by
      have hb3 : Below wd.heap.size wd w3 := hfr.2.1.grown hg hfr.2.1.size (fun k hk => hfr.2.2 k hk)
      refine ⟨HO, hb3, fun k hk => ?_⟩
      rcases hat with ha | ha
      · rw [ha] at hk; exact hfr.2.2 k hk
      · rw [ha] at hk; cases hk; exact hfr.2.1.size
    clear HO hg hat hfr
    have f3 : w3.cell? ⟨rb, 2, none⟩ = some (.slice A1 b.length c1) := (hfr2.2.1.cell (World.block_lt_of_cell? wd _ hS0)).trans hS0
    have g3 : w3.frozen? ⟨rb, 2, none⟩ = false := (H5.out.below hfr2.2.1).blk.free 2
    refine hK.out _ _ (fun _ _ => f3) ?_
    simp only [Act.put, List.setIfInBounds_toArray, List.set_cons_zero, List.set_cons_succ]
    clear hK hS0 f2
    have h6 := H5.out.row1 hfr2 HOK.out
    have u6 := HU5.out.trans (upd_row (rb := rb) (i := 2) hfr2 H5.out.ft)
    obtain ⟨A3, c3, rfl⟩ := hfr2.1.form
    obtain ⟨nn, hnn⟩ : ∃ nn, nn = (b ++ xs).length := ⟨_, rfl⟩
    rw [← hnn] at h6 u6 ⊢
    clear hnn
    have H6 := Lib.hid h6
    have U6 := Lib.hid u6
    clear h6 u6 hfr2
    refine wpAnyP_pure (v := ?_) 14 (at_toArray rfl) (by kernel_rfl) (by kernel_rfl) (by kernel_rfl) (fun _ _ _ h => h) (Or.inl ⟨by rfl, fun W => ?_⟩) ?_
    rotate_left 1
    · (go_simp <;> (try go_bits) <;> with_reducible rfl)
    simp only [Act.put, List.setIfInBounds_toArray, List.set_cons_zero, List.set_cons_succ]
    refine wpAnyP_one 15 (at_toArray rfl) (by kernel_rfl) rfl (fun K hK => ?_)
    go_wp2_with fail
    refine hK.out _ _ (fun h => absurd h (by decide)) ?_
    clear hK
    refine wpAnyP_done (by kernel_rfl) ?_ _
    clear f3 g3
    go_wp2_with fail
    go_ret
    rw [HOP.out, HAPP.out]
    exact ⟨rfl, _, ⟨_, _, _, _, H6.out⟩, U6.out⟩
  · rw [if_neg (by decide)] at HOP
    go_wp2_with fail
    go_ret
    rw [HOP.out]
    exact ⟨rfl, F', HR.out, ((Upd.of_below HB.out).trans HU.out)⟩
theorem rsync_any (rb : Nat) (n : Int) (T : TS) (F : Nat → Prop) (w : World) (h : RefR w rb T F) :
    Calls Tryz.prog 61 #[.pointer (some ⟨rb, 0, none⟩), .int .i64 n] w (DoesR w rb F (T.sync n)) := by
  unfold TS.sync
  by_cases hz : faultN T.off n = 0
  · rw [if_neg (by simpa using hz)]
    obtain ⟨ho, rfl | rfl⟩ := fault_zero hz
    · exact rsync_0 rb T F w h ho
    · exact rsync_1 rb T F w h ho
  · rw [if_pos hz]
    have h5 : w.cell? ⟨rb, 5, none⟩ = some (.bool T.off) := by
      obtain ⟨l, k, u0, u1, h⟩ := h
      exact h.blk.cell 5
    obtain ⟨r, hr⟩ : ∃ r, r = faultN T.off n := ⟨_, rfl⟩
    have hne : (r != 0) = true := by rw [bne_iff_ne, hr]; exact hz
    have HR := Lib.hid hr
    have H := Lib.hid h
    rw [← hr]
    clear h hz hr
    go_enter Tryz.func61, Tryz.ntmps61
    go_wp2_with fail
    refine (rfault_any rb n T.off w h5).mono ?_
    rintro e w' ⟨rfl, rfl⟩
    rw [← HR.out]
    go_wp2
    go_ret
    exact ⟨rfl, F, H.out, Upd.refl _ _⟩
theorem rclear_any (rb : Nat) (n : Int) (T : TS) (F : Nat → Prop) (w : World) (h : RefR w rb T F) :
    Calls Tryz.prog 32 #[.pointer (some ⟨rb, 0, none⟩), .int .i64 n] w (DoesR w rb F (T.clear n)) := by
  unfold TS.clear
  by_cases hz : faultN T.off n = 0
  · rw [if_neg (by simpa using hz)]
    obtain ⟨ho, rfl | rfl⟩ := fault_zero hz
    · exact rclear_0 rb T F w h ho
    · exact rclear_1 rb T F w h ho
  · rw [if_pos hz]
    have h5 : w.cell? ⟨rb, 5, none⟩ = some (.bool T.off) := by
      obtain ⟨l, k, u0, u1, h⟩ := h
      exact h.blk.cell 5
    obtain ⟨r, hr⟩ : ∃ r, r = faultN T.off n := ⟨_, rfl⟩
    have hne : (r != 0) = true := by rw [bne_iff_ne, hr]; exact hz
    have HR := Lib.hid hr
    have H := Lib.hid h
    rw [← hr]
    clear h hz hr
    go_enter Tryz.func32, Tryz.ntmps32
    go_wp2_with fail
    refine (rfault_any rb n T.off w h5).mono ?_
    rintro e w' ⟨rfl, rfl⟩
    rw [← HR.out]
    go_wp2
    go_ret
    exact ⟨rfl, F, H.out, Upd.refl _ _⟩
set_option maxRecDepth 100000 in
theorem rappend_full (rb : Nat) (n : Int) (A : Option Addr) (c : Nat) (xs : List UInt8) (T : TS) (F : Nat → Prop) (w : World) (h : RefR w rb T F) (ho : T.off = false) (hn : faultN T.off n = 0) (hroom : T.room - (T.used : Int) < (xs.length : Int)) (hx : xs.length ≤ 140737488355328) :
    Calls Tryz.prog 30 #[.pointer (some ⟨rb, 0, none⟩), .int .i64 n, .slice A xs.length c] w (DoesR w rb F (151, T)) := by
  have h5 : w.cell? ⟨rb, 5, none⟩ = some (.bool T.off) := by
    obtain ⟨l, k, u0, u1, h⟩ := h
    exact h.blk.cell 5
  have hrm : w.cell? ⟨rb, 0, none⟩ = some (.int .i64 T.room) := by
    obtain ⟨l, k, u0, u1, h⟩ := h
    exact h.blk.cell 0
  obtain ⟨us, hus⟩ : ∃ us : Nat, us = T.used := ⟨_, rfl⟩
  rw [← hus] at hroom
  obtain ⟨hu1, hu2⟩ : (us : Int) ≤ T.room ∧ T.room ≤ 1073741824 := by
    obtain ⟨l, k, u0, u1, h⟩ := h
    have := h.wf.fit
    exact ⟨by rw [hus]; exact this, h.wf.room⟩
  have HUS := Lib.hid hus
  have H := Lib.hid h
  have HF := Lib.hid hn
  obtain ⟨m, hme⟩ : ∃ m, m = xs.length := ⟨_, rfl⟩
  rw [← hme] at hroom hx ⊢
  clear hus h ho hn hme
  go_enter Tryz.func30, Tryz.ntmps30
  go_wp2_with fail
  refine (rfault_any rb n T.off w h5).mono ?_
  rintro e w' ⟨rfl, rfl⟩
  rw [HF.out]
  go_wp2_with fail
  refine wp_region_phased (fun W => (∃ n, W = w.drewN n) ∧ W.cell? ⟨rb, 0, none⟩ = some (.int .i64 T.room)) 10 (by kernel_rfl) ⟨⟨1, rfl⟩, hrm⟩ (fun hS0 => ?_)
  refine wpAnyP_pure (v := ?_) 0 (at_toArray rfl) (by kernel_rfl) (by kernel_rfl) (by kernel_rfl) (fun _ _ _ h => h) (Or.inl ⟨by rfl, fun W => ?_⟩) ?_
  rotate_left 1
  · (go_simp <;> (try go_bits) <;> with_reducible rfl)
  simp only [Act.put, List.setIfInBounds_toArray, List.set_cons_zero, List.set_cons_succ]
  refine wpAnyP_pure (v := ?_) 1 (at_toArray rfl) (by kernel_rfl) (by kernel_rfl) (by kernel_rfl) (fun _ _ _ h => h) (Or.inl ⟨by rfl, fun W => ?_⟩) ?_
  rotate_left 1
  · (go_simp <;> (try go_bits) <;> with_reducible rfl)
  simp only [Act.put, List.setIfInBounds_toArray, List.set_cons_zero, List.set_cons_succ]
  refine wpAnyP_pure (v := ?_) 2 (at_toArray rfl) (by kernel_rfl) (by kernel_rfl) (by kernel_rfl) (fun _ _ _ h => h) (Or.inl ⟨by rfl, fun W => ?_⟩) ?_
  rotate_left 1
  · (go_simp <;> (try go_bits) <;> with_reducible rfl)
  simp only [Act.put, List.setIfInBounds_toArray, List.set_cons_zero, List.set_cons_succ]
  refine wpAnyP_pure (v := ?_) 3 (at_toArray rfl) (by kernel_rfl) (by kernel_rfl) (by kernel_rfl) (fun _ _ _ h => h) (Or.inl ⟨by rfl, fun W => ?_⟩) ?_
  rotate_left 1
  · (go_simp <;> (try go_bits) <;> with_reducible rfl)
  simp only [Act.put, List.setIfInBounds_toArray, List.set_cons_zero, List.set_cons_succ]
  refine wpAnyP_pure (v := ?_) 4 (at_toArray rfl) (by kernel_rfl) (by kernel_rfl) (by kernel_rfl) (fun _ _ _ h => h) (Or.inl ⟨by rfl, fun W => ?_⟩) ?_
  rotate_left 1
  · (go_simp <;> (try go_bits) <;> with_reducible rfl)
  simp only [Act.put, List.setIfInBounds_toArray, List.set_cons_zero, List.set_cons_succ]
  refine wpAnyP_load (v := ?_) 5 (by kernel_rfl) (at_toArray rfl) (by kernel_rfl) (by kernel_rfl) (by kernel_rfl) (fun _ _ _ h => h) (by first | assumption | rfl) (Or.inl ⟨by rfl, fun W hS => ?_⟩) ?_
  rotate_left 1
  · (obtain ⟨_, f1⟩ := hS; go_simp <;> (try go_bits) <;> with_reducible rfl)
  simp only [Act.put, List.setIfInBounds_toArray, List.set_cons_zero, List.set_cons_succ]
  refine wpAnyP_pure (v := ?_) 6 (at_toArray rfl) (by kernel_rfl) (by kernel_rfl) (by kernel_rfl) (fun _ _ _ h => h) (Or.inl ⟨by rfl, fun W => ?_⟩) ?_
  rotate_left 1
  · (go_simp <;> (try go_bits) <;> with_reducible rfl)
  simp only [Act.put, List.setIfInBounds_toArray, List.set_cons_zero, List.set_cons_succ]
  refine wpAnyP_one 7 (at_toArray rfl) (by kernel_rfl) rfl (fun K hK => ?_)
  go_wp2_with fail
  refine (rused_any rb T F _ (H.out.below (Below.refl _ _).drew)).mono ?_
  rw [← HUS.out]
  rintro e w' ⟨rfl, n1, rfl⟩
  go_wp2_with fail
  refine hK.out _ _ (fun _ _ => ⟨⟨1 + n1, rfl⟩, hrm⟩) ?_
  clear hK
  refine wpAnyP_pure (v := ?_) 8 (at_toArray rfl) (by kernel_rfl) (by kernel_rfl) (by kernel_rfl) (fun _ _ _ h => h) (Or.inl ⟨by rfl, fun W => ?_⟩) ?_
  rotate_left 1
  · (go_simp <;> (try go_bits) <;> with_reducible rfl)
  simp only [Act.put, List.setIfInBounds_toArray, List.set_cons_zero, List.set_cons_succ]
  refine wpAnyP_pure (v := ?_) 9 (at_toArray rfl) (by kernel_rfl) (by kernel_rfl) (by kernel_rfl) (fun _ _ _ h => h) (Or.inl ⟨by rfl, fun W => ?_⟩) ?_
  rotate_left 1
  · (go_simp <;> (try go_bits) <;> with_reducible rfl)
  simp only [Act.put, List.setIfInBounds_toArray, List.set_cons_zero, List.set_cons_succ]
  refine wpAnyP_done (by kernel_rfl) ?_ _
  clear hS0 hrm h5
  have hbn : Below w.heap.size w (w.drewN (1 + n1)) := ⟨rfl, rfl, rfl, Nat.le_refl _, fun _ _ => rfl⟩
  have HB := Lib.hid hbn
  have H2 := Lib.hid (H.out.below hbn)
  clear H hbn
  generalize w.drewN (1 + n1) = wa at *
  go_wp2_with fail
  go_ret
  exact ⟨rfl, F, H2.out, Upd.of_below HB.out⟩
theorem rappend_any (rb : Nat) (n : Int) (A : Option Addr) (c : Nat) (xs : List UInt8) (T : TS) (F : Nat → Prop) (w : World) (h : RefR w rb T F) (hx : RB w A xs) (hA : ∀ a, A = some a → 0 < xs.length → ¬ F a.block) :
    Calls Tryz.prog 30 #[.pointer (some ⟨rb, 0, none⟩), .int .i64 n, .slice A xs.length c] w (DoesR w rb F (T.append n xs)) := by
  unfold TS.append
  by_cases hz : faultN T.off n = 0
  · rw [if_neg (by simpa using hz)]
    obtain ⟨ho, hn⟩ := fault_zero hz
    by_cases hroom : T.room - (T.used : Int) < (xs.length : Int)
    · rw [if_pos hroom]
      exact rappend_full rb n A c xs T F w h ho hz hroom hx.1
    · rw [if_neg hroom]
      rcases hn with rfl | rfl
      · exact rappend_0 rb A c xs T F w h ho hx hA hroom
      · exact rappend_1 rb A c xs T F w h ho hx hA hroom
  · rw [if_pos hz]
    have h5 : w.cell? ⟨rb, 5, none⟩ = some (.bool T.off) := by
      obtain ⟨l, k, u0, u1, h⟩ := h
      exact h.blk.cell 5
    obtain ⟨r, hr⟩ : ∃ r, r = faultN T.off n := ⟨_, rfl⟩
    have hne : (r != 0) = true := by rw [bne_iff_ne, hr]; exact hz
    have HR := Lib.hid hr
    have H := Lib.hid h
    rw [← hr]
    clear h hz hr hx hA
    go_enter Tryz.func30, Tryz.ntmps30
    go_wp2_with fail
    refine (rfault_any rb n T.off w h5).mono ?_
    rintro e w' ⟨rfl, rfl⟩
    rw [← HR.out]
    go_wp2
    go_ret
    exact ⟨rfl, F, H.out, Upd.refl _ _⟩

end Go.Proofs.YtdhafdejionefaaGreat
