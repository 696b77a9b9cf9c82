/- Parts: The walk of the law TapeRefused. .. The document's journal: On, Sync, Append. -/
import Derived.Test.YtdhafdejionefaaGreatM04
import Derived.Test.YtdhafdejionefaaGreatM14
import Derived.Test.YtdhafdejionefaaGreatM08
import Derived.Test.YtdhafdejionefaaGreatM10
import Derived.Test.YtdhafdejionefaaGreatM11
/- The walk of the law TapeRefused. -/
namespace Go.Proofs.YtdhafdejionefaaGreat
set_option linter.unusedVariables false
set_option linter.unusedSimpArgs false
open Go.RowKit

/-- What holds of the tape while records are put on it. -/
structure RefT (q : Nat) (T : TS) : Prop where
  off : T.off = false
  plan : T.plan = none
  room : T.room = (q : Int)
theorem ref_append {q : Nat} {T : TS} (h : RefT q T) {n : Int} (hn : n = 0 ∨ n = 1) (ys : List UInt8) :
    (T.append n ys = (151, T) ∧ ¬ ((T.used : Int) + (ys.length : Int) ≤ (q : Int))) ∨ ∃ T', T.append n ys = (0, T') ∧ RefT q T' := by
  unfold TS.append
  have hf : faultN T.off n = 0 := by unfold faultN; rw [if_pos hn, h.off]; rfl
  rw [if_neg (by simpa using hf), h.room]
  by_cases hr : (q : Int) - (T.used : Int) < (ys.length : Int)
  · rw [if_pos hr]; exact .inl ⟨rfl, by omega⟩
  · rw [if_neg hr]
    refine .inr ⟨T.step.app n ys, ?_, ?_⟩
    · unfold TS.op; rw [h.plan]
    · have h1 := h.off
      have h2 := h.plan
      have h3 := h.room
      unfold TS.app TS.step
      split <;> exact ⟨h1, by rw [h2]; rfl, h3⟩
theorem RB.lt {w : World} {A : Option Addr} {xs : List UInt8} (h : RB w A xs) : ∀ a, A = some a → 0 < xs.length → a.block < w.heap.size := by
  intro a e hx
  obtain ⟨b, off, e', hlt, _⟩ := h.2 hx
  rw [e] at e'; cases e'; exact hlt
theorem read_at (tb : Nat) (n : Int) (T : TS) (F : Nat → Prop) (w : World) (h : TapeR w tb T F) (k : Int) (hk : faultN T.off n = k) :
    Calls Tryz.prog 41 #[.pointer (some ⟨tb, 0, none⟩), .int .i64 n] w fun e w' => ∃ A c, e = .returned (.tuple #[.slice A (T.read n).length c, .int .i64 k]) ∧ RB w' A (T.read n) ∧ Below w.heap.size w w' ∧ ∀ a, A = some a → w.heap.size ≤ a.block := by
  subst hk
  refine (read_any tb n T F w h).mono ?_
  rintro e w' ⟨v, rfl, ho, hb, hown⟩
  have hl : (T.read n).length ≤ 140737488355328 := by
    obtain ⟨_, _, _, ht⟩ := h
    have := TS.read_len ht.wf n
    omega
  rcases ho.2 with ⟨rfl, h0⟩ | ⟨g, cap, cur, rfl, _⟩
  · exact ⟨none, 0, by rw [h0], ho.reads hl, hb, fun a e => by cases e⟩
  · refine ⟨some ⟨g, 0, none⟩, cap, rfl, ho.reads hl, hb, fun a e => ?_⟩
    cases e
    exact hown g rfl
theorem append_at (tb : Nat) (n : Int) (A : Option Addr) (c : Nat) (xs : List UInt8) (T : TS) (F : Nat → Prop) (w : World) (r : Int × TS) (hr : T.append n xs = r) (h : TapeR w tb T F) (hx : RB w A xs) (hA : ∀ a, A = some a → 0 < xs.length → ¬ F a.block) :
    Calls Tryz.prog 29 #[.pointer (some ⟨tb, 0, none⟩), .int .i64 n, .slice A xs.length c] w (Does w tb F r) := by
  subst hr
  exact append_any tb n A c xs T F w h hx hA
/-- A tape of the call's own, its blocks told. -/
structure Own (B : Nat) (w : World) (tb : Nat) (T : TS) (F : Nat → Prop) : Prop where
  tape : TapeR w tb T F
  from_ : ∀ k, F k → B ≤ k
  size : B ≤ w.heap.size
theorem Own.lt {B : Nat} {w : World} {tb : Nat} {T : TS} {F : Nat → Prop} (h : Own B w tb T F) : ∀ k, F k → k < w.heap.size := by obtain ⟨_, _, _, t⟩ := h.tape; exact t.flt
theorem Own.ok {B : Nat} {w : World} {tb : Nat} {T : TS} {F : Nat → Prop} (h : Own B w tb T F) : T.ok := by obtain ⟨_, _, _, t⟩ := h.tape; exact t.wf
theorem Own.below {B : Nat} {w w' : World} {tb : Nat} {T : TS} {F : Nat → Prop} (h : Own B w tb T F) (hb : Below w.heap.size w w') : Own B w' tb T F := ⟨h.tape.below hb, h.from_, Nat.le_trans h.size hb.size⟩
theorem Own.upd {B : Nat} {w w' : World} {tb : Nat} {T T' : TS} {F F' : Nat → Prop} (h : Own B w tb T F) (ht : TapeR w' tb T' F') (hu : Upd w w' F F') : Own B w' tb T' F' ∧ Below B w w' :=
  ⟨⟨ht, (upd_below hu h.size h.from_).2, Nat.le_trans h.size hu.fr.size⟩, (upd_below hu h.size h.from_).1⟩
theorem NewT.own {B : Nat} {w : World} {tb : Nat} {T : TS} (h : NewT B w tb T) : ∃ F, Own B w tb T F := by
  obtain ⟨h0, F, h1, h2⟩ := h
  exact ⟨F, h1, h2, h0⟩
end Go.Proofs.YtdhafdejionefaaGreat

/- The walk of Same: a tape and the document's read alike. -/
namespace Go.Proofs.YtdhafdejionefaaGreat
set_option linter.unusedVariables false
set_option linter.unusedSimpArgs false
open Go.RowKit

theorem rread_at (rb : Nat) (n : Int) (T : TS) (F : Nat → Prop) (w : World) (h : RefR w rb T F) :
    Calls Tryz.prog 42 #[.pointer (some ⟨rb, 0, none⟩), .int .i64 n] w fun e w' => ∃ A c, e = .returned (.tuple #[.slice A (T.read n).length c, .int .i64 (faultN T.off n)]) ∧ RB w' A (T.read n) ∧ Below w.heap.size w w' := by
  refine (rread_any rb n T F w h).mono ?_
  rintro e w' ⟨v, rfl, ho, hb, hown⟩
  have hl : (T.read n).length ≤ 140737488355328 := by
    obtain ⟨_, _, _, _, ht⟩ := h
    have := TS.read_len ht.wf n
    omega
  obtain ⟨A, c, rfl⟩ := ho.form
  exact ⟨A, c, rfl, ho.reads hl, hb⟩
set_option maxRecDepth 100000 in
set_option maxHeartbeats 8000000 in
theorem same_any (tb rb : Nat) (T : TS) (F G : Nat → Prop) (w : World) (ht : TapeR w tb T F) (hr : RefR w rb T G) :
    Calls Tryz.prog 10 #[.pointer (some ⟨tb, 0, none⟩), .pointer (some ⟨rb, 0, none⟩)] w fun e w' => e = .returned (.bool true) ∧ Below w.heap.size w w' := by
  have HT := Lib.hid ht
  have HR := Lib.hid hr
  have hxo : ((!T.off) == T.off) = false := by cases T.off <;> rfl
  obtain ⟨B, hB⟩ : ∃ B, B = w.heap.size := ⟨_, rfl⟩
  rw [← hB]
  have hBw : B ≤ w.heap.size := by omega
  clear ht hr hB
  go_enter Tryz.func10, Tryz.ntmps10
  go_wp2_with fail
  refine (counts_any tb T F w HT.out).mono ?_
  rintro e w' ⟨rfl, n0, rfl⟩
  have hb0 : Below w.heap.size w (w.drewN n0) := ⟨rfl, rfl, rfl, Nat.le_refl _, fun _ _ => rfl⟩
  have HT1 := Lib.hid (HT.out.below hb0)
  have HR1 := Lib.hid (HR.out.below hb0)
  have HB1 := Lib.hid (Below.up hb0 hBw)
  have hB1 : B ≤ (w.drewN n0).heap.size := hBw
  clear HT HR hb0 hBw
  obtain ⟨wa, hwa⟩ : ∃ wa, wa = w.drewN n0 := ⟨_, rfl⟩
  rw [← hwa] at HT1 HR1 HB1 hB1 ⊢
  clear hwa
  have h5 : wa.cell? ⟨rb, 5, none⟩ = some (.bool T.off) := by
    obtain ⟨l, k, u0, u1, h⟩ := HR1.out
    exact h.blk.cell 5
  have h9 : wa.cell? ⟨rb, 9, none⟩ = some (.int .i64 T.ops) := by
    obtain ⟨l, k, u0, u1, h⟩ := HR1.out
    exact h.blk.cell 9
  have h10 : wa.cell? ⟨rb, 10, none⟩ = some (.int .i64 T.fails) := by
    obtain ⟨l, k, u0, u1, h⟩ := HR1.out
    exact h.blk.cell 10
  obtain ⟨us, hus⟩ : ∃ us : Nat, us = T.used := ⟨_, rfl⟩
  have HUS := Lib.hid hus
  clear hus
  go_wp2_with fail
  refine wp_region_phased (fun W => (∃ n, W = wa.drewN n) ∧ W.cell? ⟨rb, 5, none⟩ = some (.bool T.off) ∧ W.cell? ⟨rb, 9, none⟩ = some (.int .i64 T.ops) ∧ W.cell? ⟨rb, 10, none⟩ = some (.int .i64 T.fails)) 30 (by kernel_rfl) ⟨⟨1, rfl⟩, h5, h9, h10⟩ (fun hS => ?_)
  refine wpAnyP_pure (v := ?_) 0 (at_toArray rfl) (by kernel_rfl) (by kernel_rfl) (by kernel_rfl) (fun _ _ _ h => h) (Or.inl ⟨by rfl, fun W => ?_⟩) ?_
  rotate_left 1
  · (go_simp <;> (try go_bits) <;> with_reducible rfl)
  simp only [Act.put, List.setIfInBounds_toArray, List.set_cons_zero, List.set_cons_succ]
  refine wpAnyP_pure (v := ?_) 2 (at_toArray rfl) (by kernel_rfl) (by kernel_rfl) (by kernel_rfl) (fun _ _ _ h => h) (Or.inl ⟨by rfl, fun W => ?_⟩) ?_
  rotate_left 1
  · (go_simp <;> (try go_bits) <;> with_reducible rfl)
  simp only [Act.put, List.setIfInBounds_toArray, List.set_cons_zero, List.set_cons_succ]
  refine wpAnyP_pure (v := ?_) 3 (at_toArray rfl) (by kernel_rfl) (by kernel_rfl) (by kernel_rfl) (fun _ _ _ h => h) (Or.inl ⟨by rfl, fun W => ?_⟩) ?_
  rotate_left 1
  · (go_simp <;> (try go_bits) <;> with_reducible rfl)
  simp only [Act.put, List.setIfInBounds_toArray, List.set_cons_zero, List.set_cons_succ]
  refine wpAnyP_pure (v := ?_) 4 (at_toArray rfl) (by kernel_rfl) (by kernel_rfl) (by kernel_rfl) (fun _ _ _ h => h) (Or.inl ⟨by rfl, fun W => ?_⟩) ?_
  rotate_left 1
  · (go_simp <;> (try go_bits) <;> with_reducible rfl)
  simp only [Act.put, List.setIfInBounds_toArray, List.set_cons_zero, List.set_cons_succ]
  refine wpAnyP_load (v := ?_) 5 (by kernel_rfl) (at_toArray rfl) (by kernel_rfl) (by kernel_rfl) (by kernel_rfl) (fun _ _ _ h => h) (by first | assumption | rfl) (Or.inl ⟨by rfl, fun W hS => ?_⟩) ?_
  rotate_left 1
  · (obtain ⟨_, f1, f2, f3⟩ := hS; go_simp <;> (try go_bits) <;> with_reducible rfl)
  simp only [Act.put, List.setIfInBounds_toArray, List.set_cons_zero, List.set_cons_succ]
  refine wpAnyP_one 1 (at_toArray rfl) (by kernel_rfl) rfl (fun K hK => ?_)
  go_wp2_with fail
  refine (on_any tb T F _ (HT1.out.below (Below.refl _ _).drew)).mono ?_
  rintro e w' ⟨rfl, rfl⟩
  go_wp2_with fail
  refine hK.out _ _ (fun _ h => h) ?_
  clear hK
  refine wpAnyP_pure (v := ?_) 6 (at_toArray rfl) (by kernel_rfl) (by kernel_rfl) (by kernel_rfl) (fun _ _ _ h => h) (Or.inl ⟨by rfl, fun W => ?_⟩) ?_
  rotate_left 1
  · (go_simp <;> (try go_bits) <;> with_reducible rfl)
  simp only [Act.put, List.setIfInBounds_toArray, List.set_cons_zero, List.set_cons_succ]
  refine wpAnyP_pure (v := ?_) 7 (at_toArray rfl) (by kernel_rfl) (by kernel_rfl) (by kernel_rfl) (fun _ _ _ h => h) (Or.inl ⟨by rfl, fun W => ?_⟩) ?_
  rotate_left 1
  · (go_simp <;> (try go_bits) <;> with_reducible rfl)
  simp only [Act.put, List.setIfInBounds_toArray, List.set_cons_zero, List.set_cons_succ]
  refine wpAnyP_pure (v := ?_) 8 (at_toArray rfl) (by kernel_rfl) (by kernel_rfl) (by kernel_rfl) (fun _ _ _ h => h) (Or.inl ⟨by rfl, fun W => ?_⟩) ?_
  rotate_left 1
  · (go_simp <;> (try go_bits) <;> with_reducible rfl)
  simp only [Act.put, List.setIfInBounds_toArray, List.set_cons_zero, List.set_cons_succ]
  refine wpAnyP_pure (v := ?_) 10 (at_toArray rfl) (by kernel_rfl) (by kernel_rfl) (by kernel_rfl) (fun _ _ _ h => h) (Or.inl ⟨by rfl, fun W => ?_⟩) ?_
  rotate_left 1
  · (go_simp <;> (try go_bits) <;> with_reducible rfl)
  simp only [Act.put, List.setIfInBounds_toArray, List.set_cons_zero, List.set_cons_succ]
  refine wpAnyP_oneG 9 (at_toArray rfl) (by kernel_rfl) (by rfl) (fun K hK => ?_)
  go_wp2_with fail
  refine (used_any tb T F _ (HT1.out.below (Below.refl _ _).drew)).mono ?_
  rw [← HUS.out]
  rintro e w' ⟨rfl, rfl⟩
  go_wp2_with fail
  refine hK.out _ _ (fun _ h => h) ?_
  clear hK
  refine wpAnyP_oneG 11 (at_toArray rfl) (by kernel_rfl) (by rfl) (fun K hK => ?_)
  go_wp2_with fail
  refine (rused_any rb T G _ (HR1.out.below (Below.refl _ _).drew)).mono ?_
  rw [← HUS.out]
  rintro e w' ⟨rfl, n1, rfl⟩
  go_wp2_with fail
  have hS2 : (∃ n, wa.drewN (1 + n1) = wa.drewN n) ∧ (wa.drewN (1 + n1)).cell? ⟨rb, 5, none⟩ = some (.bool T.off) ∧ (wa.drewN (1 + n1)).cell? ⟨rb, 9, none⟩ = some (.int .i64 T.ops) ∧ (wa.drewN (1 + n1)).cell? ⟨rb, 10, none⟩ = some (.int .i64 T.fails) := ⟨⟨1 + n1, rfl⟩, h5, h9, h10⟩
  refine hK.out _ _ (fun _ _ => hS2) ?_
  clear hK hS
  refine wpAnyP_pure (v := ?_) 12 (at_toArray rfl) (by kernel_rfl) (by kernel_rfl) (by kernel_rfl) (fun _ _ _ h => h) (Or.inl ⟨by rfl, fun W => ?_⟩) ?_
  rotate_left 1
  · (go_simp <;> (try go_bits) <;> with_reducible rfl)
  simp only [Act.put, List.setIfInBounds_toArray, List.set_cons_zero, List.set_cons_succ]
  refine wpAnyP_pure (v := ?_) 13 (at_toArray rfl) (by kernel_rfl) (by kernel_rfl) (by kernel_rfl) (fun _ _ _ h => h) (Or.inl ⟨by rfl, fun W => ?_⟩) ?_
  rotate_left 1
  · (go_simp <;> (try go_bits) <;> with_reducible rfl)
  simp only [Act.put, List.setIfInBounds_toArray, List.set_cons_zero, List.set_cons_succ]
  refine wpAnyP_pure (v := ?_) 14 (at_toArray rfl) (by kernel_rfl) (by kernel_rfl) (by kernel_rfl) (fun _ _ _ h => h) (Or.inl ⟨by rfl, fun W => ?_⟩) ?_
  rotate_left 1
  · (go_simp <;> (try go_bits) <;> with_reducible rfl)
  simp only [Act.put, List.setIfInBounds_toArray, List.set_cons_zero, List.set_cons_succ]
  refine wpAnyP_pure (v := ?_) 15 (at_toArray rfl) (by kernel_rfl) (by kernel_rfl) (by kernel_rfl) (fun _ _ _ h => h) (Or.inl ⟨by rfl, fun W => ?_⟩) ?_
  rotate_left 1
  · (go_simp <;> (try go_bits) <;> with_reducible rfl)
  simp only [Act.put, List.setIfInBounds_toArray, List.set_cons_zero, List.set_cons_succ]
  refine wpAnyP_pure (v := ?_) 16 (at_toArray rfl) (by kernel_rfl) (by kernel_rfl) (by kernel_rfl) (fun _ _ _ h => h) (Or.inl ⟨by rfl, fun W => ?_⟩) ?_
  rotate_left 1
  · (go_simp <;> (try go_bits) <;> with_reducible rfl)
  simp only [Act.put, List.setIfInBounds_toArray, List.set_cons_zero, List.set_cons_succ]
  refine wpAnyP_pure (v := ?_) 17 (at_toArray rfl) (by kernel_rfl) (by kernel_rfl) (by kernel_rfl) (fun _ _ _ h => h) (Or.inl ⟨by rfl, fun W => ?_⟩) ?_
  rotate_left 1
  · (go_simp <;> (try go_bits) <;> with_reducible rfl)
  simp only [Act.put, List.setIfInBounds_toArray, List.set_cons_zero, List.set_cons_succ]
  refine wpAnyP_pure (v := ?_) 18 (at_toArray rfl) (by kernel_rfl) (by kernel_rfl) (by kernel_rfl) (fun _ _ _ h => h) (Or.inl ⟨by rfl, fun W => ?_⟩) ?_
  rotate_left 1
  · (go_simp <;> (try go_bits) <;> with_reducible rfl)
  simp only [Act.put, List.setIfInBounds_toArray, List.set_cons_zero, List.set_cons_succ]
  refine wpAnyP_load (v := ?_) 19 (by kernel_rfl) (at_toArray rfl) (by kernel_rfl) (by kernel_rfl) (by kernel_rfl) (fun _ _ _ h => h) (by first | assumption | rfl) (Or.inl ⟨by rfl, fun W hS => ?_⟩) ?_
  rotate_left 1
  · (obtain ⟨_, f1, f2, f3⟩ := hS; go_simp <;> (try go_bits) <;> with_reducible rfl)
  simp only [Act.put, List.setIfInBounds_toArray, List.set_cons_zero, List.set_cons_succ]
  refine wpAnyP_pure (v := ?_) 20 (at_toArray rfl) (by kernel_rfl) (by kernel_rfl) (by kernel_rfl) (fun _ _ _ h => h) (Or.inl ⟨by rfl, fun W => ?_⟩) ?_
  rotate_left 1
  · (go_simp <;> (try go_bits) <;> with_reducible rfl)
  simp only [Act.put, List.setIfInBounds_toArray, List.set_cons_zero, List.set_cons_succ]
  refine wpAnyP_pure (v := ?_) 21 (at_toArray rfl) (by kernel_rfl) (by kernel_rfl) (by kernel_rfl) (fun _ _ _ h => h) (Or.inl ⟨by rfl, fun W => ?_⟩) ?_
  rotate_left 1
  · (go_simp <;> (try go_bits) <;> with_reducible rfl)
  simp only [Act.put, List.setIfInBounds_toArray, List.set_cons_zero, List.set_cons_succ]
  refine wpAnyP_pure (v := ?_) 22 (at_toArray rfl) (by kernel_rfl) (by kernel_rfl) (by kernel_rfl) (fun _ _ _ h => h) (Or.inl ⟨by rfl, fun W => ?_⟩) ?_
  rotate_left 1
  · (go_simp <;> (try go_bits) <;> with_reducible rfl)
  simp only [Act.put, List.setIfInBounds_toArray, List.set_cons_zero, List.set_cons_succ]
  refine wpAnyP_pure (v := ?_) 23 (at_toArray rfl) (by kernel_rfl) (by kernel_rfl) (by kernel_rfl) (fun _ _ _ h => h) (Or.inl ⟨by rfl, fun W => ?_⟩) ?_
  rotate_left 1
  · (go_simp <;> (try go_bits) <;> with_reducible rfl)
  simp only [Act.put, List.setIfInBounds_toArray, List.set_cons_zero, List.set_cons_succ]
  refine wpAnyP_pure (v := ?_) 24 (at_toArray rfl) (by kernel_rfl) (by kernel_rfl) (by kernel_rfl) (fun _ _ _ h => h) (Or.inl ⟨by rfl, fun W => ?_⟩) ?_
  rotate_left 1
  · (go_simp <;> (try go_bits) <;> with_reducible rfl)
  simp only [Act.put, List.setIfInBounds_toArray, List.set_cons_zero, List.set_cons_succ]
  refine wpAnyP_pure (v := ?_) 25 (at_toArray rfl) (by kernel_rfl) (by kernel_rfl) (by kernel_rfl) (fun _ _ _ h => h) (Or.inl ⟨by rfl, fun W => ?_⟩) ?_
  rotate_left 1
  · (go_simp <;> (try go_bits) <;> with_reducible rfl)
  simp only [Act.put, List.setIfInBounds_toArray, List.set_cons_zero, List.set_cons_succ]
  refine wpAnyP_pure (v := ?_) 26 (at_toArray rfl) (by kernel_rfl) (by kernel_rfl) (by kernel_rfl) (fun _ _ _ h => h) (Or.inl ⟨by rfl, fun W => ?_⟩) ?_
  rotate_left 1
  · (go_simp <;> (try go_bits) <;> with_reducible rfl)
  simp only [Act.put, List.setIfInBounds_toArray, List.set_cons_zero, List.set_cons_succ]
  refine wpAnyP_load (v := ?_) 27 (by kernel_rfl) (at_toArray rfl) (by kernel_rfl) (by kernel_rfl) (by kernel_rfl) (fun _ _ _ h => h) (by first | assumption | rfl) (Or.inl ⟨by rfl, fun W hS => ?_⟩) ?_
  rotate_left 1
  · (obtain ⟨_, f1, f2, f3⟩ := hS; go_simp <;> (try go_bits) <;> with_reducible rfl)
  simp only [Act.put, List.setIfInBounds_toArray, List.set_cons_zero, List.set_cons_succ]
  refine wpAnyP_pure (v := ?_) 28 (at_toArray rfl) (by kernel_rfl) (by kernel_rfl) (by kernel_rfl) (fun _ _ _ h => h) (Or.inl ⟨by rfl, fun W => ?_⟩) ?_
  rotate_left 1
  · (go_simp <;> (try go_bits) <;> with_reducible rfl)
  simp only [Act.put, List.setIfInBounds_toArray, List.set_cons_zero, List.set_cons_succ]
  refine wpAnyP_pure (v := ?_) 29 (at_toArray rfl) (by kernel_rfl) (by kernel_rfl) (by kernel_rfl) (fun _ _ _ h => h) (Or.inl ⟨by rfl, fun W => ?_⟩) ?_
  rotate_left 1
  · (go_simp <;> (try go_bits) <;> with_reducible rfl)
  simp only [Act.put, List.setIfInBounds_toArray, List.set_cons_zero, List.set_cons_succ]
  refine wpAnyP_done (by kernel_rfl) ?_ _
  clear hS2 h5 h9 h10
  have hb2 : Below wa.heap.size wa (wa.drewN (1 + n1)) := ⟨rfl, rfl, rfl, Nat.le_refl _, fun _ _ => rfl⟩
  have HTi := Lib.hid (HT1.out.below hb2)
  have HRi := Lib.hid (HR1.out.below hb2)
  have HBi := Lib.hid (HB1.out.trans (Below.up hb2 hB1))
  have hBi : B ≤ (wa.drewN (1 + n1)).heap.size := hB1
  clear HT1 HR1 HB1 hB1 hb2
  generalize wa.drewN (1 + n1) = wi at *
  go_wp2_with fail
  refine wp_loop_rounds 5 ?_
  rw [rounds_succ]
  go_wp2_with fail
  refine (read_at tb (-1) T F wi HTi.out _ rfl).mono ?_
  rintro e wj ⟨A1, c1, rfl, hr1, hb1, _⟩
  have HTj := Lib.hid (HTi.out.below hb1)
  have HRj := Lib.hid (HRi.out.below hb1)
  have HBj := Lib.hid (HBi.out.trans (Below.up hb1 hBi))
  have hBj : B ≤ wj.heap.size := Nat.le_trans hBi hb1.size
  have HR1 := Lib.hid hr1
  obtain ⟨str, hstr⟩ : ∃ s, s = strB (T.read (-1)) := ⟨_, rfl⟩
  obtain ⟨ln, hln⟩ : ∃ ln, ln = (T.read (-1)).length := ⟨_, rfl⟩
  obtain ⟨ft, hft⟩ : ∃ ft, ft = faultN T.off (-1) := ⟨_, rfl⟩
  rw [← hln, ← hft]
  have HS := Lib.hid hstr
  have HL := Lib.hid hln
  have HFT := Lib.hid hft
  clear hr1 hb1 HTi HRi HBi hBi hstr hln hft
  go_wp2_with fail
  refine (rread_at rb (-1) T G wj HRj.out).mono ?_
  rintro e wi ⟨A2, c2, rfl, hr2, hb2⟩
  rw [← HL.out, ← HFT.out]
  have HTi := Lib.hid (HTj.out.below hb2)
  have HRi := Lib.hid (HRj.out.below hb2)
  have HBi := Lib.hid (HBj.out.trans (Below.up hb2 hBj))
  have hBi : B ≤ wi.heap.size := Nat.le_trans hBj hb2.size
  have hc1 := run_str (HR1.out.below hb2) ln c1 HL.out.symm
  have hc2 := run_str hr2 ln c2 HL.out.symm
  rw [← HS.out] at hc1 hc2
  obtain ⟨su, hsu⟩ : ∃ su, su = T.sure (-1) := ⟨_, rfl⟩
  have HSU := Lib.hid hsu
  clear hb2 hr2 HTj HRj HBj hBj HR1 hsu
  go_wp2_with fail
  refine (sure_any tb (-1) T F wi HTi.out).mono ?_
  rintro e w' ⟨rfl, rfl⟩
  rw [← HSU.out]
  go_wp2_with fail
  refine (rsure_any rb (-1) T G wi HRi.out).mono ?_
  rintro e w' ⟨rfl, rfl⟩
  rw [← HSU.out]
  go_wp2_with fail
  clear hc1 hc2 HS HL HFT HSU
  rw [rounds_succ]
  go_wp2_with fail
  refine (read_at tb (0) T F wi HTi.out _ rfl).mono ?_
  rintro e wj ⟨A1, c1, rfl, hr1, hb1, _⟩
  have HTj := Lib.hid (HTi.out.below hb1)
  have HRj := Lib.hid (HRi.out.below hb1)
  have HBj := Lib.hid (HBi.out.trans (Below.up hb1 hBi))
  have hBj : B ≤ wj.heap.size := Nat.le_trans hBi hb1.size
  have HR1 := Lib.hid hr1
  obtain ⟨str, hstr⟩ : ∃ s, s = strB (T.read (0)) := ⟨_, rfl⟩
  obtain ⟨ln, hln⟩ : ∃ ln, ln = (T.read (0)).length := ⟨_, rfl⟩
  obtain ⟨ft, hft⟩ : ∃ ft, ft = faultN T.off (0) := ⟨_, rfl⟩
  rw [← hln, ← hft]
  have HS := Lib.hid hstr
  have HL := Lib.hid hln
  have HFT := Lib.hid hft
  clear hr1 hb1 HTi HRi HBi hBi hstr hln hft
  go_wp2_with fail
  refine (rread_at rb (0) T G wj HRj.out).mono ?_
  rintro e wi ⟨A2, c2, rfl, hr2, hb2⟩
  rw [← HL.out, ← HFT.out]
  have HTi := Lib.hid (HTj.out.below hb2)
  have HRi := Lib.hid (HRj.out.below hb2)
  have HBi := Lib.hid (HBj.out.trans (Below.up hb2 hBj))
  have hBi : B ≤ wi.heap.size := Nat.le_trans hBj hb2.size
  have hc1 := run_str (HR1.out.below hb2) ln c1 HL.out.symm
  have hc2 := run_str hr2 ln c2 HL.out.symm
  rw [← HS.out] at hc1 hc2
  obtain ⟨su, hsu⟩ : ∃ su, su = T.sure (0) := ⟨_, rfl⟩
  have HSU := Lib.hid hsu
  clear hb2 hr2 HTj HRj HBj hBj HR1 hsu
  go_wp2_with fail
  refine (sure_any tb (0) T F wi HTi.out).mono ?_
  rintro e w' ⟨rfl, rfl⟩
  rw [← HSU.out]
  go_wp2_with fail
  refine (rsure_any rb (0) T G wi HRi.out).mono ?_
  rintro e w' ⟨rfl, rfl⟩
  rw [← HSU.out]
  go_wp2_with fail
  clear hc1 hc2 HS HL HFT HSU
  rw [rounds_succ]
  go_wp2_with fail
  refine (read_at tb (1) T F wi HTi.out _ rfl).mono ?_
  rintro e wj ⟨A1, c1, rfl, hr1, hb1, _⟩
  have HTj := Lib.hid (HTi.out.below hb1)
  have HRj := Lib.hid (HRi.out.below hb1)
  have HBj := Lib.hid (HBi.out.trans (Below.up hb1 hBi))
  have hBj : B ≤ wj.heap.size := Nat.le_trans hBi hb1.size
  have HR1 := Lib.hid hr1
  obtain ⟨str, hstr⟩ : ∃ s, s = strB (T.read (1)) := ⟨_, rfl⟩
  obtain ⟨ln, hln⟩ : ∃ ln, ln = (T.read (1)).length := ⟨_, rfl⟩
  obtain ⟨ft, hft⟩ : ∃ ft, ft = faultN T.off (1) := ⟨_, rfl⟩
  rw [← hln, ← hft]
  have HS := Lib.hid hstr
  have HL := Lib.hid hln
  have HFT := Lib.hid hft
  clear hr1 hb1 HTi HRi HBi hBi hstr hln hft
  go_wp2_with fail
  refine (rread_at rb (1) T G wj HRj.out).mono ?_
  rintro e wi ⟨A2, c2, rfl, hr2, hb2⟩
  rw [← HL.out, ← HFT.out]
  have HTi := Lib.hid (HTj.out.below hb2)
  have HRi := Lib.hid (HRj.out.below hb2)
  have HBi := Lib.hid (HBj.out.trans (Below.up hb2 hBj))
  have hBi : B ≤ wi.heap.size := Nat.le_trans hBj hb2.size
  have hc1 := run_str (HR1.out.below hb2) ln c1 HL.out.symm
  have hc2 := run_str hr2 ln c2 HL.out.symm
  rw [← HS.out] at hc1 hc2
  obtain ⟨su, hsu⟩ : ∃ su, su = T.sure (1) := ⟨_, rfl⟩
  have HSU := Lib.hid hsu
  clear hb2 hr2 HTj HRj HBj hBj HR1 hsu
  go_wp2_with fail
  refine (sure_any tb (1) T F wi HTi.out).mono ?_
  rintro e w' ⟨rfl, rfl⟩
  rw [← HSU.out]
  go_wp2_with fail
  refine (rsure_any rb (1) T G wi HRi.out).mono ?_
  rintro e w' ⟨rfl, rfl⟩
  rw [← HSU.out]
  go_wp2_with fail
  clear hc1 hc2 HS HL HFT HSU
  rw [rounds_succ]
  go_wp2_with fail
  refine (read_at tb (2) T F wi HTi.out _ rfl).mono ?_
  rintro e wj ⟨A1, c1, rfl, hr1, hb1, _⟩
  have HTj := Lib.hid (HTi.out.below hb1)
  have HRj := Lib.hid (HRi.out.below hb1)
  have HBj := Lib.hid (HBi.out.trans (Below.up hb1 hBi))
  have hBj : B ≤ wj.heap.size := Nat.le_trans hBi hb1.size
  have HR1 := Lib.hid hr1
  obtain ⟨str, hstr⟩ : ∃ s, s = strB (T.read (2)) := ⟨_, rfl⟩
  obtain ⟨ln, hln⟩ : ∃ ln, ln = (T.read (2)).length := ⟨_, rfl⟩
  obtain ⟨ft, hft⟩ : ∃ ft, ft = faultN T.off (2) := ⟨_, rfl⟩
  rw [← hln, ← hft]
  have HS := Lib.hid hstr
  have HL := Lib.hid hln
  have HFT := Lib.hid hft
  clear hr1 hb1 HTi HRi HBi hBi hstr hln hft
  go_wp2_with fail
  refine (rread_at rb (2) T G wj HRj.out).mono ?_
  rintro e wi ⟨A2, c2, rfl, hr2, hb2⟩
  rw [← HL.out, ← HFT.out]
  have HTi := Lib.hid (HTj.out.below hb2)
  have HRi := Lib.hid (HRj.out.below hb2)
  have HBi := Lib.hid (HBj.out.trans (Below.up hb2 hBj))
  have hBi : B ≤ wi.heap.size := Nat.le_trans hBj hb2.size
  have hc1 := run_str (HR1.out.below hb2) ln c1 HL.out.symm
  have hc2 := run_str hr2 ln c2 HL.out.symm
  rw [← HS.out] at hc1 hc2
  obtain ⟨su, hsu⟩ : ∃ su, su = T.sure (2) := ⟨_, rfl⟩
  have HSU := Lib.hid hsu
  clear hb2 hr2 HTj HRj HBj hBj HR1 hsu
  go_wp2_with fail
  refine (sure_any tb (2) T F wi HTi.out).mono ?_
  rintro e w' ⟨rfl, rfl⟩
  rw [← HSU.out]
  go_wp2_with fail
  refine (rsure_any rb (2) T G wi HRi.out).mono ?_
  rintro e w' ⟨rfl, rfl⟩
  rw [← HSU.out]
  go_wp2_with fail
  clear hc1 hc2 HS HL HFT HSU
  rw [rounds_succ]
  go_wp2_with fail
  go_ret
  exact ⟨rfl, HBi.out⟩

end Go.Proofs.YtdhafdejionefaaGreat

/- The document's area: walk. -/
namespace Go.Proofs.YtdhafdejionefaaGreat
set_option linter.unusedVariables false
set_option linter.unusedSimpArgs false
open Go.RowKit
attribute [local go_sem] max2_int min2_int max_two min_two min_four

theorem OFr.kinds {B : Nat} {w : World} {fs : List (UInt8 × List UInt8)} {kv lv : Value} (h : OFr B w fs kv lv) : OBB B w kv (fs.map (·.1)) := by
  obtain ⟨cs, h1, h2, h3⟩ := h
  refine ⟨?_, fun k hk => (h1.lt k hk).1⟩
  unfold OB; rw [List.length_map]; exact own_base h1 (Nat.zero_le _)
theorem OFr.recs {B : Nat} {w : World} {fs : List (UInt8 × List UInt8)} {kv lv : Value} (h : OFr B w fs kv lv) : OL B w lv (fs.map (·.2)) := by
  obtain ⟨cs, h1, h2, h3⟩ := h
  refine ⟨cs, by rw [List.length_map]; exact h2, fun j cc p hc hp => ?_⟩
  rw [List.getElem?_map] at hp
  obtain ⟨q, hq, rfl⟩ := Option.map_eq_some_iff.1 hp
  exact (h3 j cc q hc hq).mono (Nat.le_refl _) (fun k _ h => .inr h)
/-- An owned row of records at B3 or behind it, whose bytes lie at B or behind it. -/
def OLX (B3 B : Nat) (w : World) (v : Value) (ls : List (List UInt8)) : Prop :=
  ∃ cs : List Value, w.ownsRow B3 35 1 v ls.length cs ∧ ∀ (j : Nat) (c : Value) (l : List UInt8), cs[j]? = some c → ls[j]? = some l → CB B (fun k => v.ownBlock = some k) w c l
theorem OLX.ol {B3 B : Nat} {w : World} {v : Value} {ls : List (List UInt8)} (h : OLX B3 B w v ls) (hB : B ≤ B3) : OL B w v ls := by
  obtain ⟨cs, h1, h2⟩ := h
  exact ⟨cs, own_base h1 hB, h2⟩
theorem OLX.below {B3 B : Nat} {w w' : World} {v : Value} {ls : List (List UInt8)} (h : OLX B3 B w v ls) (hb : Below w.heap.size w w') : OLX B3 B w' v ls := by
  obtain ⟨cs, h1, h3⟩ := h
  have hf : Fr (fun _ => False) w w' := Fr.of_below hb
  exact ⟨cs, own_fr h1 hf (fun _ _ h => h), fun j c p hc hp => CB.mono2 (h3 j c p hc hp) ((h3 j c p hc hp).fr hf (fun _ h => h.elim)) (Nat.le_refl _) (fun _ _ h => h)⟩
/-- A record more. -/
theorem OLX.push {B3 B : Nat} {W W2 : World} {ls : List (List UInt8)} {v v' x : Value} {l : List UInt8} {cs : List Value} {E : TypeId}
    (h1 : W.ownsRow B3 35 1 v ls.length cs) (h2 : ∀ (j : Nat) (c : Value) (l : List UInt8), cs[j]? = some c → ls[j]? = some l → CB B (fun k => v.ownBlock = some k) W c l)
    (hv : CB B (fun k => B3 ≤ k) W x l) (hBW : B3 ≤ W.heap.size)
    (ho : W2.ownsRow B3 35 1 v' (ls.length + 1) (cs ++ [x]))
    (hg : (W.alloc (.cells #[x] E)).grownBy W2 v.ownBlock) (ha : v'.ownBlock = v.ownBlock ∨ v'.ownBlock = some (W.alloc (.cells #[x] E)).heap.size) :
    OLX B3 B W2 v' (ls ++ [l]) ∧ Below B3 W W2 := by
  obtain ⟨f1, n1, s1⟩ := pushed0 h1 hg ha
  have hb : Below B3 W W2 := ⟨f1.os, f1.tape, f1.output, f1.size, fun i hi => f1.block i (by omega) (fun h => by have := (h1.lt i h).1; omega)⟩
  have hX : ∀ i, i < W.heap.size → v'.ownBlock = some i → v.ownBlock = some i := by
    intro i hi h
    rcases n1 with n1 | ⟨k', n1, n1'⟩
    · rw [n1] at h; exact h
    · rw [n1] at h; cases h; omega
  refine ⟨⟨cs ++ [x], by rw [List.length_append]; exact ho, ?_⟩, hb⟩
  intro j cc p hc hp
  have hcl : cs.length = ls.length := by have := h1.1; omega
  rcases Nat.lt_or_ge j ls.length with hj | hj
  · rw [List.getElem?_append_left (by omega)] at hc
    rw [List.getElem?_append_left hj] at hp
    have h0 := h2 j cc p hc hp
    exact CB.mono2 h0 (h0.fr f1 (fun i hi => .inr (.inl hi))) (Nat.le_refl _) hX
  · rw [List.getElem?_append_right (by omega)] at hc
    rw [List.getElem?_append_right hj] at hp
    have e0 : j - ls.length = 0 := by
      rcases Nat.eq_zero_or_pos (j - ls.length) with h | h
      · exact h
      · rw [List.getElem?_eq_none (by simp; omega)] at hp; cases hp
    rw [hcl, e0] at hc
    rw [e0] at hp
    simp at hc hp
    subst hc; subst hp
    obtain ⟨A, c, e1, e2, e3, e4⟩ := hv
    refine ⟨A, c, e1, e2, e3.fr2 f1 (fun a ha h0 hi => ?_), fun a ha h0 => ⟨(e4 a ha h0).1, fun hi => ?_⟩⟩
    · have := (e4 a ha h0).2; have := (h1.lt _ hi).1; omega
    · have h5 := (e4 a ha h0).2
      have h6 := (h1.lt _ (hX _ (rb_lt e3 a ha h0) hi)).1
      omega
theorem take_snoc' {α : Type} (ls : List α) (k : Nat) (l : α) (h : ls[k]? = some l) : ls.take (k + 1) = ls.take k ++ [l] := by
  rw [List.take_add_one, h]; rfl
/-- A row that reads as records; all of it lies below B3, its bytes at B or behind it. -/
def RLB (w : World) (B B3 : Nat) (A : Option Addr) (ls : List (List UInt8)) : Prop :=
  ∀ (j : Nat) (l : List UInt8), ls[j]? = some l → ∃ g A1 n1, A = some ⟨g, 0, none⟩ ∧ g < B3 ∧ w.cell? ⟨g, j, none⟩ = some (.slice A1 l.length n1) ∧ l.length ≤ n1 ∧ RB w A1 l ∧ ∀ a, A1 = some a → 0 < l.length → B ≤ a.block ∧ a.block < B3
theorem OL.rlb {B : Nat} {w : World} {v : Value} {ls : List (List UInt8)} (h : OL B w v ls) : ∃ A c, v = .slice A ls.length c ∧ RLB w B w.heap.size A ls := by
  obtain ⟨cs, ho, hc⟩ := h
  obtain ⟨A, c, rfl⟩ := own_form ho
  refine ⟨A, c, rfl, fun j l hj => ?_⟩
  have hjl : j < ls.length := (List.getElem?_eq_some_iff.1 hj).1
  have hcl : cs.length = ls.length := by have := ho.1; omega
  have hcj : cs[j]? = some cs[j] := List.getElem?_eq_getElem (by omega)
  have hb := hc j _ l hcj hj
  rcases ho.2 with ⟨h1, h2⟩ | ⟨g, cap, cur, hv, hg, hh, _⟩
  · omega
  · simp at hv
    obtain ⟨rfl, rfl⟩ := hv
    have hown := World.ownsRow.cells ho (g := g) rfl j _ hcj
    have ha : (⟨g, 0, none⟩ : Addr).add j = ⟨g, 0 + j, none⟩ := by unfold Addr.add; split <;> simp_all
    rw [ha, Nat.zero_add] at hown
    obtain ⟨A1, n, e1, e2, e3, e4⟩ := hb
    rw [e1] at hown
    exact ⟨g, A1, n, rfl, (Array.getElem?_eq_some_iff.1 hh).1, hown, e2, e3, fun a ha h0 => ⟨(e4 a ha h0).1, rb_lt e3 a ha h0⟩⟩
theorem RLB.below {w w' : World} {B B3 : Nat} {A : Option Addr} {ls : List (List UInt8)} (h : RLB w B B3 A ls) (hb : Below B3 w w') : RLB w' B B3 A ls := fun j l hj => by
  obtain ⟨g, A1, n1, e1, e2, e3, e4, e5, e6⟩ := h j l hj
  refine ⟨g, A1, n1, e1, e2, (hb.cell (p := ⟨g, j, none⟩) e2).trans e3, e4, ?_, e6⟩
  exact e5.fr2 (F := fun k => B3 ≤ k) ⟨hb.os, hb.tape, hb.output, hb.size, fun k _ hk => hb.block k (by omega)⟩ fun a ha h0 => by have := (e6 a ha h0).2; omega
set_option maxRecDepth 100000 in
set_option maxHeartbeats 4000000 in
theorem rarea_any (rb : Nat) (a : Int) (T : TS) (F : Nat → Prop) (w : World) (h : RefR w rb T F) :
    Calls Tryz.prog 53 #[.pointer (some ⟨rb, 0, none⟩), .int .i64 a] w fun e w' => ∃ lv, e = .returned (.tuple #[.int .i64 (turnOf (framesP (T.read a))), lv]) ∧ OL w.heap.size w' lv (recsOf (framesP (T.read a))) ∧ Below w.heap.size w w' := by
  obtain ⟨i1, hi1, hy0, hy1, hy2⟩ := info_parts info_row
  have hlb : (T.read a).length ≤ 1073741824 := by
    obtain ⟨_, _, _, _, ht⟩ := h
    exact TS.read_len ht.wf a
  obtain ⟨b, hb⟩ : ∃ b, b = T.read a := ⟨_, rfl⟩
  have hread := rread_any rb a T F w h
  rw [← hb] at hlb hread ⊢
  obtain ⟨fs, hfs⟩ : ∃ fs, fs = framesP b := ⟨_, rfl⟩
  rw [← hfs]
  have HRD := Lib.hid hread
  have HFS := Lib.hid hfs
  clear hread hb h hfs
  go_enter Tryz.func53, Tryz.ntmps53
  go_wp2_with fail
  refine HRD.out.mono ?_
  rintro e w1 ⟨v, rfl, ho, hb1, hown⟩
  obtain ⟨A, c, rfl, hr, hc, hA⟩ := ho.reads' (by omega)
  have hfa := rframes_any A c b w1 hr hc (by omega)
  obtain ⟨n, hn⟩ : ∃ n, n = b.length := ⟨_, rfl⟩
  have hfl := framesP_len b
  rw [← hn] at hfa hfl hlb ⊢
  have HFA := Lib.hid hfa
  have hs1 : w.heap.size ≤ w1.heap.size := hb1.size
  have HB1 := Lib.hid hb1
  clear hfa ho hown hA hr hc hn hb1 HRD
  obtain ⟨fe, hfe⟩ : ∃ fe, fe = faultN T.off a := ⟨_, rfl⟩
  rw [← hfe]
  clear hfe
  go_wp2_with fail
  refine HFA.out.mono ?_
  rintro e w3 ⟨kv, lv, rfl, hof, hb3⟩
  rw [← HFS.out] at hof hfl
  obtain ⟨N, hN⟩ : ∃ N, N = fs.length := ⟨_, rfl⟩
  rw [← hN] at hfl
  obtain ⟨kA, kc, rfl, hk1, _⟩ := hof.kinds.reads' (by rw [List.length_map, ← hN]; omega)
  obtain ⟨lA, lc, rfl, hl1⟩ := hof.recs.rlb
  rw [List.length_map, ← hN]
  rw [List.length_map, ← hN]
  have HK := Lib.hid hk1
  have HL := Lib.hid hl1
  have HB3 := Lib.hid (HB1.out.trans (Below.up hb3 hs1))
  have hs3 : w1.heap.size ≤ w3.heap.size := hb3.size
  have HNN := Lib.hid hN
  clear hof hk1 hl1 hb3 hN HFA
  go_wp2_with fail
  go_loopw [10, 11, 12] (fun nv ov iv wr => ∃ k : Nat, k ≤ N ∧ iv = .int .i64 (k : Int) ∧ nv = .int .i64 (turnOf (fs.take k)) ∧ Hid (OLX w3.heap.size w1.heap.size wr ov (recsOf (fs.take k))) ∧ Hid (Below w3.heap.size w3 wr)) (fun _ _ iv _ => N - (intOf iv).toNat)
  case atStart => exact ⟨0, Nat.zero_le _, rfl, rfl, Lib.hid ⟨[], World.ownsRow_nil _ _ _ _, fun j c l hc hl => by simp at hc⟩, Lib.hid (Below.refl _ _)⟩
  case round =>
    obtain ⟨k, hk, rfl, rfl, HO, HBr⟩ := hrel
    by_cases hlt : k < N
    · obtain ⟨⟨kk, ys⟩, hp⟩ : ∃ p, fs[k]? = some p := ⟨_, List.getElem?_eq_getElem (by rw [← HNN.out]; exact hlt)⟩
      have hp1 : (fs.map (·.1))[k]? = some kk := by rw [List.getElem?_map, hp]; rfl
      have hp2 : (fs.map (·.2))[k]? = some ys := by rw [List.getElem?_map, hp]; rfl
      obtain ⟨kb, koff, rfl, hkb, hkc⟩ := (HK.out.below HBr.out).2 (by rw [List.length_map, ← HNN.out]; omega)
      have hkc := hkc k (by rw [List.length_map, ← HNN.out]; exact hlt)
      rw [List.getD_eq_getElem?_getD, hp1, Option.getD_some] at hkc
      obtain ⟨g, A1, n1, rfl, hg3, hgc, hn1, hrb, hbl⟩ := HL.out.below HBr.out k ys hp2
      obtain ⟨q, hq⟩ : ∃ q, q = kk.toNat := ⟨_, rfl⟩
      rw [← hq] at hkc
      have htk := take_snoc' fs k (kk, ys) hp
      have HTK := Lib.hid htk
      have HRB := Lib.hid hrb
      have HBL := Lib.hid hbl
      have hq256 : q < 256 := by rw [hq]; exact kk.toNat_lt
      have hyl : ys.length ≤ 140737488355328 := hrb.1
      have HQ := Lib.hid hq
      clear hp hp1 hp2 htk hrb hbl hq
      have hbw : w3.heap.size ≤ wr.heap.size := HBr.out.size
      by_cases h71 : q = 71
      · subst h71
        have hkk : kk = 71 := UInt8.toNat_inj.1 (by rw [← HQ.out]; rfl)
        subst hkk
        have hcall := rturn_any wr.heap.size A1 n1 ys wr (Nat.le_refl _) HRB.out hyl
        obtain ⟨m, hm⟩ : ∃ m, m = ys.length := ⟨_, rfl⟩
        rw [← hm] at hcall hgc
        have HC := Lib.hid hcall
        clear hcall hm
        go_wp2_with fail
        refine HC.out.mono ?_
        rintro e w5 ⟨rfl, hb5⟩
        obtain ⟨t, ht⟩ : ∃ t, t = numberP ys := ⟨_, rfl⟩
        obtain ⟨t0, ht0⟩ : ∃ t0, t0 = turnOf (fs.take k) := ⟨_, rfl⟩
        rw [← ht, ← ht0]
        have HO5 : Hid (OLX w3.heap.size w1.heap.size w5 u11 (recsOf (fs.take (k + 1)))) := Lib.hid (by rw [HTK.out, recsOf_turn]; exact HO.out.below hb5)
        have HB5 := Lib.hid (HBr.out.trans (Below.up hb5 hbw))
        have HTT : Hid (turnOf (fs.take (k + 1)) = max t0 t) := Lib.hid (by rw [HTK.out, turnOf_turn, ht0, ht])
        clear hb5 HO HBr ht ht0
        go_wp2_with fail
        go_roundw
        case rel => exact ⟨k + 1, hlt, by go_num, by rw [HTT.out], HO5, HB5⟩
        case measure => simp [intOf]; omega
      · have hkk : kk ≠ 71 := fun e => h71 (by rw [HQ.out, e]; rfl)
        have h7 : ((q : Int) == 71) = false := by simp; omega
        obtain ⟨cs, ho1, ho2⟩ := HO.out
        have hol : (recsOf (fs.take k)).length ≤ N := by
          have := recsOf_len (fs.take k)
          rw [List.length_take] at this; omega
        have HO1 := Lib.hid ho1
        have HO2 := Lib.hid ho2
        have HA1 := Lib.hid (own_fr ho1 (Fr.alloc (fun _ => False) wr (.cells #[.slice A1 ys.length n1] 35)) (fun _ _ h => h))
        clear ho1 ho2 HO
        go_wp2_with (at_builtin; refine (fun (h : Hid _) => h.out) ?_)
        refine Lib.hid ?_
        refine wpList_append_own_at _ rfl (.tmp 42) (.tmp 47) 36 rfl w3.heap.size 35 i1 (.slice none 0 0) 1 24 Tryz.underlying36 hi1 hy0 hy1 hy2 rfl (by decide) u11 (recsOf (fs.take k)).length cs rfl HA1.out ⟨wr.heap.size, 0, none⟩ 1 1 [.slice A1 ys.length n1] rfl rfl (cell_one_new _ _ _) (by simp [Value.oneCell']) (by simp only [maxLen]; omega) (by omega) (by simp; omega) ?_
        intro v1 w5 ho5 hg5 _ ha5
        obtain ⟨hx5, hb5⟩ := OLX.push HO1.out HO2.out (show CB w1.heap.size (fun k => w3.heap.size ≤ k) wr (.slice A1 ys.length n1) ys from ⟨A1, n1, rfl, hn1, HRB.out, fun a ha h0 => ⟨(HBL.out a ha h0).1, by have := (HBL.out a ha h0).2; omega⟩⟩) hbw ho5 hg5 ha5
        have HO5 : Hid (OLX w3.heap.size w1.heap.size w5 v1 (recsOf (fs.take (k + 1)))) := Lib.hid (by rw [HTK.out, recsOf_rec _ _ _ hkk]; exact hx5)
        have HB5 := Lib.hid (HBr.out.trans hb5)
        have HTT : Hid (turnOf (fs.take (k + 1)) = turnOf (fs.take k)) := Lib.hid (by rw [HTK.out, turnOf_rec _ _ _ hkk])
        clear ho5 hg5 ha5 hx5 hb5 HA1 HO1 HO2 HBr
        go_wp2_with fail
        go_roundw
        case rel => exact ⟨k + 1, hlt, by go_num, by rw [HTT.out], HO5, HB5⟩
        case measure => simp [intOf]; omega
    · have hkN : k = N := by omega
      subst hkN
      have HO2 := Lib.hid (HO.out.ol hs3)
      have HB2 := Lib.hid (HB3.out.trans (Below.up HBr.out (Nat.le_trans hs1 hs3)))
      have hft : fs.take k = fs := List.take_of_length_le (by rw [HNN.out]; exact Nat.le_refl _)
      rw [hft] at HO2 ⊢
      clear HO HBr
      go_wp2_with fail
      go_ret2
      obtain ⟨cs, o1, o2⟩ := HO2.out
      exact ⟨_, rfl, ⟨cs, own_base o1 hs1, fun j c l hc hl => (o2 j c l hc hl).mono hs1 (fun _ _ h => h)⟩, HB2.out⟩

end Go.Proofs.YtdhafdejionefaaGreat

/- The document's journal: On, Sync, Append. -/
namespace Go.Proofs.YtdhafdejionefaaGreat
set_option linter.unusedVariables false
set_option linter.unusedSimpArgs false
open Go.RowKit

def rjcells (rb : Nat) (J : JS) : Array Value := #[.pointer (some ⟨rb, 0, none⟩), .int .i64 J.area, .int .i64 J.turn, .int .i64 J.fails]
/-- Block rj is the document's journal that has J (but for the bytes), on its tape rb that has T. -/
structure RJ (w : World) (rj rb : Nat) (J : JS) (T : TS) (F : Nat → Prop) : Prop where
  blk : Blk w rj (rjcells rb J) 47
  tape : RefR w rb T F
  no : ¬ F rj
theorem RJ.fr {w w' : World} {rj rb : Nat} {J : JS} {T : TS} {F G : Nat → Prop} (h : RJ w rj rb J T F) (hf : Fr G w w') (hG : ∀ k, F k → ¬ G k) (hj : ¬ G rj) : RJ w' rj rb J T F :=
  ⟨h.blk.fr hf hj, h.tape.fr hf hG, h.no⟩
theorem RJ.below {w w' : World} {rj rb : Nat} {J : JS} {T : TS} {F : Nat → Prop} (h : RJ w rj rb J T F) (hb : Below w.heap.size w w') : RJ w' rj rb J T F :=
  ⟨h.blk.below hb, h.tape.below hb, h.no⟩
theorem RJ.upd {w w' : World} {rj rb : Nat} {J : JS} {T T' : TS} {F F' : Nat → Prop} (h : RJ w rj rb J T F) (ht : RefR w' rb T' F') (hu : Upd w w' F F') : RJ w' rj rb J T' F' ∧ Upd w w' (FJ F rj) (FJ F' rj) :=
  ⟨⟨h.blk.fr hu.fr h.no, ht, fun hf => (hu.new rj hf).elim h.no (fun h' => by have := h.blk.lt; omega)⟩,
   hu.fr.mono (fun i hi => .inl (.inl hi)), fun k hk => hk.elim (fun h => (hu.new k h).elim (fun h => .inl (.inl h)) .inr) (fun h => .inl (.inr h))⟩
theorem RJ.set {w : World} {rj rb : Nat} {J J' : JS} {T : TS} {F : Nat → Prop} (h : RJ w rj rb J T F) (i : Nat) (v : Value) (hJ : (rjcells rb J).setIfInBounds i v = rjcells rb J') :
    RJ (w.setCell ⟨rj, i, none⟩ v) rj rb J' T F ∧ Upd w (w.setCell ⟨rj, i, none⟩ v) (FJ F rj) (FJ F rj) :=
  ⟨⟨by have := h.blk.set i v; rw [hJ] at this; exact this, h.tape.fr (Fr.setCell (fun k => k = rj) w ⟨rj, i, none⟩ v rfl) (fun k hk e => h.no (e ▸ hk)), h.no⟩,
   Fr.setCell _ w ⟨rj, i, none⟩ v (.inr rfl), fun k hk => .inl hk⟩
def DoesRJ (w : World) (rj rb : Nat) (F : Nat → Prop) (r : Int × TS × JS) (e : Ending) (w' : World) : Prop :=
  e = .returned (.int .i64 r.1) ∧ ∃ F', RJ w' rj rb r.2.2 r.2.1 F' ∧ Upd w w' (FJ F rj) (FJ F' rj)
variable {w : World} {rj rb : Nat} {J : JS} {T : TS} {F : Nat → Prop}
theorem RJ.c0 (h : RJ w rj rb J T F) : w.cell? ⟨rj, 0, none⟩ = some (.pointer (some ⟨rb, 0, none⟩)) := h.blk.cell 0
theorem RJ.c1 (h : RJ w rj rb J T F) : w.cell? ⟨rj, 1, none⟩ = some (.int .i64 J.area) := h.blk.cell 1
theorem RJ.c2 (h : RJ w rj rb J T F) : w.cell? ⟨rj, 2, none⟩ = some (.int .i64 J.turn) := h.blk.cell 2
theorem RJ.c3 (h : RJ w rj rb J T F) : w.cell? ⟨rj, 3, none⟩ = some (.int .i64 J.fails) := h.blk.cell 3
theorem RJ.dark (h : RJ w rj rb J T F) : w.cell? ⟨rb, 5, none⟩ = some (.bool T.off) := by obtain ⟨l, k, u0, u1, t⟩ := h.tape; exact t.blk.cell 5
theorem RJ.tfails (h : RJ w rj rb J T F) : w.cell? ⟨rb, 10, none⟩ = some (.int .i64 T.fails) := by obtain ⟨l, k, u0, u1, t⟩ := h.tape; exact t.blk.cell 10
theorem ron_any (h : RJ w rj rb J T F) : Calls Tryz.prog 16 #[.pointer (some ⟨rj, 0, none⟩)] w fun e w' => e = .returned (.bool (J.fault T == 0)) ∧ Below w.heap.size w w' := by
  obtain ⟨b, hb'⟩ : ∃ b, b = (J.fault T == 0) := ⟨_, rfl⟩
  rw [← hb']
  have c0 := h.c0
  have c3 := h.c3
  have c5 := h.dark
  have c10 := h.tfails
  unfold JS.fault at hb'
  obtain ⟨f1, hf1⟩ : ∃ f, f = T.fails := ⟨_, rfl⟩
  obtain ⟨f2, hf2⟩ : ∃ f, f = J.fails := ⟨_, rfl⟩
  obtain ⟨o, ho⟩ : ∃ o, o = T.off := ⟨_, rfl⟩
  rw [← hf1, ← hf2, ← ho] at hb'
  rw [← hf2] at c3
  rw [← hf1] at c10
  rw [← ho] at c5
  clear hf1 hf2 ho h
  cases o with
  | true =>
    rw [if_neg (by simp)] at hb'
    replace hb' : b = false := hb'
    subst hb'
    go_enter Tryz.func16, Tryz.ntmps16
    go_wp2_with fail
    go_quiet (fail)
    go_wp2_with fail
    go_ret
    exact ⟨rfl, below_drewN _ _⟩
  | false =>
    by_cases hf : f1 = f2
    · rw [if_pos ⟨rfl, hf⟩] at hb'
      replace hb' : b = true := hb'
      subst hb'
      subst hf
      go_enter Tryz.func16, Tryz.ntmps16
      go_wp2_with fail
      go_quiet (fail)
      go_wp2_with fail
      go_ret
      exact ⟨by simp, below_drewN _ _⟩
    · rw [if_neg (fun h => hf h.2)] at hb'
      replace hb' : b = false := hb'
      subst hb'
      have hfb : (f1 == f2) = false := by simp [hf]
      go_enter Tryz.func16, Tryz.ntmps16
      go_wp2_with fail
      go_quiet (fail)
      go_wp2_with fail
      go_ret
      exact ⟨by simp [hfb], below_drewN _ _⟩
set_option maxHeartbeats 1000000 in
theorem rjsync_any (h : RJ w rj rb J T F) : Calls Tryz.prog 34 #[.pointer (some ⟨rj, 0, none⟩)] w (DoesRJ w rj rb F (J.sync T)) := by
  obtain ⟨r, hr⟩ : ∃ r, r = J.sync T := ⟨_, rfl⟩
  rw [← hr]
  unfold JS.sync at hr
  have HR := Lib.hid hr
  clear hr
  go_enter Tryz.func34, Tryz.ntmps34
  go_wp2_with fail
  refine (ron_any h).mono ?_
  rintro e w1 ⟨rfl, hb⟩
  have h1 := h.below hb
  have HB := Lib.hid hb
  obtain ⟨v, hv⟩ : ∃ v, v = J.fault T := ⟨_, rfl⟩
  have hv150 : v = 0 ∨ v = 150 := by rw [hv]; unfold JS.fault; split <;> simp
  have hr := HR.out
  rw [← hv] at hr ⊢
  clear hv hb h HR
  by_cases h0 : v = 0
  · subst h0
    rw [if_neg (by simp)] at hr
    subst hr
    have c0 := h1.c0
    have c1 := h1.c1
    go_wp2_with fail
    refine wp_region_phased (fun W => W.cell? ⟨rj, 0, none⟩ = some (.pointer (some ⟨rb, 0, none⟩)) ∧ W.cell? ⟨rj, 1, none⟩ = some (.int .i64 J.area)) 10 (by kernel_rfl) ⟨c0, c1⟩ (fun hS => ?_)
    have h2 := h1.below (Below.refl _ _).drew
    refine wpAnyP_pure (v := ?_) 0 (at_toArray rfl) (by kernel_rfl) (by kernel_rfl) (by kernel_rfl) (fun _ _ _ h => h) (Or.inl ⟨by rfl, fun W => ?_⟩) ?_
    rotate_left 1
    · (go_simp <;> (try go_bits) <;> with_reducible rfl)
    simp only [Act.put, List.setIfInBounds_toArray, List.set_cons_zero, List.set_cons_succ]
    refine wpAnyP_pure (v := ?_) 1 (at_toArray rfl) (by kernel_rfl) (by kernel_rfl) (by kernel_rfl) (fun _ _ _ h => h) (Or.inl ⟨by rfl, fun W => ?_⟩) ?_
    rotate_left 1
    · (go_simp <;> (try go_bits) <;> with_reducible rfl)
    simp only [Act.put, List.setIfInBounds_toArray, List.set_cons_zero, List.set_cons_succ]
    refine wpAnyP_pure (v := ?_) 2 (at_toArray rfl) (by kernel_rfl) (by kernel_rfl) (by kernel_rfl) (fun _ _ _ h => h) (Or.inl ⟨by rfl, fun W => ?_⟩) ?_
    rotate_left 1
    · (go_simp <;> (try go_bits) <;> with_reducible rfl)
    simp only [Act.put, List.setIfInBounds_toArray, List.set_cons_zero, List.set_cons_succ]
    refine wpAnyP_load (v := ?_) 3 (by kernel_rfl) (at_toArray rfl) (by kernel_rfl) (by kernel_rfl) (by kernel_rfl) (fun _ _ _ h => h) (by first | assumption | rfl) (Or.inl ⟨by rfl, fun W hS => ?_⟩) ?_
    rotate_left 1
    · (obtain ⟨_, _⟩ := hS; go_simp <;> (try go_bits) <;> with_reducible rfl)
    simp only [Act.put, List.setIfInBounds_toArray, List.set_cons_zero, List.set_cons_succ]
    refine wpAnyP_pure (v := ?_) 4 (at_toArray rfl) (by kernel_rfl) (by kernel_rfl) (by kernel_rfl) (fun _ _ _ h => h) (Or.inl ⟨by rfl, fun W => ?_⟩) ?_
    rotate_left 1
    · (go_simp <;> (try go_bits) <;> with_reducible rfl)
    simp only [Act.put, List.setIfInBounds_toArray, List.set_cons_zero, List.set_cons_succ]
    refine wpAnyP_pure (v := ?_) 5 (at_toArray rfl) (by kernel_rfl) (by kernel_rfl) (by kernel_rfl) (fun _ _ _ h => h) (Or.inl ⟨by rfl, fun W => ?_⟩) ?_
    rotate_left 1
    · (go_simp <;> (try go_bits) <;> with_reducible rfl)
    simp only [Act.put, List.setIfInBounds_toArray, List.set_cons_zero, List.set_cons_succ]
    refine wpAnyP_pure (v := ?_) 6 (at_toArray rfl) (by kernel_rfl) (by kernel_rfl) (by kernel_rfl) (fun _ _ _ h => h) (Or.inl ⟨by rfl, fun W => ?_⟩) ?_
    rotate_left 1
    · (go_simp <;> (try go_bits) <;> with_reducible rfl)
    simp only [Act.put, List.setIfInBounds_toArray, List.set_cons_zero, List.set_cons_succ]
    refine wpAnyP_load (v := ?_) 7 (by kernel_rfl) (at_toArray rfl) (by kernel_rfl) (by kernel_rfl) (by kernel_rfl) (fun _ _ _ h => h) (by first | assumption | rfl) (Or.inl ⟨by rfl, fun W hS => ?_⟩) ?_
    rotate_left 1
    · (obtain ⟨_, _⟩ := hS; go_simp <;> (try go_bits) <;> with_reducible rfl)
    simp only [Act.put, List.setIfInBounds_toArray, List.set_cons_zero, List.set_cons_succ]
    refine wpAnyP_one 8 (at_toArray rfl) (by kernel_rfl) rfl (fun K hK => ?_)
    go_wp2_with fail
    refine (rsync_any rb J.area T F _ h2.tape).mono ?_
    rintro e w3 ⟨rfl, F', ht, hu⟩
    obtain ⟨hj, hu'⟩ := h2.upd ht hu
    have HJ := Lib.hid hj
    have HU := Lib.hid (Upd.trans (Upd.of_below (HB.out.trans (Below.up (Below.refl _ _).drew HB.out.size))) hu')
    clear ht hu hu'
    go_wp2_with fail
    refine hK.out _ _ (fun _ _ => ⟨HJ.out.c0, HJ.out.c1⟩) ?_
    clear hK
    refine wpAnyP_pure (v := ?_) 9 (at_toArray rfl) (by kernel_rfl) (by kernel_rfl) (by kernel_rfl) (fun _ _ _ h => h) (Or.inl ⟨by rfl, fun W => ?_⟩) ?_
    rotate_left 1
    · (go_simp <;> (try go_bits) <;> with_reducible rfl)
    simp only [Act.put, List.setIfInBounds_toArray, List.set_cons_zero, List.set_cons_succ]
    refine wpAnyP_done (by kernel_rfl) ?_ _
    go_wp2_with fail
    go_ret
    exact ⟨rfl, F', HJ.out, HU.out⟩
  · rw [if_pos h0] at hr
    subst hr
    obtain rfl : v = 150 := hv150.resolve_left h0
    go_wp2_with fail
    go_ret
    exact ⟨rfl, F, h1, Upd.of_below HB.out⟩
theorem rframe_n (B : Nat) (k : UInt8) (A : Option Addr) (c n : Nat) (xs : List UInt8) (w : World) (hn : xs.length = n) (hB : B ≤ w.heap.size) (hr : RB w A xs) (hy : xs.length ≤ 1000000000) :
    Calls Tryz.prog 60 #[.int .u8 (k.toNat : Int), .slice A n c] w fun e w' => ∃ A1 c1, e = .returned (.slice A1 (frameB k xs).length c1) ∧ RB w' A1 (frameB k xs) ∧ (∀ a, A1 = some a → B ≤ a.block) ∧ Below B w w' := by
  subst hn
  refine (rframe_any B k A c xs w hB hr hy).mono ?_
  rintro e w' ⟨v, rfl, hv, hb⟩
  have hl : (frameB k xs).length ≤ 140737488355328 := by
    have := nbytes_small (n := xs.length) (by omega)
    rw [frameB_len]; omega
  obtain ⟨A1, c1, rfl, hr1, _, hA⟩ := hv.1.reads' hl
  exact ⟨A1, c1, rfl, hr1, fun a ha => hv.2 _ (hA a ha), hb⟩
set_option maxRecDepth 100000 in
set_option maxHeartbeats 2000000 in
theorem rjappend_any (A : Option Addr) (c : Nat) (xs : List UInt8) (h : RJ w rj rb J T F) (hx : RB w A xs) :
    Calls Tryz.prog 33 #[.pointer (some ⟨rj, 0, none⟩), .slice A xs.length c] w (DoesRJ w rj rb F (J.append T xs)) := by
  obtain ⟨r, hr⟩ : ∃ r, r = J.append T xs := ⟨_, rfl⟩
  rw [← hr]
  unfold JS.append at hr
  obtain ⟨n, hn⟩ : ∃ n, n = xs.length := ⟨_, rfl⟩
  rw [← hn] at hr ⊢
  have HR := Lib.hid hr
  have HN := Lib.hid hn
  have hnb : n ≤ 140737488355328 := by rw [hn]; exact hx.1
  clear hr hn
  go_enter Tryz.func33, Tryz.ntmps33
  go_wp2_with fail
  refine (ron_any h).mono ?_
  rintro e w1 ⟨rfl, hb⟩
  have h1 := h.below hb
  have hx1 := hx.below hb
  have HB := Lib.hid hb
  obtain ⟨v, hv⟩ : ∃ v, v = J.fault T := ⟨_, rfl⟩
  have hv150 : v = 0 ∨ v = 150 := by rw [hv]; unfold JS.fault; split <;> simp
  have hr := HR.out
  rw [← hv] at hr ⊢
  clear hv hb h HR hx
  by_cases h0 : v = 0
  · subst h0
    rw [if_neg (by simp)] at hr
    by_cases hl : 4194304 < n
    · rw [if_pos hl] at hr
      subst hr
      go_wp2_with fail
      go_ret
      exact ⟨rfl, F, h1, Upd.of_below HB.out⟩
    · rw [if_neg hl] at hr
      have HR := Lib.hid hr
      clear hr
      have c0 := h1.c0
      have c1 := h1.c1
      go_wp2_with fail
      refine wp_region_phased (fun W => W.cell? ⟨rj, 0, none⟩ = some (.pointer (some ⟨rb, 0, none⟩)) ∧ W.cell? ⟨rj, 1, none⟩ = some (.int .i64 J.area)) 12 (by kernel_rfl) ⟨c0, c1⟩ (fun hS => ?_)
      have h2 := h1.below (Below.refl _ _).drew
      have hx2 := hx1.below (Below.refl _ _).drew
      have HB2 := Lib.hid (HB.out.trans (Below.up (Below.refl _ _).drew HB.out.size))
      clear c0 c1 hx1
      refine wpAnyP_pure (v := ?_) 0 (at_toArray rfl) (by kernel_rfl) (by kernel_rfl) (by kernel_rfl) (fun _ _ _ h => h) (Or.inl ⟨by rfl, fun W => ?_⟩) ?_
      rotate_left 1
      · (go_simp <;> (try go_bits) <;> with_reducible rfl)
      simp only [Act.put, List.setIfInBounds_toArray, List.set_cons_zero, List.set_cons_succ]
      refine wpAnyP_pure (v := ?_) 1 (at_toArray rfl) (by kernel_rfl) (by kernel_rfl) (by kernel_rfl) (fun _ _ _ h => h) (Or.inl ⟨by rfl, fun W => ?_⟩) ?_
      rotate_left 1
      · (go_simp <;> (try go_bits) <;> with_reducible rfl)
      simp only [Act.put, List.setIfInBounds_toArray, List.set_cons_zero, List.set_cons_succ]
      refine wpAnyP_pure (v := ?_) 2 (at_toArray rfl) (by kernel_rfl) (by kernel_rfl) (by kernel_rfl) (fun _ _ _ h => h) (Or.inl ⟨by rfl, fun W => ?_⟩) ?_
      rotate_left 1
      · (go_simp <;> (try go_bits) <;> with_reducible rfl)
      simp only [Act.put, List.setIfInBounds_toArray, List.set_cons_zero, List.set_cons_succ]
      refine wpAnyP_load (v := ?_) 3 (by kernel_rfl) (at_toArray rfl) (by kernel_rfl) (by kernel_rfl) (by kernel_rfl) (fun _ _ _ h => h) (by first | assumption | rfl) (Or.inl ⟨by rfl, fun W hS => ?_⟩) ?_
      rotate_left 1
      · (obtain ⟨_, _⟩ := hS; go_simp <;> (try go_bits) <;> with_reducible rfl)
      simp only [Act.put, List.setIfInBounds_toArray, List.set_cons_zero, List.set_cons_succ]
      refine wpAnyP_pure (v := ?_) 4 (at_toArray rfl) (by kernel_rfl) (by kernel_rfl) (by kernel_rfl) (fun _ _ _ h => h) (Or.inl ⟨by rfl, fun W => ?_⟩) ?_
      rotate_left 1
      · (go_simp <;> (try go_bits) <;> with_reducible rfl)
      simp only [Act.put, List.setIfInBounds_toArray, List.set_cons_zero, List.set_cons_succ]
      refine wpAnyP_pure (v := ?_) 5 (at_toArray rfl) (by kernel_rfl) (by kernel_rfl) (by kernel_rfl) (fun _ _ _ h => h) (Or.inl ⟨by rfl, fun W => ?_⟩) ?_
      rotate_left 1
      · (go_simp <;> (try go_bits) <;> with_reducible rfl)
      simp only [Act.put, List.setIfInBounds_toArray, List.set_cons_zero, List.set_cons_succ]
      refine wpAnyP_pure (v := ?_) 6 (at_toArray rfl) (by kernel_rfl) (by kernel_rfl) (by kernel_rfl) (fun _ _ _ h => h) (Or.inl ⟨by rfl, fun W => ?_⟩) ?_
      rotate_left 1
      · (go_simp <;> (try go_bits) <;> with_reducible rfl)
      simp only [Act.put, List.setIfInBounds_toArray, List.set_cons_zero, List.set_cons_succ]
      refine wpAnyP_load (v := ?_) 7 (by kernel_rfl) (at_toArray rfl) (by kernel_rfl) (by kernel_rfl) (by kernel_rfl) (fun _ _ _ h => h) (by first | assumption | rfl) (Or.inl ⟨by rfl, fun W hS => ?_⟩) ?_
      rotate_left 1
      · (obtain ⟨_, _⟩ := hS; go_simp <;> (try go_bits) <;> with_reducible rfl)
      simp only [Act.put, List.setIfInBounds_toArray, List.set_cons_zero, List.set_cons_succ]
      refine wpAnyP_pure (v := ?_) 8 (at_toArray rfl) (by kernel_rfl) (by kernel_rfl) (by kernel_rfl) (fun _ _ _ h => h) (Or.inl ⟨by rfl, fun W => ?_⟩) ?_
      rotate_left 1
      · (go_simp <;> (try go_bits) <;> with_reducible rfl)
      simp only [Act.put, List.setIfInBounds_toArray, List.set_cons_zero, List.set_cons_succ]
      refine wpAnyP_one 9 (at_toArray rfl) (by kernel_rfl) rfl (fun K hK => ?_)
      go_wp2_with fail
      refine (rframe_n w1.drew.heap.size 68 A c n xs _ HN.out.symm (Nat.le_refl _) hx2 (by rw [← HN.out]; omega)).mono ?_
      rintro e w2 ⟨A1, c1, rfl, hf, hA1, hb2⟩
      have h3 := h2.below hb2
      have HF := Lib.hid hf
      have HB3 := Lib.hid (HB2.out.trans (Below.up hb2 HB2.out.size))
      have HA : Hid (∀ a, A1 = some a → 0 < (frameB 68 xs).length → ¬ F a.block) := Lib.hid fun a ha h0 hF => by
        have e1 := hA1 a ha
        obtain ⟨_, _, _, _, t⟩ := h2.tape
        have := t.flt _ hF
        omega
      have hfl : (frameB 68 xs).length ≤ 1000000000 := by
        have := nbytes_small (n := xs.length) (by rw [← HN.out]; omega)
        rw [frameB_len, ← HN.out]; rw [← HN.out] at this; omega
      obtain ⟨m, hm⟩ : ∃ m, m = (frameB 68 xs).length := ⟨_, rfl⟩
      have hr := HR.out
      rw [← hm] at hr hfl ⊢
      have HM := Lib.hid hm
      have HR := Lib.hid hr
      have H3 := Lib.hid h3
      clear hr hm hb2 hf hA1 h1 h2 hx2 h3
      go_wp2_with fail
      refine hK.out _ _ (fun _ _ => ⟨H3.out.c0, H3.out.c1⟩) ?_
      clear hK
      refine wpAnyP_one 10 (at_toArray rfl) (by kernel_rfl) rfl (fun K hK => ?_)
      go_wp2_with fail
      rw [HM.out]
      refine (rappend_any rb J.area A1 c1 (frameB 68 xs) T F _ H3.out.tape HF.out HA.out).mono ?_
      rw [← HM.out]
      obtain ⟨⟨p, T'⟩, hp⟩ : ∃ p, p = T.append J.area (frameB 68 xs) := ⟨_, rfl⟩
      have hr := HR.out
      rw [← hp] at hr ⊢
      rintro e w3 ⟨rfl, F', ht, hu⟩
      obtain ⟨hj, hu'⟩ := H3.out.upd ht hu
      have HJ := Lib.hid hj
      have HU := Lib.hid (Upd.trans (Upd.of_below HB3.out) hu')
      have HR := Lib.hid hr
      clear ht hu hu' hj hr hp
      go_wp2_with fail
      refine hK.out _ _ (fun _ _ => ⟨HJ.out.c0, HJ.out.c1⟩) ?_
      clear hK
      refine wpAnyP_pure (v := ?_) 11 (at_toArray rfl) (by kernel_rfl) (by kernel_rfl) (by kernel_rfl) (fun _ _ _ h => h) (Or.inl ⟨by rfl, fun W => ?_⟩) ?_
      rotate_left 1
      · (go_simp <;> (try go_bits) <;> with_reducible rfl)
      simp only [Act.put, List.setIfInBounds_toArray, List.set_cons_zero, List.set_cons_succ]
      refine wpAnyP_done (by kernel_rfl) ?_ _
      go_wp2_with fail
      go_ret
      by_cases hp0 : p = 0
      · subst hp0
        have hr := HR.out
        rw [if_pos rfl] at hr
        subst hr
        exact ⟨rfl, F', ⟨HJ.out.blk, HJ.out.tape, HJ.out.no⟩, HU.out⟩
      · have hr := HR.out
        rw [if_neg hp0] at hr
        subst hr
        exact ⟨rfl, F', HJ.out, HU.out⟩
  · rw [if_pos h0] at hr
    subst hr
    obtain rfl : v = 150 := hv150.resolve_left h0
    go_wp2_with fail
    go_ret
    exact ⟨rfl, F, h1, Upd.of_below HB.out⟩

end Go.Proofs.YtdhafdejionefaaGreat
