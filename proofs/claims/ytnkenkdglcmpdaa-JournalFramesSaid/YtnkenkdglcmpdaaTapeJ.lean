/- The walk of the tape's Append. -/
import Derived.Test.YtnkenkdglcmpdaaTapeI
namespace Go.Proofs.Ytnkenkdglcmpdaa
set_option linter.unusedVariables false
set_option linter.unusedSimpArgs false
open Go.RowKit

theorem RB.fr2 {F : Nat → Prop} {w w' : World} {A : Option Addr} {xs : List UInt8} (h : RB w A xs) (hf : Fr F w w') (hn : ∀ a, A = some a → 0 < xs.length → ¬ F a.block) : RB w' A xs := by
  by_cases hx : 0 < xs.length
  · exact h.fr hf (fun a e => hn a e hx)
  · exact ⟨h.1, fun h => absurd h hx⟩
/-- Append on an area that answers. -/
def TS.roomed (T : TS) (n : Int) (xs : List UInt8) : Int × TS := if T.room - (T.used : Int) < (xs.length : Int) then (151, T) else T.op fun T => T.app n xs

theorem append_err (tb : Nat) (n : Int) (A : Option Addr) (m c : Nat) (T : TS) (F : Nat → Prop) (w : World) (h : TapeR w tb T F) (hn : faultN T.off n ≠ 0) :
    Calls Try.prog 27 #[.pointer (some ⟨tb, 0, none⟩), .int .i64 n, .slice A m c] w (Does w tb F (faultN T.off n, T)) := by
  have hb : Below w.heap.size w (((w.alloc (.cells #[.pointer (some ⟨tb, 0, none⟩)] 33)).alloc (.cells #[.int .i64 n] 3)).alloc (.cells #[.slice A m c] 22)) := (((Below.refl _ _).alloc (Nat.le_refl _) _).alloc (by simp) _).alloc (by simp; omega) _
  have H := Lib.hid (h.below hb)
  have HB := Lib.hid hb
  obtain ⟨v0, v1, pv, h⟩ := h
  have h0 := (((h.blk.alloc (.cells #[.pointer (some ⟨tb, 0, none⟩)] 33)).alloc (.cells #[.int .i64 n] 3)).alloc (.cells #[.slice A m c] 22)).cell 0
  have h6 := (((h.blk.alloc (.cells #[.pointer (some ⟨tb, 0, none⟩)] 33)).alloc (.cells #[.int .i64 n] 3)).alloc (.cells #[.slice A m c] 22)).cell 6
  obtain ⟨k, hk⟩ : ∃ k, k = faultN T.off n := ⟨_, rfl⟩
  have hne : (k != 0) = true := by rw [bne_iff_ne, hk]; exact hn
  rw [← hk]
  have HK := Lib.hid hk
  have H0 := Lib.hid h0
  have H6 := Lib.hid h6
  clear h hn hk hb h0 h6
  go_enter Try.func27, Try.ntmps27
  go_wp2_with fail
  refine (fault_any tb n T.off _ H0.out H6.out).mono ?_
  rintro e w' ⟨rfl, rfl⟩
  rw [← HK.out]
  go_wp2
  go_ret
  exact ⟨rfl, F, H.out, Upd.of_below HB.out⟩
set_option maxRecDepth 100000 in
set_option maxHeartbeats 2000000 in
theorem append_ok (tb : Nat) (n : Int) (A : Option Addr) (c : Nat) (xs : List UInt8) (T : TS) (F : Nat → Prop) (w : World) (h : TapeR w tb T F) (hn : n = 0 ∨ n = 1) (ho : T.off = false) (hr : RB w A xs) (hA : ∀ a, A = some a → 0 < xs.length → ¬ F a.block) :
    Calls Try.prog 27 #[.pointer (some ⟨tb, 0, none⟩), .int .i64 n, .slice A xs.length c] w (Does w tb F (T.roomed n xs)) := by
  obtain ⟨m, hm⟩ : ∃ m, m = xs.length := ⟨_, rfl⟩
  rw [← hm]
  have hml : m ≤ 140737488355328 := by rw [hm]; exact hr.1
  obtain ⟨w2, hw2⟩ : ∃ w2, w2 = (((w.alloc (.cells #[.pointer (some ⟨tb, 0, none⟩)] 33)).alloc (.cells #[.int .i64 n] 3)).alloc (.cells #[.slice A m c] 22)) := ⟨_, rfl⟩
  have hb : Below w.heap.size w w2 := by rw [hw2]; exact (((Below.refl _ _).alloc (Nat.le_refl _) _).alloc (by simp) _).alloc (by simp; omega) _
  have hk3 : Blk w2 w.heap.size #[.pointer (some ⟨tb, 0, none⟩)] 33 := by rw [hw2]; exact ((Blk.new w _ _).alloc _).alloc _
  have hk4 : Blk w2 (w.heap.size + 1) #[.int .i64 n] 3 := by
    rw [hw2]
    have := (Blk.new (w.alloc (.cells #[.pointer (some ⟨tb, 0, none⟩)] 33)) #[.int .i64 n] 3).alloc (.cells #[.slice A m c] 22)
    simpa using this
  have hk5 : Blk w2 (w.heap.size + 1 + 1) #[.slice A m c] 22 := by
    rw [hw2]
    have := Blk.new ((w.alloc (.cells #[.pointer (some ⟨tb, 0, none⟩)] 33)).alloc (.cells #[.int .i64 n] 3)) #[.slice A m c] 22
    simpa using this
  have hF : ∀ k, F k → k < w.heap.size := by obtain ⟨_, _, _, h⟩ := h; exact h.flt
  have h2 := h.below hb
  have H := Lib.hid h2
  have HB := Lib.hid hb
  have HK3 := Lib.hid hk3
  have HK4 := Lib.hid hk4
  have HK5 := Lib.hid hk5
  have HR := Lib.hid (hr.below hb)
  have HM := Lib.hid hm
  have hn3 : w2.cell? ⟨w.heap.size, 0, none⟩ = some (.pointer (some ⟨tb, 0, none⟩)) := hk3.cell 0
  have hn4 : w2.cell? ⟨w.heap.size + 1, 0, none⟩ = some (.int .i64 n) := hk4.cell 0
  have hn5 : w2.cell? ⟨w.heap.size + 1 + 1, 0, none⟩ = some (.slice A m c) := hk5.cell 0
  obtain ⟨v0, v1, pv, h2⟩ := h2
  have h0 := h2.c0
  have h1 := h2.c1
  have h6 := h2.c6
  have hu : (T.used : Int) ≤ T.room := h2.wf.fit
  have hu2 : T.room ≤ 1073741824 := h2.wf.room
  rw [ho] at h6
  have HN := Lib.hid hn
  have HF := Lib.hid hF
  have HA := Lib.hid hA
  have hfz : faultN false n = 0 := by simp [faultN, hn]
  have HW := Lib.hid hw2
  clear h h2 hb hk3 hk4 hk5 hn hF hw2 ho hr hm hA
  go_enter Try.func27, Try.ntmps27
  go_wp2_with fail
  rw [← HW.out]
  clear HW
  refine (fault_any tb n false w2 h0 h6).mono ?_
  rintro e w' ⟨rfl, rfl⟩
  rw [hfz]
  clear hfz
  go_wp2_with fail
  refine wp_region_phased (fun W => W = w2.drew) 10 (by kernel_rfl) rfl (fun hS0 => ?_)
  refine wpAnyP_load (v := ?_) 0 (by kernel_rfl) (at_toArray rfl) (by kernel_rfl) (by kernel_rfl) (by kernel_rfl) (fun _ _ _ h => h) (by first | assumption | rfl) (Or.inl ⟨by rfl, fun W hS => ?_⟩) ?_
  rotate_left 1
  · (obtain rfl := hS; go_simp <;> (try go_bits) <;> with_reducible rfl)
  simp only [Act.put, List.setIfInBounds_toArray, List.set_cons_zero, List.set_cons_succ]
  refine wpAnyP_load (v := ?_) 2 (by kernel_rfl) (at_toArray rfl) (by kernel_rfl) (by kernel_rfl) (by kernel_rfl) (fun _ _ _ h => h) (by first | assumption | rfl) (Or.inl ⟨by rfl, fun W hS => ?_⟩) ?_
  rotate_left 1
  · (obtain rfl := hS; go_simp <;> (try go_bits) <;> with_reducible rfl)
  simp only [Act.put, List.setIfInBounds_toArray, List.set_cons_zero, List.set_cons_succ]
  refine wpAnyP_load (v := ?_) 6 (by kernel_rfl) (at_toArray rfl) (by kernel_rfl) (by kernel_rfl) (by kernel_rfl) (fun _ _ _ h => h) (by first | assumption | rfl) (Or.inl ⟨by rfl, fun W hS => ?_⟩) ?_
  rotate_left 1
  · (obtain rfl := hS; go_simp <;> (try go_bits) <;> with_reducible rfl)
  simp only [Act.put, List.setIfInBounds_toArray, List.set_cons_zero, List.set_cons_succ]
  refine wpAnyP_pure (v := ?_) 1 (at_toArray rfl) (by kernel_rfl) (by kernel_rfl) (by kernel_rfl) (fun _ _ _ h => h) (Or.inl ⟨by rfl, fun W => ?_⟩) ?_
  rotate_left 1
  · (go_simp <;> (try go_bits) <;> with_reducible rfl)
  simp only [Act.put, List.setIfInBounds_toArray, List.set_cons_zero, List.set_cons_succ]
  refine wpAnyP_pure (v := ?_) 3 (at_toArray rfl) (by kernel_rfl) (by kernel_rfl) (by kernel_rfl) (fun _ _ _ h => h) (Or.inl ⟨by rfl, fun W => ?_⟩) ?_
  rotate_left 1
  · (go_simp <;> (try go_bits) <;> with_reducible rfl)
  simp only [Act.put, List.setIfInBounds_toArray, List.set_cons_zero, List.set_cons_succ]
  refine wpAnyP_pure (v := ?_) 4 (at_toArray rfl) (by kernel_rfl) (by kernel_rfl) (by kernel_rfl) (fun _ _ _ h => h) (Or.inl ⟨by rfl, fun W => ?_⟩) ?_
  rotate_left 1
  · (go_simp <;> (try go_bits) <;> with_reducible rfl)
  simp only [Act.put, List.setIfInBounds_toArray, List.set_cons_zero, List.set_cons_succ]
  refine wpAnyP_load (v := ?_) 5 (by kernel_rfl) (at_toArray rfl) (by kernel_rfl) (by kernel_rfl) (by kernel_rfl) (fun _ _ _ h => h) (by first | assumption | rfl) (Or.inl ⟨by rfl, fun W hS => ?_⟩) ?_
  rotate_left 1
  · (obtain rfl := hS; go_simp <;> (try go_bits) <;> with_reducible rfl)
  simp only [Act.put, List.setIfInBounds_toArray, List.set_cons_zero, List.set_cons_succ]
  refine wpAnyP_one 7 (at_toArray rfl) (by kernel_rfl) rfl (fun K hK => ?_)
  go_wp2_with fail
  refine (used_any tb T F _ (H.out.below (Below.refl _ _).drew)).mono ?_
  rintro e w' ⟨rfl, rfl⟩
  go_wp2_with fail
  refine hK.out _ _ (fun _ _ => rfl) ?_
  clear hK
  obtain ⟨u, hu0⟩ : ∃ u : Nat, u = T.used := ⟨_, rfl⟩
  rw [← hu0] at hu ⊢
  have HU := Lib.hid hu0
  clear hu0
  refine wpAnyP_pure (v := ?_) 8 (at_toArray rfl) (by kernel_rfl) (by kernel_rfl) (by kernel_rfl) (fun _ _ _ h => h) (Or.inl ⟨by rfl, fun W => ?_⟩) ?_
  rotate_left 1
  · (go_simp <;> (try go_bits) <;> with_reducible rfl)
  simp only [Act.put, List.setIfInBounds_toArray, List.set_cons_zero, List.set_cons_succ]
  refine wpAnyP_pure (v := ?_) 9 (at_toArray rfl) (by kernel_rfl) (by kernel_rfl) (by kernel_rfl) (fun _ _ _ h => h) (Or.inl ⟨by rfl, fun W => ?_⟩) ?_
  rotate_left 1
  · (go_simp <;> (try go_bits) <;> with_reducible rfl)
  simp only [Act.put, List.setIfInBounds_toArray, List.set_cons_zero, List.set_cons_succ]
  refine wpAnyP_done (by kernel_rfl) ?_ _
  clear hS0
  by_cases hroom : T.room - (u : Int) < (m : Int)
  · have HV : Hid (T.roomed n xs = (151, T)) := Lib.hid (if_pos (show T.room - (T.used : Int) < (xs.length : Int) from by rw [← HU.out, ← HM.out]; exact hroom))
    go_wp2
    go_ret
    rw [HV.out]
    exact ⟨rfl, F, (H.out.below (Below.refl _ _).drew), Upd.of_below HB.out.drew⟩
  · have HV : Hid (T.roomed n xs = T.op fun T => T.app n xs) := Lib.hid (if_neg (show ¬ T.room - (T.used : Int) < (xs.length : Int) from by rw [← HU.out, ← HM.out]; exact hroom))
    have hd : Below w.heap.size w w2.drew := HB.out.drew
    have e3 : w2.drew.cell? ⟨w.heap.size, 0, none⟩ = some (.pointer (some ⟨tb, 0, none⟩)) := hn3
    have HT := Lib.hid (H.out.below (Below.refl _ _).drew)
    have HD3 : Hid (Blk w2.drew w.heap.size #[.pointer (some ⟨tb, 0, none⟩)] 33) := HK3
    have HD4 : Hid (Blk w2.drew (w.heap.size + 1) #[.int .i64 n] 3) := HK4
    have HD5 : Hid (Blk w2.drew (w.heap.size + 1 + 1) #[.slice A m c] 22) := HK5
    have HDR : Hid (RB w2.drew A xs) := HR.out.below (Below.refl _ _).drew
    clear hn3 hn4 hn5 h0 h1 h6 H HB HK3 HK4 HK5 HR
    generalize w2.drew = w3 at *
    go_wp2_with fail
    have hcl : ∀ w1, TapeR w1 tb T.step F → Upd w3 w1 F F → Calls Try.prog 64 #[.pointer (some ⟨w.heap.size, 0, none⟩), .pointer (some ⟨w.heap.size + 1, 0, none⟩), .pointer (some ⟨w.heap.size + 1 + 1, 0, none⟩)] w1 fun e w' => e = .returned (.tuple #[]) ∧ ∃ F', TapeR w' tb (T.step.app n xs) F' ∧ Upd w1 w' F F' := by
      intro w1 ht hu
      have g3 : ¬ F w.heap.size := fun hf => by have := HF.out _ hf; omega
      have g4 : ¬ F (w.heap.size + 1) := fun hf => by have := HF.out _ hf; omega
      have g5 : ¬ F (w.heap.size + 1 + 1) := fun hf => by have := HF.out _ hf; omega
      have a3 := (HD3.out.fr hu.fr g3).cell 0
      have a4 := (HD4.out.fr hu.fr g4).cell 0
      have a5 : w1.cell? ⟨w.heap.size + 1 + 1, 0, none⟩ = some (.slice A xs.length c) := by rw [← HM.out]; exact (HD5.out.fr hu.fr g5).cell 0
      have ar := HDR.out.fr2 hu.fr HA.out
      have hfit : ((T.step.used + xs.length : Nat) : Int) ≤ T.step.room := by
        show ((T.used + xs.length : Nat) : Int) ≤ T.room
        rw [← HU.out, ← HM.out]; omega
      rcases HN.out with rfl | rfl
      · exact append1_0 tb _ _ _ A c xs _ F w1 ht a3 a4 a5 g3 g4 g5 ar hfit
      · exact append1_1 tb _ _ _ A c xs _ F w1 ht a3 a4 a5 g3 g4 g5 ar hfit
    have HCL := Lib.hid hcl
    clear hcl
    obtain ⟨pl, hpl⟩ : ∃ pl, pl = T.plan := ⟨_, rfl⟩
    match pl, hpl with
    | none, hpl =>
      have hv : (T.op fun T => T.app n xs) = (0, T.step.app n xs) := by unfold TS.op; rw [← hpl]
      have HV2 := Lib.hid hv
      refine (do_none_append _ tb T F w3 HT.out hpl.symm (fun w1 w' => ∃ F', TapeR w' tb (T.step.app n xs) F' ∧ Upd w1 w' F F') HCL.out).mono ?_
      rintro e w' ⟨rfl, w1, _, hu1, F', ht, hu⟩
      have HT2 := Lib.hid ht
      have HU2 := Lib.hid (hu1.trans hu)
      clear ht hu hu1 hpl hv
      go_wp2
      go_ret
      rw [HV.out, HV2.out]
      exact ⟨rfl, F', HT2.out, (Upd.of_below hd).trans HU2.out⟩
    | some (l, k), hpl =>
      by_cases hl : l = 0
      · subst hl
        have hv : (T.op fun T => T.app n xs) = (150, T.gone k) := by unfold TS.op; rw [← hpl]; rfl
        have HV2 := Lib.hid hv
        refine (do_gone_append _ tb T F w3 HT.out k hpl.symm).mono ?_
        rintro e w' ⟨rfl, F', ht, hu⟩
        have HT2 := Lib.hid ht
        have HU2 := Lib.hid hu
        clear ht hu hpl hv
        go_wp2
        go_ret
        rw [HV.out, HV2.out]
        exact ⟨rfl, F', HT2.out, (Upd.of_below hd).trans HU2.out⟩
      · have hv : (T.op fun T => T.app n xs) = (0, T.step.app n xs) := by unfold TS.op; rw [← hpl]; exact if_neg hl
        have HV2 := Lib.hid hv
        have hl0 : 0 < l := by
          obtain ⟨_, _, _, ht⟩ := HT.out
          have := (ht.wf.left l k hpl.symm).1
          omega
        refine (do_left_append _ tb T F w3 HT.out l k hpl.symm hl0 (fun w1 w' => ∃ F', TapeR w' tb (T.step.app n xs) F' ∧ Upd w1 w' F F') HCL.out).mono ?_
        rintro e w' ⟨rfl, w1, _, hu1, F', ht, hu⟩
        have HT2 := Lib.hid ht
        have HU2 := Lib.hid (hu1.trans hu)
        clear ht hu hu1 hpl hv
        go_wp2
        go_ret
        rw [HV.out, HV2.out]
        exact ⟨rfl, F', HT2.out, (Upd.of_below hd).trans HU2.out⟩
theorem append_any (tb : Nat) (n : Int) (A : Option Addr) (c : Nat) (xs : List UInt8) (T : TS) (F : Nat → Prop) (w : World) (h : TapeR w tb T F) (hr : RB w A xs) (hA : ∀ a, A = some a → 0 < xs.length → ¬ F a.block) :
    Calls Try.prog 27 #[.pointer (some ⟨tb, 0, none⟩), .int .i64 n, .slice A xs.length c] w (Does w tb F (T.append n xs)) := by
  unfold TS.append
  by_cases hn : faultN T.off n = 0
  · rw [if_neg (by simpa using hn)]
    have := fault_zero hn
    exact append_ok tb n A c xs T F w h this.2 this.1 hr hA
  · rw [if_pos hn]
    exact append_err tb n A xs.length c T F w h hn
theorem append_no (p : Option Addr) (n : Int) (A : Option Addr) (m c : Nat) (w : World) (h : NoTape w p) :
    Calls Try.prog 27 #[.pointer p, .int .i64 n, .slice A m c] w fun e w' => e = .returned (.int .i64 1) ∧ Below w.heap.size w w' := by
  have hb : Below w.heap.size w (((w.alloc (.cells #[.pointer p] 33)).alloc (.cells #[.int .i64 n] 3)).alloc (.cells #[.slice A m c] 22)) := (((Below.refl _ _).alloc (Nat.le_refl _) _).alloc (by simp) _).alloc (by simp; omega) _
  have H := Lib.hid (h.below hb)
  have HB := Lib.hid hb
  clear h hb
  go_enter Try.func27, Try.ntmps27
  go_wp2_with fail
  refine (fault_no p n _ H.out).mono ?_
  rintro e w' ⟨rfl, rfl⟩
  go_wp2
  go_ret
  exact ⟨rfl, HB.out⟩

end Go.Proofs.Ytnkenkdglcmpdaa
