/- Parts: The walks of the document's New, may, Arm, Fail, Sync, Clear. -/
import Derived.Test.YtdhafdejionefaaGreatM12
/- The walks of the document's New, may, Arm, Fail, Sync, Clear. -/
namespace Go.Proofs.YtdhafdejionefaaGreat
set_option linter.unusedVariables false
set_option linter.unusedSimpArgs false
open Go.RowKit

def DoesR (w : World) (rb : Nat) (F : Nat → Prop) (r : Int × TS) (e : Ending) (w' : World) : Prop := e = .returned (.int .i64 r.1) ∧ ∃ F', RefR w' rb r.2 F' ∧ Upd w w' F F'
def TS.may (T : TS) : Int × TS :=
  match T.plan with
  | none => (0, T.step)
  | some (l, k) => if l = 0 then (150, T.gone k) else (0, T.step)
theorem op_may (T : TS) (f : TS → TS) : T.op f = if T.may.1 = 0 then (0, f T.may.2) else T.may := by
  unfold TS.op TS.may
  match T.plan with
  | none => rfl
  | some (l, k) =>
    by_cases hl : l = 0
    · simp [hl]
    · simp [hl]
theorem may_form (T : TS) : T.may.1 = 0 ∨ T.may.1 = 150 := by
  unfold TS.may
  match T.plan with
  | none => exact .inl rfl
  | some (l, k) =>
    by_cases hl : l = 0
    · simp [hl]
    · simp [hl]
theorem rnew_ok (room : Int) (w : World) (h0 : 0 ≤ room) (h1 : room ≤ 1073741824) :
    Calls Tryz.prog 7 #[.int .i64 room] w fun e w' => ∃ rb, e = .returned (.pointer (some ⟨rb, 0, none⟩)) ∧ w.heap.size ≤ rb ∧ Below w.heap.size w w' ∧ RefR w' rb (TS.new room) (fun k => k = rb) := by
  have h2 : ¬ room < 0 := by omega
  have h3 : ¬ 1073741824 < room := by omega
  go_enter Tryz.func7, Tryz.ntmps7
  go_wp2
  go_ret
  refine ⟨_, rfl, Nat.le_refl _, (Below.refl _ _).alloc (Nat.le_refl _) _, 0, 0, .slice none 0 0, .slice none 0 0, Blk.new w _ _, OB.nil _, OB.nil _, fun a b e => by (exact absurd e (by simp [TS.new])), fun k hk => by simp [Value.ownBlock] at hk, rfl, fun k hk => by simp [Value.ownBlock] at hk, fun k hk => by simp [Value.ownBlock] at hk, fun k hk => by subst hk; simp, ⟨Nat.le_refl _, Nat.le_refl _, ?_, h1, fun l k e => by cases e⟩⟩
  show ((0 + 0 : Nat) : Int) ≤ room
  omega
theorem rnew_no (room : Int) (w : World) (h : room < 0 ∨ 1073741824 < room) :
    Calls Tryz.prog 7 #[.int .i64 room] w fun e w' => e = .returned (.pointer none) ∧ w = w' := by
  by_cases h1 : room < 0
  · clear h
    go_enter Tryz.func7, Tryz.ntmps7
    go_wp2
    go_ret
    exact ⟨rfl, rfl⟩
  · have h2 : 1073741824 < room := by omega
    clear h
    go_enter Tryz.func7, Tryz.ntmps7
    go_wp2
    go_ret
    exact ⟨rfl, rfl⟩
set_option maxRecDepth 100000 in
theorem rmay_any (rb : Nat) (T : TS) (F : Nat → Prop) (w : World) (h : RefR w rb T F) :
    Calls Tryz.prog 58 #[.pointer (some ⟨rb, 0, none⟩)] w (DoesR w rb F T.may) := by
  obtain ⟨l, k, u0, u1, h⟩ := h
  obtain ⟨pl, hpl⟩ : ∃ pl, pl = T.plan := ⟨_, rfl⟩
  have h9 : w.cell? ⟨rb, 9, none⟩ = some (.int .i64 T.ops) := h.blk.cell 9
  have g9 := h.blk.free 9
  have h7 : w.cell? ⟨rb, 7, none⟩ = some (.int .i64 l) := h.blk.cell 7
  have g7 := h.blk.free 7
  have h8 : w.cell? ⟨rb, 8, none⟩ = some (.int .i64 k) := h.blk.cell 8
  have h6 : w.cell? ⟨rb, 6, none⟩ = some (.bool T.plan.isSome) := h.blk.cell 6
  match pl, hpl with
  | none, hpl =>
    have hm : T.may = (0, T.step) := by unfold TS.may; rw [← hpl]
    rw [hm]
    replace h6 : w.cell? ⟨rb, 6, none⟩ = some (.bool false) := by rw [h6, ← hpl]; rfl
    have H := Lib.hid h
    have HP := Lib.hid hpl
    clear h hpl hm
    go_enter Tryz.func58, Tryz.ntmps58
    go_wp2_with fail
    go_ret
    have h := H.out
    have hst : T.step.plan = none := by unfold TS.step; rw [← HP.out]; rfl
    have hcs : (rcells T l k u0 u1).setIfInBounds 9 (.int .i64 (wrap64 (T.ops + 1))) = rcells T.step l k u0 u1 := by
      unfold rcells
      rw [hst, ← HP.out]
      rfl
    exact ⟨rfl, F, ⟨l, k, u0, u1, h.re (fr_own w rb 9 _) (hcs ▸ h.blk.set 9 (.int .i64 (wrap64 (T.ops + 1)))) rfl rfl (fun a b e => by rw [hst] at e; cases e) (step_none T HP.out.symm h.wf)⟩, upd_re (fr_own w rb 9 _) h.ft⟩
  | some (l', k'), hpl =>
    obtain ⟨rfl, rfl⟩ := h.pl l' k' hpl.symm
    have hb := h.wf.left l' k' hpl.symm
    replace h6 : w.cell? ⟨rb, 6, none⟩ = some (.bool true) := by rw [h6, ← hpl]; rfl
    by_cases hl : l' = 0
    · have hm : T.may = (150, T.gone k') := by unfold TS.may; rw [← hpl]; exact if_pos hl
      rw [hm]
      subst hl
      have H := Lib.hid h
      clear h hpl hm
      go_enter Tryz.func58, Tryz.ntmps58
      go_wp2_with fail
      refine (rgone_any rb k' T F w ⟨_, _, _, _, H.out⟩).mono ?_
      rintro e w' ⟨rfl, F', hr, hu⟩
      have HR := Lib.hid hr
      have HU := Lib.hid hu
      clear hr hu h6 h7 h8 h9 g7 g9
      go_wp2_with fail
      go_ret
      exact ⟨rfl, F', HR.out, HU.out⟩
    · have hm : T.may = (0, T.step) := by unfold TS.may; rw [← hpl]; exact if_neg hl
      rw [hm]
      have hl0 : 0 < l' := by omega
      have hlb : (l' == 0) = false := by simpa using hl
      have H := Lib.hid h
      have HP := Lib.hid hpl
      clear h hpl hm hl
      go_enter Tryz.func58, Tryz.ntmps58
      go_wp2_with fail
      go_ret
      have h := H.out
      have hst : T.step.plan = some (l' - 1, k') := by unfold TS.step; rw [← HP.out]; rfl
      have hcs : ((rcells T l' k' u0 u1).setIfInBounds 7 (.int .i64 (l' - 1))).setIfInBounds 9 (.int .i64 (wrap64 (T.ops + 1))) = rcells T.step (l' - 1) k' u0 u1 := by
        unfold rcells
        rw [hst, ← HP.out]
        rfl
      have hf : Fr (fun k => k = rb) w ((w.setCell ⟨rb, 7, none⟩ (.int .i64 (l' - 1))).setCell ⟨rb, 9, none⟩ (.int .i64 (wrap64 (T.ops + 1)))) := (fr_own _ _ _ _).trans (fr_own _ _ _ _) (fun _ h => .inl h)
      exact ⟨rfl, F, ⟨l' - 1, k', u0, u1, h.re hf (hcs ▸ (h.blk.set 7 (.int .i64 (l' - 1))).set 9 (.int .i64 (wrap64 (T.ops + 1)))) rfl rfl (fun a b e => by rw [hst] at e; cases e; exact ⟨rfl, rfl⟩) (step_left T l' k' HP.out.symm hl0 h.wf)⟩, upd_re hf h.ft⟩
theorem rfail_any (rb : Nat) (keep : Int) (T : TS) (F : Nat → Prop) (w : World) (h : RefR w rb T F) :
    Calls Tryz.prog 28 #[.pointer (some ⟨rb, 0, none⟩), .int .i64 keep] w (DoesR w rb F (T.fail keep)) := by
  have H := Lib.hid h
  obtain ⟨l, k, u0, u1, h⟩ := h
  have h5 : w.cell? ⟨rb, 5, none⟩ = some (.bool T.off) := h.blk.cell 5
  clear h
  by_cases ho : T.off = true
  · have hr : T.fail keep = (150, T) := by unfold TS.fail; rw [if_pos ho]
    rw [hr]
    rw [ho] at h5
    clear hr ho
    go_enter Tryz.func28, Tryz.ntmps28
    go_wp2_with fail
    go_ret
    exact ⟨rfl, F, H.out, Upd.refl _ _⟩
  · have hr : T.fail keep = (0, T.gone keep) := by unfold TS.fail; rw [if_neg ho]
    rw [hr]
    replace ho : T.off = false := by simpa using ho
    rw [ho] at h5
    clear hr ho
    go_enter Tryz.func28, Tryz.ntmps28
    go_wp2_with fail
    refine (rgone_any rb keep T F w H.out).mono ?_
    rintro e w' ⟨rfl, F', hr, hu⟩
    have HR := Lib.hid hr
    have HU := Lib.hid hu
    clear hr hu
    go_wp2_with fail
    go_ret
    exact ⟨rfl, F', HR.out, HU.out⟩
theorem rarm_any (rb : Nat) (n keep : Int) (T : TS) (F : Nat → Prop) (w : World) (h : RefR w rb T F) (hn : n ≤ 9223372036854775807) :
    Calls Tryz.prog 27 #[.pointer (some ⟨rb, 0, none⟩), .int .i64 n, .int .i64 keep] w (DoesR w rb F (T.arm n keep)) := by
  have H := Lib.hid h
  obtain ⟨l, k, u0, u1, h⟩ := h
  have h5 : w.cell? ⟨rb, 5, none⟩ = some (.bool T.off) := h.blk.cell 5
  by_cases h1 : n < 0
  · have hr : T.arm n keep = (2, T) := by unfold TS.arm; rw [if_pos h1]
    rw [hr]
    clear hr h h5
    go_enter Tryz.func27, Tryz.ntmps27
    go_wp2_with fail
    go_ret
    exact ⟨rfl, F, H.out, Upd.refl _ _⟩
  · by_cases ho : T.off = true
    · have hr : T.arm n keep = (150, T) := by unfold TS.arm; rw [if_neg h1, if_pos ho]
      rw [hr]
      rw [ho] at h5
      clear hr ho h
      go_enter Tryz.func27, Tryz.ntmps27
      go_wp2_with fail
      go_ret
      exact ⟨rfl, F, H.out, Upd.refl _ _⟩
    · have hr : T.arm n keep = (0, { T with plan := some (n, keep) }) := by unfold TS.arm; rw [if_neg h1, if_neg ho]
      rw [hr]
      replace ho : T.off = false := by simpa using ho
      rw [ho] at h5
      have h6 : w.cell? ⟨rb, 6, none⟩ = some (.bool T.plan.isSome) := h.blk.cell 6
      have h7 : w.cell? ⟨rb, 7, none⟩ = some (.int .i64 l) := h.blk.cell 7
      have h8 : w.cell? ⟨rb, 8, none⟩ = some (.int .i64 k) := h.blk.cell 8
      have g6 := h.blk.free 6
      have g7 := h.blk.free 7
      have g8 := h.blk.free 8
      have H := Lib.hid h
      clear hr ho h
      go_enter Tryz.func27, Tryz.ntmps27
      go_wp2_with fail
      go_ret
      have h := H.out
      have hf : Fr (fun k => k = rb) w (((w.setCell ⟨rb, 6, none⟩ (.bool true)).setCell ⟨rb, 7, none⟩ (.int .i64 n)).setCell ⟨rb, 8, none⟩ (.int .i64 keep)) := ((fr_own _ _ _ _).trans (fr_own _ _ _ _) (fun _ h => .inl h)).trans (fr_own _ _ _ _) (fun _ h => .inl h)
      exact ⟨rfl, F, ⟨n, keep, u0, u1, h.re (T' := { T with plan := some (n, keep) }) hf (((h.blk.set 6 (.bool true)).set 7 (.int .i64 n)).set 8 (.int .i64 keep)) rfl rfl (fun a b e => by cases e; exact ⟨rfl, rfl⟩) ⟨h.wf.s0, h.wf.s1, h.wf.fit, h.wf.room, fun a b e => by cases e; exact ⟨by omega, hn⟩⟩⟩, upd_re hf h.ft⟩
theorem rdark_off {w : World} {rb : Nat} {T : TS} {F : Nat → Prop} (h : RefR w rb T F) : RefR (w.setCell ⟨rb, 5, none⟩ (.bool false)) rb { T with off := false } F ∧ Upd w (w.setCell ⟨rb, 5, none⟩ (.bool false)) F F := by
  obtain ⟨l, k, u0, u1, h⟩ := h
  exact ⟨⟨l, k, u0, u1, h.re (T' := { T with off := false }) (fr_own _ _ _ _) (h.blk.set 5 (.bool false)) rfl rfl h.pl ⟨h.wf.s0, h.wf.s1, h.wf.fit, h.wf.room, h.wf.left⟩⟩, upd_re (fr_own _ _ _ _) h.ft⟩

end Go.Proofs.YtdhafdejionefaaGreat
