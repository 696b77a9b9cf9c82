/- The walks of the tape's New, Append, Sync, Clear. -/
import Derived.Test.YtnkenkdglcmpdaaTapeH
namespace Go.Proofs.Ytnkenkdglcmpdaa
set_option linter.unusedVariables false
set_option linter.unusedSimpArgs false
open Go.RowKit

def TS.new (room : Int) : TS := ⟨room, [], [], 0, 0, false, none, 0, 0⟩
theorem new_ok (room : Int) (w : World) (h0 : 0 ≤ room) (h1 : room ≤ 1073741824) :
    Calls Try.prog 22 #[.int .i64 room] w fun e w' => ∃ tb, e = .returned (.pointer (some ⟨tb, 0, none⟩)) ∧ w.heap.size ≤ tb ∧ Below w.heap.size w w' ∧ TapeR w' tb (TS.new room) (fun k => k = tb) := by
  have h2 : ¬ room < 0 := by omega
  have h3 : ¬ 1073741824 < room := by omega
  go_enter Try.func22, Try.ntmps22
  go_wp2
  go_ret
  refine ⟨_, rfl, Nat.le_refl _, (Below.refl _ _).alloc (Nat.le_refl _) _, .slice none 0 0, .slice none 0 0, none, Blk.new w _ _, OB.nil _, OB.nil _, rfl, fun k hk => by simp [Value.ownBlock] at hk, rfl, fun k hk => by simp [Value.ownBlock] at hk, fun k hk => by simp [Value.ownBlock] at hk, fun k hk => by subst hk; simp, ⟨Nat.le_refl _, Nat.le_refl _, ?_, h1, fun l k e => by cases e⟩⟩
  show ((0 + 0 : Nat) : Int) ≤ room
  omega
theorem new_no (room : Int) (w : World) (h : room < 0 ∨ 1073741824 < room) :
    Calls Try.prog 22 #[.int .i64 room] w fun e w' => e = .returned (.pointer none) ∧ w = w' := by
  by_cases h1 : room < 0
  · clear h
    go_enter Try.func22, Try.ntmps22
    go_wp2
    go_ret
    exact ⟨rfl, rfl⟩
  · have h2 : 1073741824 < room := by omega
    clear h
    go_enter Try.func22, Try.ntmps22
    go_wp2
    go_ret
    exact ⟨rfl, rfl⟩

/-- An operation f, unless power goes. -/
def TS.op (T : TS) (f : TS → TS) : Int × TS :=
  match T.plan with
  | none => (0, f T.step)
  | some (l, k) => if l = 0 then (150, T.gone k) else (0, f T.step)
def TS.append (T : TS) (n : Int) (xs : List UInt8) : Int × TS :=
  if faultN T.off n ≠ 0 then (faultN T.off n, T) else if T.room - (T.used : Int) < (xs.length : Int) then (151, T) else T.op fun T => T.app n xs
def TS.sync (T : TS) (n : Int) : Int × TS := if faultN T.off n ≠ 0 then (faultN T.off n, T) else T.op fun T => T.syn n
def TS.clear (T : TS) (n : Int) : Int × TS := if faultN T.off n ≠ 0 then (faultN T.off n, T) else T.op fun T => T.clr n
theorem fault_zero {off : Bool} {n : Int} (h : faultN off n = 0) : off = false ∧ (n = 0 ∨ n = 1) := by
  unfold faultN at h
  split at h
  · rename_i hn
    cases off
    · exact ⟨rfl, hn⟩
    · simp at h
  · omega
/-- What a call on a tape comes to. -/
def Does (w : World) (tb : Nat) (F : Nat → Prop) (r : Int × TS) (e : Ending) (w' : World) : Prop := e = .returned (.int .i64 r.1) ∧ ∃ F', TapeR w' tb r.2 F' ∧ Upd w w' F F'

theorem sync_err (tb : Nat) (n : Int) (T : TS) (F : Nat → Prop) (w : World) (h : TapeR w tb T F) (hn : faultN T.off n ≠ 0) :
    Calls Try.prog 30 #[.pointer (some ⟨tb, 0, none⟩), .int .i64 n] w (Does w tb F (faultN T.off n, T)) := by
  have hb : Below w.heap.size w ((w.alloc (.cells #[.pointer (some ⟨tb, 0, none⟩)] 33)).alloc (.cells #[.int .i64 n] 3)) := ((Below.refl _ _).alloc (Nat.le_refl _) _).alloc (by simp) _
  have H := Lib.hid (h.below hb)
  have HB := Lib.hid hb
  obtain ⟨v0, v1, pv, h⟩ := h
  have h0 := ((h.blk.alloc (.cells #[.pointer (some ⟨tb, 0, none⟩)] 33)).alloc (.cells #[.int .i64 n] 3)).cell 0
  have h6 := ((h.blk.alloc (.cells #[.pointer (some ⟨tb, 0, none⟩)] 33)).alloc (.cells #[.int .i64 n] 3)).cell 6
  obtain ⟨k, hk⟩ : ∃ k, k = faultN T.off n := ⟨_, rfl⟩
  have hne : (k != 0) = true := by rw [bne_iff_ne, hk]; exact hn
  rw [← hk]
  have HK := Lib.hid hk
  have H0 := Lib.hid h0
  have H6 := Lib.hid h6
  clear h hn hk hb h0 h6
  go_enter Try.func30, Try.ntmps30
  go_wp2_with fail
  refine (fault_any tb n T.off _ H0.out H6.out).mono ?_
  rintro e w' ⟨rfl, rfl⟩
  rw [← HK.out]
  go_wp2
  go_ret
  exact ⟨rfl, F, H.out, Upd.of_below HB.out⟩
set_option maxHeartbeats 1000000 in
theorem sync_ok (tb : Nat) (n : Int) (T : TS) (F : Nat → Prop) (w : World) (h : TapeR w tb T F) (hn : n = 0 ∨ n = 1) (ho : T.off = false) :
    Calls Try.prog 30 #[.pointer (some ⟨tb, 0, none⟩), .int .i64 n] w (Does w tb F (T.op fun T => T.syn n)) := by
  obtain ⟨w2, hw2⟩ : ∃ w2, w2 = ((w.alloc (.cells #[.pointer (some ⟨tb, 0, none⟩)] 33)).alloc (.cells #[.int .i64 n] 3)) := ⟨_, rfl⟩
  have hb : Below w.heap.size w w2 := by rw [hw2]; exact ((Below.refl _ _).alloc (Nat.le_refl _) _).alloc (by simp) _
  have hk3 : Blk w2 w.heap.size #[.pointer (some ⟨tb, 0, none⟩)] 33 := by rw [hw2]; exact (Blk.new w _ _).alloc _
  have hk4 : Blk w2 (w.heap.size + 1) #[.int .i64 n] 3 := by rw [hw2]; have := Blk.new (w.alloc (.cells #[.pointer (some ⟨tb, 0, none⟩)] 33)) #[.int .i64 n] 3; simpa using this
  have hF : ∀ k, F k → k < w.heap.size := by obtain ⟨_, _, _, h⟩ := h; exact h.flt
  have h2 := h.below hb
  have H := Lib.hid h2
  have HB := Lib.hid hb
  have HK3 := Lib.hid hk3
  have HK4 := Lib.hid hk4
  have hn3 := hk3.cell 0
  have hn4 := hk4.cell 0
  obtain ⟨v0, v1, pv, h2⟩ := h2
  have h0 := h2.c0
  have h6 := h2.c6
  rw [ho] at h6
  have HN := Lib.hid hn
  have HF := Lib.hid hF
  have hfz : faultN false n = 0 := by simp [faultN, hn]
  have HW := Lib.hid hw2
  clear h h2 hb hk3 hk4 hn hF hw2 ho
  go_enter Try.func30, Try.ntmps30
  go_wp2_with fail
  rw [← HW.out]
  clear HW
  refine (fault_any tb n false w2 h0 h6).mono ?_
  rintro e w' ⟨rfl, rfl⟩
  rw [hfz]
  clear hfz
  go_wp2_with fail
  have hcl : ∀ w1, TapeR w1 tb T.step F → Upd w2 w1 F F → Calls Try.prog 67 #[.pointer (some ⟨w.heap.size, 0, none⟩), .pointer (some ⟨w.heap.size + 1, 0, none⟩)] w1 fun e w' => e = .returned (.tuple #[]) ∧ ∃ F', TapeR w' tb (T.step.syn n) F' ∧ Upd w1 w' F F' := by
    intro w1 ht hu
    have a3 := (HK3.out.fr hu.fr (fun hf => by have := HF.out _ hf; omega)).cell 0
    have a4 := (HK4.out.fr hu.fr (fun hf => by have := HF.out _ hf; omega)).cell 0
    rcases HN.out with rfl | rfl
    · exact sync1_0 tb _ _ _ F w1 ht a3 a4
    · exact sync1_1 tb _ _ _ F w1 ht a3 a4
  have HCL := Lib.hid hcl
  clear hcl
  obtain ⟨pl, hpl⟩ : ∃ pl, pl = T.plan := ⟨_, rfl⟩
  match pl, hpl with
  | none, hpl =>
    have hv : T.op (fun T => T.syn n) = (0, T.step.syn n) := by unfold TS.op; rw [← hpl]
    have HV := Lib.hid hv
    refine (do_none_sync _ tb T F w2 H.out hpl.symm (fun w1 w' => ∃ F', TapeR w' tb (T.step.syn n) F' ∧ Upd w1 w' F F') HCL.out).mono ?_
    rintro e w' ⟨rfl, w1, _, hu1, F', ht, hu⟩
    have HT := Lib.hid ht
    have HU := Lib.hid (hu1.trans hu)
    clear ht hu hu1 hpl hv
    go_wp2
    go_ret
    rw [HV.out]
    exact ⟨rfl, F', HT.out, (Upd.of_below HB.out).trans HU.out⟩
  | some (l, k), hpl =>
    by_cases hl : l = 0
    · subst hl
      have hv : T.op (fun T => T.syn n) = (150, T.gone k) := by unfold TS.op; rw [← hpl]; rfl
      have HV := Lib.hid hv
      refine (do_gone_sync _ tb T F w2 H.out k hpl.symm).mono ?_
      rintro e w' ⟨rfl, F', ht, hu⟩
      have HT := Lib.hid ht
      have HU := Lib.hid hu
      clear ht hu hpl hv
      go_wp2
      go_ret
      rw [HV.out]
      exact ⟨rfl, F', HT.out, (Upd.of_below HB.out).trans HU.out⟩
    · have hv : T.op (fun T => T.syn n) = (0, T.step.syn n) := by unfold TS.op; rw [← hpl]; exact if_neg hl
      have HV := Lib.hid hv
      have hl0 : 0 < l := by
        obtain ⟨_, _, _, ht⟩ := H.out
        have := (ht.wf.left l k hpl.symm).1
        omega
      refine (do_left_sync _ tb T F w2 H.out l k hpl.symm hl0 (fun w1 w' => ∃ F', TapeR w' tb (T.step.syn n) F' ∧ Upd w1 w' F F') HCL.out).mono ?_
      rintro e w' ⟨rfl, w1, _, hu1, F', ht, hu⟩
      have HT := Lib.hid ht
      have HU := Lib.hid (hu1.trans hu)
      clear ht hu hu1 hpl hv
      go_wp2
      go_ret
      rw [HV.out]
      exact ⟨rfl, F', HT.out, (Upd.of_below HB.out).trans HU.out⟩
theorem sync_any (tb : Nat) (n : Int) (T : TS) (F : Nat → Prop) (w : World) (h : TapeR w tb T F) :
    Calls Try.prog 30 #[.pointer (some ⟨tb, 0, none⟩), .int .i64 n] w (Does w tb F (T.sync n)) := by
  unfold TS.sync
  by_cases hn : faultN T.off n = 0
  · rw [if_neg (by simpa using hn)]
    have := fault_zero hn
    exact sync_ok tb n T F w h this.2 this.1
  · rw [if_pos hn]
    exact sync_err tb n T F w h hn
theorem sync_no (p : Option Addr) (n : Int) (w : World) (h : NoTape w p) :
    Calls Try.prog 30 #[.pointer p, .int .i64 n] w fun e w' => e = .returned (.int .i64 1) ∧ Below w.heap.size w w' := by
  have hb : Below w.heap.size w ((w.alloc (.cells #[.pointer p] 33)).alloc (.cells #[.int .i64 n] 3)) := ((Below.refl _ _).alloc (Nat.le_refl _) _).alloc (by simp) _
  have H := Lib.hid (h.below hb)
  have HB := Lib.hid hb
  clear h hb
  go_enter Try.func30, Try.ntmps30
  go_wp2_with fail
  refine (fault_no p n _ H.out).mono ?_
  rintro e w' ⟨rfl, rfl⟩
  go_wp2
  go_ret
  exact ⟨rfl, HB.out⟩

theorem clear_err (tb : Nat) (n : Int) (T : TS) (F : Nat → Prop) (w : World) (h : TapeR w tb T F) (hn : faultN T.off n ≠ 0) :
    Calls Try.prog 31 #[.pointer (some ⟨tb, 0, none⟩), .int .i64 n] w (Does w tb F (faultN T.off n, T)) := by
  have hb : Below w.heap.size w ((w.alloc (.cells #[.pointer (some ⟨tb, 0, none⟩)] 33)).alloc (.cells #[.int .i64 n] 3)) := ((Below.refl _ _).alloc (Nat.le_refl _) _).alloc (by simp) _
  have H := Lib.hid (h.below hb)
  have HB := Lib.hid hb
  obtain ⟨v0, v1, pv, h⟩ := h
  have h0 := ((h.blk.alloc (.cells #[.pointer (some ⟨tb, 0, none⟩)] 33)).alloc (.cells #[.int .i64 n] 3)).cell 0
  have h6 := ((h.blk.alloc (.cells #[.pointer (some ⟨tb, 0, none⟩)] 33)).alloc (.cells #[.int .i64 n] 3)).cell 6
  obtain ⟨k, hk⟩ : ∃ k, k = faultN T.off n := ⟨_, rfl⟩
  have hne : (k != 0) = true := by rw [bne_iff_ne, hk]; exact hn
  rw [← hk]
  have HK := Lib.hid hk
  have H0 := Lib.hid h0
  have H6 := Lib.hid h6
  clear h hn hk hb h0 h6
  go_enter Try.func31, Try.ntmps31
  go_wp2_with fail
  refine (fault_any tb n T.off _ H0.out H6.out).mono ?_
  rintro e w' ⟨rfl, rfl⟩
  rw [← HK.out]
  go_wp2
  go_ret
  exact ⟨rfl, F, H.out, Upd.of_below HB.out⟩
set_option maxHeartbeats 1000000 in
theorem clear_ok (tb : Nat) (n : Int) (T : TS) (F : Nat → Prop) (w : World) (h : TapeR w tb T F) (hn : n = 0 ∨ n = 1) (ho : T.off = false) :
    Calls Try.prog 31 #[.pointer (some ⟨tb, 0, none⟩), .int .i64 n] w (Does w tb F (T.op fun T => T.clr n)) := by
  obtain ⟨w2, hw2⟩ : ∃ w2, w2 = ((w.alloc (.cells #[.pointer (some ⟨tb, 0, none⟩)] 33)).alloc (.cells #[.int .i64 n] 3)) := ⟨_, rfl⟩
  have hb : Below w.heap.size w w2 := by rw [hw2]; exact ((Below.refl _ _).alloc (Nat.le_refl _) _).alloc (by simp) _
  have hk3 : Blk w2 w.heap.size #[.pointer (some ⟨tb, 0, none⟩)] 33 := by rw [hw2]; exact (Blk.new w _ _).alloc _
  have hk4 : Blk w2 (w.heap.size + 1) #[.int .i64 n] 3 := by rw [hw2]; have := Blk.new (w.alloc (.cells #[.pointer (some ⟨tb, 0, none⟩)] 33)) #[.int .i64 n] 3; simpa using this
  have hF : ∀ k, F k → k < w.heap.size := by obtain ⟨_, _, _, h⟩ := h; exact h.flt
  have h2 := h.below hb
  have H := Lib.hid h2
  have HB := Lib.hid hb
  have HK3 := Lib.hid hk3
  have HK4 := Lib.hid hk4
  have hn3 := hk3.cell 0
  have hn4 := hk4.cell 0
  obtain ⟨v0, v1, pv, h2⟩ := h2
  have h0 := h2.c0
  have h6 := h2.c6
  rw [ho] at h6
  have HN := Lib.hid hn
  have HF := Lib.hid hF
  have hfz : faultN false n = 0 := by simp [faultN, hn]
  have HW := Lib.hid hw2
  clear h h2 hb hk3 hk4 hn hF hw2 ho
  go_enter Try.func31, Try.ntmps31
  go_wp2_with fail
  rw [← HW.out]
  clear HW
  refine (fault_any tb n false w2 h0 h6).mono ?_
  rintro e w' ⟨rfl, rfl⟩
  rw [hfz]
  clear hfz
  go_wp2_with fail
  have hcl : ∀ w1, TapeR w1 tb T.step F → Upd w2 w1 F F → Calls Try.prog 68 #[.pointer (some ⟨w.heap.size, 0, none⟩), .pointer (some ⟨w.heap.size + 1, 0, none⟩)] w1 fun e w' => e = .returned (.tuple #[]) ∧ ∃ F', TapeR w' tb (T.step.clr n) F' ∧ Upd w1 w' F F' := by
    intro w1 ht hu
    have a3 := (HK3.out.fr hu.fr (fun hf => by have := HF.out _ hf; omega)).cell 0
    have a4 := (HK4.out.fr hu.fr (fun hf => by have := HF.out _ hf; omega)).cell 0
    rcases HN.out with rfl | rfl
    · exact clear1_0 tb _ _ _ F w1 ht a3 a4
    · exact clear1_1 tb _ _ _ F w1 ht a3 a4
  have HCL := Lib.hid hcl
  clear hcl
  obtain ⟨pl, hpl⟩ : ∃ pl, pl = T.plan := ⟨_, rfl⟩
  match pl, hpl with
  | none, hpl =>
    have hv : T.op (fun T => T.clr n) = (0, T.step.clr n) := by unfold TS.op; rw [← hpl]
    have HV := Lib.hid hv
    refine (do_none_clear _ tb T F w2 H.out hpl.symm (fun w1 w' => ∃ F', TapeR w' tb (T.step.clr n) F' ∧ Upd w1 w' F F') HCL.out).mono ?_
    rintro e w' ⟨rfl, w1, _, hu1, F', ht, hu⟩
    have HT := Lib.hid ht
    have HU := Lib.hid (hu1.trans hu)
    clear ht hu hu1 hpl hv
    go_wp2
    go_ret
    rw [HV.out]
    exact ⟨rfl, F', HT.out, (Upd.of_below HB.out).trans HU.out⟩
  | some (l, k), hpl =>
    by_cases hl : l = 0
    · subst hl
      have hv : T.op (fun T => T.clr n) = (150, T.gone k) := by unfold TS.op; rw [← hpl]; rfl
      have HV := Lib.hid hv
      refine (do_gone_clear _ tb T F w2 H.out k hpl.symm).mono ?_
      rintro e w' ⟨rfl, F', ht, hu⟩
      have HT := Lib.hid ht
      have HU := Lib.hid hu
      clear ht hu hpl hv
      go_wp2
      go_ret
      rw [HV.out]
      exact ⟨rfl, F', HT.out, (Upd.of_below HB.out).trans HU.out⟩
    · have hv : T.op (fun T => T.clr n) = (0, T.step.clr n) := by unfold TS.op; rw [← hpl]; exact if_neg hl
      have HV := Lib.hid hv
      have hl0 : 0 < l := by
        obtain ⟨_, _, _, ht⟩ := H.out
        have := (ht.wf.left l k hpl.symm).1
        omega
      refine (do_left_clear _ tb T F w2 H.out l k hpl.symm hl0 (fun w1 w' => ∃ F', TapeR w' tb (T.step.clr n) F' ∧ Upd w1 w' F F') HCL.out).mono ?_
      rintro e w' ⟨rfl, w1, _, hu1, F', ht, hu⟩
      have HT := Lib.hid ht
      have HU := Lib.hid (hu1.trans hu)
      clear ht hu hu1 hpl hv
      go_wp2
      go_ret
      rw [HV.out]
      exact ⟨rfl, F', HT.out, (Upd.of_below HB.out).trans HU.out⟩
theorem clear_any (tb : Nat) (n : Int) (T : TS) (F : Nat → Prop) (w : World) (h : TapeR w tb T F) :
    Calls Try.prog 31 #[.pointer (some ⟨tb, 0, none⟩), .int .i64 n] w (Does w tb F (T.clear n)) := by
  unfold TS.clear
  by_cases hn : faultN T.off n = 0
  · rw [if_neg (by simpa using hn)]
    have := fault_zero hn
    exact clear_ok tb n T F w h this.2 this.1
  · rw [if_pos hn]
    exact clear_err tb n T F w h hn
theorem clear_no (p : Option Addr) (n : Int) (w : World) (h : NoTape w p) :
    Calls Try.prog 31 #[.pointer p, .int .i64 n] w fun e w' => e = .returned (.int .i64 1) ∧ Below w.heap.size w w' := by
  have hb : Below w.heap.size w ((w.alloc (.cells #[.pointer p] 33)).alloc (.cells #[.int .i64 n] 3)) := ((Below.refl _ _).alloc (Nat.le_refl _) _).alloc (by simp) _
  have H := Lib.hid (h.below hb)
  have HB := Lib.hid hb
  clear h hb
  go_enter Try.func31, Try.ntmps31
  go_wp2_with fail
  refine (fault_no p n _ H.out).mono ?_
  rintro e w' ⟨rfl, rfl⟩
  go_wp2
  go_ret
  exact ⟨rfl, HB.out⟩

end Go.Proofs.Ytnkenkdglcmpdaa
