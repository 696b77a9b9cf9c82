/- The walk of the tape's do, for each of its three operations. -/
import Derived.Test.YtnkenkdglcmpdaaTapeE
namespace Go.Proofs.Ytnkenkdglcmpdaa
set_option linter.unusedVariables false
set_option linter.unusedSimpArgs false
open Go.RowKit

/-- An operation is counted. -/
def TS.step (T : TS) : TS := { T with ops := wrap64 (T.ops + 1), plan := T.plan.map fun p => (p.1 - 1, p.2) }
theorem step_left (T : TS) (l k : Int) (h : T.plan = some (l, k)) (h0 : 0 < l) (hw : T.ok) : T.step.ok :=
  ⟨hw.s0, hw.s1, hw.fit, hw.room, fun l' k' e => by
    have := hw.left l k h
    simp [TS.step, h] at e
    omega⟩
theorem step_none (T : TS) (h : T.plan = none) (hw : T.ok) : T.step.ok :=
  ⟨hw.s0, hw.s1, hw.fit, hw.room, fun l' k' e => by simp [TS.step, h] at e⟩
/-- The plan's count and the count of operations. -/
theorem TapeAt.dec {w : World} {tb pb : Nat} {T : TS} {F : Nat → Prop} {v0 v1 : Value} (h : TapeAt w tb T F v0 v1 (some ⟨pb, 0, none⟩)) (l k : Int) (hp : T.plan = some (l, k)) (h0 : 0 < l) :
    TapeAt ((w.setCell ⟨pb, 0, none⟩ (.int .i64 (l - 1))).setCell ⟨tb, 8, none⟩ (.int .i64 (wrap64 (T.ops + 1)))) tb T.step F v0 v1 (some ⟨pb, 0, none⟩) ∧ F pb := by
  have hpl := h.pl
  rw [hp] at hpl
  obtain ⟨pb', e, hb, hF⟩ := hpl
  obtain rfl : pb' = pb := by simp at e; exact e.symm
  have n := Blk.ne hb h.blk (by decide)
  refine ⟨⟨?_, ?_, ?_, ?_, h.apart, h.ft, h.f0, h.f1, fun k hk => by simpa [World.setCell] using h.flt k hk, step_left T l k hp h0 h.wf⟩, hF⟩
  · exact (h.blk.setOther ⟨pb', 0, none⟩ _ (Ne.symm n)).set 8 _
  · have a := h.o0.setOther ⟨pb', 0, none⟩ (.int .i64 (l - 1)) (h.o0.ne hb (by decide))
    exact a.setOther ⟨tb, 8, none⟩ _ (h.o0.ne h.blk (by decide))
  · have a := h.o1.setOther ⟨pb', 0, none⟩ (.int .i64 (l - 1)) (h.o1.ne hb (by decide))
    exact a.setOther ⟨tb, 8, none⟩ _ (h.o1.ne h.blk (by decide))
  · show PlanR _ F _ (T.plan.map fun p => (p.1 - 1, p.2))
    rw [hp]
    exact ⟨pb', rfl, (hb.set 0 _).setOther ⟨tb, 8, none⟩ _ n, hF⟩
theorem TapeAt.count {w : World} {tb : Nat} {T : TS} {F : Nat → Prop} {v0 v1 : Value} {pv : Option Addr} (h : TapeAt w tb T F v0 v1 pv) (hp : T.plan = none) :
    TapeAt (w.setCell ⟨tb, 8, none⟩ (.int .i64 (wrap64 (T.ops + 1)))) tb T.step F v0 v1 pv :=
  h.put 8 _ rfl rfl rfl (by simp [TS.step, hp]) (step_none T hp h.wf)

theorem do_none_append (caps : Array Value) (tb : Nat) (T : TS) (F : Nat → Prop) (w : World) (h : TapeR w tb T F) (hp : T.plan = none) (R : World → World → Prop)
    (hop : ∀ w1, TapeR w1 tb T.step F → Upd w w1 F F → Calls Try.prog 64 caps w1 (fun e w' => e = .returned (.tuple #[]) ∧ R w1 w')) :
    Calls Try.prog 63 #[.pointer (some ⟨tb, 0, none⟩), .func (.func 64) #[] caps] w fun e w' => e = .returned (.int .i64 0) ∧ ∃ w1, TapeR w1 tb T.step F ∧ Upd w w1 F F ∧ R w1 w' := by
  obtain ⟨v0, v1, pv, h⟩ := h
  have hpl := h.pl
  rw [hp] at hpl
  obtain rfl : pv = none := hpl
  have h7 := h.c7
  have h8 := h.c8
  have g8 := h.free 8
  have H := Lib.hid h
  have HP := Lib.hid hp
  have HOP := Lib.hid hop
  clear h hp hop
  go_enter Try.func63, Try.ntmps63
  go_wp2_with fail
  have h1 : TapeR (w.setCell ⟨tb, 8, none⟩ (.int .i64 (wrap64 (T.ops + 1)))) tb T.step F := ⟨_, _, _, H.out.count HP.out⟩
  have u1 : Upd w (w.setCell ⟨tb, 8, none⟩ (.int .i64 (wrap64 (T.ops + 1)))) F F := ⟨Fr.setCell F w _ _ H.out.ft, fun _ h => .inl h⟩
  have H1 := Lib.hid h1
  have U1 := Lib.hid u1
  clear h1 u1 h7 h8 g8 H
  generalize (w.setCell ⟨tb, 8, none⟩ (.int .i64 (wrap64 (T.ops + 1)))) = w1 at *
  refine (HOP.out w1 H1.out U1.out).mono ?_
  rintro e w' ⟨rfl, hR⟩
  have HR := Lib.hid hR
  clear hR
  go_wp2_with fail
  go_ret
  exact ⟨rfl, w1, H1.out, U1.out, HR.out⟩
theorem do_left_append (caps : Array Value) (tb : Nat) (T : TS) (F : Nat → Prop) (w : World) (h : TapeR w tb T F) (l k : Int) (hp : T.plan = some (l, k)) (hl : 0 < l) (R : World → World → Prop)
    (hop : ∀ w1, TapeR w1 tb T.step F → Upd w w1 F F → Calls Try.prog 64 caps w1 (fun e w' => e = .returned (.tuple #[]) ∧ R w1 w')) :
    Calls Try.prog 63 #[.pointer (some ⟨tb, 0, none⟩), .func (.func 64) #[] caps] w fun e w' => e = .returned (.int .i64 0) ∧ ∃ w1, TapeR w1 tb T.step F ∧ Upd w w1 F F ∧ R w1 w' := by
  obtain ⟨v0, v1, pv, h⟩ := h
  have hpl := h.pl
  rw [hp] at hpl
  obtain ⟨pb, rfl, hb, hF⟩ := hpl
  have hl2 := (h.wf.left l k hp).2
  have h7 := h.c7
  have h8 : (w.setCell ⟨pb, 0, none⟩ (.int .i64 (l - 1))).cell? ⟨tb, 8, none⟩ = some (.int .i64 T.ops) := (h.blk.setOther ⟨pb, 0, none⟩ _ (Blk.ne h.blk hb (by decide))).cell 8
  have g8 : (w.setCell ⟨pb, 0, none⟩ (.int .i64 (l - 1))).frozen? ⟨tb, 8, none⟩ = false := (h.blk.setOther ⟨pb, 0, none⟩ _ (Blk.ne h.blk hb (by decide))).free 8
  have p0 : w.cell? ⟨pb, 0, none⟩ = some (.int .i64 l) := hb.cell 0
  have f0 := hb.free 0
  have hne : (l == 0) = false := by rw [beq_eq_false_iff_ne]; omega
  have H := Lib.hid h
  have HB := Lib.hid hb
  have HP := Lib.hid hp
  have HOP := Lib.hid hop
  clear h hp hop hb
  go_enter Try.func63, Try.ntmps63
  go_wp2_with fail
  have h1 := H.out.dec l k HP.out hl
  have u1 : Upd w ((w.setCell ⟨pb, 0, none⟩ (.int .i64 (l - 1))).setCell ⟨tb, 8, none⟩ (.int .i64 (wrap64 (T.ops + 1)))) F F := ⟨(Fr.setCell F w ⟨pb, 0, none⟩ _ h1.2).trans (Fr.setCell F _ _ _ H.out.ft) (fun _ h => .inl h), fun _ h => .inl h⟩
  have H1 : Hid (TapeR _ tb T.step F) := ⟨_, _, _, h1.1⟩
  have U1 := Lib.hid u1
  clear h1 u1 h7 h8 g8 H HB p0 f0
  generalize ((w.setCell ⟨pb, 0, none⟩ (.int .i64 (l - 1))).setCell ⟨tb, 8, none⟩ (.int .i64 (wrap64 (T.ops + 1)))) = w1 at *
  refine (HOP.out w1 H1.out U1.out).mono ?_
  rintro e w' ⟨rfl, hR⟩
  have HR := Lib.hid hR
  clear hR
  go_wp2_with fail
  go_ret
  exact ⟨rfl, w1, H1.out, U1.out, HR.out⟩
theorem do_gone_append (caps : Array Value) (tb : Nat) (T : TS) (F : Nat → Prop) (w : World) (h : TapeR w tb T F) (k : Int) (hp : T.plan = some (0, k)) :
    Calls Try.prog 63 #[.pointer (some ⟨tb, 0, none⟩), .func (.func 64) #[] caps] w fun e w' => e = .returned (.int .i64 150) ∧ ∃ F', TapeR w' tb (T.gone k) F' ∧ Upd w w' F F' := by
  have HT := Lib.hid h
  obtain ⟨v0, v1, pv, h⟩ := h
  have hpl := h.pl
  rw [hp] at hpl
  obtain ⟨pb, rfl, hb, hF⟩ := hpl
  have h7 := h.c7
  have p0 : w.cell? ⟨pb, 0, none⟩ = some (.int .i64 0) := hb.cell 0
  have p1 : w.cell? ⟨pb, 1, none⟩ = some (.int .i64 k) := hb.cell 1
  clear h hp hb
  go_enter Try.func63, Try.ntmps63
  go_wp2_with fail
  refine (gone_any tb k T F w HT.out).mono ?_
  rintro e w' ⟨rfl, hR⟩
  have HR := Lib.hid hR
  clear hR
  go_wp2_with fail
  go_ret
  exact ⟨rfl, HR.out⟩

theorem do_none_sync (caps : Array Value) (tb : Nat) (T : TS) (F : Nat → Prop) (w : World) (h : TapeR w tb T F) (hp : T.plan = none) (R : World → World → Prop)
    (hop : ∀ w1, TapeR w1 tb T.step F → Upd w w1 F F → Calls Try.prog 67 caps w1 (fun e w' => e = .returned (.tuple #[]) ∧ R w1 w')) :
    Calls Try.prog 63 #[.pointer (some ⟨tb, 0, none⟩), .func (.func 67) #[] caps] w fun e w' => e = .returned (.int .i64 0) ∧ ∃ w1, TapeR w1 tb T.step F ∧ Upd w w1 F F ∧ R w1 w' := by
  obtain ⟨v0, v1, pv, h⟩ := h
  have hpl := h.pl
  rw [hp] at hpl
  obtain rfl : pv = none := hpl
  have h7 := h.c7
  have h8 := h.c8
  have g8 := h.free 8
  have H := Lib.hid h
  have HP := Lib.hid hp
  have HOP := Lib.hid hop
  clear h hp hop
  go_enter Try.func63, Try.ntmps63
  go_wp2_with fail
  have h1 : TapeR (w.setCell ⟨tb, 8, none⟩ (.int .i64 (wrap64 (T.ops + 1)))) tb T.step F := ⟨_, _, _, H.out.count HP.out⟩
  have u1 : Upd w (w.setCell ⟨tb, 8, none⟩ (.int .i64 (wrap64 (T.ops + 1)))) F F := ⟨Fr.setCell F w _ _ H.out.ft, fun _ h => .inl h⟩
  have H1 := Lib.hid h1
  have U1 := Lib.hid u1
  clear h1 u1 h7 h8 g8 H
  generalize (w.setCell ⟨tb, 8, none⟩ (.int .i64 (wrap64 (T.ops + 1)))) = w1 at *
  refine (HOP.out w1 H1.out U1.out).mono ?_
  rintro e w' ⟨rfl, hR⟩
  have HR := Lib.hid hR
  clear hR
  go_wp2_with fail
  go_ret
  exact ⟨rfl, w1, H1.out, U1.out, HR.out⟩
theorem do_left_sync (caps : Array Value) (tb : Nat) (T : TS) (F : Nat → Prop) (w : World) (h : TapeR w tb T F) (l k : Int) (hp : T.plan = some (l, k)) (hl : 0 < l) (R : World → World → Prop)
    (hop : ∀ w1, TapeR w1 tb T.step F → Upd w w1 F F → Calls Try.prog 67 caps w1 (fun e w' => e = .returned (.tuple #[]) ∧ R w1 w')) :
    Calls Try.prog 63 #[.pointer (some ⟨tb, 0, none⟩), .func (.func 67) #[] caps] w fun e w' => e = .returned (.int .i64 0) ∧ ∃ w1, TapeR w1 tb T.step F ∧ Upd w w1 F F ∧ R w1 w' := by
  obtain ⟨v0, v1, pv, h⟩ := h
  have hpl := h.pl
  rw [hp] at hpl
  obtain ⟨pb, rfl, hb, hF⟩ := hpl
  have hl2 := (h.wf.left l k hp).2
  have h7 := h.c7
  have h8 : (w.setCell ⟨pb, 0, none⟩ (.int .i64 (l - 1))).cell? ⟨tb, 8, none⟩ = some (.int .i64 T.ops) := (h.blk.setOther ⟨pb, 0, none⟩ _ (Blk.ne h.blk hb (by decide))).cell 8
  have g8 : (w.setCell ⟨pb, 0, none⟩ (.int .i64 (l - 1))).frozen? ⟨tb, 8, none⟩ = false := (h.blk.setOther ⟨pb, 0, none⟩ _ (Blk.ne h.blk hb (by decide))).free 8
  have p0 : w.cell? ⟨pb, 0, none⟩ = some (.int .i64 l) := hb.cell 0
  have f0 := hb.free 0
  have hne : (l == 0) = false := by rw [beq_eq_false_iff_ne]; omega
  have H := Lib.hid h
  have HB := Lib.hid hb
  have HP := Lib.hid hp
  have HOP := Lib.hid hop
  clear h hp hop hb
  go_enter Try.func63, Try.ntmps63
  go_wp2_with fail
  have h1 := H.out.dec l k HP.out hl
  have u1 : Upd w ((w.setCell ⟨pb, 0, none⟩ (.int .i64 (l - 1))).setCell ⟨tb, 8, none⟩ (.int .i64 (wrap64 (T.ops + 1)))) F F := ⟨(Fr.setCell F w ⟨pb, 0, none⟩ _ h1.2).trans (Fr.setCell F _ _ _ H.out.ft) (fun _ h => .inl h), fun _ h => .inl h⟩
  have H1 : Hid (TapeR _ tb T.step F) := ⟨_, _, _, h1.1⟩
  have U1 := Lib.hid u1
  clear h1 u1 h7 h8 g8 H HB p0 f0
  generalize ((w.setCell ⟨pb, 0, none⟩ (.int .i64 (l - 1))).setCell ⟨tb, 8, none⟩ (.int .i64 (wrap64 (T.ops + 1)))) = w1 at *
  refine (HOP.out w1 H1.out U1.out).mono ?_
  rintro e w' ⟨rfl, hR⟩
  have HR := Lib.hid hR
  clear hR
  go_wp2_with fail
  go_ret
  exact ⟨rfl, w1, H1.out, U1.out, HR.out⟩
theorem do_gone_sync (caps : Array Value) (tb : Nat) (T : TS) (F : Nat → Prop) (w : World) (h : TapeR w tb T F) (k : Int) (hp : T.plan = some (0, k)) :
    Calls Try.prog 63 #[.pointer (some ⟨tb, 0, none⟩), .func (.func 67) #[] caps] w fun e w' => e = .returned (.int .i64 150) ∧ ∃ F', TapeR w' tb (T.gone k) F' ∧ Upd w w' F F' := by
  have HT := Lib.hid h
  obtain ⟨v0, v1, pv, h⟩ := h
  have hpl := h.pl
  rw [hp] at hpl
  obtain ⟨pb, rfl, hb, hF⟩ := hpl
  have h7 := h.c7
  have p0 : w.cell? ⟨pb, 0, none⟩ = some (.int .i64 0) := hb.cell 0
  have p1 : w.cell? ⟨pb, 1, none⟩ = some (.int .i64 k) := hb.cell 1
  clear h hp hb
  go_enter Try.func63, Try.ntmps63
  go_wp2_with fail
  refine (gone_any tb k T F w HT.out).mono ?_
  rintro e w' ⟨rfl, hR⟩
  have HR := Lib.hid hR
  clear hR
  go_wp2_with fail
  go_ret
  exact ⟨rfl, HR.out⟩

theorem do_none_clear (caps : Array Value) (tb : Nat) (T : TS) (F : Nat → Prop) (w : World) (h : TapeR w tb T F) (hp : T.plan = none) (R : World → World → Prop)
    (hop : ∀ w1, TapeR w1 tb T.step F → Upd w w1 F F → Calls Try.prog 68 caps w1 (fun e w' => e = .returned (.tuple #[]) ∧ R w1 w')) :
    Calls Try.prog 63 #[.pointer (some ⟨tb, 0, none⟩), .func (.func 68) #[] caps] w fun e w' => e = .returned (.int .i64 0) ∧ ∃ w1, TapeR w1 tb T.step F ∧ Upd w w1 F F ∧ R w1 w' := by
  obtain ⟨v0, v1, pv, h⟩ := h
  have hpl := h.pl
  rw [hp] at hpl
  obtain rfl : pv = none := hpl
  have h7 := h.c7
  have h8 := h.c8
  have g8 := h.free 8
  have H := Lib.hid h
  have HP := Lib.hid hp
  have HOP := Lib.hid hop
  clear h hp hop
  go_enter Try.func63, Try.ntmps63
  go_wp2_with fail
  have h1 : TapeR (w.setCell ⟨tb, 8, none⟩ (.int .i64 (wrap64 (T.ops + 1)))) tb T.step F := ⟨_, _, _, H.out.count HP.out⟩
  have u1 : Upd w (w.setCell ⟨tb, 8, none⟩ (.int .i64 (wrap64 (T.ops + 1)))) F F := ⟨Fr.setCell F w _ _ H.out.ft, fun _ h => .inl h⟩
  have H1 := Lib.hid h1
  have U1 := Lib.hid u1
  clear h1 u1 h7 h8 g8 H
  generalize (w.setCell ⟨tb, 8, none⟩ (.int .i64 (wrap64 (T.ops + 1)))) = w1 at *
  refine (HOP.out w1 H1.out U1.out).mono ?_
  rintro e w' ⟨rfl, hR⟩
  have HR := Lib.hid hR
  clear hR
  go_wp2_with fail
  go_ret
  exact ⟨rfl, w1, H1.out, U1.out, HR.out⟩
theorem do_left_clear (caps : Array Value) (tb : Nat) (T : TS) (F : Nat → Prop) (w : World) (h : TapeR w tb T F) (l k : Int) (hp : T.plan = some (l, k)) (hl : 0 < l) (R : World → World → Prop)
    (hop : ∀ w1, TapeR w1 tb T.step F → Upd w w1 F F → Calls Try.prog 68 caps w1 (fun e w' => e = .returned (.tuple #[]) ∧ R w1 w')) :
    Calls Try.prog 63 #[.pointer (some ⟨tb, 0, none⟩), .func (.func 68) #[] caps] w fun e w' => e = .returned (.int .i64 0) ∧ ∃ w1, TapeR w1 tb T.step F ∧ Upd w w1 F F ∧ R w1 w' := by
  obtain ⟨v0, v1, pv, h⟩ := h
  have hpl := h.pl
  rw [hp] at hpl
  obtain ⟨pb, rfl, hb, hF⟩ := hpl
  have hl2 := (h.wf.left l k hp).2
  have h7 := h.c7
  have h8 : (w.setCell ⟨pb, 0, none⟩ (.int .i64 (l - 1))).cell? ⟨tb, 8, none⟩ = some (.int .i64 T.ops) := (h.blk.setOther ⟨pb, 0, none⟩ _ (Blk.ne h.blk hb (by decide))).cell 8
  have g8 : (w.setCell ⟨pb, 0, none⟩ (.int .i64 (l - 1))).frozen? ⟨tb, 8, none⟩ = false := (h.blk.setOther ⟨pb, 0, none⟩ _ (Blk.ne h.blk hb (by decide))).free 8
  have p0 : w.cell? ⟨pb, 0, none⟩ = some (.int .i64 l) := hb.cell 0
  have f0 := hb.free 0
  have hne : (l == 0) = false := by rw [beq_eq_false_iff_ne]; omega
  have H := Lib.hid h
  have HB := Lib.hid hb
  have HP := Lib.hid hp
  have HOP := Lib.hid hop
  clear h hp hop hb
  go_enter Try.func63, Try.ntmps63
  go_wp2_with fail
  have h1 := H.out.dec l k HP.out hl
  have u1 : Upd w ((w.setCell ⟨pb, 0, none⟩ (.int .i64 (l - 1))).setCell ⟨tb, 8, none⟩ (.int .i64 (wrap64 (T.ops + 1)))) F F := ⟨(Fr.setCell F w ⟨pb, 0, none⟩ _ h1.2).trans (Fr.setCell F _ _ _ H.out.ft) (fun _ h => .inl h), fun _ h => .inl h⟩
  have H1 : Hid (TapeR _ tb T.step F) := ⟨_, _, _, h1.1⟩
  have U1 := Lib.hid u1
  clear h1 u1 h7 h8 g8 H HB p0 f0
  generalize ((w.setCell ⟨pb, 0, none⟩ (.int .i64 (l - 1))).setCell ⟨tb, 8, none⟩ (.int .i64 (wrap64 (T.ops + 1)))) = w1 at *
  refine (HOP.out w1 H1.out U1.out).mono ?_
  rintro e w' ⟨rfl, hR⟩
  have HR := Lib.hid hR
  clear hR
  go_wp2_with fail
  go_ret
  exact ⟨rfl, w1, H1.out, U1.out, HR.out⟩
theorem do_gone_clear (caps : Array Value) (tb : Nat) (T : TS) (F : Nat → Prop) (w : World) (h : TapeR w tb T F) (k : Int) (hp : T.plan = some (0, k)) :
    Calls Try.prog 63 #[.pointer (some ⟨tb, 0, none⟩), .func (.func 68) #[] caps] w fun e w' => e = .returned (.int .i64 150) ∧ ∃ F', TapeR w' tb (T.gone k) F' ∧ Upd w w' F F' := by
  have HT := Lib.hid h
  obtain ⟨v0, v1, pv, h⟩ := h
  have hpl := h.pl
  rw [hp] at hpl
  obtain ⟨pb, rfl, hb, hF⟩ := hpl
  have h7 := h.c7
  have p0 : w.cell? ⟨pb, 0, none⟩ = some (.int .i64 0) := hb.cell 0
  have p1 : w.cell? ⟨pb, 1, none⟩ = some (.int .i64 k) := hb.cell 1
  clear h hp hb
  go_enter Try.func63, Try.ntmps63
  go_wp2_with fail
  refine (gone_any tb k T F w HT.out).mono ?_
  rintro e w' ⟨rfl, hR⟩
  have HR := Lib.hid hR
  clear hR
  go_wp2_with fail
  go_ret
  exact ⟨rfl, HR.out⟩

end Go.Proofs.Ytnkenkdglcmpdaa
