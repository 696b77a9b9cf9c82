/- The walks of the tape's gone, Fail, Arm. -/
import Derived.Test.YtnkenkdglcmpdaaTapeD
namespace Go.Proofs.Ytnkenkdglcmpdaa
set_option linter.unusedVariables false
set_option linter.unusedSimpArgs false
open Go.RowKit

section
variable {w : World} {tb : Nat} {T : TS} {F : Nat → Prop} {v0 v1 : Value} {pv : Option Addr}
theorem TapeAt.mono (h : TapeAt w tb T F v0 v1 pv) {G : Nat → Prop} (hG : ∀ k, F k → G k) (hl : ∀ k, G k → k < w.heap.size) : TapeAt w tb T G v0 v1 pv :=
  ⟨h.blk, h.o0, h.o1, h.pl.of (fun _ _ _ _ h => h) hG, h.apart, hG _ h.ft, fun k hk => hG k (h.f0 k hk), fun k hk => hG k (h.f1 k hk), hl, h.wf⟩
/-- A store into the tape's own block. -/
theorem TapeAt.put (h : TapeAt w tb T F v0 v1 pv) (i : Nat) (u : Value) {T' : TS} (hb : (tcells T v0 v1 pv).setIfInBounds i u = tcells T' v0 v1 pv) (e0 : T'.b0 = T.b0) (e1 : T'.b1 = T.b1) (ep : T'.plan = T.plan) (ok : T'.ok) : TapeAt (w.setCell ⟨tb, i, none⟩ u) tb T' F v0 v1 pv := by
  refine ⟨by have := h.blk.set i u; rw [hb] at this; exact this, by rw [e0]; exact h.o0.setOther _ _ (h.o0.ne h.blk (by decide)), by rw [e1]; exact h.o1.setOther _ _ (h.o1.ne h.blk (by decide)), ?_, h.apart, h.ft, h.f0, h.f1, fun k hk => by simpa [World.setCell] using h.flt k hk, ok⟩
  rw [ep]
  exact h.pl.of (fun pb cs e hF hb => hb.setOther _ _ (Blk.ne hb h.blk (by decide))) (fun _ h => h)
theorem TapeAt.unplan (h : TapeAt w tb T F v0 v1 pv) : TapeAt (w.setCell ⟨tb, 7, none⟩ (.pointer none)) tb { T with plan := none } F v0 v1 none :=
  ⟨h.blk.set 7 _, h.o0.setOther _ _ (h.o0.ne h.blk (by decide)), h.o1.setOther _ _ (h.o1.ne h.blk (by decide)), rfl, h.apart, h.ft, h.f0, h.f1, fun k hk => by simpa [World.setCell] using h.flt k hk, ⟨h.wf.s0, h.wf.s1, h.wf.fit, h.wf.room, fun l k e => by cases e⟩⟩
/-- A new plan. -/
theorem TapeAt.replan (h : TapeAt w tb T F v0 v1 pv) (l k : Int) (h0 : 0 ≤ l) (h1 : l ≤ 9223372036854775807) : TapeAt ((w.alloc (.cells #[.int .i64 l, .int .i64 k] 100)).setCell ⟨tb, 7, none⟩ (.pointer (some ⟨w.heap.size, 0, none⟩))) tb { T with plan := some (l, k) } (fun i => F i ∨ i = w.heap.size) v0 v1 (some ⟨w.heap.size, 0, none⟩) := by
  have hb : Below w.heap.size w (w.alloc (.cells #[.int .i64 l, .int .i64 k] 100)) := (Below.refl _ _).alloc (Nat.le_refl _) _
  have h2 := h.fr (Fr.of_below (F := fun _ => False) hb) (fun _ _ h => h)
  have hn := Blk.new w #[.int .i64 l, .int .i64 k] 100
  refine ⟨h2.blk.set 7 _, h2.o0.setOther _ _ (h2.o0.ne h2.blk (by decide)), h2.o1.setOther _ _ (h2.o1.ne h2.blk (by decide)), ⟨_, rfl, hn.setOther _ _ (Blk.ne hn h2.blk (by decide)), .inr rfl⟩, h.apart, .inl h.ft, fun k hk => .inl (h.f0 k hk), fun k hk => .inl (h.f1 k hk), ?_, ⟨h.wf.s0, h.wf.s1, h.wf.fit, h.wf.room, ?_⟩⟩
  · intro i hi
    have : (w.alloc (.cells #[.int .i64 l, .int .i64 k] 100)).heap.size = w.heap.size + 1 := by simp
    simp only [World.setCell, Array.size_modify, this]
    rcases hi with hi | hi
    · have := h.flt i hi; omega
    · omega
  · intro l' k' e
    simp only [Option.some.injEq, Prod.mk.injEq] at e
    omega
theorem TapeAt.drew (h : TapeAt w tb T F v0 v1 pv) : TapeAt w.drew tb T F v0 v1 pv := h.fr (Fr.drew (fun _ => False) w) (fun _ _ h => h)
/-- The slice of area 0 is replaced by a fresh one. -/
theorem TapeAt.cut0 (h : TapeAt w tb T F v0 v1 pv) {w1 : World} {v : Value} {xs : List UInt8} (hf : Fresh w w1 v xs) (n : Nat) (hn : n = xs.length) (hl : xs.length ≤ T.b0.length) :
    TapeAt ((w1.setCell ⟨tb, 2, none⟩ v).setCell ⟨tb, 3, none⟩ (.int .i64 (n : Int))) tb { T with b0 := xs, s0 := n } (fun k => F k ∨ v.ownBlock = some k) v v1 pv := by
  obtain ⟨ho, hb, hw⟩ := hf
  have h1 := h.fr (Fr.of_below (F := fun _ => False) hb) (fun _ _ h => h)
  have hwf := h.wf
  refine ⟨?_, ?_, ?_, ?_, ?_, .inl h.ft, fun k hk => .inr hk, fun k hk => .inl (h.f1 k hk), ?_, ⟨by show n ≤ xs.length; omega, hwf.s1, ?_, hwf.room, hwf.left⟩⟩
  · exact (h1.blk.set 2 v).set 3 _
  · exact (ho.setOther _ _ (ho.ne h1.blk (by decide))).setOther _ _ (ho.ne h1.blk (by decide))
  · exact (h1.o1.setOther _ _ (h1.o1.ne h1.blk (by decide))).setOther _ _ (h1.o1.ne h1.blk (by decide))
  · exact h1.pl.of (fun pb cs e hF hb => (hb.setOther _ _ (Blk.ne hb h1.blk (by decide))).setOther _ _ (Blk.ne hb h1.blk (by decide))) (fun _ h => .inl h)
  · intro k hk hk1
    have a := hw k hk
    have b := h.o1.lt k hk1
    omega
  · intro k hk
    simp only [World.setCell, Array.size_modify]
    rcases hk with hk | hk
    · exact Nat.lt_of_lt_of_le (h.flt k hk) hb.size
    · exact ho.lt k hk
  · have := hwf.fit
    simp only [TS.used] at this ⊢
    omega
theorem TapeAt.cut1 (h : TapeAt w tb T F v0 v1 pv) {w1 : World} {v : Value} {xs : List UInt8} (hf : Fresh w w1 v xs) (n : Nat) (hn : n = xs.length) (hl : xs.length ≤ T.b1.length) :
    TapeAt ((w1.setCell ⟨tb, 4, none⟩ v).setCell ⟨tb, 5, none⟩ (.int .i64 (n : Int))) tb { T with b1 := xs, s1 := n } (fun k => F k ∨ v.ownBlock = some k) v0 v pv := by
  obtain ⟨ho, hb, hw⟩ := hf
  have h1 := h.fr (Fr.of_below (F := fun _ => False) hb) (fun _ _ h => h)
  have hwf := h.wf
  refine ⟨?_, ?_, ?_, ?_, ?_, .inl h.ft, fun k hk => .inl (h.f0 k hk), fun k hk => .inr hk, ?_, ⟨hwf.s0, by show n ≤ xs.length; omega, ?_, hwf.room, hwf.left⟩⟩
  · exact (h1.blk.set 4 v).set 5 _
  · exact (h1.o0.setOther _ _ (h1.o0.ne h1.blk (by decide))).setOther _ _ (h1.o0.ne h1.blk (by decide))
  · exact (ho.setOther _ _ (ho.ne h1.blk (by decide))).setOther _ _ (ho.ne h1.blk (by decide))
  · exact h1.pl.of (fun pb cs e hF hb => (hb.setOther _ _ (Blk.ne hb h1.blk (by decide))).setOther _ _ (Blk.ne hb h1.blk (by decide))) (fun _ h => .inl h)
  · intro k hk1 hk
    have a := hw k hk
    have b := h.o0.lt k hk1
    omega
  · intro k hk
    simp only [World.setCell, Array.size_modify]
    rcases hk with hk | hk
    · exact Nat.lt_of_lt_of_le (h.flt k hk) hb.size
    · exact ho.lt k hk
  · have := hwf.fit
    simp only [TS.used] at this ⊢
    omega
end
theorem upd_cut {w w1 : World} {tb i j : Nat} {F : Nat → Prop} {v u : Value} {xs : List UInt8} (hf : Fresh w w1 v xs) (ht : F tb) : Upd w ((w1.setCell ⟨tb, i, none⟩ v).setCell ⟨tb, j, none⟩ u) F (fun k => F k ∨ v.ownBlock = some k) :=
  ⟨(((Fr.of_below hf.2.1).trans (Fr.setCell F w1 ⟨tb, i, none⟩ v ht) (fun _ h => .inl h)).trans (Fr.setCell F _ ⟨tb, j, none⟩ u ht) (fun _ h => .inl h)), fun k hk => hk.elim .inl (fun h => .inr (hf.2.2 k h))⟩

def TS.gone (T : TS) (keep : Int) : TS :=
  { T with b0 := T.b0.take (keepN T.b0 T.s0 keep), s0 := keepN T.b0 T.s0 keep, b1 := T.b1.take (keepN T.b1 T.s1 keep), s1 := keepN T.b1 T.s1 keep, off := true, plan := none, fails := wrap64 (T.fails + 1) }
theorem keep_len (b : List UInt8) (s : Nat) (keep : Int) (hs : s ≤ b.length) : (b.take (keepN b s keep)).length = keepN b s keep := by
  rw [List.length_take, Nat.min_eq_left (keepN_le b s keep hs).2]

set_option maxRecDepth 100000 in
set_option maxHeartbeats 2000000 in
theorem gone_any (tb : Nat) (keep : Int) (T : TS) (F : Nat → Prop) (w : World) (h : TapeR w tb T F) :
    Calls Try.prog 66 #[.pointer (some ⟨tb, 0, none⟩), .int .i64 keep] w fun e w' => e = .returned (.tuple #[]) ∧ ∃ F', TapeR w' tb (T.gone keep) F' ∧ Upd w w' F F' := by
  obtain ⟨v0, v1, pv, h⟩ := h
  have hs0 := h.wf.s0
  have hs1 := h.wf.s1
  have hl0 := h.len0
  have hl1 := h.len1
  have H := Lib.hid h
  clear h
  go_enter Try.func66, Try.ntmps66
  go_wp2_with fail
  refine wp_loop_rounds 3 ?_
  rw [rounds_succ]
  go_wp2_with fail
  obtain ⟨A0, c0, rfl, r0, k0, _⟩ := H.out.o0.reads' (by omega)
  refine (cut_any tb 2 keep A0 c0 T.b0 T.s0 w hs0 hl0 k0 H.out.c2 H.out.c3 (H.out.free 2) (H.out.free 3) r0).mono ?_
  rintro e w' ⟨rfl, v, w1, hf, rfl⟩
  have h1 := H.out.cut0 hf _ (keep_len T.b0 T.s0 keep hs0).symm (by rw [keep_len _ _ _ hs0]; exact (keepN_le T.b0 T.s0 keep hs0).2)
  have u1 : Upd w _ F _ := upd_cut (i := 2) (j := 3) (u := .int .i64 ((keepN T.b0 T.s0 keep : Nat) : Int)) hf H.out.ft
  have H1 := Lib.hid h1
  have U1 := Lib.hid u1
  clear h1 u1 r0 k0 hf H
  generalize (w1.setCell _ v).setCell _ _ = w2 at *
  go_wp2_with fail
  rw [rounds_succ]
  go_wp2_with fail
  obtain ⟨A1, c1, rfl, r1, k1, _⟩ := H1.out.o1.reads' (by show T.b1.length ≤ _; omega)
  refine (cut_any tb 4 keep A1 c1 T.b1 T.s1 w2 hs1 hl1 k1 H1.out.c4 H1.out.c5 (H1.out.free 4) (H1.out.free 5) r1).mono ?_
  rintro e w' ⟨rfl, v', w3, hf, rfl⟩
  have h1 := H1.out.cut1 hf _ (keep_len T.b1 T.s1 keep hs1).symm (by rw [keep_len _ _ _ hs1]; exact (keepN_le T.b1 T.s1 keep hs1).2)
  have u1 : Upd w2 _ _ _ := upd_cut (F := fun k => F k ∨ v.ownBlock = some k) (i := 4) (j := 5) (u := .int .i64 ((keepN T.b1 T.s1 keep : Nat) : Int)) hf H1.out.ft
  have H2 := Lib.hid h1
  have U2 := Lib.hid (U1.out.trans u1)
  clear h1 u1 r1 k1 hf H1 U1
  generalize (w3.setCell _ v').setCell _ _ = w4 at *
  go_wp2_with fail
  rw [rounds_succ]
  have h6 := H2.out.c6
  have h7 := H2.out.c7
  have h9 := H2.out.c9
  have g6 := H2.out.free 6
  have g7 := H2.out.free 7
  have g9 := H2.out.free 9
  go_wp2_with fail
  go_end0
  have h := H2.out
  have ha := h.put 6 (.bool true) (T' := { T with b0 := T.b0.take (keepN T.b0 T.s0 keep), s0 := keepN T.b0 T.s0 keep, b1 := T.b1.take (keepN T.b1 T.s1 keep), s1 := keepN T.b1 T.s1 keep, off := true }) rfl rfl rfl rfl ⟨h.wf.s0, h.wf.s1, h.wf.fit, h.wf.room, h.wf.left⟩
  have hb := ha.unplan
  have hc := hb.put 9 (.int .i64 (wrap64 (T.fails + 1))) (T' := T.gone keep) rfl rfl rfl rfl ⟨h.wf.s0, h.wf.s1, h.wf.fit, h.wf.room, fun l k e => by cases e⟩
  refine ⟨rfl, _, ⟨_, _, _, hc⟩, U2.out.trans ⟨?_, fun k hk => .inl hk⟩⟩
  exact ((Fr.setCell _ _ _ _ h.ft).trans (Fr.setCell _ _ _ _ h.ft) (fun _ h => .inl h)).trans (Fr.setCell _ _ _ _ h.ft) (fun _ h => .inl h)

theorem fail_ok (tb : Nat) (keep : Int) (T : TS) (F : Nat → Prop) (w : World) (h : TapeR w tb T F) (ho : T.off = false) :
    Calls Try.prog 29 #[.pointer (some ⟨tb, 0, none⟩), .int .i64 keep] w fun e w' => e = .returned (.int .i64 0) ∧ ∃ F', TapeR w' tb (T.gone keep) F' ∧ Upd w w' F F' := by
  have H := Lib.hid h
  obtain ⟨v0, v1, pv, h⟩ := h
  have h0 := h.c0
  have h6 := h.c6
  rw [ho] at h6
  clear h
  go_enter Try.func29, Try.ntmps29
  go_wp2_with fail
  refine (fault_any tb 0 false w h0 h6).mono ?_
  rintro e w' ⟨rfl, rfl⟩
  rw [show faultN false 0 = 0 from rfl]
  go_wp2_with fail
  refine (gone_any tb keep T F w H.out).mono ?_
  rintro e w' ⟨rfl, hG⟩
  have HG := Lib.hid hG
  clear hG
  go_wp2_with fail
  go_ret
  exact ⟨rfl, HG.out⟩
theorem fail_off (tb : Nat) (keep : Int) (T : TS) (F : Nat → Prop) (w : World) (h : TapeR w tb T F) (ho : T.off = true) :
    Calls Try.prog 29 #[.pointer (some ⟨tb, 0, none⟩), .int .i64 keep] w fun e w' => e = .returned (.int .i64 150) ∧ w = w' := by
  obtain ⟨v0, v1, pv, h⟩ := h
  have h0 := h.c0
  have h6 := h.c6
  rw [ho] at h6
  clear h
  go_enter Try.func29, Try.ntmps29
  go_wp2_with fail
  refine (fault_any tb 0 true w h0 h6).mono ?_
  rintro e w' ⟨rfl, rfl⟩
  rw [show faultN true 0 = 150 from rfl]
  go_wp2
  go_ret
  exact ⟨rfl, rfl⟩
theorem fail_no (p : Option Addr) (keep : Int) (w : World) (h : NoTape w p) :
    Calls Try.prog 29 #[.pointer p, .int .i64 keep] w fun e w' => e = .returned (.int .i64 1) ∧ w = w' := by
  go_enter Try.func29, Try.ntmps29
  go_wp2_with fail
  refine (fault_no p 0 w h).mono ?_
  rintro e w' ⟨rfl, rfl⟩
  go_wp2
  go_ret
  exact ⟨rfl, rfl⟩

theorem arm_ok (tb : Nat) (n keep : Int) (T : TS) (F : Nat → Prop) (w : World) (h : TapeR w tb T F) (hn : 0 ≤ n) (hn2 : n ≤ 9223372036854775807) (ho : T.off = false) :
    Calls Try.prog 38 #[.pointer (some ⟨tb, 0, none⟩), .int .i64 n, .int .i64 keep] w fun e w' => e = .returned (.int .i64 0) ∧ ∃ F', TapeR w' tb { T with plan := some (n, keep) } F' ∧ Upd w w' F F' := by
  obtain ⟨v0, v1, pv, h⟩ := h
  have h0 := h.c0
  have h6 := h.c6
  rw [ho] at h6
  have h7 : (w.alloc (.cells #[.int .i64 n, .int .i64 keep] 100)).cell? ⟨tb, 7, none⟩ = some (.pointer pv) := (h.blk.alloc _).cell 7
  have g7 : (w.alloc (.cells #[.int .i64 n, .int .i64 keep] 100)).frozen? ⟨tb, 7, none⟩ = false := (h.blk.alloc _).free 7
  have H := Lib.hid h
  have hng : ¬ n < 0 := by omega
  clear h
  go_enter Try.func38, Try.ntmps38
  go_wp2_with fail
  refine (none_ok tb w h0).mono ?_
  rintro e w' ⟨rfl, rfl⟩
  go_wp2
  go_ret
  refine ⟨rfl, _, ⟨_, _, _, H.out.replan n keep hn hn2⟩, ?_, fun k hk => hk.elim .inl (fun h => .inr (by omega))⟩
  exact (Fr.alloc F w _).trans (Fr.setCell F _ _ _ H.out.ft) (fun _ h => .inl h)
theorem arm_err (tb : Nat) (n keep : Int) (T : TS) (F : Nat → Prop) (w : World) (h : TapeR w tb T F) (hn : n < 0 ∨ T.off = true) :
    Calls Try.prog 38 #[.pointer (some ⟨tb, 0, none⟩), .int .i64 n, .int .i64 keep] w fun e w' => e = .returned (.int .i64 (if n < 0 then 2 else 150)) ∧ w = w' := by
  obtain ⟨v0, v1, pv, h⟩ := h
  have h0 := h.c0
  have h6 := h.c6
  clear h
  by_cases h1 : n < 0
  · clear hn
    go_enter Try.func38, Try.ntmps38
    go_wp2_with fail
    refine (none_ok tb w h0).mono ?_
    rintro e w' ⟨rfl, rfl⟩
    go_wp2
    go_ret
    exact ⟨rfl, rfl⟩
  · have ho : T.off = true := hn.resolve_left h1
    rw [ho] at h6
    clear hn ho
    go_enter Try.func38, Try.ntmps38
    go_wp2_with fail
    refine (none_ok tb w h0).mono ?_
    rintro e w' ⟨rfl, rfl⟩
    go_wp2
    go_ret
    exact ⟨rfl, rfl⟩
theorem arm_no (p : Option Addr) (n keep : Int) (w : World) (h : NoTape w p) :
    Calls Try.prog 38 #[.pointer p, .int .i64 n, .int .i64 keep] w fun e w' => e = .returned (.int .i64 1) ∧ w = w' := by
  go_enter Try.func38, Try.ntmps38
  go_wp2_with fail
  refine (none_no p w h).mono ?_
  rintro e w' ⟨rfl, rfl⟩
  go_wp2
  go_ret
  exact ⟨rfl, rfl⟩
theorem power_no (p : Option Addr) (w : World) (h : NoTape w p) :
    Calls Try.prog 32 #[.pointer p] w fun e w' => e = .returned (.int .i64 1) ∧ w = w' := by
  go_enter Try.func32, Try.ntmps32
  go_wp2_with fail
  refine (none_no p w h).mono ?_
  rintro e w' ⟨rfl, rfl⟩
  go_wp2
  go_ret
  exact ⟨rfl, rfl⟩

end Go.Proofs.Ytnkenkdglcmpdaa
