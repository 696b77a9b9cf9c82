/- The walks of the tape's Read, Power, Arm, cut, gone, Fail. -/
import Derived.Test.YtnkenkdglcmpdaaTapeB
namespace Go.Proofs.Ytnkenkdglcmpdaa
set_option linter.unusedVariables false
set_option linter.unusedSimpArgs false
open Go.RowKit

/-- A fresh slice of bytes. -/
def Fresh (w w' : World) (v : Value) (xs : List UInt8) : Prop := OB w' v xs ∧ Below w.heap.size w w' ∧ ∀ k, v.ownBlock = some k → w.heap.size ≤ k
def TS.b (T : TS) (n : Int) : List UInt8 := if n = 0 then T.b0 else if n = 1 then T.b1 else []
set_option maxHeartbeats 1000000 in
theorem read_ok (tb : Nat) (n : Int) (T : TS) (F : Nat → Prop) (w : World) (h : TapeR w tb T F) (hn : n = 0 ∨ n = 1) (ho : T.off = false) :
    Calls Try.prog 25 #[.pointer (some ⟨tb, 0, none⟩), .int .i64 n] w fun e w' => ∃ v, e = .returned (.tuple #[v, .int .i64 0]) ∧ Fresh w w' v (T.b n) := by
  obtain ⟨v0, v1, pv, h⟩ := h
  have h0 := h.c0
  have h6 := h.c6
  rw [ho] at h6
  have HLO := Lib.hid (show OB (w.alloc (.cells #[] 5)) (.slice (some ⟨w.heap.size, 0, none⟩) 0 0) [] from OB.lit w [] _ rfl (by decide))
  rcases hn with rfl | rfl
  · obtain ⟨A, c, rfl, hr, _⟩ := h.o0.reads' (by have := h.len0; omega)
    have hc : (w.alloc (.cells #[] 5)).cell? ⟨tb, 2, none⟩ = some (.slice A T.b0.length c) := (h.blk.alloc _).cell 2
    have hl := h.len0
    have HR := Lib.hid (hr.below ((Below.refl w.heap.size w).alloc (Nat.le_refl _) (.cells #[] 5)))
    clear hr h
    go_enter Try.func25, Try.ntmps25
    go_wp2_with fail
    refine (fault_any tb 0 false w h0 h6).mono ?_
    rintro e w' ⟨rfl, rfl⟩
    rw [show faultN false 0 = 0 from rfl]
    go_wp2_with (at_builtin; refine wpList_append_b rfl (.tmp 13) (.tmp 21) rfl (.slice (some ⟨w.heap.size, 0, none⟩) 0 0) [] rfl HLO.out A c T.b0 rfl HR.out (by simp; omega) ?_; intro v' w1 HO hg hat)
    have HF := Lib.hid (clone_facts HO hg hat)
    clear HO hg hat
    go_ret2
    exact ⟨v', rfl, HF.out⟩
  · obtain ⟨A, c, rfl, hr, _⟩ := h.o1.reads' (by have := h.len1; omega)
    have hc : (w.alloc (.cells #[] 5)).cell? ⟨tb, 4, none⟩ = some (.slice A T.b1.length c) := (h.blk.alloc _).cell 4
    have hl := h.len1
    have HR := Lib.hid (hr.below ((Below.refl w.heap.size w).alloc (Nat.le_refl _) (.cells #[] 5)))
    clear hr h
    go_enter Try.func25, Try.ntmps25
    go_wp2_with fail
    refine (fault_any tb 1 false w h0 h6).mono ?_
    rintro e w' ⟨rfl, rfl⟩
    rw [show faultN false 1 = 0 from rfl]
    go_wp2_with (at_builtin; refine wpList_append_b rfl (.tmp 13) (.tmp 21) rfl (.slice (some ⟨w.heap.size, 0, none⟩) 0 0) [] rfl HLO.out A c T.b1 rfl HR.out (by simp; omega) ?_; intro v' w1 HO hg hat)
    have HF := Lib.hid (clone_facts HO hg hat)
    clear HO hg hat
    go_ret2
    exact ⟨v', rfl, HF.out⟩
theorem read_err (tb : Nat) (n : Int) (T : TS) (F : Nat → Prop) (w : World) (h : TapeR w tb T F) (hn : faultN T.off n ≠ 0) :
    Calls Try.prog 25 #[.pointer (some ⟨tb, 0, none⟩), .int .i64 n] w fun e w' => e = .returned (.tuple #[.slice none 0 0, .int .i64 (faultN T.off n)]) ∧ w = w' := by
  obtain ⟨v0, v1, pv, h⟩ := h
  have h0 := h.c0
  have h6 := h.c6
  obtain ⟨k, hk⟩ : ∃ k, k = faultN T.off n := ⟨_, rfl⟩
  have hne : (k != 0) = true := by rw [bne_iff_ne, hk]; exact hn
  rw [← hk]
  have HK := Lib.hid hk
  clear h hn hk
  go_enter Try.func25, Try.ntmps25
  go_wp2_with fail
  refine (fault_any tb n T.off w h0 h6).mono ?_
  rintro e w' ⟨rfl, rfl⟩
  rw [← HK.out]
  go_wp2
  go_ret2
  exact ⟨rfl, rfl⟩
theorem read_no (p : Option Addr) (n : Int) (w : World) (h : NoTape w p) :
    Calls Try.prog 25 #[.pointer p, .int .i64 n] w fun e w' => e = .returned (.tuple #[.slice none 0 0, .int .i64 1]) ∧ w = w' := by
  go_enter Try.func25, Try.ntmps25
  go_wp2_with fail
  refine (fault_no p n w h).mono ?_
  rintro e w' ⟨rfl, rfl⟩
  go_wp2
  go_ret2
  exact ⟨rfl, rfl⟩

/-- What a call leaves of an object whose blocks were F. -/
structure Upd (w w' : World) (F F' : Nat → Prop) : Prop where
  fr : Fr F w w'
  new : ∀ k, F' k → F k ∨ w.heap.size ≤ k
theorem Upd.refl (w : World) (F : Nat → Prop) : Upd w w F F := ⟨Fr.refl _ _, fun k h => .inl h⟩
theorem Upd.trans {w w1 w2 : World} {F F1 F2 : Nat → Prop} (h : Upd w w1 F F1) (k : Upd w1 w2 F1 F2) : Upd w w2 F F2 :=
  ⟨h.fr.trans k.fr h.new, fun i hi => (k.new i hi).elim (h.new i) (fun h' => .inr (Nat.le_trans h.fr.size h'))⟩
theorem Upd.of_below {w w' : World} {F : Nat → Prop} (h : Below w.heap.size w w') : Upd w w' F F := ⟨Fr.of_below h, fun k h => .inl h⟩

theorem NoTape.below {w w' : World} {p : Option Addr} (h : NoTape w p) (hb : Below w.heap.size w w') : NoTape w' p := by
  rcases h with rfl | ⟨tb, rfl, hc⟩
  · exact .inl rfl
  · exact .inr ⟨tb, rfl, (hb.cell (World.block_lt_of_cell? w _ hc)).trans hc⟩

theorem power_any (tb : Nat) (T : TS) (F : Nat → Prop) (w : World) (h : TapeR w tb T F) :
    Calls Try.prog 32 #[.pointer (some ⟨tb, 0, none⟩)] w fun e w' => e = .returned (.int .i64 0) ∧ TapeR w' tb { T with off := false } F ∧ Upd w w' F F := by
  obtain ⟨v0, v1, pv, h⟩ := h
  have h0 := h.c0
  have h6 := h.c6
  have g6 := h.free 6
  have H := Lib.hid h
  clear h
  go_enter Try.func32, Try.ntmps32
  go_wp2_with fail
  refine (none_ok tb w h0).mono ?_
  rintro e w' ⟨rfl, rfl⟩
  go_wp2
  go_ret
  have h := H.out
  have hF : F (⟨tb, 6, none⟩ : Addr).block := h.ft
  refine ⟨rfl, ⟨v0, v1, pv, ?_⟩, Fr.setCell F w _ _ hF, fun k h => .inl h⟩
  have n0 := h.o0.ne h.blk (by decide)
  have n1 := h.o1.ne h.blk (by decide)
  refine ⟨h.blk.set 6 _, h.o0.setOther _ _ n0, h.o1.setOther _ _ n1, h.pl.of (fun pb cs e hF hb => hb.setOther _ _ (Blk.ne hb h.blk (by decide))) (fun _ h => h), h.apart, h.ft, h.f0, h.f1, fun k hk => by simpa [World.setCell] using h.flt k hk, ⟨h.wf.s0, h.wf.s1, h.wf.fit, h.wf.room, h.wf.left⟩⟩

end Go.Proofs.Ytnkenkdglcmpdaa
