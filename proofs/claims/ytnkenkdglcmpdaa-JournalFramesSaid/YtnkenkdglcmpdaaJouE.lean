/- The walks of tally's Reader: stopped, left, fail, take, number. -/
import Derived.Test.YtnkenkdglcmpdaaJouD
namespace Go.Proofs.Ytnkenkdglcmpdaa
set_option linter.unusedVariables false
set_option linter.unusedSimpArgs false
open Go.RowKit

/-- Block pb is a reader that has the bytes b left, and the error e. -/
structure RdAt (w : World) (pb : Nat) (b : List UInt8) (e : Int) (A : Option Addr) (c : Nat) : Prop where
  blk : Blk w pb #[.slice A b.length c, .int .i64 e, .bool true] 127
  rb : RB w A b
  cap : b.length ≤ c
  ne : ∀ a, A = some a → 0 < b.length → a.block ≠ pb
def RdR (w : World) (pb : Nat) (b : List UInt8) (e : Int) : Prop := ∃ A c, RdAt w pb b e A c
theorem RdAt.below {w w' : World} {pb : Nat} {b : List UInt8} {e : Int} {A : Option Addr} {c : Nat} (h : RdAt w pb b e A c) (hb : Below w.heap.size w w') : RdAt w' pb b e A c :=
  ⟨h.blk.below hb, h.rb.below hb, h.cap, h.ne⟩
theorem RdR.below {w w' : World} {pb : Nat} {b : List UInt8} {e : Int} (h : RdR w pb b e) (hb : Below w.heap.size w w') : RdR w' pb b e := by
  obtain ⟨A, c, h⟩ := h; exact ⟨A, c, h.below hb⟩
set_option maxRecDepth 100000 in
theorem read_tally (B : Nat) (A : Option Addr) (c : Nat) (xs : List UInt8) (w : World) (hB : B ≤ w.heap.size) (hr : RB w A xs) (hl : xs.length ≤ 140737488355328) :
    Calls Try.prog 94 #[.slice A xs.length c] w fun e w' => ∃ pb, e = .returned (.pointer (some ⟨pb, 0, none⟩)) ∧ B ≤ pb ∧ RdR w' pb xs 0 ∧ Below B w w' := by
  have HLO := Lib.hid (show OB (w.alloc (.cells #[] 5)) (.slice (some ⟨w.heap.size, 0, none⟩) 0 0) [] from OB.lit w [] _ rfl (by decide))
  have HR := Lib.hid (hr.below ((Below.refl w.heap.size w).alloc (Nat.le_refl _) (.cells #[] 5)))
  have HL := Lib.hid hl
  clear hr hl
  go_enter Try.func94, Try.ntmps94
  go_wp2_with (at_builtin; refine wpList_append_b rfl (.tmp 3) (.tmp 4) rfl (.slice (some ⟨w.heap.size, 0, none⟩) 0 0) [] rfl HLO.out A c xs rfl HR.out (by simp; exact HL.out) ?_; intro v w1 HO hg hat; have hcf := Lib.hid (clone_facts HO hg hat); obtain ⟨A1, c1, hv, hc1⟩ : ∃ A1 c1, v = .slice A1 xs.length c1 ∧ True := (by obtain ⟨A1, c1, h⟩ := hcf.out.1.form; exact ⟨A1, c1, h, trivial⟩); subst hv)
  clear HO hg hat hc1 HR HLO
  go_ret
  have hcf := hcf.out
  obtain ⟨A2, c2, hv, hr2, hc2, hn2⟩ := hcf.1.reads' HL.out
  cases hv
  have hbn : Below w.heap.size w1 (w1.alloc (.cells #[.slice A1 xs.length c1, .int .i64 0, .bool true] 127)) := (Below.refl _ _).alloc hcf.2.1.size _
  have hbn1 : Below w1.heap.size w1 (w1.alloc (.cells #[.slice A1 xs.length c1, .int .i64 0, .bool true] 127)) := (Below.refl _ _).alloc (Nat.le_refl _) _
  refine ⟨w1.heap.size, rfl, Nat.le_trans hB hcf.2.1.size, ⟨A1, c1, Blk.new w1 _ _, hr2.below hbn1, hc2, fun a e hx h => ?_⟩, Below.up (hcf.2.1.trans hbn) hB⟩
  have := hcf.1.lt _ (hn2 a e)
  omega

theorem stopped_any (pb : Nat) (b : List UInt8) (e : Int) (w : World) (h : RdR w pb b e) :
    Calls Try.prog 105 #[.pointer (some ⟨pb, 0, none⟩)] w fun r w' => r = .returned (.bool (e != 0)) ∧ w = w' := by
  obtain ⟨A, c, h⟩ := h
  have h1 : w.cell? ⟨pb, 1, none⟩ = some (.int .i64 e) := h.blk.cell 1
  have h2 : w.cell? ⟨pb, 2, none⟩ = some (.bool true) := h.blk.cell 2
  clear h
  go_enter Try.func105, Try.ntmps105
  go_wp2
  go_ret
  exact ⟨rfl, rfl⟩
theorem left_any (pb : Nat) (b : List UInt8) (e : Int) (w : World) (h : RdR w pb b e) :
    Calls Try.prog 107 #[.pointer (some ⟨pb, 0, none⟩)] w fun r w' => r = .returned (.int .i64 (b.length : Int)) ∧ w = w' := by
  obtain ⟨A, c, h⟩ := h
  have h0 : w.cell? ⟨pb, 0, none⟩ = some (.slice A b.length c) := h.blk.cell 0
  clear h
  go_enter Try.func107, Try.ntmps107
  go_wp2
  go_ret
  exact ⟨rfl, rfl⟩
/-- What a call on a reader comes to: its block alone is written. -/
def DoesRd (w : World) (pb : Nat) (b : List UInt8) (e : Int) (w' : World) : Prop := RdR w' pb b e ∧ Fr (fun k => k = pb) w w'
theorem rd_below {B : Nat} {w w' : World} {pb : Nat} (h : Fr (fun k => k = pb) w w') (hB : B ≤ pb) (hs : B ≤ w.heap.size) : Below B w w' :=
  ⟨h.os, h.tape, h.output, h.size, fun i hi => by
    rcases Nat.lt_or_ge i w.heap.size with hl | hl
    · exact h.block i hl (by omega)
    · omega⟩

end Go.Proofs.Ytnkenkdglcmpdaa
