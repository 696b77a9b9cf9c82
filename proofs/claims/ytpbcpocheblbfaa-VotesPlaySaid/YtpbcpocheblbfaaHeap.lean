/- Words for blocks of memory: which block a call may have changed. -/
import Derived.Test.YtpbcpocheblbfaaBase
namespace Go.Proofs.Ytpbcpocheblbfaa
set_option linter.unusedVariables false
set_option linter.unusedSimpArgs false
open Go.RowKit

/-- Block b holds just these cells, none of them frozen. -/
def Blk (w : World) (b : Nat) (cs : Array Value) (t : TypeId) : Prop := w.heap[b]? = some (.cells cs t (0, 0))
/-- Old blocks outside F are as they were. -/
structure Fr (F : Nat → Prop) (w w' : World) : Prop where
  os : w'.os = w.os
  tape : w'.tape = w.tape
  output : w'.output = w.output
  size : w.heap.size ≤ w'.heap.size
  block : ∀ k, k < w.heap.size → ¬ F k → w'.heap[k]? = w.heap[k]?
theorem Fr.refl (F : Nat → Prop) (w : World) : Fr F w w := ⟨rfl, rfl, rfl, Nat.le_refl _, fun _ _ _ => rfl⟩
theorem Fr.of_below {F : Nat → Prop} {w w' : World} (h : Below w.heap.size w w') : Fr F w w' := ⟨h.os, h.tape, h.output, h.size, fun k hk _ => h.block k hk⟩
theorem Fr.trans {F G : Nat → Prop} {w w1 w2 : World} (h : Fr F w w1) (k : Fr G w1 w2) (hG : ∀ i, G i → F i ∨ w.heap.size ≤ i) : Fr F w w2 :=
  ⟨k.os.trans h.os, k.tape.trans h.tape, k.output.trans h.output, Nat.le_trans h.size k.size, fun i hi hF =>
    (k.block i (Nat.lt_of_lt_of_le hi h.size) (fun g => (hG i g).elim hF (fun h' => by omega))).trans (h.block i hi hF)⟩
theorem Fr.mono {F G : Nat → Prop} {w w' : World} (h : Fr F w w') (hFG : ∀ i, F i → G i ∨ w.heap.size ≤ i) : Fr G w w' :=
  ⟨h.os, h.tape, h.output, h.size, fun i hi hG => h.block i hi (fun f => (hFG i f).elim hG (fun h' => by omega))⟩
theorem Fr.below {F : Nat → Prop} {w0 w w' : World} (h0 : Below w0.heap.size w0 w) (h : Fr F w w') (hF : ∀ i, F i → w0.heap.size ≤ i) : Below w0.heap.size w0 w' :=
  h0.trans ⟨h.os, h.tape, h.output, h.size, fun i hi => h.block i (Nat.lt_of_lt_of_le hi h0.size) (fun f => by have := hF i f; omega)⟩
theorem Fr.belowSelf {F : Nat → Prop} {w w' : World} (h : Fr F w w') (hF : ∀ i, F i → w.heap.size ≤ i) : Below w.heap.size w w' := Fr.below (Below.refl _ _) h hF
theorem Fr.setCell (F : Nat → Prop) (w : World) (a : Addr) (v : Value) (h : F a.block) : Fr F w (w.setCell a v) :=
  ⟨rfl, rfl, rfl, by simp [World.setCell], fun k _ hk => heap_setCell_other w a k v (fun e => hk (e ▸ h))⟩
theorem Fr.alloc (F : Nat → Prop) (w : World) (o : Obj) : Fr F w (w.alloc o) := Fr.of_below ((Below.refl _ _).alloc (Nat.le_refl _) o)
theorem Fr.drew (F : Nat → Prop) (w : World) : Fr F w w.drew := Fr.of_below (Below.refl _ _).drew
theorem Fr.grown {F : Nat → Prop} {w w' : World} {row : Option Nat} (h : w.grownBy w' row) (hr : ∀ k, row = some k → F k) : Fr F w w' :=
  ⟨h.os, h.tape, h.output, h.size, fun k hk hF => h.block k hk (fun e => hF (hr k e.symm))⟩

theorem Blk.lt {w : World} {b : Nat} {cs : Array Value} {t : TypeId} (h : Blk w b cs t) : b < w.heap.size := (Array.getElem?_eq_some_iff.1 h).1
theorem Blk.cell {w : World} {b : Nat} {cs : Array Value} {t : TypeId} (h : Blk w b cs t) (i : Nat) : w.cell? ⟨b, i, none⟩ = cs[i]? := by
  unfold World.cell?
  rw [show w.heap[(⟨b, i, none⟩ : Addr).block]? = _ from h]
  rfl
theorem Blk.free {w : World} {b : Nat} {cs : Array Value} {t : TypeId} (h : Blk w b cs t) (i : Nat) : w.frozen? ⟨b, i, none⟩ = false := frozen_of_row w b i cs t h
theorem Blk.set {w : World} {b : Nat} {cs : Array Value} {t : TypeId} (h : Blk w b cs t) (i : Nat) (v : Value) : Blk (w.setCell ⟨b, i, none⟩ v) b (cs.setIfInBounds i v) t := heap_setCell_same w b i cs t v h
theorem Blk.setOther {w : World} {b : Nat} {cs : Array Value} {t : TypeId} (h : Blk w b cs t) (a : Addr) (v : Value) (hne : b ≠ a.block) : Blk (w.setCell a v) b cs t := (heap_setCell_other w a b v hne).trans h
theorem Blk.new (w : World) (cs : Array Value) (t : TypeId) : Blk (w.alloc (.cells cs t)) w.heap.size cs t := heap_alloc_new w _
theorem Blk.alloc {w : World} {b : Nat} {cs : Array Value} {t : TypeId} (h : Blk w b cs t) (o : Obj) : Blk (w.alloc o) b cs t := (Below.heap_alloc w o b h.lt).trans h
theorem Blk.drew {w : World} {b : Nat} {cs : Array Value} {t : TypeId} (h : Blk w b cs t) : Blk w.drew b cs t := h
theorem Blk.fr {F : Nat → Prop} {w w' : World} {b : Nat} {cs : Array Value} {t : TypeId} (h : Blk w b cs t) (hf : Fr F w w') (hb : ¬ F b) : Blk w' b cs t := (hf.block b h.lt hb).trans h
theorem Blk.below {w w' : World} {b : Nat} {cs : Array Value} {t : TypeId} (h : Blk w b cs t) (hf : Below w.heap.size w w') : Blk w' b cs t := (hf.block b h.lt).trans h
/-- Two blocks of unlike types are two. -/
theorem Blk.ne {w : World} {b b' : Nat} {cs cs' : Array Value} {t t' : TypeId} (h : Blk w b cs t) (h' : Blk w b' cs' t') (hne : t ≠ t') : b ≠ b' := by
  rintro rfl
  unfold Blk at h h'
  rw [h] at h'
  simp only [Option.some.injEq, Obj.cells.injEq] at h'
  exact hne h'.2.1
theorem OB.blk {w : World} {v : Value} {xs : List UInt8} (h : OB w v xs) (k : Nat) (hk : v.ownBlock = some k) : ∃ cs, Blk w k cs 5 := by
  rcases h.2 with ⟨rfl, _⟩ | ⟨g, cap, cur, rfl, _, hh, _⟩
  · simp [Value.ownBlock] at hk
  · simp [Value.ownBlock] at hk; subst hk; exact ⟨cur, hh⟩
/-- A block of another type than bytes is no row's. -/
theorem OB.ne {w : World} {v : Value} {xs : List UInt8} {b : Nat} {cs : Array Value} {t : TypeId} (h : OB w v xs) (hb : Blk w b cs t) (ht : t ≠ 5) : v.ownBlock ≠ some b := by
  intro e
  obtain ⟨cs', h'⟩ := h.blk b e
  exact Blk.ne hb h' ht rfl
theorem own_of_block {w w' : World} {e : TypeId} {v : Value} {n : Nat} {xs : List Value} (h : w.ownsRow 0 e 1 v n xs) (hb : ∀ k, v.ownBlock = some k → w'.heap[k]? = w.heap[k]?) : w'.ownsRow 0 e 1 v n xs := by
  refine ⟨h.1, ?_⟩
  rcases h.2 with h' | ⟨g, cap, cur, rfl, h1, hh, h2⟩
  · exact .inl h'
  · exact .inr ⟨g, cap, cur, rfl, h1, (hb g rfl).trans hh, h2⟩
theorem OB.fr {F : Nat → Prop} {w w' : World} {v : Value} {xs : List UInt8} (h : OB w v xs) (hf : Fr F w w') (hn : ∀ k, v.ownBlock = some k → ¬ F k) : OB w' v xs :=
  own_of_block h fun k hk => hf.block k (h.lt k hk) (hn k hk)
theorem OB.setOther {w : World} {v : Value} {xs : List UInt8} (h : OB w v xs) (a : Addr) (u : Value) (hne : v.ownBlock ≠ some a.block) : OB (w.setCell a u) v xs :=
  own_of_block h fun k hk => heap_setCell_other w a k u (fun e => hne (by rw [hk, e]))
theorem OB.alloc {w : World} {v : Value} {xs : List UInt8} (h : OB w v xs) (o : Obj) : OB (w.alloc o) v xs := h.below ((Below.refl _ _).alloc (Nat.le_refl _) o)
theorem OB.drew {w : World} {v : Value} {xs : List UInt8} (h : OB w v xs) : OB w.drew v xs := h
theorem RB.fr {F : Nat → Prop} {w w' : World} {A : Option Addr} {xs : List UInt8} (h : RB w A xs) (hf : Fr F w w') (hn : ∀ a, A = some a → ¬ F a.block) : RB w' A xs :=
  ⟨h.1, fun hx => by
    obtain ⟨b, off, e, hlt, hc⟩ := h.2 hx
    refine ⟨b, off, e, Nat.lt_of_lt_of_le hlt hf.size, fun j hj => ?_⟩
    rw [← hc j hj]
    exact World.cell?_of_block (a := ⟨b, off + j, none⟩) (hf.block b hlt (hn _ e))⟩
theorem OB.reads' {w : World} {v : Value} {xs : List UInt8} (h : OB w v xs) (hl : xs.length ≤ 140737488355328) : ∃ A c, v = .slice A xs.length c ∧ RB w A xs ∧ xs.length ≤ c ∧ (∀ a, A = some a → v.ownBlock = some a.block) := by
  rcases h.2 with ⟨rfl, h0⟩ | ⟨g, cap, cur, rfl, _, _, hc, _⟩
  · exact ⟨none, 0, by rw [h0], h.reads hl, by omega, fun a ha => by cases ha⟩
  · exact ⟨_, cap, rfl, h.reads hl, hc, fun a ha => by cases ha; rfl⟩

end Go.Proofs.Ytpbcpocheblbfaa
