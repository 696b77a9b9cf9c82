/- A range over the frames of bytes: the law of the statement, where the iterator writes a variable of its own. -/
import Derived.RangeFuncNested
import Derived.RangeFuncBound
import Derived.RangeFuncCalls
import Derived.RangeFuncLeaves
import Derived.Shelf.Abstract
import Derived.Shelf.RegionOpen
import Derived.WalkKit
import Derived.OwnWalkIn
import Derived.TacticsInMore
import Derived.LoopNIn
import Derived.LoopIn
import Derived.Test.YtnkenkdglcmpdaaJouG
namespace Go.Proofs.Ytnkenkdglcmpdaa
set_option linter.unusedVariables false
set_option linter.unusedSimpArgs false
open Go.RowKit

theorem Fr.put {F : Nat → Prop} (W : World) (l : Nat) (o : Obj) (h : F l) : Fr F W (W.putObj l o) :=
  Fr.grown (grownBy_putObj' W l o) (fun k hk => by cases hk; exact h)
/-- What is asked of a round: it goes on, J has one frame more, and nothing but G's blocks is written. -/
def RoundC (l : Nat) (G : Nat → Prop) (J : List (UInt8 × List UInt8) → World → Prop) (xs : List (UInt8 × List UInt8)) (base : Nat) : Prop :=
  ∀ (pre : List (UInt8 × List UInt8)) (k : UInt8) (ys : List UInt8) (A : Option Addr) (c : Nat) (W0 W1 : World), J pre W0 → Below W0.heap.size W0 W1 → base ≤ W0.heap.size → RB W1 A ys → ys.length ≤ c → (∀ a, A = some a → 0 < ys.length → W0.heap.size ≤ a.block) → pre ++ [(k, ys)] <+: xs →
    YieldAt Fence.wide 3 Try.prog l #[.int .u8 (k.toNat : Int), .slice A ys.length c] W1 fun e W' => e = .returned (.bool true) ∧ J (pre ++ [(k, ys)]) W' ∧ Fr G W1 W'
/-- The statement 'for kind, rec := range all(b)', of which no round leaves. -/
theorem wp_rangeFunc_c {g : Operand} {ps : Array Tmp} {assign body : Code} {Q : Exit → Act → World → Prop} {a : Act} {w : World} {gf : Nat} {lb : Array Value}
    (hg : a.eval g = .func (.func gf) #[] lb) (eg : ∀ args w, (callFunc gf args).run Try.prog w = .ok (.enter gf args) w) (hps : ps.size = 2)
    (Bn : Nat) (hBn : Bn < w.heap.size) (G : Nat → Prop) (hG : ∀ i, G i → i ≠ w.heap.size ∧ i ≠ w.heap.size + 1) (xs : List (UInt8 × List UInt8))
    (hseq : ∀ (l : Nat) (J : List (UInt8 × List UInt8) → World → Prop) (W : World), Below w.heap.size w W → w.heap.size + 2 ≤ W.heap.size → (∀ pre W W', J pre W → Fr (fun k => k = Bn) W W' → J pre W') → RoundC l (fun i => G i ∨ i = w.heap.size + 1) J xs W.heap.size → J [] W →
      Calls Try.prog gf (#[.func (.yield l) #[] #[]] ++ lb) W fun e W' => (∃ v, e = .returned v) ∧ J xs W')
    (I : List (UInt8 × List UInt8) → World → Prop)
    (hI : ∀ pre W W', I pre W → Fr (fun k => k = Bn ∨ k = w.heap.size ∨ k = w.heap.size + 1) W W' → I pre W')
    (h0 : I [] w) (a₁ : UInt8 → List UInt8 → Option Addr → Nat → Act)
    (hassign : ∀ (l : Nat) (k : UInt8) (ys : List UInt8) (A : Option Addr) (c : Nat) (W : World) (K : Act → World → Prop), K (a₁ k ys A c) W →
      assign.wpIn (Fence.wide.inRound l) 3 Try.prog (Exit.then K (fun _ _ _ => False)) { tmps := (ps.zip #[.int .u8 (k.toNat : Int), .slice A ys.length c]).foldl (fun t (p, v) => t.setIfInBounds p v) a.tmps, defers := [] } W)
    (hbody : ∀ (l : Nat) (pre : List (UInt8 × List UInt8)) (k : UInt8) (ys : List UInt8) (A : Option Addr) (c : Nat) (W0 W : World), I pre W0 → Fr (fun k => k = w.heap.size + 1) W0 W → w.heap.size + 2 ≤ W0.heap.size → RB W A ys → ys.length ≤ c → (∀ a, A = some a → 0 < ys.length → W0.heap.size ≤ a.block) → pre ++ [(k, ys)] <+: xs →
      body.wpIn (Fence.wide.inRound l) 3 Try.prog (fun e _ W' => e = .normal ∧ Fr G W W' ∧ I (pre ++ [(k, ys)]) W') (a₁ k ys A c) W)
    (hdone : ∀ W, I xs W → W.heap[w.heap.size]? = some (.deferred (some [])) → Q .normal { a with defers := { target := .collected w.heap.size, args := #[] } :: a.defers } W) :
    (Code.rangeFunc g ps assign body).wp Try.prog Q a w := by
  refine (wpIn_wide (n := 4)).1 (wpIn_rangeFunc ?_)
  intro fn hfn
  obtain ⟨rec, hrec⟩ : ∃ rec : LoopState → Loop, rec = fun st => { state := st, pending := none, fn, tmps := a.tmps, params := ps, assign, body, defers := w.heap.size } := ⟨_, rfl⟩
  obtain ⟨W1, hW1⟩ : ∃ W1, (w.alloc (.deferred (some []))).alloc (.loop (rec .ready)) = W1 := ⟨_, rfl⟩
  have hL1 : W1.heap[w.heap.size + 1]? = some (.loop (rec .ready)) := by
    rw [← hW1]; have := World.alloc_heap_new (w.alloc (.deferred (some []))) (.loop (rec .ready)); rwa [World.size_alloc] at this
  have hK1 : W1.heap[w.heap.size]? = some (.deferred (some [])) := by
    rw [← hW1]; exact (Below.heap_alloc _ _ _ (by simp)).trans (World.alloc_heap_new w _)
  have hb1 : Below w.heap.size w W1 := by
    rw [← hW1]; exact ((Below.refl _ w).alloc (Nat.le_refl _) _).alloc (by simp) _
  have hI1 : I [] W1 := hI [] w W1 h0 (Fr.of_below hb1)
  have hs1 : W1.heap.size = w.heap.size + 2 := by rw [← hW1]; simp
  refine ⟨w.heap.size + 1, [{ target := .collected w.heap.size, args := #[] }], W1, { target := .fn (.func gf) lb, args := #[.func (.yield (w.heap.size + 1)) #[] #[]] }, W1, gf,
    #[.func (.yield (w.heap.size + 1)) #[] #[]] ++ lb, W1, ?_, ?_, ?_, ?_, ?_, ?_⟩
  · rw [← hW1, hrec]; exact run_enterLoop_outer _ _ _ _ _
  · simp only [resolve, hg]
    simp [go_sem]
  · intro f' hf'; trivial
  · simp [invoke, go_sem, eg]
  · intro h; simp [Fence.wide] at h
  · refine callsIn_wide.2 ((hseq (w.heap.size + 1) (fun pre W => I pre W ∧ W.heap[w.heap.size + 1]? = some (.loop (rec .ready)) ∧ W.heap[w.heap.size]? = some (.deferred (some []))) W1 hb1 (by omega) ?_ ?_ ⟨hI1, hL1, hK1⟩).mono ?_)
    · rintro pre W W' ⟨hi, hl, hk⟩ hf
      have l1 := (Array.getElem?_eq_some_iff.1 hl).1
      have l2 := (Array.getElem?_eq_some_iff.1 hk).1
      exact ⟨hI pre W W' hi (hf.mono fun i h => .inl (.inl h)), (hf.block _ l1 (by omega)).trans hl, (hf.block _ l2 (by omega)).trans hk⟩
    · rintro pre k ys A c W0 W ⟨hi, hl0, hk0⟩ hb0 hba hr hc hA hpre
      rw [hs1] at hba
      have hl : W.heap[w.heap.size + 1]? = some (.loop (rec .ready)) := (hb0.block _ (by omega)).trans hl0
      have hk : W.heap[w.heap.size]? = some (.deferred (some [])) := (hb0.block _ (by omega)).trans hk0
      have l1 := (Array.getElem?_eq_some_iff.1 hl).1
      have hy := run_yield (P := Try.prog) (args := #[.int .u8 (k.toNat : Int), .slice A ys.length c]) hl (by rw [hrec]; exact hps.symm)
      rw [hrec] at hy
      refine ⟨fn, _, assign, body, hy, roundIn_of_wpIn hfn ?_⟩
      refine hassign _ k ys A c W _ ?_
      refine ⟨_, run_beginRound hl (by rw [hrec]), ?_⟩
      obtain ⟨W2, hW2⟩ : ∃ W2, W2 = W.putObj (w.heap.size + 1) (.loop { rec .ready with state := .busy }) := ⟨_, rfl⟩
      rw [← hW2]
      have hf2 : Fr (fun i => i = w.heap.size + 1) W W2 := by rw [hW2]; exact Fr.put W _ _ rfl
      have hl2 : W2.heap[w.heap.size + 1]? = some (.loop { rec .ready with state := .busy }) := by rw [hW2]; exact World.putObj_heap_same l1
      have hk2 : W2.heap[w.heap.size]? = some (.deferred (some [])) := by rw [hW2]; exact (World.putObj_heap_other (by omega)).trans hk
      refine wpIn_mono (hbody _ pre k ys A c W0 W2 hi ((Fr.of_below hb0).trans hf2 fun i h => .inl h) hba (hr.fr2 hf2 fun a ha h0 => by have := hA a ha h0; omega) hc hA hpre) ?_
      rintro e a3 W3 ⟨rfl, hf3, hi3⟩
      have l2 := (Array.getElem?_eq_some_iff.1 hl2).1
      have hl3 : W3.heap[w.heap.size + 1]? = some (.loop { rec .ready with state := .busy }) := (hf3.block _ l2 (fun h => (hG _ h).2 rfl)).trans hl2
      have hk3 : W3.heap[w.heap.size]? = some (.deferred (some [])) := (hf3.block _ (Array.getElem?_eq_some_iff.1 hk2).1 (fun h => (hG _ h).1 rfl)).trans hk2
      have hend := run_endRound (P := Try.prog) none hl3
      have hf4 : Fr (fun i => i = w.heap.size + 1) W3 (W3.putObj (w.heap.size + 1) (.loop (rec .ready))) := Fr.put W3 _ _ rfl
      refine ⟨_, _, hend, rfl, ⟨hI _ _ _ hi3 (by rw [hrec] at hf4 ⊢; exact hf4.mono fun i h => .inl (.inr (.inr h))), ?_, ?_⟩, ?_⟩
      · rw [hrec]; exact World.putObj_heap_same (Array.getElem?_eq_some_iff.1 hl3).1
      · exact (World.putObj_heap_other (by omega)).trans hk3
      · have h5 : Fr (fun i => G i ∨ i = w.heap.size + 1) W W3 := (hf2.mono fun i h => .inl (.inr h)).trans hf3 fun i h => .inl (.inl h)
        rw [hrec] at hf4 ⊢
        exact h5.trans hf4 fun i h => .inl (.inr h)
    · rintro e W2 ⟨⟨v, rfl⟩, hi, hl, hk⟩
      have l1 := (Array.getElem?_eq_some_iff.1 hl).1
      refine ⟨none, _, by have := run_endLoop (P := Try.prog) hl (by rw [hrec]; simp); rw [hrec] at this; exact this, hdone _ (hI _ _ _ hi (Fr.put W2 _ _ (.inr (.inr rfl)))) ((World.putObj_heap_other (by omega)).trans hk)⟩

end Go.Proofs.Ytnkenkdglcmpdaa
