/- Parts: Frames of records: plain Lean, no program. .. A region whose order of evaluation is drawn, in two phases: in the first (operations below m) a condition S on the world is kept; each operation of the second waits for all of the first. -/
import Derived.Test.YtdhafdejionefaaGreatM00
import Derived.WalkKit
import Derived.OrdersHeld
import Derived.Deep.RegionHeld3
/- Frames of records: plain Lean, no program. -/
namespace Go.Proofs.YtdhafdejionefaaGreat
set_option linter.unusedVariables false
set_option linter.unusedSimpArgs false

def putT (xs : List UInt8) : List UInt8 := putN xs.length ++ xs
def sum3 (c : Nat) : List UInt8 := [UInt8.ofNat (c / 65536), UInt8.ofNat (c / 256 % 256), UInt8.ofNat (c % 256)]
/-- A record's frame. -/
def frameB (k : UInt8) (xs : List UInt8) : List UInt8 := sum3 (crcS (k :: putT xs)).toNat ++ k :: putT xs
/-- The number of a record; 0: it is none. -/
def numberP (xs : List UInt8) : Int := if (numP xs).2.2 = 0 ∧ (numP xs).1 ≤ 1099511627776 ∧ (numP xs).2.1 = (xs.length : Int) then (numP xs).1 else 0
/-- A record that a frame can hold. -/
def okF (p : UInt8 × List UInt8) : Prop := (p.1 = 68 ∨ p.1 = 71) ∧ p.2.length ≤ 4194304 ∧ (p.1 = 71 → numberP p.2 ≠ 0)
/-- The first frame of bytes: its kind, its record, how many bytes it has. -/
def firstP (b : List UInt8) : Option (UInt8 × List UInt8 × Nat) :=
  match b with
  | x0 :: x1 :: x2 :: k :: b4 =>
    if k ≠ 68 ∧ k ≠ 71 then none
    else if (numP b4).2.2 ≠ 0 ∨ 4194304 < (numP b4).1 ∨ (b4.length : Int) - (numP b4).2.1 < (numP b4).1 then none
    else if (crcS (k :: b4.take ((numP b4).2.1.toNat + (numP b4).1.toNat))).toNat ≠ x0.toNat * 65536 + x1.toNat * 256 + x2.toNat then none
    else if k = 71 ∧ numberP ((b4.drop (numP b4).2.1.toNat).take (numP b4).1.toNat) = 0 then none
    else some (k, (b4.drop (numP b4).2.1.toNat).take (numP b4).1.toNat, 4 + (numP b4).2.1.toNat + (numP b4).1.toNat)
  | _ => none
theorem sum3_num (c : Nat) (h : c < 16777216) : (UInt8.ofNat (c / 65536)).toNat * 65536 + (UInt8.ofNat (c / 256 % 256)).toNat * 256 + (UInt8.ofNat (c % 256)).toNat = c := by
  have h1 : (UInt8.ofNat (c / 65536)).toNat = c / 65536 := by simp; omega
  have h2 : (UInt8.ofNat (c / 256 % 256)).toNat = c / 256 % 256 := by simp
  have h3 : (UInt8.ofNat (c % 256)).toNat = c % 256 := by simp
  rw [h1, h2, h3]
  omega
theorem sum3_inv (x0 x1 x2 : UInt8) : sum3 (x0.toNat * 65536 + x1.toNat * 256 + x2.toNat) = [x0, x1, x2] := by
  have h0 := x0.toNat_lt
  have h1 := x1.toNat_lt
  have h2 := x2.toNat_lt
  unfold sum3
  rw [show (x0.toNat * 65536 + x1.toNat * 256 + x2.toNat) / 65536 = x0.toNat by omega, show (x0.toNat * 65536 + x1.toNat * 256 + x2.toNat) / 256 % 256 = x1.toNat by omega, show (x0.toNat * 65536 + x1.toNat * 256 + x2.toNat) % 256 = x2.toNat by omega]
  simp
theorem putT_len (xs : List UInt8) : (putT xs).length = 1 + nbytes xs.length + xs.length := by unfold putT; rw [List.length_append, putN_len]
theorem frameB_len (k : UInt8) (xs : List UInt8) : (frameB k xs).length = 5 + nbytes xs.length + xs.length := by
  unfold frameB
  rw [List.length_append, List.length_cons, putT_len]
  simp [sum3]
  omega
theorem crcS_lt (xs : List UInt8) : (crcS xs).toNat < 16777216 := (crcS xs).isLt
theorem numP_text (xs r : List UInt8) (h : xs.length ≤ 4194304) : numP (putT xs ++ r) = ((xs.length : Int), 1 + (nbytes xs.length : Int), 0) := by
  unfold putT
  rw [List.append_assoc]
  exact numP_put xs.length (xs ++ r) (by omega)
/-- What stands in a frame is read. -/
theorem first_frame (k : UInt8) (xs r : List UInt8) (h : okF (k, xs)) : firstP (frameB k xs ++ r) = some (k, xs, (frameB k xs).length) := by
  obtain ⟨hk, hl, hn⟩ := h
  have hn : k = 71 → numberP xs ≠ 0 := hn
  have hk : k = 68 ∨ k = 71 := hk
  have hl : xs.length ≤ 4194304 := hl
  have e : frameB k xs ++ r = UInt8.ofNat ((crcS (k :: putT xs)).toNat / 65536) :: UInt8.ofNat ((crcS (k :: putT xs)).toNat / 256 % 256) :: UInt8.ofNat ((crcS (k :: putT xs)).toNat % 256) :: k :: (putT xs ++ r) := by
    unfold frameB sum3
    simp
  have hs : (1 + (nbytes xs.length : Int)).toNat = 1 + nbytes xs.length := by omega
  have hd : (putT xs ++ r).drop (1 + nbytes xs.length) = xs ++ r := by
    unfold putT
    rw [List.append_assoc, ← putN_len xs.length, List.drop_left]
  have ht : (putT xs ++ r).take (1 + nbytes xs.length + xs.length) = putT xs := by
    rw [← putT_len, List.take_left]
  rw [e, firstP]
  simp only [numP_text xs r hl, hs, Int.toNat_natCast, hd, ht, List.take_left]
  rw [if_neg (by rcases hk with rfl | rfl <;> simp), if_neg (by rw [List.length_append, putT_len]; omega), if_neg (by rw [sum3_num _ (crcS_lt _)]; simp), if_neg (fun ⟨h1, h2⟩ => hn h1 h2), frameB_len]
  congr 3
  omega
/-- What is read stands in a frame. -/
theorem first_inv {b : List UInt8} {k : UInt8} {xs : List UInt8} {n : Nat} (h : firstP b = some (k, xs, n)) : okF (k, xs) ∧ n = (frameB k xs).length ∧ ∃ r, b = frameB k xs ++ r := by
  match b with
  | x0 :: x1 :: x2 :: k' :: b4 =>
    rw [firstP] at h
    split at h
    · cases h
    · split at h
      · cases h
      · split at h
        · cases h
        · split at h
          · cases h
          · rename_i h1 h2 h3 h4
            have he : (numP b4).2.2 = 0 := Classical.byContradiction fun hh => h2 (.inl hh)
            obtain ⟨m, r, e1, e2, e3, e4⟩ := numP_inv (b := b4) (n := (numP b4).1) (s := (numP b4).2.1) (by rw [← he])
            have e2' : (numP b4).2.1.toNat = 1 + nbytes m := by rw [e2]; omega
            have e1' : (numP b4).1.toNat = m := by rw [e1]; omega
            rw [e1', e2'] at h h3 h4
            simp only [Option.some.injEq, Prod.mk.injEq] at h
            obtain ⟨rfl, rfl, rfl⟩ := h
            have hlen : b4.length = 1 + nbytes m + r.length := by rw [e3, List.length_append, putN_len]
            have hm : m ≤ r.length := by
              have : ¬ ((b4.length : Int) - (numP b4).2.1 < (numP b4).1) := fun hh => h2 (.inr (.inr hh))
              rw [e1, e2] at this
              omega
            have hdrop : b4.drop (1 + nbytes m) = r := by rw [e3, ← putN_len m, List.drop_left]
            rw [hdrop] at h4 ⊢
            have hxl : (r.take m).length = m := by rw [List.length_take]; omega
            have hput : putT (r.take m) = putN m ++ r.take m := by unfold putT; rw [hxl]
            have htk : b4.take (1 + nbytes m + m) = putT (r.take m) := by
              rw [hput, e3, ← putN_len m, List.take_length_add_append]
            have h5 : ¬ (4194304 < (numP b4).1) := fun hh => h2 (.inr (.inl hh))
            rw [e1] at h5
            rw [htk] at h3
            refine ⟨⟨?_, ?_, ?_⟩, ?_, r.drop m, ?_⟩
            · show k' = 68 ∨ k' = 71
              rcases Classical.em (k' = 68) with h6 | h6
              · exact .inl h6
              · exact .inr (Classical.byContradiction fun h7 => h1 ⟨h6, h7⟩)
            · show (r.take m).length ≤ 4194304
              omega
            · exact fun h6 h7 => h4 ⟨h6, h7⟩
            · rw [frameB_len, hxl]; omega
            · have h6 : (crcS (k' :: putT (r.take m))).toNat = x0.toNat * 65536 + x1.toNat * 256 + x2.toNat := Classical.byContradiction fun hh => h3 hh
              unfold frameB
              rw [h6, sum3_inv, hput, e3]
              simp
  | [] => simp [firstP] at h
  | [_] => simp [firstP] at h
  | [_, _] => simp [firstP] at h
  | [_, _, _] => simp [firstP] at h
/-- A frame that is cut short is none. -/
theorem first_cut (k : UInt8) (xs : List UInt8) (j : Nat) (h : okF (k, xs)) (hj : j < (frameB k xs).length) : firstP ((frameB k xs).take j) = none := by
  match hf : firstP ((frameB k xs).take j) with
  | none => rfl
  | some (k', ys, n) =>
    exfalso
    obtain ⟨ho, hn, r, hr⟩ := first_inv hf
    have h1 : frameB k xs = frameB k' ys ++ (r ++ (frameB k xs).drop j) := by
      rw [← List.append_assoc, ← hr, List.take_append_drop]
    have h2 := first_frame k xs [] h
    rw [List.append_nil, h1, first_frame k' ys _ ho] at h2
    simp only [Option.some.injEq, Prod.mk.injEq] at h2
    have h3 := congrArg List.length hr
    rw [List.length_take, List.length_append] at h3
    have h4 := congrArg List.length h1
    obtain ⟨rfl, rfl, _⟩ := h2
    omega
/-- Frames, one behind another. -/
def encs (l : List (UInt8 × List UInt8)) : List UInt8 := l.flatMap fun p => frameB p.1 p.2
theorem encs_nil : encs [] = [] := rfl
theorem encs_cons (p : UInt8 × List UInt8) (l : List (UInt8 × List UInt8)) : encs (p :: l) = frameB p.1 p.2 ++ encs l := by simp [encs]
theorem encs_append (l m : List (UInt8 × List UInt8)) : encs (l ++ m) = encs l ++ encs m := by simp [encs]
def framesN : Nat → List UInt8 → List (UInt8 × List UInt8)
  | 0, _ => []
  | f + 1, b =>
    match firstP b with
    | none => []
    | some (k, xs, n) => (k, xs) :: framesN f (b.drop n)
def framesP (b : List UInt8) : List (UInt8 × List UInt8) := framesN b.length b
/-- Bytes have frames, and behind them no more. -/
structure IsFrames (b : List UInt8) (l : List (UInt8 × List UInt8)) (r : List UInt8) : Prop where
  eq : b = encs l ++ r
  ok : ∀ p ∈ l, okF p
  no : firstP r = none
theorem framesN_is : ∀ (f : Nat) (b : List UInt8), b.length ≤ f → ∃ r, IsFrames b (framesN f b) r
  | 0, b, h => by
    have : b = [] := List.eq_nil_of_length_eq_zero (by omega)
    subst this
    exact ⟨[], rfl, (fun p hp => by cases hp), rfl⟩
  | f + 1, b, h => by
    rw [framesN]
    match hf : firstP b with
    | none => exact ⟨b, rfl, (fun p hp => by cases hp), hf⟩
    | some (k, xs, n) =>
      obtain ⟨ho, hn, r, hr⟩ := first_inv hf
      have hd : b.drop n = r := by rw [hn, hr, List.drop_left]
      have hl : 5 ≤ n := by rw [hn, frameB_len]; omega
      obtain ⟨r', h1, h2, h3⟩ := framesN_is f (b.drop n) (by rw [List.length_drop]; omega)
      refine ⟨r', ?_, ?_, h3⟩
      · simp only
        rw [encs_cons, List.append_assoc, ← h1, hd, hr]
      · intro p hp
        rcases List.mem_cons.1 hp with rfl | hp
        · exact ho
        · exact h2 p hp
theorem frames_is (b : List UInt8) : ∃ r, IsFrames b (framesP b) r := framesN_is b.length b (Nat.le_refl _)
/-- There is but one way. -/
theorem frames_one : ∀ (l m : List (UInt8 × List UInt8)) (r s : List UInt8), (∀ p ∈ l, okF p) → (∀ p ∈ m, okF p) → firstP r = none → firstP s = none → encs l ++ r = encs m ++ s → l = m ∧ r = s
  | [], [], r, s, _, _, _, _, h => ⟨rfl, by simpa using h⟩
  | [], p :: m, r, s, _, hm, hr, _, h => by
    exfalso
    rw [encs_nil, List.nil_append, encs_cons, List.append_assoc] at h
    rw [h, first_frame p.1 p.2 _ (hm p (List.mem_cons_self ..))] at hr
    cases hr
  | p :: l, [], r, s, hl, _, _, hs, h => by
    exfalso
    rw [encs_nil, List.nil_append, encs_cons, List.append_assoc] at h
    rw [← h, first_frame p.1 p.2 _ (hl p (List.mem_cons_self ..))] at hs
    cases hs
  | p :: l, q :: m, r, s, hl, hm, hr, hs, h => by
    rw [encs_cons, encs_cons, List.append_assoc, List.append_assoc] at h
    have h1 := first_frame p.1 p.2 (encs l ++ r) (hl p (List.mem_cons_self ..))
    rw [h, first_frame q.1 q.2 _ (hm q (List.mem_cons_self ..))] at h1
    simp only [Option.some.injEq, Prod.mk.injEq] at h1
    obtain ⟨e1, e2, _⟩ := h1
    have hpq : q = p := Prod.ext e1 e2
    subst hpq
    obtain ⟨h2, h3⟩ := frames_one l m r s (fun x hx => hl x (List.mem_cons_of_mem _ hx)) (fun x hx => hm x (List.mem_cons_of_mem _ hx)) hr hs (List.append_cancel_left h)
    exact ⟨by rw [h2], h3⟩
theorem IsFrames.frames {b : List UInt8} {l : List (UInt8 × List UInt8)} {r : List UInt8} (h : IsFrames b l r) : framesP b = l := by
  obtain ⟨r', h'⟩ := frames_is b
  exact (frames_one _ _ r' r h'.ok h.ok h'.no h.no (h'.eq.symm.trans h.eq)).1
theorem frames_encs (l : List (UInt8 × List UInt8)) (h : ∀ p ∈ l, okF p) : framesP (encs l) = l := IsFrames.frames ⟨(List.append_nil _).symm, h, rfl⟩
/-- A beginning of frames has a beginning of them. -/
theorem frames_take : ∀ (l : List (UInt8 × List UInt8)) (j : Nat), (∀ p ∈ l, okF p) → ∃ i, i ≤ l.length ∧ framesP ((encs l).take j) = l.take i ∧ (encs (l.take i)).length ≤ j ∧ (i < l.length → j < (encs (l.take (i + 1))).length)
  | [], j, _ => ⟨0, Nat.le_refl _, by simp [encs_nil, framesP, framesN], by simp [encs_nil], fun h => by simp at h⟩
  | p :: l, j, h => by
    have hp := h p (List.mem_cons_self ..)
    rcases Nat.lt_or_ge j (frameB p.1 p.2).length with hj | hj
    · refine ⟨0, Nat.zero_le _, ?_, by simp [encs_nil], fun _ => by simpa [encs_cons, encs_nil] using hj⟩
      rw [encs_cons, List.take_append_of_le_length (by omega)]
      exact IsFrames.frames ⟨rfl, (fun q hq => by cases hq), first_cut p.1 p.2 j hp hj⟩
    · obtain ⟨i, h1, h2, h3, h4⟩ := frames_take l (j - (frameB p.1 p.2).length) (fun q hq => h q (List.mem_cons_of_mem _ hq))
      refine ⟨i + 1, by simp; omega, ?_, ?_, ?_⟩
      · obtain ⟨r, hr⟩ := frames_is ((encs l).take (j - (frameB p.1 p.2).length))
        refine IsFrames.frames (r := r) ⟨?_, ?_, hr.no⟩
        · rw [encs_cons, List.take_append, List.take_of_length_le hj, hr.eq, h2, List.take_succ_cons, encs_cons, List.append_assoc]
        · intro q hq
          exact h q (List.mem_of_mem_take hq)
      · rw [List.take_succ_cons, encs_cons, List.length_append]; omega
      · intro hi
        have := h4 (by simpa using hi)
        rw [List.take_succ_cons, encs_cons, List.length_append]; omega

end Go.Proofs.YtdhafdejionefaaGreat

/- Words for blocks of memory: which block a call may have changed. -/
namespace Go.Proofs.YtdhafdejionefaaGreat
set_option linter.unusedVariables false
set_option linter.unusedSimpArgs false
open Go.RowKit

/-- Block b holds just these cells, none of them frozen. -/
def Blk (w : World) (b : Nat) (cs : Array Value) (t : TypeId) : Prop := w.heap[b]? = some (.cells cs t (0, 0))
/-- Old blocks outside F are as they were. -/
structure Fr (F : Nat → Prop) (w w' : World) : Prop where
  os : w'.os = w.os
  tape : w'.tape = w.tape
  output : w'.output = w.output
  size : w.heap.size ≤ w'.heap.size
  block : ∀ k, k < w.heap.size → ¬ F k → w'.heap[k]? = w.heap[k]?
theorem Fr.refl (F : Nat → Prop) (w : World) : Fr F w w := ⟨rfl, rfl, rfl, Nat.le_refl _, fun _ _ _ => rfl⟩
theorem Fr.of_below {F : Nat → Prop} {w w' : World} (h : Below w.heap.size w w') : Fr F w w' := ⟨h.os, h.tape, h.output, h.size, fun k hk _ => h.block k hk⟩
theorem Fr.trans {F G : Nat → Prop} {w w1 w2 : World} (h : Fr F w w1) (k : Fr G w1 w2) (hG : ∀ i, G i → F i ∨ w.heap.size ≤ i) : Fr F w w2 :=
  ⟨k.os.trans h.os, k.tape.trans h.tape, k.output.trans h.output, Nat.le_trans h.size k.size, fun i hi hF =>
    (k.block i (Nat.lt_of_lt_of_le hi h.size) (fun g => (hG i g).elim hF (fun h' => by omega))).trans (h.block i hi hF)⟩
theorem Fr.mono {F G : Nat → Prop} {w w' : World} (h : Fr F w w') (hFG : ∀ i, F i → G i ∨ w.heap.size ≤ i) : Fr G w w' :=
  ⟨h.os, h.tape, h.output, h.size, fun i hi hG => h.block i hi (fun f => (hFG i f).elim hG (fun h' => by omega))⟩
theorem Fr.below {F : Nat → Prop} {w0 w w' : World} (h0 : Below w0.heap.size w0 w) (h : Fr F w w') (hF : ∀ i, F i → w0.heap.size ≤ i) : Below w0.heap.size w0 w' :=
  h0.trans ⟨h.os, h.tape, h.output, h.size, fun i hi => h.block i (Nat.lt_of_lt_of_le hi h0.size) (fun f => by have := hF i f; omega)⟩
theorem Fr.belowSelf {F : Nat → Prop} {w w' : World} (h : Fr F w w') (hF : ∀ i, F i → w.heap.size ≤ i) : Below w.heap.size w w' := Fr.below (Below.refl _ _) h hF
theorem Fr.setCell (F : Nat → Prop) (w : World) (a : Addr) (v : Value) (h : F a.block) : Fr F w (w.setCell a v) :=
  ⟨rfl, rfl, rfl, by simp [World.setCell], fun k _ hk => heap_setCell_other w a k v (fun e => hk (e ▸ h))⟩
theorem Fr.alloc (F : Nat → Prop) (w : World) (o : Obj) : Fr F w (w.alloc o) := Fr.of_below ((Below.refl _ _).alloc (Nat.le_refl _) o)
theorem Fr.drew (F : Nat → Prop) (w : World) : Fr F w w.drew := Fr.of_below (Below.refl _ _).drew
theorem Fr.grown {F : Nat → Prop} {w w' : World} {row : Option Nat} (h : w.grownBy w' row) (hr : ∀ k, row = some k → F k) : Fr F w w' :=
  ⟨h.os, h.tape, h.output, h.size, fun k hk hF => h.block k hk (fun e => hF (hr k e.symm))⟩

theorem Blk.lt {w : World} {b : Nat} {cs : Array Value} {t : TypeId} (h : Blk w b cs t) : b < w.heap.size := (Array.getElem?_eq_some_iff.1 h).1
theorem Blk.cell {w : World} {b : Nat} {cs : Array Value} {t : TypeId} (h : Blk w b cs t) (i : Nat) : w.cell? ⟨b, i, none⟩ = cs[i]? := by
  unfold World.cell?
  rw [show w.heap[(⟨b, i, none⟩ : Addr).block]? = _ from h]
  rfl
theorem Blk.free {w : World} {b : Nat} {cs : Array Value} {t : TypeId} (h : Blk w b cs t) (i : Nat) : w.frozen? ⟨b, i, none⟩ = false := frozen_of_row w b i cs t h
theorem Blk.set {w : World} {b : Nat} {cs : Array Value} {t : TypeId} (h : Blk w b cs t) (i : Nat) (v : Value) : Blk (w.setCell ⟨b, i, none⟩ v) b (cs.setIfInBounds i v) t := heap_setCell_same w b i cs t v h
theorem Blk.setOther {w : World} {b : Nat} {cs : Array Value} {t : TypeId} (h : Blk w b cs t) (a : Addr) (v : Value) (hne : b ≠ a.block) : Blk (w.setCell a v) b cs t := (heap_setCell_other w a b v hne).trans h
theorem Blk.new (w : World) (cs : Array Value) (t : TypeId) : Blk (w.alloc (.cells cs t)) w.heap.size cs t := heap_alloc_new w _
theorem Blk.alloc {w : World} {b : Nat} {cs : Array Value} {t : TypeId} (h : Blk w b cs t) (o : Obj) : Blk (w.alloc o) b cs t := (Below.heap_alloc w o b h.lt).trans h
theorem Blk.drew {w : World} {b : Nat} {cs : Array Value} {t : TypeId} (h : Blk w b cs t) : Blk w.drew b cs t := h
theorem Blk.fr {F : Nat → Prop} {w w' : World} {b : Nat} {cs : Array Value} {t : TypeId} (h : Blk w b cs t) (hf : Fr F w w') (hb : ¬ F b) : Blk w' b cs t := (hf.block b h.lt hb).trans h
theorem Blk.below {w w' : World} {b : Nat} {cs : Array Value} {t : TypeId} (h : Blk w b cs t) (hf : Below w.heap.size w w') : Blk w' b cs t := (hf.block b h.lt).trans h
/-- Two blocks of unlike types are two. -/
theorem Blk.ne {w : World} {b b' : Nat} {cs cs' : Array Value} {t t' : TypeId} (h : Blk w b cs t) (h' : Blk w b' cs' t') (hne : t ≠ t') : b ≠ b' := by
  rintro rfl
  unfold Blk at h h'
  rw [h] at h'
  simp only [Option.some.injEq, Obj.cells.injEq] at h'
  exact hne h'.2.1
theorem OB.blk {w : World} {v : Value} {xs : List UInt8} (h : OB w v xs) (k : Nat) (hk : v.ownBlock = some k) : ∃ cs, Blk w k cs 5 := by
  rcases h.2 with ⟨rfl, _⟩ | ⟨g, cap, cur, rfl, _, hh, _⟩
  · simp [Value.ownBlock] at hk
  · simp [Value.ownBlock] at hk; subst hk; exact ⟨cur, hh⟩
/-- A block of another type than bytes is no row's. -/
theorem OB.ne {w : World} {v : Value} {xs : List UInt8} {b : Nat} {cs : Array Value} {t : TypeId} (h : OB w v xs) (hb : Blk w b cs t) (ht : t ≠ 5) : v.ownBlock ≠ some b := by
  intro e
  obtain ⟨cs', h'⟩ := h.blk b e
  exact Blk.ne hb h' ht rfl
theorem own_of_block {w w' : World} {e : TypeId} {v : Value} {n : Nat} {xs : List Value} (h : w.ownsRow 0 e 1 v n xs) (hb : ∀ k, v.ownBlock = some k → w'.heap[k]? = w.heap[k]?) : w'.ownsRow 0 e 1 v n xs := by
  refine ⟨h.1, ?_⟩
  rcases h.2 with h' | ⟨g, cap, cur, rfl, h1, hh, h2⟩
  · exact .inl h'
  · exact .inr ⟨g, cap, cur, rfl, h1, (hb g rfl).trans hh, h2⟩
theorem OB.fr {F : Nat → Prop} {w w' : World} {v : Value} {xs : List UInt8} (h : OB w v xs) (hf : Fr F w w') (hn : ∀ k, v.ownBlock = some k → ¬ F k) : OB w' v xs :=
  own_of_block h fun k hk => hf.block k (h.lt k hk) (hn k hk)
theorem OB.setOther {w : World} {v : Value} {xs : List UInt8} (h : OB w v xs) (a : Addr) (u : Value) (hne : v.ownBlock ≠ some a.block) : OB (w.setCell a u) v xs :=
  own_of_block h fun k hk => heap_setCell_other w a k u (fun e => hne (by rw [hk, e]))
theorem OB.alloc {w : World} {v : Value} {xs : List UInt8} (h : OB w v xs) (o : Obj) : OB (w.alloc o) v xs := h.below ((Below.refl _ _).alloc (Nat.le_refl _) o)
theorem OB.drew {w : World} {v : Value} {xs : List UInt8} (h : OB w v xs) : OB w.drew v xs := h
theorem RB.fr {F : Nat → Prop} {w w' : World} {A : Option Addr} {xs : List UInt8} (h : RB w A xs) (hf : Fr F w w') (hn : ∀ a, A = some a → ¬ F a.block) : RB w' A xs :=
  ⟨h.1, fun hx => by
    obtain ⟨b, off, e, hlt, hc⟩ := h.2 hx
    refine ⟨b, off, e, Nat.lt_of_lt_of_le hlt hf.size, fun j hj => ?_⟩
    rw [← hc j hj]
    exact World.cell?_of_block (a := ⟨b, off + j, none⟩) (hf.block b hlt (hn _ e))⟩
theorem OB.reads' {w : World} {v : Value} {xs : List UInt8} (h : OB w v xs) (hl : xs.length ≤ 140737488355328) : ∃ A c, v = .slice A xs.length c ∧ RB w A xs ∧ xs.length ≤ c ∧ (∀ a, A = some a → v.ownBlock = some a.block) := by
  rcases h.2 with ⟨rfl, h0⟩ | ⟨g, cap, cur, rfl, _, _, hc, _⟩
  · exact ⟨none, 0, by rw [h0], h.reads hl, by omega, fun a ha => by cases ha⟩
  · exact ⟨_, cap, rfl, h.reads hl, hc, fun a ha => by cases ha; rfl⟩

end Go.Proofs.YtdhafdejionefaaGreat

/- The tape's words, and the walks of its functions that change nothing. -/
namespace Go.Proofs.YtdhafdejionefaaGreat
set_option linter.unusedVariables false
set_option linter.unusedSimpArgs false
open Go.RowKit

/-- What a tape has. -/
structure TS where
  room : Int
  b0 : List UInt8
  b1 : List UInt8
  s0 : Nat
  s1 : Nat
  off : Bool
  plan : Option (Int × Int)
  ops : Int
  fails : Int
def TS.used (T : TS) : Nat := T.b0.length + T.b1.length
/-- The bounds of a tape. -/
structure TS.ok (T : TS) : Prop where
  s0 : T.s0 ≤ T.b0.length
  s1 : T.s1 ≤ T.b1.length
  fit : (T.used : Int) ≤ T.room
  room : T.room ≤ 1073741824
  left : ∀ l k, T.plan = some (l, k) → 0 ≤ l ∧ l ≤ 9223372036854775807
def tcells (T : TS) (v0 v1 : Value) (pv : Option Addr) : Array Value :=
  #[.bool true, .int .i64 T.room, v0, .int .i64 (T.s0 : Int), v1, .int .i64 (T.s1 : Int), .bool T.off, .pointer pv, .int .i64 T.ops, .int .i64 T.fails]
def PlanR (w : World) (F : Nat → Prop) : Option Addr → Option (Int × Int) → Prop
  | pv, none => pv = none
  | pv, some (l, k) => ∃ pb, pv = some ⟨pb, 0, none⟩ ∧ Blk w pb #[.int .i64 l, .int .i64 k] 90 ∧ F pb
/-- Block tb is a tape that has T; F holds all of its blocks. -/
structure TapeAt (w : World) (tb : Nat) (T : TS) (F : Nat → Prop) (v0 v1 : Value) (pv : Option Addr) : Prop where
  blk : Blk w tb (tcells T v0 v1 pv) 64
  o0 : OB w v0 T.b0
  o1 : OB w v1 T.b1
  pl : PlanR w F pv T.plan
  apart : ∀ k, v0.ownBlock = some k → v1.ownBlock ≠ some k
  ft : F tb
  f0 : ∀ k, v0.ownBlock = some k → F k
  f1 : ∀ k, v1.ownBlock = some k → F k
  flt : ∀ k, F k → k < w.heap.size
  wf : T.ok
def TapeR (w : World) (tb : Nat) (T : TS) (F : Nat → Prop) : Prop := ∃ v0 v1 pv, TapeAt w tb T F v0 v1 pv

theorem PlanR.of {w w' : World} {F F' : Nat → Prop} {pv : Option Addr} {pl : Option (Int × Int)} (h : PlanR w F pv pl) (hb : ∀ pb cs, pv = some ⟨pb, 0, none⟩ → F pb → Blk w pb cs 90 → Blk w' pb cs 90) (hF : ∀ k, F k → F' k) : PlanR w' F' pv pl := by
  match pl, h with
  | none, h => exact h
  | some (l, k), ⟨pb, e, hk, hf⟩ => exact ⟨pb, e, hb pb _ e hf hk, hF _ hf⟩
/-- A tape lives on where none of its blocks is touched. -/
theorem TapeAt.fr {w w' : World} {tb : Nat} {T : TS} {F G : Nat → Prop} {v0 v1 : Value} {pv : Option Addr} (h : TapeAt w tb T F v0 v1 pv) (hf : Fr G w w') (hG : ∀ k, F k → ¬ G k) : TapeAt w' tb T F v0 v1 pv :=
  ⟨h.blk.fr hf (hG _ h.ft), h.o0.fr hf (fun k hk => hG k (h.f0 k hk)), h.o1.fr hf (fun k hk => hG k (h.f1 k hk)), h.pl.of (fun pb cs _ hF hb => hb.fr hf (hG _ hF)) (fun _ h => h), h.apart, h.ft, h.f0, h.f1, fun k hk => Nat.lt_of_lt_of_le (h.flt k hk) hf.size, h.wf⟩
theorem TapeR.fr {w w' : World} {tb : Nat} {T : TS} {F G : Nat → Prop} (h : TapeR w tb T F) (hf : Fr G w w') (hG : ∀ k, F k → ¬ G k) : TapeR w' tb T F := by
  obtain ⟨v0, v1, pv, h⟩ := h; exact ⟨v0, v1, pv, h.fr hf hG⟩
theorem TapeR.below {w w' : World} {tb : Nat} {T : TS} {F : Nat → Prop} (h : TapeR w tb T F) (hf : Below w.heap.size w w') : TapeR w' tb T F := h.fr (Fr.of_below (F := fun _ => False) hf) (fun _ _ h => h)

/-! ### none, is, fault, size -/
theorem none_ok (tb : Nat) (w : World) (h0 : w.cell? ⟨tb, 0, none⟩ = some (.bool true)) :
    Calls Tryz.prog 52 #[.pointer (some ⟨tb, 0, none⟩)] w fun e w' => e = .returned (.bool false) ∧ w = w' := by
  go_enter Tryz.func52, Tryz.ntmps52
  go_wp2
  go_ret
  exact ⟨rfl, rfl⟩
theorem none_nil (w : World) :
    Calls Tryz.prog 52 #[.pointer none] w fun e w' => e = .returned (.bool true) ∧ w = w' := by
  go_enter Tryz.func52, Tryz.ntmps52
  go_wp2
  go_ret
  exact ⟨rfl, rfl⟩
theorem none_plain (tb : Nat) (w : World) (h0 : w.cell? ⟨tb, 0, none⟩ = some (.bool false)) :
    Calls Tryz.prog 52 #[.pointer (some ⟨tb, 0, none⟩)] w fun e w' => e = .returned (.bool true) ∧ w = w' := by
  go_enter Tryz.func52, Tryz.ntmps52
  go_wp2
  go_ret
  exact ⟨rfl, rfl⟩
/-- A pointer to no tape: nil, or one that no call made. -/
def NoTape (w : World) (p : Option Addr) : Prop := p = none ∨ ∃ tb, p = some ⟨tb, 0, none⟩ ∧ w.cell? ⟨tb, 0, none⟩ = some (.bool false)
theorem none_no (p : Option Addr) (w : World) (h : NoTape w p) :
    Calls Tryz.prog 52 #[.pointer p] w fun e w' => e = .returned (.bool true) ∧ w = w' := by
  rcases h with rfl | ⟨tb, rfl, h⟩
  · exact none_nil w
  · exact none_plain tb w h
def isArea (n : Int) : Bool := decide (0 ≤ n ∧ n < 2)
theorem is_yes (n : Int) (w : World) (h : n = 0 ∨ n = 1) : Calls Tryz.prog 65 #[.int .i64 n] w fun e w' => e = .returned (.bool true) ∧ w = w' := by
  rcases h with rfl | rfl
  all_goals
    go_enter Tryz.func65, Tryz.ntmps65
    go_wp2
    go_ret
    exact ⟨rfl, rfl⟩
theorem is_no (n : Int) (w : World) (h : ¬ (n = 0 ∨ n = 1)) : Calls Tryz.prog 65 #[.int .i64 n] w fun e w' => e = .returned (.bool false) ∧ w = w' := by
  by_cases h0 : 0 ≤ n
  · have h1 : ¬ n < 2 := by omega
    clear h
    go_enter Tryz.func65, Tryz.ntmps65
    go_wp2
    go_ret
    exact ⟨rfl, rfl⟩
  · clear h
    go_enter Tryz.func65, Tryz.ntmps65
    go_wp2
    go_ret
    exact ⟨rfl, rfl⟩
def faultN (off : Bool) (n : Int) : Int := if n = 0 ∨ n = 1 then (if off then 150 else 0) else 2
theorem fault_any (tb : Nat) (n : Int) (off : Bool) (w : World) (h0 : w.cell? ⟨tb, 0, none⟩ = some (.bool true)) (h6 : w.cell? ⟨tb, 6, none⟩ = some (.bool off)) :
    Calls Tryz.prog 50 #[.pointer (some ⟨tb, 0, none⟩), .int .i64 n] w fun e w' => e = .returned (.int .i64 (faultN off n)) ∧ w = w' := by
  by_cases hn : n = 0 ∨ n = 1
  · cases off with
    | false =>
      have hv : faultN false n = 0 := by simp [faultN, hn]
      have HV := Lib.hid hv
      have HN := Lib.hid hn
      clear hv hn
      go_enter Tryz.func50, Tryz.ntmps50
      go_wp2_with fail
      refine (none_ok tb w h0).mono ?_
      rintro e w' ⟨rfl, rfl⟩
      go_wp2_with fail
      refine (is_yes n w HN.out).mono ?_
      rintro e w' ⟨rfl, rfl⟩
      go_wp2
      go_ret
      exact ⟨ret_int HV.out.symm, rfl⟩
    | true =>
      have hv : faultN true n = 150 := by simp [faultN, hn]
      have HV := Lib.hid hv
      have HN := Lib.hid hn
      clear hv hn
      go_enter Tryz.func50, Tryz.ntmps50
      go_wp2_with fail
      refine (none_ok tb w h0).mono ?_
      rintro e w' ⟨rfl, rfl⟩
      go_wp2_with fail
      refine (is_yes n w HN.out).mono ?_
      rintro e w' ⟨rfl, rfl⟩
      go_wp2
      go_ret
      exact ⟨ret_int HV.out.symm, rfl⟩
  · have hv : faultN off n = _ := if_neg hn
    have HV := Lib.hid hv
    have HN := Lib.hid hn
    clear hv hn
    go_enter Tryz.func50, Tryz.ntmps50
    go_wp2_with fail
    refine (none_ok tb w h0).mono ?_
    rintro e w' ⟨rfl, rfl⟩
    go_wp2_with fail
    refine (is_no n w HN.out).mono ?_
    rintro e w' ⟨rfl, rfl⟩
    go_wp2
    go_ret
    exact ⟨ret_int HV.out.symm, rfl⟩
theorem fault_no (p : Option Addr) (n : Int) (w : World) (h : NoTape w p) :
    Calls Tryz.prog 50 #[.pointer p, .int .i64 n] w fun e w' => e = .returned (.int .i64 1) ∧ w = w' := by
  go_enter Tryz.func50, Tryz.ntmps50
  go_wp2_with fail
  refine (none_no p w h).mono ?_
  rintro e w' ⟨rfl, rfl⟩
  go_wp2
  go_ret
  exact ⟨rfl, rfl⟩
theorem size_any (b o : Nat) (A : Option Addr) (n c : Nat) (w : World) (h : w.cell? ⟨b, o, none⟩ = some (.slice A n c)) :
    Calls Tryz.prog 64 #[.pointer (some ⟨b, o, none⟩)] w fun e w' => e = .returned (.int .i64 (n : Int)) ∧ w = w' := by
  go_enter Tryz.func64, Tryz.ntmps64
  go_wp2
  go_ret
  exact ⟨rfl, rfl⟩

end Go.Proofs.YtdhafdejionefaaGreat

/- The walks of the tape's functions that read: Used, Sure, Counts, On, Read. -/
namespace Go.Proofs.YtdhafdejionefaaGreat
set_option linter.unusedVariables false
set_option linter.unusedSimpArgs false
open Go.RowKit

section
variable {w : World} {tb : Nat} {T : TS} {F : Nat → Prop} {v0 v1 : Value} {pv : Option Addr}
theorem TapeAt.c0 (h : TapeAt w tb T F v0 v1 pv) : w.cell? ⟨tb, 0, none⟩ = some (.bool true) := h.blk.cell 0
theorem TapeAt.c1 (h : TapeAt w tb T F v0 v1 pv) : w.cell? ⟨tb, 1, none⟩ = some (.int .i64 T.room) := h.blk.cell 1
theorem TapeAt.c2 (h : TapeAt w tb T F v0 v1 pv) : w.cell? ⟨tb, 2, none⟩ = some v0 := h.blk.cell 2
theorem TapeAt.c3 (h : TapeAt w tb T F v0 v1 pv) : w.cell? ⟨tb, 3, none⟩ = some (.int .i64 (T.s0 : Int)) := h.blk.cell 3
theorem TapeAt.c4 (h : TapeAt w tb T F v0 v1 pv) : w.cell? ⟨tb, 4, none⟩ = some v1 := h.blk.cell 4
theorem TapeAt.c5 (h : TapeAt w tb T F v0 v1 pv) : w.cell? ⟨tb, 5, none⟩ = some (.int .i64 (T.s1 : Int)) := h.blk.cell 5
theorem TapeAt.c6 (h : TapeAt w tb T F v0 v1 pv) : w.cell? ⟨tb, 6, none⟩ = some (.bool T.off) := h.blk.cell 6
theorem TapeAt.c7 (h : TapeAt w tb T F v0 v1 pv) : w.cell? ⟨tb, 7, none⟩ = some (.pointer pv) := h.blk.cell 7
theorem TapeAt.c8 (h : TapeAt w tb T F v0 v1 pv) : w.cell? ⟨tb, 8, none⟩ = some (.int .i64 T.ops) := h.blk.cell 8
theorem TapeAt.c9 (h : TapeAt w tb T F v0 v1 pv) : w.cell? ⟨tb, 9, none⟩ = some (.int .i64 T.fails) := h.blk.cell 9
theorem TapeAt.free (h : TapeAt w tb T F v0 v1 pv) (i : Nat) : w.frozen? ⟨tb, i, none⟩ = false := h.blk.free i
theorem TapeAt.len0 (h : TapeAt w tb T F v0 v1 pv) : T.b0.length ≤ 1073741824 := by
  have h1 := h.wf.fit; have h2 := h.wf.room; unfold TS.used at h1; omega
theorem TapeAt.len1 (h : TapeAt w tb T F v0 v1 pv) : T.b1.length ≤ 1073741824 := by
  have h1 := h.wf.fit; have h2 := h.wf.room; unfold TS.used at h1; omega
end

set_option maxHeartbeats 1000000 in
theorem used_cells (tb : Nat) (A0 A1 : Option Addr) (n0 n1 c0 c1 : Nat) (w : World) (h0 : w.cell? ⟨tb, 0, none⟩ = some (.bool true)) (h2 : w.cell? ⟨tb, 2, none⟩ = some (.slice A0 n0 c0)) (h4 : w.cell? ⟨tb, 4, none⟩ = some (.slice A1 n1 c1))
    (hn0 : n0 ≤ 1073741824) (hn1 : n1 ≤ 1073741824) :
    Calls Tryz.prog 39 #[.pointer (some ⟨tb, 0, none⟩)] w fun e w' => e = .returned (.int .i64 ((n0 + n1 : Nat) : Int)) ∧ w = w' := by
  go_enter Tryz.func39, Tryz.ntmps39
  go_wp2_with fail
  refine (none_ok tb w h0).mono ?_
  rintro e w' ⟨rfl, rfl⟩
  go_wp2_with fail
  refine wp_loop_rounds 3 ?_
  rw [rounds_succ]
  go_wp2_with fail
  refine (size_any tb 2 A0 n0 c0 w h2).mono ?_
  rintro e w' ⟨rfl, rfl⟩
  go_wp2_with fail
  rw [rounds_succ]
  go_wp2_with fail
  refine (size_any tb 4 A1 n1 c1 w h4).mono ?_
  rintro e w' ⟨rfl, rfl⟩
  go_wp2_with fail
  rw [rounds_succ]
  go_wp2_with fail
  go_ret
  exact ⟨ret_int (by omega), rfl⟩
theorem used_any (tb : Nat) (T : TS) (F : Nat → Prop) (w : World) (h : TapeR w tb T F) :
    Calls Tryz.prog 39 #[.pointer (some ⟨tb, 0, none⟩)] w fun e w' => e = .returned (.int .i64 (T.used : Int)) ∧ w = w' := by
  obtain ⟨v0, v1, pv, h⟩ := h
  obtain ⟨A0, c0, rfl⟩ := h.o0.form
  obtain ⟨A1, c1, rfl⟩ := h.o1.form
  exact used_cells tb A0 A1 _ _ c0 c1 w h.c0 h.c2 h.c4 h.len0 h.len1
theorem used_no (p : Option Addr) (w : World) (h : NoTape w p) :
    Calls Tryz.prog 39 #[.pointer p] w fun e w' => e = .returned (.int .i64 0) ∧ w = w' := by
  go_enter Tryz.func39, Tryz.ntmps39
  go_wp2_with fail
  refine (none_no p w h).mono ?_
  rintro e w' ⟨rfl, rfl⟩
  go_wp2
  go_ret
  exact ⟨rfl, rfl⟩

def TS.sure (T : TS) (n : Int) : Int := if n = 0 then (T.s0 : Int) else if n = 1 then (T.s1 : Int) else 0
theorem sure_any (tb : Nat) (n : Int) (T : TS) (F : Nat → Prop) (w : World) (h : TapeR w tb T F) :
    Calls Tryz.prog 43 #[.pointer (some ⟨tb, 0, none⟩), .int .i64 n] w fun e w' => e = .returned (.int .i64 (T.sure n)) ∧ w = w' := by
  obtain ⟨v0, v1, pv, h⟩ := h
  have h0 := h.c0
  by_cases hn : n = 0 ∨ n = 1
  · rcases hn with rfl | rfl
    · have hc := h.c3
      go_enter Tryz.func43, Tryz.ntmps43
      go_wp2_with fail
      refine (none_ok tb w h0).mono ?_
      rintro e w' ⟨rfl, rfl⟩
      go_wp2_with fail
      refine (is_yes 0 w (.inl rfl)).mono ?_
      rintro e w' ⟨rfl, rfl⟩
      go_wp2
      go_ret
      exact ⟨rfl, rfl⟩
    · have hc := h.c5
      go_enter Tryz.func43, Tryz.ntmps43
      go_wp2_with fail
      refine (none_ok tb w h0).mono ?_
      rintro e w' ⟨rfl, rfl⟩
      go_wp2_with fail
      refine (is_yes 1 w (.inr rfl)).mono ?_
      rintro e w' ⟨rfl, rfl⟩
      go_wp2
      go_ret
      exact ⟨rfl, rfl⟩
  · have HV := Lib.hid (show T.sure n = 0 by unfold TS.sure; rw [if_neg (by omega), if_neg (by omega)])
    have HN := Lib.hid hn
    clear hn
    go_enter Tryz.func43, Tryz.ntmps43
    go_wp2_with fail
    refine (none_ok tb w h0).mono ?_
    rintro e w' ⟨rfl, rfl⟩
    go_wp2_with fail
    refine (is_no n w HN.out).mono ?_
    rintro e w' ⟨rfl, rfl⟩
    go_wp2
    go_ret
    exact ⟨ret_int HV.out.symm, rfl⟩
theorem sure_no (p : Option Addr) (n : Int) (w : World) (h : NoTape w p) :
    Calls Tryz.prog 43 #[.pointer p, .int .i64 n] w fun e w' => e = .returned (.int .i64 0) ∧ w = w' := by
  go_enter Tryz.func43, Tryz.ntmps43
  go_wp2_with fail
  refine (none_no p w h).mono ?_
  rintro e w' ⟨rfl, rfl⟩
  go_wp2
  go_ret
  exact ⟨rfl, rfl⟩

theorem counts_any (tb : Nat) (T : TS) (F : Nat → Prop) (w : World) (h : TapeR w tb T F) :
    Calls Tryz.prog 37 #[.pointer (some ⟨tb, 0, none⟩)] w fun e w' => e = .returned (.tuple #[.int .i64 T.ops, .int .i64 T.fails]) ∧ ∃ n, w' = w.drewN n := by
  obtain ⟨v0, v1, pv, h⟩ := h
  have h0 := h.c0
  have h8 := h.c8
  have h9 := h.c9
  go_enter Tryz.func37, Tryz.ntmps37
  go_wp2_with fail
  refine (none_ok tb w h0).mono ?_
  rintro e w' ⟨rfl, rfl⟩
  go_wp2_with fail
  go_quiet (fail)
  go_wp2
  go_ret2
  exact ⟨rfl, _, rfl⟩
theorem counts_no (p : Option Addr) (w : World) (h : NoTape w p) :
    Calls Tryz.prog 37 #[.pointer p] w fun e w' => e = .returned (.tuple #[.int .i64 0, .int .i64 0]) ∧ w = w' := by
  go_enter Tryz.func37, Tryz.ntmps37
  go_wp2_with fail
  refine (none_no p w h).mono ?_
  rintro e w' ⟨rfl, rfl⟩
  go_wp2
  go_ret2
  exact ⟨rfl, rfl⟩
theorem on_any (tb : Nat) (T : TS) (F : Nat → Prop) (w : World) (h : TapeR w tb T F) :
    Calls Tryz.prog 38 #[.pointer (some ⟨tb, 0, none⟩)] w fun e w' => e = .returned (.bool (!T.off)) ∧ w = w' := by
  obtain ⟨v0, v1, pv, h⟩ := h
  have h0 := h.c0
  have h6 := h.c6
  go_enter Tryz.func38, Tryz.ntmps38
  go_wp2_with fail
  refine (none_ok tb w h0).mono ?_
  rintro e w' ⟨rfl, rfl⟩
  go_wp2
  go_ret
  exact ⟨rfl, rfl⟩
theorem on_no (p : Option Addr) (w : World) (h : NoTape w p) :
    Calls Tryz.prog 38 #[.pointer p] w fun e w' => e = .returned (.bool false) ∧ w = w' := by
  go_enter Tryz.func38, Tryz.ntmps38
  go_wp2_with fail
  refine (none_no p w h).mono ?_
  rintro e w' ⟨rfl, rfl⟩
  go_wp2
  go_ret
  exact ⟨rfl, rfl⟩

end Go.Proofs.YtdhafdejionefaaGreat

/- The walks of the tape's Read, Power, Arm, cut, gone, Fail. -/
namespace Go.Proofs.YtdhafdejionefaaGreat
set_option linter.unusedVariables false
set_option linter.unusedSimpArgs false
open Go.RowKit

/-- A fresh slice of bytes. -/
def Fresh (w w' : World) (v : Value) (xs : List UInt8) : Prop := OB w' v xs ∧ Below w.heap.size w w' ∧ ∀ k, v.ownBlock = some k → w.heap.size ≤ k
def TS.b (T : TS) (n : Int) : List UInt8 := if n = 0 then T.b0 else if n = 1 then T.b1 else []
set_option maxHeartbeats 1000000 in
theorem read_ok (tb : Nat) (n : Int) (T : TS) (F : Nat → Prop) (w : World) (h : TapeR w tb T F) (hn : n = 0 ∨ n = 1) (ho : T.off = false) :
    Calls Tryz.prog 41 #[.pointer (some ⟨tb, 0, none⟩), .int .i64 n] w fun e w' => ∃ v, e = .returned (.tuple #[v, .int .i64 0]) ∧ Fresh w w' v (T.b n) := by
  obtain ⟨v0, v1, pv, h⟩ := h
  have h0 := h.c0
  have h6 := h.c6
  rw [ho] at h6
  have HLO := Lib.hid (show OB (w.alloc (.cells #[] 5)) (.slice (some ⟨w.heap.size, 0, none⟩) 0 0) [] from OB.lit w [] _ rfl (by decide))
  rcases hn with rfl | rfl
  · obtain ⟨A, c, rfl, hr, _⟩ := h.o0.reads' (by have := h.len0; omega)
    have hc : (w.alloc (.cells #[] 5)).cell? ⟨tb, 2, none⟩ = some (.slice A T.b0.length c) := (h.blk.alloc _).cell 2
    have hl := h.len0
    have HR := Lib.hid (hr.below ((Below.refl w.heap.size w).alloc (Nat.le_refl _) (.cells #[] 5)))
    clear hr h
    go_enter Tryz.func41, Tryz.ntmps41
    go_wp2_with fail
    refine (fault_any tb 0 false w h0 h6).mono ?_
    rintro e w' ⟨rfl, rfl⟩
    rw [show faultN false 0 = 0 from rfl]
    go_wp2_with (at_builtin; refine wpList_append_b rfl (.tmp 13) (.tmp 21) rfl (.slice (some ⟨w.heap.size, 0, none⟩) 0 0) [] rfl HLO.out A c T.b0 rfl HR.out (by simp; omega) ?_; intro v' w1 HO hg hat)
    have HF := Lib.hid (clone_facts HO hg hat)
    clear HO hg hat
    go_ret2
    exact ⟨v', rfl, HF.out⟩
  · obtain ⟨A, c, rfl, hr, _⟩ := h.o1.reads' (by have := h.len1; omega)
    have hc : (w.alloc (.cells #[] 5)).cell? ⟨tb, 4, none⟩ = some (.slice A T.b1.length c) := (h.blk.alloc _).cell 4
    have hl := h.len1
    have HR := Lib.hid (hr.below ((Below.refl w.heap.size w).alloc (Nat.le_refl _) (.cells #[] 5)))
    clear hr h
    go_enter Tryz.func41, Tryz.ntmps41
    go_wp2_with fail
    refine (fault_any tb 1 false w h0 h6).mono ?_
    rintro e w' ⟨rfl, rfl⟩
    rw [show faultN false 1 = 0 from rfl]
    go_wp2_with (at_builtin; refine wpList_append_b rfl (.tmp 13) (.tmp 21) rfl (.slice (some ⟨w.heap.size, 0, none⟩) 0 0) [] rfl HLO.out A c T.b1 rfl HR.out (by simp; omega) ?_; intro v' w1 HO hg hat)
    have HF := Lib.hid (clone_facts HO hg hat)
    clear HO hg hat
    go_ret2
    exact ⟨v', rfl, HF.out⟩
theorem read_err (tb : Nat) (n : Int) (T : TS) (F : Nat → Prop) (w : World) (h : TapeR w tb T F) (hn : faultN T.off n ≠ 0) :
    Calls Tryz.prog 41 #[.pointer (some ⟨tb, 0, none⟩), .int .i64 n] w fun e w' => e = .returned (.tuple #[.slice none 0 0, .int .i64 (faultN T.off n)]) ∧ w = w' := by
  obtain ⟨v0, v1, pv, h⟩ := h
  have h0 := h.c0
  have h6 := h.c6
  obtain ⟨k, hk⟩ : ∃ k, k = faultN T.off n := ⟨_, rfl⟩
  have hne : (k != 0) = true := by rw [bne_iff_ne, hk]; exact hn
  rw [← hk]
  have HK := Lib.hid hk
  clear h hn hk
  go_enter Tryz.func41, Tryz.ntmps41
  go_wp2_with fail
  refine (fault_any tb n T.off w h0 h6).mono ?_
  rintro e w' ⟨rfl, rfl⟩
  rw [← HK.out]
  go_wp2
  go_ret2
  exact ⟨rfl, rfl⟩
theorem read_no (p : Option Addr) (n : Int) (w : World) (h : NoTape w p) :
    Calls Tryz.prog 41 #[.pointer p, .int .i64 n] w fun e w' => e = .returned (.tuple #[.slice none 0 0, .int .i64 1]) ∧ w = w' := by
  go_enter Tryz.func41, Tryz.ntmps41
  go_wp2_with fail
  refine (fault_no p n w h).mono ?_
  rintro e w' ⟨rfl, rfl⟩
  go_wp2
  go_ret2
  exact ⟨rfl, rfl⟩

/-- What a call leaves of an object whose blocks were F. -/
structure Upd (w w' : World) (F F' : Nat → Prop) : Prop where
  fr : Fr F w w'
  new : ∀ k, F' k → F k ∨ w.heap.size ≤ k
theorem Upd.refl (w : World) (F : Nat → Prop) : Upd w w F F := ⟨Fr.refl _ _, fun k h => .inl h⟩
theorem Upd.trans {w w1 w2 : World} {F F1 F2 : Nat → Prop} (h : Upd w w1 F F1) (k : Upd w1 w2 F1 F2) : Upd w w2 F F2 :=
  ⟨h.fr.trans k.fr h.new, fun i hi => (k.new i hi).elim (h.new i) (fun h' => .inr (Nat.le_trans h.fr.size h'))⟩
theorem Upd.of_below {w w' : World} {F : Nat → Prop} (h : Below w.heap.size w w') : Upd w w' F F := ⟨Fr.of_below h, fun k h => .inl h⟩

theorem NoTape.below {w w' : World} {p : Option Addr} (h : NoTape w p) (hb : Below w.heap.size w w') : NoTape w' p := by
  rcases h with rfl | ⟨tb, rfl, hc⟩
  · exact .inl rfl
  · exact .inr ⟨tb, rfl, (hb.cell (World.block_lt_of_cell? w _ hc)).trans hc⟩

theorem power_any (tb : Nat) (T : TS) (F : Nat → Prop) (w : World) (h : TapeR w tb T F) :
    Calls Tryz.prog 23 #[.pointer (some ⟨tb, 0, none⟩)] w fun e w' => e = .returned (.int .i64 0) ∧ TapeR w' tb { T with off := false } F ∧ Upd w w' F F := by
  obtain ⟨v0, v1, pv, h⟩ := h
  have h0 := h.c0
  have h6 := h.c6
  have g6 := h.free 6
  have H := Lib.hid h
  clear h
  go_enter Tryz.func23, Tryz.ntmps23
  go_wp2_with fail
  refine (none_ok tb w h0).mono ?_
  rintro e w' ⟨rfl, rfl⟩
  go_wp2
  go_ret
  have h := H.out
  have hF : F (⟨tb, 6, none⟩ : Addr).block := h.ft
  refine ⟨rfl, ⟨v0, v1, pv, ?_⟩, Fr.setCell F w _ _ hF, fun k h => .inl h⟩
  have n0 := h.o0.ne h.blk (by decide)
  have n1 := h.o1.ne h.blk (by decide)
  refine ⟨h.blk.set 6 _, h.o0.setOther _ _ n0, h.o1.setOther _ _ n1, h.pl.of (fun pb cs e hF hb => hb.setOther _ _ (Blk.ne hb h.blk (by decide))) (fun _ h => h), h.apart, h.ft, h.f0, h.f1, fun k hk => by simpa [World.setCell] using h.flt k hk, ⟨h.wf.s0, h.wf.s1, h.wf.fit, h.wf.room, h.wf.left⟩⟩

end Go.Proofs.YtdhafdejionefaaGreat

/- A region whose order of evaluation is drawn, in two phases: in the first (operations below m) a condition S on the world is kept; each operation of the second waits for all of the first. -/
namespace Go.Proofs.YtdhafdejionefaaGreat
set_option linter.unusedVariables false
set_option linter.unusedSimpArgs false

section
variable {P : Program} {ops : Array Oper} {Q : Exit → Act → World → Prop} {md : Region.Mode} {S : World → Prop} {m : Nat}

/-- Each operation from m on waits for number i. -/
def waits (md : Region.Mode) (ops : Array Oper) (m i : Nat) : Bool :=
  (List.range ops.size).all fun j => decide (j < m) || ((ops[j]?).map fun o => o.after.any fun e => Region.binds md e && e.on == i).getD true
theorem waits_spec {i : Nat} (h : waits md ops m i = true) {j : Nat} {oj : Oper} (hj : ops[j]? = some oj) (hjm : ¬ j < m) : ∃ e ∈ oj.after, Region.binds md e = true ∧ e.on = i := by
  have hlt := (Array.getElem?_eq_some_iff.1 hj).1
  have h2 := List.all_eq_true.1 h j (List.mem_range.2 hlt)
  simp only [hjm, decide_false, Bool.false_or] at h2
  rw [hj] at h2
  simp only [Option.map_some, Option.getD_some] at h2
  rw [← Array.any_toList, List.any_eq_true] at h2
  obtain ⟨e, he, h3⟩ := h2
  simp only [Bool.and_eq_true, beq_iff_eq] at h3
  exact ⟨e, by simpa using he, h3.1, h3.2⟩
/-- Whatever order is picked; every operation below m keeps S. -/
def wpAnyP (P : Program) (md : Region.Mode) (ops : Array Oper) (Q : Exit → Act → World → Prop) (S : World → Prop) (m : Nat) : Nat → Array Bool → Act → World → Prop
  | 0, listed, a, w => Region.ready md ops listed = [] ∧ Q .normal a w
  | fuel + 1, listed, a, w =>
    (Region.ready md ops listed = [] → Q .normal a w) ∧
    ∀ i ∈ Region.ready md ops listed, wpOp P ops Q i (fun a' w' => (i < m → S w → S w') ∧ wpAnyP P md ops Q S m fuel (listed.setIfInBounds i true) a' w') a w
theorem wpAny_of_phased : ∀ (fuel : Nat) (listed : Array Bool) (a : Act) (w : World), wpAnyP P md ops Q S m fuel listed a w → wpAny P md ops Q fuel listed a w
  | 0, _, _, _, h => h
  | fuel + 1, _, _, _, h => ⟨h.1, fun i hi => wpOp_mono (fun a' w' h' => wpAny_of_phased fuel _ a' w' h'.2) (h.2 i hi)⟩
theorem wpAnyP_first {b : Bool} {i : Nat} {oi : Oper} {v : Value} (hph : b = true → waits md ops m i = true) (hi : ops[i]? = some oi) (hsel : ∀ (j : Nat) (o : Oper) cs b, ops[j]? = some o → o.op ≠ .select cs b)
    (hQ : ∀ c a w, Q (.panic c) (a.put oi.dst v) w → Q (.panic c) a w) :
    ∀ (fuel : Nat) (listed : Array Bool) (a : Act) (w : World),
      (∀ j oj, ops[j]? = some oj → j ≠ i → listed.getD j true = false → (∀ e ∈ oj.after, Region.binds md e = true → e.on ≠ i) → oi.apart ops oj = true) →
      i ∈ Region.ready md ops listed → YieldsIf P ops (fun w => b = true → S w) oi v a → (b = true → S w) →
      wpAnyP P md ops Q S m fuel (listed.setIfInBounds i true) (a.put oi.dst v) w → wpAnyP P md ops Q S m (fuel + 1) listed a w := by
  intro fuel
  induction fuel with
  | zero =>
    intro listed a w _ hr hy hS H
    refine ⟨fun h => (by rw [h] at hr; cases hr), fun j hj => ?_⟩
    by_cases hji : j = i
    · subst hji; exact hy.wpOp hi hS ⟨fun _ h => h, H⟩
    · have := ready_mono hj hji
      rw [H.1] at this
      cases this
  | succ fuel ih =>
    intro listed a w hfree hr hy hS H
    refine ⟨fun h => (by rw [h] at hr; cases hr), fun j hj => ?_⟩
    by_cases hji : j = i
    · subst hji; exact hy.wpOp hi hS ⟨fun _ h => h, H⟩
    · have h1 := H.2 j (ready_mono hj hji)
      obtain ⟨hjun, oj, hoj, hall⟩ := mem_ready.1 hj
      have hnot : ∀ e ∈ oj.after, Region.binds md e = true → e.on ≠ i := fun e he hb heq => by
        have h1 := hall e he hb
        have h0 := (mem_ready.1 hr).1
        rw [heq] at h1
        rcases Nat.lt_or_ge i listed.size with h' | h'
        · simp [h'] at h0 h1; rw [h0] at h1; cases h1
        · simp [Array.getElem?_eq_none h'] at h1
      have hjm : b = true → j < m := fun him => Classical.byContradiction fun hjn => by
        obtain ⟨e, he, hb, heq⟩ := waits_spec (hph him) hoj hjn
        exact hnot e he hb heq
      have h2 := wpOp_putIf hoj (hfree j oj hoj hji hjun hnot) (fun cs b => hsel i oi cs b hi) (fun cs b => hsel j oj cs b hoj) hQ hy h1
      have hfree' : ∀ k ok, ops[k]? = some ok → k ≠ i → (listed.setIfInBounds j true).getD k true = false →
          (∀ e ∈ ok.after, Region.binds md e = true → e.on ≠ i) → oi.apart ops ok = true := fun k ok hk hki hun hno => by
        refine hfree k ok hk hki ?_ hno
        by_cases hjk : j = k
        · subst hjk; exact hjun
        · rw [getD_set_ne true hjk] at hun; exact hun
      refine wpOp_mono (fun a' w' h3 => ⟨h3.2.1, ih (listed.setIfInBounds j true) a' w' hfree' (ready_mono hr (Ne.symm hji)) h3.1 (fun him => h3.2.1 (hjm him) (hS him)) ?_⟩) h2
      rw [Array.setIfInBounds_comm _ _ hji]
      exact h3.2.2

theorem at_toArray {l : List Oper} {i : Nat} {o : Oper} (h : l[i]? = some o) : l.toArray[i]? = some o := by simpa using h
/-- Take number i first: it yields in whatever world. -/
theorem wpAnyP_pure {oi : Oper} {v : Value} {fuel : Nat} {listed : Array Bool} {a : Act} {w : World} (i : Nat) (hi : ops[i]? = some oi)
    (hs : Region.noSelect ops = true) (hf : Region.free md ops listed i = true) (hr : (Region.ready md ops listed).contains i = true)
    (hQ : ∀ c a w, Q (.panic c) (a.put oi.dst v) w → Q (.panic c) a w) (hy : Yields P ops oi v a)
    (h : wpAnyP P md ops Q S m fuel (listed.setIfInBounds i true) (a.put oi.dst v) w) : wpAnyP P md ops Q S m (fuel + 1) listed a w :=
  wpAnyP_first (b := false) (fun h => by cases h) hi (Region.noSelect_spec hs) hQ fuel listed a w (Region.free_spec hi hf) (by simpa using hr) hy.yieldsIf (fun h => by cases h) h
/-- Take number i first: it yields in every world that meets S. -/
theorem wpAnyP_load {oi : Oper} {v : Value} {fuel : Nat} {listed : Array Bool} {a : Act} {w : World} (i : Nat) (hw : waits md ops m i = true) (hi : ops[i]? = some oi)
    (hs : Region.noSelect ops = true) (hf : Region.free md ops listed i = true) (hr : (Region.ready md ops listed).contains i = true)
    (hQ : ∀ c a w, Q (.panic c) (a.put oi.dst v) w → Q (.panic c) a w) (hS : S w) (hy : YieldsIf P ops S oi v a)
    (h : wpAnyP P md ops Q S m fuel (listed.setIfInBounds i true) (a.put oi.dst v) w) : wpAnyP P md ops Q S m (fuel + 1) listed a w :=
  wpAnyP_first (b := true) (fun _ => hw) hi (Region.noSelect_spec hs) hQ fuel listed a w (Region.free_spec hi hf) (by simpa using hr) (hy.imp (fun ⟨h1, h2⟩ => ⟨h1, fun w hS => h2 w (hS rfl)⟩) id) (fun _ => hS) h
/-- The one that may come up comes up. -/
theorem wpAnyP_one {fuel : Nat} {listed : Array Bool} {a : Act} {w : World} (i : Nat) {o : Oper} (ho : ops[i]? = some o) (hr : Region.ready md ops listed = [i]) (hg : o.guard = none)
    (h : ∀ K : Act → World → Prop, Shut (∀ a' w', (i < m → S w → S w') → wpAnyP P md ops Q S m fuel (listed.setIfInBounds i true) a' w' → K a' w') → Oper.wp P o a w K Q) : wpAnyP P md ops Q S m (fuel + 1) listed a w := by
  refine ⟨fun h0 => (by rw [hr] at h0; cases h0), fun j hj => ?_⟩
  rw [hr] at hj
  obtain rfl : j = i := by simpa using hj
  unfold wpOp
  simp only [ho]
  rw [if_pos (by simp [Region.wanted, hg])]
  exact .inl (h _ (fun a' w' h1 h2 => ⟨h1, h2⟩))
/-- The same for a guarded one whose guard is met. -/
theorem wpAnyP_oneG {fuel : Nat} {listed : Array Bool} {a : Act} {w : World} (i : Nat) {o : Oper} (ho : ops[i]? = some o) (hr : Region.ready md ops listed = [i]) (hg : Region.wanted o (yielded ops a.tmps) = true)
    (h : ∀ K : Act → World → Prop, Shut (∀ a' w', (i < m → S w → S w') → wpAnyP P md ops Q S m fuel (listed.setIfInBounds i true) a' w' → K a' w') → Oper.wp P o a w K Q) : wpAnyP P md ops Q S m (fuel + 1) listed a w := by
  refine ⟨fun h0 => (by rw [hr] at h0; cases h0), fun j hj => ?_⟩
  rw [hr] at hj
  obtain rfl : j = i := by simpa using hj
  unfold wpOp
  simp only [ho]
  rw [if_pos hg]
  exact .inl (h _ (fun a' w' h1 h2 => ⟨h1, h2⟩))
theorem wpAnyP_done {listed : Array Bool} {a : Act} {w : World} (hr : Region.ready md ops listed = []) (h : Q .normal a w) :
    ∀ fuel, wpAnyP P md ops Q S m fuel listed a w
  | 0 => ⟨hr, h⟩
  | _ + 1 => ⟨fun _ => h, by rw [hr]; simp⟩
theorem wp_region_phased {id : Nat} {a : Act} {w : World} (S : World → Prop) (m : Nat) (hm : P.follows .mixedOrders = true) (hS : S w.drew)
    (h : S w.drew → wpAnyP P .any ops Q S m ops.size (Array.replicate ops.size false) a w.drew) : (Code.region id ops true).wp P Q a w :=
  wp_region_any hm (wpAny_of_phased _ _ _ _ (h hS))
end

end Go.Proofs.YtdhafdejionefaaGreat
