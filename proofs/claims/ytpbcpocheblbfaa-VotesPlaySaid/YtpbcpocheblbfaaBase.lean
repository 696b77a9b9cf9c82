/- Words for bytes in memory, over any program: a slice that reads as a list of bytes; worlds that differ below a block in nothing. -/
import Derived.Test.YtpbcpocheblbfaaProg
import Derived.WalkKit
import Derived.WalkSpells
import Derived.WalkLawsBesides
import Derived.Deep.RegionHeld3
import Derived.Deep.RegionWith
import Derived.Deep.QuietTactic
import Derived.BigQuiet
import Derived.Lib.Hide
import Derived.Maps.AppendAt
namespace Go.Proofs.Ytpbcpocheblbfaa
set_option linter.unusedVariables false
set_option linter.unusedSimpArgs false
open Go.RowKit

theorem ret_val {v v' : Value} (h : v = v') : Ending.returned v = Ending.returned v' := by rw [h]
theorem ret_int {k : IntKind} {a b : Int} (h : a = b) : Ending.returned (.int k a) = .returned (.int k b) := by rw [h]
theorem val_int {k : IntKind} {a b : Int} (h : a = b) : Value.int k a = .int k b := by rw [h]
theorem ret_bool {a b : Bool} (h : a = b) : Ending.returned (.bool a) = .returned (.bool b) := by rw [h]
theorem below_then {B : Nat} {w w1 w2 : World} (h : Below B w w1) (hB : B ≤ w1.heap.size) (k : Below w1.heap.size w1 w2) : Below B w w2 :=
  h.trans ⟨k.os, k.tape, k.output, k.size, fun i hi => k.block i (Nat.lt_of_lt_of_le hi hB)⟩
theorem below_step {w0 w w2 : World} (h : Below w0.heap.size w0 w) (k : Below w.heap.size w w2) : Below w0.heap.size w0 w2 := below_then h h.size k
theorem keepOne {w W w' : World} {p : Addr} {v : Value} (h : Below w.heap.size w W ∧ W.cell? p = some v ∧ W.frozen? p = false) (hb : Below W.heap.size W w') : Below w.heap.size w w' ∧ w'.cell? p = some v ∧ w'.frozen? p = false := by
  have hlt := World.block_lt_of_cell? W p h.2.1
  exact ⟨below_then h.1 h.1.size hb, (hb.cell hlt).trans h.2.1, (hb.frozen hlt).trans h.2.2⟩

/-- A slice of bytes that reads as xs; of an empty one nothing is known. -/
def RB (w : World) (A : Option Addr) (xs : List UInt8) : Prop :=
  xs.length ≤ 140737488355328 ∧ (0 < xs.length → ∃ b off, A = some ⟨b, off, none⟩ ∧ b < w.heap.size ∧ ∀ j, j < xs.length → w.cell? ⟨b, off + j, none⟩ = some (.int .u8 ((xs.getD j 0).toNat : Int)))
theorem RB.below {w w1 : World} {A : Option Addr} {xs : List UInt8} (h : RB w A xs) (hb : Below w.heap.size w w1) : RB w1 A xs :=
  ⟨h.1, fun hn => by
    obtain ⟨b, off, e, hlt, hc⟩ := h.2 hn
    exact ⟨b, off, e, Nat.lt_of_lt_of_le hlt hb.size, fun j hj => (hb.cell (p := ⟨b, off + j, none⟩) hlt).trans (hc j hj)⟩⟩
theorem RB.nil (w : World) (A : Option Addr) : RB w A [] := ⟨by simp, fun h => absurd h (by simp)⟩
/-- Its first bytes; what lies behind some of them. -/
theorem RB.take {w : World} {A : Option Addr} {xs : List UInt8} (h : RB w A xs) (k : Nat) : RB w A (xs.take k) := by
  refine ⟨by have := h.1; simp; omega, fun hn => ?_⟩
  have hn' : 0 < xs.length := by simp at hn; omega
  obtain ⟨b, off, e, hlt, hc⟩ := h.2 hn'
  refine ⟨b, off, e, hlt, fun j hj => ?_⟩
  have : j < k ∧ j < xs.length := by simp at hj; omega
  rw [hc j this.2]
  simp [List.getD_eq_getElem?_getD, List.getElem?_take, this.1]
theorem RB.drop {w : World} {b off : Nat} {xs : List UInt8} (h : RB w (some ⟨b, off, none⟩) xs) (k : Nat) : RB w (some ⟨b, off + k, none⟩) (xs.drop k) := by
  refine ⟨by have := h.1; simp; omega, fun hn => ?_⟩
  have hn' : k < xs.length := by simp at hn; omega
  obtain ⟨b', off', e, hlt, hc⟩ := h.2 (by omega)
  obtain ⟨rfl, rfl⟩ : b' = b ∧ off' = off := by simp at e; exact ⟨e.1.symm, e.2.symm⟩
  refine ⟨b', off' + k, rfl, hlt, fun j hj => ?_⟩
  have : k + j < xs.length := by simp at hj; omega
  rw [Nat.add_assoc, hc (k + j) this]
  simp [List.getD_eq_getElem?_getD, List.getElem?_drop]

theorem setOne {w0 w w2 : World} {p : Addr} {v0 : Value} (v : Value) (h : Below w0.heap.size w0 w) (hp : w0.heap.size ≤ p.block) (hc : w.cell? p = some v0) (hf : w.frozen? p = false) (hb : Below w.heap.size w w2) :
    Below w0.heap.size w0 (w2.setCell p v) ∧ (w2.setCell p v).cell? p = some v ∧ (w2.setCell p v).frozen? p = false := by
  have hlt := World.block_lt_of_cell? w p hc
  have h2 : w2.cell? p = some v0 := (hb.cell hlt).trans hc
  have h3 : w2.frozen? p = false := (hb.frozen hlt).trans hf
  exact ⟨(below_step h hb).setCell hp v, World.cell?_setCell_same w2 p v h2, by simpa using h3⟩

/-- Bytes as cells. -/
def bv (xs : List UInt8) : List Value := xs.map fun x => .int .u8 (x.toNat : Int)
theorem bv_length (xs : List UInt8) : (bv xs).length = xs.length := by simp [bv]
theorem bv_append (xs ys : List UInt8) : bv (xs ++ ys) = bv xs ++ bv ys := by simp [bv]
theorem bv_get (xs : List UInt8) (j : Nat) (h : j < xs.length) : (bv xs)[j]? = some (.int .u8 ((xs.getD j 0).toNat : Int)) := by
  simp [bv, h]
theorem cell_alloc_any (w : World) (cs : Array Value) (t : TypeId) (fr : Nat × Nat) (i : Nat) : (w.alloc (.cells cs t fr)).cell? ⟨w.heap.size, i, none⟩ = cs[i]? := by
  have h := heap_alloc_new w (.cells cs t fr)
  unfold World.cell?
  rw [h]
  rfl
/-- A new block of bytes. -/
theorem RB.fresh (w : World) (xs : List UInt8) (more : List Value) (t : TypeId) (fr : Nat × Nat) (hl : xs.length ≤ 140737488355328) {cs : Array Value} (hcs : cs = (bv xs ++ more).toArray) :
    RB (w.alloc (.cells cs t fr)) (some ⟨w.heap.size, 0, none⟩) xs := by
  subst hcs
  refine ⟨hl, fun _ => ⟨w.heap.size, 0, rfl, by simp, fun j hj => ?_⟩⟩
  rw [Nat.zero_add, cell_alloc_any]
  simp only [List.getElem?_toArray]
  rw [List.getElem?_append_left (by rw [bv_length]; exact hj), bv_get xs j hj]

/-! ### append, whatever is appended (nil, empty, any) -/
section
variable {P : Program}
theorem run_append_any (w : World) (t ty e : TypeId) (z : Value) (bytes : Nat) (ht : P.underlying t = some (.slice e))
    (hinfo : (P.info? e).map (fun i => (i.zero, i.size, i.bytes)) = some (some z, 1, bytes)) (hz : z.cells.size = 1) (hb0 : 0 < bytes)
    (v : Value) (n : Nat) (xs : List Value) (HO : w.ownsRow 0 e 1 v n xs) (A : Option Addr) (m c : Nat) (news : List Value) (hl : news.length = m)
    (hr : 0 < m → ∃ ad, A = some ad ∧ ∀ j u, news[j]? = some u → w.cell? (ad.add j) = some u) (h1 : ∀ u ∈ news, u.oneCell' = true) (hb : (n + m) * bytes ≤ 140737488355328) :
    ∃ v' w', (Builtin.append_ #[t, t] ty #[v, .slice A m c]).run P w = .ok v' w' ∧ w'.ownsRow 0 e 1 v' (n + m) (xs ++ news) ∧ w.grownBy w' v.ownBlock ∧ (v'.ownBlock = v.ownBlock ∨ v'.ownBlock = some w.heap.size) := by
  obtain ⟨i, hi, hzz⟩ := Option.map_eq_some_iff.1 hinfo
  simp only [Prod.mk.injEq] at hzz
  obtain ⟨hz0, hz1, hz2⟩ := hzz
  have hlen : n + m ≤ 140737488355328 := Nat.le_trans (Nat.le_mul_of_pos_right _ hb0) hb
  have some_ : ∀ ad : Addr, (∀ j u, news[j]? = some u → w.cell? (ad.add j) = some u) → ∃ v' w', (Builtin.append_ #[t, t] ty #[v, .slice (some ad) m c]).run P w = .ok v' w' ∧ w'.ownsRow 0 e 1 v' (n + m) (xs ++ news) ∧ w.grownBy w' v.ownBlock ∧ (v'.ownBlock = v.ownBlock ∨ v'.ownBlock = some w.heap.size) := by
    intro ad hc
    obtain ⟨v', w', hrun, r1, r2, _, r4⟩ := run_append_own_at (P := P) w 0 t ty e i z 1 bytes ht hi hz0 hz1 hz2 hz (by omega) v n xs HO ad m c news (by omega) hc h1 (by simp only [maxLen]; omega) hb (Nat.zero_le _)
    exact ⟨v', w', hrun, r1, r2, r4⟩
  rcases Nat.eq_zero_or_pos m with h0 | h0
  · subst h0
    obtain rfl : news = [] := List.eq_nil_of_length_eq_zero hl
    cases A with
    | some ad => exact some_ ad (fun j u h => by simp at h)
    | none =>
      refine ⟨v, w, ?_, by simpa using HO, ⟨rfl, rfl, rfl, Nat.le_refl _, fun _ _ _ => rfl⟩, .inl rfl⟩
      rcases HO.2 with ⟨rfl, rfl⟩ | ⟨g, cap, cur, rfl, _, _, hnc, _⟩
      · simp [Builtin.append_, run_underlying ht, sizeOf, typeInfo, hi, Builtin.lenOf, Builtin.firstCells]
      · simp [Builtin.append_, run_underlying ht, sizeOf, typeInfo, hi, Builtin.lenOf, Builtin.firstCells, hnc, storeCells]
  · obtain ⟨ad, rfl, hc⟩ := hr h0
    exact some_ ad hc

theorem wp_append_any {w : World} {o : Oper} {a : Act} {K : Act → World → Prop} {Q : Exit → Act → World → Prop} (s x : Operand) (t : TypeId)
    (ho : o.op = .call { callee := .builtin .append, args := #[s, x], argTypes := #[t, t] }) (e : TypeId) (z : Value) (bytes : Nat) (ht : P.underlying t = some (.slice e))
    (hinfo : (P.info? e).map (fun i => (i.zero, i.size, i.bytes)) = some (some z, 1, bytes)) (hz : z.cells.size = 1) (hb0 : 0 < bytes)
    (v : Value) (n : Nat) (xs : List Value) (hs : a.eval s = v) (HO : w.ownsRow 0 e 1 v n xs) (A : Option Addr) (m c : Nat) (news : List Value) (hx : a.eval x = .slice A m c) (hl : news.length = m)
    (hr : 0 < m → ∃ ad, A = some ad ∧ ∀ j u, news[j]? = some u → w.cell? (ad.add j) = some u) (h1 : ∀ u ∈ news, u.oneCell' = true) (hb : (n + m) * bytes ≤ 140737488355328)
    (h : ∀ v' w', w'.ownsRow 0 e 1 v' (n + m) (xs ++ news) → w.grownBy w' v.ownBlock → (v'.ownBlock = v.ownBlock ∨ v'.ownBlock = some w.heap.size) → K (a.put o.dst v') w') : o.wp P a w K Q := by
  obtain ⟨v', w', hrun, h2, h3, h4⟩ := run_append_any (P := P) w t o.type e z bytes ht hinfo hz hb0 v n xs HO A m c news hl hr h1 hb
  unfold Oper.wp execOp
  simp only [ho, resolve, invoke, builtin, Sem.run_bind, Sem.run_pure, Result.andThen_ok, List.map_toArray, List.map_cons, List.map_nil, hs, hx, hrun]
  exact h v' w' h2 h3 h4

theorem wpList_append_any {w : World} {ops : Array Oper} {rest : List Oper} {o : Oper} {a : Act} {Q : Exit → Act → World → Prop} (hgd : o.guard = none) (s x : Operand) (t : TypeId)
    (ho : o.op = .call { callee := .builtin .append, args := #[s, x], argTypes := #[t, t] }) (e : TypeId) (z : Value) (bytes : Nat) (ht : P.underlying t = some (.slice e))
    (hinfo : (P.info? e).map (fun i => (i.zero, i.size, i.bytes)) = some (some z, 1, bytes)) (hz : z.cells.size = 1) (hb0 : 0 < bytes)
    (v : Value) (n : Nat) (xs : List Value) (hs : a.eval s = v) (HO : w.ownsRow 0 e 1 v n xs) (A : Option Addr) (m c : Nat) (news : List Value) (hx : a.eval x = .slice A m c) (hl : news.length = m)
    (hr : 0 < m → ∃ ad, A = some ad ∧ ∀ j u, news[j]? = some u → w.cell? (ad.add j) = some u) (h1 : ∀ u ∈ news, u.oneCell' = true) (hb : (n + m) * bytes ≤ 140737488355328)
    (h : ∀ v' w', w'.ownsRow 0 e 1 v' (n + m) (xs ++ news) → w.grownBy w' v.ownBlock → (v'.ownBlock = v.ownBlock ∨ v'.ownBlock = some w.heap.size) → wpList P ops Q rest (a.put o.dst v') w') : wpList P ops Q (o :: rest) a w :=
  wpList_plain hgd fun _ hK => wp_append_any s x t ho e z bytes ht hinfo hz hb0 v n xs hs HO A m c news hx hl hr h1 hb fun v' w' h2 h3 h4 => hK _ _ (h v' w' h2 h3 h4)
end

/-! ### Rows of bytes of the call's own -/
/-- v is a slice whose array is the call's own, and reads as xs. -/
def OB (w : World) (v : Value) (xs : List UInt8) : Prop := w.ownsRow 0 5 1 v xs.length (bv xs)
theorem bv_one (xs : List UInt8) : ∀ u ∈ bv xs, u.oneCell' = true := by
  intro u hu
  simp only [bv, List.mem_map] at hu
  obtain ⟨x, _, rfl⟩ := hu
  rfl
theorem OB.nil (w : World) : OB w (.slice none 0 0) [] := World.ownsRow_nil w _ _ _
theorem OB.lit (w : World) (xs : List UInt8) (cs : Array Value) (hcs : cs = (bv xs).toArray) (hl : xs.length ≤ 140737488355328) : OB (w.alloc (.cells cs 5)) (.slice (some ⟨w.heap.size, 0, none⟩) xs.length xs.length) xs := by
  subst hcs
  have := World.ownsRow_lit (base := 0) (e := 5) (size := 1) w (bv xs).toArray xs.length (Nat.zero_le _) (by simp only [maxLen]; omega) (by simp [bv_length])
  simpa [OB] using this
theorem OB.kept {w w' : World} {v : Value} {xs : List UInt8} {row : Option Nat} (h : OB w v xs) (hg : w.grownBy w' row) (hne : v.ownBlock = none ∨ v.ownBlock ≠ row) : OB w' v xs := World.ownsRow.kept h hg hne
theorem grown_of_below {w w1 : World} (h : Below w.heap.size w w1) (row : Option Nat) : w.grownBy w1 row := ⟨h.os, h.tape, h.output, h.size, fun i hi _ => h.block i hi⟩
theorem OB.below {w w' : World} {v : Value} {xs : List UInt8} (h : OB w v xs) (hb : Below w.heap.size w w') : OB w' v xs := h.kept (grown_of_below hb none) (by cases v.ownBlock <;> simp)
theorem OB.lt {w : World} {v : Value} {xs : List UInt8} (h : OB w v xs) : ∀ k, v.ownBlock = some k → k < w.heap.size := fun k hk => (World.ownsRow.lt h k hk).2
theorem OB.form {w : World} {v : Value} {xs : List UInt8} (h : OB w v xs) : ∃ A c, v = .slice A xs.length c := by
  rcases h.2 with ⟨rfl, h0⟩ | ⟨g, cap, cur, rfl, _⟩
  · exact ⟨none, 0, by rw [h0]⟩
  · exact ⟨_, cap, rfl⟩
theorem OB.reads {w : World} {A : Option Addr} {m c : Nat} {xs : List UInt8} (h : OB w (.slice A m c) xs) (hl : xs.length ≤ 140737488355328) : RB w A xs := by
  refine ⟨hl, fun hn => ?_⟩
  rcases h.2 with ⟨hv, h0⟩ | ⟨g, cap, cur, hv, _, hh, _⟩
  · omega
  · have hg : A = some ⟨g, 0, none⟩ := by simp at hv; exact hv.1
    subst hg
    refine ⟨g, 0, rfl, (World.ownsRow.lt h g rfl).2, fun j hj => ?_⟩
    have := World.ownsRow.cells h (g := g) rfl j _ (bv_get xs j hj)
    have ha : (⟨g, 0, none⟩ : Addr).add j = ⟨g, 0 + j, none⟩ := by unfold Addr.add; split <;> simp_all
    rwa [ha] at this
theorem RB.src {w : World} {A : Option Addr} {ys : List UInt8} (h : RB w A ys) : 0 < ys.length → ∃ ad, A = some ad ∧ ∀ j u, (bv ys)[j]? = some u → w.cell? (ad.add j) = some u := by
  intro hn
  obtain ⟨b, off, rfl, _, hc⟩ := h.2 hn
  refine ⟨_, rfl, fun j u hj => ?_⟩
  have hlt : j < ys.length := by
    rcases Nat.lt_or_ge j ys.length with h' | h'
    · exact h'
    · rw [List.getElem?_eq_none (by rw [bv_length]; exact h')] at hj; cases hj
  rw [bv_get ys j hlt] at hj
  cases hj
  have ha : (⟨b, off, none⟩ : Addr).add j = ⟨b, off + j, none⟩ := by unfold Addr.add; split <;> simp_all
  rw [ha]; exact hc j hlt
theorem info_u8 : (Try.prog.info? 5).map (fun i => (i.zero, i.size, i.bytes)) = some (some (.int .u8 0), 1, 1) := by kernel_rfl
theorem wp_append_b {w : World} {o : Oper} {a : Act} {K : Act → World → Prop} {Q : Exit → Act → World → Prop} (s x : Operand)
    (ho : o.op = .call { callee := .builtin .append, args := #[s, x], argTypes := #[74, 74] })
    (v : Value) (xs : List UInt8) (hs : a.eval s = v) (HO : OB w v xs) (A : Option Addr) (c : Nat) (ys : List UInt8) (hx : a.eval x = .slice A ys.length c) (hr : RB w A ys) (hb : xs.length + ys.length ≤ 140737488355328)
    (h : ∀ v' w', OB w' v' (xs ++ ys) → w.grownBy w' v.ownBlock → (v'.ownBlock = v.ownBlock ∨ v'.ownBlock = some w.heap.size) → K (a.put o.dst v') w') : o.wp Try.prog a w K Q :=
  wp_append_any s x 74 ho 5 (.int .u8 0) 1 Try.underlying74 info_u8 rfl (by omega) v xs.length (bv xs) hs HO A ys.length c (bv ys) hx (bv_length ys) hr.src (bv_one ys) (by omega)
    fun v' w' h1 h2 h3 => h v' w' (by unfold OB; rw [bv_append, List.length_append]; exact h1) h2 h3
theorem wpList_append_b {w : World} {ops : Array Oper} {rest : List Oper} {o : Oper} {a : Act} {Q : Exit → Act → World → Prop} (hgd : o.guard = none) (s x : Operand)
    (ho : o.op = .call { callee := .builtin .append, args := #[s, x], argTypes := #[74, 74] })
    (v : Value) (xs : List UInt8) (hs : a.eval s = v) (HO : OB w v xs) (A : Option Addr) (c : Nat) (ys : List UInt8) (hx : a.eval x = .slice A ys.length c) (hr : RB w A ys) (hb : xs.length + ys.length ≤ 140737488355328)
    (h : ∀ v' w', OB w' v' (xs ++ ys) → w.grownBy w' v.ownBlock → (v'.ownBlock = v.ownBlock ∨ v'.ownBlock = some w.heap.size) → wpList Try.prog ops Q rest (a.put o.dst v') w') : wpList Try.prog ops Q (o :: rest) a w :=
  wpList_plain hgd fun _ hK => wp_append_b s x ho v xs hs HO A c ys hx hr hb fun v' w' h2 h3 h4 => hK _ _ (h v' w' h2 h3 h4)

/-! ### string(b) -/
def strB (xs : List UInt8) : ByteArray := ⟨xs.toArray⟩
theorem strOfNums_bytes (xs : List UInt8) : strOfNums (xs.map fun x => (x.toNat : Int)) = strB xs := by
  unfold strOfNums strB
  congr 1
  simp [Function.comp_def]
theorem run_str {w : World} {A : Option Addr} {xs : List UInt8} (h : RB w A xs) (n c : Nat) (hn : xs.length = n) : (convert 74 9 (.slice A n c)).run Try.prog w = .ok (.string (strB xs)) w := by
  rcases Nat.eq_zero_or_pos xs.length with h0 | h0
  · obtain rfl : xs = [] := List.eq_nil_of_length_eq_zero h0
    obtain rfl : n = 0 := by simpa using hn.symm
    rw [run_convert_bytes_string w 74 9 5 _ 0 c Try.underlying74 Try.underlying5 Try.underlying9]
    cases A <;> simp [Conv.bytesToString, loadCells, loadCellsFrom] <;> rfl
  · obtain ⟨b, off, rfl, _, hc⟩ := h.2 h0
    rw [run_convert_bytes_arg w 74 5 Try.underlying74 Try.underlying5 b off n c (xs.map fun x => (x.toNat : Int)) (by simpa using hn) (fun i hi => by
      rw [hc i (by omega)]
      simp [show i < xs.length by omega]) _ Try.underlying9, strOfNums_bytes]

/-- Behind 'append([]byte{}, b...)': a copy. -/
theorem clone_facts {w w1 : World} {v' : Value} {xs : List UInt8} (HO : OB w1 v' ([] ++ xs)) (hg : (w.alloc (.cells #[] 5)).grownBy w1 (Value.slice (some ⟨w.heap.size, 0, none⟩) 0 0).ownBlock)
    (hat : v'.ownBlock = (Value.slice (some ⟨w.heap.size, 0, none⟩) 0 0).ownBlock ∨ v'.ownBlock = some (w.alloc (.cells #[] 5)).heap.size) : OB w1 v' xs ∧ Below w.heap.size w w1 ∧ ∀ k, v'.ownBlock = some k → w.heap.size ≤ k := by
  refine ⟨by simpa using HO, ((Below.refl w.heap.size w).alloc (Nat.le_refl _) _).grown hg (by simp) (fun k hk => by simp [Value.ownBlock] at hk; omega), fun k hk => ?_⟩
  rcases hat with h | h
  · rw [h] at hk; simp [Value.ownBlock] at hk; omega
  · rw [h] at hk; simp at hk; omega

/-! ### What came in -/
/-- A slice of integers that came in: it is nil; or it leads to a row of 'cap' cells, the numbers 'zs' (the first 'len' are its elements, the rest its spare room), each fitting its kind. -/
def IsRow (k : IntKind) (w : World) (a : Option Addr) (len cap : Nat) (zs : List Int) : Prop :=
  (a = none ∧ len = 0 ∧ cap = 0 ∧ zs = []) ∨
  ∃ x, a = some x ∧ len ≤ cap ∧ cap ≤ maxLen ∧ zs.length = cap ∧ (∀ i, i < zs.length → w.cell? (x.add i) = some (.int k (zs.getD i 0))) ∧ ∀ n ∈ zs, (Lit.int k n).wf = true
theorem wf_u8 {n : Int} (h : (Lit.int .u8 n).wf = true) : 0 ≤ n ∧ n ≤ 255 := by
  have h2 : IntKind.u8.min ≤ n ∧ n ≤ IntKind.u8.max := by simpa [Lit.wf] using h
  simp [IntKind.min, IntKind.max, IntKind.signed, IntKind.bits] at h2
  omega
theorem IsRow.bytes {w : World} {a : Option Addr} {len cap : Nat} {zs : List Int} (h : IsRow .u8 w a len cap zs) (hl : len ≤ 140737488355328) : ∃ xs : List UInt8, xs.length = len ∧ RB w a xs := by
  rcases h with ⟨rfl, rfl, rfl, rfl⟩ | ⟨x, rfl, h1, h2, h3, h4, h5⟩
  · exact ⟨[], rfl, RB.nil _ _⟩
  · refine ⟨(zs.take len).map fun z => UInt8.ofNat z.toNat, by simp; omega, by simp; omega, fun hn => ?_⟩
    have hlen : 0 < len := by simp at hn; omega
    obtain ⟨b, off, spot⟩ := x
    have hc := h4 0 (by omega)
    have hspot : spot = none := by simpa [Addr.add] using World.cell?_spot hc
    subst hspot
    have hlt := World.block_lt_of_cell? w _ hc
    refine ⟨b, off, rfl, by simpa [Addr.add] using hlt, fun j hj => ?_⟩
    have hj' : j < len := by simp at hj; omega
    have hc := h4 j (by omega)
    have ha : (⟨b, off, none⟩ : Addr).add j = ⟨b, off + j, none⟩ := by unfold Addr.add; split <;> simp_all
    rw [ha] at hc
    rw [hc]
    have hz := wf_u8 (h5 (zs.getD j 0) (by rw [List.getD_eq_getElem?_getD, List.getElem?_eq_getElem (by omega)]; simp))
    have hjz : j < zs.length := by omega
    simp [List.getD_eq_getElem?_getD, List.getElem?_map, List.getElem?_take, hj', hjz] at hz ⊢
    omega

theorem IsRow.le {k : IntKind} {w : World} {a : Option Addr} {len cap : Nat} {zs : List Int} (h : IsRow k w a len cap zs) : len ≤ cap := by
  rcases h with ⟨_, rfl, rfl, _⟩ | ⟨x, _, h1, _⟩ <;> omega
/-- A slice of integers that reads as xs. -/
def RI (w : World) (k : IntKind) (A : Option Addr) (xs : List Int) : Prop :=
  0 < xs.length → ∃ b off, A = some ⟨b, off, none⟩ ∧ b < w.heap.size ∧ ∀ j, j < xs.length → w.cell? ⟨b, off + j, none⟩ = some (.int k (xs.getD j 0))
theorem RI.below {w w1 : World} {k : IntKind} {A : Option Addr} {xs : List Int} (h : RI w k A xs) (hb : Below w.heap.size w w1) : RI w1 k A xs := fun hn => by
  obtain ⟨b, off, e, hlt, hc⟩ := h hn
  exact ⟨b, off, e, Nat.lt_of_lt_of_le hlt hb.size, fun j hj => (hb.cell (p := ⟨b, off + j, none⟩) hlt).trans (hc j hj)⟩
theorem IsRow.ints {k : IntKind} {w : World} {a : Option Addr} {len cap : Nat} {zs : List Int} (h : IsRow k w a len cap zs) : ∃ xs : List Int, xs.length = len ∧ RI w k a xs ∧ ∀ x ∈ xs, (Lit.int k x).wf = true := by
  rcases h with ⟨rfl, rfl, rfl, rfl⟩ | ⟨x, rfl, h1, h2, h3, h4, h5⟩
  · exact ⟨[], rfl, fun h => by simp at h, fun _ h => by cases h⟩
  · refine ⟨zs.take len, by simp; omega, fun hn => ?_, fun x hx => h5 x (List.mem_of_mem_take hx)⟩
    have hlen : 0 < len := by simp at hn; omega
    obtain ⟨b, off, spot⟩ := x
    have hc := h4 0 (by omega)
    have hspot : spot = none := by simpa [Addr.add] using World.cell?_spot hc
    subst hspot
    have hlt := World.block_lt_of_cell? w _ hc
    refine ⟨b, off, rfl, by simpa [Addr.add] using hlt, fun j hj => ?_⟩
    have hj' : j < len := by simp at hj; omega
    have hc := h4 j (by omega)
    have ha : (⟨b, off, none⟩ : Addr).add j = ⟨b, off + j, none⟩ := by unfold Addr.add; split <;> simp_all
    rw [ha] at hc
    rw [hc]
    simp [List.getD_eq_getElem?_getD, List.getElem?_take, hj']

/-! ### int(uint(y) % uint(m)) -/
theorem u64_nonneg (y : Int) : 0 ≤ IntKind.u64.wrap y := by rw [IntKind.wrap_u64]; exact Int.emod_nonneg _ (by decide)
theorem modq (y : Int) (m : Nat) (h0 : 0 < m) (hm : m ≤ 4611686018427387904) : ∃ q : Nat, q < m ∧ wrap64 ((IntKind.u64.wrap y).tmod (m : Int)) = (q : Int) := by
  rw [Int.tmod_eq_emod_of_nonneg (u64_nonneg y)]
  have h1 := Int.emod_nonneg (IntKind.u64.wrap y) (b := (m : Int)) (by omega)
  have h2 := Int.emod_lt_of_pos (IntKind.u64.wrap y) (b := (m : Int)) (by omega)
  obtain ⟨q, hq⟩ := Int.eq_ofNat_of_zero_le h1
  refine ⟨q, by omega, ?_⟩
  rw [hq]
  unfold wrap64
  omega

/-- 's[q:]', as the walk spells it. -/
theorem RB.dropS {w : World} {A : Option Addr} {xs : List UInt8} (h : RB w A xs) (q c : Nat) (hc : xs.length ≤ c) : RB w (if c = q then A else Option.map (fun x => x.add q) A) (xs.drop q) := by
  by_cases h0 : xs.length ≤ q
  · rw [List.drop_eq_nil_of_le h0]; exact RB.nil _ _
  · rw [if_neg (by omega)]
    obtain ⟨b, off, rfl, hlt, hcell⟩ := h.2 (by omega)
    have ha : (⟨b, off, none⟩ : Addr).add q = ⟨b, off + q, none⟩ := by unfold Addr.add; split <;> simp_all
    simp only [Option.map_some, ha]
    exact h.drop q

/-! ### make, a store into a row of the call's own -/
theorem wpList_make_b {w : World} {ops : Array Oper} {rest : List Oper} {o : Oper} {a : Act} {Q : Exit → Act → World → Prop} (hg : o.guard = none) (l c : Operand) (hop : o.op = Op.makeSlice 74 l c)
    (L C : Int) (n : Nat) (hl : a.eval l = .int .i64 L) (hc : a.eval c = .int .i64 C) (hL : L = (n : Int)) (hC : C = (n : Int)) (hn : n ≤ 140737488355328)
    (hK : ∀ w', OB w' (.slice (some ⟨w.heap.size, 0, none⟩) n n) (List.replicate n 0) → Below w.heap.size w w' → w.heap.size < w'.heap.size → wpList Try.prog ops Q rest (a.put o.dst (.slice (some ⟨w.heap.size, 0, none⟩) n n)) w') :
    wpList Try.prog ops Q (o :: rest) a w := by
  obtain ⟨i, hi, hzz⟩ := Option.map_eq_some_iff.1 info_u8
  simp only [Prod.mk.injEq] at hzz
  refine wpList_make_full w hg l c 74 hop 0 5 i (.int .u8 0) 1 Try.underlying74 hi hzz.1 hzz.2.1 .i64 .i64 L C n hl hc hL hC (by rw [hzz.2.2]; omega) (by simp only [maxLen]; omega) (Nat.zero_le _) ?_
  intro w' ho hgr
  have e : (madeCells (Value.int .u8 0).cells (n * 1)).toList = bv (List.replicate n 0) := by
    rw [Nat.mul_one, show (Value.int IntKind.u8 0).cells = #[Value.int .u8 0] from rfl, toList_madeCells_one]
    simp [bv]
  have ho2 : OB w' (.slice (some ⟨w.heap.size, 0, none⟩) n n) (List.replicate n 0) := by
    unfold OB; rw [List.length_replicate, ← e]; exact ho
  exact hK w' ho2 ((Below.refl w.heap.size w).grown hgr (Nat.le_refl _) (fun k hk => by cases hk)) (ho2.lt w.heap.size rfl)
theorem OB.cellAt {w : World} {g c n : Nat} {xs : List UInt8} (h : OB w (.slice (some ⟨g, 0, none⟩) n c) xs) (j : Nat) (hj : j < xs.length) : w.cell? ⟨g, j, none⟩ = some (.int .u8 ((xs.getD j 0).toNat : Int)) := by
  have := World.ownsRow.cells h (g := g) rfl j _ (bv_get xs j hj)
  have ha : (⟨g, 0, none⟩ : Addr).add j = ⟨g, j, none⟩ := by unfold Addr.add; split <;> simp_all
  rwa [ha] at this
theorem OB.frozenAt {w : World} {g c n : Nat} {xs : List UInt8} (h : OB w (.slice (some ⟨g, 0, none⟩) n c) xs) (j : Nat) : w.frozen? ⟨g, j, none⟩ = false := by
  rcases h.2 with ⟨h', _⟩ | ⟨g', cap', cur, h', _, hg, _⟩
  · simp at h'
  · simp only [Value.slice.injEq, Option.some.injEq, Addr.mk.injEq, and_true, true_and] at h'
    obtain ⟨rfl, _⟩ := h'
    exact frozen_of_row w g j cur _ hg
theorem bv_set (xs : List UInt8) (j : Nat) (x : UInt8) : (bv xs).set j (.int .u8 (x.toNat : Int)) = bv (xs.set j x) := by
  simp [bv, List.map_set]
theorem OB.stored {w : World} {g c n : Nat} {xs : List UInt8} (h : OB w (.slice (some ⟨g, 0, none⟩) n c) xs) (j : Nat) (x : UInt8) :
    OB (w.setCell ⟨g, j, none⟩ (.int .u8 (x.toNat : Int))) (.slice (some ⟨g, 0, none⟩) n c) (xs.set j x) := by
  obtain ⟨A, c', e⟩ := h.form
  simp only [Value.slice.injEq] at e
  obtain ⟨rfl, rfl, rfl⟩ := e
  have := (World.ownsRow.stored h j (.int .u8 (x.toNat : Int))).1
  unfold OB
  rw [List.length_set, ← bv_set]
  exact this
theorem xor_u8 (x y : UInt8) : bits .xor .u8 (x.toNat : Int) (y.toNat : Int) = ((x ^^^ y).toNat : Int) := by
  show IntKind.u8.wrap ((BitVec.ofInt 8 (x.toNat : Int) ^^^ BitVec.ofInt 8 (y.toNat : Int)).toNat : Int) = _
  have hx := x.toNat_lt
  have hy := y.toNat_lt
  have h1 : (BitVec.ofInt 8 (x.toNat : Int)).toNat = x.toNat := by
    rw [BitVec.ofInt_natCast, BitVec.toNat_ofNat]; exact Nat.mod_eq_of_lt (by omega)
  have h2 : (BitVec.ofInt 8 (y.toNat : Int)).toNat = y.toNat := by
    rw [BitVec.ofInt_natCast, BitVec.toNat_ofNat]; exact Nat.mod_eq_of_lt (by omega)
  rw [BitVec.toNat_xor, h1, h2, UInt8.toNat_xor, IntKind.wrap_u8]
  have : x.toNat ^^^ y.toNat < 2 ^ 8 := Nat.xor_lt_two_pow (by omega) (by omega)
  omega

/-! ### min, max -/
theorem max2_int (k k' : IntKind) (x y : Int) : Builtin.max2 (.int k x) (.int k' y) = pure (.int k (max x y)) := by
  simp only [Builtin.max2, gt_iff_lt]; congr 2; split <;> omega
theorem min2_int (k k' : IntKind) (x y : Int) : Builtin.min2 (.int k x) (.int k' y) = pure (.int k (min x y)) := by
  simp only [Builtin.min2]; congr 2; split <;> omega
theorem max_two (ats : Array TypeId) (ty : TypeId) (a b : Value) : Builtin.max_ ats ty #[a, b] = (Builtin.max2 a b >>= fun s => pure s) := by simp only [Builtin.max_, List.foldlM_cons, List.foldlM_nil]
theorem min_two (ats : Array TypeId) (ty : TypeId) (a b : Value) : Builtin.min_ ats ty #[a, b] = (Builtin.min2 a b >>= fun s => pure s) := by simp only [Builtin.min_, List.foldlM_cons, List.foldlM_nil]
theorem min_four (ats : Array TypeId) (ty : TypeId) (a b c d : Value) : Builtin.min_ ats ty #[a, b, c, d] = (Builtin.min2 a b >>= fun s => Builtin.min2 s c >>= fun s => Builtin.min2 s d >>= fun s => pure s) := by simp only [Builtin.min_, List.foldlM_cons, List.foldlM_nil]

theorem OB.pos {w : World} {v : Value} {xs : List UInt8} (h : OB w v xs) (hn : 0 < xs.length) : ∃ g c, v = .slice (some ⟨g, 0, none⟩) xs.length c ∧ xs.length ≤ c := by
  rcases h.2 with ⟨rfl, h0⟩ | ⟨g, cap, cur, rfl, _, _, hc, _⟩
  · omega
  · exact ⟨g, cap, rfl, hc⟩

end Go.Proofs.Ytpbcpocheblbfaa
