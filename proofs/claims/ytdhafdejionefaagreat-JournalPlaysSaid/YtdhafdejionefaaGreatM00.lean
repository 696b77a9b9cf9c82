/- Parts: The plain law of crc24: bit steps, byte steps and nibble steps over 24 bits. .. Numbers in bytes, frames of records: plain Lean, no program. -/
import Derived.Test.YtdhafdejionefaaGreatProg
import Derived.WalkKit
import Derived.WalkSpells
import Derived.WalkLawsBesides
import Derived.Deep.RegionHeld3
import Derived.Deep.RegionWith
import Derived.Deep.QuietTactic
import Derived.BigQuiet
import Derived.Lib.Hide
import Derived.Maps.AppendAt
/- The plain law of crc24: bit steps, byte steps and nibble steps over 24 bits. -/
namespace Go.Proofs.YtdhafdejionefaaGreat
set_option linter.unusedVariables false
set_option linter.unusedSimpArgs false
open Go.RowKit

/-! ### bits on naturals -/
theorem i64_keep (n : Int) (h0 : 0 ≤ n) (h1 : n < 2 ^ 63) : IntKind.i64.wrap n = n := IntWalk.i64_in n (by omega)
theorem xor_i64_nat (a b : Nat) (ha : a < 2 ^ 63) (hb : b < 2 ^ 63) : bits .xor .i64 (a : Int) (b : Int) = ((a ^^^ b : Nat) : Int) := by
  have hx : a ^^^ b < 2 ^ 63 := Nat.xor_lt_two_pow ha hb
  have h1 : (BitVec.ofInt 64 (a : Int)).toNat = a := by
    rw [BitVec.ofInt_natCast, BitVec.toNat_ofNat]; exact Nat.mod_eq_of_lt (by omega)
  have h2 : (BitVec.ofInt 64 (b : Int)).toNat = b := by
    rw [BitVec.ofInt_natCast, BitVec.toNat_ofNat]; exact Nat.mod_eq_of_lt (by omega)
  show IntKind.i64.wrap ((BitVec.ofInt 64 (a : Int) ^^^ BitVec.ofInt 64 (b : Int)).toNat : Int) = _
  rw [BitVec.toNat_xor, h1, h2]
  exact i64_keep _ (by omega) (by exact_mod_cast hx)
theorem and_i64_nat (a b : Nat) (ha : a < 2 ^ 63) (hb : b < 2 ^ 63) : bits .and .i64 (a : Int) (b : Int) = ((a &&& b : Nat) : Int) :=
  (bits_nat .i64 63 (by decide) (fun n h0 h1 => i64_keep n h0 h1) a b ha hb).1
/-- 'x & all' of any int: its lowest 24 bits. -/
theorem and_all (s : Int) : bits .and .i64 s 16777215 = ((BitVec.ofInt 24 s).toNat : Int) := by
  show IntKind.i64.wrap ((BitVec.ofInt 64 s &&& BitVec.ofInt 64 16777215).toNat : Int) = _
  have h : (BitVec.ofInt 64 s &&& BitVec.ofInt 64 16777215).toNat = (BitVec.ofInt 24 s).toNat := by
    rw [BitVec.toNat_and]
    have e : (BitVec.ofInt 64 16777215).toNat = 2 ^ 24 - 1 := by decide
    rw [e, Nat.and_two_pow_sub_one_eq_mod]
    simp only [BitVec.toNat_ofInt]
    omega
  rw [h]
  exact i64_keep _ (by omega) (by have := (BitVec.ofInt 24 s).isLt; omega)

/-! ### As the program has it -/
def crcTab : List Int := [0x000000, 0x864cfb, 0x8ad50d, 0x0c99f6, 0x93e6e1, 0x15aa1a, 0x1933ec, 0x9f7f17, 0xa18139, 0x27cdc2, 0x2b5434, 0xad18cf, 0x3267d8, 0xb42b23, 0xb8b2d5, 0x3efe2e]
/-- The closure of Next: four bits more. -/
def nibStep (s n : Int) : Int := bits .xor .i64 (bits .and .i64 (IntKind.i64.wrap (s * 16)) 16777215) (crcTab.getD (bits .xor .i64 (s / 1048576) n).toNat 0)

/-! ### The steps -/
abbrev B24 := BitVec 24
def poly24 : B24 := 0x864cfb#24
/-- A bit more. -/
def bst (s : B24) : B24 := (s <<< 1) ^^^ (if s.msb then poly24 else 0#24)
def bsts : Nat → B24 → B24
  | 0, s => s
  | n + 1, s => bsts n (bst s)
theorem bst_xor (a b : B24) : bst (a ^^^ b) = bst a ^^^ bst b := by
  unfold bst
  rw [BitVec.shiftLeft_xor_distrib, BitVec.msb_xor]
  cases a.msb <;> cases b.msb <;> simp
  · ac_rfl
  · ac_rfl
  · have : a <<< 1 ^^^ poly24 ^^^ (b <<< 1 ^^^ poly24) = a <<< 1 ^^^ b <<< 1 ^^^ (poly24 ^^^ poly24) := by ac_rfl
    rw [this]; simp
theorem bsts_xor : ∀ (n : Nat) (a b : B24), bsts n (a ^^^ b) = bsts n a ^^^ bsts n b
  | 0, _, _ => rfl
  | n + 1, a, b => by simp only [bsts]; rw [bst_xor, bsts_xor n]
theorem bsts_add : ∀ (m n : Nat) (s : B24), bsts (m + n) s = bsts n (bsts m s)
  | 0, n, s => by simp [bsts]
  | m + 1, n, s => by rw [Nat.add_right_comm]; simp only [bsts]; exact bsts_add m n _

theorem bst_small (x : B24) (h : x.toNat < 2 ^ 23) : bst x = x <<< 1 := by
  unfold bst
  have : x.msb = false := by rw [BitVec.msb_eq_decide]; simp; omega
  simp [this]
theorem bsts_small : ∀ (n : Nat) (x : B24), x.toNat * 2 ^ n < 2 ^ 24 → bsts n x = x <<< n
  | 0, x, _ => by simp [bsts]
  | n + 1, x, h => by
    have h1 : x.toNat * 2 < 2 ^ 24 := Nat.lt_of_le_of_lt (Nat.mul_le_mul_left _ (by rw [Nat.pow_succ]; have := Nat.two_pow_pos n; omega)) h
    have h2 : (x <<< 1).toNat = x.toNat * 2 := by
      rw [BitVec.toNat_shiftLeft, Nat.shiftLeft_eq]; omega
    simp only [bsts]
    rw [bst_small x (by omega), bsts_small n (x <<< 1) (by rw [h2, Nat.mul_assoc, ← Nat.pow_succ']; exact h), ← BitVec.shiftLeft_add, Nat.add_comm]
def tabB (m : BitVec 4) : B24 := bsts 4 (m.setWidth 24 <<< 20)
theorem split20 (s : B24) (n : BitVec 4) : s ^^^ (n.setWidth 24 <<< 20) = (((s >>> 20).setWidth 4 ^^^ n).setWidth 24 <<< 20) ^^^ (s &&& 0x0fffff#24) := by
  apply BitVec.eq_of_getLsbD_eq
  intro i hi
  have hm : (0x0fffff#24).getLsbD i = decide (i < 20) := by
    have : ∀ i : Fin 24, (0x0fffff#24).getLsbD i.val = decide (i.val < 20) := by decide
    exact this ⟨i, hi⟩
  by_cases h : i < 20
  · simp [hm, h]
  · have e : 20 + (i - 20) = i := by omega
    have e2 : i - 20 < 4 := by omega
    have hm2 : (1048575#24)[i] = false := by rw [BitVec.getElem_eq_testBit_toNat, BitVec.testBit_toNat, hm]; simp [h]
    simp [h, hi, e, e2, hm2]
theorem low20 (s : B24) : (s &&& 0x0fffff#24).toNat < 2 ^ 20 := by
  rw [BitVec.toNat_and]
  exact Nat.lt_of_le_of_lt Nat.and_le_right (by decide)
theorem low20_shift (s : B24) : (s &&& 0x0fffff#24) <<< 4 = s <<< 4 := by
  apply BitVec.eq_of_getLsbD_eq
  intro i hi
  by_cases h : i < 4
  · simp [h]
  · have : (0x0fffff#24).getLsbD (i - 4) = true := by
      have : ∀ i : Fin 24, 4 ≤ i.val → (0x0fffff#24).getLsbD (i.val - 4) = true := by decide
      exact this ⟨i, hi⟩ (by simp; omega)
    simp [h, hi, this]

/-! ### A nibble, a byte -/
def nst (s : B24) (n : BitVec 4) : B24 := bsts 4 (s ^^^ (n.setWidth 24 <<< 20))
theorem nst_tab (s : B24) (n : BitVec 4) : nst s n = (s <<< 4) ^^^ tabB ((s >>> 20).setWidth 4 ^^^ n) := by
  unfold nst
  rw [split20, bsts_xor, bsts_small 4 (s &&& 0x0fffff#24) (by have := low20 s; omega), low20_shift, BitVec.xor_comm]
  rfl
def bys (s : B24) (c : UInt8) : B24 := bsts 8 (s ^^^ ((BitVec.ofNat 24 c.toNat) <<< 16))
def hiN (c : UInt8) : BitVec 4 := BitVec.ofNat 4 (c.toNat / 16)
def loN (c : UInt8) : BitVec 4 := BitVec.ofNat 4 c.toNat
theorem byte_split (c : UInt8) : (BitVec.ofNat 24 c.toNat) <<< 16 = (((hiN c).setWidth 24) <<< 20) ^^^ (((loN c).setWidth 24) <<< 16) := by
  have : ∀ c : UInt8, (BitVec.ofNat 24 c.toNat) <<< 16 = (((hiN c).setWidth 24) <<< 20) ^^^ (((loN c).setWidth 24) <<< 16) := by
    intro c
    have h : ∀ k : Fin 256, (BitVec.ofNat 24 k.val) <<< 16 = (((BitVec.ofNat 4 (k.val / 16)).setWidth 24) <<< 20) ^^^ (((BitVec.ofNat 4 k.val).setWidth 24) <<< 16) := by decide +kernel
    exact h ⟨c.toNat, c.toNat_lt⟩
  exact this c
theorem lo_late (n : BitVec 4) : bsts 4 (n.setWidth 24 <<< 16) = n.setWidth 24 <<< 20 := by
  have h : ∀ k : Fin 16, bsts 4 ((BitVec.ofFin k : BitVec 4).setWidth 24 <<< 16) = (BitVec.ofFin k : BitVec 4).setWidth 24 <<< 20 := by decide +kernel
  exact h n.toFin
theorem bys_nst (s : B24) (c : UInt8) : bys s c = nst (nst s (hiN c)) (loN c) := by
  unfold bys
  rw [byte_split, ← BitVec.xor_assoc, show (8 : Nat) = 4 + 4 from rfl, bsts_add, bsts_xor 4, lo_late]
  rfl
def crcN (s : B24) (xs : List UInt8) : B24 := xs.foldl bys s

/-! ### In the walk's numbers -/
theorem crcTab_tabB (m : BitVec 4) : crcTab.getD m.toNat 0 = ((tabB m).toNat : Int) := by
  have h : ∀ k : Fin 16, crcTab.getD k.val 0 = ((tabB (BitVec.ofFin k)).toNat : Int) := by decide +kernel
  exact h m.toFin
theorem top4 (s : B24) : (s.toNat : Int) / (1048576 : Int) = (((s >>> 20).setWidth 4 : BitVec 4).toNat : Int) := by
  have h := s.isLt
  rw [BitVec.toNat_setWidth, BitVec.toNat_ushiftRight, Nat.shiftRight_eq_div_pow]
  rw [Nat.mod_eq_of_lt (by omega)]
  omega
theorem xor_top (s : B24) (n : BitVec 4) : bits .xor .i64 ((s.toNat : Int) / 1048576) (n.toNat : Int) = ((((s >>> 20).setWidth 4 ^^^ n : BitVec 4)).toNat : Int) := by
  have h := ((s >>> 20).setWidth 4 : BitVec 4).isLt
  have h2 := n.isLt
  rw [top4, xor_i64_nat _ _ (by omega) (by omega), BitVec.toNat_xor]
theorem nibStep_nst (s : B24) (n : BitVec 4) : nibStep (s.toNat : Int) (n.toNat : Int) = ((nst s n).toNat : Int) := by
  have h := s.isLt
  unfold nibStep
  rw [xor_top, Int.toNat_natCast, crcTab_tabB, i64_keep _ (by omega) (by omega), and_all, nst_tab]
  have h3 := (tabB ((s >>> 20).setWidth 4 ^^^ n)).isLt
  have h4 : (BitVec.ofInt 24 ((s.toNat : Int) * 16)) = s <<< 4 := by
    apply BitVec.eq_of_toNat_eq
    rw [BitVec.toNat_ofInt, BitVec.toNat_shiftLeft, Nat.shiftLeft_eq]
    omega
  rw [h4, xor_i64_nat _ _ (by have := (s <<< 4).isLt; omega) (by omega), BitVec.toNat_xor]

end Go.Proofs.YtdhafdejionefaaGreat

/- Words for bytes in memory, over any program: a slice that reads as a list of bytes; worlds that differ below a block in nothing. -/
namespace Go.Proofs.YtdhafdejionefaaGreat
set_option linter.unusedVariables false
set_option linter.unusedSimpArgs false
open Go.RowKit

theorem ret_val {v v' : Value} (h : v = v') : Ending.returned v = Ending.returned v' := by rw [h]
theorem ret_int {k : IntKind} {a b : Int} (h : a = b) : Ending.returned (.int k a) = .returned (.int k b) := by rw [h]
theorem val_int {k : IntKind} {a b : Int} (h : a = b) : Value.int k a = .int k b := by rw [h]
theorem ret_bool {a b : Bool} (h : a = b) : Ending.returned (.bool a) = .returned (.bool b) := by rw [h]
theorem below_then {B : Nat} {w w1 w2 : World} (h : Below B w w1) (hB : B ≤ w1.heap.size) (k : Below w1.heap.size w1 w2) : Below B w w2 :=
  h.trans ⟨k.os, k.tape, k.output, k.size, fun i hi => k.block i (Nat.lt_of_lt_of_le hi hB)⟩
theorem below_step {w0 w w2 : World} (h : Below w0.heap.size w0 w) (k : Below w.heap.size w w2) : Below w0.heap.size w0 w2 := below_then h h.size k
theorem keepOne {w W w' : World} {p : Addr} {v : Value} (h : Below w.heap.size w W ∧ W.cell? p = some v ∧ W.frozen? p = false) (hb : Below W.heap.size W w') : Below w.heap.size w w' ∧ w'.cell? p = some v ∧ w'.frozen? p = false := by
  have hlt := World.block_lt_of_cell? W p h.2.1
  exact ⟨below_then h.1 h.1.size hb, (hb.cell hlt).trans h.2.1, (hb.frozen hlt).trans h.2.2⟩

/-- A slice of bytes that reads as xs; of an empty one nothing is known. -/
def RB (w : World) (A : Option Addr) (xs : List UInt8) : Prop :=
  xs.length ≤ 140737488355328 ∧ (0 < xs.length → ∃ b off, A = some ⟨b, off, none⟩ ∧ b < w.heap.size ∧ ∀ j, j < xs.length → w.cell? ⟨b, off + j, none⟩ = some (.int .u8 ((xs.getD j 0).toNat : Int)))
theorem RB.below {w w1 : World} {A : Option Addr} {xs : List UInt8} (h : RB w A xs) (hb : Below w.heap.size w w1) : RB w1 A xs :=
  ⟨h.1, fun hn => by
    obtain ⟨b, off, e, hlt, hc⟩ := h.2 hn
    exact ⟨b, off, e, Nat.lt_of_lt_of_le hlt hb.size, fun j hj => (hb.cell (p := ⟨b, off + j, none⟩) hlt).trans (hc j hj)⟩⟩
theorem RB.nil (w : World) (A : Option Addr) : RB w A [] := ⟨by simp, fun h => absurd h (by simp)⟩
/-- Its first bytes; what lies behind some of them. -/
theorem RB.take {w : World} {A : Option Addr} {xs : List UInt8} (h : RB w A xs) (k : Nat) : RB w A (xs.take k) := by
  refine ⟨by have := h.1; simp; omega, fun hn => ?_⟩
  have hn' : 0 < xs.length := by simp at hn; omega
  obtain ⟨b, off, e, hlt, hc⟩ := h.2 hn'
  refine ⟨b, off, e, hlt, fun j hj => ?_⟩
  have : j < k ∧ j < xs.length := by simp at hj; omega
  rw [hc j this.2]
  simp [List.getD_eq_getElem?_getD, List.getElem?_take, this.1]
theorem RB.drop {w : World} {b off : Nat} {xs : List UInt8} (h : RB w (some ⟨b, off, none⟩) xs) (k : Nat) : RB w (some ⟨b, off + k, none⟩) (xs.drop k) := by
  refine ⟨by have := h.1; simp; omega, fun hn => ?_⟩
  have hn' : k < xs.length := by simp at hn; omega
  obtain ⟨b', off', e, hlt, hc⟩ := h.2 (by omega)
  obtain ⟨rfl, rfl⟩ : b' = b ∧ off' = off := by simp at e; exact ⟨e.1.symm, e.2.symm⟩
  refine ⟨b', off' + k, rfl, hlt, fun j hj => ?_⟩
  have : k + j < xs.length := by simp at hj; omega
  rw [Nat.add_assoc, hc (k + j) this]
  simp [List.getD_eq_getElem?_getD, List.getElem?_drop]

theorem setOne {w0 w w2 : World} {p : Addr} {v0 : Value} (v : Value) (h : Below w0.heap.size w0 w) (hp : w0.heap.size ≤ p.block) (hc : w.cell? p = some v0) (hf : w.frozen? p = false) (hb : Below w.heap.size w w2) :
    Below w0.heap.size w0 (w2.setCell p v) ∧ (w2.setCell p v).cell? p = some v ∧ (w2.setCell p v).frozen? p = false := by
  have hlt := World.block_lt_of_cell? w p hc
  have h2 : w2.cell? p = some v0 := (hb.cell hlt).trans hc
  have h3 : w2.frozen? p = false := (hb.frozen hlt).trans hf
  exact ⟨(below_step h hb).setCell hp v, World.cell?_setCell_same w2 p v h2, by simpa using h3⟩

/-- Bytes as cells. -/
def bv (xs : List UInt8) : List Value := xs.map fun x => .int .u8 (x.toNat : Int)
theorem bv_length (xs : List UInt8) : (bv xs).length = xs.length := by simp [bv]
theorem bv_append (xs ys : List UInt8) : bv (xs ++ ys) = bv xs ++ bv ys := by simp [bv]
theorem bv_get (xs : List UInt8) (j : Nat) (h : j < xs.length) : (bv xs)[j]? = some (.int .u8 ((xs.getD j 0).toNat : Int)) := by
  simp [bv, h]
theorem cell_alloc_any (w : World) (cs : Array Value) (t : TypeId) (fr : Nat × Nat) (i : Nat) : (w.alloc (.cells cs t fr)).cell? ⟨w.heap.size, i, none⟩ = cs[i]? := by
  have h := heap_alloc_new w (.cells cs t fr)
  unfold World.cell?
  rw [h]
  rfl
/-- A new block of bytes. -/
theorem RB.fresh (w : World) (xs : List UInt8) (more : List Value) (t : TypeId) (fr : Nat × Nat) (hl : xs.length ≤ 140737488355328) {cs : Array Value} (hcs : cs = (bv xs ++ more).toArray) :
    RB (w.alloc (.cells cs t fr)) (some ⟨w.heap.size, 0, none⟩) xs := by
  subst hcs
  refine ⟨hl, fun _ => ⟨w.heap.size, 0, rfl, by simp, fun j hj => ?_⟩⟩
  rw [Nat.zero_add, cell_alloc_any]
  simp only [List.getElem?_toArray]
  rw [List.getElem?_append_left (by rw [bv_length]; exact hj), bv_get xs j hj]

/-! ### append, whatever is appended (nil, empty, any) -/
section
variable {P : Program}
theorem run_append_any (w : World) (t ty e : TypeId) (z : Value) (bytes : Nat) (ht : P.underlying t = some (.slice e))
    (hinfo : (P.info? e).map (fun i => (i.zero, i.size, i.bytes)) = some (some z, 1, bytes)) (hz : z.cells.size = 1) (hb0 : 0 < bytes)
    (v : Value) (n : Nat) (xs : List Value) (HO : w.ownsRow 0 e 1 v n xs) (A : Option Addr) (m c : Nat) (news : List Value) (hl : news.length = m)
    (hr : 0 < m → ∃ ad, A = some ad ∧ ∀ j u, news[j]? = some u → w.cell? (ad.add j) = some u) (h1 : ∀ u ∈ news, u.oneCell' = true) (hb : (n + m) * bytes ≤ 140737488355328) :
    ∃ v' w', (Builtin.append_ #[t, t] ty #[v, .slice A m c]).run P w = .ok v' w' ∧ w'.ownsRow 0 e 1 v' (n + m) (xs ++ news) ∧ w.grownBy w' v.ownBlock ∧ (v'.ownBlock = v.ownBlock ∨ v'.ownBlock = some w.heap.size) := by
  obtain ⟨i, hi, hzz⟩ := Option.map_eq_some_iff.1 hinfo
  simp only [Prod.mk.injEq] at hzz
  obtain ⟨hz0, hz1, hz2⟩ := hzz
  have hlen : n + m ≤ 140737488355328 := Nat.le_trans (Nat.le_mul_of_pos_right _ hb0) hb
  have some_ : ∀ ad : Addr, (∀ j u, news[j]? = some u → w.cell? (ad.add j) = some u) → ∃ v' w', (Builtin.append_ #[t, t] ty #[v, .slice (some ad) m c]).run P w = .ok v' w' ∧ w'.ownsRow 0 e 1 v' (n + m) (xs ++ news) ∧ w.grownBy w' v.ownBlock ∧ (v'.ownBlock = v.ownBlock ∨ v'.ownBlock = some w.heap.size) := by
    intro ad hc
    obtain ⟨v', w', hrun, r1, r2, _, r4⟩ := run_append_own_at (P := P) w 0 t ty e i z 1 bytes ht hi hz0 hz1 hz2 hz (by omega) v n xs HO ad m c news (by omega) hc h1 (by simp only [maxLen]; omega) hb (Nat.zero_le _)
    exact ⟨v', w', hrun, r1, r2, r4⟩
  rcases Nat.eq_zero_or_pos m with h0 | h0
  · subst h0
    obtain rfl : news = [] := List.eq_nil_of_length_eq_zero hl
    cases A with
    | some ad => exact some_ ad (fun j u h => by simp at h)
    | none =>
      refine ⟨v, w, ?_, by simpa using HO, ⟨rfl, rfl, rfl, Nat.le_refl _, fun _ _ _ => rfl⟩, .inl rfl⟩
      rcases HO.2 with ⟨rfl, rfl⟩ | ⟨g, cap, cur, rfl, _, _, hnc, _⟩
      · simp [Builtin.append_, run_underlying ht, sizeOf, typeInfo, hi, Builtin.lenOf, Builtin.firstCells]
      · simp [Builtin.append_, run_underlying ht, sizeOf, typeInfo, hi, Builtin.lenOf, Builtin.firstCells, hnc, storeCells]
  · obtain ⟨ad, rfl, hc⟩ := hr h0
    exact some_ ad hc

theorem wp_append_any {w : World} {o : Oper} {a : Act} {K : Act → World → Prop} {Q : Exit → Act → World → Prop} (s x : Operand) (t : TypeId)
    (ho : o.op = .call { callee := .builtin .append, args := #[s, x], argTypes := #[t, t] }) (e : TypeId) (z : Value) (bytes : Nat) (ht : P.underlying t = some (.slice e))
    (hinfo : (P.info? e).map (fun i => (i.zero, i.size, i.bytes)) = some (some z, 1, bytes)) (hz : z.cells.size = 1) (hb0 : 0 < bytes)
    (v : Value) (n : Nat) (xs : List Value) (hs : a.eval s = v) (HO : w.ownsRow 0 e 1 v n xs) (A : Option Addr) (m c : Nat) (news : List Value) (hx : a.eval x = .slice A m c) (hl : news.length = m)
    (hr : 0 < m → ∃ ad, A = some ad ∧ ∀ j u, news[j]? = some u → w.cell? (ad.add j) = some u) (h1 : ∀ u ∈ news, u.oneCell' = true) (hb : (n + m) * bytes ≤ 140737488355328)
    (h : ∀ v' w', w'.ownsRow 0 e 1 v' (n + m) (xs ++ news) → w.grownBy w' v.ownBlock → (v'.ownBlock = v.ownBlock ∨ v'.ownBlock = some w.heap.size) → K (a.put o.dst v') w') : o.wp P a w K Q := by
  obtain ⟨v', w', hrun, h2, h3, h4⟩ := run_append_any (P := P) w t o.type e z bytes ht hinfo hz hb0 v n xs HO A m c news hl hr h1 hb
  unfold Oper.wp execOp
  simp only [ho, resolve, invoke, builtin, Sem.run_bind, Sem.run_pure, Result.andThen_ok, List.map_toArray, List.map_cons, List.map_nil, hs, hx, hrun]
  exact h v' w' h2 h3 h4

theorem wpList_append_any {w : World} {ops : Array Oper} {rest : List Oper} {o : Oper} {a : Act} {Q : Exit → Act → World → Prop} (hgd : o.guard = none) (s x : Operand) (t : TypeId)
    (ho : o.op = .call { callee := .builtin .append, args := #[s, x], argTypes := #[t, t] }) (e : TypeId) (z : Value) (bytes : Nat) (ht : P.underlying t = some (.slice e))
    (hinfo : (P.info? e).map (fun i => (i.zero, i.size, i.bytes)) = some (some z, 1, bytes)) (hz : z.cells.size = 1) (hb0 : 0 < bytes)
    (v : Value) (n : Nat) (xs : List Value) (hs : a.eval s = v) (HO : w.ownsRow 0 e 1 v n xs) (A : Option Addr) (m c : Nat) (news : List Value) (hx : a.eval x = .slice A m c) (hl : news.length = m)
    (hr : 0 < m → ∃ ad, A = some ad ∧ ∀ j u, news[j]? = some u → w.cell? (ad.add j) = some u) (h1 : ∀ u ∈ news, u.oneCell' = true) (hb : (n + m) * bytes ≤ 140737488355328)
    (h : ∀ v' w', w'.ownsRow 0 e 1 v' (n + m) (xs ++ news) → w.grownBy w' v.ownBlock → (v'.ownBlock = v.ownBlock ∨ v'.ownBlock = some w.heap.size) → wpList P ops Q rest (a.put o.dst v') w') : wpList P ops Q (o :: rest) a w :=
  wpList_plain hgd fun _ hK => wp_append_any s x t ho e z bytes ht hinfo hz hb0 v n xs hs HO A m c news hx hl hr h1 hb fun v' w' h2 h3 h4 => hK _ _ (h v' w' h2 h3 h4)
end

/-! ### Rows of bytes of the call's own -/
/-- v is a slice whose array is the call's own, and reads as xs. -/
def OB (w : World) (v : Value) (xs : List UInt8) : Prop := w.ownsRow 0 5 1 v xs.length (bv xs)
theorem bv_one (xs : List UInt8) : ∀ u ∈ bv xs, u.oneCell' = true := by
  intro u hu
  simp only [bv, List.mem_map] at hu
  obtain ⟨x, _, rfl⟩ := hu
  rfl
theorem OB.nil (w : World) : OB w (.slice none 0 0) [] := World.ownsRow_nil w _ _ _
theorem OB.lit (w : World) (xs : List UInt8) (cs : Array Value) (hcs : cs = (bv xs).toArray) (hl : xs.length ≤ 140737488355328) : OB (w.alloc (.cells cs 5)) (.slice (some ⟨w.heap.size, 0, none⟩) xs.length xs.length) xs := by
  subst hcs
  have := World.ownsRow_lit (base := 0) (e := 5) (size := 1) w (bv xs).toArray xs.length (Nat.zero_le _) (by simp only [maxLen]; omega) (by simp [bv_length])
  simpa [OB] using this
theorem OB.kept {w w' : World} {v : Value} {xs : List UInt8} {row : Option Nat} (h : OB w v xs) (hg : w.grownBy w' row) (hne : v.ownBlock = none ∨ v.ownBlock ≠ row) : OB w' v xs := World.ownsRow.kept h hg hne
theorem grown_of_below {w w1 : World} (h : Below w.heap.size w w1) (row : Option Nat) : w.grownBy w1 row := ⟨h.os, h.tape, h.output, h.size, fun i hi _ => h.block i hi⟩
theorem OB.below {w w' : World} {v : Value} {xs : List UInt8} (h : OB w v xs) (hb : Below w.heap.size w w') : OB w' v xs := h.kept (grown_of_below hb none) (by cases v.ownBlock <;> simp)
theorem OB.lt {w : World} {v : Value} {xs : List UInt8} (h : OB w v xs) : ∀ k, v.ownBlock = some k → k < w.heap.size := fun k hk => (World.ownsRow.lt h k hk).2
theorem OB.form {w : World} {v : Value} {xs : List UInt8} (h : OB w v xs) : ∃ A c, v = .slice A xs.length c := by
  rcases h.2 with ⟨rfl, h0⟩ | ⟨g, cap, cur, rfl, _⟩
  · exact ⟨none, 0, by rw [h0]⟩
  · exact ⟨_, cap, rfl⟩
theorem OB.reads {w : World} {A : Option Addr} {m c : Nat} {xs : List UInt8} (h : OB w (.slice A m c) xs) (hl : xs.length ≤ 140737488355328) : RB w A xs := by
  refine ⟨hl, fun hn => ?_⟩
  rcases h.2 with ⟨hv, h0⟩ | ⟨g, cap, cur, hv, _, hh, _⟩
  · omega
  · have hg : A = some ⟨g, 0, none⟩ := by simp at hv; exact hv.1
    subst hg
    refine ⟨g, 0, rfl, (World.ownsRow.lt h g rfl).2, fun j hj => ?_⟩
    have := World.ownsRow.cells h (g := g) rfl j _ (bv_get xs j hj)
    have ha : (⟨g, 0, none⟩ : Addr).add j = ⟨g, 0 + j, none⟩ := by unfold Addr.add; split <;> simp_all
    rwa [ha] at this
theorem RB.src {w : World} {A : Option Addr} {ys : List UInt8} (h : RB w A ys) : 0 < ys.length → ∃ ad, A = some ad ∧ ∀ j u, (bv ys)[j]? = some u → w.cell? (ad.add j) = some u := by
  intro hn
  obtain ⟨b, off, rfl, _, hc⟩ := h.2 hn
  refine ⟨_, rfl, fun j u hj => ?_⟩
  have hlt : j < ys.length := by
    rcases Nat.lt_or_ge j ys.length with h' | h'
    · exact h'
    · rw [List.getElem?_eq_none (by rw [bv_length]; exact h')] at hj; cases hj
  rw [bv_get ys j hlt] at hj
  cases hj
  have ha : (⟨b, off, none⟩ : Addr).add j = ⟨b, off + j, none⟩ := by unfold Addr.add; split <;> simp_all
  rw [ha]; exact hc j hlt
theorem info_u8 : (Tryz.prog.info? 5).map (fun i => (i.zero, i.size, i.bytes)) = some (some (.int .u8 0), 1, 1) := by kernel_rfl
theorem wp_append_b {w : World} {o : Oper} {a : Act} {K : Act → World → Prop} {Q : Exit → Act → World → Prop} (s x : Operand)
    (ho : o.op = .call { callee := .builtin .append, args := #[s, x], argTypes := #[35, 35] })
    (v : Value) (xs : List UInt8) (hs : a.eval s = v) (HO : OB w v xs) (A : Option Addr) (c : Nat) (ys : List UInt8) (hx : a.eval x = .slice A ys.length c) (hr : RB w A ys) (hb : xs.length + ys.length ≤ 140737488355328)
    (h : ∀ v' w', OB w' v' (xs ++ ys) → w.grownBy w' v.ownBlock → (v'.ownBlock = v.ownBlock ∨ v'.ownBlock = some w.heap.size) → K (a.put o.dst v') w') : o.wp Tryz.prog a w K Q :=
  wp_append_any s x 35 ho 5 (.int .u8 0) 1 Tryz.underlying35 info_u8 rfl (by omega) v xs.length (bv xs) hs HO A ys.length c (bv ys) hx (bv_length ys) hr.src (bv_one ys) (by omega)
    fun v' w' h1 h2 h3 => h v' w' (by unfold OB; rw [bv_append, List.length_append]; exact h1) h2 h3
theorem wpList_append_b {w : World} {ops : Array Oper} {rest : List Oper} {o : Oper} {a : Act} {Q : Exit → Act → World → Prop} (hgd : o.guard = none) (s x : Operand)
    (ho : o.op = .call { callee := .builtin .append, args := #[s, x], argTypes := #[35, 35] })
    (v : Value) (xs : List UInt8) (hs : a.eval s = v) (HO : OB w v xs) (A : Option Addr) (c : Nat) (ys : List UInt8) (hx : a.eval x = .slice A ys.length c) (hr : RB w A ys) (hb : xs.length + ys.length ≤ 140737488355328)
    (h : ∀ v' w', OB w' v' (xs ++ ys) → w.grownBy w' v.ownBlock → (v'.ownBlock = v.ownBlock ∨ v'.ownBlock = some w.heap.size) → wpList Tryz.prog ops Q rest (a.put o.dst v') w') : wpList Tryz.prog ops Q (o :: rest) a w :=
  wpList_plain hgd fun _ hK => wp_append_b s x ho v xs hs HO A c ys hx hr hb fun v' w' h2 h3 h4 => hK _ _ (h v' w' h2 h3 h4)

/-! ### string(b) -/
def strB (xs : List UInt8) : ByteArray := ⟨xs.toArray⟩
theorem strOfNums_bytes (xs : List UInt8) : strOfNums (xs.map fun x => (x.toNat : Int)) = strB xs := by
  unfold strOfNums strB
  congr 1
  simp [Function.comp_def]
theorem run_str {w : World} {A : Option Addr} {xs : List UInt8} (h : RB w A xs) (n c : Nat) (hn : xs.length = n) : (convert 35 9 (.slice A n c)).run Tryz.prog w = .ok (.string (strB xs)) w := by
  rcases Nat.eq_zero_or_pos xs.length with h0 | h0
  · obtain rfl : xs = [] := List.eq_nil_of_length_eq_zero h0
    obtain rfl : n = 0 := by simpa using hn.symm
    rw [run_convert_bytes_string w 35 9 5 _ 0 c Tryz.underlying35 Tryz.underlying5 Tryz.underlying9]
    cases A <;> simp [Conv.bytesToString, loadCells, loadCellsFrom] <;> rfl
  · obtain ⟨b, off, rfl, _, hc⟩ := h.2 h0
    rw [run_convert_bytes_arg w 35 5 Tryz.underlying35 Tryz.underlying5 b off n c (xs.map fun x => (x.toNat : Int)) (by simpa using hn) (fun i hi => by
      rw [hc i (by omega)]
      simp [show i < xs.length by omega]) _ Tryz.underlying9, strOfNums_bytes]

/-- Behind 'append([]byte{}, b...)': a copy. -/
theorem clone_facts {w w1 : World} {v' : Value} {xs : List UInt8} (HO : OB w1 v' ([] ++ xs)) (hg : (w.alloc (.cells #[] 5)).grownBy w1 (Value.slice (some ⟨w.heap.size, 0, none⟩) 0 0).ownBlock)
    (hat : v'.ownBlock = (Value.slice (some ⟨w.heap.size, 0, none⟩) 0 0).ownBlock ∨ v'.ownBlock = some (w.alloc (.cells #[] 5)).heap.size) : OB w1 v' xs ∧ Below w.heap.size w w1 ∧ ∀ k, v'.ownBlock = some k → w.heap.size ≤ k := by
  refine ⟨by simpa using HO, ((Below.refl w.heap.size w).alloc (Nat.le_refl _) _).grown hg (by simp) (fun k hk => by simp [Value.ownBlock] at hk; omega), fun k hk => ?_⟩
  rcases hat with h | h
  · rw [h] at hk; simp [Value.ownBlock] at hk; omega
  · rw [h] at hk; simp at hk; omega

/-! ### What came in -/
/-- A slice of integers that came in: it is nil; or it leads to a row of 'cap' cells, the numbers 'zs' (the first 'len' are its elements, the rest its spare room), each fitting its kind. -/
def IsRow (k : IntKind) (w : World) (a : Option Addr) (len cap : Nat) (zs : List Int) : Prop :=
  (a = none ∧ len = 0 ∧ cap = 0 ∧ zs = []) ∨
  ∃ x, a = some x ∧ len ≤ cap ∧ cap ≤ maxLen ∧ zs.length = cap ∧ (∀ i, i < zs.length → w.cell? (x.add i) = some (.int k (zs.getD i 0))) ∧ ∀ n ∈ zs, (Lit.int k n).wf = true
theorem wf_u8 {n : Int} (h : (Lit.int .u8 n).wf = true) : 0 ≤ n ∧ n ≤ 255 := by
  have h2 : IntKind.u8.min ≤ n ∧ n ≤ IntKind.u8.max := by simpa [Lit.wf] using h
  simp [IntKind.min, IntKind.max, IntKind.signed, IntKind.bits] at h2
  omega
theorem IsRow.bytes {w : World} {a : Option Addr} {len cap : Nat} {zs : List Int} (h : IsRow .u8 w a len cap zs) (hl : len ≤ 140737488355328) : ∃ xs : List UInt8, xs.length = len ∧ RB w a xs := by
  rcases h with ⟨rfl, rfl, rfl, rfl⟩ | ⟨x, rfl, h1, h2, h3, h4, h5⟩
  · exact ⟨[], rfl, RB.nil _ _⟩
  · refine ⟨(zs.take len).map fun z => UInt8.ofNat z.toNat, by simp; omega, by simp; omega, fun hn => ?_⟩
    have hlen : 0 < len := by simp at hn; omega
    obtain ⟨b, off, spot⟩ := x
    have hc := h4 0 (by omega)
    have hspot : spot = none := by simpa [Addr.add] using World.cell?_spot hc
    subst hspot
    have hlt := World.block_lt_of_cell? w _ hc
    refine ⟨b, off, rfl, by simpa [Addr.add] using hlt, fun j hj => ?_⟩
    have hj' : j < len := by simp at hj; omega
    have hc := h4 j (by omega)
    have ha : (⟨b, off, none⟩ : Addr).add j = ⟨b, off + j, none⟩ := by unfold Addr.add; split <;> simp_all
    rw [ha] at hc
    rw [hc]
    have hz := wf_u8 (h5 (zs.getD j 0) (by rw [List.getD_eq_getElem?_getD, List.getElem?_eq_getElem (by omega)]; simp))
    have hjz : j < zs.length := by omega
    simp [List.getD_eq_getElem?_getD, List.getElem?_map, List.getElem?_take, hj', hjz] at hz ⊢
    omega

theorem IsRow.le {k : IntKind} {w : World} {a : Option Addr} {len cap : Nat} {zs : List Int} (h : IsRow k w a len cap zs) : len ≤ cap := by
  rcases h with ⟨_, rfl, rfl, _⟩ | ⟨x, _, h1, _⟩ <;> omega
/-- A slice of integers that reads as xs. -/
def RI (w : World) (k : IntKind) (A : Option Addr) (xs : List Int) : Prop :=
  0 < xs.length → ∃ b off, A = some ⟨b, off, none⟩ ∧ b < w.heap.size ∧ ∀ j, j < xs.length → w.cell? ⟨b, off + j, none⟩ = some (.int k (xs.getD j 0))
theorem RI.below {w w1 : World} {k : IntKind} {A : Option Addr} {xs : List Int} (h : RI w k A xs) (hb : Below w.heap.size w w1) : RI w1 k A xs := fun hn => by
  obtain ⟨b, off, e, hlt, hc⟩ := h hn
  exact ⟨b, off, e, Nat.lt_of_lt_of_le hlt hb.size, fun j hj => (hb.cell (p := ⟨b, off + j, none⟩) hlt).trans (hc j hj)⟩
theorem IsRow.ints {k : IntKind} {w : World} {a : Option Addr} {len cap : Nat} {zs : List Int} (h : IsRow k w a len cap zs) : ∃ xs : List Int, xs.length = len ∧ RI w k a xs ∧ ∀ x ∈ xs, (Lit.int k x).wf = true := by
  rcases h with ⟨rfl, rfl, rfl, rfl⟩ | ⟨x, rfl, h1, h2, h3, h4, h5⟩
  · exact ⟨[], rfl, fun h => by simp at h, fun _ h => by cases h⟩
  · refine ⟨zs.take len, by simp; omega, fun hn => ?_, fun x hx => h5 x (List.mem_of_mem_take hx)⟩
    have hlen : 0 < len := by simp at hn; omega
    obtain ⟨b, off, spot⟩ := x
    have hc := h4 0 (by omega)
    have hspot : spot = none := by simpa [Addr.add] using World.cell?_spot hc
    subst hspot
    have hlt := World.block_lt_of_cell? w _ hc
    refine ⟨b, off, rfl, by simpa [Addr.add] using hlt, fun j hj => ?_⟩
    have hj' : j < len := by simp at hj; omega
    have hc := h4 j (by omega)
    have ha : (⟨b, off, none⟩ : Addr).add j = ⟨b, off + j, none⟩ := by unfold Addr.add; split <;> simp_all
    rw [ha] at hc
    rw [hc]
    simp [List.getD_eq_getElem?_getD, List.getElem?_take, hj']

/-! ### int(uint(y) % uint(m)) -/
theorem u64_nonneg (y : Int) : 0 ≤ IntKind.u64.wrap y := by rw [IntKind.wrap_u64]; exact Int.emod_nonneg _ (by decide)
theorem modq (y : Int) (m : Nat) (h0 : 0 < m) (hm : m ≤ 4611686018427387904) : ∃ q : Nat, q < m ∧ wrap64 ((IntKind.u64.wrap y).tmod (m : Int)) = (q : Int) := by
  rw [Int.tmod_eq_emod_of_nonneg (u64_nonneg y)]
  have h1 := Int.emod_nonneg (IntKind.u64.wrap y) (b := (m : Int)) (by omega)
  have h2 := Int.emod_lt_of_pos (IntKind.u64.wrap y) (b := (m : Int)) (by omega)
  obtain ⟨q, hq⟩ := Int.eq_ofNat_of_zero_le h1
  refine ⟨q, by omega, ?_⟩
  rw [hq]
  unfold wrap64
  omega

/-- 's[q:]', as the walk spells it. -/
theorem RB.dropS {w : World} {A : Option Addr} {xs : List UInt8} (h : RB w A xs) (q c : Nat) (hc : xs.length ≤ c) : RB w (if c = q then A else Option.map (fun x => x.add q) A) (xs.drop q) := by
  by_cases h0 : xs.length ≤ q
  · rw [List.drop_eq_nil_of_le h0]; exact RB.nil _ _
  · rw [if_neg (by omega)]
    obtain ⟨b, off, rfl, hlt, hcell⟩ := h.2 (by omega)
    have ha : (⟨b, off, none⟩ : Addr).add q = ⟨b, off + q, none⟩ := by unfold Addr.add; split <;> simp_all
    simp only [Option.map_some, ha]
    exact h.drop q

/-! ### make, a store into a row of the call's own -/
theorem wpList_make_b {w : World} {ops : Array Oper} {rest : List Oper} {o : Oper} {a : Act} {Q : Exit → Act → World → Prop} (hg : o.guard = none) (l c : Operand) (hop : o.op = Op.makeSlice 35 l c)
    (L C : Int) (n : Nat) (hl : a.eval l = .int .i64 L) (hc : a.eval c = .int .i64 C) (hL : L = (n : Int)) (hC : C = (n : Int)) (hn : n ≤ 140737488355328)
    (hK : ∀ w', OB w' (.slice (some ⟨w.heap.size, 0, none⟩) n n) (List.replicate n 0) → Below w.heap.size w w' → w.heap.size < w'.heap.size → wpList Tryz.prog ops Q rest (a.put o.dst (.slice (some ⟨w.heap.size, 0, none⟩) n n)) w') :
    wpList Tryz.prog ops Q (o :: rest) a w := by
  obtain ⟨i, hi, hzz⟩ := Option.map_eq_some_iff.1 info_u8
  simp only [Prod.mk.injEq] at hzz
  refine wpList_make_full w hg l c 35 hop 0 5 i (.int .u8 0) 1 Tryz.underlying35 hi hzz.1 hzz.2.1 .i64 .i64 L C n hl hc hL hC (by rw [hzz.2.2]; omega) (by simp only [maxLen]; omega) (Nat.zero_le _) ?_
  intro w' ho hgr
  have e : (madeCells (Value.int .u8 0).cells (n * 1)).toList = bv (List.replicate n 0) := by
    rw [Nat.mul_one, show (Value.int IntKind.u8 0).cells = #[Value.int .u8 0] from rfl, toList_madeCells_one]
    simp [bv]
  have ho2 : OB w' (.slice (some ⟨w.heap.size, 0, none⟩) n n) (List.replicate n 0) := by
    unfold OB; rw [List.length_replicate, ← e]; exact ho
  exact hK w' ho2 ((Below.refl w.heap.size w).grown hgr (Nat.le_refl _) (fun k hk => by cases hk)) (ho2.lt w.heap.size rfl)
theorem OB.cellAt {w : World} {g c n : Nat} {xs : List UInt8} (h : OB w (.slice (some ⟨g, 0, none⟩) n c) xs) (j : Nat) (hj : j < xs.length) : w.cell? ⟨g, j, none⟩ = some (.int .u8 ((xs.getD j 0).toNat : Int)) := by
  have := World.ownsRow.cells h (g := g) rfl j _ (bv_get xs j hj)
  have ha : (⟨g, 0, none⟩ : Addr).add j = ⟨g, j, none⟩ := by unfold Addr.add; split <;> simp_all
  rwa [ha] at this
theorem OB.frozenAt {w : World} {g c n : Nat} {xs : List UInt8} (h : OB w (.slice (some ⟨g, 0, none⟩) n c) xs) (j : Nat) : w.frozen? ⟨g, j, none⟩ = false := by
  rcases h.2 with ⟨h', _⟩ | ⟨g', cap', cur, h', _, hg, _⟩
  · simp at h'
  · simp only [Value.slice.injEq, Option.some.injEq, Addr.mk.injEq, and_true, true_and] at h'
    obtain ⟨rfl, _⟩ := h'
    exact frozen_of_row w g j cur _ hg
theorem bv_set (xs : List UInt8) (j : Nat) (x : UInt8) : (bv xs).set j (.int .u8 (x.toNat : Int)) = bv (xs.set j x) := by
  simp [bv, List.map_set]
theorem OB.stored {w : World} {g c n : Nat} {xs : List UInt8} (h : OB w (.slice (some ⟨g, 0, none⟩) n c) xs) (j : Nat) (x : UInt8) :
    OB (w.setCell ⟨g, j, none⟩ (.int .u8 (x.toNat : Int))) (.slice (some ⟨g, 0, none⟩) n c) (xs.set j x) := by
  obtain ⟨A, c', e⟩ := h.form
  simp only [Value.slice.injEq] at e
  obtain ⟨rfl, rfl, rfl⟩ := e
  have := (World.ownsRow.stored h j (.int .u8 (x.toNat : Int))).1
  unfold OB
  rw [List.length_set, ← bv_set]
  exact this
theorem xor_u8 (x y : UInt8) : bits .xor .u8 (x.toNat : Int) (y.toNat : Int) = ((x ^^^ y).toNat : Int) := by
  show IntKind.u8.wrap ((BitVec.ofInt 8 (x.toNat : Int) ^^^ BitVec.ofInt 8 (y.toNat : Int)).toNat : Int) = _
  have hx := x.toNat_lt
  have hy := y.toNat_lt
  have h1 : (BitVec.ofInt 8 (x.toNat : Int)).toNat = x.toNat := by
    rw [BitVec.ofInt_natCast, BitVec.toNat_ofNat]; exact Nat.mod_eq_of_lt (by omega)
  have h2 : (BitVec.ofInt 8 (y.toNat : Int)).toNat = y.toNat := by
    rw [BitVec.ofInt_natCast, BitVec.toNat_ofNat]; exact Nat.mod_eq_of_lt (by omega)
  rw [BitVec.toNat_xor, h1, h2, UInt8.toNat_xor, IntKind.wrap_u8]
  have : x.toNat ^^^ y.toNat < 2 ^ 8 := Nat.xor_lt_two_pow (by omega) (by omega)
  omega

/-! ### min, max -/
theorem max2_int (k k' : IntKind) (x y : Int) : Builtin.max2 (.int k x) (.int k' y) = pure (.int k (max x y)) := by
  simp only [Builtin.max2, gt_iff_lt]; congr 2; split <;> omega
theorem min2_int (k k' : IntKind) (x y : Int) : Builtin.min2 (.int k x) (.int k' y) = pure (.int k (min x y)) := by
  simp only [Builtin.min2]; congr 2; split <;> omega
theorem max_two (ats : Array TypeId) (ty : TypeId) (a b : Value) : Builtin.max_ ats ty #[a, b] = (Builtin.max2 a b >>= fun s => pure s) := by simp only [Builtin.max_, List.foldlM_cons, List.foldlM_nil]
theorem min_two (ats : Array TypeId) (ty : TypeId) (a b : Value) : Builtin.min_ ats ty #[a, b] = (Builtin.min2 a b >>= fun s => pure s) := by simp only [Builtin.min_, List.foldlM_cons, List.foldlM_nil]
theorem min_four (ats : Array TypeId) (ty : TypeId) (a b c d : Value) : Builtin.min_ ats ty #[a, b, c, d] = (Builtin.min2 a b >>= fun s => Builtin.min2 s c >>= fun s => Builtin.min2 s d >>= fun s => pure s) := by simp only [Builtin.min_, List.foldlM_cons, List.foldlM_nil]

theorem OB.pos {w : World} {v : Value} {xs : List UInt8} (h : OB w v xs) (hn : 0 < xs.length) : ∃ g c, v = .slice (some ⟨g, 0, none⟩) xs.length c ∧ xs.length ≤ c := by
  rcases h.2 with ⟨rfl, h0⟩ | ⟨g, cap, cur, rfl, _, _, hc, _⟩
  · omega
  · exact ⟨g, cap, rfl, hc⟩

end Go.Proofs.YtdhafdejionefaaGreat

/- The walks of package crc24's leaves: nibble, the closure of Next. -/
namespace Go.Proofs.YtdhafdejionefaaGreat
set_option linter.unusedVariables false
set_option linter.unusedSimpArgs false
open Go.RowKit

theorem crcTab_map : crcTab.map (Value.int .i64) = [.int .i64 0x000000, .int .i64 0x864cfb, .int .i64 0x8ad50d, .int .i64 0x0c99f6, .int .i64 0x93e6e1, .int .i64 0x15aa1a, .int .i64 0x1933ec, .int .i64 0x9f7f17, .int .i64 0xa18139, .int .i64 0x27cdc2, .int .i64 0x2b5434, .int .i64 0xad18cf, .int .i64 0x3267d8, .int .i64 0xb42b23, .int .i64 0xb8b2d5, .int .i64 0x3efe2e] := rfl

theorem crcTab_at {l : List Value} (hl : l = crcTab.map (Value.int .i64)) (k : Nat) (h : k < l.length) : l[k] = .int .i64 (crcTab.getD k 0) := by
  subst hl
  simp at h
  simp [h]

set_option maxHeartbeats 400000 in
theorem nibble_any (n : Int) (h0 : 0 ≤ n) (h1 : n < 16) (w : World) :
    Calls Tryz.prog 101 #[.int .i64 n] w fun e w' => e = .returned (.int .i64 (crcTab.getD n.toNat 0)) ∧ Below w.heap.size w w' := by
  go_enter Tryz.func101, Tryz.ntmps101
  go_wp2
  go_ret
  exact ⟨ret_val (crcTab_at crcTab_map.symm _ _), (Below.refl _ _).alloc (Nat.le_refl _) _⟩

set_option maxHeartbeats 400000 in
theorem step_any (s n : Int) (b : Nat) (w : World) (h0 : 0 ≤ bits .xor .i64 (s / 1048576) n) (h1 : bits .xor .i64 (s / 1048576) n < 16)
    (hc : w.cell? ⟨b, 0, none⟩ = some (.int .i64 s)) (hf : w.frozen? ⟨b, 0, none⟩ = false) :
    Calls Tryz.prog 100 #[.int .i64 n, .pointer (some ⟨b, 0, none⟩)] w fun e w' => e = .returned (.tuple #[]) ∧ ∃ w1, Below w.heap.size w w1 ∧ w' = w1.setCell ⟨b, 0, none⟩ (.int .i64 (nibStep s n)) := by
  have hb : w.heap.size ≠ b := World.new_ne w ⟨b, 0, none⟩ hc
  have HB := (Below.refl w.heap.size w).drew
  go_enter Tryz.func100, Tryz.ntmps100
  go_wp2
  go_region_with (go_at_call 101; refine (nibble_any _ h0 h1 _).mono ?_; rintro e w' ⟨rfl, hbel⟩; (have hS2 := keepOne (w := w) (W := w.drew) (p := ⟨b, 0, none⟩) (v := .int .i64 s) ⟨HB, by simpa using hc, by simpa using hf⟩ hbel; obtain ⟨hq1, hq2, hq3⟩ := hS2))
  all_goals
    go_end0
    exact ⟨rfl, _, hq1, by simp [nibStep]⟩

end Go.Proofs.YtdhafdejionefaaGreat

/- The walks of package crc24 and of its reference: Next, Sum, Fits. -/
namespace Go.Proofs.YtdhafdejionefaaGreat
set_option linter.unusedVariables false
set_option linter.unusedSimpArgs false
open Go.RowKit

theorem crcN_snoc (s : B24) (xs : List UInt8) (k : Nat) (h : k < xs.length) : crcN s (xs.take (k + 1)) = nst (nst (crcN s (xs.take k)) (hiN (xs.getD k 0))) (loN (xs.getD k 0)) := by
  rw [← bys_nst]
  unfold crcN
  rw [List.take_succ_eq_append_getElem h, List.foldl_append]
  simp [h]

theorem hi_num (x : UInt8) : bits .and .i64 ((x.toNat : Int) / 16) 15 = ((hiN x).toNat : Int) := by
  have h := x.toNat_lt
  have e : ((x.toNat : Int) / 16) = ((x.toNat / 16 : Nat) : Int) := by omega
  have e2 : (15 : Int) = ((15 : Nat) : Int) := rfl
  rw [e, e2, and_i64_nat _ _ (by omega) (by omega)]
  have : x.toNat / 16 &&& 15 = x.toNat / 16 % 16 := Nat.and_two_pow_sub_one_eq_mod (x.toNat / 16) 4
  rw [this]
  simp [hiN]
theorem lo_num (x : UInt8) : bits .and .i64 (x.toNat : Int) 15 = ((loN x).toNat : Int) := by
  have h := x.toNat_lt
  have e2 : (15 : Int) = ((15 : Nat) : Int) := rfl
  rw [e2, and_i64_nat _ _ (by omega) (by omega)]
  have : x.toNat &&& 15 = x.toNat % 16 := Nat.and_two_pow_sub_one_eq_mod x.toNat 4
  rw [this]
  simp [loN]

/-- The closure's contract over bit vectors. -/
theorem step_bv (s : B24) (n : BitVec 4) (b : Nat) (m : Int) (hm : m = (n.toNat : Int)) (w : World)
    (hc : w.cell? ⟨b, 0, none⟩ = some (.int .i64 (s.toNat : Int))) (hf : w.frozen? ⟨b, 0, none⟩ = false) :
    Calls Tryz.prog 100 #[.int .i64 m, .pointer (some ⟨b, 0, none⟩)] w fun e w' => e = .returned (.tuple #[]) ∧ ∃ w1, Below w.heap.size w w1 ∧ w' = w1.setCell ⟨b, 0, none⟩ (.int .i64 ((nst s n).toNat : Int)) := by
  subst hm
  have hx := xor_top s n
  have hl := ((s >>> 20).setWidth 4 ^^^ n : BitVec 4).isLt
  refine (step_any (s.toNat : Int) (n.toNat : Int) b w (by rw [hx]; omega) (by rw [hx]; omega) hc hf).mono ?_
  rintro e w' ⟨rfl, w1, hb, rfl⟩
  exact ⟨rfl, w1, hb, by rw [nibStep_nst]⟩

set_option maxHeartbeats 1000000 in
theorem next_any (s : Int) (A : Option Addr) (c : Nat) (xs : List UInt8) (w : World) (hr : RB w A xs) :
    Calls Tryz.prog 87 #[.int .i64 s, .slice A xs.length c] w fun e w' => e = .returned (.int .i64 ((crcN (BitVec.ofInt 24 s) xs).toNat : Int)) ∧ Below w.heap.size w w' := by
  obtain ⟨n, hn⟩ : ∃ n, n = xs.length := ⟨_, rfl⟩
  have hmx : n ≤ 140737488355328 := by rw [hn]; exact hr.1
  rw [← hn]
  have HN := Lib.hid hn
  have HR := Lib.hid hr
  clear hr hn
  go_enter Tryz.func87, Tryz.ntmps87
  go_wp2_with fail
  have hf0 : (w.alloc (.cells #[.int .i64 (bits .and .i64 s 16777215)] 3)).frozen? ⟨w.heap.size, 0, none⟩ = false := by simp
  have hc0 : (w.alloc (.cells #[.int .i64 (bits .and .i64 s 16777215)] 3)).cell? ⟨w.heap.size, 0, none⟩ = some (.int .i64 ((crcN (BitVec.ofInt 24 s) (xs.take 0)).toNat : Int)) := by
    rw [and_all]; simp [crcN]
  have hb0 : Below w.heap.size w (w.alloc (.cells #[.int .i64 (bits .and .i64 s 16777215)] 3)) := (Below.refl _ _).alloc (Nat.le_refl _) _
  generalize (w.alloc (.cells #[.int .i64 (bits .and .i64 s 16777215)] 3)) = w1 at *
  go_loopw [14] (fun i wr => ∃ k : Nat, k ≤ n ∧ i = .int .i64 k ∧ Below w.heap.size w wr ∧ wr.cell? ⟨w.heap.size, 0, none⟩ = some (.int .i64 ((crcN (BitVec.ofInt 24 s) (xs.take k)).toNat : Int)) ∧ wr.frozen? ⟨w.heap.size, 0, none⟩ = false) (fun i _ => n - (intOf i).toNat)
  case atStart => exact ⟨0, Nat.zero_le _, rfl, hb0, hc0, hf0⟩
  case round =>
    clear hf0 hc0 hb0
    obtain ⟨k, hk, rfl, hb, hc, hf⟩ := hrel
    by_cases hlt : k < n
    · obtain ⟨b, off, rfl, hbl, hcell⟩ := HR.out.2 (by rw [← HN.out]; omega)
      have hcx : wr.cell? ⟨b, off + k, none⟩ = some (.int .u8 ((xs.getD k 0).toNat : Int)) := (hb.cell (p := ⟨b, off + k, none⟩) hbl).trans (hcell k (by rw [← HN.out]; exact hlt))
      clear hcell
      obtain ⟨x, hx⟩ : ∃ x, x = xs.getD k 0 := ⟨_, rfl⟩
      rw [← hx] at hcx
      have HX := Lib.hid hx
      clear hx
      have hxb : (x.toNat : Int) < 256 := by have := x.toNat_lt; omega
      go_wp2_with fail
      refine wp_loop_rounds 3 ?_
      rw [rounds_succ]
      go_wp2_with fail
      refine (step_bv _ (hiN x) _ _ ?hm1 _ hc hf).mono ?_
      case hm1 => exact hi_num x
      rintro e w' ⟨rfl, w2, hb2, rfl⟩
      obtain ⟨hb3, hc3, hf3⟩ := setOne (.int .i64 ((nst (crcN (BitVec.ofInt 24 s) (List.take k xs)) (hiN x)).toNat : Int)) hb (p := ⟨w.heap.size, 0, none⟩) (Nat.le_refl _) hc hf hb2
      clear hb hc hf hcx hb2
      generalize w2.setCell _ _ = w3 at *
      go_wp2_with fail
      rw [rounds_succ]
      go_wp2_with fail
      refine (step_bv _ (loN x) _ _ ?hm2 _ hc3 hf3).mono ?_
      case hm2 => exact lo_num x
      rintro e w' ⟨rfl, w4, hb4, rfl⟩
      have HC := crcN_snoc (BitVec.ofInt 24 s) xs k (by rw [← HN.out]; exact hlt)
      rw [← HX.out] at HC
      obtain ⟨hb5, hc5, hf5⟩ := setOne (.int .i64 ((nst (nst (crcN (BitVec.ofInt 24 s) (List.take k xs)) (hiN x)) (loN x)).toNat : Int)) hb3 (p := ⟨w.heap.size, 0, none⟩) (Nat.le_refl _) hc3 hf3 hb4
      clear hb3 hc3 hf3 hb4
      generalize w4.setCell _ _ = w5 at *
      rw [← HC] at hc5
      clear HC
      go_wp2_with fail
      rw [rounds_succ]
      go_wp2_with fail
      go_roundw
      case rel => exact ⟨k + 1, by omega, by go_num, hb5, hc5, hf5⟩
      case measure => simp [intOf]; omega
    · obtain rfl : k = n := by omega
      go_wp2_with fail
      go_ret
      exact ⟨ret_int (by rw [HN.out, List.take_length]), hb⟩

theorem wrap_u8_64 (x : UInt8) : wrap64 (x.toNat : Int) = x.toNat := by have := x.toNat_lt; unfold wrap64; omega

/-- Sum. -/
def crcS (xs : List UInt8) : B24 := crcN 0xb704ce#24 xs
theorem sum_any (A : Option Addr) (c : Nat) (xs : List UInt8) (w : World) (hr : RB w A xs) :
    Calls Tryz.prog 69 #[.slice A xs.length c] w fun e w' => e = .returned (.int .i64 ((crcS xs).toNat : Int)) ∧ Below w.heap.size w w' := by
  go_enter Tryz.func69, Tryz.ntmps69
  go_wp2_with fail
  refine (next_any 11994318 A c xs w hr).mono ?_
  rintro e w' ⟨rfl, hb⟩
  go_wp2
  go_ret
  exact ⟨rfl, hb⟩

theorem sum_n (A : Option Addr) (c n : Nat) (xs : List UInt8) (w : World) (hn : xs.length = n) (hr : RB w A xs) :
    Calls Tryz.prog 69 #[.slice A n c] w fun e w' => e = .returned (.int .i64 ((crcS xs).toNat : Int)) ∧ Below w.heap.size w w' := by
  subst hn; exact sum_any A c xs w hr

theorem fits_any (s : Int) (A : Option Addr) (c : Nat) (xs : List UInt8) (w : World) (hr : RB w A xs) :
    Calls Tryz.prog 84 #[.slice A xs.length c, .int .i64 s] w fun e w' => e = .returned (.bool (((crcS xs).toNat : Int) == s)) ∧ Below w.heap.size w w' := by
  go_enter Tryz.func84, Tryz.ntmps84
  go_wp2_with fail
  refine (sum_any A c xs w hr).mono ?_
  rintro e w' ⟨rfl, hb⟩
  go_wp2
  go_ret
  exact ⟨rfl, hb⟩

end Go.Proofs.YtdhafdejionefaaGreat

/- Numbers in bytes, frames of records: plain Lean, no program. -/
namespace Go.Proofs.YtdhafdejionefaaGreat
set_option linter.unusedVariables false
set_option linter.unusedSimpArgs false

/-- How many bytes a number has. -/
def nbytes (n : Nat) : Nat := if h : n = 0 then 0 else nbytes (n / 256) + 1
termination_by n
decreasing_by omega
theorem nbytes_zero : nbytes 0 = 0 := by rw [nbytes]; simp
theorem nbytes_pos {n : Nat} (h : 0 < n) : nbytes n = nbytes (n / 256) + 1 := by rw [nbytes, dif_neg (by omega)]
/-- The last k bytes of a number, the greatest first. -/
def be : Nat → Nat → List UInt8
  | 0, _ => []
  | k + 1, n => be k (n / 256) ++ [UInt8.ofNat (n % 256)]
theorem be_len : ∀ (k n : Nat), (be k n).length = k
  | 0, _ => rfl
  | k + 1, n => by rw [be, List.length_append, be_len k]; rfl
def val (xs : List UInt8) : Nat := xs.foldl (fun a x => 256 * a + x.toNat) 0
theorem val_snoc (xs : List UInt8) (x : UInt8) : val (xs ++ [x]) = 256 * val xs + x.toNat := by simp [val]
theorem val_be : ∀ (k n : Nat), n < 256 ^ k → val (be k n) = n
  | 0, n, h => by have : n = 0 := by simpa using h
                  subst this; rfl
  | k + 1, n, h => by
    rw [be, val_snoc, val_be k (n / 256) (by rw [Nat.div_lt_iff_lt_mul (by omega)]; rw [Nat.pow_succ] at h; exact h)]
    have : (UInt8.ofNat (n % 256)).toNat = n % 256 := by simp
    omega
theorem lt_nbytes (n : Nat) : n < 256 ^ nbytes n := by
  induction n using Nat.strongRecOn with
  | ind n ih =>
    rcases Nat.eq_zero_or_pos n with rfl | h
    · rw [nbytes_zero]; decide
    · have := ih (n / 256) (by omega)
      rw [nbytes_pos h, Nat.pow_succ]
      omega
theorem nbytes_le {k : Nat} : ∀ {n : Nat}, n < 256 ^ k → nbytes n ≤ k := by
  induction k with
  | zero => intro n h; have : n = 0 := by simpa using h
            subst this; rw [nbytes_zero]; exact Nat.le_refl 0
  | succ k ih =>
    intro n h
    rcases Nat.eq_zero_or_pos n with rfl | hp
    · rw [nbytes_zero]; omega
    · rw [nbytes_pos hp]
      have := ih (n := n / 256) (by rw [Nat.div_lt_iff_lt_mul (by omega)]; rw [Nat.pow_succ] at h; exact h)
      omega
/-- Byte i of the k last ones. -/
theorem be_get : ∀ (k n i : Nat), i < k → (be k n)[i]? = some (UInt8.ofNat (n / 256 ^ (k - 1 - i) % 256))
  | 0, _, _, h => by omega
  | k + 1, n, i, h => by
    rw [be]
    rcases Nat.lt_or_ge i k with h' | h'
    · rw [List.getElem?_append_left (by rw [be_len]; exact h'), be_get k (n / 256) i h', Nat.div_div_eq_div_mul]
      have e : 256 * 256 ^ (k - 1 - i) = 256 ^ (k + 1 - 1 - i) := by
        rw [← Nat.pow_succ']
        congr 1
        omega
      rw [e]
    · have : i = k := by omega
      subst this
      rw [List.getElem?_append_right (by rw [be_len]; omega), be_len]
      simp
/-- The greatest byte of a number is not zero. -/
theorem be_first {n : Nat} (h : 0 < n) : ∃ x xs, be (nbytes n) n = x :: xs ∧ x ≠ 0 ∧ x.toNat = n / 256 ^ (nbytes n - 1) := by
  have hl := be_len (nbytes n) n
  have hp : 0 < nbytes n := by rw [nbytes_pos h]; omega
  have h0 := be_get (nbytes n) n 0 hp
  match hb : be (nbytes n) n with
  | [] => rw [hb] at hl; simp at hl; omega
  | x :: xs =>
    rw [hb] at h0
    simp only [List.getElem?_cons_zero, Option.some.injEq, Nat.sub_zero] at h0
    have hlt : n / 256 ^ (nbytes n - 1) < 256 := by
      rw [Nat.div_lt_iff_lt_mul (Nat.pow_pos (by omega))]
      have := lt_nbytes n
      have e : 256 * 256 ^ (nbytes n - 1) = 256 ^ nbytes n := by
        rw [← Nat.pow_succ']; congr 1; omega
      omega
    have hge : 0 < n / 256 ^ (nbytes n - 1) := by
      apply Nat.div_pos _ (Nat.pow_pos (by omega))
      rcases Nat.lt_or_ge n (256 ^ (nbytes n - 1)) with hh | hh
      · have := nbytes_le hh; omega
      · exact hh
    have hx : x.toNat = n / 256 ^ (nbytes n - 1) := by
      rw [h0, Nat.mod_eq_of_lt hlt]
      simp
      exact hlt
    exact ⟨x, xs, rfl, fun e => by rw [e] at hx; simp at hx; omega, hx⟩
/-- Put. -/
def putN (n : Nat) : List UInt8 := UInt8.ofNat (nbytes n) :: be (nbytes n) n
/-- What number tells: the number, its size, the error. -/
def numP (b : List UInt8) : Int × Int × Int :=
  match b with
  | [] => (0, 0, 10)
  | k :: r =>
    if 8 < k.toNat then (0, 0, 11)
    else if r.length < k.toNat then (0, 0, 10)
    else if (0 < k.toNat ∧ r.getD 0 0 = 0) ∨ (k.toNat = 8 ∧ 127 < (r.getD 0 0).toNat) then (0, 0, 11)
    else ((val (r.take k.toNat) : Int), 1 + (k.toNat : Int), 0)

theorem rev_ind {α : Type} {P : List α → Prop} (h0 : P []) (h1 : ∀ xs x, P xs → P (xs ++ [x])) : ∀ xs, P xs := by
  have h : ∀ ys : List α, P ys.reverse := fun ys => by
    induction ys with
    | nil => exact h0
    | cons y ys ih => rw [List.reverse_cons]; exact h1 _ _ ih
  intro xs
  have := h xs.reverse
  rwa [List.reverse_reverse] at this
theorem val_lt : ∀ (xs : List UInt8), val xs < 256 ^ xs.length := by
  refine rev_ind (by decide) fun xs x ih => ?_
  rw [val_snoc, List.length_append, List.length_singleton, Nat.pow_succ]
  have := x.toNat_lt
  omega
theorem be_val : ∀ xs : List UInt8, be xs.length (val xs) = xs := by
  refine rev_ind rfl fun xs x ih => ?_
  rw [val_snoc, List.length_append, List.length_singleton, be]
  have h := x.toNat_lt
  rw [show (256 * val xs + x.toNat) / 256 = val xs by omega, ih, show (256 * val xs + x.toNat) % 256 = x.toNat by omega]
  simp
theorem val_cons (x : UInt8) : ∀ (xs : List UInt8), val (x :: xs) = x.toNat * 256 ^ xs.length + val xs := by
  refine rev_ind (by simp [val]) fun xs y ih => ?_
  rw [← List.cons_append, val_snoc, val_snoc, ih, List.length_append, List.length_singleton, Nat.pow_succ, Nat.mul_add]
  rw [← Nat.mul_assoc 256, Nat.mul_comm 256 x.toNat, Nat.mul_assoc x.toNat 256, Nat.mul_comm 256 (256 ^ xs.length)]
  omega
theorem nbytes_val (x : UInt8) (xs : List UInt8) (h : x ≠ 0) : nbytes (val (x :: xs)) = xs.length + 1 := by
  have h1 : nbytes (val (x :: xs)) ≤ xs.length + 1 := nbytes_le (by have := val_lt (x :: xs); simpa using this)
  rcases Nat.lt_or_ge (nbytes (val (x :: xs))) (xs.length + 1) with h2 | h2
  · exfalso
    have h3 := lt_nbytes (val (x :: xs))
    have h4 : 256 ^ nbytes (val (x :: xs)) ≤ 256 ^ xs.length := Nat.pow_le_pow_right (by omega) (by omega)
    have h5 : 1 ≤ x.toNat := by
      rcases Nat.eq_zero_or_pos x.toNat with e | e
      · exact absurd (UInt8.toNat_inj.1 (by rw [e]; rfl)) h
      · exact e
    have h6 := val_cons x xs
    have h7 : 256 ^ xs.length ≤ x.toNat * 256 ^ xs.length := Nat.le_mul_of_pos_left _ h5
    omega
  · omega
theorem putN_len (n : Nat) : (putN n).length = 1 + nbytes n := by rw [putN, List.length_cons, be_len]; omega
theorem nbytes_small {n : Nat} (h : n < 9223372036854775808) : nbytes n ≤ 8 := nbytes_le (by omega)
theorem numP_put (n : Nat) (r : List UInt8) (h : n < 9223372036854775808) : numP (putN n ++ r) = ((n : Int), 1 + (nbytes n : Int), 0) := by
  have h8 := nbytes_small h
  have hk : (UInt8.ofNat (nbytes n)).toNat = nbytes n := by simp; omega
  have hl := be_len (nbytes n) n
  have hc : ¬ ((0 < nbytes n ∧ (be (nbytes n) n ++ r).getD 0 0 = 0) ∨ (nbytes n = 8 ∧ 127 < ((be (nbytes n) n ++ r).getD 0 0).toNat)) := by
    rcases Nat.eq_zero_or_pos n with rfl | hp
    · rw [nbytes_zero]; simp
    · obtain ⟨x, xs, hb, h0, hx⟩ := be_first hp
      rw [hb]
      simp only [List.cons_append, List.getD_cons_zero]
      rintro (⟨_, h1⟩ | ⟨h1, h2⟩)
      · exact h0 h1
      · rw [hx, h1] at h2
        have : n / 256 ^ 7 < 128 := by rw [Nat.div_lt_iff_lt_mul (by decide)]; omega
        have e : (256 : Nat) ^ (8 - 1) = 256 ^ 7 := rfl
        omega
  rw [putN, List.cons_append, numP]
  rw [hk, if_neg (by omega), if_neg (by rw [List.length_append, hl]; omega), if_neg hc, List.take_append_of_le_length (by omega), List.take_of_length_le (by omega), val_be _ _ (lt_nbytes n)]
/-- What has been read is what Put lays. -/
theorem numP_inv {b : List UInt8} {n s : Int} (h : numP b = (n, s, 0)) : ∃ m : Nat, ∃ r, n = (m : Int) ∧ s = 1 + (nbytes m : Int) ∧ b = putN m ++ r ∧ m < 9223372036854775808 := by
  match b with
  | [] => simp [numP] at h
  | k :: r =>
    rw [numP] at h
    split at h
    · simp at h
    · split at h
      · simp at h
      · split at h
        · simp at h
        · rename_i h1 h2 h3
          simp only [Prod.mk.injEq, and_true] at h
          have hkl : (r.take k.toNat).length = k.toNat := by rw [List.length_take]; omega
          have hnb : nbytes (val (r.take k.toNat)) = k.toNat := by
            match hr : r.take k.toNat with
            | [] => rw [hr] at hkl; simp at hkl; rw [← hkl]; exact nbytes_zero
            | x :: xs =>
              rw [hr] at hkl
              rw [nbytes_val x xs ?_]
              · simpa using hkl
              · intro e
                apply h3
                refine .inl ⟨by rw [← hkl]; simp, ?_⟩
                match r, hr with
                | [], hr => simp at hr
                | y :: ys, hr =>
                  have hk0 : k.toNat = xs.length + 1 := by simpa using hkl.symm
                  rw [hk0, List.take_succ_cons] at hr
                  simp at hr
                  simp [hr.1, e]
          refine ⟨val (r.take k.toNat), r.drop k.toNat, h.1.symm, by rw [hnb]; exact h.2.symm, ?_, ?_⟩
          · rw [putN, hnb]
            have := be_val (r.take k.toNat)
            rw [hkl] at this
            rw [this, List.cons_append, List.take_append_drop]
            simp
          · rcases Nat.lt_or_ge k.toNat 8 with h8 | h8
            · have := val_lt (r.take k.toNat)
              rw [hkl] at this
              have h9 : 256 ^ k.toNat ≤ 256 ^ 7 := Nat.pow_le_pow_right (by omega) (by omega)
              have e : (256 : Nat) ^ 7 = 72057594037927936 := by decide
              omega
            · have hk8 : k.toNat = 8 := by omega
              match hr : r.take k.toNat with
              | [] => rw [hr] at hkl; simp at hkl; omega
              | x :: xs =>
                rw [hr] at hkl
                have hx : x.toNat ≤ 127 := by
                  match r, hr with
                  | [], hr => simp at hr
                  | y :: ys, hr =>
                    rw [hk8, List.take_succ_cons] at hr
                    simp at hr
                    have h4 := fun hh => h3 (.inr ⟨hk8, hh⟩)
                    simp [hr.1] at h4
                    exact h4
                have h5 := val_cons x xs
                have h6 := val_lt xs
                have h7 : xs.length = 7 := by simp at hkl; omega
                rw [h7] at h5 h6
                have e : (256 : Nat) ^ 7 = 72057594037927936 := by decide
                rw [e] at h5 h6
                omega

end Go.Proofs.YtdhafdejionefaaGreat
