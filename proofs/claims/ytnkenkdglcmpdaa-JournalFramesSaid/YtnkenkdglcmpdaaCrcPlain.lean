/- The plain law of crc24: bit steps, byte steps and nibble steps over 24 bits. -/
import Derived.WalkKit
namespace Go.Proofs.Ytnkenkdglcmpdaa
set_option linter.unusedVariables false
set_option linter.unusedSimpArgs false
open Go.RowKit

/-! ### bits on naturals -/
theorem i64_keep (n : Int) (h0 : 0 ≤ n) (h1 : n < 2 ^ 63) : IntKind.i64.wrap n = n := IntWalk.i64_in n (by omega)
theorem xor_i64_nat (a b : Nat) (ha : a < 2 ^ 63) (hb : b < 2 ^ 63) : bits .xor .i64 (a : Int) (b : Int) = ((a ^^^ b : Nat) : Int) := by
  have hx : a ^^^ b < 2 ^ 63 := Nat.xor_lt_two_pow ha hb
  have h1 : (BitVec.ofInt 64 (a : Int)).toNat = a := by
    rw [BitVec.ofInt_natCast, BitVec.toNat_ofNat]; exact Nat.mod_eq_of_lt (by omega)
  have h2 : (BitVec.ofInt 64 (b : Int)).toNat = b := by
    rw [BitVec.ofInt_natCast, BitVec.toNat_ofNat]; exact Nat.mod_eq_of_lt (by omega)
  show IntKind.i64.wrap ((BitVec.ofInt 64 (a : Int) ^^^ BitVec.ofInt 64 (b : Int)).toNat : Int) = _
  rw [BitVec.toNat_xor, h1, h2]
  exact i64_keep _ (by omega) (by exact_mod_cast hx)
theorem and_i64_nat (a b : Nat) (ha : a < 2 ^ 63) (hb : b < 2 ^ 63) : bits .and .i64 (a : Int) (b : Int) = ((a &&& b : Nat) : Int) :=
  (bits_nat .i64 63 (by decide) (fun n h0 h1 => i64_keep n h0 h1) a b ha hb).1
/-- 'x & all' of any int: its lowest 24 bits. -/
theorem and_all (s : Int) : bits .and .i64 s 16777215 = ((BitVec.ofInt 24 s).toNat : Int) := by
  show IntKind.i64.wrap ((BitVec.ofInt 64 s &&& BitVec.ofInt 64 16777215).toNat : Int) = _
  have h : (BitVec.ofInt 64 s &&& BitVec.ofInt 64 16777215).toNat = (BitVec.ofInt 24 s).toNat := by
    rw [BitVec.toNat_and]
    have e : (BitVec.ofInt 64 16777215).toNat = 2 ^ 24 - 1 := by decide
    rw [e, Nat.and_two_pow_sub_one_eq_mod]
    simp only [BitVec.toNat_ofInt]
    omega
  rw [h]
  exact i64_keep _ (by omega) (by have := (BitVec.ofInt 24 s).isLt; omega)

/-! ### As the program has it -/
def crcTab : List Int := [0x000000, 0x864cfb, 0x8ad50d, 0x0c99f6, 0x93e6e1, 0x15aa1a, 0x1933ec, 0x9f7f17, 0xa18139, 0x27cdc2, 0x2b5434, 0xad18cf, 0x3267d8, 0xb42b23, 0xb8b2d5, 0x3efe2e]
/-- The closure of Next: four bits more. -/
def nibStep (s n : Int) : Int := bits .xor .i64 (bits .and .i64 (IntKind.i64.wrap (s * 16)) 16777215) (crcTab.getD (bits .xor .i64 (s / 1048576) n).toNat 0)

/-! ### The steps -/
abbrev B24 := BitVec 24
def poly24 : B24 := 0x864cfb#24
/-- A bit more. -/
def bst (s : B24) : B24 := (s <<< 1) ^^^ (if s.msb then poly24 else 0#24)
def bsts : Nat → B24 → B24
  | 0, s => s
  | n + 1, s => bsts n (bst s)
theorem bst_xor (a b : B24) : bst (a ^^^ b) = bst a ^^^ bst b := by
  unfold bst
  rw [BitVec.shiftLeft_xor_distrib, BitVec.msb_xor]
  cases a.msb <;> cases b.msb <;> simp
  · ac_rfl
  · ac_rfl
  · have : a <<< 1 ^^^ poly24 ^^^ (b <<< 1 ^^^ poly24) = a <<< 1 ^^^ b <<< 1 ^^^ (poly24 ^^^ poly24) := by ac_rfl
    rw [this]; simp
theorem bsts_xor : ∀ (n : Nat) (a b : B24), bsts n (a ^^^ b) = bsts n a ^^^ bsts n b
  | 0, _, _ => rfl
  | n + 1, a, b => by simp only [bsts]; rw [bst_xor, bsts_xor n]
theorem bsts_add : ∀ (m n : Nat) (s : B24), bsts (m + n) s = bsts n (bsts m s)
  | 0, n, s => by simp [bsts]
  | m + 1, n, s => by rw [Nat.add_right_comm]; simp only [bsts]; exact bsts_add m n _

theorem bst_small (x : B24) (h : x.toNat < 2 ^ 23) : bst x = x <<< 1 := by
  unfold bst
  have : x.msb = false := by rw [BitVec.msb_eq_decide]; simp; omega
  simp [this]
theorem bsts_small : ∀ (n : Nat) (x : B24), x.toNat * 2 ^ n < 2 ^ 24 → bsts n x = x <<< n
  | 0, x, _ => by simp [bsts]
  | n + 1, x, h => by
    have h1 : x.toNat * 2 < 2 ^ 24 := Nat.lt_of_le_of_lt (Nat.mul_le_mul_left _ (by rw [Nat.pow_succ]; have := Nat.two_pow_pos n; omega)) h
    have h2 : (x <<< 1).toNat = x.toNat * 2 := by
      rw [BitVec.toNat_shiftLeft, Nat.shiftLeft_eq]; omega
    simp only [bsts]
    rw [bst_small x (by omega), bsts_small n (x <<< 1) (by rw [h2, Nat.mul_assoc, ← Nat.pow_succ']; exact h), ← BitVec.shiftLeft_add, Nat.add_comm]
def tabB (m : BitVec 4) : B24 := bsts 4 (m.setWidth 24 <<< 20)
theorem split20 (s : B24) (n : BitVec 4) : s ^^^ (n.setWidth 24 <<< 20) = (((s >>> 20).setWidth 4 ^^^ n).setWidth 24 <<< 20) ^^^ (s &&& 0x0fffff#24) := by
  apply BitVec.eq_of_getLsbD_eq
  intro i hi
  have hm : (0x0fffff#24).getLsbD i = decide (i < 20) := by
    have : ∀ i : Fin 24, (0x0fffff#24).getLsbD i.val = decide (i.val < 20) := by decide
    exact this ⟨i, hi⟩
  by_cases h : i < 20
  · simp [hm, h]
  · have e : 20 + (i - 20) = i := by omega
    have e2 : i - 20 < 4 := by omega
    have hm2 : (1048575#24)[i] = false := by rw [BitVec.getElem_eq_testBit_toNat, BitVec.testBit_toNat, hm]; simp [h]
    simp [h, hi, e, e2, hm2]
theorem low20 (s : B24) : (s &&& 0x0fffff#24).toNat < 2 ^ 20 := by
  rw [BitVec.toNat_and]
  exact Nat.lt_of_le_of_lt Nat.and_le_right (by decide)
theorem low20_shift (s : B24) : (s &&& 0x0fffff#24) <<< 4 = s <<< 4 := by
  apply BitVec.eq_of_getLsbD_eq
  intro i hi
  by_cases h : i < 4
  · simp [h]
  · have : (0x0fffff#24).getLsbD (i - 4) = true := by
      have : ∀ i : Fin 24, 4 ≤ i.val → (0x0fffff#24).getLsbD (i.val - 4) = true := by decide
      exact this ⟨i, hi⟩ (by simp; omega)
    simp [h, hi, this]

/-! ### A nibble, a byte -/
def nst (s : B24) (n : BitVec 4) : B24 := bsts 4 (s ^^^ (n.setWidth 24 <<< 20))
theorem nst_tab (s : B24) (n : BitVec 4) : nst s n = (s <<< 4) ^^^ tabB ((s >>> 20).setWidth 4 ^^^ n) := by
  unfold nst
  rw [split20, bsts_xor, bsts_small 4 (s &&& 0x0fffff#24) (by have := low20 s; omega), low20_shift, BitVec.xor_comm]
  rfl
def bys (s : B24) (c : UInt8) : B24 := bsts 8 (s ^^^ ((BitVec.ofNat 24 c.toNat) <<< 16))
def hiN (c : UInt8) : BitVec 4 := BitVec.ofNat 4 (c.toNat / 16)
def loN (c : UInt8) : BitVec 4 := BitVec.ofNat 4 c.toNat
theorem byte_split (c : UInt8) : (BitVec.ofNat 24 c.toNat) <<< 16 = (((hiN c).setWidth 24) <<< 20) ^^^ (((loN c).setWidth 24) <<< 16) := by
  have : ∀ c : UInt8, (BitVec.ofNat 24 c.toNat) <<< 16 = (((hiN c).setWidth 24) <<< 20) ^^^ (((loN c).setWidth 24) <<< 16) := by
    intro c
    have h : ∀ k : Fin 256, (BitVec.ofNat 24 k.val) <<< 16 = (((BitVec.ofNat 4 (k.val / 16)).setWidth 24) <<< 20) ^^^ (((BitVec.ofNat 4 k.val).setWidth 24) <<< 16) := by decide +kernel
    exact h ⟨c.toNat, c.toNat_lt⟩
  exact this c
theorem lo_late (n : BitVec 4) : bsts 4 (n.setWidth 24 <<< 16) = n.setWidth 24 <<< 20 := by
  have h : ∀ k : Fin 16, bsts 4 ((BitVec.ofFin k : BitVec 4).setWidth 24 <<< 16) = (BitVec.ofFin k : BitVec 4).setWidth 24 <<< 20 := by decide +kernel
  exact h n.toFin
theorem bys_nst (s : B24) (c : UInt8) : bys s c = nst (nst s (hiN c)) (loN c) := by
  unfold bys
  rw [byte_split, ← BitVec.xor_assoc, show (8 : Nat) = 4 + 4 from rfl, bsts_add, bsts_xor 4, lo_late]
  rfl
def crcN (s : B24) (xs : List UInt8) : B24 := xs.foldl bys s

/-! ### In the walk's numbers -/
theorem crcTab_tabB (m : BitVec 4) : crcTab.getD m.toNat 0 = ((tabB m).toNat : Int) := by
  have h : ∀ k : Fin 16, crcTab.getD k.val 0 = ((tabB (BitVec.ofFin k)).toNat : Int) := by decide +kernel
  exact h m.toFin
theorem top4 (s : B24) : (s.toNat : Int) / (1048576 : Int) = (((s >>> 20).setWidth 4 : BitVec 4).toNat : Int) := by
  have h := s.isLt
  rw [BitVec.toNat_setWidth, BitVec.toNat_ushiftRight, Nat.shiftRight_eq_div_pow]
  rw [Nat.mod_eq_of_lt (by omega)]
  omega
theorem xor_top (s : B24) (n : BitVec 4) : bits .xor .i64 ((s.toNat : Int) / 1048576) (n.toNat : Int) = ((((s >>> 20).setWidth 4 ^^^ n : BitVec 4)).toNat : Int) := by
  have h := ((s >>> 20).setWidth 4 : BitVec 4).isLt
  have h2 := n.isLt
  rw [top4, xor_i64_nat _ _ (by omega) (by omega), BitVec.toNat_xor]
theorem nibStep_nst (s : B24) (n : BitVec 4) : nibStep (s.toNat : Int) (n.toNat : Int) = ((nst s n).toNat : Int) := by
  have h := s.isLt
  unfold nibStep
  rw [xor_top, Int.toNat_natCast, crcTab_tabB, i64_keep _ (by omega) (by omega), and_all, nst_tab]
  have h3 := (tabB ((s >>> 20).setWidth 4 ^^^ n)).isLt
  have h4 : (BitVec.ofInt 24 ((s.toNat : Int) * 16)) = s <<< 4 := by
    apply BitVec.eq_of_toNat_eq
    rw [BitVec.toNat_ofInt, BitVec.toNat_shiftLeft, Nat.shiftLeft_eq]
    omega
  rw [h4, xor_i64_nat _ _ (by have := (s <<< 4).isLt; omega) (by omega), BitVec.toNat_xor]

end Go.Proofs.Ytnkenkdglcmpdaa
