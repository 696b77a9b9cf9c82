/- The walk of the law Crc24Bursts. -/
import Derived.Test.YtnkenkdglcmpdaaCrcE
namespace Go.Proofs.Ytnkenkdglcmpdaa
set_option linter.unusedVariables false
set_option linter.unusedSimpArgs false
open Go.RowKit

/-! ### A turned bit, many turned bits -/
theorem bst_zero {s : B24} (h : bst s = 0#24) : s = 0#24 := by
  unfold bst at h
  cases hm : s.msb with
  | false =>
    simp [hm] at h
    apply BitVec.eq_of_getLsbD_eq
    intro i hi
    by_cases e : i = 23
    · subst e
      rw [BitVec.msb_eq_getLsbD_last] at hm
      simpa using hm
    · have := congrArg (fun t : B24 => t.getLsbD (i + 1)) h
      simp [show i + 1 < 24 by omega] at this
      rw [BitVec.getLsbD_eq_getElem hi, this]
      simp
  | true =>
    simp [hm] at h
    have := congrArg (fun t : B24 => t.getLsbD 0) h
    simp [poly24] at this
theorem bsts_zero : ∀ (n : Nat) {s : B24}, bsts n s = 0#24 → s = 0#24
  | 0, _, h => h
  | n + 1, s, h => bst_zero (bsts_zero n h)
theorem bsts_of_zero : ∀ n, bsts n 0#24 = 0#24
  | 0 => rfl
  | n + 1 => by rw [bsts, show bst 0#24 = 0#24 from by decide]; exact bsts_of_zero n
theorem bys_split (a b : B24) (x : UInt8) : bys (a ^^^ b) x = bys a x ^^^ bsts 8 b := by
  unfold bys
  rw [← bsts_xor]
  congr 1
  generalize BitVec.ofNat 24 x.toNat <<< 16 = c
  ac_rfl
theorem crcN_split : ∀ (xs : List UInt8) (a b : B24), crcN (a ^^^ b) xs = crcN a xs ^^^ bsts (8 * xs.length) b
  | [], a, b => rfl
  | x :: xs, a, b => by
    show crcN (bys (a ^^^ b) x) xs = crcN (bys a x) xs ^^^ _
    rw [bys_split, crcN_split xs, show 8 * (x :: xs).length = 8 + 8 * xs.length from by rw [List.length_cons]; omega, bsts_add]
def e23 : B24 := 0x800000#24
theorem bys_bit (s : B24) (x : UInt8) (r : Nat) (hr : r < 8) : bys s (x ^^^ UInt8.ofNat (128 / 2 ^ r)) = bys s x ^^^ bsts (8 - r) e23 := by
  have h : ∀ k : Fin 8, bsts 8 ((BitVec.ofNat 24 (UInt8.ofNat (128 / 2 ^ k.val)).toNat) <<< 16) = bsts (8 - k.val) e23 := by decide +kernel
  have h2 := h ⟨r, hr⟩
  simp only at h2
  rw [← h2]
  unfold bys
  rw [← bsts_xor]
  congr 1
  have e : BitVec.ofNat 24 (x ^^^ UInt8.ofNat (128 / 2 ^ r)).toNat = BitVec.ofNat 24 x.toNat ^^^ BitVec.ofNat 24 (UInt8.ofNat (128 / 2 ^ r)).toNat := by
    apply BitVec.eq_of_toNat_eq
    have h1 := x.toNat_lt
    have h2 := (UInt8.ofNat (128 / 2 ^ r)).toNat_lt
    have h4 := (x ^^^ UInt8.ofNat (128 / 2 ^ r)).toNat_lt
    simp only [BitVec.toNat_xor, BitVec.toNat_ofNat]
    rw [Nat.mod_eq_of_lt (by omega), Nat.mod_eq_of_lt (by omega), Nat.mod_eq_of_lt (by omega), UInt8.toNat_xor]
  rw [e, BitVec.shiftLeft_xor_distrib, BitVec.xor_assoc]
theorem crc_flip : ∀ (xs : List UInt8) (s : B24) (j r : Nat), j < xs.length → r < 8 →
    crcN s (xs.set j (xs.getD j 0 ^^^ UInt8.ofNat (128 / 2 ^ r))) = crcN s xs ^^^ bsts (8 * xs.length - (8 * j + r)) e23
  | [], _, _, _, h, _ => by simp at h
  | x :: xs, s, 0, r, _, hr => by
    show crcN (bys s (x ^^^ UInt8.ofNat (128 / 2 ^ r))) xs = crcN (bys s x) xs ^^^ _
    rw [bys_bit s x r hr, crcN_split, show 8 * (x :: xs).length - (8 * 0 + r) = 8 - r + 8 * xs.length from by rw [List.length_cons]; omega, bsts_add]
  | x :: xs, s, j + 1, r, h, hr => by
    show crcN (bys s x) (xs.set j (xs.getD j 0 ^^^ UInt8.ofNat (128 / 2 ^ r))) = crcN (bys s x) xs ^^^ _
    rw [crc_flip xs (bys s x) j r (by simpa using h) hr, show 8 * (x :: xs).length - (8 * (j + 1) + r) = 8 * xs.length - (8 * j + r) from by rw [List.length_cons]; omega]
/-- The first i turned bits, the first one the highest. -/
def burst (T : B24) : Nat → B24
  | 0 => 0#24
  | i + 1 => if T.getLsbD i then burst T i ^^^ (1#24 <<< (23 - i)) else burst T i
theorem burst_low (T : B24) : ∀ i, i ≤ 24 → ∀ p, p + i < 24 → (burst T i).getLsbD p = false
  | 0, _, p, _ => by simp [burst]
  | i + 1, h, p, hp => by
    have ih := burst_low T i (by omega) p (by omega)
    unfold burst
    split
    · rw [BitVec.getLsbD_xor, ih]
      simp
      omega
    · exact ih
theorem burst_next (T : B24) (i : Nat) (hi : i < 24) (h : T.getLsbD i = true) : burst T (i + 1) ≠ 0#24 := by
  intro e
  have h1 := burst_low T i (by omega) (23 - i) (by omega)
  unfold burst at e
  rw [if_pos h] at e
  have h2 := congrArg (fun t : B24 => t.getLsbD (23 - i)) e
  rw [BitVec.getLsbD_xor, h1] at h2
  simp [show 23 - i < 24 by omega] at h2
theorem late_bit (i : Nat) (hi : i < 24) : bsts i (1#24 <<< (23 - i)) = e23 := by
  have h : ∀ k : Fin 24, bsts k.val (1#24 <<< (23 - k.val)) = e23 := by decide +kernel
  exact h ⟨i, hi⟩
theorem mask_num (r : Nat) (hr : r < 8) : (128 : Int) / 2 ^ r = ((UInt8.ofNat (128 / 2 ^ r)).toNat : Int) := by
  have h : ∀ k : Fin 8, (128 : Int) / 2 ^ k.val = ((UInt8.ofNat (128 / 2 ^ k.val)).toNat : Int) := by decide +kernel
  exact h ⟨r, hr⟩
theorem bit_num (T : B24) (i : Nat) (hi : i < 24) : (bits .and .i64 ((T.toNat : Int) / 2 ^ i) 1 == 1) = T.getLsbD i := by
  have hl := T.isLt
  have e : (T.toNat : Int) / 2 ^ i = ((T.toNat / 2 ^ i : Nat) : Int) := by
    rw [Int.natCast_ediv]; simp
  have e2 : (1 : Int) = ((1 : Nat) : Int) := rfl
  have hd : T.toNat / 2 ^ i ≤ T.toNat := Nat.div_le_self _ _
  rw [e, e2, and_i64_nat _ _ (by omega) (by omega), BitVec.getLsbD, Nat.testBit_eq_decide_div_mod_eq]
  have : T.toNat / 2 ^ i &&& 1 = T.toNat / 2 ^ i % 2 := Nat.and_two_pow_sub_one_eq_mod _ 1
  rw [this, Bool.eq_iff_iff]
  simp
  omega
/-- One more bit is turned: what the sums differ by. -/
theorem burst_step (T s : B24) (xs ys : List UInt8) (q i : Nat) (hl : ys.length = xs.length) (hi : i < 24) (hq : q + i < 8 * xs.length) (hT : T.getLsbD i = true)
    (h : crcN s ys ^^^ crcN s xs = bsts (8 * xs.length - q) (burst T i)) :
    crcN s (ys.set ((q + i) / 8) (ys.getD ((q + i) / 8) 0 ^^^ UInt8.ofNat (128 / 2 ^ ((q + i) % 8)))) ^^^ crcN s xs = bsts (8 * xs.length - q) (burst T (i + 1)) := by
  rw [crc_flip ys s _ _ (by omega) (by omega)]
  have e1 : 8 * ys.length - (8 * ((q + i) / 8) + (q + i) % 8) = 8 * xs.length - q - i := by rw [hl]; omega
  have e2 : bsts (8 * xs.length - q - i) e23 = bsts (8 * xs.length - q) (1#24 <<< (23 - i)) := by
    rw [← late_bit i hi, ← bsts_add]
    congr 1
    omega
  rw [e1, e2]
  have e3 : burst T (i + 1) = burst T i ^^^ (1#24 <<< (23 - i)) := by show (if _ then _ else _) = _; rw [if_pos hT]
  rw [e3, bsts_xor, ← h]
  ac_rfl

set_option maxRecDepth 100000 in
set_option maxHeartbeats 2000000 in
theorem lawBursts_core (A : Option Addr) (c n : Nat) (xs : List UInt8) (at_ turn : Int) (w : World) (hn : xs.length = n) (h0 : 0 < n) (h1 : n ≤ 20000) (hr : RB w A xs) :
    Calls Try.prog 4 #[.slice A n c, .int .i64 at_, .int .i64 turn] w fun e w' => e = .returned (.bool true) ∧ Below w.heap.size w w' := by
  have hmx : n ≤ 140737488355328 := by omega
  have HN := Lib.hid hn
  have HR := Lib.hid hr
  clear hr hn
  have h00 : ((n : Int) == 0) = false := by simp; omega
  obtain ⟨q, hq0, hq⟩ := modq at_ (8 * n) (by omega) (by omega)
  have hq2 : wrap64 ((IntKind.u64.wrap at_).tmod (8 * (n : Int))) = (q : Int) := by rw [← hq]; simp
  clear hq
  have hlo : OB (w.alloc (.cells #[] 5)) (.slice (some ⟨w.heap.size, 0, none⟩) 0 0) [] := OB.lit w [] _ rfl (by decide)
  have HLO := Lib.hid hlo
  have HR1 := Lib.hid (HR.out.below ((Below.refl w.heap.size w).alloc (Nat.le_refl _) (.cells #[] 5)))
  clear hlo
  go_enter Try.func4, Try.ntmps4
  go_wp2_with (at_builtin; refine wpList_append_b rfl (.tmp 31) (.tmp 32) rfl (.slice (some ⟨w.heap.size, 0, none⟩) 0 0) [] rfl HLO.out A c xs (congrArg (fun k => Value.slice A k c) HN.out.symm) HR1.out (by simp; rw [HN.out]; exact hmx) ?_; intro v' w1 HO hg hat)
  obtain ⟨HO1, hb1, hown⟩ := clone_facts HO hg hat
  clear HO hg hat HLO HR1
  simp only [hq2, and_all]
  clear hq2
  obtain ⟨g, c', rfl, hc'⟩ := HO1.pos (by rw [HN.out]; exact h0)
  have hge : w.heap.size ≤ g := hown g rfl
  obtain ⟨T, hT⟩ : ∃ T : B24, T = BitVec.ofInt 24 turn := ⟨_, rfl⟩
  simp only [← hT, HN.out]
  clear hT
  have HO2 := Lib.hid HO1
  clear HO1 hown
  rw [HN.out] at hc'
  go_loopw [10, 11] (fun s i wr => ∃ (i_ : Nat) (ys : List UInt8), i_ ≤ 24 ∧ i = .int .i64 i_ ∧ s = .bool (burst T i_ == 0#24) ∧ Below w.heap.size w wr ∧ Hid (ys.length = n) ∧ Hid (OB wr (.slice (some ⟨g, 0, none⟩) n c') ys) ∧ Hid (crcS ys ^^^ crcS xs = bsts (8 * n - q) (burst T i_))) (fun _ i _ => 24 - (intOf i).toNat)
  case atStart => exact ⟨0, xs, by omega, rfl, rfl, hb1, HN.out, by have := HO2.out; rw [HN.out] at this; exact this, by show _ = _; rw [BitVec.xor_self, burst, bsts_of_zero]⟩
  case round =>
    clear HO2 hb1
    obtain ⟨i, ys, hi, rfl, rfl, hb, HL, HO, HD⟩ := hrel
    by_cases hlt : i < 24 ∧ q + i < 8 * n
    · obtain ⟨hi24, hqi⟩ := hlt
      have k1 : (i : Int) < 24 := by omega
      have k2 : (q : Int) + (i : Int) < 8 * (n : Int) := by omega
      have hbit := bit_num T i hi24
      cases hT : T.getLsbD i with
      | false =>
        rw [hT] at hbit
        have hsame : burst T (i + 1) = burst T i := by show (if _ then _ else _) = _; rw [hT]; rfl
        have HSa := Lib.hid hsame
        clear hsame hT
        go_wp2_with fail
        go_roundw
        case rel => exact ⟨i + 1, ys, by omega, by go_num, by rw [HSa.out], hb, HL, HO, by have := HD.out; rw [← HSa.out] at this; exact this⟩
        case measure => simp [intOf]; omega
      | true =>
        rw [hT] at hbit
        have hne := burst_next T i hi24 hT
        have HNE := Lib.hid hne
        have hst := burst_step T 0xb704ce#24 xs ys q i (by rw [HL.out, HN.out]) hi24 (by rw [HN.out]; exact hqi) hT (by rw [HN.out]; exact HD.out)
        have HST := Lib.hid hst
        clear hne hst hT
        have hcx := HO.out.cellAt ((q + i) / 8) (by rw [HL.out]; omega)
        have hfx := HO.out.frozenAt ((q + i) / 8)
        obtain ⟨y, hy⟩ : ∃ y, y = ys.getD ((q + i) / 8) 0 := ⟨_, rfl⟩
        rw [← hy] at hcx
        have HY := Lib.hid hy
        clear hy
        have k3 : ((q : Int) + (i : Int)) / 8 < (n : Int) := by omega
        go_wp2_with fail
        go_region
        rw [mask_num _ (Nat.mod_lt _ (by omega)), xor_u8]
        have HO2 := HO.out.stored ((q + i) / 8) (y ^^^ UInt8.ofNat (128 / 2 ^ ((q + i) % 8)))
        have HST2 := HST.out
        have HL2 : Hid ((ys.set ((q + i) / 8) (y ^^^ UInt8.ofNat (128 / 2 ^ ((q + i) % 8)))).length = n) := by show _ = _; rw [List.length_set]; exact HL.out
        rw [← HY.out, HN.out] at HST2
        have HST3 := Lib.hid HST2
        generalize ys.set ((q + i) / 8) (y ^^^ UInt8.ofNat (128 / 2 ^ ((q + i) % 8))) = ys2 at *
        have HO3 : Hid (OB (wr.setCell ⟨g, (q + i) / 8, none⟩ (.int .u8 ((y ^^^ UInt8.ofNat (128 / 2 ^ ((q + i) % 8))).toNat : Int))).drew (.slice (some ⟨g, 0, none⟩) n c') ys2) := HO2
        have hb2 : Below w.heap.size w (wr.setCell ⟨g, (q + i) / 8, none⟩ (.int .u8 ((y ^^^ UInt8.ofNat (128 / 2 ^ ((q + i) % 8))).toNat : Int))).drew := (hb.setCell hge _).drew
        clear HO2 hcx hfx HO hb HST HST2 HL HD HY
        generalize (wr.setCell ⟨g, (q + i) / 8, none⟩ (.int .u8 ((y ^^^ UInt8.ofNat (128 / 2 ^ ((q + i) % 8))).toNat : Int))).drew = w2 at *
        go_wp2_with fail
        go_roundw
        case rel => exact ⟨i + 1, ys2, by omega, by go_num, by rw [beq_eq_false_iff_ne.2 HNE.out], hb2, HL2, HO3, HST3⟩
        case measure => simp [intOf]; omega
    · have k4 : ¬ ((i : Int) < 24) ∨ ¬ ((q : Int) + (i : Int) < 8 * (n : Int)) := by omega
      have hfin : (((crcS ys).toNat : Int) == ((crcS xs).toNat : Int)) = (burst T i == 0#24) := by
        rw [Bool.eq_iff_iff, beq_iff_eq, beq_iff_eq]
        constructor
        · intro h
          have h2 : crcS ys = crcS xs := BitVec.eq_of_toNat_eq (by omega)
          have h3 := HD.out
          rw [h2, BitVec.xor_self] at h3
          exact bsts_zero _ h3.symm
        · intro h
          have h3 := HD.out
          rw [h, bsts_of_zero] at h3
          have h2 : crcS ys = crcS xs := by
            have := congrArg (fun t => t ^^^ crcS xs) h3
            simpa [BitVec.xor_assoc] using this
          rw [h2]
      generalize (burst T i == 0#24) = same at *
      have HF := Lib.hid hfin
      clear hfin HD
      have HRy := Lib.hid (HO.out.reads (by rw [HL.out]; exact hmx))
      have HRx := Lib.hid (HR.out.below hb)
      clear HO
      rcases (show ¬ ((i : Int) < 24) ∨ ((i : Int) < 24 ∧ ¬ ((q : Int) + (i : Int) < 8 * (n : Int))) from by omega) with k5 | ⟨k5, k6⟩
      all_goals
        clear hlt k4
        go_wp2_with fail
        refine (sum_n _ c' n _ wr HL.out HRy.out).mono ?_
        rintro e w2 ⟨rfl, hb2⟩
        have HR2 := Lib.hid (HRx.out.below hb2)
        replace hb2 := below_step hb hb2
        clear HRx HRy
        go_wp2_with fail
        refine (sum_n _ c n _ w2 HN.out HR2.out).mono ?_
        rintro e w3 ⟨rfl, hb3⟩
        replace hb3 := below_step hb2 hb3
        have hfin2 : ((((crcS ys).toNat : Int) == ((crcS xs).toNat : Int)) == same) = true := by rw [HF.out]; simp
        clear hb2 HR2
        go_wp2_with fail
        refine (crcLives_any _).mono ?_
        rintro e w6 ⟨rfl, hb6⟩
        go_wp2
        go_ret
        exact ⟨rfl, below_step hb3 hb6⟩

theorem lawBursts_any (A : Option Addr) (c n cap : Nat) (zs : List Int) (at_ turn : Int) (w : World) (hz : IsRow .u8 w A n c zs) :
    Calls Try.prog 4 #[.slice A n c, .int .i64 at_, .int .i64 turn] w fun e w' => e = .returned (.bool true) ∧ Below w.heap.size w w' := by
  by_cases h1 : 20000 < n
  · clear hz
    go_enter Try.func4, Try.ntmps4
    go_wp2_with fail
    refine (crcLives_any w).mono ?_
    rintro e w1 ⟨rfl, hb1⟩
    go_wp2
    go_ret
    exact ⟨rfl, hb1⟩
  · by_cases h2 : n = 0
    · subst h2
      clear hz
      go_enter Try.func4, Try.ntmps4
      go_wp2_with fail
      refine (crcLives_any w).mono ?_
      rintro e w1 ⟨rfl, hb1⟩
      go_wp2
      go_ret
      exact ⟨rfl, hb1⟩
    · obtain ⟨xs, hn, hr⟩ := hz.bytes (by omega)
      exact lawBursts_core A c n xs at_ turn w hn (by omega) (by omega) hr

end Go.Proofs.Ytnkenkdglcmpdaa
