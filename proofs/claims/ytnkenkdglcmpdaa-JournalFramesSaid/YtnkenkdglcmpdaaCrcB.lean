/- The walks of package crc24 and of its reference: Next, Sum, Fits. -/
import Derived.Test.YtnkenkdglcmpdaaCrcA
namespace Go.Proofs.Ytnkenkdglcmpdaa
set_option linter.unusedVariables false
set_option linter.unusedSimpArgs false
open Go.RowKit

theorem crcN_snoc (s : B24) (xs : List UInt8) (k : Nat) (h : k < xs.length) : crcN s (xs.take (k + 1)) = nst (nst (crcN s (xs.take k)) (hiN (xs.getD k 0))) (loN (xs.getD k 0)) := by
  rw [← bys_nst]
  unfold crcN
  rw [List.take_succ_eq_append_getElem h, List.foldl_append]
  simp [h]

theorem hi_num (x : UInt8) : bits .and .i64 ((x.toNat : Int) / 16) 15 = ((hiN x).toNat : Int) := by
  have h := x.toNat_lt
  have e : ((x.toNat : Int) / 16) = ((x.toNat / 16 : Nat) : Int) := by omega
  have e2 : (15 : Int) = ((15 : Nat) : Int) := rfl
  rw [e, e2, and_i64_nat _ _ (by omega) (by omega)]
  have : x.toNat / 16 &&& 15 = x.toNat / 16 % 16 := Nat.and_two_pow_sub_one_eq_mod (x.toNat / 16) 4
  rw [this]
  simp [hiN]
theorem lo_num (x : UInt8) : bits .and .i64 (x.toNat : Int) 15 = ((loN x).toNat : Int) := by
  have h := x.toNat_lt
  have e2 : (15 : Int) = ((15 : Nat) : Int) := rfl
  rw [e2, and_i64_nat _ _ (by omega) (by omega)]
  have : x.toNat &&& 15 = x.toNat % 16 := Nat.and_two_pow_sub_one_eq_mod x.toNat 4
  rw [this]
  simp [loN]

/-- The closure's contract over bit vectors. -/
theorem step_bv (s : B24) (n : BitVec 4) (b : Nat) (m : Int) (hm : m = (n.toNat : Int)) (w : World)
    (hc : w.cell? ⟨b, 0, none⟩ = some (.int .i64 (s.toNat : Int))) (hf : w.frozen? ⟨b, 0, none⟩ = false) :
    Calls Try.prog 56 #[.int .i64 m, .pointer (some ⟨b, 0, none⟩)] w fun e w' => e = .returned (.tuple #[]) ∧ ∃ w1, Below w.heap.size w w1 ∧ w' = w1.setCell ⟨b, 0, none⟩ (.int .i64 ((nst s n).toNat : Int)) := by
  subst hm
  have hx := xor_top s n
  have hl := ((s >>> 20).setWidth 4 ^^^ n : BitVec 4).isLt
  refine (step_any (s.toNat : Int) (n.toNat : Int) b w (by rw [hx]; omega) (by rw [hx]; omega) hc hf).mono ?_
  rintro e w' ⟨rfl, w1, hb, rfl⟩
  exact ⟨rfl, w1, hb, by rw [nibStep_nst]⟩

set_option maxHeartbeats 1000000 in
theorem next_any (s : Int) (A : Option Addr) (c : Nat) (xs : List UInt8) (w : World) (hr : RB w A xs) :
    Calls Try.prog 18 #[.int .i64 s, .slice A xs.length c] w fun e w' => e = .returned (.int .i64 ((crcN (BitVec.ofInt 24 s) xs).toNat : Int)) ∧ Below w.heap.size w w' := by
  obtain ⟨n, hn⟩ : ∃ n, n = xs.length := ⟨_, rfl⟩
  have hmx : n ≤ 140737488355328 := by rw [hn]; exact hr.1
  rw [← hn]
  have HN := Lib.hid hn
  have HR := Lib.hid hr
  clear hr hn
  go_enter Try.func18, Try.ntmps18
  go_wp2_with fail
  have hf0 : (w.alloc (.cells #[.int .i64 (bits .and .i64 s 16777215)] 3)).frozen? ⟨w.heap.size, 0, none⟩ = false := by simp
  have hc0 : (w.alloc (.cells #[.int .i64 (bits .and .i64 s 16777215)] 3)).cell? ⟨w.heap.size, 0, none⟩ = some (.int .i64 ((crcN (BitVec.ofInt 24 s) (xs.take 0)).toNat : Int)) := by
    rw [and_all]; simp [crcN]
  have hb0 : Below w.heap.size w (w.alloc (.cells #[.int .i64 (bits .and .i64 s 16777215)] 3)) := (Below.refl _ _).alloc (Nat.le_refl _) _
  generalize (w.alloc (.cells #[.int .i64 (bits .and .i64 s 16777215)] 3)) = w1 at *
  go_loopw [14] (fun i wr => ∃ k : Nat, k ≤ n ∧ i = .int .i64 k ∧ Below w.heap.size w wr ∧ wr.cell? ⟨w.heap.size, 0, none⟩ = some (.int .i64 ((crcN (BitVec.ofInt 24 s) (xs.take k)).toNat : Int)) ∧ wr.frozen? ⟨w.heap.size, 0, none⟩ = false) (fun i _ => n - (intOf i).toNat)
  case atStart => exact ⟨0, Nat.zero_le _, rfl, hb0, hc0, hf0⟩
  case round =>
    clear hf0 hc0 hb0
    obtain ⟨k, hk, rfl, hb, hc, hf⟩ := hrel
    by_cases hlt : k < n
    · obtain ⟨b, off, rfl, hbl, hcell⟩ := HR.out.2 (by rw [← HN.out]; omega)
      have hcx : wr.cell? ⟨b, off + k, none⟩ = some (.int .u8 ((xs.getD k 0).toNat : Int)) := (hb.cell (p := ⟨b, off + k, none⟩) hbl).trans (hcell k (by rw [← HN.out]; exact hlt))
      clear hcell
      obtain ⟨x, hx⟩ : ∃ x, x = xs.getD k 0 := ⟨_, rfl⟩
      rw [← hx] at hcx
      have HX := Lib.hid hx
      clear hx
      have hxb : (x.toNat : Int) < 256 := by have := x.toNat_lt; omega
      go_wp2_with fail
      refine wp_loop_rounds 3 ?_
      rw [rounds_succ]
      go_wp2_with fail
      refine (step_bv _ (hiN x) _ _ ?hm1 _ hc hf).mono ?_
      case hm1 => exact hi_num x
      rintro e w' ⟨rfl, w2, hb2, rfl⟩
      obtain ⟨hb3, hc3, hf3⟩ := setOne (.int .i64 ((nst (crcN (BitVec.ofInt 24 s) (List.take k xs)) (hiN x)).toNat : Int)) hb (p := ⟨w.heap.size, 0, none⟩) (Nat.le_refl _) hc hf hb2
      clear hb hc hf hcx hb2
      generalize w2.setCell _ _ = w3 at *
      go_wp2_with fail
      rw [rounds_succ]
      go_wp2_with fail
      refine (step_bv _ (loN x) _ _ ?hm2 _ hc3 hf3).mono ?_
      case hm2 => exact lo_num x
      rintro e w' ⟨rfl, w4, hb4, rfl⟩
      have HC := crcN_snoc (BitVec.ofInt 24 s) xs k (by rw [← HN.out]; exact hlt)
      rw [← HX.out] at HC
      obtain ⟨hb5, hc5, hf5⟩ := setOne (.int .i64 ((nst (nst (crcN (BitVec.ofInt 24 s) (List.take k xs)) (hiN x)) (loN x)).toNat : Int)) hb3 (p := ⟨w.heap.size, 0, none⟩) (Nat.le_refl _) hc3 hf3 hb4
      clear hb3 hc3 hf3 hb4
      generalize w4.setCell _ _ = w5 at *
      rw [← HC] at hc5
      clear HC
      go_wp2_with fail
      rw [rounds_succ]
      go_wp2_with fail
      go_roundw
      case rel => exact ⟨k + 1, by omega, by go_num, hb5, hc5, hf5⟩
      case measure => simp [intOf]; omega
    · obtain rfl : k = n := by omega
      go_wp2_with fail
      go_ret
      exact ⟨ret_int (by rw [HN.out, List.take_length]), hb⟩

theorem wrap_u8_64 (x : UInt8) : wrap64 (x.toNat : Int) = x.toNat := by have := x.toNat_lt; unfold wrap64; omega

/-- Sum. -/
def crcS (xs : List UInt8) : B24 := crcN 0xb704ce#24 xs
theorem sum_any (A : Option Addr) (c : Nat) (xs : List UInt8) (w : World) (hr : RB w A xs) :
    Calls Try.prog 17 #[.slice A xs.length c] w fun e w' => e = .returned (.int .i64 ((crcS xs).toNat : Int)) ∧ Below w.heap.size w w' := by
  go_enter Try.func17, Try.ntmps17
  go_wp2_with fail
  refine (next_any 11994318 A c xs w hr).mono ?_
  rintro e w' ⟨rfl, hb⟩
  go_wp2
  go_ret
  exact ⟨rfl, hb⟩

theorem sum_n (A : Option Addr) (c n : Nat) (xs : List UInt8) (w : World) (hn : xs.length = n) (hr : RB w A xs) :
    Calls Try.prog 17 #[.slice A n c] w fun e w' => e = .returned (.int .i64 ((crcS xs).toNat : Int)) ∧ Below w.heap.size w w' := by
  subst hn; exact sum_any A c xs w hr

theorem fits_any (s : Int) (A : Option Addr) (c : Nat) (xs : List UInt8) (w : World) (hr : RB w A xs) :
    Calls Try.prog 21 #[.slice A xs.length c, .int .i64 s] w fun e w' => e = .returned (.bool (((crcS xs).toNat : Int) == s)) ∧ Below w.heap.size w w' := by
  go_enter Try.func21, Try.ntmps21
  go_wp2_with fail
  refine (sum_any A c xs w hr).mono ?_
  rintro e w' ⟨rfl, hb⟩
  go_wp2
  go_ret
  exact ⟨rfl, hb⟩

end Go.Proofs.Ytnkenkdglcmpdaa
