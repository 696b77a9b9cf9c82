/- The walks of the reference of crc24: Step, Next, Sum; the chapter's example. -/
import Derived.Test.YtnkenkdglcmpdaaCrcB
namespace Go.Proofs.Ytnkenkdglcmpdaa
set_option linter.unusedVariables false
set_option linter.unusedSimpArgs false
open Go.RowKit

theorem bst_big (s : B24) (h : 16777215 < (s.toNat : Int) * 2) : bits .xor .i64 ((s.toNat : Int) * 2 - 16777215 - 1) 8801531 = ((bst s).toNat : Int) := by
  have hl := s.isLt
  have hm : s.msb = true := by rw [BitVec.msb_eq_decide]; simp; omega
  have e : (s.toNat : Int) * 2 - 16777215 - 1 = ((s.toNat * 2 - 16777216 : Nat) : Int) := by omega
  have e2 : (8801531 : Int) = ((8801531 : Nat) : Int) := rfl
  rw [e, e2, xor_i64_nat _ _ (by omega) (by omega)]
  unfold bst
  rw [hm, if_pos rfl, BitVec.toNat_xor, BitVec.toNat_shiftLeft, Nat.shiftLeft_eq]
  have e3 : s.toNat * 2 ^ 1 % 2 ^ 24 = s.toNat * 2 - 16777216 := by omega
  rw [e3]
  rfl
theorem bst_low (s : B24) (h : ¬ 16777215 < (s.toNat : Int) * 2) : (s.toNat : Int) * 2 = ((bst s).toNat : Int) := by
  rw [bst_small s (by omega), BitVec.toNat_shiftLeft, Nat.shiftLeft_eq]
  omega
theorem bsts_end : ∀ (n : Nat) (s : B24), bsts (n + 1) s = bst (bsts n s)
  | 0, _ => rfl
  | n + 1, s => by rw [bsts, bsts_end n]; rfl

set_option maxHeartbeats 1000000 in
theorem refStep_any (s : B24) (x : UInt8) (w : World) :
    Calls Try.prog 58 #[.int .i64 (s.toNat : Int), .int .u8 (x.toNat : Int)] w fun e w' => e = .returned (.int .i64 ((bys s x).toNat : Int)) ∧ w = w' := by
  have hl := s.isLt
  have hx := x.toNat_lt
  have hs0 : (0 : Int) ≤ (s.toNat : Int) ∧ (s.toNat : Int) < 16777216 := by omega
  have hx0 : (0 : Int) ≤ (x.toNat : Int) ∧ (x.toNat : Int) < 256 := by omega
  have h0 : bits .xor .i64 (s.toNat : Int) ((x.toNat : Int) * 65536) = ((bsts 0 (s ^^^ ((BitVec.ofNat 24 x.toNat) <<< 16))).toNat : Int) := by
    have e : (x.toNat : Int) * 65536 = ((x.toNat * 65536 : Nat) : Int) := by omega
    rw [e, xor_i64_nat _ _ (by omega) (by omega)]
    simp only [bsts]
    rw [BitVec.toNat_xor, BitVec.toNat_shiftLeft, Nat.shiftLeft_eq, BitVec.toNat_ofNat]
    have e2 : x.toNat % 2 ^ 24 * 2 ^ 16 % 2 ^ 24 = x.toNat * 65536 := by omega
    rw [e2]
  have hlast : bys s x = bsts 8 (s ^^^ ((BitVec.ofNat 24 x.toNat) <<< 16)) := rfl
  rw [hlast]
  generalize s ^^^ ((BitVec.ofNat 24 x.toNat) <<< 16) = t at *
  have H0 := Lib.hid h0
  clear h0 hlast hl hx
  go_enter Try.func58, Try.ntmps58
  go_wp2
  go_loop [0, 5] (fun v i => ∃ j : Nat, j ≤ 8 ∧ i = .int .i64 j ∧ v = .int .i64 ((bsts j t).toNat : Int)) (fun _ i => 8 - (intOf i).toNat)
  case atStart => exact ⟨0, by omega, rfl, val_int H0.out⟩
  case round =>
    obtain ⟨j, hj, rfl, rfl⟩ := hrel
    obtain ⟨q, hq⟩ : ∃ q, q = bsts j t := ⟨_, rfl⟩
    rw [← hq]
    have HQ := Lib.hid hq
    clear hq
    have hl := q.isLt
    have hq0 : (0 : Int) ≤ (q.toNat : Int) ∧ (q.toNat : Int) < 16777216 := by omega
    by_cases hlt : j < 8
    · by_cases hb : 16777215 < (q.toNat : Int) * 2
      · go_wp2
        go_round
        case rel => exact ⟨j + 1, by omega, by go_num, val_int (by rw [bst_big q hb, HQ.out, bsts_end])⟩
        case measure => simp [intOf]; omega
      · go_wp2
        go_round
        case rel => exact ⟨j + 1, by omega, by go_num, val_int (by rw [bst_low q hb, HQ.out, bsts_end])⟩
        case measure => simp [intOf]; omega
    · obtain rfl : j = 8 := by omega
      go_wp2
      go_ret
      exact ⟨ret_int (by rw [HQ.out]), rfl⟩

theorem crcN_snoc' (s : B24) (xs : List UInt8) (k : Nat) (h : k < xs.length) : crcN s (xs.take (k + 1)) = bys (crcN s (xs.take k)) (xs.getD k 0) := by
  rw [crcN_snoc s xs k h, bys_nst]

set_option maxHeartbeats 1000000 in
theorem refNext_any (s : Int) (A : Option Addr) (c : Nat) (xs : List UInt8) (w : World) (hr : RB w A xs) :
    Calls Try.prog 20 #[.int .i64 s, .slice A xs.length c] w fun e w' => e = .returned (.int .i64 ((crcN (BitVec.ofInt 24 s) xs).toNat : Int)) ∧ w = w' := by
  obtain ⟨n, hn⟩ : ∃ n, n = xs.length := ⟨_, rfl⟩
  have hmx : n ≤ 140737488355328 := by rw [hn]; exact hr.1
  rw [← hn]
  have HN := Lib.hid hn
  have HR := Lib.hid hr
  clear hr hn
  go_enter Try.func20, Try.ntmps20
  go_wp2
  go_loop [0, 5] (fun v i => ∃ k : Nat, k ≤ n ∧ i = .int .i64 k ∧ v = .int .i64 ((crcN (BitVec.ofInt 24 s) (xs.take k)).toNat : Int)) (fun _ i => n - (intOf i).toNat)
  case atStart => exact ⟨0, Nat.zero_le _, rfl, val_int (by rw [and_all]; simp [crcN])⟩
  case round =>
    obtain ⟨k, hk, rfl, rfl⟩ := hrel
    by_cases hlt : k < n
    · obtain ⟨b, off, rfl, hbl, hcell⟩ := HR.out.2 (by rw [← HN.out]; omega)
      have hcx : w.cell? ⟨b, off + k, none⟩ = some (.int .u8 ((xs.getD k 0).toNat : Int)) := hcell k (by rw [← HN.out]; exact hlt)
      clear hcell
      have HC := crcN_snoc' (BitVec.ofInt 24 s) xs k (by rw [← HN.out]; exact hlt)
      obtain ⟨x, hx⟩ : ∃ x, x = xs.getD k 0 := ⟨_, rfl⟩
      rw [← hx] at hcx HC
      obtain ⟨q, hq⟩ : ∃ q, q = crcN (BitVec.ofInt 24 s) (xs.take k) := ⟨_, rfl⟩
      rw [← hq] at HC ⊢
      have HC' := Lib.hid HC
      clear hx hq HC
      go_wp2_with fail
      refine (refStep_any q x _).mono ?_
      rintro e w' ⟨rfl, rfl⟩
      go_wp2_with fail
      go_round
      case rel => exact ⟨k + 1, by omega, by go_num, val_int (by rw [HC'.out])⟩
      case measure => simp [intOf]; omega
    · obtain rfl : k = n := by omega
      go_wp2
      go_ret
      exact ⟨ret_int (by rw [HN.out, List.take_length]), rfl⟩

theorem refSum_any (A : Option Addr) (c : Nat) (xs : List UInt8) (w : World) (hr : RB w A xs) :
    Calls Try.prog 19 #[.slice A xs.length c] w fun e w' => e = .returned (.int .i64 ((crcS xs).toNat : Int)) ∧ w = w' := by
  go_enter Try.func19, Try.ntmps19
  go_wp2_with fail
  refine (refNext_any 11994318 A c xs w hr).mono ?_
  rintro e w' ⟨rfl, rfl⟩
  go_wp2
  go_ret
  exact ⟨rfl, rfl⟩

end Go.Proofs.Ytnkenkdglcmpdaa
