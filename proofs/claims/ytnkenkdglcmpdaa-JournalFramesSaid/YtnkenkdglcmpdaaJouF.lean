/- The walks of tally's Reader: fail, take, number. -/
import Derived.Test.YtnkenkdglcmpdaaJouE
namespace Go.Proofs.Ytnkenkdglcmpdaa
set_option linter.unusedVariables false
set_option linter.unusedSimpArgs false
open Go.RowKit

theorem RdAt.fr {w w' : World} {pb : Nat} {b : List UInt8} {e : Int} {A : Option Addr} {c : Nat} (h : RdAt w pb b e A c) (hf : Fr (fun k => k = pb) w w') : RB w' A b :=
  h.rb.fr2 hf fun a ha h0 => h.ne a ha h0
theorem fail_rd (pb : Nat) (b : List UInt8) (e e' : Int) (w : World) (h : RdR w pb b e) :
    Calls Try.prog 108 #[.pointer (some ⟨pb, 0, none⟩), .int .i64 e'] w fun r w' => r = .returned (.tuple #[]) ∧ DoesRd w pb [] e' w' := by
  obtain ⟨A, c, h⟩ := h
  have h0 : w.cell? ⟨pb, 0, none⟩ = some (.slice A b.length c) := h.blk.cell 0
  have h1 : w.cell? ⟨pb, 1, none⟩ = some (.int .i64 e) := h.blk.cell 1
  have f0 := h.blk.free 0
  have f1 := h.blk.free 1
  go_enter Try.func108, Try.ntmps108
  go_wp2
  go_end0
  refine ⟨rfl, ⟨none, 0, ?_, RB.nil _ _, Nat.le_refl _, fun a e => by cases e⟩, ?_⟩
  · exact (h.blk.set 1 (.int .i64 e')).set 0 (.slice none 0 0)
  · exact (Fr.setCell (fun k => k = pb) w ⟨pb, 1, none⟩ _ rfl).trans (Fr.setCell (fun k => k = pb) _ ⟨pb, 0, none⟩ _ rfl) (fun _ h => .inl h)
theorem take_rd (pb : Nat) (b : List UInt8) (e : Int) (n : Nat) (w : World) (h : RdR w pb b e) (hn : n ≤ b.length) (hl : b.length ≤ 140737488355328) :
    Calls Try.prog 109 #[.pointer (some ⟨pb, 0, none⟩), .int .i64 (n : Int)] w fun r w' => (∃ A c, r = .returned (.slice A n c) ∧ RB w' A (b.take n) ∧ n ≤ c ∧ ∀ a, A = some a → 0 < n → a.block ≠ pb) ∧ DoesRd w pb (b.drop n) e w' := by
  obtain ⟨A, c, H⟩ := h
  have h0 : w.cell? ⟨pb, 0, none⟩ = some (.slice A b.length c) := H.blk.cell 0
  have f0 := H.blk.free 0
  have hcap := H.cap
  obtain ⟨L, hL⟩ : ∃ L, L = b.length := ⟨_, rfl⟩
  rw [← hL] at h0 hn hl hcap
  go_enter Try.func109, Try.ntmps109
  go_wp2
  case inl =>
    subst h
    have hcn : c = L := by omega
    subst hcn
    go_ret
    have hf := Fr.setCell (fun k => k = pb) w ⟨pb, 0, none⟩ (.slice A (b.length - c) 0) rfl
    have hr := H.fr hf
    refine ⟨⟨A, c, rfl, hr.take c, Nat.le_refl _, fun a ha h0 => H.ne a ha (by omega)⟩, ⟨A, 0, ⟨?_, ?_, ?_, ?_⟩⟩, hf⟩
    · have := H.blk.set 0 (.slice A (b.length - c) 0)
      rw [List.length_drop]
      exact this
    · rw [List.drop_of_length_le (by omega)]; exact RB.nil _ _
    · rw [List.length_drop]; omega
    · intro a ha h0
      rw [List.length_drop] at h0; omega
  case inr =>
    have hc := h
    go_ret
    have hf := Fr.setCell (fun k => k = pb) w ⟨pb, 0, none⟩ (.slice (Option.map (fun x => x.add n) A) (b.length - n) (c - n)) rfl
    have hr := H.fr hf
    refine ⟨⟨A, c, rfl, hr.take n, by omega, fun a ha h0 => H.ne a ha (by omega)⟩, ⟨Option.map (fun x => x.add n) A, c - n, ⟨?_, ?_, ?_, ?_⟩⟩, hf⟩
    · have := H.blk.set 0 (.slice (Option.map (fun x => x.add n) A) (b.length - n) (c - n))
      rw [List.length_drop]
      exact this
    · have := hr.dropS n c (by omega)
      rw [if_neg hc] at this
      exact this
    · rw [List.length_drop]; omega
    · intro a ha h0
      rw [List.length_drop] at h0
      cases A with
      | none => cases ha
      | some a0 => cases ha; have h4 := H.ne a0 rfl (by omega); unfold Addr.add; split <;> exact h4

theorem or_i64_nat (a b : Nat) (ha : a < 2 ^ 63) (hb : b < 2 ^ 63) : bits .or .i64 (a : Int) (b : Int) = ((a ||| b : Nat) : Int) :=
  (bits_nat .i64 63 (by decide) (fun n h0 h1 => i64_keep n h0 h1) a b ha hb).2
theorem or_low (i N x : Nat) (hx : x < 2 ^ i) (h : 2 ^ i * N + x < 2 ^ 63) : bits .or .i64 ((2 ^ i * N : Nat) : Int) (x : Int) = ((2 ^ i * N + x : Nat) : Int) := by
  rw [or_i64_nat _ _ (by omega) (by omega), Nat.two_pow_add_eq_or_of_lt hx]
theorem val_take_succ (r : List UInt8) (i : Nat) (h : i < r.length) : val (r.take (i + 1)) = 256 * val (r.take i) + (r.getD i 0).toNat := by
  rw [List.take_add_one, List.getElem?_eq_getElem h, Option.toList_some, val_snoc]
  simp [List.getD_eq_getElem?_getD, h]
theorem val_mono (r : List UInt8) (i k : Nat) (h : i ≤ k) : val (r.take i) ≤ val (r.take k) := by
  induction k with
  | zero => have : i = 0 := by omega
            subst this; exact Nat.le_refl _
  | succ k ih =>
    rcases Nat.lt_or_ge i (k + 1) with h1 | h1
    · have := ih (by omega)
      rcases Nat.lt_or_ge k r.length with h2 | h2
      · rw [val_take_succ r k h2]; omega
      · rw [List.take_of_length_le (by omega : r.length ≤ k + 1)]
        rwa [List.take_of_length_le h2] at this
    · have : i = k + 1 := by omega
      subst this; exact Nat.le_refl _
theorem val_small (r : List UInt8) (k : Nat) (h8 : k ≤ 8) (hk : k ≤ r.length) (h : k = 8 → (r.getD 0 0).toNat ≤ 127) : val (r.take k) < 9223372036854775808 := by
  rcases Nat.lt_or_ge k 8 with h1 | h1
  · have h2 := val_lt (r.take k)
    have h3 : 256 ^ (r.take k).length ≤ 256 ^ 7 := Nat.pow_le_pow_right (by omega) (by rw [List.length_take]; omega)
    have e : (256 : Nat) ^ 7 = 72057594037927936 := by decide
    omega
  · have e8 : k = 8 := by omega
    subst e8
    match r, hk with
    | x :: xs, hk =>
      have h4 : x.toNat ≤ 127 := by simpa using h rfl
      rw [List.take_succ_cons, val_cons]
      have h6 := val_lt (xs.take 7)
      have h7 : (xs.take 7).length = 7 := by rw [List.length_take]; simp at hk; omega
      rw [h7] at h6 ⊢
      have e : (256 : Nat) ^ 7 = 72057594037927936 := by decide
      rw [e] at h6 ⊢
      omega
set_option maxRecDepth 100000 in
/-- Take number: what stands there. -/
theorem number_any (pb : Nat) (b : List UInt8) (e : Int) (w : World) (h : RdR w pb b e) (hl : b.length ≤ 140737488355328) :
    Calls Try.prog 106 #[.pointer (some ⟨pb, 0, none⟩)] w fun r w' => r = .returned (.tuple #[.int .i64 (numP b).1, .int .i64 (numP b).2.1, .int .i64 (numP b).2.2]) ∧ w = w' := by
  obtain ⟨A, c, H⟩ := h
  have h0 : w.cell? ⟨pb, 0, none⟩ = some (.slice A b.length c) := H.blk.cell 0
  have hcap := H.cap
  have hr := H.rb
  clear H
  match b with
  | [] =>
    go_enter Try.func106, Try.ntmps106
    go_wp2
    go_ret3
    exact ⟨rfl, rfl⟩
  | x :: r =>
    obtain ⟨b, off, hA, hbl, hc⟩ := hr.2 (by simp)
    subst hA
    have hx0 : w.cell? ⟨b, off, none⟩ = some (.int .u8 (x.toNat : Int)) := hc 0 (by simp)
    have hx := x.toNat_lt
    obtain ⟨k, hk⟩ : ∃ k, k = x.toNat := ⟨_, rfl⟩
    obtain ⟨n, hn⟩ : ∃ n, n = r.length := ⟨_, rfl⟩
    rw [List.length_cons, ← hn] at h0 hl hcap
    have HC : Hid (∀ j, j < n → w.cell? ⟨b, off + 1 + j, none⟩ = some (.int .u8 ((r.getD j 0).toNat : Int))) := Lib.hid (fun j hj => by
      have := hc (j + 1) (by rw [List.length_cons]; omega)
      rw [show off + 1 + j = off + (j + 1) by omega]
      exact this)
    simp only [numP]
    rw [← hk, ← hn]
    rw [← hk] at hx hx0
    have HK := Lib.hid hk
    have HN := Lib.hid hn
    clear hc hr hk hn
    by_cases h8 : 8 < k
    · rw [if_pos h8]
      go_enter Try.func106, Try.ntmps106
      go_wp2
      go_ret3
      exact ⟨rfl, rfl⟩
    rw [if_neg h8]
    by_cases h9 : n < k
    · rw [if_pos h9]
      go_enter Try.func106, Try.ntmps106
      go_wp2
      go_ret3
      exact ⟨rfl, rfl⟩
    rw [if_neg h9]
    by_cases h0k : k = 0
    · subst h0k
      rw [if_neg (by omega)]
      go_enter Try.func106, Try.ntmps106
      by_cases hc1 : c = 1
      · subst hc1
        go_wp2_with fail
        go_loopw [2, 63] (fun s i wr => s = .int .i64 0 ∧ i = .int .i64 0 ∧ Hid (w = wr)) (fun _ _ _ => 0)
        case atStart => exact ⟨rfl, rfl, Lib.hid rfl⟩
        case round =>
          obtain ⟨rfl, rfl, hw⟩ := hrel
          go_wp2_with fail
          go_ret3
          exact ⟨rfl, hw.out⟩
      · go_wp2_with fail
        go_loopw [2, 63] (fun s i wr => s = .int .i64 0 ∧ i = .int .i64 0 ∧ Hid (w = wr)) (fun _ _ _ => 0)
        case atStart => exact ⟨rfl, rfl, Lib.hid rfl⟩
        case round =>
          obtain ⟨rfl, rfl, hw⟩ := hrel
          go_wp2_with fail
          go_ret3
          exact ⟨rfl, hw.out⟩
    obtain ⟨y, hy⟩ : ∃ y, y = r.getD 0 0 := ⟨_, rfl⟩
    have hy1 : w.cell? ⟨b, off + 1, none⟩ = some (.int .u8 (y.toNat : Int)) := by
      rw [hy]; exact HC.out 0 (by omega)
    have hyb := y.toNat_lt
    rw [← hy]
    have HY := Lib.hid hy
    clear hy
    obtain ⟨z, hz⟩ : ∃ z, z = y.toNat := ⟨_, rfl⟩
    have hy0 : y = 0 ↔ z = 0 := by rw [hz]; exact ⟨fun h => by rw [h]; rfl, fun h => UInt8.toNat_inj.1 (by rw [h]; rfl)⟩
    rw [← hz] at hy1 hyb ⊢
    simp only [hy0]
    have HZ := Lib.hid hz
    clear hz hy0
    by_cases h10 : z = 0
    · rw [if_pos (.inl ⟨by omega, h10⟩)]
      subst h10
      go_enter Try.func106, Try.ntmps106
      go_wp2_with fail
      go_ret3
      exact ⟨rfl, rfl⟩
    by_cases h11 : k = 8 ∧ 127 < z
    · rw [if_pos (.inr h11)]
      obtain ⟨rfl, h11⟩ := h11
      go_enter Try.func106, Try.ntmps106
      go_wp2_with fail
      go_ret3
      exact ⟨rfl, rfl⟩
    rw [if_neg (fun h => by rcases h with h | h; exact h10 h.2; exact h11 h)]
    have hsm : ∀ i, i ≤ k → val (r.take i) < 9223372036854775808 := fun i hi => Nat.lt_of_le_of_lt (val_mono r i k hi) (val_small r k (by omega) (by rw [← HN.out]; omega) (fun h => by rw [← HY.out, ← HZ.out]; omega))
    have HS := Lib.hid hsm
    clear hsm
    go_enter Try.func106, Try.ntmps106
    by_cases h88 : k = 8
    · subst h88
      go_wp2_with fail
      go_loopw [2, 63] (fun s i wr => ∃ j : Nat, j ≤ 8 ∧ i = .int .i64 (j : Int) ∧ s = .int .i64 ((val (r.take j) : Nat) : Int) ∧ Hid (w = wr)) (fun _ i _ => 8 - (intOf i).toNat)
      case atStart => exact ⟨0, Nat.zero_le _, rfl, rfl, Lib.hid rfl⟩
      case round =>
        obtain ⟨j, hj, rfl, rfl, hw⟩ := hrel
        by_cases hlt : j < 8
        · have hcx : wr.cell? ⟨b, off + 1 + j, none⟩ = some (.int .u8 ((r.getD j 0).toNat : Int)) := by
            rw [← hw.out]; exact HC.out j (by omega)
          have hs := HS.out (j + 1) hlt
          rw [val_take_succ r j (by rw [← HN.out]; omega)] at hs
          have hqb := (r.getD j 0).toNat_lt
          have hvs := val_take_succ r j (by rw [← HN.out]; omega)
          obtain ⟨N, hN⟩ : ∃ N, N = val (r.take j) := ⟨_, rfl⟩
          obtain ⟨q, hq⟩ : ∃ q, q = (r.getD j 0).toNat := ⟨_, rfl⟩
          rw [← hN, ← hq] at hs hvs
          rw [← hq] at hcx hqb
          rw [← hN]
          have HV := Lib.hid hvs
          clear hvs hN hq
          have hor := or_low 8 N q (by omega) (by omega)
          go_wp2_with fail
          go_roundw
          case rel =>
            refine ⟨j + 1, hlt, by go_num, ?_, hw⟩
            rw [HV.out]
            rw [show (N : Int) * 256 = ((2 ^ 8 * N : Nat) : Int) by omega, hor, show 2 ^ 8 * N + q = 256 * N + q by omega]
          case measure => simp [intOf]; omega
        · obtain rfl : j = 8 := by omega
          go_wp2_with fail
          go_ret3
          exact ⟨rfl, hw.out⟩
    · go_wp2_with fail
      go_loopw [2, 63] (fun s i wr => ∃ j : Nat, j ≤ k ∧ i = .int .i64 (j : Int) ∧ s = .int .i64 ((val (r.take j) : Nat) : Int) ∧ Hid (w = wr)) (fun _ i _ => k - (intOf i).toNat)
      case atStart => exact ⟨0, Nat.zero_le _, rfl, rfl, Lib.hid rfl⟩
      case round =>
        obtain ⟨j, hj, rfl, rfl, hw⟩ := hrel
        by_cases hlt : j < k
        · have hcx : wr.cell? ⟨b, off + 1 + j, none⟩ = some (.int .u8 ((r.getD j 0).toNat : Int)) := by
            rw [← hw.out]; exact HC.out j (by omega)
          have hs := HS.out (j + 1) hlt
          rw [val_take_succ r j (by rw [← HN.out]; omega)] at hs
          have hqb := (r.getD j 0).toNat_lt
          have hvs := val_take_succ r j (by rw [← HN.out]; omega)
          obtain ⟨N, hN⟩ : ∃ N, N = val (r.take j) := ⟨_, rfl⟩
          obtain ⟨q, hq⟩ : ∃ q, q = (r.getD j 0).toNat := ⟨_, rfl⟩
          rw [← hN, ← hq] at hs hvs
          rw [← hq] at hcx hqb
          rw [← hN]
          have HV := Lib.hid hvs
          clear hvs hN hq
          have hor := or_low 8 N q (by omega) (by omega)
          go_wp2_with fail
          go_roundw
          case rel =>
            refine ⟨j + 1, hlt, by go_num, ?_, hw⟩
            rw [HV.out]
            rw [show (N : Int) * 256 = ((2 ^ 8 * N : Nat) : Int) by omega, hor, show 2 ^ 8 * N + q = 256 * N + q by omega]
          case measure => simp [intOf]; omega
        · have : j = k := by omega
          subst this
          go_wp2_with fail
          go_ret3
          exact ⟨rfl, hw.out⟩

end Go.Proofs.Ytnkenkdglcmpdaa
