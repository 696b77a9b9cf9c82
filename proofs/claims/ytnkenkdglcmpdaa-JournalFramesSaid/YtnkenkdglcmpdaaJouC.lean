/- The walks of tally's Size, Put, PutText. -/
import Derived.Test.YtnkenkdglcmpdaaJouB
import Derived.Test.YtnkenkdglcmpdaaTapeK
import Derived.Lib.AppendStr
namespace Go.Proofs.Ytnkenkdglcmpdaa
set_option linter.unusedVariables false
set_option linter.unusedSimpArgs false
open Go.RowKit

/-- A row of bytes of the call's own, at B or behind it. -/
def OBB (B : Nat) (w : World) (v : Value) (xs : List UInt8) : Prop := OB w v xs ∧ ∀ k, v.ownBlock = some k → B ≤ k
theorem OBB.below {B : Nat} {w w' : World} {v : Value} {xs : List UInt8} (h : OBB B w v xs) (hb : Below w.heap.size w w') : OBB B w' v xs := ⟨h.1.below hb, h.2⟩
theorem wpList_append_bb {w : World} {ops : Array Oper} {rest : List Oper} {o : Oper} {a : Act} {Q : Exit → Act → World → Prop} (hgd : o.guard = none) (s x : Operand)
    (ho : o.op = .call { callee := .builtin .append, args := #[s, x], argTypes := #[22, 22] })
    (B : Nat) (v : Value) (xs : List UInt8) (hs : a.eval s = v) (HO : OBB B w v xs) (hB : B ≤ w.heap.size) (A : Option Addr) (c : Nat) (ys : List UInt8) (hx : a.eval x = .slice A ys.length c) (hr : RB w A ys) (hb : xs.length + ys.length ≤ 140737488355328)
    (h : ∀ v' w', OBB B w' v' (xs ++ ys) → Below B w w' → wpList Try.prog ops Q rest (a.put o.dst v') w') : wpList Try.prog ops Q (o :: rest) a w :=
  wpList_append_b hgd s x ho v xs hs HO.1 A c ys hx hr hb fun v' w' h1 h2 h3 =>
    h v' w' ⟨h1, fun k hk => by
      rcases h3 with h3 | h3
      · rw [h3] at hk; exact HO.2 k hk
      · rw [h3] at hk; cases hk; exact hB⟩ ((Below.refl B w).grown h2 hB (fun k hk => HO.2 k hk))
theorem strCells_strB (ys : List UInt8) : Lib.strCells (strB ys) = bv ys := by simp [Lib.strCells, strB, bv]
theorem wpList_append_sb {w : World} {ops : Array Oper} {rest : List Oper} {o : Oper} {a : Act} {Q : Exit → Act → World → Prop} (hgd : o.guard = none) (s x : Operand)
    (ho : o.op = .call { callee := .builtin .append, args := #[s, x], argTypes := #[22, 9] })
    (B : Nat) (v : Value) (xs : List UInt8) (hs : a.eval s = v) (HO : OBB B w v xs) (hB : B ≤ w.heap.size) (ys : List UInt8) (hx : a.eval x = .string (strB ys)) (hb : xs.length + ys.length ≤ 140737488355328)
    (h : ∀ v' w', OBB B w' v' (xs ++ ys) → Below B w w' → wpList Try.prog ops Q rest (a.put o.dst v') w') : wpList Try.prog ops Q (o :: rest) a w := by
  obtain ⟨i, hi, hzz⟩ := Option.map_eq_some_iff.1 info_u8
  simp only [Prod.mk.injEq] at hzz
  have hsz : (strB ys).size = ys.length := by simp [strB, ByteArray.size]
  have hown : w.ownsRow B 5 1 v xs.length (bv xs) := by
    refine ⟨HO.1.1, ?_⟩
    rcases HO.1.2 with h1 | ⟨g, cap, cur, rfl, _, h2⟩
    · exact .inl h1
    · exact .inr ⟨g, cap, cur, rfl, HO.2 g rfl, h2⟩
  refine Lib.wpList_append_own_string w hgd s x 22 9 ho B 5 i Try.underlying22 Try.underlying9 hi hzz.1 hzz.2.1 hzz.2.2 v xs.length (bv xs) hs hown (strB ys) hx (by rw [hsz]; simp only [maxLen]; omega) (by rw [hsz]; exact hb) hB ?_
  intro v' w' h1 h2 _
  rw [strCells_strB, hsz] at h1
  refine h v' w' ⟨?_, ?_⟩ ((Below.refl B w).grown h2 hB (fun k hk => HO.2 k hk))
  · unfold OB
    rw [bv_append, List.length_append]
    refine ⟨h1.1, ?_⟩
    rcases h1.2 with h3 | ⟨g, cap, cur, e, _, h4⟩
    · exact .inl h3
    · exact .inr ⟨g, cap, cur, e, Nat.zero_le _, h4⟩
  · intro k hk
    rcases h1.2 with ⟨rfl, _⟩ | ⟨g, cap, cur, rfl, hg, _⟩
    · simp [Value.ownBlock] at hk
    · simp [Value.ownBlock] at hk; omega

theorem size_num (n : Nat) (w : World) (h : n < 9223372036854775808) :
    Calls Try.prog 104 #[.int .i64 (n : Int)] w fun e w' => e = .returned (.int .i64 ((nbytes n : Int) + 1)) ∧ w = w' := by
  have h0 : ¬ (n : Int) < 0 := by omega
  have h8 := nbytes_small h
  have hlt := lt_nbytes n
  obtain ⟨N, hN⟩ : ∃ N, N = nbytes n := ⟨_, rfl⟩
  rw [← hN] at h8 ⊢
  have HN := Lib.hid hN
  clear hN hlt
  go_enter Try.func104, Try.ntmps104
  go_wp2_with fail
  go_loopw [0, 3] (fun x k wr => ∃ m j : Nat, x = .int .i64 (m : Int) ∧ k = .int .i64 ((j : Int) + 1) ∧ m < 9223372036854775808 ∧ Hid (j + nbytes m = N) ∧ Hid (wr = w)) (fun x _ _ => (intOf x).toNat)
  case atStart => exact ⟨n, 0, rfl, rfl, h, Lib.hid (by rw [HN.out]; omega), Lib.hid rfl⟩
  case round =>
    obtain ⟨m, j, rfl, rfl, hm, HJ, HW⟩ := hrel
    by_cases hp : 0 < m
    · have l1 : (0 : Int) < (m : Int) := by omega
      have hj := HJ.out
      rw [nbytes_pos hp] at hj
      have hj8 : j ≤ 8 := by omega
      have HJ2 := Lib.hid hj
      clear hj HJ
      go_wp2_with fail
      go_roundw
      case rel => exact ⟨m / 256, j + 1, by go_num, by go_num, by omega, Lib.hid (by have := HJ2.out; omega), HW⟩
      case measure => simp [intOf]; omega
    · have : m = 0 := by omega
      subst this
      have hj := HJ.out
      rw [nbytes_zero] at hj
      have hj2 : j = N := by omega
      subst hj2
      clear hj HJ
      go_wp2_with fail
      go_ret
      exact ⟨rfl, HW.out.symm⟩

theorem be_take (k n i : Nat) (h : i < k) : (be k n).take (i + 1) = (be k n).take i ++ [UInt8.ofNat (n / 256 ^ (k - 1 - i) % 256)] := by
  rw [List.take_add_one, be_get k n i h]
  rfl
theorem shr_byte (n j : Nat) : (n : Int) / 2 ^ (8 * j) % 256 = ((n / 256 ^ j % 256 : Nat) : Int) := by
  have e : (2 : Int) ^ (8 * j) = ((256 ^ j : Nat) : Int) := by
    rw [Int.pow_mul]
    simp
  rw [e]
  simp
set_option maxHeartbeats 2000000 in
theorem put_any (B : Nat) (A : Option Addr) (m : Nat) (xs : List UInt8) (n : Nat) (w : World) (hB : B ≤ w.heap.size) (ho : OBB B w (.slice A m m) xs) (hm : xs.length = m) (hml : m ≤ 1000) (hn : n < 9223372036854775808) :
    Calls Try.prog 92 #[.slice A m m, .int .i64 (n : Int)] w fun e w' => ∃ v, e = .returned v ∧ OBB B w' v (xs ++ putN n) ∧ Below B w w' := by
  have h0 : ¬ (n : Int) < 0 := by omega
  have h8 := nbytes_small hn
  obtain ⟨N, hN⟩ : ∃ N, N = nbytes n := ⟨_, rfl⟩
  rw [← hN] at h8
  have HN := Lib.hid hN
  have HO := Lib.hid ho
  have HM := Lib.hid hm
  clear ho hm hN
  go_enter Try.func92, Try.ntmps92
  go_wp2_with fail
  refine (size_num n w hn).mono ?_
  rw [← HN.out]
  rintro e w' ⟨rfl, rfl⟩
  have hlit : ∀ (W : World) (x : Nat), x < 256 → RB (W.alloc (.cells #[.int .u8 (x : Int)] 5)) (some ⟨W.heap.size, 0, none⟩) [UInt8.ofNat x] := fun W x hx => RB.fresh W [UInt8.ofNat x] [] _ _ (by simp) (by simp [bv]; omega)
  have HLIT := Lib.hid hlit
  clear hlit
  have HO2 : Hid (OBB B (w.alloc (.cells #[.int .u8 (N : Int)] 5)) (.slice A m m) xs) := Lib.hid (HO.out.below ((Below.refl _ _).alloc (Nat.le_refl _) _))
  have HB2 : Hid (B ≤ (w.alloc (.cells #[.int .u8 (N : Int)] 5)).heap.size) := Lib.hid (by simp; omega)
  go_wp2_with (at_builtin; refine wpList_append_bb rfl (.tmp 19) (.tmp 22) rfl B (.slice A m m) xs rfl HO2.out HB2.out (some ⟨w.heap.size, 0, none⟩) 1 [UInt8.ofNat N] rfl (HLIT.out w N (by omega)) (by rw [HM.out]; simp; omega) ?_; intro v w1 hv hb)
  have HV := Lib.hid hv
  have HBL : Hid (Below B w w1) := Lib.hid (((Below.refl B w).alloc hB _).trans hb)
  have hB1 : B ≤ w1.heap.size := Nat.le_trans HB2.out hb.size
  clear hv hb HO2 HB2 HO
  go_loopw [0, 25] (fun u i wr => ∃ k : Nat, k ≤ N ∧ i = .int .i64 k ∧ Hid (OBB B wr u ((xs ++ [UInt8.ofNat N]) ++ (be N n).take k)) ∧ Hid (Below B w wr) ∧ B ≤ wr.heap.size) (fun _ i _ => N - (intOf i).toNat)
  case atStart => exact ⟨0, Nat.zero_le _, rfl, Lib.hid (by rw [List.take_zero, List.append_nil]; exact HV.out), HBL, hB1⟩
  case round =>
    clear HV HBL hB1
    obtain ⟨k, hk, rfl, HV, HBL, hBr⟩ := hrel
    by_cases hlt : k < N
    · have l1 : (k : Int) < (N : Int) := by omega
      obtain ⟨x, hx⟩ : ∃ x, x = n / 256 ^ (N - 1 - k) % 256 := ⟨_, rfl⟩
      have hx256 : x < 256 := by rw [hx]; exact Nat.mod_lt _ (by omega)
      have hby : (n : Int) / 2 ^ (8 * (N - 1 - k)) % 256 = (x : Int) := by
        rw [hx]
        exact shr_byte n (N - 1 - k)
      have HBY := Lib.hid hby
      have HX := Lib.hid hx
      have HV1 : Hid (OBB B (wr.alloc (.cells #[.int .u8 (x : Int)] 5)) u0 ((xs ++ [UInt8.ofNat N]) ++ (be N n).take k)) := Lib.hid (HV.out.below ((Below.refl _ _).alloc (Nat.le_refl _) _))
      have HB2 : Hid (B ≤ (wr.alloc (.cells #[.int .u8 (x : Int)] 5)).heap.size) := Lib.hid (by simp; omega)
      have HLEN : Hid (((xs ++ [UInt8.ofNat N]) ++ (be N n).take k).length + 1 ≤ 140737488355328) := Lib.hid (by rw [List.length_append, List.length_append, HM.out, List.length_take, be_len]; simp; omega)
      clear hby hx
      go_wp2_with (at_builtin; rw [HBY.out]; refine wpList_append_bb rfl (.tmp 28) (.tmp 37) rfl B u0 ((xs ++ [UInt8.ofNat N]) ++ (be N n).take k) rfl HV1.out HB2.out (some ⟨wr.heap.size, 0, none⟩) 1 [UInt8.ofNat x] rfl (HLIT.out wr x hx256) HLEN.out ?_; intro v1 w1 hv hb)
      have HV3 : Hid (OBB B w1 v1 ((xs ++ [UInt8.ofNat N]) ++ (be N n).take (k + 1))) := Lib.hid (by
        rw [be_take N n k hlt, ← HX.out, ← List.append_assoc]
        exact hv)
      have HBL3 : Hid (Below B w w1) := Lib.hid (HBL.out.trans (((Below.refl B wr).alloc hBr _).trans hb))
      have hB3 : B ≤ w1.heap.size := Nat.le_trans HB2.out hb.size
      clear hv hb HV HV1 HB2 HLEN HBL hBr
      go_wp2_with fail
      go_roundw
      case rel => exact ⟨k + 1, by omega, by go_num, HV3, HBL3, hB3⟩
      case measure => simp [intOf]; omega
    · obtain rfl : k = N := by omega
      have l1 : ¬ (k : Int) < (k : Int) := by omega
      have HV2 : Hid (OBB B wr u0 (xs ++ putN n)) := Lib.hid (by
        have h := HV.out
        rw [List.take_of_length_le (by rw [be_len]; omega), List.append_assoc] at h
        unfold putN
        rw [← HN.out]
        exact h)
      clear HV
      go_wp2_with fail
      go_ret
      exact ⟨_, rfl, HV2.out, HBL.out⟩

end Go.Proofs.Ytnkenkdglcmpdaa
