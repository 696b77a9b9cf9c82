/- The document's numbers, texts and frames: walks. -/
import Derived.Test.YtnkenkdglcmpdaaJouJ
import Derived.Test.YtnkenkdglcmpdaaCrcC
namespace Go.Proofs.Ytnkenkdglcmpdaa
set_option linter.unusedVariables false
set_option linter.unusedSimpArgs false
open Go.RowKit

theorem wpList_append_bk {w : World} {ops : Array Oper} {rest : List Oper} {o : Oper} {a : Act} {Q : Exit → Act → World → Prop} (hgd : o.guard = none) (s x : Operand)
    (ho : o.op = .call { callee := .builtin .append, args := #[s, x], argTypes := #[22, 22] })
    (B : Nat) (v : Value) (xs : List UInt8) (hs : a.eval s = v) (HO : OBB B w v xs) (hB : B ≤ w.heap.size) (A : Option Addr) (c : Nat) (ys : List UInt8) (hx : a.eval x = .slice A ys.length c) (hr : RB w A ys) (hb : xs.length + ys.length ≤ 140737488355328)
    (h : ∀ v' w', OBB B w' v' (xs ++ ys) → Below B w w' → (∀ u zs, OB w u zs → (u.ownBlock = none ∨ u.ownBlock ≠ v.ownBlock) → OB w' u zs) → wpList Try.prog ops Q rest (a.put o.dst v') w') : wpList Try.prog ops Q (o :: rest) a w :=
  wpList_append_b hgd s x ho v xs hs HO.1 A c ys hx hr hb fun v' w' h1 h2 h3 =>
    h v' w' ⟨h1, fun k hk => by
      rcases h3 with h3 | h3
      · rw [h3] at hk; exact HO.2 k hk
      · rw [h3] at hk; cases hk; exact hB⟩ ((Below.refl B w).grown h2 hB (fun k hk => HO.2 k hk)) fun u zs hu hne => hu.kept h2 hne
theorem OBB.mono {B B' : Nat} {w : World} {v : Value} {xs : List UInt8} (h : OBB B w v xs) (hB : B' ≤ B) : OBB B' w v xs := ⟨h.1, fun k hk => Nat.le_trans hB (h.2 k hk)⟩
/-- A row that was made later is another one. -/
theorem OBB.ne {B : Nat} {w w' : World} {v u : Value} {xs ys : List UInt8} (h : OBB B w v xs) (hu : OBB w.heap.size w' u ys) : u.ownBlock = none ∨ u.ownBlock ≠ v.ownBlock := by
  match hk : u.ownBlock with
  | none => exact .inl rfl
  | some k =>
    refine .inr fun he => ?_
    have h1 := hu.2 k hk
    have h2 := h.1.lt k he.symm
    omega
theorem be_cons : ∀ (j n : Nat), be (j + 1) n = UInt8.ofNat (n / 256 ^ j % 256) :: be j n
  | 0, n => by simp [be]
  | j + 1, n => by
    rw [be, be_cons j (n / 256), Nat.div_div_eq_div_mul, ← Nat.pow_succ', List.cons_append]
    rfl
theorem OBB.reads' {B : Nat} {w : World} {v : Value} {xs : List UInt8} (h : OBB B w v xs) (hl : xs.length ≤ 140737488355328) : ∃ A c, v = .slice A xs.length c ∧ RB w A xs ∧ xs.length ≤ c := by
  obtain ⟨A, c, h1, h2, h3, _⟩ := h.1.reads' hl
  exact ⟨A, c, h1, h2, h3⟩
theorem OBB.lit1 (B : Nat) (w : World) (x : Nat) (hx : x < 256) (hB : B ≤ w.heap.size) : OBB B (w.alloc (.cells #[.int .u8 (x : Int)] 5)) (.slice (some ⟨w.heap.size, 0, none⟩) 1 1) [UInt8.ofNat x] :=
  ⟨OB.lit w [UInt8.ofNat x] _ (by simp [bv]; omega) (by simp), fun k hk => by simp [Value.ownBlock] at hk; omega⟩
set_option maxHeartbeats 2000000 in
theorem digits_any (B n : Nat) (w : World) (hB : B ≤ w.heap.size) (hn : n < 9223372036854775808) :
    Calls Try.prog 113 #[.int .i64 (n : Int)] w fun e w' => ∃ v, e = .returned v ∧ OBB B w' v (be (nbytes n) n) ∧ Below B w w' := by
  have h8 := nbytes_small hn
  obtain ⟨N, hN⟩ : ∃ N, N = nbytes n := ⟨_, rfl⟩
  rw [← hN] at h8 ⊢
  have HN := Lib.hid hN
  have HO : Hid (OBB B w (.slice none 0 0) (be 0 n)) := Lib.hid ⟨OB.nil w, fun k hk => by simp [Value.ownBlock] at hk⟩
  clear hN
  go_enter Try.func113, Try.ntmps113
  go_wp2_with fail
  go_loopw [0, 3] (fun x u wr => ∃ m j : Nat, x = .int .i64 (m : Int) ∧ m < 9223372036854775808 ∧ j ≤ 8 ∧ Hid (j + nbytes m = N) ∧ Hid (m = n / 256 ^ j) ∧ Hid (OBB B wr u (be j n)) ∧ Hid (Below B w wr) ∧ B ≤ wr.heap.size) (fun x _ _ => (intOf x).toNat)
  case atStart => exact ⟨n, 0, rfl, hn, by omega, Lib.hid (by rw [HN.out]; omega), Lib.hid (by simp), HO, Lib.hid (Below.refl _ _), hB⟩
  case round =>
    clear HO
    obtain ⟨m, j, rfl, hm, hj8, HJ, HM, HV, HB, hBr⟩ := hrel
    by_cases h0 : 0 < m
    · have l0 : (0 : Int) < (m : Int) := by omega
      obtain ⟨A, c, rfl, hr, hc⟩ := HV.out.reads' (by rw [be_len]; omega)
      rw [be_len] at hc ⊢
      obtain ⟨x, hx⟩ : ∃ x, x = m % 256 := ⟨_, rfl⟩
      have hx256 : x < 256 := by omega
      have hxi : (m : Int) % 256 = (x : Int) := by omega
      have HX := Lib.hid hx
      have HXI := Lib.hid hxi
      have HL := Lib.hid (OBB.lit1 B wr x hx256 hBr)
      have HR : Hid (RB (wr.alloc (.cells #[.int .u8 (x : Int)] 5)) A (be j n)) := Lib.hid (hr.below ((Below.refl _ _).alloc (Nat.le_refl _) _))
      have HB2 : Hid (B ≤ (wr.alloc (.cells #[.int .u8 (x : Int)] 5)).heap.size) := Lib.hid (by simp; omega)
      have HLB := Lib.hid (be_len j n)
      clear hx hxi hr hc
      go_wp2_with (at_builtin; rw [HXI.out]; refine wpList_append_bb rfl (.tmp 9) (.tmp 10) rfl B (.slice (some ⟨wr.heap.size, 0, none⟩) 1 1) [UInt8.ofNat x] rfl HL.out HB2.out A c (be j n) (by rw [HLB.out]; rfl) HR.out (by rw [HLB.out]; simp; omega) ?_; intro v1 w1 hv hb)
      have hnb := nbytes_pos h0
      have hj1 : j + 1 ≤ 8 := by have := HJ.out; omega
      have HV3 : Hid (OBB B w1 v1 (be (j + 1) n)) := Lib.hid (by rw [be_cons, ← HM.out, ← HX.out]; exact hv)
      have HB3 : Hid (Below B w w1) := Lib.hid (HB.out.trans (((Below.refl B wr).alloc hBr _).trans hb))
      have hB3 : B ≤ w1.heap.size := Nat.le_trans HB2.out hb.size
      have HJ3 : Hid (j + 1 + nbytes (m / 256) = N) := Lib.hid (by have := HJ.out; omega)
      have HM3 : Hid (m / 256 = n / 256 ^ (j + 1)) := Lib.hid (by rw [Nat.pow_succ, ← Nat.div_div_eq_div_mul, ← HM.out])
      clear hv hb HV HL HR HB2 HB hBr HJ HM hnb
      go_wp2_with fail
      go_roundw
      case rel => exact ⟨m / 256, j + 1, by go_num, by omega, hj1, HJ3, HM3, HV3, HB3, hB3⟩
      case measure => simp [intOf]; omega
    · obtain rfl : m = 0 := by omega
      have hjn : j = N := by have := HJ.out; rw [nbytes_zero] at this; omega
      subst hjn
      clear HJ HM
      go_wp2_with fail
      go_ret
      exact ⟨_, rfl, HV.out, HB.out⟩

set_option maxRecDepth 100000 in
set_option maxHeartbeats 2000000 in
theorem rput_any (B : Nat) (A : Option Addr) (c : Nat) (xs : List UInt8) (n : Nat) (w : World) (hB : B ≤ w.heap.size) (hr : RB w A xs) (hm : xs.length ≤ 1000) (hn : n < 9223372036854775808) :
    Calls Try.prog 101 #[.slice A xs.length c, .int .i64 (n : Int)] w fun e w' => ∃ v, e = .returned v ∧ OBB B w' v (xs ++ putN n) ∧ Below B w w' := by
  have h0 : ¬ (n : Int) < 0 := by omega
  have h8 := nbytes_small hn
  obtain ⟨N, hN⟩ : ∃ N, N = nbytes n := ⟨_, rfl⟩
  rw [← hN] at h8
  have HN := Lib.hid hN
  obtain ⟨m, hmm⟩ : ∃ m, m = xs.length := ⟨_, rfl⟩
  rw [← hmm] at hm ⊢
  have HM := Lib.hid hmm
  have HR := Lib.hid (hr.below ((Below.refl w.heap.size w).alloc (Nat.le_refl _) (.cells #[] 5)))
  have HO := Lib.hid (show OBB B (w.alloc (.cells #[] 5)) (.slice (some ⟨w.heap.size, 0, none⟩) 0 0) [] from ⟨OB.lit w [] _ rfl (by decide), fun k hk => by simp [Value.ownBlock] at hk; omega⟩)
  have hB1 : B ≤ (w.alloc (.cells #[] 5)).heap.size := by simp; omega
  clear hN hmm hr
  go_enter Try.func101, Try.ntmps101
  go_wp2_with (at_builtin; refine wpList_append_bb rfl (.tmp 7) (.tmp 8) rfl B (.slice (some ⟨w.heap.size, 0, none⟩) 0 0) [] rfl HO.out hB1 A c xs (by rw [← HM.out]; rfl) HR.out (by rw [← HM.out]; simp; omega) ?_; intro v1 w1 hv hb)
  rw [List.nil_append] at hv
  have HV := Lib.hid hv
  have HB1 : Hid (Below B w w1) := Lib.hid (((Below.refl B w).alloc hB _).trans hb)
  have hs1 : B ≤ w1.heap.size := Nat.le_trans hB1 hb.size
  clear hv hb HO HR hB1
  go_wp2_with fail
  refine (digits_any w1.heap.size n w1 (Nat.le_refl _) hn).mono ?_
  rw [← HN.out]
  rintro e w2 ⟨d, rfl, hd, hb2⟩
  have hs2 : B ≤ w2.heap.size := Nat.le_trans hs1 hb2.size
  have hv2 := HV.out.below hb2
  have hne := HV.out.ne hd
  have hba : Below w2.heap.size w2 (w2.alloc (.cells #[.int .u8 (N : Int)] 5)) := (Below.refl _ _).alloc (Nat.le_refl _) _
  obtain ⟨A2, c2, rfl, _, _⟩ := hd.reads' (by rw [be_len]; omega)
  have HBL := Lib.hid (be_len N n)
  rw [HBL.out] at hd hne ⊢
  have HV2 := Lib.hid (hv2.below hba)
  have HD2 := Lib.hid (hd.1.below hba)
  have HNE := Lib.hid hne
  have HL2 : Hid (RB (w2.alloc (.cells #[.int .u8 (N : Int)] 5)) (some ⟨w2.heap.size, 0, none⟩) [UInt8.ofNat N]) := Lib.hid (RB.fresh w2 [UInt8.ofNat N] [] _ _ (by simp) (by simp [bv]; omega))
  have hs3 : B ≤ (w2.alloc (.cells #[.int .u8 (N : Int)] 5)).heap.size := by simp; omega
  have HB2 : Hid (Below B w (w2.alloc (.cells #[.int .u8 (N : Int)] 5))) := Lib.hid ((HB1.out.trans (Below.up hb2 hs1)).alloc (by omega) _)
  clear hv2 hne hba hd hb2 HV HB1
  go_wp2_with (at_builtin; refine (fun (h : Hid _) => h.out) ?_)
  refine Lib.hid ?_
  refine wpList_append_bk rfl (.tmp 15) (.tmp 19) rfl B v1 xs rfl HV2.out hs3 (some ⟨w2.heap.size, 0, none⟩) 1 [UInt8.ofNat N] rfl HL2.out (by rw [← HM.out]; simp; omega) ?_
  intro v3 w3 hv hb hk
  have HV3 := Lib.hid hv
  have HB3 := Lib.hid (HB2.out.trans hb)
  have hs4 : B ≤ w3.heap.size := Nat.le_trans hs3 hb.size
  have hd3 := hk _ _ HD2.out HNE.out
  have hr3 : RB w3 A2 (be N n) := hd3.reads (by rw [be_len]; omega)
  have HR3 := Lib.hid hr3
  clear hv hb hk hd3 hr3 HV2 HD2 HNE HL2 HB2 hs3
  go_wp2_with (at_builtin; refine (fun (h : Hid _) => h.out) ?_)
  refine Lib.hid ?_
  refine wpList_append_bb rfl (.tmp 21) (.tmp 22) rfl B v3 (xs ++ [UInt8.ofNat N]) rfl HV3.out hs4 A2 c2 (be N n) (by rw [HBL.out]; rfl) HR3.out (by rw [HBL.out, List.length_append, ← HM.out]; simp; omega) ?_
  intro v4 w4 hv hb
  have HV4 : Hid (OBB B w4 v4 (xs ++ putN n)) := Lib.hid (by
    unfold putN
    rw [← HN.out]
    rw [List.append_assoc] at hv
    exact hv)
  have HB4 := Lib.hid (HB3.out.trans hb)
  clear hv hb HV3 HB3
  go_wp2_with fail
  go_ret
  exact ⟨_, rfl, HV4.out, HB4.out⟩
set_option maxRecDepth 100000 in
theorem rputText_any (B : Nat) (A : Option Addr) (c : Nat) (xs ys : List UInt8) (w : World) (hB : B ≤ w.heap.size) (hr : RB w A xs) (hm : xs.length ≤ 1000) (hy : ys.length ≤ 1000000000) :
    Calls Try.prog 85 #[.slice A xs.length c, .string (strB ys)] w fun e w' => ∃ v, e = .returned v ∧ OBB B w' v (xs ++ putT ys) ∧ Below B w w' := by
  obtain ⟨s, hs⟩ : ∃ s, s = strB ys := ⟨_, rfl⟩
  have hsz : s.size = ys.length := by rw [hs]; simp [strB, ByteArray.size]
  obtain ⟨n, hn⟩ : ∃ n, n = ys.length := ⟨_, rfl⟩
  obtain ⟨m, hmm⟩ : ∃ m, m = xs.length := ⟨_, rfl⟩
  rw [← hn] at hsz hy
  rw [← hs]
  have HC := Lib.hid (rput_any B A c xs n w hB hr hm (by omega))
  rw [← hmm] at hm HC ⊢
  have HS := Lib.hid hs
  have HN := Lib.hid hn
  have HM := Lib.hid hmm
  clear hs hn hmm hr
  go_enter Try.func85, Try.ntmps85
  go_wp2_with fail
  refine HC.out.mono ?_
  rintro e w' ⟨v, rfl, hv, hb⟩
  have HV := Lib.hid hv
  have HB := Lib.hid hb
  have hB1 : B ≤ w'.heap.size := Nat.le_trans hB hb.size
  have HL : Hid ((xs ++ putN n).length + ys.length ≤ 140737488355328) := Lib.hid (by
    have := nbytes_small (n := n) (by omega)
    rw [List.length_append, putN_len, ← HM.out, ← HN.out]; omega)
  clear hv hb HC
  go_wp2_with (at_builtin; refine wpList_append_sb rfl (.tmp 8) (.tmp 9) rfl B v (xs ++ putN n) rfl HV.out hB1 ys (by rw [← HS.out]; rfl) HL.out ?_; intro v1 w1 hv hb)
  have HV2 : Hid (OBB B w1 v1 (xs ++ putT ys)) := Lib.hid (by
    unfold putT
    rw [← HN.out, ← List.append_assoc]
    exact hv)
  have HB2 := Lib.hid (HB.out.trans hb)
  clear hv hb HV HB HL
  go_wp2_with fail
  go_ret
  exact ⟨v1, rfl, HV2.out, HB2.out⟩
set_option maxRecDepth 100000 in
set_option maxHeartbeats 2000000 in
theorem rframe_any (B : Nat) (k : UInt8) (A : Option Addr) (c : Nat) (xs : List UInt8) (w : World) (hB : B ≤ w.heap.size) (hr : RB w A xs) (hy : xs.length ≤ 1000000000) :
    Calls Try.prog 54 #[.int .u8 (k.toNat : Int), .slice A xs.length c] w fun e w' => ∃ v, e = .returned v ∧ OBB B w' v (frameB k xs) ∧ Below B w w' := by
  obtain ⟨n, hn⟩ : ∃ n, n = xs.length := ⟨_, rfl⟩
  rw [← hn]
  have hba : Below w.heap.size w (w.alloc (.cells #[.int .u8 (k.toNat : Int)] 5)) := (Below.refl _ _).alloc (Nat.le_refl _) _
  have hcv := run_str (hr.below hba) n c hn.symm
  have hk1 : RB (w.alloc (.cells #[.int .u8 (k.toNat : Int)] 5)) (some ⟨w.heap.size, 0, none⟩) [k] := RB.fresh w [k] [] _ _ (by simp) (by simp [bv])
  have HK := Lib.hid hk1
  have hB1 : B ≤ (w.alloc (.cells #[.int .u8 (k.toNat : Int)] 5)).heap.size := Nat.le_trans hB hba.size
  have HBA := Lib.hid (Below.up hba hB)
  have HY := Lib.hid hy
  clear hk1 hr hn hba hy
  go_enter Try.func54, Try.ntmps54
  go_wp2_with fail
  refine (rputText_any B (some ⟨w.heap.size, 0, none⟩) 1 [k] xs _ hB1 HK.out (by simp) HY.out).mono ?_
  rintro e w1 ⟨v, rfl, hv, hb⟩
  rw [List.singleton_append] at hv
  have HBL := Lib.hid (HBA.out.trans hb)
  have hB2 : B ≤ w1.heap.size := Nat.le_trans hB1 hb.size
  have hlen : (k :: putT xs).length = 2 + nbytes xs.length + xs.length := by rw [List.length_cons, putT_len]; omega
  have hnb := nbytes_small (n := xs.length) (by have := HY.out; omega)
  have hLb : (k :: putT xs).length ≤ 1000000100 := by have := HY.out; omega
  obtain ⟨A2, c2, rfl, hr2, _⟩ := hv.reads' (by omega)
  obtain ⟨L, hL⟩ : ∃ L, L = (k :: putT xs).length := ⟨_, rfl⟩
  have hsum := refSum_any A2 c2 (k :: putT xs) w1 hr2
  rw [← hL] at hsum hLb hv ⊢
  have HSU := Lib.hid hsum
  have HL := Lib.hid hL
  have HR2 := Lib.hid hr2
  clear hv hb hlen hnb hL hr2 hsum HK HBA hcv
  go_wp2_with fail
  refine HSU.out.mono ?_
  rintro e w2 ⟨rfl, rfl⟩
  obtain ⟨s, hs⟩ : ∃ s, s = (crcS (k :: putT xs)).toNat := ⟨_, rfl⟩
  have hs24 : s < 16777216 := by rw [hs]; exact crcS_lt _
  rw [← hs]
  have HS := Lib.hid hs
  have e0 : (s : Int) / 65536 = ((UInt8.ofNat (s / 65536)).toNat : Int) := by simp; omega
  have e1 : (s : Int) / 256 % 256 = ((UInt8.ofNat (s / 256 % 256)).toNat : Int) := by simp
  have e2 : (s : Int) % 256 = ((UInt8.ofNat (s % 256)).toNat : Int) := by simp
  have E0 := Lib.hid e0
  have E1 := Lib.hid e1
  have E2 := Lib.hid e2
  obtain ⟨W, hW⟩ : ∃ W, W = w1.alloc (.cells #[.int .u8 ((UInt8.ofNat (s / 65536)).toNat : Int), .int .u8 ((UInt8.ofNat (s / 256 % 256)).toNat : Int), .int .u8 ((UInt8.ofNat (s % 256)).toNat : Int)] 5) := ⟨_, rfl⟩
  have hbl : Below w1.heap.size w1 W := by rw [hW]; exact (Below.refl _ _).alloc (Nat.le_refl _) _
  have HO3 : Hid (OBB B W (.slice (some ⟨w1.heap.size, 0, none⟩) 3 3) (sum3 s)) := Lib.hid (by rw [hW]; exact ⟨OB.lit w1 (sum3 s) _ rfl (by simp [sum3]), fun k hk => by simp [Value.ownBlock] at hk; omega⟩)
  have HR3 := Lib.hid (HR2.out.below hbl)
  have HB3 := Lib.hid (HBL.out.trans (Below.up hbl hB2))
  have hs3 : B ≤ W.heap.size := Nat.le_trans hB2 hbl.size
  have HWW := Lib.hid hW
  clear hs HSU e0 e1 e2 hbl hW
  go_wp2_with (at_builtin; rw [E0.out, E1.out, E2.out, ← HWW.out]; refine wpList_append_bb rfl (.tmp 24) (.tmp 25) rfl B (.slice (some ⟨w1.heap.size, 0, none⟩) 3 3) (sum3 s) rfl HO3.out hs3 A2 c2 (k :: putT xs) (by rw [← HL.out]; rfl) HR3.out (by rw [← HL.out]; simp [sum3]; omega) ?_; intro v4 w4 hv hb)
  have HV4 : Hid (OBB B w4 v4 (frameB k xs)) := Lib.hid (by unfold frameB; rw [← HS.out]; exact hv)
  have HB4 := Lib.hid (HB3.out.trans hb)
  clear hv hb HO3 HR3 HB3 HR2 HBL
  go_wp2_with fail
  go_ret
  exact ⟨_, rfl, HV4.out, HB4.out⟩

end Go.Proofs.Ytnkenkdglcmpdaa
