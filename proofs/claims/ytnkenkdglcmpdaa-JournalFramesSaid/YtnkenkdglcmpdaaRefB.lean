/- The document's Reader: walks. -/
import Derived.BigQuiet
import Derived.IntWalk
import Derived.Test.YtnkenkdglcmpdaaRefA
namespace Go.Proofs.Ytnkenkdglcmpdaa
set_option linter.unusedVariables false
set_option linter.unusedSimpArgs false
open Go.RowKit

/-- Block pb is the document's reader of the bytes b, at a place, with the error e. -/
structure RRAt (w : World) (pb : Nat) (b : List UInt8) (p : Nat) (e : Int) (A : Option Addr) (c : Nat) : Prop where
  blk : Blk w pb #[.slice A b.length c, .int .i64 (p : Int), .int .i64 e] 122
  rb : RB w A b
  cap : b.length ≤ c
  ne : ∀ a, A = some a → 0 < b.length → a.block ≠ pb
def RRd (w : World) (pb : Nat) (b : List UInt8) (p : Nat) (e : Int) : Prop := ∃ A c, RRAt w pb b p e A c
theorem RRAt.below {w w' : World} {pb : Nat} {b : List UInt8} {p : Nat} {e : Int} {A : Option Addr} {c : Nat} (h : RRAt w pb b p e A c) (hb : Below w.heap.size w w') : RRAt w' pb b p e A c :=
  ⟨h.blk.below hb, h.rb.below hb, h.cap, h.ne⟩
set_option maxRecDepth 100000 in
theorem rread_any (B : Nat) (A : Option Addr) (c : Nat) (xs : List UInt8) (w : World) (hB : B ≤ w.heap.size) (hr : RB w A xs) (hl : xs.length ≤ 140737488355328) :
    Calls Try.prog 98 #[.slice A xs.length c] w fun e w' => ∃ pb, e = .returned (.pointer (some ⟨pb, 0, none⟩)) ∧ B ≤ pb ∧ RRd w' pb xs 0 0 ∧ Below B w w' := by
  have HLO := Lib.hid (show OB (w.alloc (.cells #[] 5)) (.slice (some ⟨w.heap.size, 0, none⟩) 0 0) [] from OB.lit w [] _ rfl (by decide))
  have HR := Lib.hid (hr.below ((Below.refl w.heap.size w).alloc (Nat.le_refl _) (.cells #[] 5)))
  have HL := Lib.hid hl
  clear hr hl
  go_enter Try.func98, Try.ntmps98
  go_wp2_with (at_builtin; refine wpList_append_b rfl (.tmp 3) (.tmp 4) rfl (.slice (some ⟨w.heap.size, 0, none⟩) 0 0) [] rfl HLO.out A c xs rfl HR.out (by simp; exact HL.out) ?_; intro v w1 HO hg hat; have hcf := Lib.hid (clone_facts HO hg hat); obtain ⟨A1, c1, hv, hc1⟩ : ∃ A1 c1, v = .slice A1 xs.length c1 ∧ True := (by obtain ⟨A1, c1, h⟩ := hcf.out.1.form; exact ⟨A1, c1, h, trivial⟩); subst hv)
  clear HO hg hat hc1 HR HLO
  go_ret
  have hcf := hcf.out
  obtain ⟨A2, c2, hv, hr2, hc2, hn2⟩ := hcf.1.reads' HL.out
  cases hv
  have hbn : Below w.heap.size w1 (w1.alloc (.cells #[.slice A1 xs.length c1, .int .i64 0, .int .i64 0] 122)) := (Below.refl _ _).alloc hcf.2.1.size _
  have hbn1 : Below w1.heap.size w1 (w1.alloc (.cells #[.slice A1 xs.length c1, .int .i64 0, .int .i64 0] 122)) := (Below.refl _ _).alloc (Nat.le_refl _) _
  refine ⟨w1.heap.size, rfl, Nat.le_trans hB hcf.2.1.size, ⟨A1, c1, Blk.new w1 _ _, hr2.below hbn1, hc2, fun a e hx h => ?_⟩, Below.up (hcf.2.1.trans hbn) hB⟩
  have := hcf.1.lt _ (hn2 a e)
  omega
theorem below_drewN (w : World) (n : Nat) : Below w.heap.size w (w.drewN n) := ⟨rfl, rfl, rfl, Nat.le_refl _, fun _ _ => rfl⟩
theorem rdone_any (pb : Nat) (b : List UInt8) (p : Nat) (e : Int) (w : World) (h : RRd w pb b p e) (hl : b.length ≤ 140737488355328) (hp : p ≤ b.length) :
    Calls Try.prog 112 #[.pointer (some ⟨pb, 0, none⟩)] w fun r w' => r = .returned (.int .i64 (doneR (b.drop p) e)) ∧ ∃ n, w' = w.drewN n := by
  obtain ⟨A, c, h⟩ := h
  have h0 : w.cell? ⟨pb, 0, none⟩ = some (.slice A b.length c) := h.blk.cell 0
  have h1 : w.cell? ⟨pb, 1, none⟩ = some (.int .i64 (p : Int)) := h.blk.cell 1
  have h2 : w.cell? ⟨pb, 2, none⟩ = some (.int .i64 e) := h.blk.cell 2
  clear h
  unfold doneR
  have hd : b.drop p = [] ↔ ¬ p < b.length := by rw [List.drop_eq_nil_iff]; omega
  simp only [hd]
  obtain ⟨L, hL⟩ : ∃ L, L = b.length := ⟨_, rfl⟩
  rw [← hL] at h0 hl hp ⊢
  clear hL hd
  go_enter Try.func112, Try.ntmps112
  by_cases he : e = 0
  · subst he
    by_cases hlt : p < L
    · go_wp2_with fail
      go_quiet (fail)
      go_wp2
      go_ret
      exact ⟨by simp [hlt], _, rfl⟩
    · go_wp2_with fail
      go_quiet (fail)
      go_wp2
      go_ret
      exact ⟨by simp [hlt], _, rfl⟩
  · have he' : (e != 0) = true := by simp [he]
    go_wp2_with fail
    go_ret
    exact ⟨by simp [he], 0, rfl⟩
set_option maxRecDepth 100000 in
theorem rnumber_any (pb : Nat) (b : List UInt8) (e : Int) (w : World) (h : RRd w pb b 0 e) (hl : b.length ≤ 140737488355328) :
    Calls Try.prog 110 #[.pointer (some ⟨pb, 0, none⟩)] w fun r w' => r = .returned (.tuple #[.int .i64 (numP b).1, .int .i64 (numP b).2.1, .int .i64 (numP b).2.2]) ∧ ∃ n, w' = w.drewN n := by
  obtain ⟨A, c, H⟩ := h
  have h0 : w.cell? ⟨pb, 0, none⟩ = some (.slice A b.length c) := H.blk.cell 0
  have h1 : w.cell? ⟨pb, 1, none⟩ = some (.int .i64 0) := H.blk.cell 1
  have hcap := H.cap
  have hr := H.rb
  clear H
  match b with
  | [] =>
    go_enter Try.func110, Try.ntmps110
    go_wp2_with fail
    go_quiet (fail)
    go_wp2_with fail
    go_ret3
    exact ⟨rfl, _, rfl⟩
  | x :: r =>
    obtain ⟨b, off, hA, hbl, hc⟩ := hr.2 (by simp)
    subst hA
    have hx0 : w.cell? ⟨b, off, none⟩ = some (.int .u8 (x.toNat : Int)) := hc 0 (by simp)
    have hx := x.toNat_lt
    obtain ⟨k, hk⟩ : ∃ k, k = x.toNat := ⟨_, rfl⟩
    obtain ⟨n, hn⟩ : ∃ n, n = r.length := ⟨_, rfl⟩
    rw [List.length_cons, ← hn] at h0 hl hcap
    have HC : Hid (∀ j, j < n → w.cell? ⟨b, off + 1 + j, none⟩ = some (.int .u8 ((r.getD j 0).toNat : Int))) := Lib.hid (fun j hj => by
      have := hc (j + 1) (by rw [List.length_cons]; omega)
      rw [show off + 1 + j = off + (j + 1) by omega]
      exact this)
    simp only [numP]
    rw [← hk, ← hn]
    rw [← hk] at hx hx0
    have HK := Lib.hid hk
    have HN := Lib.hid hn
    clear hc hr hk hn
    by_cases h8 : 8 < k
    · rw [if_pos h8]
      go_enter Try.func110, Try.ntmps110
      go_wp2_with fail
      go_quiet (fail)
      go_wp2_with fail
      go_ret3
      exact ⟨rfl, _, rfl⟩
    rw [if_neg h8]
    by_cases h9 : n < k
    · rw [if_pos h9]
      go_enter Try.func110, Try.ntmps110
      go_wp2_with fail
      go_quiet (fail)
      go_wp2_with fail
      go_ret3
      exact ⟨rfl, _, rfl⟩
    rw [if_neg h9]
    by_cases h0k : k = 0
    · subst h0k
      rw [if_neg (by omega)]
      have HS : Hid (∀ i, i ≤ 0 → val (r.take i) < 9223372036854775808) := Lib.hid fun i hi => by
        obtain rfl : i = 0 := by omega
        simp [val]
      go_enter Try.func110, Try.ntmps110
      go_wp2_with fail
      go_quiet (fail)
      go_wp2_with fail
      go_loopw [7, 8] (fun s i wr => ∃ j : Nat, j ≤ 0 ∧ i = .int .i64 ((j : Int) + 1) ∧ s = .int .i64 ((val (r.take j) : Nat) : Int) ∧ Hid (∃ n, wr = w.drewN n)) (fun _ i _ => 0 + 1 - (intOf i).toNat)
      case atStart => exact ⟨0, Nat.zero_le _, rfl, rfl, Lib.hid ⟨_, rfl⟩⟩
      case round =>
        obtain ⟨j, hj, rfl, rfl, hw⟩ := hrel
        by_cases hlt : j < 0
        · exact absurd hlt (by omega)
        · have hjk : j = 0 := by omega
          subst hjk
          go_wp2_with fail
          go_ret3
          exact ⟨rfl, hw.out⟩
    obtain ⟨y, hy⟩ : ∃ y, y = r.getD 0 0 := ⟨_, rfl⟩
    have hy1 : w.cell? ⟨b, off + 1, none⟩ = some (.int .u8 (y.toNat : Int)) := by
      rw [hy]; exact HC.out 0 (by omega)
    have hyb := y.toNat_lt
    rw [← hy]
    have HY := Lib.hid hy
    clear hy
    obtain ⟨z, hz⟩ : ∃ z, z = y.toNat := ⟨_, rfl⟩
    have hy0 : y = 0 ↔ z = 0 := by rw [hz]; exact ⟨fun h => by rw [h]; rfl, fun h => UInt8.toNat_inj.1 (by rw [h]; rfl)⟩
    rw [← hz] at hy1 hyb ⊢
    simp only [hy0]
    have HZ := Lib.hid hz
    clear hz hy0
    by_cases h10 : z = 0
    · rw [if_pos (.inl ⟨by omega, h10⟩)]
      subst h10
      go_enter Try.func110, Try.ntmps110
      go_wp2_with fail
      go_quiet (fail)
      go_wp2_with fail
      go_ret3
      exact ⟨rfl, _, rfl⟩
    by_cases h11 : k = 8 ∧ 127 < z
    · rw [if_pos (.inr h11)]
      obtain ⟨rfl, h11⟩ := h11
      go_enter Try.func110, Try.ntmps110
      go_wp2_with fail
      go_quiet (fail)
      go_wp2_with fail
      go_ret3
      exact ⟨rfl, _, rfl⟩
    rw [if_neg (fun h => by rcases h with h | h; exact h10 h.2; exact h11 h)]
    have hsm : ∀ i, i ≤ k → val (r.take i) < 9223372036854775808 := fun i hi => Nat.lt_of_le_of_lt (val_mono r i k hi) (val_small r k (by omega) (by rw [← HN.out]; omega) (fun h => by rw [← HY.out, ← HZ.out]; omega))
    have HS := Lib.hid hsm
    clear hsm
    by_cases h88 : k = 8
    · subst h88
      have hz7 : ¬ (127 : Int) < (z : Int) := by omega
      have hz0 : ((z : Int) == 0) = false := by simp; omega
      go_enter Try.func110, Try.ntmps110
      go_wp2_with fail
      go_quiet (fail)
      go_wp2_with fail
      go_loopw [7, 8] (fun s i wr => ∃ j : Nat, j ≤ 8 ∧ i = .int .i64 ((j : Int) + 1) ∧ s = .int .i64 ((val (r.take j) : Nat) : Int) ∧ Hid (∃ n, wr = w.drewN n)) (fun _ i _ => 8 + 1 - (intOf i).toNat)
      case atStart => exact ⟨0, Nat.zero_le _, rfl, rfl, Lib.hid ⟨_, rfl⟩⟩
      case round =>
        obtain ⟨j, hj, rfl, rfl, hw⟩ := hrel
        by_cases hlt : j < 8
        · have hcx : wr.cell? ⟨b, off + (j + 1), none⟩ = some (.int .u8 ((r.getD j 0).toNat : Int)) := by
            obtain ⟨nn, hw⟩ := hw.out
            rw [hw, show off + (j + 1) = off + 1 + j by omega]; exact HC.out j (by omega)
          have hs := HS.out (j + 1) hlt
          rw [val_take_succ r j (by rw [← HN.out]; omega)] at hs
          have hqb := (r.getD j 0).toNat_lt
          have hvs := val_take_succ r j (by rw [← HN.out]; omega)
          obtain ⟨N, hN⟩ : ∃ N, N = val (r.take j) := ⟨_, rfl⟩
          obtain ⟨q, hq⟩ : ∃ q, q = (r.getD j 0).toNat := ⟨_, rfl⟩
          rw [← hN, ← hq] at hs hvs
          rw [← hq] at hcx hqb
          rw [← hN]
          have HV := Lib.hid hvs
          clear hvs hN hq
          go_wp2_with fail
          go_roundw
          case rel =>
            refine ⟨j + 1, hlt, by go_num, ?_, hw⟩
            rw [HV.out]
            go_num
          case measure => simp [intOf]; omega
        · have hjk : j = 8 := by omega
          subst hjk
          go_wp2_with fail
          go_ret3
          exact ⟨rfl, hw.out⟩
    · have h88' : ((k : Int) == 8) = false := by simp; omega
      go_enter Try.func110, Try.ntmps110
      go_wp2_with fail
      go_quiet (fail)
      go_wp2_with fail
      go_loopw [7, 8] (fun s i wr => ∃ j : Nat, j ≤ k ∧ i = .int .i64 ((j : Int) + 1) ∧ s = .int .i64 ((val (r.take j) : Nat) : Int) ∧ Hid (∃ n, wr = w.drewN n)) (fun _ i _ => k + 1 - (intOf i).toNat)
      case atStart => exact ⟨0, Nat.zero_le _, rfl, rfl, Lib.hid ⟨_, rfl⟩⟩
      case round =>
        obtain ⟨j, hj, rfl, rfl, hw⟩ := hrel
        by_cases hlt : j < k
        · have hcx : wr.cell? ⟨b, off + (j + 1), none⟩ = some (.int .u8 ((r.getD j 0).toNat : Int)) := by
            obtain ⟨nn, hw⟩ := hw.out
            rw [hw, show off + (j + 1) = off + 1 + j by omega]; exact HC.out j (by omega)
          have hs := HS.out (j + 1) hlt
          rw [val_take_succ r j (by rw [← HN.out]; omega)] at hs
          have hqb := (r.getD j 0).toNat_lt
          have hvs := val_take_succ r j (by rw [← HN.out]; omega)
          obtain ⟨N, hN⟩ : ∃ N, N = val (r.take j) := ⟨_, rfl⟩
          obtain ⟨q, hq⟩ : ∃ q, q = (r.getD j 0).toNat := ⟨_, rfl⟩
          rw [← hN, ← hq] at hs hvs
          rw [← hq] at hcx hqb
          rw [← hN]
          have HV := Lib.hid hvs
          clear hvs hN hq
          go_wp2_with fail
          go_roundw
          case rel =>
            refine ⟨j + 1, hlt, by go_num, ?_, hw⟩
            rw [HV.out]
            go_num
          case measure => simp [intOf]; omega
        · have hjk : j = k := by omega
          subst hjk
          go_wp2_with fail
          go_ret3
          exact ⟨rfl, hw.out⟩

/-- Its block alone is written. -/
def DoesRR (w : World) (pb : Nat) (b : List UInt8) (p : Nat) (e : Int) (w' : World) : Prop := RRd w' pb b p e ∧ Fr (fun k => k = pb) w w'
theorem Fr.drewN (F : Nat → Prop) (w : World) (n : Nat) : Fr F w (w.drewN n) := Fr.of_below (below_drewN w n)
theorem rr_set {w : World} {pb : Nat} {b : List UInt8} {p : Nat} {e : Int} {A : Option Addr} {c : Nat} (h : RRAt w pb b p e A c) (n : Nat) (p' : Nat) : DoesRR w pb b p' e ((w.drewN n).setCell ⟨pb, 1, none⟩ (.int .i64 (p' : Int))) := by
  have hf : Fr (fun k => k = pb) w ((w.drewN n).setCell ⟨pb, 1, none⟩ (.int .i64 (p' : Int))) := (Fr.drewN _ w n).trans (Fr.setCell (fun k => k = pb) _ ⟨pb, 1, none⟩ _ rfl) (fun _ h => .inl h)
  exact ⟨⟨A, c, (h.below (below_drewN w n)).blk.set 1 (.int .i64 (p' : Int)), h.rb.fr2 hf fun a ha h0 => h.ne a ha h0, h.cap, h.ne⟩, hf⟩
theorem rr_err {w : World} {pb : Nat} {b : List UInt8} {p : Nat} {e : Int} {A : Option Addr} {c : Nat} (h : RRAt w pb b p e A c) (n : Nat) (e' : Int) : DoesRR w pb b p e' ((w.drewN n).setCell ⟨pb, 2, none⟩ (.int .i64 e')) := by
  have hf : Fr (fun k => k = pb) w ((w.drewN n).setCell ⟨pb, 2, none⟩ (.int .i64 e')) := (Fr.drewN _ w n).trans (Fr.setCell (fun k => k = pb) _ ⟨pb, 2, none⟩ _ rfl) (fun _ h => .inl h)
  exact ⟨⟨A, c, (h.below (below_drewN w n)).blk.set 2 (.int .i64 e'), h.rb.fr2 hf fun a ha h0 => h.ne a ha h0, h.cap, h.ne⟩, hf⟩
theorem DoesRR.below {w w1 w2 : World} {pb : Nat} {b : List UInt8} {p : Nat} {e : Int} (h : DoesRR w pb b p e w1) (hb : Below w1.heap.size w1 w2) : DoesRR w pb b p e w2 := by
  obtain ⟨⟨A, c, h1⟩, h2⟩ := h
  exact ⟨⟨A, c, h1.below hb⟩, h2.trans (Fr.of_below hb) fun _ h => .inl h⟩
theorem DoesRR.drewN {w w1 : World} {pb : Nat} {b : List UInt8} {p : Nat} {e : Int} (h : DoesRR w pb b p e w1) (n : Nat) : DoesRR w pb b p e (w1.drewN n) := h.below (below_drewN w1 n)
/-- Where the reader stands then. -/
def placeR (most : Int) (b : List UInt8) : Nat := if (numP b).2.2 ≠ 0 then 0 else if most < (numP b).1 then 0 else (numP b).2.1.toNat
set_option maxRecDepth 100000 in
theorem rnum_any (pb : Nat) (most : Int) (b : List UInt8) (w : World) (h : RRd w pb b 0 0) (hl : b.length ≤ 140737488355328) :
    Calls Try.prog 111 #[.pointer (some ⟨pb, 0, none⟩), .int .i64 most] w fun r w' => r = .returned (.int .i64 (numR most b).1) ∧ DoesRR w pb b (placeR most b) (numR most b).2.2 w' := by
  obtain ⟨⟨n, b', e'⟩, hR⟩ : ∃ R, R = numR most b := ⟨_, rfl⟩
  obtain ⟨p', hP⟩ : ∃ p', p' = placeR most b := ⟨_, rfl⟩
  rw [← hR, ← hP]
  unfold numR at hR
  unfold placeR at hP
  have hsm := numP_small b
  have hnum := rnumber_any pb b 0 w h hl
  obtain ⟨A, c, H⟩ := h
  have h1 : w.cell? ⟨pb, 1, none⟩ = some (.int .i64 0) := H.blk.cell 1
  have h2 : w.cell? ⟨pb, 2, none⟩ = some (.int .i64 0) := H.blk.cell 2
  have f1 := H.blk.free 1
  have f2 := H.blk.free 2
  have HH := Lib.hid H
  have HNU := Lib.hid hnum
  clear H hnum
  go_enter Try.func111, Try.ntmps111
  go_wp2_with fail
  refine HNU.out.mono ?_
  rintro r w' ⟨rfl, nd, rfl⟩
  match hn : numP b with
  | (n0, s0, e0) =>
    rw [hn] at hR hP hsm
    simp only at hR hP hsm ⊢
    by_cases he : e0 = 0
    · subst he
      obtain ⟨k1, k2, k3, k4, k5⟩ := hsm
      replace k5 := k5 (by trivial)
      by_cases hm : most < n0
      · rw [if_neg (by simp), if_pos hm] at hR hP
        cases hR
        subst hP
        go_wp2_with fail
        go_ret
        exact ⟨rfl, rr_err HH.out nd 3⟩
      · rw [if_neg (by simp), if_neg hm] at hR hP
        cases hR
        obtain ⟨s, rfl⟩ : ∃ s : Nat, s0 = (s : Int) := ⟨s0.toNat, by omega⟩
        replace hP : p' = s := hP
        subst hP
        have hm' : n ≤ most := by omega
        clear hn k5 hm
        go_wp2_with fail
        go_ret
        exact ⟨rfl, rr_set HH.out nd p'⟩
    · have he' : (e0 == 0) = false := by simp [he]
      have he2 : (e0 != 0) = true := by simp [he]
      rw [if_pos he] at hR hP
      cases hR
      subst hP
      go_wp2_with fail
      go_ret
      exact ⟨rfl, rr_err HH.out nd e'⟩

/-- Where the reader stands behind a text. -/
def placeT (most : Int) (b : List UInt8) : Nat := if (numP b).2.2 ≠ 0 then 0 else if most < (numP b).1 then 0 else if (b.length : Int) - (numP b).2.1 < (numP b).1 then 0 else (numP b).2.1.toNat + (numP b).1.toNat
set_option maxRecDepth 100000 in
set_option maxHeartbeats 2000000 in
theorem rtext_any (pb : Nat) (most : Int) (b : List UInt8) (w : World) (h : RRd w pb b 0 0) (hl : b.length ≤ 140737488355328) :
    Calls Try.prog 99 #[.pointer (some ⟨pb, 0, none⟩), .int .i64 most] w fun r w' => r = .returned (.string (strB (textR most b).1)) ∧ DoesRR w pb b (placeT most b) (textR most b).2.2 w' := by
  obtain ⟨⟨n, b', e'⟩, hR⟩ : ∃ R, R = textR most b := ⟨_, rfl⟩
  obtain ⟨p', hP⟩ : ∃ p', p' = placeT most b := ⟨_, rfl⟩
  rw [← hR, ← hP]
  unfold textR at hR
  unfold placeT at hP
  have hsm := numP_small b
  have hnum := rnumber_any pb b 0 w h hl
  obtain ⟨A, c, H⟩ := h
  have h0 : w.cell? ⟨pb, 0, none⟩ = some (.slice A b.length c) := H.blk.cell 0
  have h1 : w.cell? ⟨pb, 1, none⟩ = some (.int .i64 0) := H.blk.cell 1
  have h2 : w.cell? ⟨pb, 2, none⟩ = some (.int .i64 0) := H.blk.cell 2
  have f1 := H.blk.free 1
  have f2 := H.blk.free 2
  have hcap := H.cap
  have HH := Lib.hid H
  have HNU := Lib.hid hnum
  clear H hnum
  go_enter Try.func99, Try.ntmps99
  go_wp2_with fail
  refine HNU.out.mono ?_
  rintro r w' ⟨rfl, nd, rfl⟩
  match hn : numP b with
  | (n0, s0, e0) =>
    rw [hn] at hR hP hsm
    simp only at hR hP hsm ⊢
    by_cases he : e0 = 0
    · subst he
      obtain ⟨k1, k2, k3, k4, k5⟩ := hsm
      replace k5 := k5 (by trivial)
      by_cases hm : most < n0
      · rw [if_neg (by simp), if_pos hm] at hR hP
        cases hR
        subst hP
        have hf : ((3 : Int) == 0) = false := rfl
        go_wp2_with fail
        go_quiet (fail)
        go_wp2_with fail
        go_ret
        exact ⟨rfl, rr_err HH.out _ 3⟩
      · rw [if_neg (by simp), if_neg hm] at hR hP
        obtain ⟨s, rfl⟩ : ∃ s : Nat, s0 = (s : Int) := ⟨s0.toNat, by omega⟩
        obtain ⟨m, rfl⟩ : ∃ m : Nat, n0 = (m : Int) := ⟨n0.toNat, by omega⟩
        have hm' : (m : Int) ≤ most := by omega
        by_cases hcut : (b.length : Int) - (s : Int) < (m : Int)
        · rw [if_pos hcut] at hR hP
          cases hR
          subst hP
          obtain ⟨L, hL⟩ : ∃ L, L = b.length := ⟨_, rfl⟩
          rw [← hL] at hcut k5 hl h0 hcap
          clear hL hn k1 k3
          go_wp2_with fail
          have q1 : IntKind.i64.wrap ((L : Int) - 0) = (L : Int) := by rw [Int.sub_zero]; exact IntWalk.i64_in _ (by omega)
          have q2 : IntKind.i64.wrap ((L : Int) - (s : Int)) = (L : Int) - (s : Int) := IntWalk.i64_in _ (by omega)
          go_quiet (fail)
          clear q1 q2
          go_wp2_with fail
          go_ret
          exact ⟨rfl, rr_err HH.out _ 10⟩
        · rw [if_neg hcut] at hR hP
          cases hR
          replace hP : p' = s + m := hP
          have hpos : 0 < b.length := by
            rcases Nat.eq_zero_or_pos b.length with h | h
            · rw [List.eq_nil_of_length_eq_zero h] at hn; simp [numP] at hn
            · exact h
          obtain ⟨bb, off, rfl, hbb, hcl⟩ := HH.out.rb.2 hpos
          have hneb : bb ≠ pb := HH.out.ne _ rfl hpos
          obtain ⟨L, hL⟩ : ∃ L, L = b.length := ⟨_, rfl⟩
          rw [← hL] at hcut k5 hl h0 hcap
          have hcut' : (m : Int) ≤ (L : Int) - (s : Int) := by omega
          have HL := Lib.hid hL
          have HP := Lib.hid hP
          clear hL hn k1 k3 hcut hP hcl hpos
          go_wp2_with fail
          have q1 : IntKind.i64.wrap ((L : Int) - 0) = (L : Int) := by rw [Int.sub_zero]; exact IntWalk.i64_in _ (by omega)
          have q2 : IntKind.i64.wrap ((L : Int) - (s : Int)) = (L : Int) - (s : Int) := IntWalk.i64_in _ (by omega)
          have q3 : decide ((L : Int) - (s : Int) < (m : Int)) = false := by simp; omega
          go_quiet (fail)
          clear q1 q2 q3
          go_wp2_with fail
          have hd := rr_set HH.out (nd + nq) (s + m)
          obtain ⟨W, hW⟩ : ∃ W, W = (w.drewN (nd + nq)).setCell ⟨pb, 1, none⟩ (.int .i64 ((s : Int) + (m : Int))) := ⟨_, rfl⟩
          rw [← hW]
          have hd : DoesRR w pb b (s + m) 0 W := by rw [hW]; exact hd
          have HD := Lib.hid hd
          obtain ⟨A3, c3, H3⟩ := hd.1
          have h30 : W.cell? ⟨pb, 0, none⟩ = some (.slice A3 b.length c3) := H3.blk.cell 0
          have h31 : W.cell? ⟨pb, 1, none⟩ = some (.int .i64 ((s : Int) + (m : Int))) := H3.blk.cell 1
          have hcl : W.cell? ⟨pb, 0, none⟩ = w.cell? ⟨pb, 0, none⟩ := by
            have hne : (⟨pb, 1, none⟩ : Addr) ≠ ⟨pb, 0, none⟩ := by simp
            rw [hW]; exact (World.cell?_setCell_other _ _ _ _ hne).trans rfl
          rw [hcl, h0, ← HL.out] at h30
          cases h30
          replace h30 : W.cell? ⟨pb, 0, none⟩ = some (.slice (some ⟨bb, off, none⟩) L c) := hcl.trans h0
          have hlen : ((b.drop s).take m).length = m := by rw [List.length_take, List.length_drop, ← HL.out]; omega
          have hx : ∀ n, RB (W.drewN n) (some ⟨bb, off + s, none⟩) ((b.drop s).take m) := fun n => ((H3.rb.drop s).take m).below (below_drewN W n)
          have HX := Lib.hid hx
          have HLE := Lib.hid hlen
          have q4 : IntKind.i64.wrap ((s : Int) + (m : Int) - (m : Int)) = (s : Int) := by rw [show (s : Int) + (m : Int) - (m : Int) = (s : Int) by omega]; exact IntWalk.i64_in _ (by omega)
          clear hcl hW h0 h1 h2 f1 f2 H3 hx hlen hbb hneb hd
          by_cases hcs : c = s
          · subst hcs
            obtain rfl : m = 0 := by omega
            have hcv := fun n => run_str (RB.nil (W.drewN n) (some ⟨bb, off, none⟩)) 0 0 rfl
            obtain ⟨str, hstr⟩ : ∃ str, str = strB [] := ⟨_, rfl⟩
            rw [← hstr] at hcv
            have HST := Lib.hid hstr
            clear hstr
            go_quiet (fail)
            clear q4 hcv
            go_wp2_with fail
            go_ret
            rw [HP.out]
            exact ⟨by rw [HST.out]; rfl, HD.out.drewN _⟩
          · have hcv := fun n => run_str (HX.out n) m (c - s) HLE.out
            obtain ⟨str, hstr⟩ : ∃ str, str = strB ((b.drop s).take m) := ⟨_, rfl⟩
            rw [← hstr] at hcv
            have HST := Lib.hid hstr
            clear hstr
            go_quiet (fail)
            clear q4 hcv
            go_wp2_with fail
            go_ret
            rw [HP.out]
            exact ⟨by rw [HST.out]; rfl, HD.out.drewN _⟩
    · have he' : (e0 == 0) = false := by simp [he]
      have he2 : (e0 != 0) = true := by simp [he]
      rw [if_pos he] at hR hP
      cases hR
      subst hP
      go_wp2_with fail
      go_quiet (fail)
      go_wp2_with fail
      go_ret
      exact ⟨rfl, rr_err HH.out _ e'⟩

end Go.Proofs.Ytnkenkdglcmpdaa
