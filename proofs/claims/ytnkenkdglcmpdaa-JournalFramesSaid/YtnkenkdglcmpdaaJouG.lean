/- The walks of tally's Reader: Num, Text, Left, Err, Done; the journal's number. -/
import Derived.Test.YtnkenkdglcmpdaaJouF
namespace Go.Proofs.Ytnkenkdglcmpdaa
set_option linter.unusedVariables false
set_option linter.unusedSimpArgs false
open Go.RowKit

/-- What Num tells, what it leaves, the error. -/
def numR (most : Int) (b : List UInt8) : Int × List UInt8 × Int :=
  if (numP b).2.2 ≠ 0 then (0, [], (numP b).2.2) else if most < (numP b).1 then (0, [], 3) else ((numP b).1, b.drop (numP b).2.1.toNat, 0)
/-- What Text tells, what it leaves, the error. -/
def textR (most : Int) (b : List UInt8) : List UInt8 × List UInt8 × Int :=
  if (numP b).2.2 ≠ 0 then ([], [], (numP b).2.2) else if most < (numP b).1 then ([], [], 3)
  else if (b.length : Int) - (numP b).2.1 < (numP b).1 then ([], [], 10)
  else ((b.drop (numP b).2.1.toNat).take (numP b).1.toNat, (b.drop (numP b).2.1.toNat).drop (numP b).1.toNat, 0)
/-- What number tells is small. -/
theorem numP_small (b : List UInt8) : 0 ≤ (numP b).1 ∧ (numP b).1 < 9223372036854775808 ∧ 0 ≤ (numP b).2.1 ∧ (numP b).2.1 ≤ 9 ∧ ((numP b).2.2 = 0 → (numP b).2.1 ≤ (b.length : Int)) := by
  match hn : numP b with
  | (n, s, e) =>
    by_cases he : e = 0
    · subst he
      obtain ⟨m, r, rfl, rfl, hb, hm⟩ := numP_inv hn
      have := nbytes_small hm
      refine ⟨by simp, by simp; omega, by simp; omega, by simp; omega, fun _ => ?_⟩
      simp only
      rw [hb, List.length_append, putN_len]
      omega
    · have h0 : numP b = (0, 0, e) := by
        rw [hn]
        match b with
        | [] => simp [numP] at hn; simp [← hn.1, ← hn.2.1]
        | k :: r =>
          rw [numP] at hn
          split at hn
          · simp at hn; simp [← hn.1, ← hn.2.1]
          · split at hn
            · simp at hn; simp [← hn.1, ← hn.2.1]
            · split at hn
              · simp at hn; simp [← hn.1, ← hn.2.1]
              · simp at hn; exact absurd hn.2.2.symm he
      rw [hn] at h0
      simp only [Prod.mk.injEq] at h0
      obtain ⟨rfl, rfl, _⟩ := h0
      exact ⟨by simp, by simp, by simp, by simp, fun h => absurd h he⟩
theorem err_any (pb : Nat) (b : List UInt8) (e : Int) (w : World) (h : RdR w pb b e) :
    Calls Try.prog 97 #[.pointer (some ⟨pb, 0, none⟩)] w fun r w' => r = .returned (.int .i64 e) ∧ w = w' := by
  obtain ⟨A, c, h⟩ := h
  have h1 : w.cell? ⟨pb, 1, none⟩ = some (.int .i64 e) := h.blk.cell 1
  have h2 : w.cell? ⟨pb, 2, none⟩ = some (.bool true) := h.blk.cell 2
  clear h
  go_enter Try.func97, Try.ntmps97
  go_wp2
  go_ret
  exact ⟨rfl, rfl⟩
def leftR (b : List UInt8) (e : Int) : Int := if e = 0 then (b.length : Int) else 0
def doneR (b : List UInt8) (e : Int) : Int := if e ≠ 0 then e else if b = [] then 0 else 12
theorem left_rd (pb : Nat) (b : List UInt8) (e : Int) (w : World) (h : RdR w pb b e) :
    Calls Try.prog 96 #[.pointer (some ⟨pb, 0, none⟩)] w fun r w' => r = .returned (.int .i64 (leftR b e)) ∧ w = w' := by
  obtain ⟨d, hd⟩ : ∃ d, d = leftR b e := ⟨_, rfl⟩
  rw [← hd]
  unfold leftR at hd
  go_enter Try.func96, Try.ntmps96
  by_cases he : e = 0
  · subst he
    rw [if_pos rfl] at hd
    subst hd
    go_wp2_with fail
    refine (stopped_any pb b 0 w h).mono ?_
    rintro r w' ⟨rfl, rfl⟩
    go_wp2_with fail
    refine (left_any pb b 0 w h).mono ?_
    rintro r w' ⟨rfl, rfl⟩
    go_wp2_with fail
    go_ret
    exact ⟨rfl, rfl⟩
  · have he' : (e != 0) = true := by simp [he]
    rw [if_neg he] at hd
    subst hd
    go_wp2_with fail
    refine (stopped_any pb b e w h).mono ?_
    rw [he']
    rintro r w' ⟨rfl, rfl⟩
    go_wp2_with fail
    go_ret
    exact ⟨rfl, rfl⟩
theorem done_any (pb : Nat) (b : List UInt8) (e : Int) (w : World) (h : RdR w pb b e) (hl : b.length ≤ 140737488355328) :
    Calls Try.prog 103 #[.pointer (some ⟨pb, 0, none⟩)] w fun r w' => r = .returned (.int .i64 (doneR b e)) ∧ w = w' := by
  obtain ⟨d, hd⟩ : ∃ d, d = doneR b e := ⟨_, rfl⟩
  rw [← hd]
  unfold doneR at hd
  go_enter Try.func103, Try.ntmps103
  go_wp2_with fail
  refine (err_any pb b e w h).mono ?_
  rintro r w' ⟨rfl, rfl⟩
  by_cases he : e = 0
  · subst he
    rw [if_neg (by simp)] at hd
    go_wp2_with fail
    refine (left_any pb b 0 w h).mono ?_
    rintro r w' ⟨rfl, rfl⟩
    match b with
    | [] =>
      rw [if_pos rfl] at hd
      subst hd
      go_wp2_with fail
      go_ret
      exact ⟨rfl, rfl⟩
    | x :: b =>
      rw [if_neg (by simp)] at hd
      subst hd
      obtain ⟨n, hn⟩ : ∃ n, n = b.length := ⟨_, rfl⟩
      rw [List.length_cons, ← hn] at hl ⊢
      clear hn h
      have h0 : (0 : Int) < ((n + 1 : Nat) : Int) := by omega
      go_wp2_with fail
      go_ret
      exact ⟨rfl, rfl⟩
  · have he' : (e == 0) = false := by simp [he]
    rw [if_pos he] at hd
    subst hd
    go_wp2_with fail
    go_ret
    exact ⟨rfl, rfl⟩
set_option maxRecDepth 100000 in
theorem num_any (pb : Nat) (most : Int) (b : List UInt8) (w : World) (h : RdR w pb b 0) (hl : b.length ≤ 140737488355328) :
    Calls Try.prog 102 #[.pointer (some ⟨pb, 0, none⟩), .int .i64 most] w fun r w' => r = .returned (.int .i64 (numR most b).1) ∧ DoesRd w pb (numR most b).2.1 (numR most b).2.2 w' := by
  obtain ⟨⟨n, b', e'⟩, hR⟩ : ∃ R, R = numR most b := ⟨_, rfl⟩
  rw [← hR]
  unfold numR at hR
  have hsm := numP_small b
  go_enter Try.func102, Try.ntmps102
  go_wp2_with fail
  refine (stopped_any pb b 0 w h).mono ?_
  rintro r w' ⟨rfl, rfl⟩
  go_wp2_with fail
  refine (number_any pb b 0 w h hl).mono ?_
  rintro r w' ⟨rfl, rfl⟩
  match hn : numP b with
  | (n0, s0, e0) =>
    rw [hn] at hR hsm
    simp only at hR hsm ⊢
    by_cases he : e0 = 0
    · subst he
      obtain ⟨h1, h2, h3, h4, h5⟩ := hsm
      have h5 := h5 (by trivial)
      by_cases hm : most < n0
      · rw [if_neg (by simp), if_pos hm] at hR
        cases hR
        go_wp2_with fail
        refine (fail_rd pb b 0 3 w h).mono ?_
        rintro r w' ⟨rfl, hd⟩
        go_wp2_with fail
        go_ret
        exact ⟨rfl, hd⟩
      · rw [if_neg (by simp), if_neg hm] at hR
        cases hR
        obtain ⟨s, rfl⟩ : ∃ s : Nat, s0 = (s : Int) := ⟨s0.toNat, by omega⟩
        go_wp2_with fail
        refine (take_rd pb b 0 s w h (by omega) hl).mono ?_
        rintro r w' ⟨⟨A, c, rfl, _⟩, hd⟩
        go_wp2_with fail
        go_ret
        exact ⟨rfl, hd⟩
    · have he' : (e0 == 0) = false := by simp [he]
      rw [if_pos he] at hR
      cases hR
      go_wp2_with fail
      refine (fail_rd pb b 0 e' w h).mono ?_
      rintro r w' ⟨rfl, hd⟩
      go_wp2_with fail
      go_ret
      exact ⟨rfl, hd⟩

theorem DoesRd.trans {w w1 w2 : World} {pb : Nat} {b b' : List UInt8} {e e' : Int} (h : DoesRd w pb b e w1) (k : DoesRd w1 pb b' e' w2) : DoesRd w pb b' e' w2 :=
  ⟨k.1, h.2.trans k.2 fun _ h => .inl h⟩
set_option maxRecDepth 100000 in
set_option maxHeartbeats 1000000 in
theorem text_any (pb : Nat) (most : Int) (b : List UInt8) (w : World) (h : RdR w pb b 0) (hl : b.length ≤ 140737488355328) :
    Calls Try.prog 95 #[.pointer (some ⟨pb, 0, none⟩), .int .i64 most] w fun r w' => r = .returned (.string (strB (textR most b).1)) ∧ DoesRd w pb (textR most b).2.1 (textR most b).2.2 w' := by
  obtain ⟨⟨n, b', e'⟩, hR⟩ : ∃ R, R = textR most b := ⟨_, rfl⟩
  rw [← hR]
  unfold textR at hR
  have hsm := numP_small b
  go_enter Try.func95, Try.ntmps95
  go_wp2_with fail
  refine (stopped_any pb b 0 w h).mono ?_
  rintro r w' ⟨rfl, rfl⟩
  go_wp2_with fail
  refine (number_any pb b 0 w h hl).mono ?_
  rintro r w' ⟨rfl, rfl⟩
  match hn : numP b with
  | (n0, s0, e0) =>
    rw [hn] at hR hsm
    simp only at hR hsm ⊢
    by_cases he : e0 = 0
    · subst he
      obtain ⟨h1, h2, h3, h4, h5⟩ := hsm
      have h5 := h5 (by trivial)
      by_cases hm : most < n0
      · rw [if_neg (by simp), if_pos hm] at hR
        cases hR
        go_wp2_with fail
        refine (fail_rd pb b 0 3 w h).mono ?_
        rintro r w' ⟨rfl, hd⟩
        go_wp2_with fail
        go_ret
        exact ⟨rfl, hd⟩
      · rw [if_neg (by simp), if_neg hm] at hR
        obtain ⟨s, rfl⟩ : ∃ s : Nat, s0 = (s : Int) := ⟨s0.toNat, by omega⟩
        obtain ⟨m, rfl⟩ : ∃ m : Nat, n0 = (m : Int) := ⟨n0.toNat, by omega⟩
        by_cases hcut : (b.length : Int) - (s : Int) < (m : Int)
        · rw [if_pos hcut] at hR
          cases hR
          go_wp2_with fail
          refine (left_any pb b 0 w h).mono ?_
          rintro r w' ⟨rfl, rfl⟩
          obtain ⟨L, hL⟩ : ∃ L, L = b.length := ⟨_, rfl⟩
          rw [← hL] at hcut h5 hl ⊢
          clear hL hn
          go_wp2_with fail
          refine (fail_rd pb b 0 10 w h).mono ?_
          rintro r w' ⟨rfl, hd⟩
          go_wp2_with fail
          go_ret
          exact ⟨rfl, hd⟩
        · rw [if_neg hcut] at hR
          cases hR
          go_wp2_with fail
          refine (left_any pb b 0 w h).mono ?_
          rintro r w' ⟨rfl, rfl⟩
          obtain ⟨L, hL⟩ : ∃ L, L = b.length := ⟨_, rfl⟩
          rw [← hL] at hcut h5 hl ⊢
          have HL := Lib.hid hL
          have hcut' : (m : Int) ≤ (L : Int) - (s : Int) := by omega
          have hm' : (m : Int) ≤ most := by omega
          clear hL hn hcut h2 hm
          go_wp2_with fail
          refine (take_rd pb b 0 s w h (by rw [← HL.out]; omega) (by rw [← HL.out]; exact hl)).mono ?_
          rintro r w1 ⟨⟨A, c, rfl, _⟩, hd⟩
          go_wp2_with fail
          refine (take_rd pb (b.drop s) 0 m w1 hd.1 (by rw [List.length_drop, ← HL.out]; omega) (by rw [List.length_drop, ← HL.out]; omega)).mono ?_
          rintro r w2 ⟨⟨A2, c2, rfl, hr2, _⟩, hd2⟩
          have hcv := run_str hr2 m c2 (by rw [List.length_take, List.length_drop, ← HL.out]; omega)
          have HD := Lib.hid (hd.trans hd2)
          clear hd hd2 hr2
          go_wp2_with fail
          go_ret
          exact ⟨rfl, HD.out⟩
    · have he' : (e0 == 0) = false := by simp [he]
      rw [if_pos he] at hR
      cases hR
      go_wp2_with fail
      refine (fail_rd pb b 0 e' w h).mono ?_
      rintro r w' ⟨rfl, hd⟩
      go_wp2_with fail
      go_ret
      exact ⟨rfl, hd⟩
theorem numberP_read (xs : List UInt8) : numberP xs = if doneR (numR 1099511627776 xs).2.1 (numR 1099511627776 xs).2.2 = 0 then (numR 1099511627776 xs).1 else 0 := by
  have hsm := numP_small xs
  unfold numberP doneR numR
  match hn : numP xs with
  | (n0, s0, e0) =>
    rw [hn] at hsm
    simp only at hsm ⊢
    by_cases he : e0 = 0
    · subst he
      by_cases hm : (1099511627776 : Int) < n0
      · simp [hm]; omega
      · have := hsm.2.2.2.2 rfl
        have hm' : n0 ≤ 1099511627776 := by omega
        by_cases hd : xs.drop s0.toNat = []
        · have : s0 = (xs.length : Int) := by rw [List.drop_eq_nil_iff] at hd; omega
          simp [hm, hm', hd, this]
        · have : s0 ≠ (xs.length : Int) := fun h => hd (by rw [List.drop_eq_nil_iff]; omega)
          simp [hm, hm', hd, this]
    · simp [he]
theorem number_rec (B : Nat) (A : Option Addr) (c : Nat) (xs : List UInt8) (w : World) (hB : B ≤ w.heap.size) (hr : RB w A xs) (hl : xs.length ≤ 140737488355328) :
    Calls Try.prog 90 #[.slice A xs.length c] w fun e w' => e = .returned (.int .i64 (numberP xs)) ∧ Below B w w' := by
  obtain ⟨d, hd⟩ : ∃ d, d = numberP xs := ⟨_, rfl⟩
  rw [← hd]
  rw [numberP_read] at hd
  have HD := Lib.hid hd
  clear hd
  go_enter Try.func90, Try.ntmps90
  go_wp2_with fail
  refine (read_tally B A c xs w hB hr hl).mono ?_
  rintro r w1 ⟨pb, rfl, hpb, hrd, hb⟩
  have hB1 : B ≤ w1.heap.size := Nat.le_trans hB hb.size
  go_wp2_with fail
  refine (num_any pb 1099511627776 xs w1 hrd hl).mono ?_
  rintro r w2 ⟨rfl, hd⟩
  have hb2 := hb.trans (rd_below hd.2 hpb hB1)
  go_wp2_with fail
  refine (done_any pb _ _ w2 hd.1 ?_).mono ?_
  · unfold numR; split
    · simp
    · split
      · simp
      · simp only [List.length_drop]; omega
  rintro r w3 ⟨rfl, rfl⟩
  obtain ⟨t, ht⟩ : ∃ t, t = doneR (numR 1099511627776 xs).2.1 (numR 1099511627776 xs).2.2 := ⟨_, rfl⟩
  have HD2 := HD.out
  rw [← ht] at HD2 ⊢
  clear ht HD
  have HB := Lib.hid hb2
  clear hb hd hb2 hrd hr
  by_cases h0 : t = 0
  · subst h0
    rw [if_pos rfl] at HD2
    subst HD2
    go_wp2_with fail
    go_ret
    exact ⟨rfl, HB.out⟩
  · have h0' : (t == 0) = false := by simp [h0]
    rw [if_neg h0] at HD2
    subst HD2
    go_wp2_with fail
    go_ret
    exact ⟨rfl, HB.out⟩

end Go.Proofs.Ytnkenkdglcmpdaa
