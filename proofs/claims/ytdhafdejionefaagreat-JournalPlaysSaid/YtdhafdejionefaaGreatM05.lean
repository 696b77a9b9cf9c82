/- Parts: The walks of tally's Reader: Num, Text, Left, Err, Done; the journal's number. .. A range over the frames of bytes: the law of the statement, where the iterator writes a variable of its own. -/
import Derived.Test.YtdhafdejionefaaGreatM04
import Derived.RangeFuncNested
import Derived.RangeFuncBound
import Derived.RangeFuncCalls
import Derived.RangeFuncLeaves
import Derived.Shelf.Abstract
import Derived.Shelf.RegionOpen
import Derived.WalkKit
import Derived.OwnWalkIn
import Derived.TacticsInMore
import Derived.LoopNIn
import Derived.LoopIn
/- The walks of tally's Reader: Num, Text, Left, Err, Done; the journal's number. -/
namespace Go.Proofs.YtdhafdejionefaaGreat
set_option linter.unusedVariables false
set_option linter.unusedSimpArgs false
open Go.RowKit

/-- What Num tells, what it leaves, the error. -/
def numR (most : Int) (b : List UInt8) : Int × List UInt8 × Int :=
  if (numP b).2.2 ≠ 0 then (0, [], (numP b).2.2) else if most < (numP b).1 then (0, [], 3) else ((numP b).1, b.drop (numP b).2.1.toNat, 0)
/-- What Text tells, what it leaves, the error. -/
def textR (most : Int) (b : List UInt8) : List UInt8 × List UInt8 × Int :=
  if (numP b).2.2 ≠ 0 then ([], [], (numP b).2.2) else if most < (numP b).1 then ([], [], 3)
  else if (b.length : Int) - (numP b).2.1 < (numP b).1 then ([], [], 10)
  else ((b.drop (numP b).2.1.toNat).take (numP b).1.toNat, (b.drop (numP b).2.1.toNat).drop (numP b).1.toNat, 0)
/-- What number tells is small. -/
theorem numP_small (b : List UInt8) : 0 ≤ (numP b).1 ∧ (numP b).1 < 9223372036854775808 ∧ 0 ≤ (numP b).2.1 ∧ (numP b).2.1 ≤ 9 ∧ ((numP b).2.2 = 0 → (numP b).2.1 ≤ (b.length : Int)) := by
  match hn : numP b with
  | (n, s, e) =>
    by_cases he : e = 0
    · subst he
      obtain ⟨m, r, rfl, rfl, hb, hm⟩ := numP_inv hn
      have := nbytes_small hm
      refine ⟨by simp, by simp; omega, by simp; omega, by simp; omega, fun _ => ?_⟩
      simp only
      rw [hb, List.length_append, putN_len]
      omega
    · have h0 : numP b = (0, 0, e) := by
        rw [hn]
        match b with
        | [] => simp [numP] at hn; simp [← hn.1, ← hn.2.1]
        | k :: r =>
          rw [numP] at hn
          split at hn
          · simp at hn; simp [← hn.1, ← hn.2.1]
          · split at hn
            · simp at hn; simp [← hn.1, ← hn.2.1]
            · split at hn
              · simp at hn; simp [← hn.1, ← hn.2.1]
              · simp at hn; exact absurd hn.2.2.symm he
      rw [hn] at h0
      simp only [Prod.mk.injEq] at h0
      obtain ⟨rfl, rfl, _⟩ := h0
      exact ⟨by simp, by simp, by simp, by simp, fun h => absurd h he⟩
theorem err_any (pb : Nat) (b : List UInt8) (e : Int) (w : World) (h : RdR w pb b e) :
    Calls Tryz.prog 83 #[.pointer (some ⟨pb, 0, none⟩)] w fun r w' => r = .returned (.int .i64 e) ∧ w = w' := by
  obtain ⟨A, c, h⟩ := h
  have h1 : w.cell? ⟨pb, 1, none⟩ = some (.int .i64 e) := h.blk.cell 1
  have h2 : w.cell? ⟨pb, 2, none⟩ = some (.bool true) := h.blk.cell 2
  clear h
  go_enter Tryz.func83, Tryz.ntmps83
  go_wp2
  go_ret
  exact ⟨rfl, rfl⟩
def leftR (b : List UInt8) (e : Int) : Int := if e = 0 then (b.length : Int) else 0
def doneR (b : List UInt8) (e : Int) : Int := if e ≠ 0 then e else if b = [] then 0 else 12
theorem left_rd (pb : Nat) (b : List UInt8) (e : Int) (w : World) (h : RdR w pb b e) :
    Calls Tryz.prog 82 #[.pointer (some ⟨pb, 0, none⟩)] w fun r w' => r = .returned (.int .i64 (leftR b e)) ∧ w = w' := by
  obtain ⟨d, hd⟩ : ∃ d, d = leftR b e := ⟨_, rfl⟩
  rw [← hd]
  unfold leftR at hd
  go_enter Tryz.func82, Tryz.ntmps82
  by_cases he : e = 0
  · subst he
    rw [if_pos rfl] at hd
    subst hd
    go_wp2_with fail
    refine (stopped_any pb b 0 w h).mono ?_
    rintro r w' ⟨rfl, rfl⟩
    go_wp2_with fail
    refine (left_any pb b 0 w h).mono ?_
    rintro r w' ⟨rfl, rfl⟩
    go_wp2_with fail
    go_ret
    exact ⟨rfl, rfl⟩
  · have he' : (e != 0) = true := by simp [he]
    rw [if_neg he] at hd
    subst hd
    go_wp2_with fail
    refine (stopped_any pb b e w h).mono ?_
    rw [he']
    rintro r w' ⟨rfl, rfl⟩
    go_wp2_with fail
    go_ret
    exact ⟨rfl, rfl⟩
theorem done_any (pb : Nat) (b : List UInt8) (e : Int) (w : World) (h : RdR w pb b e) (hl : b.length ≤ 140737488355328) :
    Calls Tryz.prog 86 #[.pointer (some ⟨pb, 0, none⟩)] w fun r w' => r = .returned (.int .i64 (doneR b e)) ∧ w = w' := by
  obtain ⟨d, hd⟩ : ∃ d, d = doneR b e := ⟨_, rfl⟩
  rw [← hd]
  unfold doneR at hd
  go_enter Tryz.func86, Tryz.ntmps86
  go_wp2_with fail
  refine (err_any pb b e w h).mono ?_
  rintro r w' ⟨rfl, rfl⟩
  by_cases he : e = 0
  · subst he
    rw [if_neg (by simp)] at hd
    go_wp2_with fail
    refine (left_any pb b 0 w h).mono ?_
    rintro r w' ⟨rfl, rfl⟩
    match b with
    | [] =>
      rw [if_pos rfl] at hd
      subst hd
      go_wp2_with fail
      go_ret
      exact ⟨rfl, rfl⟩
    | x :: b =>
      rw [if_neg (by simp)] at hd
      subst hd
      obtain ⟨n, hn⟩ : ∃ n, n = b.length := ⟨_, rfl⟩
      rw [List.length_cons, ← hn] at hl ⊢
      clear hn h
      have h0 : (0 : Int) < ((n + 1 : Nat) : Int) := by omega
      go_wp2_with fail
      go_ret
      exact ⟨rfl, rfl⟩
  · have he' : (e == 0) = false := by simp [he]
    rw [if_pos he] at hd
    subst hd
    go_wp2_with fail
    go_ret
    exact ⟨rfl, rfl⟩
set_option maxRecDepth 100000 in
theorem num_any (pb : Nat) (most : Int) (b : List UInt8) (w : World) (h : RdR w pb b 0) (hl : b.length ≤ 140737488355328) :
    Calls Tryz.prog 85 #[.pointer (some ⟨pb, 0, none⟩), .int .i64 most] w fun r w' => r = .returned (.int .i64 (numR most b).1) ∧ DoesRd w pb (numR most b).2.1 (numR most b).2.2 w' := by
  obtain ⟨⟨n, b', e'⟩, hR⟩ : ∃ R, R = numR most b := ⟨_, rfl⟩
  rw [← hR]
  unfold numR at hR
  have hsm := numP_small b
  go_enter Tryz.func85, Tryz.ntmps85
  go_wp2_with fail
  refine (stopped_any pb b 0 w h).mono ?_
  rintro r w' ⟨rfl, rfl⟩
  go_wp2_with fail
  refine (number_any pb b 0 w h hl).mono ?_
  rintro r w' ⟨rfl, rfl⟩
  match hn : numP b with
  | (n0, s0, e0) =>
    rw [hn] at hR hsm
    simp only at hR hsm ⊢
    by_cases he : e0 = 0
    · subst he
      obtain ⟨h1, h2, h3, h4, h5⟩ := hsm
      have h5 := h5 (by trivial)
      by_cases hm : most < n0
      · rw [if_neg (by simp), if_pos hm] at hR
        cases hR
        go_wp2_with fail
        refine (fail_rd pb b 0 3 w h).mono ?_
        rintro r w' ⟨rfl, hd⟩
        go_wp2_with fail
        go_ret
        exact ⟨rfl, hd⟩
      · rw [if_neg (by simp), if_neg hm] at hR
        cases hR
        obtain ⟨s, rfl⟩ : ∃ s : Nat, s0 = (s : Int) := ⟨s0.toNat, by omega⟩
        go_wp2_with fail
        refine (take_rd pb b 0 s w h (by omega) hl).mono ?_
        rintro r w' ⟨⟨A, c, rfl, _⟩, hd⟩
        go_wp2_with fail
        go_ret
        exact ⟨rfl, hd⟩
    · have he' : (e0 == 0) = false := by simp [he]
      rw [if_pos he] at hR
      cases hR
      go_wp2_with fail
      refine (fail_rd pb b 0 e' w h).mono ?_
      rintro r w' ⟨rfl, hd⟩
      go_wp2_with fail
      go_ret
      exact ⟨rfl, hd⟩

theorem DoesRd.trans {w w1 w2 : World} {pb : Nat} {b b' : List UInt8} {e e' : Int} (h : DoesRd w pb b e w1) (k : DoesRd w1 pb b' e' w2) : DoesRd w pb b' e' w2 :=
  ⟨k.1, h.2.trans k.2 fun _ h => .inl h⟩
set_option maxRecDepth 100000 in
set_option maxHeartbeats 1000000 in
theorem text_any (pb : Nat) (most : Int) (b : List UInt8) (w : World) (h : RdR w pb b 0) (hl : b.length ≤ 140737488355328) :
    Calls Tryz.prog 81 #[.pointer (some ⟨pb, 0, none⟩), .int .i64 most] w fun r w' => r = .returned (.string (strB (textR most b).1)) ∧ DoesRd w pb (textR most b).2.1 (textR most b).2.2 w' := by
  obtain ⟨⟨n, b', e'⟩, hR⟩ : ∃ R, R = textR most b := ⟨_, rfl⟩
  rw [← hR]
  unfold textR at hR
  have hsm := numP_small b
  go_enter Tryz.func81, Tryz.ntmps81
  go_wp2_with fail
  refine (stopped_any pb b 0 w h).mono ?_
  rintro r w' ⟨rfl, rfl⟩
  go_wp2_with fail
  refine (number_any pb b 0 w h hl).mono ?_
  rintro r w' ⟨rfl, rfl⟩
  match hn : numP b with
  | (n0, s0, e0) =>
    rw [hn] at hR hsm
    simp only at hR hsm ⊢
    by_cases he : e0 = 0
    · subst he
      obtain ⟨h1, h2, h3, h4, h5⟩ := hsm
      have h5 := h5 (by trivial)
      by_cases hm : most < n0
      · rw [if_neg (by simp), if_pos hm] at hR
        cases hR
        go_wp2_with fail
        refine (fail_rd pb b 0 3 w h).mono ?_
        rintro r w' ⟨rfl, hd⟩
        go_wp2_with fail
        go_ret
        exact ⟨rfl, hd⟩
      · rw [if_neg (by simp), if_neg hm] at hR
        obtain ⟨s, rfl⟩ : ∃ s : Nat, s0 = (s : Int) := ⟨s0.toNat, by omega⟩
        obtain ⟨m, rfl⟩ : ∃ m : Nat, n0 = (m : Int) := ⟨n0.toNat, by omega⟩
        by_cases hcut : (b.length : Int) - (s : Int) < (m : Int)
        · rw [if_pos hcut] at hR
          cases hR
          go_wp2_with fail
          refine (left_any pb b 0 w h).mono ?_
          rintro r w' ⟨rfl, rfl⟩
          obtain ⟨L, hL⟩ : ∃ L, L = b.length := ⟨_, rfl⟩
          rw [← hL] at hcut h5 hl ⊢
          clear hL hn
          go_wp2_with fail
          refine (fail_rd pb b 0 10 w h).mono ?_
          rintro r w' ⟨rfl, hd⟩
          go_wp2_with fail
          go_ret
          exact ⟨rfl, hd⟩
        · rw [if_neg hcut] at hR
          cases hR
          go_wp2_with fail
          refine (left_any pb b 0 w h).mono ?_
          rintro r w' ⟨rfl, rfl⟩
          obtain ⟨L, hL⟩ : ∃ L, L = b.length := ⟨_, rfl⟩
          rw [← hL] at hcut h5 hl ⊢
          have HL := Lib.hid hL
          have hcut' : (m : Int) ≤ (L : Int) - (s : Int) := by omega
          have hm' : (m : Int) ≤ most := by omega
          clear hL hn hcut h2 hm
          go_wp2_with fail
          refine (take_rd pb b 0 s w h (by rw [← HL.out]; omega) (by rw [← HL.out]; exact hl)).mono ?_
          rintro r w1 ⟨⟨A, c, rfl, _⟩, hd⟩
          go_wp2_with fail
          refine (take_rd pb (b.drop s) 0 m w1 hd.1 (by rw [List.length_drop, ← HL.out]; omega) (by rw [List.length_drop, ← HL.out]; omega)).mono ?_
          rintro r w2 ⟨⟨A2, c2, rfl, hr2, _⟩, hd2⟩
          have hcv := run_str hr2 m c2 (by rw [List.length_take, List.length_drop, ← HL.out]; omega)
          have HD := Lib.hid (hd.trans hd2)
          clear hd hd2 hr2
          go_wp2_with fail
          go_ret
          exact ⟨rfl, HD.out⟩
    · have he' : (e0 == 0) = false := by simp [he]
      rw [if_pos he] at hR
      cases hR
      go_wp2_with fail
      refine (fail_rd pb b 0 e' w h).mono ?_
      rintro r w' ⟨rfl, hd⟩
      go_wp2_with fail
      go_ret
      exact ⟨rfl, hd⟩
theorem numberP_read (xs : List UInt8) : numberP xs = if doneR (numR 1099511627776 xs).2.1 (numR 1099511627776 xs).2.2 = 0 then (numR 1099511627776 xs).1 else 0 := by
  have hsm := numP_small xs
  unfold numberP doneR numR
  match hn : numP xs with
  | (n0, s0, e0) =>
    rw [hn] at hsm
    simp only at hsm ⊢
    by_cases he : e0 = 0
    · subst he
      by_cases hm : (1099511627776 : Int) < n0
      · simp [hm]; omega
      · have := hsm.2.2.2.2 rfl
        have hm' : n0 ≤ 1099511627776 := by omega
        by_cases hd : xs.drop s0.toNat = []
        · have : s0 = (xs.length : Int) := by rw [List.drop_eq_nil_iff] at hd; omega
          simp [hm, hm', hd, this]
        · have : s0 ≠ (xs.length : Int) := fun h => hd (by rw [List.drop_eq_nil_iff]; omega)
          simp [hm, hm', hd, this]
    · simp [he]
theorem number_rec (B : Nat) (A : Option Addr) (c : Nat) (xs : List UInt8) (w : World) (hB : B ≤ w.heap.size) (hr : RB w A xs) (hl : xs.length ≤ 140737488355328) :
    Calls Tryz.prog 67 #[.slice A xs.length c] w fun e w' => e = .returned (.int .i64 (numberP xs)) ∧ Below B w w' := by
  obtain ⟨d, hd⟩ : ∃ d, d = numberP xs := ⟨_, rfl⟩
  rw [← hd]
  rw [numberP_read] at hd
  have HD := Lib.hid hd
  clear hd
  go_enter Tryz.func67, Tryz.ntmps67
  go_wp2_with fail
  refine (read_tally B A c xs w hB hr hl).mono ?_
  rintro r w1 ⟨pb, rfl, hpb, hrd, hb⟩
  have hB1 : B ≤ w1.heap.size := Nat.le_trans hB hb.size
  go_wp2_with fail
  refine (num_any pb 1099511627776 xs w1 hrd hl).mono ?_
  rintro r w2 ⟨rfl, hd⟩
  have hb2 := hb.trans (rd_below hd.2 hpb hB1)
  go_wp2_with fail
  refine (done_any pb _ _ w2 hd.1 ?_).mono ?_
  · unfold numR; split
    · simp
    · split
      · simp
      · simp only [List.length_drop]; omega
  rintro r w3 ⟨rfl, rfl⟩
  obtain ⟨t, ht⟩ : ∃ t, t = doneR (numR 1099511627776 xs).2.1 (numR 1099511627776 xs).2.2 := ⟨_, rfl⟩
  have HD2 := HD.out
  rw [← ht] at HD2 ⊢
  clear ht HD
  have HB := Lib.hid hb2
  clear hb hd hb2 hrd hr
  by_cases h0 : t = 0
  · subst h0
    rw [if_pos rfl] at HD2
    subst HD2
    go_wp2_with fail
    go_ret
    exact ⟨rfl, HB.out⟩
  · have h0' : (t == 0) = false := by simp [h0]
    rw [if_neg h0] at HD2
    subst HD2
    go_wp2_with fail
    go_ret
    exact ⟨rfl, HB.out⟩

end Go.Proofs.YtdhafdejionefaaGreat

/- A range over the frames of bytes: the law of the statement, where the iterator writes a variable of its own. -/
namespace Go.Proofs.YtdhafdejionefaaGreat
set_option linter.unusedVariables false
set_option linter.unusedSimpArgs false
open Go.RowKit

theorem Fr.put {F : Nat → Prop} (W : World) (l : Nat) (o : Obj) (h : F l) : Fr F W (W.putObj l o) :=
  Fr.grown (grownBy_putObj' W l o) (fun k hk => by cases hk; exact h)
/-- What is asked of a round: it goes on, J has one frame more, and nothing but G's blocks is written. -/
def RoundC (l : Nat) (G : Nat → Prop) (J : List (UInt8 × List UInt8) → World → Prop) (xs : List (UInt8 × List UInt8)) (base : Nat) : Prop :=
  ∀ (pre : List (UInt8 × List UInt8)) (k : UInt8) (ys : List UInt8) (A : Option Addr) (c : Nat) (W0 W1 : World), J pre W0 → Below W0.heap.size W0 W1 → base ≤ W0.heap.size → RB W1 A ys → ys.length ≤ c → (∀ a, A = some a → 0 < ys.length → W0.heap.size ≤ a.block) → pre ++ [(k, ys)] <+: xs →
    YieldAt Fence.wide 3 Tryz.prog l #[.int .u8 (k.toNat : Int), .slice A ys.length c] W1 fun e W' => e = .returned (.bool true) ∧ J (pre ++ [(k, ys)]) W' ∧ Fr G W1 W'
/-- The statement 'for kind, rec := range all(b)', of which no round leaves. -/
theorem wp_rangeFunc_c {g : Operand} {ps : Array Tmp} {assign body : Code} {Q : Exit → Act → World → Prop} {a : Act} {w : World} {gf : Nat} {lb : Array Value}
    (hg : a.eval g = .func (.func gf) #[] lb) (eg : ∀ args w, (callFunc gf args).run Tryz.prog w = .ok (.enter gf args) w) (hps : ps.size = 2)
    (Bn : Nat) (hBn : Bn < w.heap.size) (G : Nat → Prop) (hG : ∀ i, G i → i ≠ w.heap.size ∧ i ≠ w.heap.size + 1) (xs : List (UInt8 × List UInt8))
    (hseq : ∀ (l : Nat) (J : List (UInt8 × List UInt8) → World → Prop) (W : World), Below w.heap.size w W → w.heap.size + 2 ≤ W.heap.size → (∀ pre W W', J pre W → Fr (fun k => k = Bn) W W' → J pre W') → RoundC l (fun i => G i ∨ i = w.heap.size + 1) J xs W.heap.size → J [] W →
      Calls Tryz.prog gf (#[.func (.yield l) #[] #[]] ++ lb) W fun e W' => (∃ v, e = .returned v) ∧ J xs W')
    (I : List (UInt8 × List UInt8) → World → Prop)
    (hI : ∀ pre W W', I pre W → Fr (fun k => k = Bn ∨ k = w.heap.size ∨ k = w.heap.size + 1) W W' → I pre W')
    (h0 : I [] w) (a₁ : UInt8 → List UInt8 → Option Addr → Nat → Act)
    (hassign : ∀ (l : Nat) (k : UInt8) (ys : List UInt8) (A : Option Addr) (c : Nat) (W : World) (K : Act → World → Prop), K (a₁ k ys A c) W →
      assign.wpIn (Fence.wide.inRound l) 3 Tryz.prog (Exit.then K (fun _ _ _ => False)) { tmps := (ps.zip #[.int .u8 (k.toNat : Int), .slice A ys.length c]).foldl (fun t (p, v) => t.setIfInBounds p v) a.tmps, defers := [] } W)
    (hbody : ∀ (l : Nat) (pre : List (UInt8 × List UInt8)) (k : UInt8) (ys : List UInt8) (A : Option Addr) (c : Nat) (W0 W : World), I pre W0 → Fr (fun k => k = w.heap.size + 1) W0 W → w.heap.size + 2 ≤ W0.heap.size → RB W A ys → ys.length ≤ c → (∀ a, A = some a → 0 < ys.length → W0.heap.size ≤ a.block) → pre ++ [(k, ys)] <+: xs →
      body.wpIn (Fence.wide.inRound l) 3 Tryz.prog (fun e _ W' => e = .normal ∧ Fr G W W' ∧ I (pre ++ [(k, ys)]) W') (a₁ k ys A c) W)
    (hdone : ∀ W, I xs W → W.heap[w.heap.size]? = some (.deferred (some [])) → Q .normal { a with defers := { target := .collected w.heap.size, args := #[] } :: a.defers } W) :
    (Code.rangeFunc g ps assign body).wp Tryz.prog Q a w := by
  refine (wpIn_wide (n := 4)).1 (wpIn_rangeFunc ?_)
  intro fn hfn
  obtain ⟨rec, hrec⟩ : ∃ rec : LoopState → Loop, rec = fun st => { state := st, pending := none, fn, tmps := a.tmps, params := ps, assign, body, defers := w.heap.size } := ⟨_, rfl⟩
  obtain ⟨W1, hW1⟩ : ∃ W1, (w.alloc (.deferred (some []))).alloc (.loop (rec .ready)) = W1 := ⟨_, rfl⟩
  have hL1 : W1.heap[w.heap.size + 1]? = some (.loop (rec .ready)) := by
    rw [← hW1]; have := World.alloc_heap_new (w.alloc (.deferred (some []))) (.loop (rec .ready)); rwa [World.size_alloc] at this
  have hK1 : W1.heap[w.heap.size]? = some (.deferred (some [])) := by
    rw [← hW1]; exact (Below.heap_alloc _ _ _ (by simp)).trans (World.alloc_heap_new w _)
  have hb1 : Below w.heap.size w W1 := by
    rw [← hW1]; exact ((Below.refl _ w).alloc (Nat.le_refl _) _).alloc (by simp) _
  have hI1 : I [] W1 := hI [] w W1 h0 (Fr.of_below hb1)
  have hs1 : W1.heap.size = w.heap.size + 2 := by rw [← hW1]; simp
  refine ⟨w.heap.size + 1, [{ target := .collected w.heap.size, args := #[] }], W1, { target := .fn (.func gf) lb, args := #[.func (.yield (w.heap.size + 1)) #[] #[]] }, W1, gf,
    #[.func (.yield (w.heap.size + 1)) #[] #[]] ++ lb, W1, ?_, ?_, ?_, ?_, ?_, ?_⟩
  · rw [← hW1, hrec]; exact run_enterLoop_outer _ _ _ _ _
  · simp only [resolve, hg]
    simp [go_sem]
  · intro f' hf'; trivial
  · simp [invoke, go_sem, eg]
  · intro h; simp [Fence.wide] at h
  · refine callsIn_wide.2 ((hseq (w.heap.size + 1) (fun pre W => I pre W ∧ W.heap[w.heap.size + 1]? = some (.loop (rec .ready)) ∧ W.heap[w.heap.size]? = some (.deferred (some []))) W1 hb1 (by omega) ?_ ?_ ⟨hI1, hL1, hK1⟩).mono ?_)
    · rintro pre W W' ⟨hi, hl, hk⟩ hf
      have l1 := (Array.getElem?_eq_some_iff.1 hl).1
      have l2 := (Array.getElem?_eq_some_iff.1 hk).1
      exact ⟨hI pre W W' hi (hf.mono fun i h => .inl (.inl h)), (hf.block _ l1 (by omega)).trans hl, (hf.block _ l2 (by omega)).trans hk⟩
    · rintro pre k ys A c W0 W ⟨hi, hl0, hk0⟩ hb0 hba hr hc hA hpre
      rw [hs1] at hba
      have hl : W.heap[w.heap.size + 1]? = some (.loop (rec .ready)) := (hb0.block _ (by omega)).trans hl0
      have hk : W.heap[w.heap.size]? = some (.deferred (some [])) := (hb0.block _ (by omega)).trans hk0
      have l1 := (Array.getElem?_eq_some_iff.1 hl).1
      have hy := run_yield (P := Tryz.prog) (args := #[.int .u8 (k.toNat : Int), .slice A ys.length c]) hl (by rw [hrec]; exact hps.symm)
      rw [hrec] at hy
      refine ⟨fn, _, assign, body, hy, roundIn_of_wpIn hfn ?_⟩
      refine hassign _ k ys A c W _ ?_
      refine ⟨_, run_beginRound hl (by rw [hrec]), ?_⟩
      obtain ⟨W2, hW2⟩ : ∃ W2, W2 = W.putObj (w.heap.size + 1) (.loop { rec .ready with state := .busy }) := ⟨_, rfl⟩
      rw [← hW2]
      have hf2 : Fr (fun i => i = w.heap.size + 1) W W2 := by rw [hW2]; exact Fr.put W _ _ rfl
      have hl2 : W2.heap[w.heap.size + 1]? = some (.loop { rec .ready with state := .busy }) := by rw [hW2]; exact World.putObj_heap_same l1
      have hk2 : W2.heap[w.heap.size]? = some (.deferred (some [])) := by rw [hW2]; exact (World.putObj_heap_other (by omega)).trans hk
      refine wpIn_mono (hbody _ pre k ys A c W0 W2 hi ((Fr.of_below hb0).trans hf2 fun i h => .inl h) hba (hr.fr2 hf2 fun a ha h0 => by have := hA a ha h0; omega) hc hA hpre) ?_
      rintro e a3 W3 ⟨rfl, hf3, hi3⟩
      have l2 := (Array.getElem?_eq_some_iff.1 hl2).1
      have hl3 : W3.heap[w.heap.size + 1]? = some (.loop { rec .ready with state := .busy }) := (hf3.block _ l2 (fun h => (hG _ h).2 rfl)).trans hl2
      have hk3 : W3.heap[w.heap.size]? = some (.deferred (some [])) := (hf3.block _ (Array.getElem?_eq_some_iff.1 hk2).1 (fun h => (hG _ h).1 rfl)).trans hk2
      have hend := run_endRound (P := Tryz.prog) none hl3
      have hf4 : Fr (fun i => i = w.heap.size + 1) W3 (W3.putObj (w.heap.size + 1) (.loop (rec .ready))) := Fr.put W3 _ _ rfl
      refine ⟨_, _, hend, rfl, ⟨hI _ _ _ hi3 (by rw [hrec] at hf4 ⊢; exact hf4.mono fun i h => .inl (.inr (.inr h))), ?_, ?_⟩, ?_⟩
      · rw [hrec]; exact World.putObj_heap_same (Array.getElem?_eq_some_iff.1 hl3).1
      · exact (World.putObj_heap_other (by omega)).trans hk3
      · have h5 : Fr (fun i => G i ∨ i = w.heap.size + 1) W W3 := (hf2.mono fun i h => .inl (.inr h)).trans hf3 fun i h => .inl (.inl h)
        rw [hrec] at hf4 ⊢
        exact h5.trans hf4 fun i h => .inl (.inr h)
    · rintro e W2 ⟨⟨v, rfl⟩, hi, hl, hk⟩
      have l1 := (Array.getElem?_eq_some_iff.1 hl).1
      refine ⟨none, _, by have := run_endLoop (P := Tryz.prog) hl (by rw [hrec]; simp); rw [hrec] at this; exact this, hdone _ (hI _ _ _ hi (Fr.put W2 _ _ (.inr (.inr rfl)))) ((World.putObj_heap_other (by omega)).trans hk)⟩

end Go.Proofs.YtdhafdejionefaaGreat
