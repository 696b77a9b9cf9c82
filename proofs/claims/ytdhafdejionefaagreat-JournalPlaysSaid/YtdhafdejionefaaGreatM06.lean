/- Parts: The walks of the journal's all: the frames of bytes, one by one. -/
import Derived.Test.YtdhafdejionefaaGreatM05
import Derived.Test.YtdhafdejionefaaGreatM01
import Derived.Lib.ConvBytes
import Derived.WalkMore
/- The walks of the journal's all: the frames of bytes, one by one. -/
namespace Go.Proofs.YtdhafdejionefaaGreat
attribute [local go_sem] Oper.semAt_some
set_option linter.unusedVariables false
set_option linter.unusedSimpArgs false
open Go.RowKit

theorem all_any (v : Value) (w : World) (A : Option Addr) (n c : Nat) (hv : v = .slice A n c) :
    Calls Tryz.prog 66 #[v] w fun e w' => e = .returned (.func (.func 79) #[] #[.pointer (some ⟨w.heap.size, 0, none⟩)]) ∧ w' = w.alloc (.cells #[v] 35) := by
  subst hv
  go_enter Tryz.func66, Tryz.ntmps66
  go_wp2
  go_ret
  exact ⟨rfl, rfl⟩
theorem framesN_more : ∀ (f g : Nat) (b : List UInt8), b.length ≤ f → b.length ≤ g → framesN f b = framesN g b
  | 0, g, b, hf, hg => by
    have : b = [] := List.eq_nil_of_length_eq_zero (by omega)
    subst this
    cases g with
    | zero => rfl
    | succ g => rfl
  | f + 1, 0, b, hf, hg => by
    have : b = [] := List.eq_nil_of_length_eq_zero (by omega)
    subst this
    rfl
  | f + 1, g + 1, b, hf, hg => by
    rw [framesN, framesN]
    match hb : firstP b with
    | none => rfl
    | some (k, xs, n) =>
      obtain ⟨ho, hn, r, hr⟩ := first_inv hb
      have hl : 5 ≤ n := by rw [hn, frameB_len]; omega
      simp only
      rw [framesN_more f g (b.drop n) (by rw [List.length_drop]; omega) (by rw [List.length_drop]; omega)]
theorem framesP_step (b : List UInt8) : framesP b = match firstP b with
    | none => []
    | some (k, xs, n) => (k, xs) :: framesP (b.drop n) := by
  unfold framesP
  match b with
  | [] => rfl
  | x :: b =>
    rw [List.length_cons, framesN]
    match hb : firstP (x :: b) with
    | none => rfl
    | some (k, xs, n) =>
      obtain ⟨ho, hn, r, hr⟩ := first_inv hb
      have hl : 5 ≤ n := by rw [hn, frameB_len]; omega
      simp only
      rw [framesN_more b.length ((x :: b).drop n).length _ (by rw [List.length_drop, List.length_cons]; omega) (Nat.le_refl _)]
theorem framesP_none {b : List UInt8} (h : firstP b = none) : framesP b = [] := by rw [framesP_step, h]
theorem framesP_some {b : List UInt8} {k : UInt8} {ys : List UInt8} {n : Nat} (h : firstP b = some (k, ys, n)) : framesP b = (k, ys) :: framesP (b.drop n) := by rw [framesP_step, h]
theorem read_n (B : Nat) (A : Option Addr) (c n : Nat) (xs : List UInt8) (w : World) (hn : xs.length = n) (hB : B ≤ w.heap.size) (hr : RB w A xs) (hl : xs.length ≤ 140737488355328) :
    Calls Tryz.prog 80 #[.slice A n c] w fun e w' => ∃ pb, e = .returned (.pointer (some ⟨pb, 0, none⟩)) ∧ B ≤ pb ∧ RdR w' pb xs 0 ∧ Below B w w' := by
  subst hn; exact read_tally B A c xs w hB hr hl
theorem number_n (B : Nat) (A : Option Addr) (c n : Nat) (xs : List UInt8) (w : World) (hn : xs.length = n) (hB : B ≤ w.heap.size) (hr : RB w A xs) (hl : xs.length ≤ 140737488355328) :
    Calls Tryz.prog 67 #[.slice A n c] w fun e w' => e = .returned (.int .i64 (numberP xs)) ∧ Below B w w' := by
  subst hn; exact number_rec B A c xs w hB hr hl
theorem fits_n (s : Int) (A : Option Addr) (c n : Nat) (xs : List UInt8) (w : World) (hn : xs.length = n) (hr : RB w A xs) :
    Calls Tryz.prog 84 #[.slice A n c, .int .i64 s] w fun e w' => e = .returned (.bool (((crcS xs).toNat : Int) == s)) ∧ Below w.heap.size w w' := by
  subst hn; exact fits_any s A c xs w hr
/-- []byte(s). -/
theorem conv_bytes (w : World) (T : List UInt8) (hl : T.length ≤ 140737488355328) : ∃ w3 c, (convert 9 35 (.string (strB T))).run Tryz.prog w = .ok (.slice (some ⟨w.heap.size, 0, none⟩) T.length c) w3 ∧ RB w3 (some ⟨w.heap.size, 0, none⟩) T ∧ T.length ≤ c ∧ Below w.heap.size w w3 := by
  have hsz : (strB T).size = T.length := by simp [strB, ByteArray.size]
  have h := Lib.run_convert_string_bytes w 9 35 5 (strB T) Tryz.underlying9 Tryz.underlying35 Tryz.underlying5
  rw [hsz] at h
  refine ⟨_, _, h, ⟨hl, fun h0 => ⟨w.heap.size, 0, rfl, by rw [Lib.bytesWorld_size]; omega, fun j hj => ?_⟩⟩, grownCap_ge _ _ _ _, ⟨rfl, rfl, rfl, by rw [Lib.bytesWorld_size]; omega, fun j hj => Lib.bytesWorld_at_old w _ _ j hj⟩⟩
  rw [Nat.zero_add, Lib.bytesWorld_cell w _ _ j (by rw [hsz]; exact hj)]
  simp [strB]
theorem textR_len {r4 T b' : List UInt8} {er : Int} (h : (T, b', er) = textR 4194304 r4) : b'.length ≤ r4.length := by
  have h1 : b' = (textR 4194304 r4).2.1 := by rw [← h]
  rw [h1]; unfold textR
  split
  · simp
  · split
    · simp
    · split
      · simp
      · simp only [List.length_drop]; omega
/-- The first frame, by what Text tells. -/
theorem first_of_text {x0 x1 x2 k : UInt8} {r4 T b' : List UInt8} {er : Int} (h : (T, b', er) = textR 4194304 r4) (hk : ¬ (k ≠ 68 ∧ k ≠ 71)) :
    (er ≠ 0 → firstP (x0 :: x1 :: x2 :: k :: r4) = none) ∧ (er = 0 → ∃ e : Nat, e ≤ r4.length ∧ b' = r4.drop e ∧
      ((crcS (k :: r4.take e)).toNat ≠ x0.toNat * 65536 + x1.toNat * 256 + x2.toNat → firstP (x0 :: x1 :: x2 :: k :: r4) = none) ∧
      (k = 71 → numberP T = 0 → firstP (x0 :: x1 :: x2 :: k :: r4) = none) ∧
      ((crcS (k :: r4.take e)).toNat = x0.toNat * 65536 + x1.toNat * 256 + x2.toNat → ¬ (k = 71 ∧ numberP T = 0) → firstP (x0 :: x1 :: x2 :: k :: r4) = some (k, T, 4 + e))) := by
  have hsm := numP_small r4
  unfold textR at h
  rw [firstP, if_neg hk]
  by_cases h1 : (numP r4).2.2 ≠ 0
  · rw [if_pos h1] at h
    cases h
    rw [if_pos (.inl h1)]
    exact ⟨fun _ => rfl, fun e => absurd e h1⟩
  rw [if_neg h1] at h
  by_cases h2 : (4194304 : Int) < (numP r4).1
  · rw [if_pos h2] at h
    cases h
    rw [if_pos (.inr (.inl h2))]
    exact ⟨fun _ => rfl, fun e => absurd e (by decide)⟩
  rw [if_neg h2] at h
  by_cases h3 : (r4.length : Int) - (numP r4).2.1 < (numP r4).1
  · rw [if_pos h3] at h
    cases h
    rw [if_pos (.inr (.inr h3))]
    exact ⟨fun _ => rfl, fun e => absurd e (by decide)⟩
  rw [if_neg h3] at h
  cases h
  rw [if_neg (fun h => by rcases h with h | h | h; exact h1 h; exact h2 h; exact h3 h)]
  refine ⟨fun e => absurd rfl e, fun _ => ⟨(numP r4).2.1.toNat + (numP r4).1.toNat, by omega, by rw [List.drop_drop], fun h => if_pos h, fun hk hn => ?_, fun h hn => ?_⟩⟩
  · split
    · rfl
    · exact if_pos ⟨hk, hn⟩
  · rw [if_neg (fun hh => hh h), if_neg hn, Nat.add_assoc]
theorem or3 (x0 x1 x2 : UInt8) : bits .or .i64 (bits .or .i64 (wrap64 (wrap64 (x0.toNat : Int) * 65536)) (wrap64 (wrap64 (x1.toNat : Int) * 256))) (wrap64 (x2.toNat : Int)) = ((x0.toNat * 65536 + x1.toNat * 256 + x2.toNat : Nat) : Int) := by
  have h0 := x0.toNat_lt
  have h1 := x1.toNat_lt
  have h2 := x2.toNat_lt
  rw [IntWalk.wrap64_in (x0.toNat : Int) (by omega), IntWalk.wrap64_in (x1.toNat : Int) (by omega), IntWalk.wrap64_in (x2.toNat : Int) (by omega), IntWalk.wrap64_in _ (by omega), IntWalk.wrap64_in _ (by omega)]
  have a := or_low 16 x0.toNat (x1.toNat * 256) (by omega) (by omega)
  have b := or_low 8 (x0.toNat * 256 + x1.toNat) x2.toNat (by omega) (by omega)
  rw [show (x0.toNat : Int) * 65536 = ((2 ^ 16 * x0.toNat : Nat) : Int) by omega, show (x1.toNat : Int) * 256 = ((x1.toNat * 256 : Nat) : Int) by omega, a, show 2 ^ 16 * x0.toNat + x1.toNat * 256 = 2 ^ 8 * (x0.toNat * 256 + x1.toNat) by omega, b]
  congr 1
  omega
def cellLen (w : World) (p : Addr) : Nat := match w.cell? p with
  | some (.slice _ n _) => n
  | _ => 0
set_option maxRecDepth 100000 in
set_option maxHeartbeats 4000000 in
theorem all1_any (l Bn : Nat) (A : Option Addr) (c : Nat) (b : List UInt8) (G : Nat → Prop) (J : List (UInt8 × List UInt8) → World → Prop) (w : World)
    (hG : ¬ G Bn) (hA : ∀ a, A = some a → 0 < b.length → a.block ≠ Bn ∧ ¬ G a.block) (hBlk : Blk w Bn #[.slice A b.length c] 35) (hr : RB w A b) (hc : b.length ≤ c) (hl : b.length ≤ 1100000000)
    (hJ : ∀ pre W W', J pre W → Fr (fun k => k = Bn) W W' → J pre W') (hY : RoundC l G J (framesP b) w.heap.size) (h0 : J [] w) :
    Calls Tryz.prog 79 #[.func (.yield l) #[] #[], .pointer (some ⟨Bn, 0, none⟩)] w fun e w' => (∃ v, e = .returned v) ∧ J (framesP b) w' := by
  obtain ⟨xs, hxs⟩ : ∃ xs, xs = framesP b := ⟨_, rfl⟩
  rw [← hxs] at hY ⊢
  have HX := Lib.hid hxs
  have HY := Lib.hid hY
  have HJ := Lib.hid hJ
  have HA := Lib.hid hA
  have h00 := Lib.hid (⟨hBlk, hr, hc, hl, h0⟩ : Blk w Bn #[.slice A b.length c] 35 ∧ RB w A b ∧ b.length ≤ c ∧ b.length ≤ 1100000000 ∧ J [] w)
  clear hxs hY hJ hA hBlk hr hc hl h0
  go_enter Tryz.func79, Tryz.ntmps79
  go_wp2_with fail
  go_step3
  go_wp2_with fail
  go_step3
  go_wp2_with fail
  go_loopw [] (fun wr => ∃ (pre : List (UInt8 × List UInt8)) (r : List UInt8) (A' : Option Addr) (c' : Nat), xs = pre ++ framesP r ∧ Hid (∀ a, A' = some a → 0 < r.length → a.block ≠ Bn ∧ ¬ G a.block) ∧ Hid (Blk wr Bn #[.slice A' r.length c'] 35) ∧ Hid (RB wr A' r) ∧ r.length ≤ c' ∧ r.length ≤ 1100000000 ∧ Hid (J pre wr) ∧ w.heap.size ≤ wr.heap.size) (fun wr => cellLen wr ⟨Bn, 0, none⟩)
  case atStart => exact ⟨[], b, A, c, by rw [HX.out]; rfl, HA, Lib.hid h00.out.1, Lib.hid h00.out.2.1, h00.out.2.2.1, h00.out.2.2.2.1, Lib.hid h00.out.2.2.2.2, Nat.le_refl _⟩
  case round =>
    clear h00 HA HX
    obtain ⟨pre, r, A', c', hx, HA, HB, HR, hc, hl, HP, hw⟩ := hrel
    have hcell : wr.cell? ⟨Bn, 0, none⟩ = some (.slice A' r.length c') := HB.out.cell 0
    by_cases h3 : r.length ≤ 3
    · have hf : framesP r = [] := by
        rw [framesP_step]
        match r, h3 with
        | [], _ => rfl
        | [_], _ => rfl
        | [_, _], _ => rfl
        | [_, _, _], _ => rfl
      rw [hf, List.append_nil] at hx
      subst hx
      obtain ⟨n, hn⟩ : ∃ n, n = r.length := ⟨_, rfl⟩
      rw [← hn] at hcell h3
      clear hn HA HB HR hl hc
      go_wp2_with fail
      rw [Exit.noGoto_normal]
      go_end0
      exact ⟨⟨_, rfl⟩, HP.out⟩
    match r, h3 with
    | [], h3 => exact absurd (by simp) h3
    | [_], h3 => exact absurd (by simp) h3
    | [_, _], h3 => exact absurd (by simp) h3
    | [_, _, _], h3 => exact absurd (by simp) h3
    | x0 :: x1 :: x2 :: k :: r4, h3 =>
      obtain ⟨g, off, hA', hgl, hcells⟩ := HR.out.2 (by simp)
      subst hA'
      have c0 : wr.cell? ⟨g, off, none⟩ = some (.int .u8 (x0.toNat : Int)) := hcells 0 (by simp)
      have c1 : wr.cell? ⟨g, off + 1, none⟩ = some (.int .u8 (x1.toNat : Int)) := hcells 1 (by simp)
      have c2 : wr.cell? ⟨g, off + 2, none⟩ = some (.int .u8 (x2.toNat : Int)) := hcells 2 (by simp)
      have c3 : wr.cell? ⟨g, off + 3, none⟩ = some (.int .u8 (k.toNat : Int)) := hcells 3 (by simp)
      clear hcells
      obtain ⟨n, hn⟩ : ∃ n, n = r4.length := ⟨_, rfl⟩
      have hlen : (x0 :: x1 :: x2 :: k :: r4).length = n + 4 := by simp [← hn]
      rw [hlen] at hcell hc hl
      have HN := Lib.hid hn
      clear hn
      obtain ⟨q, hq⟩ : ∃ q, q = k.toNat := ⟨_, rfl⟩
      have hqb : q < 256 := by rw [hq]; exact k.toNat_lt
      have HQ := Lib.hid hq
      rw [← hq] at c3
      clear hq
      by_cases hk : q ≠ 68 ∧ q ≠ 71
      · have hf : framesP (x0 :: x1 :: x2 :: k :: r4) = [] := by
          rw [framesP_step, firstP, if_pos ⟨fun e => hk.1 (by rw [HQ.out, e]; rfl), fun e => hk.2 (by rw [HQ.out, e]; rfl)⟩]
        rw [hf, List.append_nil] at hx
        subst hx
        have hk1 : ((q : Int) != 68) = true := by have := hk.1; simp; omega
        have hk2 : ((q : Int) != 71) = true := by have := hk.2; simp; omega
        clear hk
        go_wp2_with fail
        rw [Exit.noGoto_normal]
        go_end0
        exact ⟨⟨_, rfl⟩, HP.out⟩
      have hk3 : ¬ ((k ≠ 68 ∧ k ≠ 71)) := fun h => hk ⟨fun e => h.1 (UInt8.toNat_inj.1 (by rw [← HQ.out, e]; rfl)), fun e => h.2 (UInt8.toNat_inj.1 (by rw [← HQ.out, e]; rfl))⟩
      have HK := Lib.hid hk3
      have hlb : r4.length ≤ 140737488355328 := by rw [← HN.out]; omega
      have hr4 : RB wr (some ⟨g, off + 4, none⟩) r4 := HR.out.drop 4
      have HR4 := Lib.hid hr4
      clear hk3 hr4
      by_cases h0 : n = 0
      · have hr40 : r4 = [] := List.eq_nil_of_length_eq_zero (by rw [← HN.out]; exact h0)
        subst hr40
        subst h0
        have hf : framesP [x0, x1, x2, k] = [] := framesP_none ((first_of_text (T := []) (b' := []) (er := 10) (by rfl) HK.out).1 (by decide))
        rw [hf, List.append_nil] at hx
        subst hx
        have hqq : q = 68 ∨ q = 71 := by omega
        rcases hqq with rfl | rfl <;> by_cases hc4 : c' = 4
        all_goals (try subst hc4)
        all_goals go_wp2_with fail
        all_goals (
          refine (read_n wr.heap.size _ _ 0 [] wr rfl (Nat.le_refl _) (RB.nil _ _) (by simp)).mono ?_
          rintro e w1 ⟨pb, rfl, hpb, hrd, hb1⟩
          have HB1 := Lib.hid hb1
          have HW1 : wr.heap.size ≤ w1.heap.size := hb1.size
          clear hb1)
        all_goals go_wp2_with fail
        all_goals (
          refine (text_any pb 4194304 [] w1 hrd (by simp)).mono ?_
          rw [show textR 4194304 [] = ([], [], 10) from rfl]
          rintro e w2 ⟨rfl, hd⟩
          have HB2 := Lib.hid (HB1.out.trans (rd_below hd.2 hpb HW1))
          have HD := Lib.hid hd
          clear hd hrd
          obtain ⟨w3, c3, hcv, hrT, hcT, hb3⟩ := conv_bytes w2 [] (by simp)
          have HW2 : wr.heap.size ≤ w2.heap.size := HB2.out.size
          have HB3 := Lib.hid (HB2.out.trans (Below.up hb3 HW2))
          have hrd := HD.out.1.below hb3
          clear hrT hb3 HD)
        all_goals go_wp2_with fail
        · have hcell3 : w3.cell? ⟨Bn, 0, none⟩ = some (.slice (some ⟨g, off, none⟩) (0 + 4) 4) := (HB3.out.cell (p := ⟨Bn, 0, none⟩) HB.out.lt).trans hcell
          refine wp_region_phased (fun W => Below w3.heap.size w3 W ∧ W.cell? ⟨Bn, 0, none⟩ = some (.slice (some ⟨g, off, none⟩) (0 + 4) 4)) 6 (by kernel_rfl) ⟨(Below.refl _ _).drew, hcell3⟩ (fun hS => ?_)
          have hrd := hrd.below (Below.refl _ _).drew
          refine wpAnyP_load (v := ?_) 0 (by kernel_rfl) (at_toArray rfl) (by kernel_rfl) (by kernel_rfl) (by kernel_rfl) (fun _ _ _ h => h) (by first | assumption | rfl) (Or.inl ⟨by rfl, fun W hS => ?_⟩) ?_
          rotate_left 1
          · (obtain ⟨_, f1⟩ := hS; go_simp <;> (try go_bits) <;> with_reducible rfl)
          simp only [Act.put, List.setIfInBounds_toArray, List.set_cons_zero, List.set_cons_succ]
          refine wpAnyP_pure (v := ?_) 1 (at_toArray rfl) (by kernel_rfl) (by kernel_rfl) (by kernel_rfl) (fun _ _ _ h => h) (Or.inl ⟨by rfl, fun W => ?_⟩) ?_
          rotate_left 1
          · (go_simp <;> (try go_bits) <;> with_reducible rfl)
          simp only [Act.put, List.setIfInBounds_toArray, List.set_cons_zero, List.set_cons_succ]
          refine wpAnyP_pure (v := ?_) 2 (at_toArray rfl) (by kernel_rfl) (by kernel_rfl) (by kernel_rfl) (fun _ _ _ h => h) (Or.inl ⟨by rfl, fun W => ?_⟩) ?_
          rotate_left 1
          · (go_simp <;> (try go_bits) <;> with_reducible rfl)
          simp only [Act.put, List.setIfInBounds_toArray, List.set_cons_zero, List.set_cons_succ]
          refine wpAnyP_one 3 (at_toArray rfl) (by kernel_rfl) rfl (fun K hK => ?_)
          go_wp2_with fail
          refine (left_rd pb [] 10 _ hrd).mono ?_
          rw [show leftR [] 10 = 0 from rfl]
          rintro e w4 ⟨rfl, rfl⟩
          go_wp2_with fail
          refine hK.out _ _ (fun _ h => h) ?_
          clear hK
          refine wpAnyP_pure (v := ?_) 4 (at_toArray rfl) (by kernel_rfl) (by kernel_rfl) (by kernel_rfl) (fun _ _ _ h => h) (Or.inl ⟨by rfl, fun W => ?_⟩) ?_
          rotate_left 1
          · (go_simp <;> (try go_bits) <;> with_reducible rfl)
          simp only [Act.put, List.setIfInBounds_toArray, List.set_cons_zero, List.set_cons_succ]
          refine wpAnyP_pure (v := ?_) 5 (at_toArray rfl) (by kernel_rfl) (by kernel_rfl) (by kernel_rfl) (fun _ _ _ h => h) (Or.inl ⟨by rfl, fun W => ?_⟩) ?_
          rotate_left 1
          · (go_simp <;> (try go_bits) <;> with_reducible rfl)
          simp only [Act.put, List.setIfInBounds_toArray, List.set_cons_zero, List.set_cons_succ]
          refine wpAnyP_done (by kernel_rfl) ?_ _
          go_wp2_with fail
          refine wp_region_phased (fun W => Below w3.heap.size w3 W) 26 (by kernel_rfl) (Below.refl _ _).drew.drew (fun hS => ?_)
          have hrd := hrd.below (Below.refl _ _).drew
          refine wpAnyP_pure (v := ?_) 0 (at_toArray rfl) (by kernel_rfl) (by kernel_rfl) (by kernel_rfl) (fun _ _ _ h => h) (Or.inl ⟨by rfl, fun W => ?_⟩) ?_
          rotate_left 1
          · (go_simp <;> (try go_bits) <;> with_reducible rfl)
          simp only [Act.put, List.setIfInBounds_toArray, List.set_cons_zero, List.set_cons_succ]
          refine wpAnyP_one 1 (at_toArray rfl) (by kernel_rfl) rfl (fun K hK => ?_)
          go_wp2_with fail
          refine (err_any pb [] 10 _ hrd).mono ?_
          rintro e w5 ⟨rfl, rfl⟩
          go_wp2_with fail
          refine hK.out _ _ (fun _ h => h) ?_
          clear hK
          refine wpAnyP_pure (v := ?_) 2 (at_toArray rfl) (by kernel_rfl) (by kernel_rfl) (by kernel_rfl) (fun _ _ _ h => h) (Or.inl ⟨by rfl, fun W => ?_⟩) ?_
          rotate_left 1
          · (go_simp <;> (try go_bits) <;> with_reducible rfl)
          simp only [Act.put, List.setIfInBounds_toArray, List.set_cons_zero, List.set_cons_succ]
          refine wpAnyP_pure (v := ?_) 3 (at_toArray rfl) (by kernel_rfl) (by kernel_rfl) (by kernel_rfl) (fun _ _ _ h => h) (Or.inl ⟨by rfl, fun W => ?_⟩) ?_
          rotate_left 1
          · (go_simp <;> (try go_bits) <;> with_reducible rfl)
          simp only [Act.put, List.setIfInBounds_toArray, List.set_cons_zero, List.set_cons_succ]
          refine wpAnyP_pure 4 (at_toArray rfl) (by kernel_rfl) (by kernel_rfl) (by kernel_rfl) (fun _ _ _ h => h) (Or.inr ⟨by rfl, rfl⟩) ?_
          simp only [Act.put, List.setIfInBounds_toArray, List.set_cons_zero, List.set_cons_succ]
          refine wpAnyP_pure 5 (at_toArray rfl) (by kernel_rfl) (by kernel_rfl) (by kernel_rfl) (fun _ _ _ h => h) (Or.inr ⟨by rfl, rfl⟩) ?_
          simp only [Act.put, List.setIfInBounds_toArray, List.set_cons_zero, List.set_cons_succ]
          refine wpAnyP_pure 6 (at_toArray rfl) (by kernel_rfl) (by kernel_rfl) (by kernel_rfl) (fun _ _ _ h => h) (Or.inr ⟨by rfl, rfl⟩) ?_
          simp only [Act.put, List.setIfInBounds_toArray, List.set_cons_zero, List.set_cons_succ]
          refine wpAnyP_pure 7 (at_toArray rfl) (by kernel_rfl) (by kernel_rfl) (by kernel_rfl) (fun _ _ _ h => h) (Or.inr ⟨by rfl, rfl⟩) ?_
          simp only [Act.put, List.setIfInBounds_toArray, List.set_cons_zero, List.set_cons_succ]
          refine wpAnyP_pure 8 (at_toArray rfl) (by kernel_rfl) (by kernel_rfl) (by kernel_rfl) (fun _ _ _ h => h) (Or.inr ⟨by rfl, rfl⟩) ?_
          simp only [Act.put, List.setIfInBounds_toArray, List.set_cons_zero, List.set_cons_succ]
          refine wpAnyP_pure 9 (at_toArray rfl) (by kernel_rfl) (by kernel_rfl) (by kernel_rfl) (fun _ _ _ h => h) (Or.inr ⟨by rfl, rfl⟩) ?_
          simp only [Act.put, List.setIfInBounds_toArray, List.set_cons_zero, List.set_cons_succ]
          refine wpAnyP_pure 10 (at_toArray rfl) (by kernel_rfl) (by kernel_rfl) (by kernel_rfl) (fun _ _ _ h => h) (Or.inr ⟨by rfl, rfl⟩) ?_
          simp only [Act.put, List.setIfInBounds_toArray, List.set_cons_zero, List.set_cons_succ]
          refine wpAnyP_pure 11 (at_toArray rfl) (by kernel_rfl) (by kernel_rfl) (by kernel_rfl) (fun _ _ _ h => h) (Or.inr ⟨by rfl, rfl⟩) ?_
          simp only [Act.put, List.setIfInBounds_toArray, List.set_cons_zero, List.set_cons_succ]
          refine wpAnyP_pure 12 (at_toArray rfl) (by kernel_rfl) (by kernel_rfl) (by kernel_rfl) (fun _ _ _ h => h) (Or.inr ⟨by rfl, rfl⟩) ?_
          simp only [Act.put, List.setIfInBounds_toArray, List.set_cons_zero, List.set_cons_succ]
          refine wpAnyP_pure 13 (at_toArray rfl) (by kernel_rfl) (by kernel_rfl) (by kernel_rfl) (fun _ _ _ h => h) (Or.inr ⟨by rfl, rfl⟩) ?_
          simp only [Act.put, List.setIfInBounds_toArray, List.set_cons_zero, List.set_cons_succ]
          refine wpAnyP_pure 14 (at_toArray rfl) (by kernel_rfl) (by kernel_rfl) (by kernel_rfl) (fun _ _ _ h => h) (Or.inr ⟨by rfl, rfl⟩) ?_
          simp only [Act.put, List.setIfInBounds_toArray, List.set_cons_zero, List.set_cons_succ]
          refine wpAnyP_pure 15 (at_toArray rfl) (by kernel_rfl) (by kernel_rfl) (by kernel_rfl) (fun _ _ _ h => h) (Or.inr ⟨by rfl, rfl⟩) ?_
          simp only [Act.put, List.setIfInBounds_toArray, List.set_cons_zero, List.set_cons_succ]
          refine wpAnyP_pure 16 (at_toArray rfl) (by kernel_rfl) (by kernel_rfl) (by kernel_rfl) (fun _ _ _ h => h) (Or.inr ⟨by rfl, rfl⟩) ?_
          simp only [Act.put, List.setIfInBounds_toArray, List.set_cons_zero, List.set_cons_succ]
          refine wpAnyP_pure 17 (at_toArray rfl) (by kernel_rfl) (by kernel_rfl) (by kernel_rfl) (fun _ _ _ h => h) (Or.inr ⟨by rfl, rfl⟩) ?_
          simp only [Act.put, List.setIfInBounds_toArray, List.set_cons_zero, List.set_cons_succ]
          refine wpAnyP_pure 18 (at_toArray rfl) (by kernel_rfl) (by kernel_rfl) (by kernel_rfl) (fun _ _ _ h => h) (Or.inr ⟨by rfl, rfl⟩) ?_
          simp only [Act.put, List.setIfInBounds_toArray, List.set_cons_zero, List.set_cons_succ]
          refine wpAnyP_pure 19 (at_toArray rfl) (by kernel_rfl) (by kernel_rfl) (by kernel_rfl) (fun _ _ _ h => h) (Or.inr ⟨by rfl, rfl⟩) ?_
          simp only [Act.put, List.setIfInBounds_toArray, List.set_cons_zero, List.set_cons_succ]
          refine wpAnyP_pure 20 (at_toArray rfl) (by kernel_rfl) (by kernel_rfl) (by kernel_rfl) (fun _ _ _ h => h) (Or.inr ⟨by rfl, rfl⟩) ?_
          simp only [Act.put, List.setIfInBounds_toArray, List.set_cons_zero, List.set_cons_succ]
          refine wpAnyP_pure 21 (at_toArray rfl) (by kernel_rfl) (by kernel_rfl) (by kernel_rfl) (fun _ _ _ h => h) (Or.inr ⟨by rfl, rfl⟩) ?_
          simp only [Act.put, List.setIfInBounds_toArray, List.set_cons_zero, List.set_cons_succ]
          refine wpAnyP_pure 22 (at_toArray rfl) (by kernel_rfl) (by kernel_rfl) (by kernel_rfl) (fun _ _ _ h => h) (Or.inr ⟨by rfl, rfl⟩) ?_
          simp only [Act.put, List.setIfInBounds_toArray, List.set_cons_zero, List.set_cons_succ]
          refine wpAnyP_pure 23 (at_toArray rfl) (by kernel_rfl) (by kernel_rfl) (by kernel_rfl) (fun _ _ _ h => h) (Or.inr ⟨by rfl, rfl⟩) ?_
          simp only [Act.put, List.setIfInBounds_toArray, List.set_cons_zero, List.set_cons_succ]
          refine wpAnyP_pure 24 (at_toArray rfl) (by kernel_rfl) (by kernel_rfl) (by kernel_rfl) (fun _ _ _ h => h) (Or.inr ⟨by rfl, rfl⟩) ?_
          simp only [Act.put, List.setIfInBounds_toArray, List.set_cons_zero, List.set_cons_succ]
          refine wpAnyP_pure (v := ?_) 25 (at_toArray rfl) (by kernel_rfl) (by kernel_rfl) (by kernel_rfl) (fun _ _ _ h => h) (Or.inl ⟨by rfl, fun W => ?_⟩) ?_
          rotate_left 1
          · (go_simp <;> (try go_bits) <;> with_reducible rfl)
          simp only [Act.put, List.setIfInBounds_toArray, List.set_cons_zero, List.set_cons_succ]
          refine wpAnyP_done (by kernel_rfl) ?_ _
          go_wp2_with fail
          rw [Exit.noGoto_normal]
          go_end0
          exact ⟨⟨_, rfl⟩, HJ.out _ _ _ HP.out (Fr.of_below (HB3.out.trans (Below.refl _ _).drew.drew))⟩
        · have hcell3 : w3.cell? ⟨Bn, 0, none⟩ = some (.slice (some ⟨g, off, none⟩) (0 + 4) c') := (HB3.out.cell (p := ⟨Bn, 0, none⟩) HB.out.lt).trans hcell
          refine wp_region_phased (fun W => Below w3.heap.size w3 W ∧ W.cell? ⟨Bn, 0, none⟩ = some (.slice (some ⟨g, off, none⟩) (0 + 4) c')) 6 (by kernel_rfl) ⟨(Below.refl _ _).drew, hcell3⟩ (fun hS => ?_)
          have hrd := hrd.below (Below.refl _ _).drew
          refine wpAnyP_load (v := ?_) 0 (by kernel_rfl) (at_toArray rfl) (by kernel_rfl) (by kernel_rfl) (by kernel_rfl) (fun _ _ _ h => h) (by first | assumption | rfl) (Or.inl ⟨by rfl, fun W hS => ?_⟩) ?_
          rotate_left 1
          · (obtain ⟨_, f1⟩ := hS; go_simp <;> (try go_bits) <;> with_reducible rfl)
          simp only [Act.put, List.setIfInBounds_toArray, List.set_cons_zero, List.set_cons_succ]
          refine wpAnyP_pure (v := ?_) 1 (at_toArray rfl) (by kernel_rfl) (by kernel_rfl) (by kernel_rfl) (fun _ _ _ h => h) (Or.inl ⟨by rfl, fun W => ?_⟩) ?_
          rotate_left 1
          · (go_simp <;> (try go_bits) <;> with_reducible rfl)
          simp only [Act.put, List.setIfInBounds_toArray, List.set_cons_zero, List.set_cons_succ]
          refine wpAnyP_pure (v := ?_) 2 (at_toArray rfl) (by kernel_rfl) (by kernel_rfl) (by kernel_rfl) (fun _ _ _ h => h) (Or.inl ⟨by rfl, fun W => ?_⟩) ?_
          rotate_left 1
          · (go_simp <;> (try go_bits) <;> with_reducible rfl)
          simp only [Act.put, List.setIfInBounds_toArray, List.set_cons_zero, List.set_cons_succ]
          refine wpAnyP_one 3 (at_toArray rfl) (by kernel_rfl) rfl (fun K hK => ?_)
          go_wp2_with fail
          refine (left_rd pb [] 10 _ hrd).mono ?_
          rw [show leftR [] 10 = 0 from rfl]
          rintro e w4 ⟨rfl, rfl⟩
          go_wp2_with fail
          refine hK.out _ _ (fun _ h => h) ?_
          clear hK
          refine wpAnyP_pure (v := ?_) 4 (at_toArray rfl) (by kernel_rfl) (by kernel_rfl) (by kernel_rfl) (fun _ _ _ h => h) (Or.inl ⟨by rfl, fun W => ?_⟩) ?_
          rotate_left 1
          · (go_simp <;> (try go_bits) <;> with_reducible rfl)
          simp only [Act.put, List.setIfInBounds_toArray, List.set_cons_zero, List.set_cons_succ]
          refine wpAnyP_pure (v := ?_) 5 (at_toArray rfl) (by kernel_rfl) (by kernel_rfl) (by kernel_rfl) (fun _ _ _ h => h) (Or.inl ⟨by rfl, fun W => ?_⟩) ?_
          rotate_left 1
          · (go_simp <;> (try go_bits) <;> with_reducible rfl)
          simp only [Act.put, List.setIfInBounds_toArray, List.set_cons_zero, List.set_cons_succ]
          refine wpAnyP_done (by kernel_rfl) ?_ _
          go_wp2_with fail
          refine wp_region_phased (fun W => Below w3.heap.size w3 W) 26 (by kernel_rfl) (Below.refl _ _).drew.drew (fun hS => ?_)
          have hrd := hrd.below (Below.refl _ _).drew
          refine wpAnyP_pure (v := ?_) 0 (at_toArray rfl) (by kernel_rfl) (by kernel_rfl) (by kernel_rfl) (fun _ _ _ h => h) (Or.inl ⟨by rfl, fun W => ?_⟩) ?_
          rotate_left 1
          · (go_simp <;> (try go_bits) <;> with_reducible rfl)
          simp only [Act.put, List.setIfInBounds_toArray, List.set_cons_zero, List.set_cons_succ]
          refine wpAnyP_one 1 (at_toArray rfl) (by kernel_rfl) rfl (fun K hK => ?_)
          go_wp2_with fail
          refine (err_any pb [] 10 _ hrd).mono ?_
          rintro e w5 ⟨rfl, rfl⟩
          go_wp2_with fail
          refine hK.out _ _ (fun _ h => h) ?_
          clear hK
          refine wpAnyP_pure (v := ?_) 2 (at_toArray rfl) (by kernel_rfl) (by kernel_rfl) (by kernel_rfl) (fun _ _ _ h => h) (Or.inl ⟨by rfl, fun W => ?_⟩) ?_
          rotate_left 1
          · (go_simp <;> (try go_bits) <;> with_reducible rfl)
          simp only [Act.put, List.setIfInBounds_toArray, List.set_cons_zero, List.set_cons_succ]
          refine wpAnyP_pure (v := ?_) 3 (at_toArray rfl) (by kernel_rfl) (by kernel_rfl) (by kernel_rfl) (fun _ _ _ h => h) (Or.inl ⟨by rfl, fun W => ?_⟩) ?_
          rotate_left 1
          · (go_simp <;> (try go_bits) <;> with_reducible rfl)
          simp only [Act.put, List.setIfInBounds_toArray, List.set_cons_zero, List.set_cons_succ]
          refine wpAnyP_pure 4 (at_toArray rfl) (by kernel_rfl) (by kernel_rfl) (by kernel_rfl) (fun _ _ _ h => h) (Or.inr ⟨by rfl, rfl⟩) ?_
          simp only [Act.put, List.setIfInBounds_toArray, List.set_cons_zero, List.set_cons_succ]
          refine wpAnyP_pure 5 (at_toArray rfl) (by kernel_rfl) (by kernel_rfl) (by kernel_rfl) (fun _ _ _ h => h) (Or.inr ⟨by rfl, rfl⟩) ?_
          simp only [Act.put, List.setIfInBounds_toArray, List.set_cons_zero, List.set_cons_succ]
          refine wpAnyP_pure 6 (at_toArray rfl) (by kernel_rfl) (by kernel_rfl) (by kernel_rfl) (fun _ _ _ h => h) (Or.inr ⟨by rfl, rfl⟩) ?_
          simp only [Act.put, List.setIfInBounds_toArray, List.set_cons_zero, List.set_cons_succ]
          refine wpAnyP_pure 7 (at_toArray rfl) (by kernel_rfl) (by kernel_rfl) (by kernel_rfl) (fun _ _ _ h => h) (Or.inr ⟨by rfl, rfl⟩) ?_
          simp only [Act.put, List.setIfInBounds_toArray, List.set_cons_zero, List.set_cons_succ]
          refine wpAnyP_pure 8 (at_toArray rfl) (by kernel_rfl) (by kernel_rfl) (by kernel_rfl) (fun _ _ _ h => h) (Or.inr ⟨by rfl, rfl⟩) ?_
          simp only [Act.put, List.setIfInBounds_toArray, List.set_cons_zero, List.set_cons_succ]
          refine wpAnyP_pure 9 (at_toArray rfl) (by kernel_rfl) (by kernel_rfl) (by kernel_rfl) (fun _ _ _ h => h) (Or.inr ⟨by rfl, rfl⟩) ?_
          simp only [Act.put, List.setIfInBounds_toArray, List.set_cons_zero, List.set_cons_succ]
          refine wpAnyP_pure 10 (at_toArray rfl) (by kernel_rfl) (by kernel_rfl) (by kernel_rfl) (fun _ _ _ h => h) (Or.inr ⟨by rfl, rfl⟩) ?_
          simp only [Act.put, List.setIfInBounds_toArray, List.set_cons_zero, List.set_cons_succ]
          refine wpAnyP_pure 11 (at_toArray rfl) (by kernel_rfl) (by kernel_rfl) (by kernel_rfl) (fun _ _ _ h => h) (Or.inr ⟨by rfl, rfl⟩) ?_
          simp only [Act.put, List.setIfInBounds_toArray, List.set_cons_zero, List.set_cons_succ]
          refine wpAnyP_pure 12 (at_toArray rfl) (by kernel_rfl) (by kernel_rfl) (by kernel_rfl) (fun _ _ _ h => h) (Or.inr ⟨by rfl, rfl⟩) ?_
          simp only [Act.put, List.setIfInBounds_toArray, List.set_cons_zero, List.set_cons_succ]
          refine wpAnyP_pure 13 (at_toArray rfl) (by kernel_rfl) (by kernel_rfl) (by kernel_rfl) (fun _ _ _ h => h) (Or.inr ⟨by rfl, rfl⟩) ?_
          simp only [Act.put, List.setIfInBounds_toArray, List.set_cons_zero, List.set_cons_succ]
          refine wpAnyP_pure 14 (at_toArray rfl) (by kernel_rfl) (by kernel_rfl) (by kernel_rfl) (fun _ _ _ h => h) (Or.inr ⟨by rfl, rfl⟩) ?_
          simp only [Act.put, List.setIfInBounds_toArray, List.set_cons_zero, List.set_cons_succ]
          refine wpAnyP_pure 15 (at_toArray rfl) (by kernel_rfl) (by kernel_rfl) (by kernel_rfl) (fun _ _ _ h => h) (Or.inr ⟨by rfl, rfl⟩) ?_
          simp only [Act.put, List.setIfInBounds_toArray, List.set_cons_zero, List.set_cons_succ]
          refine wpAnyP_pure 16 (at_toArray rfl) (by kernel_rfl) (by kernel_rfl) (by kernel_rfl) (fun _ _ _ h => h) (Or.inr ⟨by rfl, rfl⟩) ?_
          simp only [Act.put, List.setIfInBounds_toArray, List.set_cons_zero, List.set_cons_succ]
          refine wpAnyP_pure 17 (at_toArray rfl) (by kernel_rfl) (by kernel_rfl) (by kernel_rfl) (fun _ _ _ h => h) (Or.inr ⟨by rfl, rfl⟩) ?_
          simp only [Act.put, List.setIfInBounds_toArray, List.set_cons_zero, List.set_cons_succ]
          refine wpAnyP_pure 18 (at_toArray rfl) (by kernel_rfl) (by kernel_rfl) (by kernel_rfl) (fun _ _ _ h => h) (Or.inr ⟨by rfl, rfl⟩) ?_
          simp only [Act.put, List.setIfInBounds_toArray, List.set_cons_zero, List.set_cons_succ]
          refine wpAnyP_pure 19 (at_toArray rfl) (by kernel_rfl) (by kernel_rfl) (by kernel_rfl) (fun _ _ _ h => h) (Or.inr ⟨by rfl, rfl⟩) ?_
          simp only [Act.put, List.setIfInBounds_toArray, List.set_cons_zero, List.set_cons_succ]
          refine wpAnyP_pure 20 (at_toArray rfl) (by kernel_rfl) (by kernel_rfl) (by kernel_rfl) (fun _ _ _ h => h) (Or.inr ⟨by rfl, rfl⟩) ?_
          simp only [Act.put, List.setIfInBounds_toArray, List.set_cons_zero, List.set_cons_succ]
          refine wpAnyP_pure 21 (at_toArray rfl) (by kernel_rfl) (by kernel_rfl) (by kernel_rfl) (fun _ _ _ h => h) (Or.inr ⟨by rfl, rfl⟩) ?_
          simp only [Act.put, List.setIfInBounds_toArray, List.set_cons_zero, List.set_cons_succ]
          refine wpAnyP_pure 22 (at_toArray rfl) (by kernel_rfl) (by kernel_rfl) (by kernel_rfl) (fun _ _ _ h => h) (Or.inr ⟨by rfl, rfl⟩) ?_
          simp only [Act.put, List.setIfInBounds_toArray, List.set_cons_zero, List.set_cons_succ]
          refine wpAnyP_pure 23 (at_toArray rfl) (by kernel_rfl) (by kernel_rfl) (by kernel_rfl) (fun _ _ _ h => h) (Or.inr ⟨by rfl, rfl⟩) ?_
          simp only [Act.put, List.setIfInBounds_toArray, List.set_cons_zero, List.set_cons_succ]
          refine wpAnyP_pure 24 (at_toArray rfl) (by kernel_rfl) (by kernel_rfl) (by kernel_rfl) (fun _ _ _ h => h) (Or.inr ⟨by rfl, rfl⟩) ?_
          simp only [Act.put, List.setIfInBounds_toArray, List.set_cons_zero, List.set_cons_succ]
          refine wpAnyP_pure (v := ?_) 25 (at_toArray rfl) (by kernel_rfl) (by kernel_rfl) (by kernel_rfl) (fun _ _ _ h => h) (Or.inl ⟨by rfl, fun W => ?_⟩) ?_
          rotate_left 1
          · (go_simp <;> (try go_bits) <;> with_reducible rfl)
          simp only [Act.put, List.setIfInBounds_toArray, List.set_cons_zero, List.set_cons_succ]
          refine wpAnyP_done (by kernel_rfl) ?_ _
          go_wp2_with fail
          rw [Exit.noGoto_normal]
          go_end0
          exact ⟨⟨_, rfl⟩, HJ.out _ _ _ HP.out (Fr.of_below (HB3.out.trans (Below.refl _ _).drew.drew))⟩
        · have hcell3 : w3.cell? ⟨Bn, 0, none⟩ = some (.slice (some ⟨g, off, none⟩) (0 + 4) 4) := (HB3.out.cell (p := ⟨Bn, 0, none⟩) HB.out.lt).trans hcell
          refine wp_region_phased (fun W => Below w3.heap.size w3 W ∧ W.cell? ⟨Bn, 0, none⟩ = some (.slice (some ⟨g, off, none⟩) (0 + 4) 4)) 6 (by kernel_rfl) ⟨(Below.refl _ _).drew, hcell3⟩ (fun hS => ?_)
          have hrd := hrd.below (Below.refl _ _).drew
          refine wpAnyP_load (v := ?_) 0 (by kernel_rfl) (at_toArray rfl) (by kernel_rfl) (by kernel_rfl) (by kernel_rfl) (fun _ _ _ h => h) (by first | assumption | rfl) (Or.inl ⟨by rfl, fun W hS => ?_⟩) ?_
          rotate_left 1
          · (obtain ⟨_, f1⟩ := hS; go_simp <;> (try go_bits) <;> with_reducible rfl)
          simp only [Act.put, List.setIfInBounds_toArray, List.set_cons_zero, List.set_cons_succ]
          refine wpAnyP_pure (v := ?_) 1 (at_toArray rfl) (by kernel_rfl) (by kernel_rfl) (by kernel_rfl) (fun _ _ _ h => h) (Or.inl ⟨by rfl, fun W => ?_⟩) ?_
          rotate_left 1
          · (go_simp <;> (try go_bits) <;> with_reducible rfl)
          simp only [Act.put, List.setIfInBounds_toArray, List.set_cons_zero, List.set_cons_succ]
          refine wpAnyP_pure (v := ?_) 2 (at_toArray rfl) (by kernel_rfl) (by kernel_rfl) (by kernel_rfl) (fun _ _ _ h => h) (Or.inl ⟨by rfl, fun W => ?_⟩) ?_
          rotate_left 1
          · (go_simp <;> (try go_bits) <;> with_reducible rfl)
          simp only [Act.put, List.setIfInBounds_toArray, List.set_cons_zero, List.set_cons_succ]
          refine wpAnyP_one 3 (at_toArray rfl) (by kernel_rfl) rfl (fun K hK => ?_)
          go_wp2_with fail
          refine (left_rd pb [] 10 _ hrd).mono ?_
          rw [show leftR [] 10 = 0 from rfl]
          rintro e w4 ⟨rfl, rfl⟩
          go_wp2_with fail
          refine hK.out _ _ (fun _ h => h) ?_
          clear hK
          refine wpAnyP_pure (v := ?_) 4 (at_toArray rfl) (by kernel_rfl) (by kernel_rfl) (by kernel_rfl) (fun _ _ _ h => h) (Or.inl ⟨by rfl, fun W => ?_⟩) ?_
          rotate_left 1
          · (go_simp <;> (try go_bits) <;> with_reducible rfl)
          simp only [Act.put, List.setIfInBounds_toArray, List.set_cons_zero, List.set_cons_succ]
          refine wpAnyP_pure (v := ?_) 5 (at_toArray rfl) (by kernel_rfl) (by kernel_rfl) (by kernel_rfl) (fun _ _ _ h => h) (Or.inl ⟨by rfl, fun W => ?_⟩) ?_
          rotate_left 1
          · (go_simp <;> (try go_bits) <;> with_reducible rfl)
          simp only [Act.put, List.setIfInBounds_toArray, List.set_cons_zero, List.set_cons_succ]
          refine wpAnyP_done (by kernel_rfl) ?_ _
          go_wp2_with fail
          refine wp_region_phased (fun W => Below w3.heap.size w3 W) 26 (by kernel_rfl) (Below.refl _ _).drew.drew (fun hS => ?_)
          have hrd := hrd.below (Below.refl _ _).drew
          refine wpAnyP_pure (v := ?_) 0 (at_toArray rfl) (by kernel_rfl) (by kernel_rfl) (by kernel_rfl) (fun _ _ _ h => h) (Or.inl ⟨by rfl, fun W => ?_⟩) ?_
          rotate_left 1
          · (go_simp <;> (try go_bits) <;> with_reducible rfl)
          simp only [Act.put, List.setIfInBounds_toArray, List.set_cons_zero, List.set_cons_succ]
          refine wpAnyP_one 1 (at_toArray rfl) (by kernel_rfl) rfl (fun K hK => ?_)
          go_wp2_with fail
          refine (err_any pb [] 10 _ hrd).mono ?_
          rintro e w5 ⟨rfl, rfl⟩
          go_wp2_with fail
          refine hK.out _ _ (fun _ h => h) ?_
          clear hK
          refine wpAnyP_pure (v := ?_) 2 (at_toArray rfl) (by kernel_rfl) (by kernel_rfl) (by kernel_rfl) (fun _ _ _ h => h) (Or.inl ⟨by rfl, fun W => ?_⟩) ?_
          rotate_left 1
          · (go_simp <;> (try go_bits) <;> with_reducible rfl)
          simp only [Act.put, List.setIfInBounds_toArray, List.set_cons_zero, List.set_cons_succ]
          refine wpAnyP_pure (v := ?_) 3 (at_toArray rfl) (by kernel_rfl) (by kernel_rfl) (by kernel_rfl) (fun _ _ _ h => h) (Or.inl ⟨by rfl, fun W => ?_⟩) ?_
          rotate_left 1
          · (go_simp <;> (try go_bits) <;> with_reducible rfl)
          simp only [Act.put, List.setIfInBounds_toArray, List.set_cons_zero, List.set_cons_succ]
          refine wpAnyP_pure 4 (at_toArray rfl) (by kernel_rfl) (by kernel_rfl) (by kernel_rfl) (fun _ _ _ h => h) (Or.inr ⟨by rfl, rfl⟩) ?_
          simp only [Act.put, List.setIfInBounds_toArray, List.set_cons_zero, List.set_cons_succ]
          refine wpAnyP_pure 5 (at_toArray rfl) (by kernel_rfl) (by kernel_rfl) (by kernel_rfl) (fun _ _ _ h => h) (Or.inr ⟨by rfl, rfl⟩) ?_
          simp only [Act.put, List.setIfInBounds_toArray, List.set_cons_zero, List.set_cons_succ]
          refine wpAnyP_pure 6 (at_toArray rfl) (by kernel_rfl) (by kernel_rfl) (by kernel_rfl) (fun _ _ _ h => h) (Or.inr ⟨by rfl, rfl⟩) ?_
          simp only [Act.put, List.setIfInBounds_toArray, List.set_cons_zero, List.set_cons_succ]
          refine wpAnyP_pure 7 (at_toArray rfl) (by kernel_rfl) (by kernel_rfl) (by kernel_rfl) (fun _ _ _ h => h) (Or.inr ⟨by rfl, rfl⟩) ?_
          simp only [Act.put, List.setIfInBounds_toArray, List.set_cons_zero, List.set_cons_succ]
          refine wpAnyP_pure 8 (at_toArray rfl) (by kernel_rfl) (by kernel_rfl) (by kernel_rfl) (fun _ _ _ h => h) (Or.inr ⟨by rfl, rfl⟩) ?_
          simp only [Act.put, List.setIfInBounds_toArray, List.set_cons_zero, List.set_cons_succ]
          refine wpAnyP_pure 9 (at_toArray rfl) (by kernel_rfl) (by kernel_rfl) (by kernel_rfl) (fun _ _ _ h => h) (Or.inr ⟨by rfl, rfl⟩) ?_
          simp only [Act.put, List.setIfInBounds_toArray, List.set_cons_zero, List.set_cons_succ]
          refine wpAnyP_pure 10 (at_toArray rfl) (by kernel_rfl) (by kernel_rfl) (by kernel_rfl) (fun _ _ _ h => h) (Or.inr ⟨by rfl, rfl⟩) ?_
          simp only [Act.put, List.setIfInBounds_toArray, List.set_cons_zero, List.set_cons_succ]
          refine wpAnyP_pure 11 (at_toArray rfl) (by kernel_rfl) (by kernel_rfl) (by kernel_rfl) (fun _ _ _ h => h) (Or.inr ⟨by rfl, rfl⟩) ?_
          simp only [Act.put, List.setIfInBounds_toArray, List.set_cons_zero, List.set_cons_succ]
          refine wpAnyP_pure 12 (at_toArray rfl) (by kernel_rfl) (by kernel_rfl) (by kernel_rfl) (fun _ _ _ h => h) (Or.inr ⟨by rfl, rfl⟩) ?_
          simp only [Act.put, List.setIfInBounds_toArray, List.set_cons_zero, List.set_cons_succ]
          refine wpAnyP_pure 13 (at_toArray rfl) (by kernel_rfl) (by kernel_rfl) (by kernel_rfl) (fun _ _ _ h => h) (Or.inr ⟨by rfl, rfl⟩) ?_
          simp only [Act.put, List.setIfInBounds_toArray, List.set_cons_zero, List.set_cons_succ]
          refine wpAnyP_pure 14 (at_toArray rfl) (by kernel_rfl) (by kernel_rfl) (by kernel_rfl) (fun _ _ _ h => h) (Or.inr ⟨by rfl, rfl⟩) ?_
          simp only [Act.put, List.setIfInBounds_toArray, List.set_cons_zero, List.set_cons_succ]
          refine wpAnyP_pure 15 (at_toArray rfl) (by kernel_rfl) (by kernel_rfl) (by kernel_rfl) (fun _ _ _ h => h) (Or.inr ⟨by rfl, rfl⟩) ?_
          simp only [Act.put, List.setIfInBounds_toArray, List.set_cons_zero, List.set_cons_succ]
          refine wpAnyP_pure 16 (at_toArray rfl) (by kernel_rfl) (by kernel_rfl) (by kernel_rfl) (fun _ _ _ h => h) (Or.inr ⟨by rfl, rfl⟩) ?_
          simp only [Act.put, List.setIfInBounds_toArray, List.set_cons_zero, List.set_cons_succ]
          refine wpAnyP_pure 17 (at_toArray rfl) (by kernel_rfl) (by kernel_rfl) (by kernel_rfl) (fun _ _ _ h => h) (Or.inr ⟨by rfl, rfl⟩) ?_
          simp only [Act.put, List.setIfInBounds_toArray, List.set_cons_zero, List.set_cons_succ]
          refine wpAnyP_pure 18 (at_toArray rfl) (by kernel_rfl) (by kernel_rfl) (by kernel_rfl) (fun _ _ _ h => h) (Or.inr ⟨by rfl, rfl⟩) ?_
          simp only [Act.put, List.setIfInBounds_toArray, List.set_cons_zero, List.set_cons_succ]
          refine wpAnyP_pure 19 (at_toArray rfl) (by kernel_rfl) (by kernel_rfl) (by kernel_rfl) (fun _ _ _ h => h) (Or.inr ⟨by rfl, rfl⟩) ?_
          simp only [Act.put, List.setIfInBounds_toArray, List.set_cons_zero, List.set_cons_succ]
          refine wpAnyP_pure 20 (at_toArray rfl) (by kernel_rfl) (by kernel_rfl) (by kernel_rfl) (fun _ _ _ h => h) (Or.inr ⟨by rfl, rfl⟩) ?_
          simp only [Act.put, List.setIfInBounds_toArray, List.set_cons_zero, List.set_cons_succ]
          refine wpAnyP_pure 21 (at_toArray rfl) (by kernel_rfl) (by kernel_rfl) (by kernel_rfl) (fun _ _ _ h => h) (Or.inr ⟨by rfl, rfl⟩) ?_
          simp only [Act.put, List.setIfInBounds_toArray, List.set_cons_zero, List.set_cons_succ]
          refine wpAnyP_pure 22 (at_toArray rfl) (by kernel_rfl) (by kernel_rfl) (by kernel_rfl) (fun _ _ _ h => h) (Or.inr ⟨by rfl, rfl⟩) ?_
          simp only [Act.put, List.setIfInBounds_toArray, List.set_cons_zero, List.set_cons_succ]
          refine wpAnyP_pure 23 (at_toArray rfl) (by kernel_rfl) (by kernel_rfl) (by kernel_rfl) (fun _ _ _ h => h) (Or.inr ⟨by rfl, rfl⟩) ?_
          simp only [Act.put, List.setIfInBounds_toArray, List.set_cons_zero, List.set_cons_succ]
          refine wpAnyP_pure 24 (at_toArray rfl) (by kernel_rfl) (by kernel_rfl) (by kernel_rfl) (fun _ _ _ h => h) (Or.inr ⟨by rfl, rfl⟩) ?_
          simp only [Act.put, List.setIfInBounds_toArray, List.set_cons_zero, List.set_cons_succ]
          refine wpAnyP_pure (v := ?_) 25 (at_toArray rfl) (by kernel_rfl) (by kernel_rfl) (by kernel_rfl) (fun _ _ _ h => h) (Or.inl ⟨by rfl, fun W => ?_⟩) ?_
          rotate_left 1
          · (go_simp <;> (try go_bits) <;> with_reducible rfl)
          simp only [Act.put, List.setIfInBounds_toArray, List.set_cons_zero, List.set_cons_succ]
          refine wpAnyP_done (by kernel_rfl) ?_ _
          go_wp2_with fail
          rw [Exit.noGoto_normal]
          go_end0
          exact ⟨⟨_, rfl⟩, HJ.out _ _ _ HP.out (Fr.of_below (HB3.out.trans (Below.refl _ _).drew.drew))⟩
        · have hcell3 : w3.cell? ⟨Bn, 0, none⟩ = some (.slice (some ⟨g, off, none⟩) (0 + 4) c') := (HB3.out.cell (p := ⟨Bn, 0, none⟩) HB.out.lt).trans hcell
          refine wp_region_phased (fun W => Below w3.heap.size w3 W ∧ W.cell? ⟨Bn, 0, none⟩ = some (.slice (some ⟨g, off, none⟩) (0 + 4) c')) 6 (by kernel_rfl) ⟨(Below.refl _ _).drew, hcell3⟩ (fun hS => ?_)
          have hrd := hrd.below (Below.refl _ _).drew
          refine wpAnyP_load (v := ?_) 0 (by kernel_rfl) (at_toArray rfl) (by kernel_rfl) (by kernel_rfl) (by kernel_rfl) (fun _ _ _ h => h) (by first | assumption | rfl) (Or.inl ⟨by rfl, fun W hS => ?_⟩) ?_
          rotate_left 1
          · (obtain ⟨_, f1⟩ := hS; go_simp <;> (try go_bits) <;> with_reducible rfl)
          simp only [Act.put, List.setIfInBounds_toArray, List.set_cons_zero, List.set_cons_succ]
          refine wpAnyP_pure (v := ?_) 1 (at_toArray rfl) (by kernel_rfl) (by kernel_rfl) (by kernel_rfl) (fun _ _ _ h => h) (Or.inl ⟨by rfl, fun W => ?_⟩) ?_
          rotate_left 1
          · (go_simp <;> (try go_bits) <;> with_reducible rfl)
          simp only [Act.put, List.setIfInBounds_toArray, List.set_cons_zero, List.set_cons_succ]
          refine wpAnyP_pure (v := ?_) 2 (at_toArray rfl) (by kernel_rfl) (by kernel_rfl) (by kernel_rfl) (fun _ _ _ h => h) (Or.inl ⟨by rfl, fun W => ?_⟩) ?_
          rotate_left 1
          · (go_simp <;> (try go_bits) <;> with_reducible rfl)
          simp only [Act.put, List.setIfInBounds_toArray, List.set_cons_zero, List.set_cons_succ]
          refine wpAnyP_one 3 (at_toArray rfl) (by kernel_rfl) rfl (fun K hK => ?_)
          go_wp2_with fail
          refine (left_rd pb [] 10 _ hrd).mono ?_
          rw [show leftR [] 10 = 0 from rfl]
          rintro e w4 ⟨rfl, rfl⟩
          go_wp2_with fail
          refine hK.out _ _ (fun _ h => h) ?_
          clear hK
          refine wpAnyP_pure (v := ?_) 4 (at_toArray rfl) (by kernel_rfl) (by kernel_rfl) (by kernel_rfl) (fun _ _ _ h => h) (Or.inl ⟨by rfl, fun W => ?_⟩) ?_
          rotate_left 1
          · (go_simp <;> (try go_bits) <;> with_reducible rfl)
          simp only [Act.put, List.setIfInBounds_toArray, List.set_cons_zero, List.set_cons_succ]
          refine wpAnyP_pure (v := ?_) 5 (at_toArray rfl) (by kernel_rfl) (by kernel_rfl) (by kernel_rfl) (fun _ _ _ h => h) (Or.inl ⟨by rfl, fun W => ?_⟩) ?_
          rotate_left 1
          · (go_simp <;> (try go_bits) <;> with_reducible rfl)
          simp only [Act.put, List.setIfInBounds_toArray, List.set_cons_zero, List.set_cons_succ]
          refine wpAnyP_done (by kernel_rfl) ?_ _
          go_wp2_with fail
          refine wp_region_phased (fun W => Below w3.heap.size w3 W) 26 (by kernel_rfl) (Below.refl _ _).drew.drew (fun hS => ?_)
          have hrd := hrd.below (Below.refl _ _).drew
          refine wpAnyP_pure (v := ?_) 0 (at_toArray rfl) (by kernel_rfl) (by kernel_rfl) (by kernel_rfl) (fun _ _ _ h => h) (Or.inl ⟨by rfl, fun W => ?_⟩) ?_
          rotate_left 1
          · (go_simp <;> (try go_bits) <;> with_reducible rfl)
          simp only [Act.put, List.setIfInBounds_toArray, List.set_cons_zero, List.set_cons_succ]
          refine wpAnyP_one 1 (at_toArray rfl) (by kernel_rfl) rfl (fun K hK => ?_)
          go_wp2_with fail
          refine (err_any pb [] 10 _ hrd).mono ?_
          rintro e w5 ⟨rfl, rfl⟩
          go_wp2_with fail
          refine hK.out _ _ (fun _ h => h) ?_
          clear hK
          refine wpAnyP_pure (v := ?_) 2 (at_toArray rfl) (by kernel_rfl) (by kernel_rfl) (by kernel_rfl) (fun _ _ _ h => h) (Or.inl ⟨by rfl, fun W => ?_⟩) ?_
          rotate_left 1
          · (go_simp <;> (try go_bits) <;> with_reducible rfl)
          simp only [Act.put, List.setIfInBounds_toArray, List.set_cons_zero, List.set_cons_succ]
          refine wpAnyP_pure (v := ?_) 3 (at_toArray rfl) (by kernel_rfl) (by kernel_rfl) (by kernel_rfl) (fun _ _ _ h => h) (Or.inl ⟨by rfl, fun W => ?_⟩) ?_
          rotate_left 1
          · (go_simp <;> (try go_bits) <;> with_reducible rfl)
          simp only [Act.put, List.setIfInBounds_toArray, List.set_cons_zero, List.set_cons_succ]
          refine wpAnyP_pure 4 (at_toArray rfl) (by kernel_rfl) (by kernel_rfl) (by kernel_rfl) (fun _ _ _ h => h) (Or.inr ⟨by rfl, rfl⟩) ?_
          simp only [Act.put, List.setIfInBounds_toArray, List.set_cons_zero, List.set_cons_succ]
          refine wpAnyP_pure 5 (at_toArray rfl) (by kernel_rfl) (by kernel_rfl) (by kernel_rfl) (fun _ _ _ h => h) (Or.inr ⟨by rfl, rfl⟩) ?_
          simp only [Act.put, List.setIfInBounds_toArray, List.set_cons_zero, List.set_cons_succ]
          refine wpAnyP_pure 6 (at_toArray rfl) (by kernel_rfl) (by kernel_rfl) (by kernel_rfl) (fun _ _ _ h => h) (Or.inr ⟨by rfl, rfl⟩) ?_
          simp only [Act.put, List.setIfInBounds_toArray, List.set_cons_zero, List.set_cons_succ]
          refine wpAnyP_pure 7 (at_toArray rfl) (by kernel_rfl) (by kernel_rfl) (by kernel_rfl) (fun _ _ _ h => h) (Or.inr ⟨by rfl, rfl⟩) ?_
          simp only [Act.put, List.setIfInBounds_toArray, List.set_cons_zero, List.set_cons_succ]
          refine wpAnyP_pure 8 (at_toArray rfl) (by kernel_rfl) (by kernel_rfl) (by kernel_rfl) (fun _ _ _ h => h) (Or.inr ⟨by rfl, rfl⟩) ?_
          simp only [Act.put, List.setIfInBounds_toArray, List.set_cons_zero, List.set_cons_succ]
          refine wpAnyP_pure 9 (at_toArray rfl) (by kernel_rfl) (by kernel_rfl) (by kernel_rfl) (fun _ _ _ h => h) (Or.inr ⟨by rfl, rfl⟩) ?_
          simp only [Act.put, List.setIfInBounds_toArray, List.set_cons_zero, List.set_cons_succ]
          refine wpAnyP_pure 10 (at_toArray rfl) (by kernel_rfl) (by kernel_rfl) (by kernel_rfl) (fun _ _ _ h => h) (Or.inr ⟨by rfl, rfl⟩) ?_
          simp only [Act.put, List.setIfInBounds_toArray, List.set_cons_zero, List.set_cons_succ]
          refine wpAnyP_pure 11 (at_toArray rfl) (by kernel_rfl) (by kernel_rfl) (by kernel_rfl) (fun _ _ _ h => h) (Or.inr ⟨by rfl, rfl⟩) ?_
          simp only [Act.put, List.setIfInBounds_toArray, List.set_cons_zero, List.set_cons_succ]
          refine wpAnyP_pure 12 (at_toArray rfl) (by kernel_rfl) (by kernel_rfl) (by kernel_rfl) (fun _ _ _ h => h) (Or.inr ⟨by rfl, rfl⟩) ?_
          simp only [Act.put, List.setIfInBounds_toArray, List.set_cons_zero, List.set_cons_succ]
          refine wpAnyP_pure 13 (at_toArray rfl) (by kernel_rfl) (by kernel_rfl) (by kernel_rfl) (fun _ _ _ h => h) (Or.inr ⟨by rfl, rfl⟩) ?_
          simp only [Act.put, List.setIfInBounds_toArray, List.set_cons_zero, List.set_cons_succ]
          refine wpAnyP_pure 14 (at_toArray rfl) (by kernel_rfl) (by kernel_rfl) (by kernel_rfl) (fun _ _ _ h => h) (Or.inr ⟨by rfl, rfl⟩) ?_
          simp only [Act.put, List.setIfInBounds_toArray, List.set_cons_zero, List.set_cons_succ]
          refine wpAnyP_pure 15 (at_toArray rfl) (by kernel_rfl) (by kernel_rfl) (by kernel_rfl) (fun _ _ _ h => h) (Or.inr ⟨by rfl, rfl⟩) ?_
          simp only [Act.put, List.setIfInBounds_toArray, List.set_cons_zero, List.set_cons_succ]
          refine wpAnyP_pure 16 (at_toArray rfl) (by kernel_rfl) (by kernel_rfl) (by kernel_rfl) (fun _ _ _ h => h) (Or.inr ⟨by rfl, rfl⟩) ?_
          simp only [Act.put, List.setIfInBounds_toArray, List.set_cons_zero, List.set_cons_succ]
          refine wpAnyP_pure 17 (at_toArray rfl) (by kernel_rfl) (by kernel_rfl) (by kernel_rfl) (fun _ _ _ h => h) (Or.inr ⟨by rfl, rfl⟩) ?_
          simp only [Act.put, List.setIfInBounds_toArray, List.set_cons_zero, List.set_cons_succ]
          refine wpAnyP_pure 18 (at_toArray rfl) (by kernel_rfl) (by kernel_rfl) (by kernel_rfl) (fun _ _ _ h => h) (Or.inr ⟨by rfl, rfl⟩) ?_
          simp only [Act.put, List.setIfInBounds_toArray, List.set_cons_zero, List.set_cons_succ]
          refine wpAnyP_pure 19 (at_toArray rfl) (by kernel_rfl) (by kernel_rfl) (by kernel_rfl) (fun _ _ _ h => h) (Or.inr ⟨by rfl, rfl⟩) ?_
          simp only [Act.put, List.setIfInBounds_toArray, List.set_cons_zero, List.set_cons_succ]
          refine wpAnyP_pure 20 (at_toArray rfl) (by kernel_rfl) (by kernel_rfl) (by kernel_rfl) (fun _ _ _ h => h) (Or.inr ⟨by rfl, rfl⟩) ?_
          simp only [Act.put, List.setIfInBounds_toArray, List.set_cons_zero, List.set_cons_succ]
          refine wpAnyP_pure 21 (at_toArray rfl) (by kernel_rfl) (by kernel_rfl) (by kernel_rfl) (fun _ _ _ h => h) (Or.inr ⟨by rfl, rfl⟩) ?_
          simp only [Act.put, List.setIfInBounds_toArray, List.set_cons_zero, List.set_cons_succ]
          refine wpAnyP_pure 22 (at_toArray rfl) (by kernel_rfl) (by kernel_rfl) (by kernel_rfl) (fun _ _ _ h => h) (Or.inr ⟨by rfl, rfl⟩) ?_
          simp only [Act.put, List.setIfInBounds_toArray, List.set_cons_zero, List.set_cons_succ]
          refine wpAnyP_pure 23 (at_toArray rfl) (by kernel_rfl) (by kernel_rfl) (by kernel_rfl) (fun _ _ _ h => h) (Or.inr ⟨by rfl, rfl⟩) ?_
          simp only [Act.put, List.setIfInBounds_toArray, List.set_cons_zero, List.set_cons_succ]
          refine wpAnyP_pure 24 (at_toArray rfl) (by kernel_rfl) (by kernel_rfl) (by kernel_rfl) (fun _ _ _ h => h) (Or.inr ⟨by rfl, rfl⟩) ?_
          simp only [Act.put, List.setIfInBounds_toArray, List.set_cons_zero, List.set_cons_succ]
          refine wpAnyP_pure (v := ?_) 25 (at_toArray rfl) (by kernel_rfl) (by kernel_rfl) (by kernel_rfl) (fun _ _ _ h => h) (Or.inl ⟨by rfl, fun W => ?_⟩) ?_
          rotate_left 1
          · (go_simp <;> (try go_bits) <;> with_reducible rfl)
          simp only [Act.put, List.setIfInBounds_toArray, List.set_cons_zero, List.set_cons_succ]
          refine wpAnyP_done (by kernel_rfl) ?_ _
          go_wp2_with fail
          rw [Exit.noGoto_normal]
          go_end0
          exact ⟨⟨_, rfl⟩, HJ.out _ _ _ HP.out (Fr.of_below (HB3.out.trans (Below.refl _ _).drew.drew))⟩
      have hc4 : ¬ c' = 4 := by omega
      have hqq : q = 68 ∨ q = 71 := by omega
      rcases hqq with rfl | rfl
      · go_wp2_with fail
        refine (read_n wr.heap.size (some ⟨g, off + 4, none⟩) (c' - 4) n r4 wr HN.out.symm (Nat.le_refl _) HR4.out hlb).mono ?_
        rintro e w1 ⟨pb, rfl, hpb, hrd, hb1⟩
        have HB1 := Lib.hid hb1
        have HW1 : wr.heap.size ≤ w1.heap.size := hb1.size
        clear hb1
        go_wp2_with fail
        refine (text_any pb 4194304 r4 w1 hrd hlb).mono ?_
        obtain ⟨⟨T, b', er⟩, hT⟩ : ∃ R, R = textR 4194304 r4 := ⟨_, rfl⟩
        rw [← hT]
        rintro e w2 ⟨rfl, hd⟩
        have HT := Lib.hid hT
        have HB2 := Lib.hid (HB1.out.trans (rd_below hd.2 hpb HW1))
        have HD := Lib.hid hd
        clear hT hd hrd
        have HTl : Hid (T.length ≤ 140737488355328) := Lib.hid (by
          have h : T = (textR 4194304 r4).1 := by rw [← HT.out]
          rw [h]; unfold textR
          split
          · simp
          · split
            · simp
            · split
              · simp
              · simp only [List.length_take, List.length_drop]; omega)
        obtain ⟨w3, c3, hcv, hrT, hcT, hb3⟩ := conv_bytes w2 T HTl.out
        have HRT := Lib.hid hrT
        have HW2 : wr.heap.size ≤ w2.heap.size := HB2.out.size
        have HB3 := Lib.hid (HB2.out.trans (Below.up hb3 HW2))
        have hrd := HD.out.1.below hb3
        obtain ⟨m, hm⟩ : ∃ m, m = T.length := ⟨_, rfl⟩
        rw [← hm] at hcv hcT
        have HM := Lib.hid hm
        clear hrT hb3 hm HD
        obtain ⟨Lv, hLv⟩ : ∃ Lv, Lv = leftR b' er := ⟨_, rfl⟩
        have hLb : 0 ≤ Lv ∧ Lv ≤ (n : Int) := by
          have h := textR_len HT.out
          rw [← HN.out] at h
          rw [hLv]; unfold leftR; split <;> omega
        have hLb1 := hLb.1
        have hLb2 := hLb.2
        have HL := Lib.hid hLv
        have hcell3 : w3.cell? ⟨Bn, 0, none⟩ = some (.slice (some ⟨g, off, none⟩) (n + 4) c') := (HB3.out.cell (p := ⟨Bn, 0, none⟩) HB.out.lt).trans hcell
        clear hLb hLv
        go_wp2_with fail
        refine wp_region_phased (fun W => Below w3.heap.size w3 W ∧ W.cell? ⟨Bn, 0, none⟩ = some (.slice (some ⟨g, off, none⟩) (n + 4) c')) 6 (by kernel_rfl) ⟨(Below.refl _ _).drew, hcell3⟩ (fun hS => ?_)
        have hrd := hrd.below (Below.refl _ _).drew
        refine wpAnyP_load (v := ?_) 0 (by kernel_rfl) (at_toArray rfl) (by kernel_rfl) (by kernel_rfl) (by kernel_rfl) (fun _ _ _ h => h) (by first | assumption | rfl) (Or.inl ⟨by rfl, fun W hS => ?_⟩) ?_
        rotate_left 1
        · (obtain ⟨_, f1⟩ := hS; go_simp <;> (try go_bits) <;> with_reducible rfl)
        simp only [Act.put, List.setIfInBounds_toArray, List.set_cons_zero, List.set_cons_succ]
        refine wpAnyP_pure (v := ?_) 1 (at_toArray rfl) (by kernel_rfl) (by kernel_rfl) (by kernel_rfl) (fun _ _ _ h => h) (Or.inl ⟨by rfl, fun W => ?_⟩) ?_
        rotate_left 1
        · (go_simp <;> (try go_bits) <;> with_reducible rfl)
        simp only [Act.put, List.setIfInBounds_toArray, List.set_cons_zero, List.set_cons_succ]
        refine wpAnyP_pure (v := ?_) 2 (at_toArray rfl) (by kernel_rfl) (by kernel_rfl) (by kernel_rfl) (fun _ _ _ h => h) (Or.inl ⟨by rfl, fun W => ?_⟩) ?_
        rotate_left 1
        · (go_simp <;> (try go_bits) <;> with_reducible rfl)
        simp only [Act.put, List.setIfInBounds_toArray, List.set_cons_zero, List.set_cons_succ]
        refine wpAnyP_one 3 (at_toArray rfl) (by kernel_rfl) rfl (fun K hK => ?_)
        go_wp2_with fail
        refine (left_rd pb b' er _ hrd).mono ?_
        rw [← HL.out]
        rintro e w4 ⟨rfl, rfl⟩
        go_wp2_with fail
        refine hK.out _ _ (fun _ h => h) ?_
        clear hK
        refine wpAnyP_pure (v := ?_) 4 (at_toArray rfl) (by kernel_rfl) (by kernel_rfl) (by kernel_rfl) (fun _ _ _ h => h) (Or.inl ⟨by rfl, fun W => ?_⟩) ?_
        rotate_left 1
        · (go_simp <;> (try go_bits) <;> with_reducible rfl)
        simp only [Act.put, List.setIfInBounds_toArray, List.set_cons_zero, List.set_cons_succ]
        refine wpAnyP_pure (v := ?_) 5 (at_toArray rfl) (by kernel_rfl) (by kernel_rfl) (by kernel_rfl) (fun _ _ _ h => h) (Or.inl ⟨by rfl, fun W => ?_⟩) ?_
        rotate_left 1
        · (go_simp <;> (try go_bits) <;> with_reducible rfl)
        simp only [Act.put, List.setIfInBounds_toArray, List.set_cons_zero, List.set_cons_succ]
        refine wpAnyP_done (by kernel_rfl) ?_ _
        obtain ⟨w4, hw4⟩ : ∃ w4, w4 = w3.drew := ⟨_, rfl⟩
        have HB4 : Hid (Below wr.heap.size wr w4) := Lib.hid (by rw [hw4]; exact HB3.out.trans (Below.refl _ _).drew)
        have HRT4 : Hid (RB w4 (some ⟨w2.heap.size, 0, none⟩) T) := Lib.hid (by rw [hw4]; exact HRT.out.below (Below.refl _ _).drew)
        rw [← hw4] at hrd ⊢
        have d0 : w4.cell? ⟨Bn, 0, none⟩ = some (.slice (some ⟨g, off, none⟩) (n + 4) c') := (HB4.out.cell (p := ⟨Bn, 0, none⟩) HB.out.lt).trans hcell
        have d1 : w4.cell? ⟨g, off, none⟩ = some (.int .u8 (x0.toNat : Int)) := (HB4.out.cell (p := ⟨g, off, none⟩) hgl).trans c0
        have d2 : w4.cell? ⟨g, off + 1, none⟩ = some (.int .u8 (x1.toNat : Int)) := (HB4.out.cell (p := ⟨g, off + 1, none⟩) hgl).trans c1
        have d3 : w4.cell? ⟨g, off + 2, none⟩ = some (.int .u8 (x2.toNat : Int)) := (HB4.out.cell (p := ⟨g, off + 2, none⟩) hgl).trans c2
        clear hS hcell3 hw4 hcv HRT HB3 K HTl
        by_cases her : er = 0
        · subst her
          obtain ⟨e, hen, hbe, hf1, hf2, hf3⟩ := (first_of_text (x0 := x0) (x1 := x1) (x2 := x2) HT.out HK.out).2 rfl
          rw [← HN.out] at hen
          have hLe : (n : Int) + 4 - Lv = ((4 + e : Nat) : Int) := by
            have h1 := HL.out
            unfold leftR at h1
            rw [if_pos rfl, hbe, List.length_drop, ← HN.out] at h1
            omega
          rw [hLe]
          have HF1 := Lib.hid hf1
          have HF2 := Lib.hid hf2
          have HF3 := Lib.hid hf3
          have HBE := Lib.hid hbe
          clear hf1 hf2 hf3 hbe hLe hLb1 hLb2 HL
          have hc3 : ¬ c' = 3 := by omega
          go_wp2_with fail
          refine wp_region_phased (fun W => Below w4.heap.size w4 W ∧ W.cell? ⟨Bn, 0, none⟩ = some (.slice (some ⟨g, off, none⟩) (n + 4) c') ∧ W.cell? ⟨g, off, none⟩ = some (.int .u8 (x0.toNat : Int)) ∧ W.cell? ⟨g, off + 1, none⟩ = some (.int .u8 (x1.toNat : Int)) ∧ W.cell? ⟨g, off + 2, none⟩ = some (.int .u8 (x2.toNat : Int))) 26 (by kernel_rfl) ⟨(Below.refl _ _).drew, d0, d1, d2, d3⟩ (fun hS => ?_)
          have hrd := hrd.below (Below.refl _ _).drew
          refine wpAnyP_pure (v := ?_) 0 (at_toArray rfl) (by kernel_rfl) (by kernel_rfl) (by kernel_rfl) (fun _ _ _ h => h) (Or.inl ⟨by rfl, fun W => ?_⟩) ?_
          rotate_left 1
          · (go_simp <;> (try go_bits) <;> with_reducible rfl)
          simp only [Act.put, List.setIfInBounds_toArray, List.set_cons_zero, List.set_cons_succ]
          refine wpAnyP_one 1 (at_toArray rfl) (by kernel_rfl) rfl (fun K hK => ?_)
          go_wp2_with fail
          refine (err_any pb b' 0 _ hrd).mono ?_
          rintro e5 w5 ⟨rfl, rfl⟩
          go_wp2_with fail
          refine hK.out _ _ (fun _ h => h) ?_
          clear hK
          refine wpAnyP_pure (v := ?_) 2 (at_toArray rfl) (by kernel_rfl) (by kernel_rfl) (by kernel_rfl) (fun _ _ _ h => h) (Or.inl ⟨by rfl, fun W => ?_⟩) ?_
          rotate_left 1
          · (go_simp <;> (try go_bits) <;> with_reducible rfl)
          simp only [Act.put, List.setIfInBounds_toArray, List.set_cons_zero, List.set_cons_succ]
          refine wpAnyP_pure (v := ?_) 3 (at_toArray rfl) (by kernel_rfl) (by kernel_rfl) (by kernel_rfl) (fun _ _ _ h => h) (Or.inl ⟨by rfl, fun W => ?_⟩) ?_
          rotate_left 1
          · (go_simp <;> (try go_bits) <;> with_reducible rfl)
          simp only [Act.put, List.setIfInBounds_toArray, List.set_cons_zero, List.set_cons_succ]
          refine wpAnyP_load (v := ?_) 4 (by kernel_rfl) (at_toArray rfl) (by kernel_rfl) (by kernel_rfl) (by kernel_rfl) (fun _ _ _ h => h) (by first | assumption | rfl) (Or.inl ⟨by rfl, fun W hS => ?_⟩) ?_
          rotate_left 1
          · (obtain ⟨_, f0, f1, f2, f3⟩ := hS; go_simp <;> (try go_bits) <;> with_reducible rfl)
          simp only [Act.put, List.setIfInBounds_toArray, List.set_cons_zero, List.set_cons_succ]
          refine wpAnyP_pure (v := ?_) 5 (at_toArray rfl) (by kernel_rfl) (by kernel_rfl) (by kernel_rfl) (fun _ _ _ h => h) (Or.inl ⟨by rfl, fun W => ?_⟩) ?_
          rotate_left 1
          · (go_simp <;> (try go_bits) <;> with_reducible rfl)
          simp only [Act.put, List.setIfInBounds_toArray, List.set_cons_zero, List.set_cons_succ]
          refine wpAnyP_pure (v := ?_) 6 (at_toArray rfl) (by kernel_rfl) (by kernel_rfl) (by kernel_rfl) (fun _ _ _ h => h) (Or.inl ⟨by rfl, fun W => ?_⟩) ?_
          rotate_left 1
          · (go_simp <;> (try go_bits) <;> (rw [if_pos ⟨by omega, by omega⟩, if_pos (by omega)]) <;> with_reducible rfl)
          simp only [Act.put, List.setIfInBounds_toArray, List.set_cons_zero, List.set_cons_succ]
          refine wpAnyP_load (v := ?_) 7 (by kernel_rfl) (at_toArray rfl) (by kernel_rfl) (by kernel_rfl) (by kernel_rfl) (fun _ _ _ h => h) (by first | assumption | rfl) (Or.inl ⟨by rfl, fun W hS => ?_⟩) ?_
          rotate_left 1
          · (obtain ⟨_, f0, f1, f2, f3⟩ := hS; go_simp <;> (try go_bits) <;> with_reducible rfl)
          simp only [Act.put, List.setIfInBounds_toArray, List.set_cons_zero, List.set_cons_succ]
          refine wpAnyP_pure (v := ?_) 8 (at_toArray rfl) (by kernel_rfl) (by kernel_rfl) (by kernel_rfl) (fun _ _ _ h => h) (Or.inl ⟨by rfl, fun W => ?_⟩) ?_
          rotate_left 1
          · (go_simp <;> (try go_bits) <;> (rw [if_pos (by omega)]) <;> with_reducible rfl)
          simp only [Act.put, List.setIfInBounds_toArray, List.set_cons_zero, List.set_cons_succ]
          refine wpAnyP_load (v := ?_) 9 (by kernel_rfl) (at_toArray rfl) (by kernel_rfl) (by kernel_rfl) (by kernel_rfl) (fun _ _ _ h => h) (by first | assumption | rfl) (Or.inl ⟨by rfl, fun W hS => ?_⟩) ?_
          rotate_left 1
          · (obtain ⟨_, f0, f1, f2, f3⟩ := hS; go_simp <;> (try go_bits) <;> with_reducible rfl)
          simp only [Act.put, List.setIfInBounds_toArray, List.set_cons_zero, List.set_cons_succ]
          refine wpAnyP_load (v := ?_) 10 (by kernel_rfl) (at_toArray rfl) (by kernel_rfl) (by kernel_rfl) (by kernel_rfl) (fun _ _ _ h => h) (by first | assumption | rfl) (Or.inl ⟨by rfl, fun W hS => ?_⟩) ?_
          rotate_left 1
          · (obtain ⟨_, f0, f1, f2, f3⟩ := hS; go_simp <;> (try go_bits) <;> with_reducible rfl)
          simp only [Act.put, List.setIfInBounds_toArray, List.set_cons_zero, List.set_cons_succ]
          refine wpAnyP_pure (v := ?_) 11 (at_toArray rfl) (by kernel_rfl) (by kernel_rfl) (by kernel_rfl) (fun _ _ _ h => h) (Or.inl ⟨by rfl, fun W => ?_⟩) ?_
          rotate_left 1
          · (go_simp <;> (try go_bits) <;> with_reducible rfl)
          simp only [Act.put, List.setIfInBounds_toArray, List.set_cons_zero, List.set_cons_succ]
          refine wpAnyP_load (v := ?_) 12 (by kernel_rfl) (at_toArray rfl) (by kernel_rfl) (by kernel_rfl) (by kernel_rfl) (fun _ _ _ h => h) (by first | assumption | rfl) (Or.inl ⟨by rfl, fun W hS => ?_⟩) ?_
          rotate_left 1
          · (obtain ⟨_, f0, f1, f2, f3⟩ := hS; go_simp <;> (try go_bits) <;> with_reducible rfl)
          simp only [Act.put, List.setIfInBounds_toArray, List.set_cons_zero, List.set_cons_succ]
          refine wpAnyP_pure (v := ?_) 13 (at_toArray rfl) (by kernel_rfl) (by kernel_rfl) (by kernel_rfl) (fun _ _ _ h => h) (Or.inl ⟨by rfl, fun W => ?_⟩) ?_
          rotate_left 1
          · (go_simp <;> (try go_bits) <;> (rw [if_pos (by omega)]) <;> with_reducible rfl)
          simp only [Act.put, List.setIfInBounds_toArray, List.set_cons_zero, List.set_cons_succ]
          refine wpAnyP_load (v := ?_) 14 (by kernel_rfl) (at_toArray rfl) (by kernel_rfl) (by kernel_rfl) (by kernel_rfl) (fun _ _ _ h => h) (by first | assumption | rfl) (Or.inl ⟨by rfl, fun W hS => ?_⟩) ?_
          rotate_left 1
          · (obtain ⟨_, f0, f1, f2, f3⟩ := hS; go_simp <;> (try go_bits) <;> with_reducible rfl)
          simp only [Act.put, List.setIfInBounds_toArray, List.set_cons_zero, List.set_cons_succ]
          refine wpAnyP_load (v := ?_) 15 (by kernel_rfl) (at_toArray rfl) (by kernel_rfl) (by kernel_rfl) (by kernel_rfl) (fun _ _ _ h => h) (by first | assumption | rfl) (Or.inl ⟨by rfl, fun W hS => ?_⟩) ?_
          rotate_left 1
          · (obtain ⟨_, f0, f1, f2, f3⟩ := hS; go_simp <;> (try go_bits) <;> with_reducible rfl)
          simp only [Act.put, List.setIfInBounds_toArray, List.set_cons_zero, List.set_cons_succ]
          refine wpAnyP_pure (v := ?_) 16 (at_toArray rfl) (by kernel_rfl) (by kernel_rfl) (by kernel_rfl) (fun _ _ _ h => h) (Or.inl ⟨by rfl, fun W => ?_⟩) ?_
          rotate_left 1
          · (go_simp <;> (try go_bits) <;> with_reducible rfl)
          simp only [Act.put, List.setIfInBounds_toArray, List.set_cons_zero, List.set_cons_succ]
          refine wpAnyP_pure (v := ?_) 17 (at_toArray rfl) (by kernel_rfl) (by kernel_rfl) (by kernel_rfl) (fun _ _ _ h => h) (Or.inl ⟨by rfl, fun W => ?_⟩) ?_
          rotate_left 1
          · (go_simp <;> (try go_bits) <;> with_reducible rfl)
          simp only [Act.put, List.setIfInBounds_toArray, List.set_cons_zero, List.set_cons_succ]
          refine wpAnyP_load (v := ?_) 18 (by kernel_rfl) (at_toArray rfl) (by kernel_rfl) (by kernel_rfl) (by kernel_rfl) (fun _ _ _ h => h) (by first | assumption | rfl) (Or.inl ⟨by rfl, fun W hS => ?_⟩) ?_
          rotate_left 1
          · (obtain ⟨_, f0, f1, f2, f3⟩ := hS; go_simp <;> (try go_bits) <;> with_reducible rfl)
          simp only [Act.put, List.setIfInBounds_toArray, List.set_cons_zero, List.set_cons_succ]
          refine wpAnyP_pure (v := ?_) 19 (at_toArray rfl) (by kernel_rfl) (by kernel_rfl) (by kernel_rfl) (fun _ _ _ h => h) (Or.inl ⟨by rfl, fun W => ?_⟩) ?_
          rotate_left 1
          · (go_simp <;> (try go_bits) <;> (rw [if_pos (by omega)]) <;> with_reducible rfl)
          simp only [Act.put, List.setIfInBounds_toArray, List.set_cons_zero, List.set_cons_succ]
          refine wpAnyP_load (v := ?_) 20 (by kernel_rfl) (at_toArray rfl) (by kernel_rfl) (by kernel_rfl) (by kernel_rfl) (fun _ _ _ h => h) (by first | assumption | rfl) (Or.inl ⟨by rfl, fun W hS => ?_⟩) ?_
          rotate_left 1
          · (obtain ⟨_, f0, f1, f2, f3⟩ := hS; go_simp <;> (try go_bits) <;> with_reducible rfl)
          simp only [Act.put, List.setIfInBounds_toArray, List.set_cons_zero, List.set_cons_succ]
          refine wpAnyP_load (v := ?_) 21 (by kernel_rfl) (at_toArray rfl) (by kernel_rfl) (by kernel_rfl) (by kernel_rfl) (fun _ _ _ h => h) (by first | assumption | rfl) (Or.inl ⟨by rfl, fun W hS => ?_⟩) ?_
          rotate_left 1
          · (obtain ⟨_, f0, f1, f2, f3⟩ := hS; go_simp <;> (try go_bits) <;> with_reducible rfl)
          simp only [Act.put, List.setIfInBounds_toArray, List.set_cons_zero, List.set_cons_succ]
          refine wpAnyP_pure (v := ?_) 22 (at_toArray rfl) (by kernel_rfl) (by kernel_rfl) (by kernel_rfl) (fun _ _ _ h => h) (Or.inl ⟨by rfl, fun W => ?_⟩) ?_
          rotate_left 1
          · (go_simp <;> (try go_bits) <;> with_reducible rfl)
          simp only [Act.put, List.setIfInBounds_toArray, List.set_cons_zero, List.set_cons_succ]
          refine wpAnyP_oneG 23 (at_toArray rfl) (by kernel_rfl) (by rfl) (fun K hK => ?_)
          go_wp2_with fail
          rw [or3]
          have hrf : RB w4 (some ⟨g, off + 3, none⟩) (k :: r4.take e) := ((HR.out.drop 3).take (e + 1)).below HB4.out
          have hlf : (k :: r4.take e).length = 4 + e - 3 := by rw [List.length_cons, List.length_take, ← HN.out]; omega
          refine (fits_n _ (some ⟨g, off + 3, none⟩) (c' - 3) (4 + e - 3) (k :: r4.take e) _ hlf (hrf.below (Below.refl _ _).drew)).mono ?_
          rintro e5 w5 ⟨rfl, hb5⟩
          have hb5 : Below w4.heap.size w4 w5 := (Below.refl _ _).drew.trans hb5
          have f0 := (hb5.cell (p := ⟨Bn, 0, none⟩) (Nat.lt_of_lt_of_le HB.out.lt HB4.out.size)).trans d0
          have f1 := (hb5.cell (p := ⟨g, off, none⟩) (Nat.lt_of_lt_of_le hgl HB4.out.size)).trans d1
          have f2 := (hb5.cell (p := ⟨g, off + 1, none⟩) (Nat.lt_of_lt_of_le hgl HB4.out.size)).trans d2
          have f3 := (hb5.cell (p := ⟨g, off + 2, none⟩) (Nat.lt_of_lt_of_le hgl HB4.out.size)).trans d3
          have HF := Lib.hid (show Below w4.heap.size w4 w5 ∧ w5.cell? ⟨Bn, 0, none⟩ = some (.slice (some ⟨g, off, none⟩) (n + 4) c') ∧ w5.cell? ⟨g, off, none⟩ = some (.int .u8 (x0.toNat : Int)) ∧ w5.cell? ⟨g, off + 1, none⟩ = some (.int .u8 (x1.toNat : Int)) ∧ w5.cell? ⟨g, off + 2, none⟩ = some (.int .u8 (x2.toNat : Int)) from ⟨hb5, f0, f1, f2, f3⟩)
          have HB5 := Lib.hid (HB4.out.trans (Below.up hb5 HB4.out.size))
          clear hrf hlf hb5 f1 f2 f3 d0 d1 d2 d3
          by_cases hcrc : (crcS (k :: r4.take e)).toNat = x0.toNat * 65536 + x1.toNat * 256 + x2.toNat
          · have hcb : ((((crcS (k :: r4.take e)).toNat : Nat) : Int) == ((x0.toNat * 65536 + x1.toNat * 256 + x2.toNat : Nat) : Int)) = true := by rw [hcrc]; simp
            rw [hcb]
            go_wp2_with fail
            refine hK.out _ _ (fun _ _ => HF.out) ?_
            clear hK
            refine wpAnyP_pure (v := ?_) 24 (at_toArray rfl) (by kernel_rfl) (by kernel_rfl) (by kernel_rfl) (fun _ _ _ h => h) (Or.inl ⟨by rfl, fun W => ?_⟩) ?_
            rotate_left 1
            · (go_simp <;> (try go_bits) <;> with_reducible rfl)
            simp only [Act.put, List.setIfInBounds_toArray, List.set_cons_zero, List.set_cons_succ]
            refine wpAnyP_pure (v := ?_) 25 (at_toArray rfl) (by kernel_rfl) (by kernel_rfl) (by kernel_rfl) (fun _ _ _ h => h) (Or.inl ⟨by rfl, fun W => ?_⟩) ?_
            rotate_left 1
            · (go_simp <;> (try go_bits) <;> with_reducible rfl)
            simp only [Act.put, List.setIfInBounds_toArray, List.set_cons_zero, List.set_cons_succ]
            refine wpAnyP_done (by kernel_rfl) ?_ _
            refine (by assumption : ∀ (a : Act) (w : World), Code.wp Tryz.prog (Code.cond (Operand.tmp 55) (Code.exit 0) Code.skip) _ a w → _) _ _ ?_
            refine wp_cond_false (by rfl) (wp_skip ?_)
            have HJ5 := Lib.hid (HJ.out _ _ _ HP.out (Fr.of_below HB5.out))
            have HRT5 := Lib.hid (HRT4.out.below HF.out.1)
            have hnn : ¬ (k = 71 ∧ numberP T = 0) := fun h => by have := HQ.out; rw [h.1] at this; exact absurd this (by decide)
            have hfs := framesP_some (HF3.out hcrc hnn)
            obtain ⟨fn, tmps, assign, body, hy, hR⟩ := HY.out pre k T (some ⟨w2.heap.size, 0, none⟩) c3 wr w5 HP.out HB5.out hw HRT5.out (by rw [← HM.out]; exact hcT) (fun a ha h0 => by cases ha; exact HW2) (by rw [hx, hfs]; exact ⟨framesP ((x0 :: x1 :: x2 :: k :: r4).drop (4 + e)), by simp⟩)
            rw [← HQ.out, ← HM.out, show ((68 : Nat) : Int) = 68 from rfl] at hy
            refine (by assumption : ∀ (a : Act) (w : World), Code.wp Tryz.prog (Code.seq (Code.seq (Code.region 7 _ _) _) _) _ a w → _) _ _ ?_
            refine (wpIn_wide (n := 4)).1 ?_
            clear hcb hS hrd hc3
            gi_wp2_with fail
            refine ⟨trivial, ?_⟩
            gi_wp2_with fail
            refine hR.mono ?_
            rintro e6 w6 ⟨rfl, hJ6, hf6⟩
            have HJ6 := Lib.hid hJ6
            have HF6 := Lib.hid hf6
            have hlt5 : Bn < w5.heap.size := Nat.lt_of_lt_of_le HB.out.lt HB5.out.size
            have hblk6 : Blk w6 Bn #[.slice (some ⟨g, off, none⟩) (x0 :: x1 :: x2 :: k :: r4).length c'] 35 := (HB.out.below (Below.mono HB5.out (Nat.le_refl _))).fr hf6 hG
            have hr6 : RB w6 (some ⟨g, off, none⟩) (x0 :: x1 :: x2 :: k :: r4) := (HR.out.below HB5.out).fr2 hf6 (fun a ha h0 => (HA.out a ha h0).2)
            have g0 : w6.cell? ⟨Bn, 0, none⟩ = some (.slice (some ⟨g, off, none⟩) (n + 4) c') := by rw [← hlen]; exact hblk6.cell 0
            have g1 : w6.frozen? ⟨Bn, 0, none⟩ = false := hblk6.free 0
            have HBL6 := Lib.hid hblk6
            have HR6 := Lib.hid hr6
            clear hJ6 hf6 hblk6 hr6 hy hR f0
            gi_wp2_with fail
            have hp : (if c' = 4 + e then some (⟨g, off, none⟩ : Addr) else some ⟨g, off + (4 + e), none⟩) = (if c' = 4 + e then some (⟨g, off, none⟩ : Addr) else Option.map (fun x : Addr => x.add (4 + e)) (some (⟨g, off, none⟩ : Addr))) := by
              split
              · rfl
              · simp only [Option.map_some, Addr.add]; rw [if_neg (by omega)]
            have hr7 := HR6.out.dropS (4 + e) c' (by rw [hlen]; exact hc)
            rw [← hp] at hr7
            have hp2 : ∀ a, (if c' = 4 + e then some (⟨g, off, none⟩ : Addr) else some ⟨g, off + (4 + e), none⟩) = some a → a.block = g := by
              intro a ha
              split at ha <;> cases ha <;> rfl
            obtain ⟨A7, hA7⟩ : ∃ A7, A7 = (if c' = 4 + e then some (⟨g, off, none⟩ : Addr) else some ⟨g, off + (4 + e), none⟩) := ⟨_, rfl⟩
            rw [← hA7] at hr7 hp2 ⊢
            have hl7 : ((x0 :: x1 :: x2 :: k :: r4).drop (4 + e)).length = n + 4 - (4 + e) := by rw [List.length_drop, hlen]
            have hgA := HA.out ⟨g, off, none⟩ rfl (by simp)
            have hf7 := Fr.setCell (fun k => k = Bn) w6 ⟨Bn, 0, none⟩ (.slice A7 (n + 4 - (4 + e)) (c' - (4 + e))) rfl
            have hb7 := HBL6.out.set 0 (.slice A7 (n + 4 - (4 + e)) (c' - (4 + e)))
            refine ⟨⟨pre ++ [(k, T)], (x0 :: x1 :: x2 :: k :: r4).drop (4 + e), A7, c' - (4 + e), by rw [hx, hfs]; simp, Lib.hid fun a ha _ => by rw [hp2 a ha]; exact hgA, Lib.hid (by rw [hl7]; exact hb7), Lib.hid (hr7.fr2 hf7 fun a ha _ => by rw [hp2 a ha]; exact hgA.1), by rw [hl7]; omega, by rw [hl7]; omega, Lib.hid (HJ.out _ _ _ HJ6.out hf7), Nat.le_trans hw (Nat.le_trans HB5.out.size (Nat.le_trans HF6.out.size hf7.size))⟩, ?_⟩
            have e7 : (w6.setCell ⟨Bn, 0, none⟩ (.slice A7 (n + 4 - (4 + e)) (c' - (4 + e)))).cell? ⟨Bn, 0, none⟩ = some (.slice A7 (n + 4 - (4 + e)) (c' - (4 + e))) := by
              rw [hb7.cell 0]; rfl
            unfold cellLen
            rw [e7, hcell]
            show n + 4 - (4 + e) < n + 4
            omega
          · have hcb : ((((crcS (k :: r4.take e)).toNat : Nat) : Int) == ((x0.toNat * 65536 + x1.toNat * 256 + x2.toNat : Nat) : Int)) = false := by
              simp only [beq_eq_false_iff_ne, ne_eq]
              omega
            have hf : framesP (x0 :: x1 :: x2 :: k :: r4) = [] := framesP_none (HF1.out hcrc)
            rw [hf, List.append_nil] at hx
            subst hx
            rw [hcb]
            go_wp2_with fail
            refine hK.out _ _ (fun _ _ => HF.out) ?_
            clear hK
            refine wpAnyP_pure (v := ?_) 24 (at_toArray rfl) (by kernel_rfl) (by kernel_rfl) (by kernel_rfl) (fun _ _ _ h => h) (Or.inl ⟨by rfl, fun W => ?_⟩) ?_
            rotate_left 1
            · (go_simp <;> (try go_bits) <;> with_reducible rfl)
            simp only [Act.put, List.setIfInBounds_toArray, List.set_cons_zero, List.set_cons_succ]
            refine wpAnyP_pure (v := ?_) 25 (at_toArray rfl) (by kernel_rfl) (by kernel_rfl) (by kernel_rfl) (fun _ _ _ h => h) (Or.inl ⟨by rfl, fun W => ?_⟩) ?_
            rotate_left 1
            · (go_simp <;> (try go_bits) <;> with_reducible rfl)
            simp only [Act.put, List.setIfInBounds_toArray, List.set_cons_zero, List.set_cons_succ]
            refine wpAnyP_done (by kernel_rfl) ?_ _
            go_wp2_with fail
            rw [Exit.noGoto_normal]
            go_end0
            exact ⟨⟨_, rfl⟩, HJ.out _ _ _ HP.out (Fr.of_below HB5.out)⟩
        · have hf : framesP (x0 :: x1 :: x2 :: k :: r4) = [] := framesP_none ((first_of_text HT.out HK.out).1 her)
          rw [hf, List.append_nil] at hx
          subst hx
          have her' : (er != 0) = true := by simp [her]
          go_wp2_with fail
          refine wp_region_phased (fun W => Below w4.heap.size w4 W) 26 (by kernel_rfl) (Below.refl _ _).drew (fun hS => ?_)
          have hrd := hrd.below (Below.refl _ _).drew
          refine wpAnyP_pure (v := ?_) 0 (at_toArray rfl) (by kernel_rfl) (by kernel_rfl) (by kernel_rfl) (fun _ _ _ h => h) (Or.inl ⟨by rfl, fun W => ?_⟩) ?_
          rotate_left 1
          · (go_simp <;> (try go_bits) <;> with_reducible rfl)
          simp only [Act.put, List.setIfInBounds_toArray, List.set_cons_zero, List.set_cons_succ]
          refine wpAnyP_one 1 (at_toArray rfl) (by kernel_rfl) rfl (fun K hK => ?_)
          go_wp2_with fail
          refine (err_any pb b' er _ hrd).mono ?_
          rintro e w5 ⟨rfl, rfl⟩
          go_wp2_with fail
          refine hK.out _ _ (fun _ h => h) ?_
          clear hK
          refine wpAnyP_pure (v := ?_) 2 (at_toArray rfl) (by kernel_rfl) (by kernel_rfl) (by kernel_rfl) (fun _ _ _ h => h) (Or.inl ⟨by rfl, fun W => ?_⟩) ?_
          rotate_left 1
          · (go_simp <;> (try go_bits) <;> with_reducible rfl)
          simp only [Act.put, List.setIfInBounds_toArray, List.set_cons_zero, List.set_cons_succ]
          refine wpAnyP_pure (v := ?_) 3 (at_toArray rfl) (by kernel_rfl) (by kernel_rfl) (by kernel_rfl) (fun _ _ _ h => h) (Or.inl ⟨by rfl, fun W => ?_⟩) ?_
          rotate_left 1
          · (go_simp <;> (try go_bits) <;> with_reducible rfl)
          simp only [Act.put, List.setIfInBounds_toArray, List.set_cons_zero, List.set_cons_succ]
          refine wpAnyP_pure 4 (at_toArray rfl) (by kernel_rfl) (by kernel_rfl) (by kernel_rfl) (fun _ _ _ h => h) (Or.inr ⟨by rfl, rfl⟩) ?_
          simp only [Act.put, List.setIfInBounds_toArray, List.set_cons_zero, List.set_cons_succ]
          refine wpAnyP_pure 5 (at_toArray rfl) (by kernel_rfl) (by kernel_rfl) (by kernel_rfl) (fun _ _ _ h => h) (Or.inr ⟨by rfl, rfl⟩) ?_
          simp only [Act.put, List.setIfInBounds_toArray, List.set_cons_zero, List.set_cons_succ]
          refine wpAnyP_pure 6 (at_toArray rfl) (by kernel_rfl) (by kernel_rfl) (by kernel_rfl) (fun _ _ _ h => h) (Or.inr ⟨by rfl, rfl⟩) ?_
          simp only [Act.put, List.setIfInBounds_toArray, List.set_cons_zero, List.set_cons_succ]
          refine wpAnyP_pure 7 (at_toArray rfl) (by kernel_rfl) (by kernel_rfl) (by kernel_rfl) (fun _ _ _ h => h) (Or.inr ⟨by rfl, rfl⟩) ?_
          simp only [Act.put, List.setIfInBounds_toArray, List.set_cons_zero, List.set_cons_succ]
          refine wpAnyP_pure 8 (at_toArray rfl) (by kernel_rfl) (by kernel_rfl) (by kernel_rfl) (fun _ _ _ h => h) (Or.inr ⟨by rfl, rfl⟩) ?_
          simp only [Act.put, List.setIfInBounds_toArray, List.set_cons_zero, List.set_cons_succ]
          refine wpAnyP_pure 9 (at_toArray rfl) (by kernel_rfl) (by kernel_rfl) (by kernel_rfl) (fun _ _ _ h => h) (Or.inr ⟨by rfl, rfl⟩) ?_
          simp only [Act.put, List.setIfInBounds_toArray, List.set_cons_zero, List.set_cons_succ]
          refine wpAnyP_pure 10 (at_toArray rfl) (by kernel_rfl) (by kernel_rfl) (by kernel_rfl) (fun _ _ _ h => h) (Or.inr ⟨by rfl, rfl⟩) ?_
          simp only [Act.put, List.setIfInBounds_toArray, List.set_cons_zero, List.set_cons_succ]
          refine wpAnyP_pure 11 (at_toArray rfl) (by kernel_rfl) (by kernel_rfl) (by kernel_rfl) (fun _ _ _ h => h) (Or.inr ⟨by rfl, rfl⟩) ?_
          simp only [Act.put, List.setIfInBounds_toArray, List.set_cons_zero, List.set_cons_succ]
          refine wpAnyP_pure 12 (at_toArray rfl) (by kernel_rfl) (by kernel_rfl) (by kernel_rfl) (fun _ _ _ h => h) (Or.inr ⟨by rfl, rfl⟩) ?_
          simp only [Act.put, List.setIfInBounds_toArray, List.set_cons_zero, List.set_cons_succ]
          refine wpAnyP_pure 13 (at_toArray rfl) (by kernel_rfl) (by kernel_rfl) (by kernel_rfl) (fun _ _ _ h => h) (Or.inr ⟨by rfl, rfl⟩) ?_
          simp only [Act.put, List.setIfInBounds_toArray, List.set_cons_zero, List.set_cons_succ]
          refine wpAnyP_pure 14 (at_toArray rfl) (by kernel_rfl) (by kernel_rfl) (by kernel_rfl) (fun _ _ _ h => h) (Or.inr ⟨by rfl, rfl⟩) ?_
          simp only [Act.put, List.setIfInBounds_toArray, List.set_cons_zero, List.set_cons_succ]
          refine wpAnyP_pure 15 (at_toArray rfl) (by kernel_rfl) (by kernel_rfl) (by kernel_rfl) (fun _ _ _ h => h) (Or.inr ⟨by rfl, rfl⟩) ?_
          simp only [Act.put, List.setIfInBounds_toArray, List.set_cons_zero, List.set_cons_succ]
          refine wpAnyP_pure 16 (at_toArray rfl) (by kernel_rfl) (by kernel_rfl) (by kernel_rfl) (fun _ _ _ h => h) (Or.inr ⟨by rfl, rfl⟩) ?_
          simp only [Act.put, List.setIfInBounds_toArray, List.set_cons_zero, List.set_cons_succ]
          refine wpAnyP_pure 17 (at_toArray rfl) (by kernel_rfl) (by kernel_rfl) (by kernel_rfl) (fun _ _ _ h => h) (Or.inr ⟨by rfl, rfl⟩) ?_
          simp only [Act.put, List.setIfInBounds_toArray, List.set_cons_zero, List.set_cons_succ]
          refine wpAnyP_pure 18 (at_toArray rfl) (by kernel_rfl) (by kernel_rfl) (by kernel_rfl) (fun _ _ _ h => h) (Or.inr ⟨by rfl, rfl⟩) ?_
          simp only [Act.put, List.setIfInBounds_toArray, List.set_cons_zero, List.set_cons_succ]
          refine wpAnyP_pure 19 (at_toArray rfl) (by kernel_rfl) (by kernel_rfl) (by kernel_rfl) (fun _ _ _ h => h) (Or.inr ⟨by rfl, rfl⟩) ?_
          simp only [Act.put, List.setIfInBounds_toArray, List.set_cons_zero, List.set_cons_succ]
          refine wpAnyP_pure 20 (at_toArray rfl) (by kernel_rfl) (by kernel_rfl) (by kernel_rfl) (fun _ _ _ h => h) (Or.inr ⟨by rfl, rfl⟩) ?_
          simp only [Act.put, List.setIfInBounds_toArray, List.set_cons_zero, List.set_cons_succ]
          refine wpAnyP_pure 21 (at_toArray rfl) (by kernel_rfl) (by kernel_rfl) (by kernel_rfl) (fun _ _ _ h => h) (Or.inr ⟨by rfl, rfl⟩) ?_
          simp only [Act.put, List.setIfInBounds_toArray, List.set_cons_zero, List.set_cons_succ]
          refine wpAnyP_pure 22 (at_toArray rfl) (by kernel_rfl) (by kernel_rfl) (by kernel_rfl) (fun _ _ _ h => h) (Or.inr ⟨by rfl, rfl⟩) ?_
          simp only [Act.put, List.setIfInBounds_toArray, List.set_cons_zero, List.set_cons_succ]
          refine wpAnyP_pure 23 (at_toArray rfl) (by kernel_rfl) (by kernel_rfl) (by kernel_rfl) (fun _ _ _ h => h) (Or.inr ⟨by rfl, rfl⟩) ?_
          simp only [Act.put, List.setIfInBounds_toArray, List.set_cons_zero, List.set_cons_succ]
          refine wpAnyP_pure 24 (at_toArray rfl) (by kernel_rfl) (by kernel_rfl) (by kernel_rfl) (fun _ _ _ h => h) (Or.inr ⟨by rfl, rfl⟩) ?_
          simp only [Act.put, List.setIfInBounds_toArray, List.set_cons_zero, List.set_cons_succ]
          refine wpAnyP_pure (v := ?_) 25 (at_toArray rfl) (by kernel_rfl) (by kernel_rfl) (by kernel_rfl) (fun _ _ _ h => h) (Or.inl ⟨by rfl, fun W => ?_⟩) ?_
          rotate_left 1
          · (go_simp <;> (try go_bits) <;> with_reducible rfl)
          simp only [Act.put, List.setIfInBounds_toArray, List.set_cons_zero, List.set_cons_succ]
          refine wpAnyP_done (by kernel_rfl) ?_ _
          go_wp2_with fail
          rw [Exit.noGoto_normal]
          go_end0
          exact ⟨⟨_, rfl⟩, HJ.out _ _ _ HP.out (Fr.of_below (HB4.out.trans (Below.refl _ _).drew))⟩
      · go_wp2_with fail
        refine (read_n wr.heap.size (some ⟨g, off + 4, none⟩) (c' - 4) n r4 wr HN.out.symm (Nat.le_refl _) HR4.out hlb).mono ?_
        rintro e w1 ⟨pb, rfl, hpb, hrd, hb1⟩
        have HB1 := Lib.hid hb1
        have HW1 : wr.heap.size ≤ w1.heap.size := hb1.size
        clear hb1
        go_wp2_with fail
        refine (text_any pb 4194304 r4 w1 hrd hlb).mono ?_
        obtain ⟨⟨T, b', er⟩, hT⟩ : ∃ R, R = textR 4194304 r4 := ⟨_, rfl⟩
        rw [← hT]
        rintro e w2 ⟨rfl, hd⟩
        have HT := Lib.hid hT
        have HB2 := Lib.hid (HB1.out.trans (rd_below hd.2 hpb HW1))
        have HD := Lib.hid hd
        clear hT hd hrd
        have HTl : Hid (T.length ≤ 140737488355328) := Lib.hid (by
          have h : T = (textR 4194304 r4).1 := by rw [← HT.out]
          rw [h]; unfold textR
          split
          · simp
          · split
            · simp
            · split
              · simp
              · simp only [List.length_take, List.length_drop]; omega)
        obtain ⟨w3, c3, hcv, hrT, hcT, hb3⟩ := conv_bytes w2 T HTl.out
        have HRT := Lib.hid hrT
        have HW2 : wr.heap.size ≤ w2.heap.size := HB2.out.size
        have HB3 := Lib.hid (HB2.out.trans (Below.up hb3 HW2))
        have hrd := HD.out.1.below hb3
        obtain ⟨m, hm⟩ : ∃ m, m = T.length := ⟨_, rfl⟩
        rw [← hm] at hcv hcT
        have HM := Lib.hid hm
        clear hrT hb3 hm HD
        obtain ⟨Lv, hLv⟩ : ∃ Lv, Lv = leftR b' er := ⟨_, rfl⟩
        have hLb : 0 ≤ Lv ∧ Lv ≤ (n : Int) := by
          have h := textR_len HT.out
          rw [← HN.out] at h
          rw [hLv]; unfold leftR; split <;> omega
        have hLb1 := hLb.1
        have hLb2 := hLb.2
        have HL := Lib.hid hLv
        have hcell3 : w3.cell? ⟨Bn, 0, none⟩ = some (.slice (some ⟨g, off, none⟩) (n + 4) c') := (HB3.out.cell (p := ⟨Bn, 0, none⟩) HB.out.lt).trans hcell
        clear hLb hLv
        go_wp2_with fail
        refine wp_region_phased (fun W => Below w3.heap.size w3 W ∧ W.cell? ⟨Bn, 0, none⟩ = some (.slice (some ⟨g, off, none⟩) (n + 4) c')) 6 (by kernel_rfl) ⟨(Below.refl _ _).drew, hcell3⟩ (fun hS => ?_)
        have hrd := hrd.below (Below.refl _ _).drew
        refine wpAnyP_load (v := ?_) 0 (by kernel_rfl) (at_toArray rfl) (by kernel_rfl) (by kernel_rfl) (by kernel_rfl) (fun _ _ _ h => h) (by first | assumption | rfl) (Or.inl ⟨by rfl, fun W hS => ?_⟩) ?_
        rotate_left 1
        · (obtain ⟨_, f1⟩ := hS; go_simp <;> (try go_bits) <;> with_reducible rfl)
        simp only [Act.put, List.setIfInBounds_toArray, List.set_cons_zero, List.set_cons_succ]
        refine wpAnyP_pure (v := ?_) 1 (at_toArray rfl) (by kernel_rfl) (by kernel_rfl) (by kernel_rfl) (fun _ _ _ h => h) (Or.inl ⟨by rfl, fun W => ?_⟩) ?_
        rotate_left 1
        · (go_simp <;> (try go_bits) <;> with_reducible rfl)
        simp only [Act.put, List.setIfInBounds_toArray, List.set_cons_zero, List.set_cons_succ]
        refine wpAnyP_pure (v := ?_) 2 (at_toArray rfl) (by kernel_rfl) (by kernel_rfl) (by kernel_rfl) (fun _ _ _ h => h) (Or.inl ⟨by rfl, fun W => ?_⟩) ?_
        rotate_left 1
        · (go_simp <;> (try go_bits) <;> with_reducible rfl)
        simp only [Act.put, List.setIfInBounds_toArray, List.set_cons_zero, List.set_cons_succ]
        refine wpAnyP_one 3 (at_toArray rfl) (by kernel_rfl) rfl (fun K hK => ?_)
        go_wp2_with fail
        refine (left_rd pb b' er _ hrd).mono ?_
        rw [← HL.out]
        rintro e w4 ⟨rfl, rfl⟩
        go_wp2_with fail
        refine hK.out _ _ (fun _ h => h) ?_
        clear hK
        refine wpAnyP_pure (v := ?_) 4 (at_toArray rfl) (by kernel_rfl) (by kernel_rfl) (by kernel_rfl) (fun _ _ _ h => h) (Or.inl ⟨by rfl, fun W => ?_⟩) ?_
        rotate_left 1
        · (go_simp <;> (try go_bits) <;> with_reducible rfl)
        simp only [Act.put, List.setIfInBounds_toArray, List.set_cons_zero, List.set_cons_succ]
        refine wpAnyP_pure (v := ?_) 5 (at_toArray rfl) (by kernel_rfl) (by kernel_rfl) (by kernel_rfl) (fun _ _ _ h => h) (Or.inl ⟨by rfl, fun W => ?_⟩) ?_
        rotate_left 1
        · (go_simp <;> (try go_bits) <;> with_reducible rfl)
        simp only [Act.put, List.setIfInBounds_toArray, List.set_cons_zero, List.set_cons_succ]
        refine wpAnyP_done (by kernel_rfl) ?_ _
        obtain ⟨w4, hw4⟩ : ∃ w4, w4 = w3.drew := ⟨_, rfl⟩
        have HB4 : Hid (Below wr.heap.size wr w4) := Lib.hid (by rw [hw4]; exact HB3.out.trans (Below.refl _ _).drew)
        have HRT4 : Hid (RB w4 (some ⟨w2.heap.size, 0, none⟩) T) := Lib.hid (by rw [hw4]; exact HRT.out.below (Below.refl _ _).drew)
        rw [← hw4] at hrd ⊢
        have d0 : w4.cell? ⟨Bn, 0, none⟩ = some (.slice (some ⟨g, off, none⟩) (n + 4) c') := (HB4.out.cell (p := ⟨Bn, 0, none⟩) HB.out.lt).trans hcell
        have d1 : w4.cell? ⟨g, off, none⟩ = some (.int .u8 (x0.toNat : Int)) := (HB4.out.cell (p := ⟨g, off, none⟩) hgl).trans c0
        have d2 : w4.cell? ⟨g, off + 1, none⟩ = some (.int .u8 (x1.toNat : Int)) := (HB4.out.cell (p := ⟨g, off + 1, none⟩) hgl).trans c1
        have d3 : w4.cell? ⟨g, off + 2, none⟩ = some (.int .u8 (x2.toNat : Int)) := (HB4.out.cell (p := ⟨g, off + 2, none⟩) hgl).trans c2
        clear hS hcell3 hw4 hcv HRT HB3 K
        by_cases her : er = 0
        · subst her
          obtain ⟨e, hen, hbe, hf1, hf2, hf3⟩ := (first_of_text (x0 := x0) (x1 := x1) (x2 := x2) HT.out HK.out).2 rfl
          rw [← HN.out] at hen
          have hLe : (n : Int) + 4 - Lv = ((4 + e : Nat) : Int) := by
            have h1 := HL.out
            unfold leftR at h1
            rw [if_pos rfl, hbe, List.length_drop, ← HN.out] at h1
            omega
          rw [hLe]
          have HF1 := Lib.hid hf1
          have HF2 := Lib.hid hf2
          have HF3 := Lib.hid hf3
          have HBE := Lib.hid hbe
          clear hf1 hf2 hf3 hbe hLe hLb1 hLb2 HL
          have hc3 : ¬ c' = 3 := by omega
          go_wp2_with fail
          refine wp_region_phased (fun W => Below w4.heap.size w4 W ∧ W.cell? ⟨Bn, 0, none⟩ = some (.slice (some ⟨g, off, none⟩) (n + 4) c') ∧ W.cell? ⟨g, off, none⟩ = some (.int .u8 (x0.toNat : Int)) ∧ W.cell? ⟨g, off + 1, none⟩ = some (.int .u8 (x1.toNat : Int)) ∧ W.cell? ⟨g, off + 2, none⟩ = some (.int .u8 (x2.toNat : Int))) 26 (by kernel_rfl) ⟨(Below.refl _ _).drew, d0, d1, d2, d3⟩ (fun hS => ?_)
          have hrd := hrd.below (Below.refl _ _).drew
          refine wpAnyP_pure (v := ?_) 0 (at_toArray rfl) (by kernel_rfl) (by kernel_rfl) (by kernel_rfl) (fun _ _ _ h => h) (Or.inl ⟨by rfl, fun W => ?_⟩) ?_
          rotate_left 1
          · (go_simp <;> (try go_bits) <;> with_reducible rfl)
          simp only [Act.put, List.setIfInBounds_toArray, List.set_cons_zero, List.set_cons_succ]
          refine wpAnyP_one 1 (at_toArray rfl) (by kernel_rfl) rfl (fun K hK => ?_)
          go_wp2_with fail
          refine (err_any pb b' 0 _ hrd).mono ?_
          rintro e5 w5 ⟨rfl, rfl⟩
          go_wp2_with fail
          refine hK.out _ _ (fun _ h => h) ?_
          clear hK
          refine wpAnyP_pure (v := ?_) 2 (at_toArray rfl) (by kernel_rfl) (by kernel_rfl) (by kernel_rfl) (fun _ _ _ h => h) (Or.inl ⟨by rfl, fun W => ?_⟩) ?_
          rotate_left 1
          · (go_simp <;> (try go_bits) <;> with_reducible rfl)
          simp only [Act.put, List.setIfInBounds_toArray, List.set_cons_zero, List.set_cons_succ]
          refine wpAnyP_pure (v := ?_) 3 (at_toArray rfl) (by kernel_rfl) (by kernel_rfl) (by kernel_rfl) (fun _ _ _ h => h) (Or.inl ⟨by rfl, fun W => ?_⟩) ?_
          rotate_left 1
          · (go_simp <;> (try go_bits) <;> with_reducible rfl)
          simp only [Act.put, List.setIfInBounds_toArray, List.set_cons_zero, List.set_cons_succ]
          refine wpAnyP_load (v := ?_) 4 (by kernel_rfl) (at_toArray rfl) (by kernel_rfl) (by kernel_rfl) (by kernel_rfl) (fun _ _ _ h => h) (by first | assumption | rfl) (Or.inl ⟨by rfl, fun W hS => ?_⟩) ?_
          rotate_left 1
          · (obtain ⟨_, f0, f1, f2, f3⟩ := hS; go_simp <;> (try go_bits) <;> with_reducible rfl)
          simp only [Act.put, List.setIfInBounds_toArray, List.set_cons_zero, List.set_cons_succ]
          refine wpAnyP_pure (v := ?_) 5 (at_toArray rfl) (by kernel_rfl) (by kernel_rfl) (by kernel_rfl) (fun _ _ _ h => h) (Or.inl ⟨by rfl, fun W => ?_⟩) ?_
          rotate_left 1
          · (go_simp <;> (try go_bits) <;> with_reducible rfl)
          simp only [Act.put, List.setIfInBounds_toArray, List.set_cons_zero, List.set_cons_succ]
          refine wpAnyP_pure (v := ?_) 6 (at_toArray rfl) (by kernel_rfl) (by kernel_rfl) (by kernel_rfl) (fun _ _ _ h => h) (Or.inl ⟨by rfl, fun W => ?_⟩) ?_
          rotate_left 1
          · (go_simp <;> (try go_bits) <;> (rw [if_pos ⟨by omega, by omega⟩, if_pos (by omega)]) <;> with_reducible rfl)
          simp only [Act.put, List.setIfInBounds_toArray, List.set_cons_zero, List.set_cons_succ]
          refine wpAnyP_load (v := ?_) 7 (by kernel_rfl) (at_toArray rfl) (by kernel_rfl) (by kernel_rfl) (by kernel_rfl) (fun _ _ _ h => h) (by first | assumption | rfl) (Or.inl ⟨by rfl, fun W hS => ?_⟩) ?_
          rotate_left 1
          · (obtain ⟨_, f0, f1, f2, f3⟩ := hS; go_simp <;> (try go_bits) <;> with_reducible rfl)
          simp only [Act.put, List.setIfInBounds_toArray, List.set_cons_zero, List.set_cons_succ]
          refine wpAnyP_pure (v := ?_) 8 (at_toArray rfl) (by kernel_rfl) (by kernel_rfl) (by kernel_rfl) (fun _ _ _ h => h) (Or.inl ⟨by rfl, fun W => ?_⟩) ?_
          rotate_left 1
          · (go_simp <;> (try go_bits) <;> (rw [if_pos (by omega)]) <;> with_reducible rfl)
          simp only [Act.put, List.setIfInBounds_toArray, List.set_cons_zero, List.set_cons_succ]
          refine wpAnyP_load (v := ?_) 9 (by kernel_rfl) (at_toArray rfl) (by kernel_rfl) (by kernel_rfl) (by kernel_rfl) (fun _ _ _ h => h) (by first | assumption | rfl) (Or.inl ⟨by rfl, fun W hS => ?_⟩) ?_
          rotate_left 1
          · (obtain ⟨_, f0, f1, f2, f3⟩ := hS; go_simp <;> (try go_bits) <;> with_reducible rfl)
          simp only [Act.put, List.setIfInBounds_toArray, List.set_cons_zero, List.set_cons_succ]
          refine wpAnyP_load (v := ?_) 10 (by kernel_rfl) (at_toArray rfl) (by kernel_rfl) (by kernel_rfl) (by kernel_rfl) (fun _ _ _ h => h) (by first | assumption | rfl) (Or.inl ⟨by rfl, fun W hS => ?_⟩) ?_
          rotate_left 1
          · (obtain ⟨_, f0, f1, f2, f3⟩ := hS; go_simp <;> (try go_bits) <;> with_reducible rfl)
          simp only [Act.put, List.setIfInBounds_toArray, List.set_cons_zero, List.set_cons_succ]
          refine wpAnyP_pure (v := ?_) 11 (at_toArray rfl) (by kernel_rfl) (by kernel_rfl) (by kernel_rfl) (fun _ _ _ h => h) (Or.inl ⟨by rfl, fun W => ?_⟩) ?_
          rotate_left 1
          · (go_simp <;> (try go_bits) <;> with_reducible rfl)
          simp only [Act.put, List.setIfInBounds_toArray, List.set_cons_zero, List.set_cons_succ]
          refine wpAnyP_load (v := ?_) 12 (by kernel_rfl) (at_toArray rfl) (by kernel_rfl) (by kernel_rfl) (by kernel_rfl) (fun _ _ _ h => h) (by first | assumption | rfl) (Or.inl ⟨by rfl, fun W hS => ?_⟩) ?_
          rotate_left 1
          · (obtain ⟨_, f0, f1, f2, f3⟩ := hS; go_simp <;> (try go_bits) <;> with_reducible rfl)
          simp only [Act.put, List.setIfInBounds_toArray, List.set_cons_zero, List.set_cons_succ]
          refine wpAnyP_pure (v := ?_) 13 (at_toArray rfl) (by kernel_rfl) (by kernel_rfl) (by kernel_rfl) (fun _ _ _ h => h) (Or.inl ⟨by rfl, fun W => ?_⟩) ?_
          rotate_left 1
          · (go_simp <;> (try go_bits) <;> (rw [if_pos (by omega)]) <;> with_reducible rfl)
          simp only [Act.put, List.setIfInBounds_toArray, List.set_cons_zero, List.set_cons_succ]
          refine wpAnyP_load (v := ?_) 14 (by kernel_rfl) (at_toArray rfl) (by kernel_rfl) (by kernel_rfl) (by kernel_rfl) (fun _ _ _ h => h) (by first | assumption | rfl) (Or.inl ⟨by rfl, fun W hS => ?_⟩) ?_
          rotate_left 1
          · (obtain ⟨_, f0, f1, f2, f3⟩ := hS; go_simp <;> (try go_bits) <;> with_reducible rfl)
          simp only [Act.put, List.setIfInBounds_toArray, List.set_cons_zero, List.set_cons_succ]
          refine wpAnyP_load (v := ?_) 15 (by kernel_rfl) (at_toArray rfl) (by kernel_rfl) (by kernel_rfl) (by kernel_rfl) (fun _ _ _ h => h) (by first | assumption | rfl) (Or.inl ⟨by rfl, fun W hS => ?_⟩) ?_
          rotate_left 1
          · (obtain ⟨_, f0, f1, f2, f3⟩ := hS; go_simp <;> (try go_bits) <;> with_reducible rfl)
          simp only [Act.put, List.setIfInBounds_toArray, List.set_cons_zero, List.set_cons_succ]
          refine wpAnyP_pure (v := ?_) 16 (at_toArray rfl) (by kernel_rfl) (by kernel_rfl) (by kernel_rfl) (fun _ _ _ h => h) (Or.inl ⟨by rfl, fun W => ?_⟩) ?_
          rotate_left 1
          · (go_simp <;> (try go_bits) <;> with_reducible rfl)
          simp only [Act.put, List.setIfInBounds_toArray, List.set_cons_zero, List.set_cons_succ]
          refine wpAnyP_pure (v := ?_) 17 (at_toArray rfl) (by kernel_rfl) (by kernel_rfl) (by kernel_rfl) (fun _ _ _ h => h) (Or.inl ⟨by rfl, fun W => ?_⟩) ?_
          rotate_left 1
          · (go_simp <;> (try go_bits) <;> with_reducible rfl)
          simp only [Act.put, List.setIfInBounds_toArray, List.set_cons_zero, List.set_cons_succ]
          refine wpAnyP_load (v := ?_) 18 (by kernel_rfl) (at_toArray rfl) (by kernel_rfl) (by kernel_rfl) (by kernel_rfl) (fun _ _ _ h => h) (by first | assumption | rfl) (Or.inl ⟨by rfl, fun W hS => ?_⟩) ?_
          rotate_left 1
          · (obtain ⟨_, f0, f1, f2, f3⟩ := hS; go_simp <;> (try go_bits) <;> with_reducible rfl)
          simp only [Act.put, List.setIfInBounds_toArray, List.set_cons_zero, List.set_cons_succ]
          refine wpAnyP_pure (v := ?_) 19 (at_toArray rfl) (by kernel_rfl) (by kernel_rfl) (by kernel_rfl) (fun _ _ _ h => h) (Or.inl ⟨by rfl, fun W => ?_⟩) ?_
          rotate_left 1
          · (go_simp <;> (try go_bits) <;> (rw [if_pos (by omega)]) <;> with_reducible rfl)
          simp only [Act.put, List.setIfInBounds_toArray, List.set_cons_zero, List.set_cons_succ]
          refine wpAnyP_load (v := ?_) 20 (by kernel_rfl) (at_toArray rfl) (by kernel_rfl) (by kernel_rfl) (by kernel_rfl) (fun _ _ _ h => h) (by first | assumption | rfl) (Or.inl ⟨by rfl, fun W hS => ?_⟩) ?_
          rotate_left 1
          · (obtain ⟨_, f0, f1, f2, f3⟩ := hS; go_simp <;> (try go_bits) <;> with_reducible rfl)
          simp only [Act.put, List.setIfInBounds_toArray, List.set_cons_zero, List.set_cons_succ]
          refine wpAnyP_load (v := ?_) 21 (by kernel_rfl) (at_toArray rfl) (by kernel_rfl) (by kernel_rfl) (by kernel_rfl) (fun _ _ _ h => h) (by first | assumption | rfl) (Or.inl ⟨by rfl, fun W hS => ?_⟩) ?_
          rotate_left 1
          · (obtain ⟨_, f0, f1, f2, f3⟩ := hS; go_simp <;> (try go_bits) <;> with_reducible rfl)
          simp only [Act.put, List.setIfInBounds_toArray, List.set_cons_zero, List.set_cons_succ]
          refine wpAnyP_pure (v := ?_) 22 (at_toArray rfl) (by kernel_rfl) (by kernel_rfl) (by kernel_rfl) (fun _ _ _ h => h) (Or.inl ⟨by rfl, fun W => ?_⟩) ?_
          rotate_left 1
          · (go_simp <;> (try go_bits) <;> with_reducible rfl)
          simp only [Act.put, List.setIfInBounds_toArray, List.set_cons_zero, List.set_cons_succ]
          refine wpAnyP_oneG 23 (at_toArray rfl) (by kernel_rfl) (by rfl) (fun K hK => ?_)
          go_wp2_with fail
          rw [or3]
          have hrf : RB w4 (some ⟨g, off + 3, none⟩) (k :: r4.take e) := ((HR.out.drop 3).take (e + 1)).below HB4.out
          have hlf : (k :: r4.take e).length = 4 + e - 3 := by rw [List.length_cons, List.length_take, ← HN.out]; omega
          refine (fits_n _ (some ⟨g, off + 3, none⟩) (c' - 3) (4 + e - 3) (k :: r4.take e) _ hlf (hrf.below (Below.refl _ _).drew)).mono ?_
          rintro e5 w5 ⟨rfl, hb5⟩
          have hb5 : Below w4.heap.size w4 w5 := (Below.refl _ _).drew.trans hb5
          have f0 := (hb5.cell (p := ⟨Bn, 0, none⟩) (Nat.lt_of_lt_of_le HB.out.lt HB4.out.size)).trans d0
          have f1 := (hb5.cell (p := ⟨g, off, none⟩) (Nat.lt_of_lt_of_le hgl HB4.out.size)).trans d1
          have f2 := (hb5.cell (p := ⟨g, off + 1, none⟩) (Nat.lt_of_lt_of_le hgl HB4.out.size)).trans d2
          have f3 := (hb5.cell (p := ⟨g, off + 2, none⟩) (Nat.lt_of_lt_of_le hgl HB4.out.size)).trans d3
          have HF := Lib.hid (show Below w4.heap.size w4 w5 ∧ w5.cell? ⟨Bn, 0, none⟩ = some (.slice (some ⟨g, off, none⟩) (n + 4) c') ∧ w5.cell? ⟨g, off, none⟩ = some (.int .u8 (x0.toNat : Int)) ∧ w5.cell? ⟨g, off + 1, none⟩ = some (.int .u8 (x1.toNat : Int)) ∧ w5.cell? ⟨g, off + 2, none⟩ = some (.int .u8 (x2.toNat : Int)) from ⟨hb5, f0, f1, f2, f3⟩)
          have HB5 := Lib.hid (HB4.out.trans (Below.up hb5 HB4.out.size))
          clear hrf hlf hb5 f1 f2 f3 d0 d1 d2 d3
          by_cases hcrc : (crcS (k :: r4.take e)).toNat = x0.toNat * 65536 + x1.toNat * 256 + x2.toNat
          · have hcb : ((((crcS (k :: r4.take e)).toNat : Nat) : Int) == ((x0.toNat * 65536 + x1.toNat * 256 + x2.toNat : Nat) : Int)) = true := by rw [hcrc]; simp
            rw [hcb]
            go_wp2_with fail
            refine hK.out _ _ (fun _ _ => HF.out) ?_
            clear hK
            refine wpAnyP_pure (v := ?_) 24 (at_toArray rfl) (by kernel_rfl) (by kernel_rfl) (by kernel_rfl) (fun _ _ _ h => h) (Or.inl ⟨by rfl, fun W => ?_⟩) ?_
            rotate_left 1
            · (go_simp <;> (try go_bits) <;> with_reducible rfl)
            simp only [Act.put, List.setIfInBounds_toArray, List.set_cons_zero, List.set_cons_succ]
            refine wpAnyP_pure (v := ?_) 25 (at_toArray rfl) (by kernel_rfl) (by kernel_rfl) (by kernel_rfl) (fun _ _ _ h => h) (Or.inl ⟨by rfl, fun W => ?_⟩) ?_
            rotate_left 1
            · (go_simp <;> (try go_bits) <;> with_reducible rfl)
            simp only [Act.put, List.setIfInBounds_toArray, List.set_cons_zero, List.set_cons_succ]
            refine wpAnyP_done (by kernel_rfl) ?_ _
            refine (by assumption : ∀ (a : Act) (w : World), Code.wp Tryz.prog (Code.cond (Operand.tmp 55) (Code.exit 0) Code.skip) _ a w → _) _ _ ?_
            refine wp_cond_false (by rfl) (wp_skip ?_)
            refine (by assumption : ∀ (a : Act) (w : World), Code.wp Tryz.prog (Code.seq (Code.seq (Code.region 7 _ _) _) _) _ a w → _) _ _ ?_
            refine (wpIn_wide (n := 4)).1 ?_
            clear hcb hS hrd hc3 f0
            gi_wp2_with fail
            refine ⟨trivial, ?_⟩
            refine (callsIn_wide.2 (number_n w5.heap.size (some ⟨w2.heap.size, 0, none⟩) c3 m T w5 HM.out.symm (Nat.le_refl _) (HRT4.out.below HF.out.1) HTl.out)).mono ?_
            rintro e6 w6 ⟨rfl, hb6⟩
            have HRT6 := Lib.hid ((HRT4.out.below HF.out.1).below hb6)
            have HB6 := Lib.hid (HB5.out.trans (Below.up hb6 HB5.out.size))
            clear HB5 HF hb6
            obtain ⟨w5, hw5⟩ : ∃ w5, w5 = w6 := ⟨_, rfl⟩
            rw [← hw5] at HRT6 HB6 ⊢
            have HB5 := HB6
            have hk71 : k = 71 := UInt8.toNat_inj.1 (by rw [← HQ.out]; rfl)
            clear hw5 HB6
            by_cases hnum : numberP T = 0
            · rw [hnum]
              have hf : framesP (x0 :: x1 :: x2 :: k :: r4) = [] := framesP_none (HF2.out hk71 hnum)
              rw [hf, List.append_nil] at hx
              subst hx
              gi_wp2_with fail
              refine ⟨fun _ h => (by cases h), ?_⟩
              gi_wp2_with fail
              rw [Exit.noGoto_normal]
              go_end0
              exact ⟨⟨_, rfl⟩, HJ.out _ _ _ HP.out (Fr.of_below HB5.out)⟩
            have hnn : ¬ (k = 71 ∧ numberP T = 0) := fun h => hnum h.2
            obtain ⟨nv, hnv⟩ : ∃ nv, nv = numberP T := ⟨_, rfl⟩
            rw [← hnv] at hnum ⊢
            have hnb : (nv == 0) = false := by simp [hnum]
            clear hnv
            have HJ5 := Lib.hid (HJ.out _ _ _ HP.out (Fr.of_below HB5.out))
            have hfs := framesP_some (HF3.out hcrc hnn)
            obtain ⟨fn, tmps, assign, body, hy, hR⟩ := HY.out pre k T (some ⟨w2.heap.size, 0, none⟩) c3 wr w5 HP.out HB5.out hw HRT6.out (by rw [← HM.out]; exact hcT) (fun a ha h0 => by cases ha; exact HW2) (by rw [hx, hfs]; exact ⟨framesP ((x0 :: x1 :: x2 :: k :: r4).drop (4 + e)), by simp⟩)
            rw [← HQ.out, ← HM.out, show ((71 : Nat) : Int) = 71 from rfl] at hy
            gi_wp2_with fail
            refine hR.mono ?_
            rintro e6 w6 ⟨rfl, hJ6, hf6⟩
            have HJ6 := Lib.hid hJ6
            have HF6 := Lib.hid hf6
            have hlt5 : Bn < w5.heap.size := Nat.lt_of_lt_of_le HB.out.lt HB5.out.size
            have hblk6 : Blk w6 Bn #[.slice (some ⟨g, off, none⟩) (x0 :: x1 :: x2 :: k :: r4).length c'] 35 := (HB.out.below (Below.mono HB5.out (Nat.le_refl _))).fr hf6 hG
            have hr6 : RB w6 (some ⟨g, off, none⟩) (x0 :: x1 :: x2 :: k :: r4) := (HR.out.below HB5.out).fr2 hf6 (fun a ha h0 => (HA.out a ha h0).2)
            have g0 : w6.cell? ⟨Bn, 0, none⟩ = some (.slice (some ⟨g, off, none⟩) (n + 4) c') := by rw [← hlen]; exact hblk6.cell 0
            have g1 : w6.frozen? ⟨Bn, 0, none⟩ = false := hblk6.free 0
            have HBL6 := Lib.hid hblk6
            have HR6 := Lib.hid hr6
            clear hJ6 hf6 hblk6 hr6 hy hR
            gi_wp2_with fail
            have hp : (if c' = 4 + e then some (⟨g, off, none⟩ : Addr) else some ⟨g, off + (4 + e), none⟩) = (if c' = 4 + e then some (⟨g, off, none⟩ : Addr) else Option.map (fun x : Addr => x.add (4 + e)) (some (⟨g, off, none⟩ : Addr))) := by
              split
              · rfl
              · simp only [Option.map_some, Addr.add]; rw [if_neg (by omega)]
            have hr7 := HR6.out.dropS (4 + e) c' (by rw [hlen]; exact hc)
            rw [← hp] at hr7
            have hp2 : ∀ a, (if c' = 4 + e then some (⟨g, off, none⟩ : Addr) else some ⟨g, off + (4 + e), none⟩) = some a → a.block = g := by
              intro a ha
              split at ha <;> cases ha <;> rfl
            obtain ⟨A7, hA7⟩ : ∃ A7, A7 = (if c' = 4 + e then some (⟨g, off, none⟩ : Addr) else some ⟨g, off + (4 + e), none⟩) := ⟨_, rfl⟩
            rw [← hA7] at hr7 hp2 ⊢
            have hl7 : ((x0 :: x1 :: x2 :: k :: r4).drop (4 + e)).length = n + 4 - (4 + e) := by rw [List.length_drop, hlen]
            have hgA := HA.out ⟨g, off, none⟩ rfl (by simp)
            have hf7 := Fr.setCell (fun k => k = Bn) w6 ⟨Bn, 0, none⟩ (.slice A7 (n + 4 - (4 + e)) (c' - (4 + e))) rfl
            have hb7 := HBL6.out.set 0 (.slice A7 (n + 4 - (4 + e)) (c' - (4 + e)))
            refine ⟨⟨pre ++ [(k, T)], (x0 :: x1 :: x2 :: k :: r4).drop (4 + e), A7, c' - (4 + e), by rw [hx, hfs]; simp, Lib.hid fun a ha _ => by rw [hp2 a ha]; exact hgA, Lib.hid (by rw [hl7]; exact hb7), Lib.hid (hr7.fr2 hf7 fun a ha _ => by rw [hp2 a ha]; exact hgA.1), by rw [hl7]; omega, by rw [hl7]; omega, Lib.hid (HJ.out _ _ _ HJ6.out hf7), Nat.le_trans hw (Nat.le_trans HB5.out.size (Nat.le_trans HF6.out.size hf7.size))⟩, ?_⟩
            have e7 : (w6.setCell ⟨Bn, 0, none⟩ (.slice A7 (n + 4 - (4 + e)) (c' - (4 + e)))).cell? ⟨Bn, 0, none⟩ = some (.slice A7 (n + 4 - (4 + e)) (c' - (4 + e))) := by
              rw [hb7.cell 0]; rfl
            unfold cellLen
            rw [e7, hcell]
            show n + 4 - (4 + e) < n + 4
            omega
          · have hcb : ((((crcS (k :: r4.take e)).toNat : Nat) : Int) == ((x0.toNat * 65536 + x1.toNat * 256 + x2.toNat : Nat) : Int)) = false := by
              simp only [beq_eq_false_iff_ne, ne_eq]
              omega
            have hf : framesP (x0 :: x1 :: x2 :: k :: r4) = [] := framesP_none (HF1.out hcrc)
            rw [hf, List.append_nil] at hx
            subst hx
            rw [hcb]
            go_wp2_with fail
            refine hK.out _ _ (fun _ _ => HF.out) ?_
            clear hK
            refine wpAnyP_pure (v := ?_) 24 (at_toArray rfl) (by kernel_rfl) (by kernel_rfl) (by kernel_rfl) (fun _ _ _ h => h) (Or.inl ⟨by rfl, fun W => ?_⟩) ?_
            rotate_left 1
            · (go_simp <;> (try go_bits) <;> with_reducible rfl)
            simp only [Act.put, List.setIfInBounds_toArray, List.set_cons_zero, List.set_cons_succ]
            refine wpAnyP_pure (v := ?_) 25 (at_toArray rfl) (by kernel_rfl) (by kernel_rfl) (by kernel_rfl) (fun _ _ _ h => h) (Or.inl ⟨by rfl, fun W => ?_⟩) ?_
            rotate_left 1
            · (go_simp <;> (try go_bits) <;> with_reducible rfl)
            simp only [Act.put, List.setIfInBounds_toArray, List.set_cons_zero, List.set_cons_succ]
            refine wpAnyP_done (by kernel_rfl) ?_ _
            go_wp2_with fail
            rw [Exit.noGoto_normal]
            go_end0
            exact ⟨⟨_, rfl⟩, HJ.out _ _ _ HP.out (Fr.of_below HB5.out)⟩
        · have hf : framesP (x0 :: x1 :: x2 :: k :: r4) = [] := framesP_none ((first_of_text HT.out HK.out).1 her)
          rw [hf, List.append_nil] at hx
          subst hx
          have her' : (er != 0) = true := by simp [her]
          go_wp2_with fail
          refine wp_region_phased (fun W => Below w4.heap.size w4 W) 26 (by kernel_rfl) (Below.refl _ _).drew (fun hS => ?_)
          have hrd := hrd.below (Below.refl _ _).drew
          refine wpAnyP_pure (v := ?_) 0 (at_toArray rfl) (by kernel_rfl) (by kernel_rfl) (by kernel_rfl) (fun _ _ _ h => h) (Or.inl ⟨by rfl, fun W => ?_⟩) ?_
          rotate_left 1
          · (go_simp <;> (try go_bits) <;> with_reducible rfl)
          simp only [Act.put, List.setIfInBounds_toArray, List.set_cons_zero, List.set_cons_succ]
          refine wpAnyP_one 1 (at_toArray rfl) (by kernel_rfl) rfl (fun K hK => ?_)
          go_wp2_with fail
          refine (err_any pb b' er _ hrd).mono ?_
          rintro e w5 ⟨rfl, rfl⟩
          go_wp2_with fail
          refine hK.out _ _ (fun _ h => h) ?_
          clear hK
          refine wpAnyP_pure (v := ?_) 2 (at_toArray rfl) (by kernel_rfl) (by kernel_rfl) (by kernel_rfl) (fun _ _ _ h => h) (Or.inl ⟨by rfl, fun W => ?_⟩) ?_
          rotate_left 1
          · (go_simp <;> (try go_bits) <;> with_reducible rfl)
          simp only [Act.put, List.setIfInBounds_toArray, List.set_cons_zero, List.set_cons_succ]
          refine wpAnyP_pure (v := ?_) 3 (at_toArray rfl) (by kernel_rfl) (by kernel_rfl) (by kernel_rfl) (fun _ _ _ h => h) (Or.inl ⟨by rfl, fun W => ?_⟩) ?_
          rotate_left 1
          · (go_simp <;> (try go_bits) <;> with_reducible rfl)
          simp only [Act.put, List.setIfInBounds_toArray, List.set_cons_zero, List.set_cons_succ]
          refine wpAnyP_pure 4 (at_toArray rfl) (by kernel_rfl) (by kernel_rfl) (by kernel_rfl) (fun _ _ _ h => h) (Or.inr ⟨by rfl, rfl⟩) ?_
          simp only [Act.put, List.setIfInBounds_toArray, List.set_cons_zero, List.set_cons_succ]
          refine wpAnyP_pure 5 (at_toArray rfl) (by kernel_rfl) (by kernel_rfl) (by kernel_rfl) (fun _ _ _ h => h) (Or.inr ⟨by rfl, rfl⟩) ?_
          simp only [Act.put, List.setIfInBounds_toArray, List.set_cons_zero, List.set_cons_succ]
          refine wpAnyP_pure 6 (at_toArray rfl) (by kernel_rfl) (by kernel_rfl) (by kernel_rfl) (fun _ _ _ h => h) (Or.inr ⟨by rfl, rfl⟩) ?_
          simp only [Act.put, List.setIfInBounds_toArray, List.set_cons_zero, List.set_cons_succ]
          refine wpAnyP_pure 7 (at_toArray rfl) (by kernel_rfl) (by kernel_rfl) (by kernel_rfl) (fun _ _ _ h => h) (Or.inr ⟨by rfl, rfl⟩) ?_
          simp only [Act.put, List.setIfInBounds_toArray, List.set_cons_zero, List.set_cons_succ]
          refine wpAnyP_pure 8 (at_toArray rfl) (by kernel_rfl) (by kernel_rfl) (by kernel_rfl) (fun _ _ _ h => h) (Or.inr ⟨by rfl, rfl⟩) ?_
          simp only [Act.put, List.setIfInBounds_toArray, List.set_cons_zero, List.set_cons_succ]
          refine wpAnyP_pure 9 (at_toArray rfl) (by kernel_rfl) (by kernel_rfl) (by kernel_rfl) (fun _ _ _ h => h) (Or.inr ⟨by rfl, rfl⟩) ?_
          simp only [Act.put, List.setIfInBounds_toArray, List.set_cons_zero, List.set_cons_succ]
          refine wpAnyP_pure 10 (at_toArray rfl) (by kernel_rfl) (by kernel_rfl) (by kernel_rfl) (fun _ _ _ h => h) (Or.inr ⟨by rfl, rfl⟩) ?_
          simp only [Act.put, List.setIfInBounds_toArray, List.set_cons_zero, List.set_cons_succ]
          refine wpAnyP_pure 11 (at_toArray rfl) (by kernel_rfl) (by kernel_rfl) (by kernel_rfl) (fun _ _ _ h => h) (Or.inr ⟨by rfl, rfl⟩) ?_
          simp only [Act.put, List.setIfInBounds_toArray, List.set_cons_zero, List.set_cons_succ]
          refine wpAnyP_pure 12 (at_toArray rfl) (by kernel_rfl) (by kernel_rfl) (by kernel_rfl) (fun _ _ _ h => h) (Or.inr ⟨by rfl, rfl⟩) ?_
          simp only [Act.put, List.setIfInBounds_toArray, List.set_cons_zero, List.set_cons_succ]
          refine wpAnyP_pure 13 (at_toArray rfl) (by kernel_rfl) (by kernel_rfl) (by kernel_rfl) (fun _ _ _ h => h) (Or.inr ⟨by rfl, rfl⟩) ?_
          simp only [Act.put, List.setIfInBounds_toArray, List.set_cons_zero, List.set_cons_succ]
          refine wpAnyP_pure 14 (at_toArray rfl) (by kernel_rfl) (by kernel_rfl) (by kernel_rfl) (fun _ _ _ h => h) (Or.inr ⟨by rfl, rfl⟩) ?_
          simp only [Act.put, List.setIfInBounds_toArray, List.set_cons_zero, List.set_cons_succ]
          refine wpAnyP_pure 15 (at_toArray rfl) (by kernel_rfl) (by kernel_rfl) (by kernel_rfl) (fun _ _ _ h => h) (Or.inr ⟨by rfl, rfl⟩) ?_
          simp only [Act.put, List.setIfInBounds_toArray, List.set_cons_zero, List.set_cons_succ]
          refine wpAnyP_pure 16 (at_toArray rfl) (by kernel_rfl) (by kernel_rfl) (by kernel_rfl) (fun _ _ _ h => h) (Or.inr ⟨by rfl, rfl⟩) ?_
          simp only [Act.put, List.setIfInBounds_toArray, List.set_cons_zero, List.set_cons_succ]
          refine wpAnyP_pure 17 (at_toArray rfl) (by kernel_rfl) (by kernel_rfl) (by kernel_rfl) (fun _ _ _ h => h) (Or.inr ⟨by rfl, rfl⟩) ?_
          simp only [Act.put, List.setIfInBounds_toArray, List.set_cons_zero, List.set_cons_succ]
          refine wpAnyP_pure 18 (at_toArray rfl) (by kernel_rfl) (by kernel_rfl) (by kernel_rfl) (fun _ _ _ h => h) (Or.inr ⟨by rfl, rfl⟩) ?_
          simp only [Act.put, List.setIfInBounds_toArray, List.set_cons_zero, List.set_cons_succ]
          refine wpAnyP_pure 19 (at_toArray rfl) (by kernel_rfl) (by kernel_rfl) (by kernel_rfl) (fun _ _ _ h => h) (Or.inr ⟨by rfl, rfl⟩) ?_
          simp only [Act.put, List.setIfInBounds_toArray, List.set_cons_zero, List.set_cons_succ]
          refine wpAnyP_pure 20 (at_toArray rfl) (by kernel_rfl) (by kernel_rfl) (by kernel_rfl) (fun _ _ _ h => h) (Or.inr ⟨by rfl, rfl⟩) ?_
          simp only [Act.put, List.setIfInBounds_toArray, List.set_cons_zero, List.set_cons_succ]
          refine wpAnyP_pure 21 (at_toArray rfl) (by kernel_rfl) (by kernel_rfl) (by kernel_rfl) (fun _ _ _ h => h) (Or.inr ⟨by rfl, rfl⟩) ?_
          simp only [Act.put, List.setIfInBounds_toArray, List.set_cons_zero, List.set_cons_succ]
          refine wpAnyP_pure 22 (at_toArray rfl) (by kernel_rfl) (by kernel_rfl) (by kernel_rfl) (fun _ _ _ h => h) (Or.inr ⟨by rfl, rfl⟩) ?_
          simp only [Act.put, List.setIfInBounds_toArray, List.set_cons_zero, List.set_cons_succ]
          refine wpAnyP_pure 23 (at_toArray rfl) (by kernel_rfl) (by kernel_rfl) (by kernel_rfl) (fun _ _ _ h => h) (Or.inr ⟨by rfl, rfl⟩) ?_
          simp only [Act.put, List.setIfInBounds_toArray, List.set_cons_zero, List.set_cons_succ]
          refine wpAnyP_pure 24 (at_toArray rfl) (by kernel_rfl) (by kernel_rfl) (by kernel_rfl) (fun _ _ _ h => h) (Or.inr ⟨by rfl, rfl⟩) ?_
          simp only [Act.put, List.setIfInBounds_toArray, List.set_cons_zero, List.set_cons_succ]
          refine wpAnyP_pure (v := ?_) 25 (at_toArray rfl) (by kernel_rfl) (by kernel_rfl) (by kernel_rfl) (fun _ _ _ h => h) (Or.inl ⟨by rfl, fun W => ?_⟩) ?_
          rotate_left 1
          · (go_simp <;> (try go_bits) <;> with_reducible rfl)
          simp only [Act.put, List.setIfInBounds_toArray, List.set_cons_zero, List.set_cons_succ]
          refine wpAnyP_done (by kernel_rfl) ?_ _
          go_wp2_with fail
          rw [Exit.noGoto_normal]
          go_end0
          exact ⟨⟨_, rfl⟩, HJ.out _ _ _ HP.out (Fr.of_below (HB4.out.trans (Below.refl _ _).drew))⟩

end Go.Proofs.YtdhafdejionefaaGreat
