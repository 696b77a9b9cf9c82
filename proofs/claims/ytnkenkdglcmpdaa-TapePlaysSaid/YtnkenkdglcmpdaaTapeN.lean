/- The walk of the law TapeRefused. -/
import Derived.Test.YtnkenkdglcmpdaaTapeM
namespace Go.Proofs.Ytnkenkdglcmpdaa
set_option linter.unusedVariables false
set_option linter.unusedSimpArgs false
open Go.RowKit

/-- What holds of the tape while records are put on it. -/
structure RefT (q : Nat) (T : TS) : Prop where
  off : T.off = false
  plan : T.plan = none
  room : T.room = (q : Int)
theorem ref_append {q : Nat} {T : TS} (h : RefT q T) {n : Int} (hn : n = 0 ∨ n = 1) (ys : List UInt8) :
    (T.append n ys = (151, T) ∧ ¬ ((T.used : Int) + (ys.length : Int) ≤ (q : Int))) ∨ ∃ T', T.append n ys = (0, T') ∧ RefT q T' := by
  unfold TS.append
  have hf : faultN T.off n = 0 := by unfold faultN; rw [if_pos hn, h.off]; rfl
  rw [if_neg (by simpa using hf), h.room]
  by_cases hr : (q : Int) - (T.used : Int) < (ys.length : Int)
  · rw [if_pos hr]; exact .inl ⟨rfl, by omega⟩
  · rw [if_neg hr]
    refine .inr ⟨T.step.app n ys, ?_, ?_⟩
    · unfold TS.op; rw [h.plan]
    · have h1 := h.off
      have h2 := h.plan
      have h3 := h.room
      unfold TS.app TS.step
      split <;> exact ⟨h1, by rw [h2]; rfl, h3⟩
theorem RB.lt {w : World} {A : Option Addr} {xs : List UInt8} (h : RB w A xs) : ∀ a, A = some a → 0 < xs.length → a.block < w.heap.size := by
  intro a e hx
  obtain ⟨b, off, e', hlt, _⟩ := h.2 hx
  rw [e] at e'; cases e'; exact hlt
theorem ActV.ok.bytes {w : World} {a : ActV} (h : a.ok w) (hl : a.len ≤ 20000) : ∃ ys : List UInt8, ys.length = a.len ∧ RB w a.A ys := h.data.bytes (by omega)
theorem read_at (tb : Nat) (n : Int) (T : TS) (F : Nat → Prop) (w : World) (h : TapeR w tb T F) (k : Int) (hk : faultN T.off n = k) :
    Calls Try.prog 25 #[.pointer (some ⟨tb, 0, none⟩), .int .i64 n] w fun e w' => ∃ A c, e = .returned (.tuple #[.slice A (T.read n).length c, .int .i64 k]) ∧ RB w' A (T.read n) ∧ Below w.heap.size w w' ∧ ∀ a, A = some a → w.heap.size ≤ a.block := by
  subst hk
  refine (read_any tb n T F w h).mono ?_
  rintro e w' ⟨v, rfl, ho, hb, hown⟩
  have hl : (T.read n).length ≤ 140737488355328 := by
    obtain ⟨_, _, _, ht⟩ := h
    have := TS.read_len ht.wf n
    omega
  rcases ho.2 with ⟨rfl, h0⟩ | ⟨g, cap, cur, rfl, _⟩
  · exact ⟨none, 0, by rw [h0], ho.reads hl, hb, fun a e => by cases e⟩
  · refine ⟨some ⟨g, 0, none⟩, cap, rfl, ho.reads hl, hb, fun a e => ?_⟩
    cases e
    exact hown g rfl
theorem append_at (tb : Nat) (n : Int) (A : Option Addr) (c : Nat) (xs : List UInt8) (T : TS) (F : Nat → Prop) (w : World) (r : Int × TS) (hr : T.append n xs = r) (h : TapeR w tb T F) (hx : RB w A xs) (hA : ∀ a, A = some a → 0 < xs.length → ¬ F a.block) :
    Calls Try.prog 27 #[.pointer (some ⟨tb, 0, none⟩), .int .i64 n, .slice A xs.length c] w (Does w tb F r) := by
  subst hr
  exact append_any tb n A c xs T F w h hx hA
/-- A tape of the call's own, its blocks told. -/
structure Own (B : Nat) (w : World) (tb : Nat) (T : TS) (F : Nat → Prop) : Prop where
  tape : TapeR w tb T F
  from_ : ∀ k, F k → B ≤ k
  size : B ≤ w.heap.size
theorem Own.lt {B : Nat} {w : World} {tb : Nat} {T : TS} {F : Nat → Prop} (h : Own B w tb T F) : ∀ k, F k → k < w.heap.size := by obtain ⟨_, _, _, t⟩ := h.tape; exact t.flt
theorem Own.ok {B : Nat} {w : World} {tb : Nat} {T : TS} {F : Nat → Prop} (h : Own B w tb T F) : T.ok := by obtain ⟨_, _, _, t⟩ := h.tape; exact t.wf
theorem Own.below {B : Nat} {w w' : World} {tb : Nat} {T : TS} {F : Nat → Prop} (h : Own B w tb T F) (hb : Below w.heap.size w w') : Own B w' tb T F := ⟨h.tape.below hb, h.from_, Nat.le_trans h.size hb.size⟩
theorem Own.upd {B : Nat} {w w' : World} {tb : Nat} {T T' : TS} {F F' : Nat → Prop} (h : Own B w tb T F) (ht : TapeR w' tb T' F') (hu : Upd w w' F F') : Own B w' tb T' F' ∧ Below B w w' :=
  ⟨⟨ht, (upd_below hu h.size h.from_).2, Nat.le_trans h.size hu.fr.size⟩, (upd_below hu h.size h.from_).1⟩
theorem NewT.own {B : Nat} {w : World} {tb : Nat} {T : TS} (h : NewT B w tb T) : ∃ F, Own B w tb T F := by
  obtain ⟨h0, F, h1, h2⟩ := h
  exact ⟨F, h1, h2, h0⟩
def RefI (B : Nat) (w : World) (tb q : Nat) (wr : World) : Prop := Below B w wr ∧ ∃ T F, Own B wr tb T F ∧ RefT q T
set_option maxRecDepth 100000 in
set_option maxHeartbeats 4000000 in
theorem lawRefused (room : Int) (A : Option Addr) (c : Nat) (xs : List ActV) (w : World) (h : ActsR w A xs) (hl : xs.length ≤ 9223372036854775807) :
    Calls Try.prog 7 #[.int .i64 room, .slice A xs.length c] w fun e w' => e = .returned (.bool true) ∧ Below w.heap.size w w' := by
  obtain ⟨B, hB⟩ : ∃ B, B = w.heap.size := ⟨_, rfl⟩
  obtain ⟨m, hm⟩ : ∃ m, m = xs.length := ⟨_, rfl⟩
  rw [← hB, ← hm]
  rw [← hm] at hl
  have H := Lib.hid h
  have HM := Lib.hid hm
  have HB := Lib.hid hB
  clear h hm hB
  obtain ⟨q, hq, hqe⟩ := modq room 200 (by omega) (by omega)
  have HQ : Hid (wrap64 ((IntKind.u64.wrap room).tmod 200) = (q : Int)) := Lib.hid hqe
  clear hqe
  go_enter Try.func7, Try.ntmps7
  go_wp2_with fail
  rw [HQ.out]
  refine (made B q w HB.out.symm (by omega) (by omega)).mono ?_
  rintro e w1 ⟨tb, rfl, h1, b1⟩
  have H1 := Lib.hid h1
  have B1 := Lib.hid b1
  clear h1 b1
  go_wp2_with fail
  rw [HM.out]
  refine (light_any A c xs w1 (H.out.below (Below.up B1.out (by have := HB.out; omega))) (by rw [← HM.out]; exact hl)).mono ?_
  rintro e w2 ⟨b, rfl, hb, b2⟩
  rw [← HM.out]
  have HL := Lib.hid hb
  have H2 := Lib.hid (H1.out.below b2)
  have B2 := Lib.hid (B1.out.trans (Below.up b2 H1.out.1))
  clear hb b2 H1 B1
  cases b with
  | false =>
    go_wp2_with fail
    refine (lives_true _).mono ?_
    rintro e w3 ⟨rfl, hb⟩
    go_wp2_with fail
    go_ret
    exact ⟨rfl, B2.out.trans (Below.up hb H2.out.1)⟩
  | true =>
    have HO := Lib.hid (HL.out rfl)
    clear HL
    go_wp2_with fail
    go_loopw [37] (fun i wr => ∃ k : Nat, k ≤ m ∧ i = .int .i64 k ∧ RefI B w tb q wr) (fun i _ => m - (intOf i).toNat)
    case atStart =>
      obtain ⟨F, hF⟩ := H2.out.own
      exact ⟨0, Nat.zero_le _, rfl, B2.out, _, F, hF, rfl, rfl, rfl⟩
    case round =>
      clear H2 B2
      obtain ⟨k, hk, rfl, hbel, T, F, hT, hR⟩ := hrel
      have HT := Lib.hid hT
      have HR := Lib.hid hR
      have HBL := Lib.hid hbel
      clear hT hR hbel
      by_cases hlt : k < m
      · obtain ⟨a, ha⟩ : ∃ a, xs[k]? = some a := ⟨_, List.getElem?_eq_getElem (by rw [← HM.out]; exact hlt)⟩
        have HX : Hid (ActsR wr A xs) := Lib.hid (H.out.below (Below.up HBL.out (by have := HB.out; omega)))
        obtain ⟨b, off, rfl, hlb, hc⟩ := HX.out.cell k a ha
        have hc0 : wr.cell? ⟨b, off + k * 5, none⟩ = some (.int .i64 a.kind) := hc 0 (by omega)
        have hc1 : wr.cell? ⟨b, off + k * 5 + 1, none⟩ = some (.int .i64 a.area) := hc 1 (by omega)
        have hc2 : wr.cell? ⟨b, off + k * 5 + 2, none⟩ = some (.slice a.A a.len a.cap) := hc 2 (by omega)
        have hc3 : wr.cell? ⟨b, off + k * 5 + 3, none⟩ = some (.int .i64 a.n) := hc 3 (by omega)
        have hc4 : wr.cell? ⟨b, off + k * 5 + 4, none⟩ = some (.int .i64 a.keep) := hc 4 (by omega)
        have l1 : (k : Int) < (m : Int) := by omega
        have HA := Lib.hid ha
        clear hc ha
        go_wp2_with fail
        obtain ⟨q2, hq2, hqe2⟩ := modq a.area 2 (by omega) (by omega)
        have HQ2 : Hid (wrap64 ((IntKind.u64.wrap a.area).tmod 2) = (q2 : Int)) := Lib.hid hqe2
        have hn : (q2 : Int) = 0 ∨ (q2 : Int) = 1 := by omega
        have hf : faultN T.off (q2 : Int) = 0 := by unfold faultN; rw [if_pos hn, HR.out.off]; rfl
        have HN := Lib.hid hn
        have HF := Lib.hid hf
        clear hqe2 hn hf
        rw [HQ2.out]
        have hba : Below wr.heap.size wr (wr.alloc (.cells #[.int .i64 a.kind, .int .i64 a.area, .slice a.A a.len a.cap, .int .i64 a.n, .int .i64 a.keep] 37)) := (Below.refl _ _).alloc (Nat.le_refl _) _
        have HBK := Lib.hid (Blk.new wr #[.int .i64 a.kind, .int .i64 a.area, .slice a.A a.len a.cap, .int .i64 a.n, .int .i64 a.keep] 37)
        have HT3 := Lib.hid (HT.out.below hba)
        have HBL3 := Lib.hid (HBL.out.trans (Below.up hba HT.out.size))
        have hnl : ¬ F wr.heap.size := fun f => by have := HT.out.lt _ f; omega
        have HNL := Lib.hid hnl
        clear hba hc0 hc1 hc2 hc3 hc4 HT HBL HX hnl
        generalize wr.alloc _ = w3 at *
        obtain ⟨lb, hlb2⟩ : ∃ lb, lb = wr.heap.size := ⟨_, rfl⟩
        rw [← hlb2] at HBK HNL ⊢
        clear hlb2
        refine (read_at tb q2 T F w3 HT3.out.tape 0 HF.out).mono ?_
        rintro e w4 ⟨A1, c1, rfl, hr4, hb4, hn4⟩
        have HR4 := Lib.hid hr4
        have HT4 := Lib.hid (HT3.out.below hb4)
        have HBK4 := Lib.hid (HBK.out.below hb4)
        have HBL4 := Lib.hid (HBL3.out.trans (Below.up hb4 HT3.out.size))
        have HN4 : Hid (∀ a, A1 = some a → ¬ F a.block) := Lib.hid fun a e f => by have := hn4 a e; have := HT3.out.lt _ f; omega
        clear hr4 hb4 hn4 HT3 HBL3 HBK
        go_wp2_with fail
        refine (sure_any tb q2 T F w4 HT4.out.tape).mono ?_
        rintro e w' ⟨rfl, rfl⟩
        obtain ⟨ys, hyl, hys⟩ := (H.out.ok k a HA.out).bytes (HO.out.at k a HA.out)
        have hy20 : ys.length ≤ 20000 := by rw [hyl]; exact HO.out.at k a HA.out
        have HYL := Lib.hid hyl
        have HY := Lib.hid hys
        clear hyl hys
        rw [← HYL.out] at HBK4 ⊢
        have hd4 : w4.cell? ⟨lb, 2, none⟩ = some (.slice a.A ys.length a.cap) := HBK4.out.cell 2
        have hus : (T.used : Int) ≤ 1073741824 := by
          have h1 := HT4.out.ok.fit
          have h2 := HT4.out.ok.room
          omega
        obtain ⟨us, hus2⟩ : ∃ us : Nat, us = T.used := ⟨_, rfl⟩
        go_wp2_with fail
        rcases ref_append HR.out HN.out ys with ⟨hap, hno⟩ | ⟨T', hap, hR'⟩
        · have HAP := Lib.hid hap
          clear hap
          refine (append_at tb q2 a.A a.cap ys T F w4 _ HAP.out HT4.out.tape (HY.out.below (Below.up HBL4.out (by have := HB.out; omega))) (fun ad e hx f => by have := HY.out.lt ad e hx; have := HB.out; have := HT4.out.from_ _ f; omega)).mono ?_
          rintro e w5 ⟨rfl, F', ht5, hu5⟩
          have HR5 := Lib.hid (HR4.out.fr hu5.fr HN4.out)
          have HBK5 := Lib.hid (HBK4.out.fr hu5.fr HNL.out)
          have hT5 := HT4.out.upd ht5 hu5
          have HT5 := Lib.hid hT5.1
          have HBL5 := Lib.hid (HBL4.out.trans hT5.2)
          clear ht5 hu5 hT5 HR4 HBK4 HT4 HBL4 hd4 HN4 HNL
          go_wp2_with fail
          refine (read_at tb q2 T F' w5 HT5.out.tape 0 HF.out).mono ?_
          rintro e w6 ⟨A2, c2, rfl, hr6, hb6, _⟩
          have HT6 := Lib.hid (HT5.out.below hb6)
          have HBL6 := Lib.hid (HBL5.out.trans (Below.up hb6 HT5.out.size))
          have hd6 : w6.cell? ⟨lb, 2, none⟩ = some (.slice a.A ys.length a.cap) := (HBK5.out.below hb6).cell 2
          have hl6 := TS.read_len HT6.out.ok q2
          have hc1 := run_str (HR5.out.below hb6) (T.read q2).length c1 rfl
          have hc2 := run_str hr6 (T.read q2).length c2 rfl
          obtain ⟨str, hstr⟩ : ∃ str, str = strB (T.read q2) := ⟨_, rfl⟩
          obtain ⟨len, hlen⟩ : ∃ len, len = (T.read q2).length := ⟨_, rfl⟩
          rw [← hstr, ← hlen] at hc1 hc2
          rw [← hlen]
          have hc1' : ∀ n, Sem.run Try.prog (convert 22 9 (.slice A1 len c1)) (w6.drewN n) = .ok (.string str) (w6.drewN n) := fun n => by
            have := run_str (w := w6.drewN n) ((HR5.out.below hb6).below (⟨rfl, rfl, rfl, Nat.le_refl _, fun _ _ => rfl⟩ : Below w6.heap.size w6 (w6.drewN n))) (T.read q2).length c1 rfl
            rwa [← hstr, ← hlen] at this
          have hc2' : ∀ n, Sem.run Try.prog (convert 22 9 (.slice A2 len c2)) (w6.drewN n) = .ok (.string str) (w6.drewN n) := fun n => by
            have := run_str (w := w6.drewN n) (hr6.below (⟨rfl, rfl, rfl, Nat.le_refl _, fun _ _ => rfl⟩ : Below w6.heap.size w6 (w6.drewN n))) (T.read q2).length c2 rfl
            rwa [← hstr, ← hlen] at this
          have HC1 := Lib.hid hc1'
          have HC2 := Lib.hid hc2'
          clear hc1 hc2 hc1' hc2' hr6 hb6 HR5 HBK5 HT5 HBL5 hstr hlen hl6
          go_wp2_with fail
          refine wp_region_phased (fun W => (∃ n, W = w6.drewN n) ∧ W.cell? ⟨lb, 2, none⟩ = some (.slice a.A ys.length a.cap)) 29 (by kernel_rfl) ⟨⟨1, rfl⟩, hd6⟩ (fun hS0 => ?_)
          refine wpAnyP_pure (v := ?_) 0 (at_toArray rfl) (by kernel_rfl) (by kernel_rfl) (by kernel_rfl) (fun _ _ _ h => h) (Or.inl ⟨by rfl, fun W => ?_⟩) ?_
          rotate_left 1
          · (go_simp <;> (try go_bits) <;> with_reducible rfl)
          simp only [Act.put, List.setIfInBounds_toArray, List.set_cons_zero, List.set_cons_succ]
          refine wpAnyP_pure (v := ?_) 1 (at_toArray rfl) (by kernel_rfl) (by kernel_rfl) (by kernel_rfl) (fun _ _ _ h => h) (Or.inl ⟨by rfl, fun W => ?_⟩) ?_
          rotate_left 1
          · (go_simp <;> (try go_bits) <;> with_reducible rfl)
          simp only [Act.put, List.setIfInBounds_toArray, List.set_cons_zero, List.set_cons_succ]
          refine wpAnyP_pure (v := ?_) 2 (at_toArray rfl) (by kernel_rfl) (by kernel_rfl) (by kernel_rfl) (fun _ _ _ h => h) (Or.inl ⟨by rfl, fun W => ?_⟩) ?_
          rotate_left 1
          · (go_simp <;> (try go_bits) <;> with_reducible rfl)
          simp only [Act.put, List.setIfInBounds_toArray, List.set_cons_zero, List.set_cons_succ]
          refine wpAnyP_pure (v := ?_) 3 (at_toArray rfl) (by kernel_rfl) (by kernel_rfl) (by kernel_rfl) (fun _ _ _ h => h) (Or.inl ⟨by rfl, fun W => ?_⟩) ?_
          rotate_left 1
          · (go_simp <;> (try go_bits) <;> with_reducible rfl)
          simp only [Act.put, List.setIfInBounds_toArray, List.set_cons_zero, List.set_cons_succ]
          refine wpAnyP_load (v := ?_) 4 (by kernel_rfl) (at_toArray rfl) (by kernel_rfl) (by kernel_rfl) (by kernel_rfl) (fun _ _ _ h => h) (by assumption) (Or.inl ⟨by rfl, fun W hS => ?_⟩) ?_
          rotate_left 1
          · (obtain ⟨⟨n, rfl⟩, _⟩ := hS; have hc := HC2.out n; go_simp <;> (try go_bits) <;> with_reducible rfl)
          simp only [Act.put, List.setIfInBounds_toArray, List.set_cons_zero, List.set_cons_succ]
          refine wpAnyP_pure (v := ?_) 5 (at_toArray rfl) (by kernel_rfl) (by kernel_rfl) (by kernel_rfl) (fun _ _ _ h => h) (Or.inl ⟨by rfl, fun W => ?_⟩) ?_
          rotate_left 1
          · (go_simp <;> (try go_bits) <;> with_reducible rfl)
          simp only [Act.put, List.setIfInBounds_toArray, List.set_cons_zero, List.set_cons_succ]
          refine wpAnyP_load (v := ?_) 6 (by kernel_rfl) (at_toArray rfl) (by kernel_rfl) (by kernel_rfl) (by kernel_rfl) (fun _ _ _ h => h) (by assumption) (Or.inl ⟨by rfl, fun W hS => ?_⟩) ?_
          rotate_left 1
          · (obtain ⟨⟨n, rfl⟩, _⟩ := hS; have hc := HC1.out n; go_simp <;> (try go_bits) <;> with_reducible rfl)
          simp only [Act.put, List.setIfInBounds_toArray, List.set_cons_zero, List.set_cons_succ]
          refine wpAnyP_pure (v := ?_) 7 (at_toArray rfl) (by kernel_rfl) (by kernel_rfl) (by kernel_rfl) (fun _ _ _ h => h) (Or.inl ⟨by rfl, fun W => ?_⟩) ?_
          rotate_left 1
          · (go_simp <;> (try go_bits) <;> with_reducible rfl)
          simp only [Act.put, List.setIfInBounds_toArray, List.set_cons_zero, List.set_cons_succ]
          refine wpAnyP_pure (v := ?_) 8 (at_toArray rfl) (by kernel_rfl) (by kernel_rfl) (by kernel_rfl) (fun _ _ _ h => h) (Or.inl ⟨by rfl, fun W => ?_⟩) ?_
          rotate_left 1
          · (go_simp <;> (try go_bits) <;> with_reducible rfl)
          simp only [Act.put, List.setIfInBounds_toArray, List.set_cons_zero, List.set_cons_succ]
          refine wpAnyP_pure (v := ?_) 9 (at_toArray rfl) (by kernel_rfl) (by kernel_rfl) (by kernel_rfl) (fun _ _ _ h => h) (Or.inl ⟨by rfl, fun W => ?_⟩) ?_
          rotate_left 1
          · (go_simp <;> (try go_bits) <;> with_reducible rfl)
          simp only [Act.put, List.setIfInBounds_toArray, List.set_cons_zero, List.set_cons_succ]
          refine wpAnyP_pure (v := ?_) 10 (at_toArray rfl) (by kernel_rfl) (by kernel_rfl) (by kernel_rfl) (fun _ _ _ h => h) (Or.inl ⟨by rfl, fun W => ?_⟩) ?_
          rotate_left 1
          · (go_simp <;> (try go_bits) <;> with_reducible rfl)
          simp only [Act.put, List.setIfInBounds_toArray, List.set_cons_zero, List.set_cons_succ]
          refine wpAnyP_pure (v := ?_) 11 (at_toArray rfl) (by kernel_rfl) (by kernel_rfl) (by kernel_rfl) (fun _ _ _ h => h) (Or.inl ⟨by rfl, fun W => ?_⟩) ?_
          rotate_left 1
          · (go_simp <;> (try go_bits) <;> with_reducible rfl)
          simp only [Act.put, List.setIfInBounds_toArray, List.set_cons_zero, List.set_cons_succ]
          refine wpAnyP_pure (v := ?_) 13 (at_toArray rfl) (by kernel_rfl) (by kernel_rfl) (by kernel_rfl) (fun _ _ _ h => h) (Or.inl ⟨by rfl, fun W => ?_⟩) ?_
          rotate_left 1
          · (go_simp <;> (try go_bits) <;> with_reducible rfl)
          simp only [Act.put, List.setIfInBounds_toArray, List.set_cons_zero, List.set_cons_succ]
          refine wpAnyP_oneG 12 (at_toArray rfl) (by kernel_rfl) (by rfl) (fun K hK => ?_)
          go_wp2_with fail
          refine (sure_any tb q2 T F' _ (HT6.out.below (Below.refl _ _).drew).tape).mono ?_
          rintro e w' ⟨rfl, rfl⟩
          go_wp2_with fail
          refine hK.out _ _ (fun _ h => h) ?_
          clear hK
          refine wpAnyP_pure (v := ?_) 14 (at_toArray rfl) (by kernel_rfl) (by kernel_rfl) (by kernel_rfl) (fun _ _ _ h => h) (Or.inl ⟨by rfl, fun W => ?_⟩) ?_
          rotate_left 1
          · (go_simp <;> (try go_bits) <;> with_reducible rfl)
          simp only [Act.put, List.setIfInBounds_toArray, List.set_cons_zero, List.set_cons_succ]
          refine wpAnyP_pure (v := ?_) 15 (at_toArray rfl) (by kernel_rfl) (by kernel_rfl) (by kernel_rfl) (fun _ _ _ h => h) (Or.inl ⟨by rfl, fun W => ?_⟩) ?_
          rotate_left 1
          · (go_simp <;> (try go_bits) <;> with_reducible rfl)
          simp only [Act.put, List.setIfInBounds_toArray, List.set_cons_zero, List.set_cons_succ]
          refine wpAnyP_pure (v := ?_) 16 (at_toArray rfl) (by kernel_rfl) (by kernel_rfl) (by kernel_rfl) (fun _ _ _ h => h) (Or.inl ⟨by rfl, fun W => ?_⟩) ?_
          rotate_left 1
          · (go_simp <;> (try go_bits) <;> with_reducible rfl)
          simp only [Act.put, List.setIfInBounds_toArray, List.set_cons_zero, List.set_cons_succ]
          refine wpAnyP_pure (v := ?_) 17 (at_toArray rfl) (by kernel_rfl) (by kernel_rfl) (by kernel_rfl) (fun _ _ _ h => h) (Or.inl ⟨by rfl, fun W => ?_⟩) ?_
          rotate_left 1
          · (go_simp <;> (try go_bits) <;> with_reducible rfl)
          simp only [Act.put, List.setIfInBounds_toArray, List.set_cons_zero, List.set_cons_succ]
          refine wpAnyP_pure (v := ?_) 19 (at_toArray rfl) (by kernel_rfl) (by kernel_rfl) (by kernel_rfl) (fun _ _ _ h => h) (Or.inl ⟨by rfl, fun W => ?_⟩) ?_
          rotate_left 1
          · (go_simp <;> (try go_bits) <;> with_reducible rfl)
          simp only [Act.put, List.setIfInBounds_toArray, List.set_cons_zero, List.set_cons_succ]
          refine wpAnyP_load (v := ?_) 20 (by kernel_rfl) (at_toArray rfl) (by kernel_rfl) (by kernel_rfl) (by kernel_rfl) (fun _ _ _ h => h) (by first | assumption | rfl) (Or.inl ⟨by rfl, fun W hS => ?_⟩) ?_
          rotate_left 1
          · (obtain ⟨_, s1⟩ := hS; go_simp <;> (try go_bits) <;> with_reducible rfl)
          simp only [Act.put, List.setIfInBounds_toArray, List.set_cons_zero, List.set_cons_succ]
          refine wpAnyP_pure (v := ?_) 21 (at_toArray rfl) (by kernel_rfl) (by kernel_rfl) (by kernel_rfl) (fun _ _ _ h => h) (Or.inl ⟨by rfl, fun W => ?_⟩) ?_
          rotate_left 1
          · (go_simp <;> (try go_bits) <;> with_reducible rfl)
          simp only [Act.put, List.setIfInBounds_toArray, List.set_cons_zero, List.set_cons_succ]
          refine wpAnyP_pure (v := ?_) 23 (at_toArray rfl) (by kernel_rfl) (by kernel_rfl) (by kernel_rfl) (fun _ _ _ h => h) (Or.inl ⟨by rfl, fun W => ?_⟩) ?_
          rotate_left 1
          · (go_simp <;> (try go_bits) <;> with_reducible rfl)
          simp only [Act.put, List.setIfInBounds_toArray, List.set_cons_zero, List.set_cons_succ]
          refine wpAnyP_pure (v := ?_) 24 (at_toArray rfl) (by kernel_rfl) (by kernel_rfl) (by kernel_rfl) (fun _ _ _ h => h) (Or.inl ⟨by rfl, fun W => ?_⟩) ?_
          rotate_left 1
          · (go_simp <;> (try go_bits) <;> with_reducible rfl)
          simp only [Act.put, List.setIfInBounds_toArray, List.set_cons_zero, List.set_cons_succ]
          refine wpAnyP_pure (v := ?_) 25 (at_toArray rfl) (by kernel_rfl) (by kernel_rfl) (by kernel_rfl) (fun _ _ _ h => h) (Or.inl ⟨by rfl, fun W => ?_⟩) ?_
          rotate_left 1
          · (go_simp <;> (try go_bits) <;> with_reducible rfl)
          simp only [Act.put, List.setIfInBounds_toArray, List.set_cons_zero, List.set_cons_succ]
          refine wpAnyP_pure (v := ?_) 26 (at_toArray rfl) (by kernel_rfl) (by kernel_rfl) (by kernel_rfl) (fun _ _ _ h => h) (Or.inl ⟨by rfl, fun W => ?_⟩) ?_
          rotate_left 1
          · (go_simp <;> (try go_bits) <;> with_reducible rfl)
          simp only [Act.put, List.setIfInBounds_toArray, List.set_cons_zero, List.set_cons_succ]
          refine wpAnyP_oneG 18 (at_toArray rfl) (by kernel_rfl) (by rfl) (fun K hK => ?_)
          go_wp2_with fail
          refine (used_any tb T F' _ (HT6.out.below (Below.refl _ _).drew).tape).mono ?_
          rintro e w' ⟨rfl, rfl⟩
          go_wp2_with fail
          refine hK.out _ _ (fun _ h => h) ?_
          clear hK
          rw [HQ.out]
          refine wpAnyP_pure (v := ?_) 22 (at_toArray rfl) (by kernel_rfl) (by kernel_rfl) (by kernel_rfl) (fun _ _ _ h => h) (Or.inl ⟨by rfl, fun W => ?_⟩) ?_
          rotate_left 1
          · (go_simp <;> (try go_bits) <;> with_reducible rfl)
          simp only [Act.put, List.setIfInBounds_toArray, List.set_cons_zero, List.set_cons_succ]
          refine wpAnyP_pure (v := ?_) 27 (at_toArray rfl) (by kernel_rfl) (by kernel_rfl) (by kernel_rfl) (fun _ _ _ h => h) (Or.inl ⟨by rfl, fun W => ?_⟩) ?_
          rotate_left 1
          · (go_simp <;> (try go_bits) <;> with_reducible rfl)
          simp only [Act.put, List.setIfInBounds_toArray, List.set_cons_zero, List.set_cons_succ]
          refine wpAnyP_pure (v := ?_) 28 (at_toArray rfl) (by kernel_rfl) (by kernel_rfl) (by kernel_rfl) (fun _ _ _ h => h) (Or.inl ⟨by rfl, fun W => ?_⟩) ?_
          rotate_left 1
          · (go_simp <;> (try go_bits) <;> with_reducible rfl)
          simp only [Act.put, List.setIfInBounds_toArray, List.set_cons_zero, List.set_cons_succ]
          refine wpAnyP_done (by kernel_rfl) ?_ _
          clear hS0
          have HBL7 : Hid (Below B w w6.drew) := HBL6.out.drew
          have HT7 : Hid (Own B w6.drew tb T F') := HT6.out.below (Below.refl _ _).drew
          clear HBL6 HT6 hd6 HC1 HC2
          generalize w6.drew = w7 at *
          go_wp2_with fail
          go_roundw
          case rel => exact ⟨k + 1, by omega, by go_num, HBL7.out, T, F', HT7.out, HR.out⟩
          case measure => simp [intOf]; omega
        · have HAP := Lib.hid hap
          have HR2 := Lib.hid hR'
          clear hap hR'
          refine (append_at tb q2 a.A a.cap ys T F w4 _ HAP.out HT4.out.tape (HY.out.below (Below.up HBL4.out (by have := HB.out; omega))) (fun ad e hx f => by have := HY.out.lt ad e hx; have := HB.out; have := HT4.out.from_ _ f; omega)).mono ?_
          rintro e w5 ⟨rfl, F', ht5, hu5⟩
          have hT5 := HT4.out.upd ht5 hu5
          have HT5 := Lib.hid hT5.1
          have HBL5 := Lib.hid (HBL4.out.trans hT5.2)
          clear ht5 hu5 hT5 HR4 HBK4 HT4 HBL4 hd4 HN4 HNL
          go_wp2_with fail
          go_roundw
          case rel => exact ⟨k + 1, by omega, by go_num, HBL5.out, T', F', HT5.out, HR2.out⟩
          case measure => simp [intOf]; omega
      · obtain rfl : k = m := by omega
        have l1 : ¬ (k : Int) < (k : Int) := by omega
        go_wp2_with fail
        refine (used_any tb T F wr HT.out.tape).mono ?_
        rintro e w' ⟨rfl, rfl⟩
        go_wp2_with fail
        obtain ⟨T', hT'⟩ : ∃ T', T' = T.gone 1073741824 := ⟨_, rfl⟩
        have hfl : T.fail 1073741824 = (0, T') := by rw [hT']; unfold TS.fail; rw [HR.out.off]; rfl
        have hof : T'.off = true := by rw [hT']; rfl
        have hus : T'.used = T.used := by
          rw [hT']
          have h1 := HT.out.ok.fit
          have h2 := HT.out.ok.room
          have h3 := HT.out.ok.s0
          have h4 := HT.out.ok.s1
          show (T.b0.take (keepN T.b0 T.s0 1073741824)).length + (T.b1.take (keepN T.b1 T.s1 1073741824)).length = _
          unfold TS.used at h1 ⊢
          rw [List.length_take, List.length_take]
          unfold keepN
          omega
        have HOF := Lib.hid hof
        have HUS := Lib.hid hus
        clear hT' hof hus
        refine (fail_any tb 1073741824 T F wr HT.out.tape).mono ?_
        rw [hfl]
        rintro e w3 ⟨rfl, F', ht3, hu3⟩
        have hT3 := HT.out.upd ht3 hu3
        have HT3 := Lib.hid hT3.1
        have HBL3 := Lib.hid (HBL.out.trans hT3.2)
        clear ht3 hu3 hT3 HT HBL hfl
        go_wp2_with fail
        refine (used_any tb T' F' w3 HT3.out.tape).mono ?_
        rintro e w' ⟨rfl, rfl⟩
        rw [HUS.out]
        obtain ⟨us, hus2⟩ : ∃ us : Nat, us = T.used := ⟨_, rfl⟩
        rw [← hus2]
        have HU2 : Hid (T'.used = us) := Lib.hid (by rw [HUS.out, hus2])
        clear hus2 HUS
        go_wp2_with fail
        go_loopw [110] (fun i wr => ∃ j : Nat, j ≤ k ∧ i = .int .i64 j ∧ Hid (Below B w wr) ∧ ∃ F, Hid (Own B wr tb T' F)) (fun i _ => k - (intOf i).toNat)
        case atStart => exact ⟨0, Nat.zero_le _, rfl, HBL3, F', HT3⟩
        case round =>
          clear HT3 HBL3 l1
          obtain ⟨j, hj, rfl, HBL, F2, HT⟩ := hrel
          by_cases hlt : j < k
          · obtain ⟨a, ha⟩ : ∃ a, xs[j]? = some a := ⟨_, List.getElem?_eq_getElem (by rw [← HM.out]; exact hlt)⟩
            have HX : Hid (ActsR wr A xs) := Lib.hid (H.out.below (Below.up HBL.out (by have := HB.out; omega)))
            obtain ⟨b, off, rfl, hlb, hc⟩ := HX.out.cell j a ha
            have hc0 : wr.cell? ⟨b, off + j * 5, none⟩ = some (.int .i64 a.kind) := hc 0 (by omega)
            have hc1 : wr.cell? ⟨b, off + j * 5 + 1, none⟩ = some (.int .i64 a.area) := hc 1 (by omega)
            have hc2 : wr.cell? ⟨b, off + j * 5 + 2, none⟩ = some (.slice a.A a.len a.cap) := hc 2 (by omega)
            have hc3 : wr.cell? ⟨b, off + j * 5 + 3, none⟩ = some (.int .i64 a.n) := hc 3 (by omega)
            have hc4 : wr.cell? ⟨b, off + j * 5 + 4, none⟩ = some (.int .i64 a.keep) := hc 4 (by omega)
            have l1 : (j : Int) < (k : Int) := by omega
            have HA := Lib.hid ha
            clear hc ha
            obtain ⟨q2, hq2, hqe2⟩ := modq a.area 2 (by omega) (by omega)
            have HQ2 : Hid (wrap64 ((IntKind.u64.wrap a.area).tmod 2) = (q2 : Int)) := Lib.hid hqe2
            have hf : faultN T'.off (q2 : Int) = 150 := by unfold faultN; rw [if_pos (by omega), HOF.out]; rfl
            have HF := Lib.hid hf
            clear hqe2 hf
            obtain ⟨ys, hyl, hys⟩ := (H.out.ok j a HA.out).bytes (HO.out.at j a HA.out)
            rw [← hyl] at hc2
            have HYL := Lib.hid hyl
            have HY := Lib.hid hys
            clear hyl hys
            go_wp2_with fail
            rw [HQ2.out]
            have hba : Below wr.heap.size wr (wr.alloc (.cells #[.int .i64 a.kind, .int .i64 a.area, .slice a.A ys.length a.cap, .int .i64 a.n, .int .i64 a.keep] 37)) := (Below.refl _ _).alloc (Nat.le_refl _) _
            have HT3 := Lib.hid (HT.out.below hba)
            have HBL3 := Lib.hid (HBL.out.trans (Below.up hba HT.out.size))
            clear hba hc0 hc1 hc2 hc3 hc4 HT HBL HX
            generalize wr.alloc _ = w3 at *
            have hap : T'.append q2 ys = (150, T') := by unfold TS.append; rw [HF.out]; rfl
            have hsy : T'.sync q2 = (150, T') := by unfold TS.sync; rw [HF.out]; rfl
            have hcl : T'.clear q2 = (150, T') := by unfold TS.clear; rw [HF.out]; rfl
            have HAP := Lib.hid hap
            have HSY := Lib.hid hsy
            have HCL := Lib.hid hcl
            clear hap hsy hcl
            refine (append_at tb q2 a.A a.cap ys T' F2 w3 _ HAP.out HT3.out.tape (HY.out.below (Below.up HBL3.out (by have := HB.out; omega))) (fun ad e hx f => by have := HY.out.lt ad e hx; have := HB.out; have := HT3.out.from_ _ f; omega)).mono ?_
            rintro e w5 ⟨rfl, F5, ht5, hu5⟩
            have hT5 := HT3.out.upd ht5 hu5
            have HT5 := Lib.hid hT5.1
            have HBL5 := Lib.hid (HBL3.out.trans hT5.2)
            clear ht5 hu5 hT5 HT3 HBL3
            go_wp2_with fail
            refine (sync_any tb q2 T' F5 w5 HT5.out.tape).mono ?_
            rw [HSY.out]
            rintro e w6 ⟨rfl, F6, ht6, hu6⟩
            have hT6 := HT5.out.upd ht6 hu6
            have HT6 := Lib.hid hT6.1
            have HBL6 := Lib.hid (HBL5.out.trans hT6.2)
            clear ht6 hu6 hT6 HT5 HBL5
            go_wp2_with fail
            refine (clear_any tb q2 T' F6 w6 HT6.out.tape).mono ?_
            rw [HCL.out]
            rintro e w7 ⟨rfl, F7, ht7, hu7⟩
            have hT7 := HT6.out.upd ht7 hu7
            have HT7 := Lib.hid hT7.1
            have HBL7 := Lib.hid (HBL6.out.trans hT7.2)
            clear ht7 hu7 hT7 HT6 HBL6
            go_wp2_with fail
            refine (used_any tb T' F7 w7 HT7.out.tape).mono ?_
            rintro e w' ⟨rfl, rfl⟩
            rw [HU2.out]
            go_wp2_with fail
            go_roundw
            case rel => exact ⟨j + 1, by omega, by go_num, HBL7, F7, HT7⟩
            case measure => simp [intOf]; omega
          · obtain rfl : j = k := by omega
            have l1 : ¬ (j : Int) < (j : Int) := by omega
            go_wp2_with fail
            refine (lives_true _).mono ?_
            rintro e w3 ⟨rfl, hb⟩
            go_wp2_with fail
            go_ret
            exact ⟨rfl, HBL.out.trans (Below.up hb HT.out.size)⟩

end Go.Proofs.Ytnkenkdglcmpdaa
