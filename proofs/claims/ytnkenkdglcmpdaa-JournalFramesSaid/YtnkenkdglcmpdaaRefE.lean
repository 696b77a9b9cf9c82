/- The document's Frames: walk. -/
import Derived.Test.YtnkenkdglcmpdaaRefD
namespace Go.Proofs.Ytnkenkdglcmpdaa
set_option linter.unusedVariables false
set_option linter.unusedSimpArgs false
open Go.RowKit

/-- One value has been appended to an owned row. -/
theorem pushed0 {W w' : World} {B n : Nat} {v v' x : Value} {E E' : TypeId} {xs : List Value} (hown : W.ownsRow B E 1 v n xs)
    (hg : (W.alloc (.cells #[x] E')).grownBy w' v.ownBlock) (hat : v'.ownBlock = v.ownBlock ∨ v'.ownBlock = some (W.alloc (.cells #[x] E')).heap.size) :
    Fr (fun i => v.ownBlock = some i) W w' ∧ (v'.ownBlock = v.ownBlock ∨ ∃ k, v'.ownBlock = some k ∧ W.heap.size + 1 ≤ k) ∧ W.heap.size + 1 ≤ w'.heap.size := by
  have hf1 : Fr (fun i => v.ownBlock = some i) W (W.alloc (.cells #[x] E')) := Fr.alloc _ _ _
  have hf2 : Fr (fun i => v.ownBlock = some i) (W.alloc (.cells #[x] E')) w' := Fr.grown hg (fun k hk => hk)
  refine ⟨hf1.trans hf2 fun i h => .inl h, ?_, ?_⟩
  · rcases hat with h | h
    · exact .inl h
    · exact .inr ⟨_, h, by simp⟩
  · have := hf2.size; simp at *; omega
/-- Kinds and records, so far. -/
def OFr (B : Nat) (W : World) (pre : List (UInt8 × List UInt8)) (kv lv : Value) : Prop := ∃ cs : List Value,
  W.ownsRow B 5 1 kv pre.length (bv (pre.map (·.1))) ∧ W.ownsRow B 22 1 lv pre.length cs ∧
  ∀ (j : Nat) (c : Value) (p : UInt8 × List UInt8), cs[j]? = some c → pre[j]? = some p → CB B (fun k => kv.ownBlock = some k ∨ lv.ownBlock = some k) W c p.2
theorem OFr.below {B : Nat} {W W' : World} {pre : List (UInt8 × List UInt8)} {kv lv : Value} (h : OFr B W pre kv lv) (hb : Below W.heap.size W W') : OFr B W' pre kv lv := by
  obtain ⟨cs, h1, h2, h3⟩ := h
  have hf : Fr (fun _ => False) W W' := Fr.of_below hb
  exact ⟨cs, own_fr h1 hf (fun _ _ h => h), own_fr h2 hf (fun _ _ h => h), fun j c p hc hp => CB.mono2 (h3 j c p hc hp) ((h3 j c p hc hp).fr hf (fun _ h => h.elim)) (Nat.le_refl _) (fun _ _ h => h)⟩
theorem own_ne {W : World} {B B' : Nat} {kv lv : Value} {n m : Nat} {xs ys : List Value} (hko : W.ownsRow B 5 1 kv n xs) (hlo : W.ownsRow B' 22 1 lv m ys) : ∀ i, kv.ownBlock = some i → lv.ownBlock = some i → False := fun i h1 h2 => by
  obtain ⟨_, cap, cur, rfl, _, hg, _⟩ | ⟨_, _⟩ := hko.2.symm
  · obtain ⟨_, cap2, cur2, rfl, _, hg2, _⟩ | ⟨_, _⟩ := hlo.2.symm
    · simp [Value.ownBlock] at h1 h2
      subst h1; subst h2
      rw [hg] at hg2
      simp at hg2
    · simp_all [Value.ownBlock]
  · simp_all [Value.ownBlock]
/-- A frame more. -/
theorem OFr.push {B : Nat} {W W2 W4 : World} {pre : List (UInt8 × List UInt8)} {kv lv kv1 lv1 v : Value} {k : UInt8} {T : List UInt8} {cs : List Value} {E1 E2 : TypeId} {x : Value} {S : Nat}
    (h1 : W.ownsRow B 5 1 kv pre.length (bv (pre.map (·.1)))) (h2 : W.ownsRow B 22 1 lv pre.length cs)
    (h3 : ∀ (j : Nat) (c : Value) (p : UInt8 × List UInt8), cs[j]? = some c → pre[j]? = some p → CB B (fun k => kv.ownBlock = some k ∨ lv.ownBlock = some k) W c p.2)
    (hv : CB S (fun _ => False) W v T) (hS : ∀ i, kv.ownBlock = some i ∨ lv.ownBlock = some i → i < S) (hB : B ≤ S) (hBW : B ≤ W.heap.size)
    (ho1 : W2.ownsRow B 5 1 kv1 (pre.length + 1) (bv (pre.map (·.1)) ++ [.int .u8 (k.toNat : Int)]))
    (hg1 : (W.alloc (.cells #[x] E1)).grownBy W2 kv.ownBlock) (ha1 : kv1.ownBlock = kv.ownBlock ∨ kv1.ownBlock = some (W.alloc (.cells #[x] E1)).heap.size)
    (ho2 : W4.ownsRow B 22 1 lv1 (pre.length + 1) (cs ++ [v]))
    (hg2 : (W2.alloc (.cells #[v] E2)).grownBy W4 lv.ownBlock) (ha2 : lv1.ownBlock = lv.ownBlock ∨ lv1.ownBlock = some (W2.alloc (.cells #[v] E2)).heap.size) :
    OFr B W4 (pre ++ [(k, T)]) kv1 lv1 ∧ Below B W W4 := by
  obtain ⟨f1, n1, s1⟩ := pushed0 (x := x) h1 hg1 ha1
  have hne := own_ne h1 h2
  have h2' := own_fr h2 f1 (fun i hi h => hne i h hi)
  obtain ⟨f2, n2, s2⟩ := pushed0 h2' hg2 ha2
  have hfr : Fr (fun i => kv.ownBlock = some i ∨ lv.ownBlock = some i) W W4 := (f1.mono fun i h => .inl (.inl h)).trans f2 fun i h => .inl (.inr h)
  have hb : Below B W W4 := ⟨hfr.os, hfr.tape, hfr.output, hfr.size, fun i hi => hfr.block i (by omega) (fun hi' => by
    rcases hi' with h | h
    · have := (h1.lt i h).1; omega
    · have := (h2.lt i h).1; omega)⟩
  have hX : ∀ i, i < W.heap.size → (kv1.ownBlock = some i ∨ lv1.ownBlock = some i) → kv.ownBlock = some i ∨ lv.ownBlock = some i := by
    intro i hi h
    rcases h with h | h
    · rcases n1 with n1 | ⟨k', n1, n1'⟩
      · rw [n1] at h; exact .inl h
      · rw [n1] at h; cases h; omega
    · rcases n2 with n2 | ⟨k', n2, n2'⟩
      · rw [n2] at h; exact .inr h
      · rw [n2] at h; cases h; have := f1.size; omega
  refine ⟨⟨cs ++ [v], ?_, ?_, ?_⟩, hb⟩
  · have h := own_fr ho1 f2 (fun i hi h => by
      rcases n1 with n1 | ⟨k', n1, n1'⟩
      · rw [n1] at hi; exact hne i hi h
      · rw [n1] at hi; cases hi; have := (h2.lt _ h).2; omega)
    rw [List.length_append, List.map_append, bv_append]; exact h
  · rw [List.length_append]; exact ho2
  · intro j cc p hc hp
    have hcl : cs.length = pre.length := by have := h2.1; omega
    rcases Nat.lt_or_ge j pre.length with hj | hj
    · rw [List.getElem?_append_left (by omega)] at hc
      rw [List.getElem?_append_left hj] at hp
      have h0 := h3 j cc p hc hp
      exact CB.mono2 h0 (h0.fr hfr (fun i hi => .inr (.inl hi))) (Nat.le_refl _) hX
    · rw [List.getElem?_append_right (by omega)] at hc
      rw [List.getElem?_append_right hj] at hp
      have e0 : j - pre.length = 0 := by
        rcases Nat.eq_zero_or_pos (j - pre.length) with h | h
        · exact h
        · rw [List.getElem?_eq_none (by simp; omega)] at hp; cases hp
      rw [hcl, e0] at hc
      rw [e0] at hp
      simp at hc hp
      subst hc; subst hp
      obtain ⟨A, c, e1, e2, e3, e4⟩ := hv
      refine ⟨A, c, e1, e2, e3.fr2 hfr (fun a ha h0 hi => ?_), fun a ha h0 => ⟨?_, fun hi => ?_⟩⟩
      · have := (e4 a ha h0).1; have := hS _ hi; omega
      · have := (e4 a ha h0).1; omega
      · have h5 := (e4 a ha h0).1
        have h6 := hS _ (hX _ (rb_lt e3 a ha h0) hi)
        omega
def lenOf : Value → Nat
  | .slice _ n _ => n
  | _ => 0

set_option maxRecDepth 100000 in
set_option maxHeartbeats 4000000 in
theorem rframes_any (A : Option Addr) (c : Nat) (b : List UInt8) (w : World) (hr : RB w A b) (hc : b.length ≤ c) (hl : b.length ≤ 1000000000) :
    Calls Try.prog 52 #[.slice A b.length c] w fun e w' => ∃ kv lv, e = .returned (.tuple #[kv, lv]) ∧ OFr w.heap.size w' (framesP b) kv lv ∧ Below w.heap.size w w' := by
  obtain ⟨i0, hi0, hz0, hz1, hz2⟩ := info_parts info_u8'
  obtain ⟨i1, hi1, hy0, hy1, hy2⟩ := info_parts info_row
  have hfl := framesP_len b
  obtain ⟨n, hn⟩ : ∃ n, n = b.length := ⟨_, rfl⟩
  rw [← hn] at hc hl hfl ⊢
  obtain ⟨fs, hfs⟩ : ∃ fs, fs = framesP b := ⟨_, rfl⟩
  rw [← hfs] at hfl ⊢
  have HFS := Lib.hid hfs
  have HN := Lib.hid hn
  have HRB := Lib.hid hr
  have HFL := Lib.hid hfl
  clear hn hfs hr hfl
  go_enter Try.func52, Try.ntmps52
  go_wp2_with fail
  go_loopw [0, 4, 5] (fun bv kv lv wr => ∃ (pre : List (UInt8 × List UInt8)) (r : List UInt8) (A' : Option Addr) (m c' : Nat), Hid (fs = pre ++ framesP r) ∧ bv = .slice A' m c' ∧ Hid (m = r.length) ∧ m ≤ c' ∧ m ≤ n ∧ Hid (RB wr A' r) ∧ Hid (∀ a, A' = some a → 0 < r.length → a.block < w.heap.size) ∧ Hid (OFr w.heap.size wr pre kv lv) ∧ Hid (Below w.heap.size w wr)) (fun bv _ _ _ => lenOf bv)
  case atStart => exact ⟨[], b, A, n, c, Lib.hid (by rw [HFS.out]; rfl), rfl, HN, hc, Nat.le_refl _, HRB, Lib.hid fun a ha h0 => rb_lt HRB.out a ha h0, Lib.hid ⟨[], World.ownsRow_nil _ _ _ _, World.ownsRow_nil _ _ _ _, fun j c p hc hp => by simp at hc⟩, Lib.hid (Below.refl _ _)⟩
  case round =>
    clear HRB hc
    obtain ⟨pre, r, A', m, c', HX, rfl, HM, hmc, hmn, HR, HA, HO, HB⟩ := hrel
    have hfirst := rfirst_any A' c' r wr HR.out (by rw [← HM.out]; exact hmc) (by rw [← HM.out]; omega)
    rw [← HM.out] at hfirst
    have HF := Lib.hid hfirst
    clear hfirst
    go_wp2_with fail
    refine HF.out.mono ?_
    rintro e w1 ⟨hb1, hp⟩
    have hs1 : w.heap.size ≤ w1.heap.size := Nat.le_trans HB.out.size hb1.size
    match hf : firstP r with
    | none =>
      rw [hf] at hp
      have hp : e = .returned (.tuple #[.int .u8 0, .slice none 0 0, .int .i64 0]) := hp
      subst hp
      have HX2 : Hid (fs = pre) := Lib.hid (by rw [HX.out, framesP_none hf, List.append_nil])
      have HO2 := Lib.hid (HO.out.below hb1)
      have HB2 := Lib.hid (HB.out.trans (Below.up hb1 HB.out.size))
      clear hf hb1 HF HX HM HR HA HO HB
      go_wp2_with fail
      go_ret2
      exact ⟨_, _, rfl, by rw [HX2.out]; exact HO2.out, HB2.out⟩
    | some (k, T, q) =>
      rw [hf] at hp
      obtain ⟨v, rfl, hv⟩ := hp
      obtain ⟨vA, vc, rfl, hv1⟩ := hv
      have hv : CB wr.heap.size (fun _ => False) w1 (.slice vA T.length vc) T := ⟨vA, vc, rfl, hv1⟩
      clear hv1
      obtain ⟨_, hq, rr, hrr⟩ := first_inv hf
      have hq0 : 0 < q ∧ q ≤ m := by
        have := frameB_len k T
        have h2 := congrArg List.length hrr
        rw [List.length_append] at h2
        rw [HM.out]; omega
      obtain ⟨hq0, hqm⟩ := hq0
      have hqb : ((q : Int) == 0) = false := by simp; omega
      have HX2 : Hid (fs = (pre ++ [(k, T)]) ++ framesP (r.drop q)) := Lib.hid (by rw [HX.out, framesP_some hf]; simp)
      have hpl : pre.length + 1 ≤ 1000000000 := by
        have h1 := HX2.out
        have h2 := congrArg List.length h1
        have h3 := HFL.out
        simp at h2; omega
      obtain ⟨cs, h1, h2, h3⟩ := HO.out.below hb1
      have hS : ∀ i, u4.ownBlock = some i ∨ u5.ownBlock = some i → i < wr.heap.size := fun i hi => by
        obtain ⟨cs0, g1, g2, _⟩ := HO.out
        rcases hi with hi | hi
        · exact (g1.lt i hi).2
        · exact (g2.lt i hi).2
      have HBr := Lib.hid HB.out.size
      have HB1 := Lib.hid (HB.out.trans (Below.up hb1 HB.out.size))
      have HR1 := Lib.hid (HR.out.below hb1)
      have HP := Lib.hid (And.intro h1 (And.intro h2 (And.intro h3 (And.intro hv hS))))
      have h1' := own_fr h1 (Fr.alloc (fun _ => False) w1 (.cells #[.int .u8 (k.toNat : Int)] 5)) (fun _ _ h => h)
      have H1' := Lib.hid h1'
      clear hf hq hrr hb1 HF HX HR HO HB h1 h2 h3 hv hS h1'
      go_wp2_with (at_builtin; refine (fun (h : Hid _) => h.out) ?_)
      refine Lib.hid ?_
      refine wpList_append_own_at _ rfl (.tmp 19) (.tmp 21) 22 rfl w.heap.size 5 i0 (.int .u8 0) 1 1 Try.underlying22 hi0 hz0 hz1 hz2 rfl (by decide) u4 pre.length (bv (pre.map (·.1))) rfl H1'.out ⟨w1.heap.size, 0, none⟩ 1 1 [.int .u8 (k.toNat : Int)] rfl rfl (cell_one_new _ _ _) (by simp [Value.oneCell']) (by simp only [maxLen]; omega) (by omega) (by simp; omega) ?_
      intro kv1 w2 ho1 hg1 _ ha1
      have HG1 := Lib.hid (And.intro ho1 (And.intro hg1 ha1))
      have hf2 := (pushed0 (x := .int .u8 (k.toNat : Int)) HP.out.1 hg1 ha1)
      have h22 := own_fr HP.out.2.1 hf2.1 (fun i hi h => own_ne HP.out.1 HP.out.2.1 i h hi)
      have hs2 : w.heap.size ≤ w2.heap.size := by have := hf2.2.2; omega
      have H22 := Lib.hid (own_fr h22 (Fr.alloc (fun _ => False) w2 (.cells #[.slice vA T.length vc] 22)) (fun _ _ h => h))
      clear ho1 hg1 ha1 hf2 h22 H1'
      go_wp2_with (at_builtin; refine (fun (h : Hid _) => h.out) ?_)
      refine Lib.hid ?_
      refine wpList_append_own_at _ rfl (.tmp 23) (.tmp 25) 67 rfl w.heap.size 22 i1 (.slice none 0 0) 1 24 Try.underlying67 hi1 hy0 hy1 hy2 rfl (by decide) u5 pre.length cs rfl H22.out ⟨w2.heap.size, 0, none⟩ 1 1 [.slice vA T.length vc] rfl rfl (cell_one_new _ _ _) (by simp [Value.oneCell']) (by simp only [maxLen]; omega) (by omega) (by simp; omega) ?_
      intro lv1 w4 ho2 hg2 _ ha2
      obtain ⟨ho1, hg1, ha1⟩ := HG1.out
      obtain ⟨h1, h2, h3, hv, hS⟩ := HP.out
      obtain ⟨hO4, hB4⟩ := OFr.push h1 h2 h3 hv hS HBr.out hs1 ho1 hg1 ha1 ho2 hg2 ha2
      have HO4 := Lib.hid hO4
      have HB4 := Lib.hid (HB1.out.trans hB4)
      have HR4 : Hid (RB w4 A' r) := Lib.hid (HR1.out.fr2 (F := fun k => w.heap.size ≤ k) ⟨hB4.os, hB4.tape, hB4.output, hB4.size, fun i _ hi => hB4.block i (by omega)⟩ fun a ha h0 => by have := HA.out a ha h0; omega)
      clear ho1 hg1 ha1 ho2 hg2 ha2 h1 h2 h3 hv hS hO4 hB4 HG1 HP H22 HB1 HR1
      have hdl : (r.drop q).length = m - q := by rw [List.length_drop, ← HM.out]
      have HDL := Lib.hid hdl
      clear hdl
      by_cases hcq : c' = q
      · subst hcq
        have hmq : m = c' := by omega
        subst hmq
        go_wp2_with fail
        go_roundw
        case rel => exact ⟨pre ++ [(k, T)], r.drop m, A', 0, 0, HX2, by simp, Lib.hid (by rw [HDL.out]; omega), by omega, by omega, Lib.hid (by rw [List.eq_nil_of_length_eq_zero (l := r.drop m) (by rw [HDL.out]; omega)]; exact RB.nil _ _), Lib.hid (fun a ha h0 => by rw [HDL.out] at h0; omega), HO4, HB4⟩
        case measure => simp [lenOf]; omega
      · go_wp2_with fail
        go_roundw
        case rel =>
          refine ⟨pre ++ [(k, T)], r.drop q, _, m - q, c' - q, HX2, rfl, Lib.hid HDL.out.symm, by omega, by omega, Lib.hid ?_, Lib.hid (fun a ha h0 => ?_), HO4, HB4⟩
          · have := HR4.out.dropS q c' (by rw [← HM.out]; exact hmc)
            rwa [if_neg hcq] at this
          · have hpos : 0 < r.length := by rw [← HM.out]; omega
            obtain ⟨bb, off, e, _, _⟩ := HR4.out.2 hpos
            have h1 := HA.out _ e hpos
            rw [e] at ha
            cases ha
            have hq1 : q ≠ 0 := by omega
            simpa [Addr.add, hq1] using h1
        case measure => simp [lenOf]; omega

end Go.Proofs.Ytnkenkdglcmpdaa
