/- The walk of the journal's look: an area's turn and records. -/
import Derived.Test.YtnkenkdglcmpdaaJouJ
import Derived.Test.YtnkenkdglcmpdaaTapeK
namespace Go.Proofs.Ytnkenkdglcmpdaa
set_option linter.unusedVariables false
set_option linter.unusedSimpArgs false
open Go.RowKit
attribute [local go_sem] Oper.semAt_some

/-- The greatest turn of frames; their records. -/
def turnOf (l : List (UInt8 × List UInt8)) : Int := l.foldl (fun n p => if p.1 = 71 then max n (numberP p.2) else n) 0
def recsOf (l : List (UInt8 × List UInt8)) : List (List UInt8) := (l.filter fun p => p.1 ≠ 71).map (·.2)
theorem turnOf_turn (l : List (UInt8 × List UInt8)) (ys : List UInt8) : turnOf (l ++ [(71, ys)]) = max (turnOf l) (numberP ys) := by simp [turnOf]
theorem turnOf_rec (l : List (UInt8 × List UInt8)) (k : UInt8) (ys : List UInt8) (h : k ≠ 71) : turnOf (l ++ [(k, ys)]) = turnOf l := by simp [turnOf, h]
theorem recsOf_turn (l : List (UInt8 × List UInt8)) (ys : List UInt8) : recsOf (l ++ [(71, ys)]) = recsOf l := by simp [recsOf]
theorem recsOf_rec (l : List (UInt8 × List UInt8)) (k : UInt8) (ys : List UInt8) (h : k ≠ 71) : recsOf (l ++ [(k, ys)]) = recsOf l ++ [ys] := by simp [recsOf, h]
theorem recsOf_len (l : List (UInt8 × List UInt8)) : (recsOf l).length ≤ l.length := by unfold recsOf; rw [List.length_map]; exact List.length_filter_le _ _
theorem numberP_bound (xs : List UInt8) : 0 ≤ numberP xs ∧ numberP xs ≤ 1099511627776 := by
  have := numP_small xs
  unfold numberP
  split
  · omega
  · omega
theorem turnOf_bound : ∀ l, 0 ≤ turnOf l ∧ turnOf l ≤ 1099511627776 := by
  refine rev_ind (by decide) fun l p ih => ?_
  by_cases h : p.1 = 71
  · have := numberP_bound p.2
    have e : p = (71, p.2) := Prod.ext h rfl
    rw [e, turnOf_turn]; omega
  · have e : p = (p.1, p.2) := rfl
    rw [e, turnOf_rec _ _ _ h]; exact ih
theorem fault_look (tb : Nat) (n : Int) (T : TS) (F : Nat → Prop) (w : World) (h : TapeR w tb T F) :
    Calls Try.prog 25 #[.pointer (some ⟨tb, 0, none⟩), .int .i64 n] w fun e w' => ∃ A c m, e = .returned (.tuple #[.slice A m c, .int .i64 (faultN T.off n)]) ∧ m = (T.read n).length ∧ m ≤ c ∧ RB w' A (T.read n) ∧ Below w.heap.size w w' ∧ ∀ a, A = some a → w.heap.size ≤ a.block := by
  refine (read_any tb n T F w h).mono ?_
  rintro e w' ⟨v, rfl, ho, hb, hown⟩
  have hl : (T.read n).length ≤ 140737488355328 := by
    obtain ⟨_, _, _, ht⟩ := h
    have := TS.read_len ht.wf n
    omega
  obtain ⟨A, c, rfl, hr, hc, hA⟩ := ho.reads' hl
  exact ⟨A, c, _, rfl, rfl, hc, hr, hb, fun a ha => hown _ (hA a ha)⟩
/-- What lies between two rounds of look. -/
def ILk (s D : Nat) (pre : List (UInt8 × List UInt8)) (W : World) : Prop := ∃ (lv : Value) (cs : List Value), Blk W s #[.int .i64 (turnOf pre)] 3 ∧ Blk W (s + 1) #[lv] 67 ∧
  W.ownsRow (D + 2) 22 1 lv (recsOf pre).length cs ∧
  ∀ (j : Nat) (c : Value) (p : List UInt8), cs[j]? = some c → (recsOf pre)[j]? = some p → CB (D + 2) (fun k => lv.ownBlock = some k) W c p
theorem ILk.fr {s D : Nat} {pre : List (UInt8 × List UInt8)} {W W' : World} {F : Nat → Prop} (h : ILk s D pre W) (hf : Fr F W W') (hF : ∀ k, F k → s + 1 < k ∧ (k < D + 2 ∨ W.heap.size ≤ k)) : ILk s D pre W' := by
  obtain ⟨lv, cs, h1, h2, h4, h5⟩ := h
  refine ⟨lv, cs, h1.fr hf (fun hs => by have := (hF _ hs).1; omega), h2.fr hf (fun hs => by have := (hF _ hs).1; omega), own_fr h4 hf (fun k hk h => ?_), fun j c p hc hp => (h5 j c p hc hp).fr hf (fun k hk => ?_)⟩
  · have := h4.lt k hk; have := (hF k h).2; omega
  · rcases (hF k hk).2 with h | h
    · exact .inl h
    · exact .inr (.inr h)
set_option maxRecDepth 100000 in
set_option maxHeartbeats 4000000 in
theorem look_any (tb : Nat) (a : Int) (T : TS) (F : Nat → Prop) (w : World) (h : TapeR w tb T F) :
    Calls Try.prog 78 #[.pointer (some ⟨tb, 0, none⟩), .int .i64 a] w fun e w' => ∃ lv, e = .returned (.tuple #[.int .i64 (turnOf (framesP (T.read a))), lv]) ∧ OL w.heap.size w' lv (recsOf (framesP (T.read a))) ∧ Below w.heap.size w w' := by
  obtain ⟨i1, hi1, hy0, hy1, hy2⟩ := info_parts info_row
  have hlb : (T.read a).length ≤ 1073741824 := by
    obtain ⟨_, _, _, ht⟩ := h
    exact TS.read_len ht.wf a
  obtain ⟨b, hb⟩ : ∃ b, b = T.read a := ⟨_, rfl⟩
  rw [← hb] at hlb ⊢
  refine (callsIn_wide (n := 5)).1 ?_
  refine callsIn_of_wp_marks Try.func78 rfl trivial ?_
  simp only [Try.ntmps78, List.size_toArray, List.length_cons, List.length_nil, Nat.reduceAdd, Nat.reduceSub, Array.replicate_succ, Array.replicate_zero, List.push_toArray, List.append_toArray, List.nil_append, List.cons_append]
  refine wpIn_wide.2 ?_
  go_wp2_with fail
  obtain ⟨w0, hw0⟩ : ∃ w0, w0 = (w.alloc (.cells #[.int .i64 0] 3)).alloc (.cells #[.slice none 0 0] 67) := ⟨_, rfl⟩
  rw [← hw0]
  have hs0 : w0.heap.size = w.heap.size + 2 := by rw [hw0]; simp
  have ha0 : Blk w0 w.heap.size #[.int .i64 0] 3 := by rw [hw0]; exact (Blk.new w _ _).alloc _
  have ha1 : Blk w0 (w.heap.size + 1) #[.slice none 0 0] 67 := by
    rw [hw0]
    have := Blk.new (w.alloc (.cells #[.int .i64 0] 3)) #[.slice none 0 0] 67
    rw [World.size_alloc] at this
    exact this
  have hbw0 : Below w.heap.size w w0 := by
    rw [hw0]; exact ((Below.refl _ w).alloc (Nat.le_refl _) _).alloc (by simp) _
  clear hw0
  refine (fault_look tb a T F w0 (h.below hbw0)).mono ?_
  rintro e w2 ⟨A, c, n, rfl, hn, hc, hr, hb2, hAf⟩
  obtain ⟨fe, hfe⟩ : ∃ fe, fe = faultN T.off a := ⟨_, rfl⟩
  rw [← hfe]
  rw [← hb] at hn hr
  have hfl := framesP_len b
  rw [← hn] at hlb hfl
  have HN := Lib.hid hn
  have HA0 := Lib.hid (ha0.below hb2)
  have HA1 := Lib.hid (ha1.below hb2)
  have hs2 : w.heap.size + 2 ≤ w2.heap.size := by have := hb2.size; omega
  have HB2 := Lib.hid (hbw0.trans (Below.up hb2 (by omega)))
  clear hn hb hfe h ha0 ha1 hb2 hbw0
  go_wp2_with fail
  refine (all_any (.slice A n c) w2 A n c rfl).mono ?_
  rintro e w1 ⟨rfl, rfl⟩
  go_wp2_with fail
  obtain ⟨w1, hw1⟩ : ∃ w1, w1 = w2.alloc (.cells #[.slice A n c] 22) := ⟨_, rfl⟩
  rw [← hw1]
  have hs1 : w1.heap.size = w2.heap.size + 1 := by rw [hw1]; simp
  have hbn : Blk w1 w2.heap.size #[.slice A n c] 22 := by rw [hw1]; exact Blk.new w2 _ _
  have hb21 : Below w2.heap.size w2 w1 := by rw [hw1]; exact (Below.refl _ _).alloc (Nat.le_refl _) _
  have HA0 := Lib.hid (HA0.out.below hb21)
  have HA1 := Lib.hid (HA1.out.below hb21)
  have hbw : Below w.heap.size w w1 := HB2.out.trans (Below.up hb21 (by omega))
  clear hw1
  refine wp_rangeFunc_c (gf := 93) (lb := #[.pointer (some ⟨w2.heap.size, 0, none⟩)]) rfl (enters_of Try.func93 (by kernel_rfl) rfl) rfl w2.heap.size (by omega)
    (fun i => i = w.heap.size ∨ i = w.heap.size + 1 ∨ w1.heap.size + 2 ≤ i) (fun i hi => by omega) (framesP b) ?seq (fun pre W => ILk w.heap.size w1.heap.size pre W ∧ Below w.heap.size w W) ?hI ?h0
    (fun k ys A' c' => { tmps := #[.pointer (some ⟨tb, 0, none⟩), .int .i64 a, undef, undef, .pointer (some ⟨w.heap.size, 0, none⟩), .pointer (some ⟨w.heap.size + 1, 0, none⟩), .slice A n c, .int .i64 fe, .int .u8 (k.toNat : Int), .slice A' ys.length c', .tuple #[.slice A n c, .int .i64 fe], .pointer (some ⟨tb, 0, none⟩), .int .i64 a, .tuple #[.slice A n c, .int .i64 fe], .slice A n c, .int .i64 fe, .slice A n c, .func (.func 93) #[] #[.pointer (some ⟨w2.heap.size, 0, none⟩)], .int .u8 (k.toNat : Int), .slice A' ys.length c', undef, undef, undef, undef, undef, undef, undef, undef, undef, undef, undef, undef], defers := [] }) ?assign ?body ?done
  case seq =>
    intro l J W hbW hszW hJ hY h0
    refine all1_any l w2.heap.size A c b _ J W ?_ ?_ ?_ ?_ ?_ ?_ hJ hY h0
    · omega
    · intro a ha h0
      have := rb_lt hr a ha h0
      have := hAf a ha
      omega
    · rw [← HN.out]; exact (hbn.below (hbW.mono (Nat.le_refl _)))
    · exact (hr.below hb21).below hbW
    · rw [← HN.out]; exact hc
    · rw [← HN.out]; omega
  case hI =>
    intro pre W W' h hf
    exact ⟨h.1.fr hf (fun k hk => by omega), Fr.below h.2 hf (fun i hi => by omega)⟩
  case h0 =>
    refine ⟨⟨_, [], HA0.out, HA1.out, World.ownsRow_nil _ _ _ _, fun j c p hc hp => by simp at hc⟩, hbw⟩
  case assign =>
    intro l k ys A' c' W K hK
    gi_wp2
    exact hK
  case body =>
    intro l pre k ys A' c' W0 W hI hf hsz hry hcy hfresh hpre
    obtain ⟨⟨lv, cs, hn0, hl0, hlo, hcs⟩, hBW0⟩ := hI
    have hs13 : w.heap.size + 3 ≤ w1.heap.size := by omega
    clear hs1
    have hn1 : Blk W w.heap.size #[.int .i64 (turnOf pre)] 3 := hn0.fr hf (by omega)
    have c0 := hn1.cell 0
    have f0 := hn1.free 0
    by_cases hk : k = 71
    · subst hk
      have hnum := numberP_bound ys
      have htb := turnOf_bound pre
      obtain ⟨t, ht⟩ : ∃ t, t = turnOf pre := ⟨_, rfl⟩
      replace c0 : W.cell? ⟨w.heap.size, 0, none⟩ = some (.int .i64 t) := by rw [ht]; exact c0
      rw [← ht] at htb
      have HT := Lib.hid ht
      have hly : ys.length ≤ 140737488355328 := hry.1
      have hmx : Try.prog.follows .mixedOrders = true := by kernel_rfl
      have hlt := hn1.lt
      obtain ⟨q, hq⟩ : ∃ q, q = numberP ys := ⟨_, rfl⟩
      have hcall := number_rec W.heap.size A' c' ys W.drew (Nat.le_refl _) (hry.below (Below.refl _ _).drew) hly
      rw [← hq] at hcall hnum
      have HQ := Lib.hid hq
      obtain ⟨yn, hyn⟩ : ∃ yn, yn = ys.length := ⟨_, rfl⟩
      rw [← hyn] at hcall hcy ⊢
      have HYN := Lib.hid hyn
      have HH := Lib.hid (And.intro hcs hn0)
      clear hyn hq ht hcs hn0 hn1
      gi_wp2_with fail
      gi_region_with_o (refine ⟨trivial, ?_⟩; gi_at_call 90; refine (CallsIn.inRound l (callsIn_wide.2 hcall)).mono ?_; rintro e w5 ⟨rfl, hb5⟩; have c5 := (hb5.cell (p := ⟨w.heap.size, 0, none⟩) hlt).trans c0; have f5 := (hb5.frozen (p := ⟨w.heap.size, 0, none⟩) hlt).trans f0)
      all_goals (
        have hf9 : Fr (fun i => i = w.heap.size) W (w5.setCell ⟨w.heap.size, 0, none⟩ (.int .i64 (if t < q then q else t))) :=
          (Fr.of_below ((Below.refl _ W).drew.trans hb5)).trans (Fr.setCell (fun i => i = w.heap.size) _ ⟨w.heap.size, 0, none⟩ _ rfl) fun i h => .inl h
        have hn9 : Blk (w5.setCell ⟨w.heap.size, 0, none⟩ (.int .i64 (if t < q then q else t))) w.heap.size #[.int .i64 (if t < q then q else t)] 3 :=
          ((HH.out.2.fr hf (by omega)).below ((Below.refl _ W).drew.trans hb5)).set 0 _
        have hmax : turnOf (pre ++ [(71, ys)]) = if t < q then q else t := by rw [turnOf_turn, ← HT.out, ← HQ.out]; omega
        obtain ⟨W9, hW9⟩ : ∃ W9, W9 = w5.setCell ⟨w.heap.size, 0, none⟩ (.int .i64 (if t < q then q else t)) := ⟨_, rfl⟩
        rw [← hW9] at hf9 hn9 ⊢
        suffices h : Exit.normal = Exit.normal ∧ Fr (fun i => i = w.heap.size ∨ i = w.heap.size + 1 ∨ w1.heap.size + 2 ≤ i) W W9 ∧ (ILk w.heap.size w1.heap.size (pre ++ [(71, ys)]) W9 ∧ Below w.heap.size w W9) from h
        refine ⟨rfl, hf9.mono fun i h => .inl (.inl h), ⟨lv, cs, ?_, ?_, ?_, ?_⟩, ?_⟩
        · rw [hmax]; exact hn9
        · exact (hl0.fr hf (by omega)).fr hf9 (by omega)
        · rw [recsOf_turn]; exact own_fr (own_fr hlo hf (fun k hk => by have := (hlo.lt k hk).1; omega)) hf9 (fun k hk => by have := (hlo.lt k hk).1; omega)
        · rw [recsOf_turn]
          intro j cc p hc hp
          exact ((HH.out.1 j cc p hc hp).fr hf (fun i hi => .inl (by omega))).fr hf9 (fun i hi => .inl (by omega))
        · exact Fr.below (Fr.below hBW0 hf (fun i hi => by omega)) hf9 (fun i hi => by omega))
    · have hkn : ¬ (k.toNat : Int) = 71 := fun h => hk (UInt8.toNat_inj.1 (by show k.toNat = 71; omega))
      have hkb : ((k.toNat : Int) == 71) = false := by simp only [beq_eq_false_iff_ne, ne_eq]; exact hkn
      have hpl : pre.length + 1 ≤ 1073741824 := by
        have := hpre.length_le
        simp at this
        omega
      have hrl := recsOf_len pre
      have hl1 : Blk W (w.heap.size + 1) #[lv] 67 := hl0.fr hf (by omega)
      have hlo1 := own_fr hlo hf (fun k hk => by have := (hlo.lt k hk).1; omega)
      have hWs := hf.size
      have d0 : W.cell? ⟨w.heap.size + 1, 0, none⟩ = some lv := hl1.cell 0
      obtain ⟨N, hN⟩ : ∃ N, N = (recsOf pre).length := ⟨_, rfl⟩
      rw [← hN] at hlo hlo1 hrl
      have HH := Lib.hid (And.intro hcs hn0)
      have HNN := Lib.hid hN
      clear hcs hn0 hn1 c0 f0 hN
      gi_wp2_with (gi_at_builtin; refine (fun (h : Hid _) => h.out) ?_)
      refine Lib.hid ?_
      refine wpListIn_append_own_at _ rfl _ _ 67 rfl (w1.heap.size + 2) 22 i1 (.slice none 0 0) 1 24 Try.underlying67 hi1 hy0 hy1 hy2 rfl (by decide) lv N cs rfl (own_fr hlo1 (Fr.alloc (fun _ => False) _ _) (fun _ _ h => h)) ⟨W.heap.size, 0, none⟩ 1 1 [.slice A' ys.length c'] rfl rfl (cell_one_new _ _ _) (by simp [Value.oneCell']) (by simp only [maxLen]; omega) (by omega) (by simp; omega) ?_
      intro v2 w4 hown2 hgrow2 _ hat2
      obtain ⟨p1, p2, p3, p4, p5, p6, p7, p8⟩ := pushed hl1 hlo1 (by omega) hown2 hgrow2 hat2
      obtain ⟨g2, cap2, rfl⟩ := ownsRow_succ hown2
      have HP2 := Lib.hid (And.intro p3 (And.intro p4 (And.intro p6 (And.intro p7 p8))))
      clear hown2 hgrow2 hat2 p3 p4 p5 p6 p7 p8 d0
      gi_wp2_with fail
      obtain ⟨W5, hW5⟩ : ∃ W5, W5 = w4.setCell ⟨w.heap.size + 1, 0, none⟩ (.slice (some ⟨g2, 0, none⟩) (N + 1) cap2) := ⟨_, rfl⟩
      have hp2 := HP2.out
      rw [← hW5] at hp2 ⊢
      obtain ⟨t1, t2, t3, t4, t5⟩ := hp2
      clear HP2 hW5 p1 p2
      have hob := fun i hi => (hlo1.lt i hi).1
      have hN := HNN.out
      refine ⟨t3.mono fun i h => .inl ?_, ⟨_, cs ++ [.slice A' ys.length c'], ?_, t1, ?_, ?_⟩, ?_⟩
      · rcases h with h | h
        · exact .inr (.inl h)
        · exact .inr (.inr (hob i h))
      · rw [turnOf_rec _ _ _ hk]
        exact (HH.out.2.fr hf (by omega)).fr t3 (fun h => by rcases h with h | h; omega; have := hob _ h; omega)
      · rw [recsOf_rec _ _ _ hk, List.length_append, ← HNN.out]; exact t2
      · rw [recsOf_rec _ _ _ hk]
        have hX : ∀ i, i < W0.heap.size → (Value.slice (some ⟨g2, 0, none⟩) (N + 1) cap2).ownBlock = some i → lv.ownBlock = some i := by
          intro i hi h
          rcases t4 with t4 | ⟨k', t4, t4'⟩
          · rw [t4] at h; exact h
          · rw [t4] at h; cases h; omega
        intro j cc p hc hp
        have hcl : cs.length = N := by have := hlo.1; omega
        rcases Nat.lt_or_ge j N with hj | hj
        · rw [List.getElem?_append_left (by omega)] at hc
          rw [List.getElem?_append_left (by omega)] at hp
          have h0 := HH.out.1 j cc p hc hp
          have h1 := h0.fr hf (fun i hi => .inl (by omega))
          refine CB.mono2 h0 (h1.fr t3 (fun i hi => ?_)) (Nat.le_refl _) hX
          rcases hi with hi | hi
          · exact .inl (by omega)
          · exact .inr (.inl hi)
        · rw [List.getElem?_append_right (by omega)] at hc
          rw [List.getElem?_append_right (by omega), ← hN] at hp
          have e0 : j - N = 0 := by
            rcases Nat.eq_zero_or_pos (j - N) with h | h
            · exact h
            · rw [List.getElem?_eq_none (by simp; omega)] at hp; cases hp
          rw [hcl, e0] at hc
          rw [e0] at hp
          simp at hc hp
          subst hc; subst hp
          refine ⟨A', c', rfl, hcy, hry.fr2 t3 (fun a ha h0 hi => ?_), fun a ha h0 => ⟨?_, fun hi => ?_⟩⟩
          · have h1 := hfresh a ha h0
            rcases hi with hi | hi
            · omega
            · have := (hlo.lt _ hi).2; omega
          · have h1 := hfresh a ha h0; omega
          · have h1 := hfresh a ha h0
            have h2 := rb_lt hry a ha h0
            rcases t4 with t4 | ⟨k', t4, t4'⟩
            · rw [t4] at hi; have := (hlo.lt _ hi).2; omega
            · rw [t4] at hi; cases hi; omega
      · exact Fr.below (Fr.below hBW0 hf (fun i hi => by omega)) t3 (fun i hi => by
          rcases hi with hi | hi
          · omega
          · have := hob i hi; omega)
  case done =>
    intro W hI hK
    obtain ⟨⟨lv, cs, hk0, hl0, hlo, hcs⟩, hBW⟩ := hI
    obtain ⟨t, ht⟩ : ∃ t, t = turnOf (framesP b) := ⟨_, rfl⟩
    rw [← ht] at hk0
    have c0 : W.cell? ⟨w.heap.size, 0, none⟩ = some (.int .i64 t) := hk0.cell 0
    have c1 : W.cell? ⟨w.heap.size + 1, 0, none⟩ = some lv := hl0.cell 0
    have f0 := hk0.free 0
    have f1 := hl0.free 0
    obtain ⟨lA, lc, rfl⟩ := own_form hlo
    obtain ⟨N, hN⟩ : ∃ N, N = (recsOf (framesP b)).length := ⟨_, rfl⟩
    rw [← hN] at hlo c1 hl0 hcs
    have HH := Lib.hid (And.intro hlo (And.intro hcs (And.intro hBW (And.intro hk0 (And.intro hl0 (And.intro ht (And.intro hN (And.intro hs1 hK))))))))
    have hs13 : w.heap.size + 3 ≤ w1.heap.size := by omega
    clear hlo hcs hBW hk0 hl0 ht hN hs1 hK
    go_wp2_with fail
    go_region
    all_goals go_wp2_with fail
    obtain ⟨W9, hW9⟩ : ∃ W9, W9 = ((W.setCell ⟨w.heap.size, 0, none⟩ (.int .i64 t)).setCell ⟨w.heap.size + 1, 0, none⟩ (.slice lA N lc)).drew := ⟨_, rfl⟩
    obtain ⟨hlo, hcs, hBW, hk0, hl0, ht, hN, hs1, hK⟩ := HH.out
    have hf9 : Fr (fun i => i = w.heap.size ∨ i = w.heap.size + 1) W W9 := by
      rw [hW9]
      exact ((Fr.setCell _ W ⟨w.heap.size, 0, none⟩ _ (.inl rfl)).trans (Fr.setCell (fun i => i = w.heap.size + 1) _ ⟨w.heap.size + 1, 0, none⟩ _ rfl) fun i h => .inl (.inr h)).trans (Fr.drew (fun _ => False) _) fun i h => h.elim
    have hk9 : Blk W9 w.heap.size #[.int .i64 t] 3 := by
      rw [hW9]; exact ((hk0.set 0 (.int .i64 t)).setOther ⟨w.heap.size + 1, 0, none⟩ _ (by simp)).drew
    have hl9 : Blk W9 (w.heap.size + 1) #[.slice lA N lc] 67 := by
      rw [hW9]; exact ((hl0.setOther ⟨w.heap.size, 0, none⟩ _ (by simp)).set 0 (.slice lA N lc)).drew
    have hK9 : W9.heap[w1.heap.size]? = some (.deferred (some [])) := (hf9.block _ (Array.getElem?_eq_some_iff.1 hK).1 (by omega)).trans hK
    rw [← hW9]
    clear hW9
    refine ⟨by simp, .inl ⟨_, _, rfl, run_takeDeferred hK9, ?_⟩⟩
    have hf10 : Fr (fun i => i = w1.heap.size) W9 (W9.putObj w1.heap.size (.deferred none)) := Fr.put _ _ _ rfl
    have hk10 := (hk9.fr hf10 (by omega)).cell 0
    have hl10 := (hl9.fr hf10 (by omega)).cell 0
    have hf : Fr (fun i => i = w.heap.size ∨ i = w.heap.size + 1 ∨ i = w1.heap.size) W (W9.putObj w1.heap.size (.deferred none)) :=
      (hf9.mono fun i h => .inl (by omega)).trans hf10 fun i h => .inl (by omega)
    have hlo10 := own_fr hlo hf (fun k hk => by have := (hlo.lt k hk).1; omega)
    refine ⟨.tuple #[.int .i64 t, .slice lA N lc], ?_, .slice lA N lc, by rw [ht], ⟨cs, ?_, ?_⟩, Fr.below hBW hf (fun i hi => by omega)⟩
    · simp [results, Try.f78, go_sem, hk10, hl10]
    · rw [← hN]; exact own_base hlo10 (by omega)
    · intro j cc p hc hp
      exact ((hcs j cc p hc hp).fr hf (fun i hi => .inl (by omega))).mono (by omega) (fun k _ h => h)

end Go.Proofs.Ytnkenkdglcmpdaa
