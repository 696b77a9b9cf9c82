/- Parts: The walk of the journal's look: an area's turn and records. .. The walks of the journal's methods: Append, left, Bytes, Sure. -/
import Derived.Test.YtdhafdejionefaaGreatM07
import Derived.Test.YtdhafdejionefaaGreatM04
/- The walk of the journal's look: an area's turn and records. -/
namespace Go.Proofs.YtdhafdejionefaaGreat
set_option linter.unusedVariables false
set_option linter.unusedSimpArgs false
open Go.RowKit
attribute [local go_sem] Oper.semAt_some

/-- The greatest turn of frames; their records. -/
def turnOf (l : List (UInt8 × List UInt8)) : Int := l.foldl (fun n p => if p.1 = 71 then max n (numberP p.2) else n) 0
def recsOf (l : List (UInt8 × List UInt8)) : List (List UInt8) := (l.filter fun p => p.1 ≠ 71).map (·.2)
theorem turnOf_turn (l : List (UInt8 × List UInt8)) (ys : List UInt8) : turnOf (l ++ [(71, ys)]) = max (turnOf l) (numberP ys) := by simp [turnOf]
theorem turnOf_rec (l : List (UInt8 × List UInt8)) (k : UInt8) (ys : List UInt8) (h : k ≠ 71) : turnOf (l ++ [(k, ys)]) = turnOf l := by simp [turnOf, h]
theorem recsOf_turn (l : List (UInt8 × List UInt8)) (ys : List UInt8) : recsOf (l ++ [(71, ys)]) = recsOf l := by simp [recsOf]
theorem recsOf_rec (l : List (UInt8 × List UInt8)) (k : UInt8) (ys : List UInt8) (h : k ≠ 71) : recsOf (l ++ [(k, ys)]) = recsOf l ++ [ys] := by simp [recsOf, h]
theorem recsOf_len (l : List (UInt8 × List UInt8)) : (recsOf l).length ≤ l.length := by unfold recsOf; rw [List.length_map]; exact List.length_filter_le _ _
theorem numberP_bound (xs : List UInt8) : 0 ≤ numberP xs ∧ numberP xs ≤ 1099511627776 := by
  have := numP_small xs
  unfold numberP
  split
  · omega
  · omega
theorem turnOf_bound : ∀ l, 0 ≤ turnOf l ∧ turnOf l ≤ 1099511627776 := by
  refine rev_ind (by decide) fun l p ih => ?_
  by_cases h : p.1 = 71
  · have := numberP_bound p.2
    have e : p = (71, p.2) := Prod.ext h rfl
    rw [e, turnOf_turn]; omega
  · have e : p = (p.1, p.2) := rfl
    rw [e, turnOf_rec _ _ _ h]; exact ih
theorem fault_look (tb : Nat) (n : Int) (T : TS) (F : Nat → Prop) (w : World) (h : TapeR w tb T F) :
    Calls Tryz.prog 41 #[.pointer (some ⟨tb, 0, none⟩), .int .i64 n] w fun e w' => ∃ A c m, e = .returned (.tuple #[.slice A m c, .int .i64 (faultN T.off n)]) ∧ m = (T.read n).length ∧ m ≤ c ∧ RB w' A (T.read n) ∧ Below w.heap.size w w' ∧ ∀ a, A = some a → w.heap.size ≤ a.block := by
  refine (read_any tb n T F w h).mono ?_
  rintro e w' ⟨v, rfl, ho, hb, hown⟩
  have hl : (T.read n).length ≤ 140737488355328 := by
    obtain ⟨_, _, _, ht⟩ := h
    have := TS.read_len ht.wf n
    omega
  obtain ⟨A, c, rfl, hr, hc, hA⟩ := ho.reads' hl
  exact ⟨A, c, _, rfl, rfl, hc, hr, hb, fun a ha => hown _ (hA a ha)⟩
/-- What lies between two rounds of look. -/
def ILk (s D : Nat) (pre : List (UInt8 × List UInt8)) (W : World) : Prop := ∃ (lv : Value) (cs : List Value), Blk W s #[.int .i64 (turnOf pre)] 3 ∧ Blk W (s + 1) #[lv] 36 ∧
  W.ownsRow (D + 2) 35 1 lv (recsOf pre).length cs ∧
  ∀ (j : Nat) (c : Value) (p : List UInt8), cs[j]? = some c → (recsOf pre)[j]? = some p → CB (D + 2) (fun k => lv.ownBlock = some k) W c p
theorem ILk.fr {s D : Nat} {pre : List (UInt8 × List UInt8)} {W W' : World} {F : Nat → Prop} (h : ILk s D pre W) (hf : Fr F W W') (hF : ∀ k, F k → s + 1 < k ∧ (k < D + 2 ∨ W.heap.size ≤ k)) : ILk s D pre W' := by
  obtain ⟨lv, cs, h1, h2, h4, h5⟩ := h
  refine ⟨lv, cs, h1.fr hf (fun hs => by have := (hF _ hs).1; omega), h2.fr hf (fun hs => by have := (hF _ hs).1; omega), own_fr h4 hf (fun k hk h => ?_), fun j c p hc hp => (h5 j c p hc hp).fr hf (fun k hk => ?_)⟩
  · have := h4.lt k hk; have := (hF k h).2; omega
  · rcases (hF k hk).2 with h | h
    · exact .inl h
    · exact .inr (.inr h)
set_option maxRecDepth 100000 in
set_option maxHeartbeats 4000000 in
theorem look_any (tb : Nat) (a : Int) (T : TS) (F : Nat → Prop) (w : World) (h : TapeR w tb T F) :
    Calls Tryz.prog 47 #[.pointer (some ⟨tb, 0, none⟩), .int .i64 a] w fun e w' => ∃ lv, e = .returned (.tuple #[.int .i64 (turnOf (framesP (T.read a))), lv]) ∧ OL w.heap.size w' lv (recsOf (framesP (T.read a))) ∧ Below w.heap.size w w' := by
  obtain ⟨i1, hi1, hy0, hy1, hy2⟩ := info_parts info_row
  have hlb : (T.read a).length ≤ 1073741824 := by
    obtain ⟨_, _, _, ht⟩ := h
    exact TS.read_len ht.wf a
  obtain ⟨b, hb⟩ : ∃ b, b = T.read a := ⟨_, rfl⟩
  rw [← hb] at hlb ⊢
  refine (callsIn_wide (n := 5)).1 ?_
  refine callsIn_of_wp_marks Tryz.func47 rfl trivial ?_
  simp only [Tryz.ntmps47, List.size_toArray, List.length_cons, List.length_nil, Nat.reduceAdd, Nat.reduceSub, Array.replicate_succ, Array.replicate_zero, List.push_toArray, List.append_toArray, List.nil_append, List.cons_append]
  refine wpIn_wide.2 ?_
  go_wp2_with fail
  obtain ⟨w0, hw0⟩ : ∃ w0, w0 = (w.alloc (.cells #[.int .i64 0] 3)).alloc (.cells #[.slice none 0 0] 36) := ⟨_, rfl⟩
  rw [← hw0]
  have hs0 : w0.heap.size = w.heap.size + 2 := by rw [hw0]; simp
  have ha0 : Blk w0 w.heap.size #[.int .i64 0] 3 := by rw [hw0]; exact (Blk.new w _ _).alloc _
  have ha1 : Blk w0 (w.heap.size + 1) #[.slice none 0 0] 36 := by
    rw [hw0]
    have := Blk.new (w.alloc (.cells #[.int .i64 0] 3)) #[.slice none 0 0] 36
    rw [World.size_alloc] at this
    exact this
  have hbw0 : Below w.heap.size w w0 := by
    rw [hw0]; exact ((Below.refl _ w).alloc (Nat.le_refl _) _).alloc (by simp) _
  clear hw0
  refine (fault_look tb a T F w0 (h.below hbw0)).mono ?_
  rintro e w2 ⟨A, c, n, rfl, hn, hc, hr, hb2, hAf⟩
  obtain ⟨fe, hfe⟩ : ∃ fe, fe = faultN T.off a := ⟨_, rfl⟩
  rw [← hfe]
  rw [← hb] at hn hr
  have hfl := framesP_len b
  rw [← hn] at hlb hfl
  have HN := Lib.hid hn
  have HA0 := Lib.hid (ha0.below hb2)
  have HA1 := Lib.hid (ha1.below hb2)
  have hs2 : w.heap.size + 2 ≤ w2.heap.size := by have := hb2.size; omega
  have HB2 := Lib.hid (hbw0.trans (Below.up hb2 (by omega)))
  clear hn hb hfe h ha0 ha1 hb2 hbw0
  go_wp2_with fail
  refine (all_any (.slice A n c) w2 A n c rfl).mono ?_
  rintro e w1 ⟨rfl, rfl⟩
  go_wp2_with fail
  obtain ⟨w1, hw1⟩ : ∃ w1, w1 = w2.alloc (.cells #[.slice A n c] 35) := ⟨_, rfl⟩
  rw [← hw1]
  have hs1 : w1.heap.size = w2.heap.size + 1 := by rw [hw1]; simp
  have hbn : Blk w1 w2.heap.size #[.slice A n c] 35 := by rw [hw1]; exact Blk.new w2 _ _
  have hb21 : Below w2.heap.size w2 w1 := by rw [hw1]; exact (Below.refl _ _).alloc (Nat.le_refl _) _
  have HA0 := Lib.hid (HA0.out.below hb21)
  have HA1 := Lib.hid (HA1.out.below hb21)
  have hbw : Below w.heap.size w w1 := HB2.out.trans (Below.up hb21 (by omega))
  clear hw1
  refine wp_rangeFunc_c (gf := 79) (lb := #[.pointer (some ⟨w2.heap.size, 0, none⟩)]) rfl (enters_of Tryz.func79 (by kernel_rfl) rfl) rfl w2.heap.size (by omega)
    (fun i => i = w.heap.size ∨ i = w.heap.size + 1 ∨ w1.heap.size + 2 ≤ i) (fun i hi => by omega) (framesP b) ?seq (fun pre W => ILk w.heap.size w1.heap.size pre W ∧ Below w.heap.size w W) ?hI ?h0
    (fun k ys A' c' => { tmps := #[.pointer (some ⟨tb, 0, none⟩), .int .i64 a, undef, undef, .pointer (some ⟨w.heap.size, 0, none⟩), .pointer (some ⟨w.heap.size + 1, 0, none⟩), .slice A n c, .int .i64 fe, .int .u8 (k.toNat : Int), .slice A' ys.length c', .tuple #[.slice A n c, .int .i64 fe], .pointer (some ⟨tb, 0, none⟩), .int .i64 a, .tuple #[.slice A n c, .int .i64 fe], .slice A n c, .int .i64 fe, .slice A n c, .func (.func 79) #[] #[.pointer (some ⟨w2.heap.size, 0, none⟩)], .int .u8 (k.toNat : Int), .slice A' ys.length c', undef, undef, undef, undef, undef, undef, undef, undef, undef, undef, undef, undef], defers := [] }) ?assign ?body ?done
  case seq =>
    intro l J W hbW hszW hJ hY h0
    refine all1_any l w2.heap.size A c b _ J W ?_ ?_ ?_ ?_ ?_ ?_ hJ hY h0
    · omega
    · intro a ha h0
      have := rb_lt hr a ha h0
      have := hAf a ha
      omega
    · rw [← HN.out]; exact (hbn.below (hbW.mono (Nat.le_refl _)))
    · exact (hr.below hb21).below hbW
    · rw [← HN.out]; exact hc
    · rw [← HN.out]; omega
  case hI =>
    intro pre W W' h hf
    exact ⟨h.1.fr hf (fun k hk => by omega), Fr.below h.2 hf (fun i hi => by omega)⟩
  case h0 =>
    refine ⟨⟨_, [], HA0.out, HA1.out, World.ownsRow_nil _ _ _ _, fun j c p hc hp => by simp at hc⟩, hbw⟩
  case assign =>
    intro l k ys A' c' W K hK
    gi_wp2
    exact hK
  case body =>
    intro l pre k ys A' c' W0 W hI hf hsz hry hcy hfresh hpre
    obtain ⟨⟨lv, cs, hn0, hl0, hlo, hcs⟩, hBW0⟩ := hI
    have hs13 : w.heap.size + 3 ≤ w1.heap.size := by omega
    clear hs1
    have hn1 : Blk W w.heap.size #[.int .i64 (turnOf pre)] 3 := hn0.fr hf (by omega)
    have c0 := hn1.cell 0
    have f0 := hn1.free 0
    by_cases hk : k = 71
    · subst hk
      have hnum := numberP_bound ys
      have htb := turnOf_bound pre
      obtain ⟨t, ht⟩ : ∃ t, t = turnOf pre := ⟨_, rfl⟩
      replace c0 : W.cell? ⟨w.heap.size, 0, none⟩ = some (.int .i64 t) := by rw [ht]; exact c0
      rw [← ht] at htb
      have HT := Lib.hid ht
      have hly : ys.length ≤ 140737488355328 := hry.1
      have hmx : Tryz.prog.follows .mixedOrders = true := by kernel_rfl
      have hlt := hn1.lt
      obtain ⟨q, hq⟩ : ∃ q, q = numberP ys := ⟨_, rfl⟩
      have hcall := number_rec W.heap.size A' c' ys W.drew (Nat.le_refl _) (hry.below (Below.refl _ _).drew) hly
      rw [← hq] at hcall hnum
      have HQ := Lib.hid hq
      obtain ⟨yn, hyn⟩ : ∃ yn, yn = ys.length := ⟨_, rfl⟩
      rw [← hyn] at hcall hcy ⊢
      have HYN := Lib.hid hyn
      have HH := Lib.hid (And.intro hcs hn0)
      clear hyn hq ht hcs hn0 hn1
      gi_wp2_with fail
      gi_region_with_o (refine ⟨trivial, ?_⟩; gi_at_call 67; refine (CallsIn.inRound l (callsIn_wide.2 hcall)).mono ?_; rintro e w5 ⟨rfl, hb5⟩; have c5 := (hb5.cell (p := ⟨w.heap.size, 0, none⟩) hlt).trans c0; have f5 := (hb5.frozen (p := ⟨w.heap.size, 0, none⟩) hlt).trans f0)
      all_goals (
        have hf9 : Fr (fun i => i = w.heap.size) W (w5.setCell ⟨w.heap.size, 0, none⟩ (.int .i64 (if t < q then q else t))) :=
          (Fr.of_below ((Below.refl _ W).drew.trans hb5)).trans (Fr.setCell (fun i => i = w.heap.size) _ ⟨w.heap.size, 0, none⟩ _ rfl) fun i h => .inl h
        have hn9 : Blk (w5.setCell ⟨w.heap.size, 0, none⟩ (.int .i64 (if t < q then q else t))) w.heap.size #[.int .i64 (if t < q then q else t)] 3 :=
          ((HH.out.2.fr hf (by omega)).below ((Below.refl _ W).drew.trans hb5)).set 0 _
        have hmax : turnOf (pre ++ [(71, ys)]) = if t < q then q else t := by rw [turnOf_turn, ← HT.out, ← HQ.out]; omega
        obtain ⟨W9, hW9⟩ : ∃ W9, W9 = w5.setCell ⟨w.heap.size, 0, none⟩ (.int .i64 (if t < q then q else t)) := ⟨_, rfl⟩
        rw [← hW9] at hf9 hn9 ⊢
        suffices h : Exit.normal = Exit.normal ∧ Fr (fun i => i = w.heap.size ∨ i = w.heap.size + 1 ∨ w1.heap.size + 2 ≤ i) W W9 ∧ (ILk w.heap.size w1.heap.size (pre ++ [(71, ys)]) W9 ∧ Below w.heap.size w W9) from h
        refine ⟨rfl, hf9.mono fun i h => .inl (.inl h), ⟨lv, cs, ?_, ?_, ?_, ?_⟩, ?_⟩
        · rw [hmax]; exact hn9
        · exact (hl0.fr hf (by omega)).fr hf9 (by omega)
        · rw [recsOf_turn]; exact own_fr (own_fr hlo hf (fun k hk => by have := (hlo.lt k hk).1; omega)) hf9 (fun k hk => by have := (hlo.lt k hk).1; omega)
        · rw [recsOf_turn]
          intro j cc p hc hp
          exact ((HH.out.1 j cc p hc hp).fr hf (fun i hi => .inl (by omega))).fr hf9 (fun i hi => .inl (by omega))
        · exact Fr.below (Fr.below hBW0 hf (fun i hi => by omega)) hf9 (fun i hi => by omega))
    · have hkn : ¬ (k.toNat : Int) = 71 := fun h => hk (UInt8.toNat_inj.1 (by show k.toNat = 71; omega))
      have hkb : ((k.toNat : Int) == 71) = false := by simp only [beq_eq_false_iff_ne, ne_eq]; exact hkn
      have hpl : pre.length + 1 ≤ 1073741824 := by
        have := hpre.length_le
        simp at this
        omega
      have hrl := recsOf_len pre
      have hl1 : Blk W (w.heap.size + 1) #[lv] 36 := hl0.fr hf (by omega)
      have hlo1 := own_fr hlo hf (fun k hk => by have := (hlo.lt k hk).1; omega)
      have hWs := hf.size
      have d0 : W.cell? ⟨w.heap.size + 1, 0, none⟩ = some lv := hl1.cell 0
      obtain ⟨N, hN⟩ : ∃ N, N = (recsOf pre).length := ⟨_, rfl⟩
      rw [← hN] at hlo hlo1 hrl
      have HH := Lib.hid (And.intro hcs hn0)
      have HNN := Lib.hid hN
      clear hcs hn0 hn1 c0 f0 hN
      gi_wp2_with (gi_at_builtin; refine (fun (h : Hid _) => h.out) ?_)
      refine Lib.hid ?_
      refine wpListIn_append_own_at _ rfl _ _ 36 rfl (w1.heap.size + 2) 35 i1 (.slice none 0 0) 1 24 Tryz.underlying36 hi1 hy0 hy1 hy2 rfl (by decide) lv N cs rfl (own_fr hlo1 (Fr.alloc (fun _ => False) _ _) (fun _ _ h => h)) ⟨W.heap.size, 0, none⟩ 1 1 [.slice A' ys.length c'] rfl rfl (cell_one_new _ _ _) (by simp [Value.oneCell']) (by simp only [maxLen]; omega) (by omega) (by simp; omega) ?_
      intro v2 w4 hown2 hgrow2 _ hat2
      obtain ⟨p1, p2, p3, p4, p5, p6, p7, p8⟩ := pushed hl1 hlo1 (by omega) hown2 hgrow2 hat2
      obtain ⟨g2, cap2, rfl⟩ := ownsRow_succ hown2
      have HP2 := Lib.hid (And.intro p3 (And.intro p4 (And.intro p6 (And.intro p7 p8))))
      clear hown2 hgrow2 hat2 p3 p4 p5 p6 p7 p8 d0
      gi_wp2_with fail
      obtain ⟨W5, hW5⟩ : ∃ W5, W5 = w4.setCell ⟨w.heap.size + 1, 0, none⟩ (.slice (some ⟨g2, 0, none⟩) (N + 1) cap2) := ⟨_, rfl⟩
      have hp2 := HP2.out
      rw [← hW5] at hp2 ⊢
      obtain ⟨t1, t2, t3, t4, t5⟩ := hp2
      clear HP2 hW5 p1 p2
      have hob := fun i hi => (hlo1.lt i hi).1
      have hN := HNN.out
      refine ⟨t3.mono fun i h => .inl ?_, ⟨_, cs ++ [.slice A' ys.length c'], ?_, t1, ?_, ?_⟩, ?_⟩
      · rcases h with h | h
        · exact .inr (.inl h)
        · exact .inr (.inr (hob i h))
      · rw [turnOf_rec _ _ _ hk]
        exact (HH.out.2.fr hf (by omega)).fr t3 (fun h => by rcases h with h | h; omega; have := hob _ h; omega)
      · rw [recsOf_rec _ _ _ hk, List.length_append, ← HNN.out]; exact t2
      · rw [recsOf_rec _ _ _ hk]
        have hX : ∀ i, i < W0.heap.size → (Value.slice (some ⟨g2, 0, none⟩) (N + 1) cap2).ownBlock = some i → lv.ownBlock = some i := by
          intro i hi h
          rcases t4 with t4 | ⟨k', t4, t4'⟩
          · rw [t4] at h; exact h
          · rw [t4] at h; cases h; omega
        intro j cc p hc hp
        have hcl : cs.length = N := by have := hlo.1; omega
        rcases Nat.lt_or_ge j N with hj | hj
        · rw [List.getElem?_append_left (by omega)] at hc
          rw [List.getElem?_append_left (by omega)] at hp
          have h0 := HH.out.1 j cc p hc hp
          have h1 := h0.fr hf (fun i hi => .inl (by omega))
          refine CB.mono2 h0 (h1.fr t3 (fun i hi => ?_)) (Nat.le_refl _) hX
          rcases hi with hi | hi
          · exact .inl (by omega)
          · exact .inr (.inl hi)
        · rw [List.getElem?_append_right (by omega)] at hc
          rw [List.getElem?_append_right (by omega), ← hN] at hp
          have e0 : j - N = 0 := by
            rcases Nat.eq_zero_or_pos (j - N) with h | h
            · exact h
            · rw [List.getElem?_eq_none (by simp; omega)] at hp; cases hp
          rw [hcl, e0] at hc
          rw [e0] at hp
          simp at hc hp
          subst hc; subst hp
          refine ⟨A', c', rfl, hcy, hry.fr2 t3 (fun a ha h0 hi => ?_), fun a ha h0 => ⟨?_, fun hi => ?_⟩⟩
          · have h1 := hfresh a ha h0
            rcases hi with hi | hi
            · omega
            · have := (hlo.lt _ hi).2; omega
          · have h1 := hfresh a ha h0; omega
          · have h1 := hfresh a ha h0
            have h2 := rb_lt hry a ha h0
            rcases t4 with t4 | ⟨k', t4, t4'⟩
            · rw [t4] at hi; have := (hlo.lt _ hi).2; omega
            · rw [t4] at hi; cases hi; omega
      · exact Fr.below (Fr.below hBW0 hf (fun i hi => by omega)) t3 (fun i hi => by
          rcases hi with hi | hi
          · omega
          · have := hob i hi; omega)
  case done =>
    intro W hI hK
    obtain ⟨⟨lv, cs, hk0, hl0, hlo, hcs⟩, hBW⟩ := hI
    obtain ⟨t, ht⟩ : ∃ t, t = turnOf (framesP b) := ⟨_, rfl⟩
    rw [← ht] at hk0
    have c0 : W.cell? ⟨w.heap.size, 0, none⟩ = some (.int .i64 t) := hk0.cell 0
    have c1 : W.cell? ⟨w.heap.size + 1, 0, none⟩ = some lv := hl0.cell 0
    have f0 := hk0.free 0
    have f1 := hl0.free 0
    obtain ⟨lA, lc, rfl⟩ := own_form hlo
    obtain ⟨N, hN⟩ : ∃ N, N = (recsOf (framesP b)).length := ⟨_, rfl⟩
    rw [← hN] at hlo c1 hl0 hcs
    have HH := Lib.hid (And.intro hlo (And.intro hcs (And.intro hBW (And.intro hk0 (And.intro hl0 (And.intro ht (And.intro hN (And.intro hs1 hK))))))))
    have hs13 : w.heap.size + 3 ≤ w1.heap.size := by omega
    clear hlo hcs hBW hk0 hl0 ht hN hs1 hK
    go_wp2_with fail
    go_region
    all_goals go_wp2_with fail
    obtain ⟨W9, hW9⟩ : ∃ W9, W9 = ((W.setCell ⟨w.heap.size, 0, none⟩ (.int .i64 t)).setCell ⟨w.heap.size + 1, 0, none⟩ (.slice lA N lc)).drew := ⟨_, rfl⟩
    obtain ⟨hlo, hcs, hBW, hk0, hl0, ht, hN, hs1, hK⟩ := HH.out
    have hf9 : Fr (fun i => i = w.heap.size ∨ i = w.heap.size + 1) W W9 := by
      rw [hW9]
      exact ((Fr.setCell _ W ⟨w.heap.size, 0, none⟩ _ (.inl rfl)).trans (Fr.setCell (fun i => i = w.heap.size + 1) _ ⟨w.heap.size + 1, 0, none⟩ _ rfl) fun i h => .inl (.inr h)).trans (Fr.drew (fun _ => False) _) fun i h => h.elim
    have hk9 : Blk W9 w.heap.size #[.int .i64 t] 3 := by
      rw [hW9]; exact ((hk0.set 0 (.int .i64 t)).setOther ⟨w.heap.size + 1, 0, none⟩ _ (by simp)).drew
    have hl9 : Blk W9 (w.heap.size + 1) #[.slice lA N lc] 36 := by
      rw [hW9]; exact ((hl0.setOther ⟨w.heap.size, 0, none⟩ _ (by simp)).set 0 (.slice lA N lc)).drew
    have hK9 : W9.heap[w1.heap.size]? = some (.deferred (some [])) := (hf9.block _ (Array.getElem?_eq_some_iff.1 hK).1 (by omega)).trans hK
    rw [← hW9]
    clear hW9
    refine ⟨by simp, .inl ⟨_, _, rfl, run_takeDeferred hK9, ?_⟩⟩
    have hf10 : Fr (fun i => i = w1.heap.size) W9 (W9.putObj w1.heap.size (.deferred none)) := Fr.put _ _ _ rfl
    have hk10 := (hk9.fr hf10 (by omega)).cell 0
    have hl10 := (hl9.fr hf10 (by omega)).cell 0
    have hf : Fr (fun i => i = w.heap.size ∨ i = w.heap.size + 1 ∨ i = w1.heap.size) W (W9.putObj w1.heap.size (.deferred none)) :=
      (hf9.mono fun i h => .inl (by omega)).trans hf10 fun i h => .inl (by omega)
    have hlo10 := own_fr hlo hf (fun k hk => by have := (hlo.lt k hk).1; omega)
    refine ⟨.tuple #[.int .i64 t, .slice lA N lc], ?_, .slice lA N lc, by rw [ht], ⟨cs, ?_, ?_⟩, Fr.below hBW hf (fun i hi => by omega)⟩
    · simp [results, Tryz.f47, go_sem, hk10, hl10]
    · rw [← hN]; exact own_base hlo10 (by omega)
    · intro j cc p hc hp
      exact ((hcs j cc p hc hp).fr hf (fun i hi => .inl (by omega))).mono (by omega) (fun k _ h => h)

end Go.Proofs.YtdhafdejionefaaGreat

/- The walks of the journal's methods: fault, Sync, Append, Turn, On. -/
namespace Go.Proofs.YtdhafdejionefaaGreat
set_option linter.unusedVariables false
set_option linter.unusedSimpArgs false
open Go.RowKit

/-- What a journal has, beside its tape. -/
structure JS where
  area : Int
  turn : Int
  bytes : Int
  fails : Int
def jcells (tb : Nat) (J : JS) : Array Value := #[.pointer (some ⟨tb, 0, none⟩), .int .i64 J.area, .int .i64 J.turn, .int .i64 J.bytes, .int .i64 J.fails]
/-- Block jb is a journal that has J, on the tape tb that has T. -/
structure JR (w : World) (jb tb : Nat) (J : JS) (T : TS) (F : Nat → Prop) : Prop where
  blk : Blk w jb (jcells tb J) 83
  tape : TapeR w tb T F
  no : ¬ F jb
def FJ (F : Nat → Prop) (jb : Nat) : Nat → Prop := fun k => F k ∨ k = jb
theorem JR.fr {w w' : World} {jb tb : Nat} {J : JS} {T : TS} {F G : Nat → Prop} (h : JR w jb tb J T F) (hf : Fr G w w') (hG : ∀ k, F k → ¬ G k) (hj : ¬ G jb) : JR w' jb tb J T F :=
  ⟨h.blk.fr hf hj, h.tape.fr hf hG, h.no⟩
theorem JR.below {w w' : World} {jb tb : Nat} {J : JS} {T : TS} {F : Nat → Prop} (h : JR w jb tb J T F) (hb : Below w.heap.size w w') : JR w' jb tb J T F :=
  ⟨h.blk.below hb, h.tape.below hb, h.no⟩
theorem JR.upd {w w' : World} {jb tb : Nat} {J : JS} {T T' : TS} {F F' : Nat → Prop} (h : JR w jb tb J T F) (ht : TapeR w' tb T' F') (hu : Upd w w' F F') : JR w' jb tb J T' F' ∧ Upd w w' (FJ F jb) (FJ F' jb) :=
  ⟨⟨h.blk.fr hu.fr h.no, ht, fun hf => (hu.new jb hf).elim h.no (fun h' => by have := h.blk.lt; omega)⟩,
   hu.fr.mono (fun i hi => .inl (.inl hi)), fun k hk => hk.elim (fun h => (hu.new k h).elim (fun h => .inl (.inl h)) .inr) (fun h => .inl (.inr h))⟩
/-- A cell of the journal is set. -/
theorem JR.set {w : World} {jb tb : Nat} {J J' : JS} {T : TS} {F : Nat → Prop} (h : JR w jb tb J T F) (i : Nat) (v : Value) (hJ : (jcells tb J).setIfInBounds i v = jcells tb J') :
    JR (w.setCell ⟨jb, i, none⟩ v) jb tb J' T F ∧ Upd w (w.setCell ⟨jb, i, none⟩ v) (FJ F jb) (FJ F jb) :=
  ⟨⟨by have := h.blk.set i v; rw [hJ] at this; exact this, h.tape.fr (Fr.setCell (fun k => k = jb) w ⟨jb, i, none⟩ v rfl) (fun k hk e => h.no (e ▸ hk)), h.no⟩,
   Fr.setCell _ w ⟨jb, i, none⟩ v (.inr rfl), fun k hk => .inl hk⟩
def DoesJ (w : World) (jb tb : Nat) (F : Nat → Prop) (r : Int × TS × JS) (e : Ending) (w' : World) : Prop :=
  e = .returned (.int .i64 r.1) ∧ ∃ F', JR w' jb tb r.2.2 r.2.1 F' ∧ Upd w w' (FJ F jb) (FJ F' jb)
def JS.fault (J : JS) (T : TS) : Int := if T.off = false ∧ T.fails = J.fails then 0 else 150
def JS.sync (J : JS) (T : TS) : Int × TS × JS := if J.fault T ≠ 0 then (J.fault T, T, J) else ((T.sync J.area).1, (T.sync J.area).2, J)
def JS.append (J : JS) (T : TS) (xs : List UInt8) : Int × TS × JS :=
  if J.fault T ≠ 0 then (J.fault T, T, J) else if 4194304 < xs.length then (3, T, J)
  else if (T.append J.area (frameB 68 xs)).1 = 0 then (0, (T.append J.area (frameB 68 xs)).2, { J with bytes := wrap64 (J.bytes + ((frameB 68 xs).length : Int)) })
  else ((T.append J.area (frameB 68 xs)).1, (T.append J.area (frameB 68 xs)).2, J)
variable {w : World} {jb tb : Nat} {J : JS} {T : TS} {F : Nat → Prop}
theorem JR.c0 (h : JR w jb tb J T F) : w.cell? ⟨jb, 0, none⟩ = some (.pointer (some ⟨tb, 0, none⟩)) := h.blk.cell 0
theorem JR.c1 (h : JR w jb tb J T F) : w.cell? ⟨jb, 1, none⟩ = some (.int .i64 J.area) := h.blk.cell 1
theorem JR.c2 (h : JR w jb tb J T F) : w.cell? ⟨jb, 2, none⟩ = some (.int .i64 J.turn) := h.blk.cell 2
theorem JR.c3 (h : JR w jb tb J T F) : w.cell? ⟨jb, 3, none⟩ = some (.int .i64 J.bytes) := h.blk.cell 3
theorem JR.c4 (h : JR w jb tb J T F) : w.cell? ⟨jb, 4, none⟩ = some (.int .i64 J.fails) := h.blk.cell 4
set_option maxHeartbeats 1000000 in
theorem jfault_any (h : JR w jb tb J T F) : Calls Tryz.prog 45 #[.pointer (some ⟨jb, 0, none⟩)] w fun e w' => e = .returned (.int .i64 (J.fault T)) ∧ Below w.heap.size w w' := by
  obtain ⟨v, hv⟩ : ∃ v, v = J.fault T := ⟨_, rfl⟩
  rw [← hv]
  unfold JS.fault at hv
  have c0 := h.c0
  go_enter Tryz.func45, Tryz.ntmps45
  go_wp2_with fail
  refine (counts_any tb T F w h.tape).mono ?_
  rintro e w1 ⟨rfl, n, hw1⟩
  have hb : Below w.heap.size w w1 := by rw [hw1]; exact ⟨rfl, rfl, rfl, Nat.le_refl _, fun _ _ => rfl⟩
  have h1 := h.below hb
  have HB := Lib.hid hb
  clear hw1 hb c0 h
  have c0 := h1.c0
  have c4 := h1.c4
  go_wp2_with fail
  refine (on_any tb T F w1 h1.tape).mono ?_
  rintro e w2 ⟨rfl, rfl⟩
  obtain ⟨f1, hf1⟩ : ∃ f, f = T.fails := ⟨_, rfl⟩
  obtain ⟨f2, hf2⟩ : ∃ f, f = J.fails := ⟨_, rfl⟩
  obtain ⟨o, ho⟩ : ∃ o, o = T.off := ⟨_, rfl⟩
  rw [← hf1, ← hf2, ← ho] at hv
  rw [← hf2] at c4
  rw [← hf1, ← ho]
  clear hf1 hf2 ho h1
  cases o with
  | true =>
    rw [if_neg (by simp)] at hv
    subst hv
    go_wp2_with fail
    go_ret
    exact ⟨rfl, HB.out⟩
  | false =>
    by_cases hf : f1 = f2
    · rw [if_pos ⟨rfl, hf⟩] at hv
      subst hv
      subst hf
      go_wp2_with fail
      go_ret
      exact ⟨rfl, HB.out⟩
    · rw [if_neg (fun h => hf h.2)] at hv
      subst hv
      have hfb : (f1 == f2) = false := by simp [hf]
      go_wp2_with fail
      go_ret
      exact ⟨rfl, HB.out⟩
theorem turn_any (h : JR w jb tb J T F) : Calls Tryz.prog 12 #[.pointer (some ⟨jb, 0, none⟩)] w fun e w' => e = .returned (.int .i64 J.turn) ∧ Below w.heap.size w w' := by
  go_enter Tryz.func12, Tryz.ntmps12
  go_wp2_with fail
  refine (jfault_any h).mono ?_
  rintro e w1 ⟨rfl, hb⟩
  have h1 := h.below hb
  have c2 := h1.c2
  have HB := Lib.hid hb
  have hv : (J.fault T == 1) = false := by unfold JS.fault; split <;> rfl
  obtain ⟨v, hv'⟩ : ∃ v, v = J.fault T := ⟨_, rfl⟩
  rw [← hv'] at hv ⊢
  clear hb hv' h h1
  go_wp2_with fail
  go_ret
  exact ⟨rfl, HB.out⟩
theorem jon_any (h : JR w jb tb J T F) : Calls Tryz.prog 15 #[.pointer (some ⟨jb, 0, none⟩)] w fun e w' => e = .returned (.bool (J.fault T == 0)) ∧ Below w.heap.size w w' := by
  obtain ⟨b, hb'⟩ : ∃ b, b = (J.fault T == 0) := ⟨_, rfl⟩
  rw [← hb']
  have HB' := Lib.hid hb'
  clear hb'
  go_enter Tryz.func15, Tryz.ntmps15
  go_wp2_with fail
  refine (jfault_any h).mono ?_
  rintro e w1 ⟨rfl, hb⟩
  obtain ⟨v, hv'⟩ : ∃ v, v = J.fault T := ⟨_, rfl⟩
  have hb2 := HB'.out
  rw [← hv'] at hb2 ⊢
  have HB := Lib.hid hb
  clear hb hv' h HB'
  subst hb2
  go_wp2_with fail
  go_ret
  exact ⟨rfl, HB.out⟩
set_option maxHeartbeats 1000000 in
theorem jsync_any (h : JR w jb tb J T F) : Calls Tryz.prog 21 #[.pointer (some ⟨jb, 0, none⟩)] w (DoesJ w jb tb F (J.sync T)) := by
  obtain ⟨r, hr⟩ : ∃ r, r = J.sync T := ⟨_, rfl⟩
  rw [← hr]
  unfold JS.sync at hr
  have HR := Lib.hid hr
  clear hr
  go_enter Tryz.func21, Tryz.ntmps21
  go_wp2_with fail
  refine (jfault_any h).mono ?_
  rintro e w1 ⟨rfl, hb⟩
  have h1 := h.below hb
  have HB := Lib.hid hb
  obtain ⟨v, hv⟩ : ∃ v, v = J.fault T := ⟨_, rfl⟩
  have hr := HR.out
  rw [← hv] at hr ⊢
  clear hv hb h HR
  by_cases h0 : v = 0
  · subst h0
    rw [if_neg (by simp)] at hr
    subst hr
    have c0 := h1.c0
    have c1 := h1.c1
    go_wp2_with fail
    refine wp_region_phased (fun W => W.cell? ⟨jb, 0, none⟩ = some (.pointer (some ⟨tb, 0, none⟩)) ∧ W.cell? ⟨jb, 1, none⟩ = some (.int .i64 J.area)) 10 (by kernel_rfl) ⟨c0, c1⟩ (fun hS => ?_)
    have h2 := h1.below (Below.refl _ _).drew
    refine wpAnyP_pure (v := ?_) 0 (at_toArray rfl) (by kernel_rfl) (by kernel_rfl) (by kernel_rfl) (fun _ _ _ h => h) (Or.inl ⟨by rfl, fun W => ?_⟩) ?_
    rotate_left 1
    · (go_simp <;> (try go_bits) <;> with_reducible rfl)
    simp only [Act.put, List.setIfInBounds_toArray, List.set_cons_zero, List.set_cons_succ]
    refine wpAnyP_pure (v := ?_) 1 (at_toArray rfl) (by kernel_rfl) (by kernel_rfl) (by kernel_rfl) (fun _ _ _ h => h) (Or.inl ⟨by rfl, fun W => ?_⟩) ?_
    rotate_left 1
    · (go_simp <;> (try go_bits) <;> with_reducible rfl)
    simp only [Act.put, List.setIfInBounds_toArray, List.set_cons_zero, List.set_cons_succ]
    refine wpAnyP_pure (v := ?_) 2 (at_toArray rfl) (by kernel_rfl) (by kernel_rfl) (by kernel_rfl) (fun _ _ _ h => h) (Or.inl ⟨by rfl, fun W => ?_⟩) ?_
    rotate_left 1
    · (go_simp <;> (try go_bits) <;> with_reducible rfl)
    simp only [Act.put, List.setIfInBounds_toArray, List.set_cons_zero, List.set_cons_succ]
    refine wpAnyP_load (v := ?_) 3 (by kernel_rfl) (at_toArray rfl) (by kernel_rfl) (by kernel_rfl) (by kernel_rfl) (fun _ _ _ h => h) (by first | assumption | rfl) (Or.inl ⟨by rfl, fun W hS => ?_⟩) ?_
    rotate_left 1
    · (obtain ⟨_, _⟩ := hS; go_simp <;> (try go_bits) <;> with_reducible rfl)
    simp only [Act.put, List.setIfInBounds_toArray, List.set_cons_zero, List.set_cons_succ]
    refine wpAnyP_pure (v := ?_) 4 (at_toArray rfl) (by kernel_rfl) (by kernel_rfl) (by kernel_rfl) (fun _ _ _ h => h) (Or.inl ⟨by rfl, fun W => ?_⟩) ?_
    rotate_left 1
    · (go_simp <;> (try go_bits) <;> with_reducible rfl)
    simp only [Act.put, List.setIfInBounds_toArray, List.set_cons_zero, List.set_cons_succ]
    refine wpAnyP_pure (v := ?_) 5 (at_toArray rfl) (by kernel_rfl) (by kernel_rfl) (by kernel_rfl) (fun _ _ _ h => h) (Or.inl ⟨by rfl, fun W => ?_⟩) ?_
    rotate_left 1
    · (go_simp <;> (try go_bits) <;> with_reducible rfl)
    simp only [Act.put, List.setIfInBounds_toArray, List.set_cons_zero, List.set_cons_succ]
    refine wpAnyP_pure (v := ?_) 6 (at_toArray rfl) (by kernel_rfl) (by kernel_rfl) (by kernel_rfl) (fun _ _ _ h => h) (Or.inl ⟨by rfl, fun W => ?_⟩) ?_
    rotate_left 1
    · (go_simp <;> (try go_bits) <;> with_reducible rfl)
    simp only [Act.put, List.setIfInBounds_toArray, List.set_cons_zero, List.set_cons_succ]
    refine wpAnyP_load (v := ?_) 7 (by kernel_rfl) (at_toArray rfl) (by kernel_rfl) (by kernel_rfl) (by kernel_rfl) (fun _ _ _ h => h) (by first | assumption | rfl) (Or.inl ⟨by rfl, fun W hS => ?_⟩) ?_
    rotate_left 1
    · (obtain ⟨_, _⟩ := hS; go_simp <;> (try go_bits) <;> with_reducible rfl)
    simp only [Act.put, List.setIfInBounds_toArray, List.set_cons_zero, List.set_cons_succ]
    refine wpAnyP_one 8 (at_toArray rfl) (by kernel_rfl) rfl (fun K hK => ?_)
    go_wp2_with fail
    refine (sync_any tb J.area T F _ h2.tape).mono ?_
    rintro e w3 ⟨rfl, F', ht, hu⟩
    obtain ⟨hj, hu'⟩ := h2.upd ht hu
    have HJ := Lib.hid hj
    have HU := Lib.hid (Upd.trans (Upd.of_below (HB.out.trans (Below.up (Below.refl _ _).drew HB.out.size))) hu')
    clear ht hu hu'
    go_wp2_with fail
    refine hK.out _ _ (fun _ _ => ⟨HJ.out.c0, HJ.out.c1⟩) ?_
    clear hK
    refine wpAnyP_pure (v := ?_) 9 (at_toArray rfl) (by kernel_rfl) (by kernel_rfl) (by kernel_rfl) (fun _ _ _ h => h) (Or.inl ⟨by rfl, fun W => ?_⟩) ?_
    rotate_left 1
    · (go_simp <;> (try go_bits) <;> with_reducible rfl)
    simp only [Act.put, List.setIfInBounds_toArray, List.set_cons_zero, List.set_cons_succ]
    refine wpAnyP_done (by kernel_rfl) ?_ _
    go_wp2_with fail
    go_ret
    exact ⟨rfl, F', HJ.out, HU.out⟩
  · rw [if_pos h0] at hr
    subst hr
    have h0' : (v == 0) = false := by simp [h0]
    go_wp2_with fail
    go_ret
    exact ⟨rfl, F, h1, Upd.of_below HB.out⟩

end Go.Proofs.YtdhafdejionefaaGreat

/- The walks of the journal's methods: Append, left, Bytes, Sure. -/
namespace Go.Proofs.YtdhafdejionefaaGreat
set_option linter.unusedVariables false
set_option linter.unusedSimpArgs false
open Go.RowKit

variable {w : World} {jb tb : Nat} {J : JS} {T : TS} {F : Nat → Prop}
theorem frame_n (B : Nat) (k : UInt8) (A : Option Addr) (c n : Nat) (xs : List UInt8) (w : World) (hn : xs.length = n) (hB : B ≤ w.heap.size) (hr : RB w A xs) (hy : xs.length ≤ 1000000000) :
    Calls Tryz.prog 48 #[.int .u8 (k.toNat : Int), .slice A n c] w fun e w' => ∃ A1 c1, e = .returned (.slice A1 (frameB k xs).length c1) ∧ RB w' A1 (frameB k xs) ∧ (∀ a, A1 = some a → B ≤ a.block) ∧ Below B w w' := by
  subst hn
  refine (frame_any B k A c xs w hB hr hy).mono ?_
  rintro e w' ⟨v, rfl, hv, hb⟩
  have hl : (frameB k xs).length ≤ 140737488355328 := by
    have := nbytes_small (n := xs.length) (by omega)
    rw [frameB_len]; omega
  obtain ⟨A1, c1, rfl, hr1, _, hA⟩ := hv.1.reads' hl
  exact ⟨A1, c1, rfl, hr1, fun a ha => hv.2 _ (hA a ha), hb⟩
set_option maxRecDepth 100000 in
set_option maxHeartbeats 2000000 in
theorem jappend_any (A : Option Addr) (c : Nat) (xs : List UInt8) (h : JR w jb tb J T F) (hx : RB w A xs) :
    Calls Tryz.prog 20 #[.pointer (some ⟨jb, 0, none⟩), .slice A xs.length c] w (DoesJ w jb tb F (J.append T xs)) := by
  obtain ⟨r, hr⟩ : ∃ r, r = J.append T xs := ⟨_, rfl⟩
  rw [← hr]
  unfold JS.append at hr
  obtain ⟨n, hn⟩ : ∃ n, n = xs.length := ⟨_, rfl⟩
  rw [← hn] at hr ⊢
  have HR := Lib.hid hr
  have HN := Lib.hid hn
  have hnb : n ≤ 140737488355328 := by rw [hn]; exact hx.1
  clear hr hn
  go_enter Tryz.func20, Tryz.ntmps20
  go_wp2_with fail
  refine (jfault_any h).mono ?_
  rintro e w1 ⟨rfl, hb⟩
  have h1 := h.below hb
  have hx1 := hx.below hb
  have HB := Lib.hid hb
  obtain ⟨v, hv⟩ : ∃ v, v = J.fault T := ⟨_, rfl⟩
  have hr := HR.out
  rw [← hv] at hr ⊢
  clear hv hb h HR hx
  by_cases h0 : v = 0
  · subst h0
    rw [if_neg (by simp)] at hr
    by_cases hl : 4194304 < n
    · rw [if_pos hl] at hr
      subst hr
      go_wp2_with fail
      go_ret
      exact ⟨rfl, F, h1, Upd.of_below HB.out⟩
    · rw [if_neg hl] at hr
      have HR := Lib.hid hr
      clear hr
      go_wp2_with fail
      refine (frame_n w1.heap.size 68 A c n xs w1 HN.out.symm (Nat.le_refl _) hx1 (by rw [← HN.out]; omega)).mono ?_
      rintro e w2 ⟨A1, c1, rfl, hf, hA1, hb2⟩
      have h2 := h1.below hb2
      have HF := Lib.hid hf
      have HB2 := Lib.hid (HB.out.trans (Below.up hb2 HB.out.size))
      have HA : Hid (∀ a, A1 = some a → 0 < (frameB 68 xs).length → ¬ F a.block) := Lib.hid fun a ha h0 hF => by
        have e1 := hA1 a ha
        obtain ⟨_, _, _, t⟩ := h1.tape
        have := t.flt _ hF
        omega
      have hfl : (frameB 68 xs).length ≤ 1000000000 := by
        have := nbytes_small (n := xs.length) (by rw [← HN.out]; omega)
        rw [frameB_len, ← HN.out]; rw [← HN.out] at this; omega
      obtain ⟨m, hm⟩ : ∃ m, m = (frameB 68 xs).length := ⟨_, rfl⟩
      have hr := HR.out
      rw [← hm] at hr hfl ⊢
      have HM := Lib.hid hm
      have HR := Lib.hid hr
      clear hr hm hb2 hf hA1 h1 hx1
      have c0 := h2.c0
      have c1' := h2.c1
      go_wp2_with fail
      refine wp_region_phased (fun W => W.cell? ⟨jb, 0, none⟩ = some (.pointer (some ⟨tb, 0, none⟩)) ∧ W.cell? ⟨jb, 1, none⟩ = some (.int .i64 J.area)) 11 (by kernel_rfl) ⟨c0, c1'⟩ (fun hS => ?_)
      have h2 := h2.below (Below.refl _ _).drew
      refine wpAnyP_pure (v := ?_) 0 (at_toArray rfl) (by kernel_rfl) (by kernel_rfl) (by kernel_rfl) (fun _ _ _ h => h) (Or.inl ⟨by rfl, fun W => ?_⟩) ?_
      rotate_left 1
      · (go_simp <;> (try go_bits) <;> with_reducible rfl)
      simp only [Act.put, List.setIfInBounds_toArray, List.set_cons_zero, List.set_cons_succ]
      refine wpAnyP_pure (v := ?_) 1 (at_toArray rfl) (by kernel_rfl) (by kernel_rfl) (by kernel_rfl) (fun _ _ _ h => h) (Or.inl ⟨by rfl, fun W => ?_⟩) ?_
      rotate_left 1
      · (go_simp <;> (try go_bits) <;> with_reducible rfl)
      simp only [Act.put, List.setIfInBounds_toArray, List.set_cons_zero, List.set_cons_succ]
      refine wpAnyP_pure (v := ?_) 2 (at_toArray rfl) (by kernel_rfl) (by kernel_rfl) (by kernel_rfl) (fun _ _ _ h => h) (Or.inl ⟨by rfl, fun W => ?_⟩) ?_
      rotate_left 1
      · (go_simp <;> (try go_bits) <;> with_reducible rfl)
      simp only [Act.put, List.setIfInBounds_toArray, List.set_cons_zero, List.set_cons_succ]
      refine wpAnyP_load (v := ?_) 3 (by kernel_rfl) (at_toArray rfl) (by kernel_rfl) (by kernel_rfl) (by kernel_rfl) (fun _ _ _ h => h) (by first | assumption | rfl) (Or.inl ⟨by rfl, fun W hS => ?_⟩) ?_
      rotate_left 1
      · (obtain ⟨_, _⟩ := hS; go_simp <;> (try go_bits) <;> with_reducible rfl)
      simp only [Act.put, List.setIfInBounds_toArray, List.set_cons_zero, List.set_cons_succ]
      refine wpAnyP_pure (v := ?_) 4 (at_toArray rfl) (by kernel_rfl) (by kernel_rfl) (by kernel_rfl) (fun _ _ _ h => h) (Or.inl ⟨by rfl, fun W => ?_⟩) ?_
      rotate_left 1
      · (go_simp <;> (try go_bits) <;> with_reducible rfl)
      simp only [Act.put, List.setIfInBounds_toArray, List.set_cons_zero, List.set_cons_succ]
      refine wpAnyP_pure (v := ?_) 5 (at_toArray rfl) (by kernel_rfl) (by kernel_rfl) (by kernel_rfl) (fun _ _ _ h => h) (Or.inl ⟨by rfl, fun W => ?_⟩) ?_
      rotate_left 1
      · (go_simp <;> (try go_bits) <;> with_reducible rfl)
      simp only [Act.put, List.setIfInBounds_toArray, List.set_cons_zero, List.set_cons_succ]
      refine wpAnyP_pure (v := ?_) 6 (at_toArray rfl) (by kernel_rfl) (by kernel_rfl) (by kernel_rfl) (fun _ _ _ h => h) (Or.inl ⟨by rfl, fun W => ?_⟩) ?_
      rotate_left 1
      · (go_simp <;> (try go_bits) <;> with_reducible rfl)
      simp only [Act.put, List.setIfInBounds_toArray, List.set_cons_zero, List.set_cons_succ]
      refine wpAnyP_load (v := ?_) 7 (by kernel_rfl) (at_toArray rfl) (by kernel_rfl) (by kernel_rfl) (by kernel_rfl) (fun _ _ _ h => h) (by first | assumption | rfl) (Or.inl ⟨by rfl, fun W hS => ?_⟩) ?_
      rotate_left 1
      · (obtain ⟨_, _⟩ := hS; go_simp <;> (try go_bits) <;> with_reducible rfl)
      simp only [Act.put, List.setIfInBounds_toArray, List.set_cons_zero, List.set_cons_succ]
      refine wpAnyP_pure (v := ?_) 8 (at_toArray rfl) (by kernel_rfl) (by kernel_rfl) (by kernel_rfl) (fun _ _ _ h => h) (Or.inl ⟨by rfl, fun W => ?_⟩) ?_
      rotate_left 1
      · (go_simp <;> (try go_bits) <;> with_reducible rfl)
      simp only [Act.put, List.setIfInBounds_toArray, List.set_cons_zero, List.set_cons_succ]
      refine wpAnyP_one 9 (at_toArray rfl) (by kernel_rfl) rfl (fun K hK => ?_)
      go_wp2_with fail
      rw [HM.out]
      refine (append_any tb J.area A1 c1 (frameB 68 xs) T F _ h2.tape (HF.out.below (Below.refl _ _).drew) HA.out).mono ?_
      rw [← HM.out]
      obtain ⟨⟨p, T'⟩, hp⟩ : ∃ p, p = T.append J.area (frameB 68 xs) := ⟨_, rfl⟩
      have hr := HR.out
      rw [← hp] at hr ⊢
      rintro e w3 ⟨rfl, F', ht, hu⟩
      obtain ⟨hj, hu'⟩ := h2.upd ht hu
      have HJ := Lib.hid hj
      have HU := Lib.hid (Upd.trans (Upd.of_below (HB2.out.trans (Below.up (Below.refl _ _).drew HB2.out.size))) hu')
      have d0 := hj.c0
      have d3 := hj.c3
      have e3 := hj.blk.free 3
      have HR := Lib.hid hr
      clear ht hu hu' hj hr hp
      go_wp2_with fail
      refine hK.out _ _ (fun _ _ => ⟨HJ.out.c0, HJ.out.c1⟩) ?_
      clear hK
      refine wpAnyP_pure (v := ?_) 10 (at_toArray rfl) (by kernel_rfl) (by kernel_rfl) (by kernel_rfl) (fun _ _ _ h => h) (Or.inl ⟨by rfl, fun W => ?_⟩) ?_
      rotate_left 1
      · (go_simp <;> (try go_bits) <;> with_reducible rfl)
      simp only [Act.put, List.setIfInBounds_toArray, List.set_cons_zero, List.set_cons_succ]
      refine wpAnyP_done (by kernel_rfl) ?_ _
      by_cases hp0 : p = 0
      · subst hp0
        have hr := HR.out
        rw [if_pos rfl] at hr
        subst hr
        go_wp2_with fail
        go_ret
        obtain ⟨k1, k2⟩ := HJ.out.set (J' := { J with bytes := wrap64 (J.bytes + (m : Int)) }) 3 (.int .i64 (wrap64 (J.bytes + (m : Int)))) rfl
        exact ⟨rfl, F', k1, HU.out.trans k2⟩
      · have hr := HR.out
        rw [if_neg hp0] at hr
        subst hr
        have hp0' : (p == 0) = false := by simp [hp0]
        go_wp2_with fail
        go_ret
        exact ⟨rfl, F', HJ.out, HU.out⟩
  · rw [if_pos h0] at hr
    subst hr
    have h0' : (v == 0) = false := by simp [h0]
    go_wp2_with fail
    go_ret
    exact ⟨rfl, F, h1, Upd.of_below HB.out⟩

def JS.left (J : JS) (T : TS) : Int := if faultN T.off J.area ≠ 0 then T.sure J.area else ((T.read J.area).length : Int)
def JS.len (J : JS) (T : TS) : Int := if J.fault T = 0 then J.bytes else J.left T
set_option maxHeartbeats 1000000 in
theorem jleft_any (h : JR w jb tb J T F) : Calls Tryz.prog 46 #[.pointer (some ⟨jb, 0, none⟩)] w fun e w' => e = .returned (.int .i64 (J.left T)) ∧ Below w.heap.size w w' := by
  obtain ⟨r, hr⟩ : ∃ r, r = J.left T := ⟨_, rfl⟩
  rw [← hr]
  unfold JS.left at hr
  have HR := Lib.hid hr
  clear hr
  have c0 := h.c0
  have c1 := h.c1
  go_enter Tryz.func46, Tryz.ntmps46
  go_wp2_with fail
  refine wp_region_phased (fun W => W.cell? ⟨jb, 0, none⟩ = some (.pointer (some ⟨tb, 0, none⟩)) ∧ W.cell? ⟨jb, 1, none⟩ = some (.int .i64 J.area)) 14 (by kernel_rfl) ⟨c0, c1⟩ (fun hS => ?_)
  have h2 := h.below (Below.refl _ _).drew
  refine wpAnyP_pure (v := ?_) 0 (at_toArray rfl) (by kernel_rfl) (by kernel_rfl) (by kernel_rfl) (fun _ _ _ h => h) (Or.inl ⟨by rfl, fun W => ?_⟩) ?_
  rotate_left 1
  · (go_simp <;> (try go_bits) <;> with_reducible rfl)
  simp only [Act.put, List.setIfInBounds_toArray, List.set_cons_zero, List.set_cons_succ]
  refine wpAnyP_pure (v := ?_) 1 (at_toArray rfl) (by kernel_rfl) (by kernel_rfl) (by kernel_rfl) (fun _ _ _ h => h) (Or.inl ⟨by rfl, fun W => ?_⟩) ?_
  rotate_left 1
  · (go_simp <;> (try go_bits) <;> with_reducible rfl)
  simp only [Act.put, List.setIfInBounds_toArray, List.set_cons_zero, List.set_cons_succ]
  refine wpAnyP_pure (v := ?_) 2 (at_toArray rfl) (by kernel_rfl) (by kernel_rfl) (by kernel_rfl) (fun _ _ _ h => h) (Or.inl ⟨by rfl, fun W => ?_⟩) ?_
  rotate_left 1
  · (go_simp <;> (try go_bits) <;> with_reducible rfl)
  simp only [Act.put, List.setIfInBounds_toArray, List.set_cons_zero, List.set_cons_succ]
  refine wpAnyP_load (v := ?_) 3 (by kernel_rfl) (at_toArray rfl) (by kernel_rfl) (by kernel_rfl) (by kernel_rfl) (fun _ _ _ h => h) (by first | assumption | rfl) (Or.inl ⟨by rfl, fun W hS => ?_⟩) ?_
  rotate_left 1
  · (obtain ⟨_, _⟩ := hS; go_simp <;> (try go_bits) <;> with_reducible rfl)
  simp only [Act.put, List.setIfInBounds_toArray, List.set_cons_zero, List.set_cons_succ]
  refine wpAnyP_pure (v := ?_) 4 (at_toArray rfl) (by kernel_rfl) (by kernel_rfl) (by kernel_rfl) (fun _ _ _ h => h) (Or.inl ⟨by rfl, fun W => ?_⟩) ?_
  rotate_left 1
  · (go_simp <;> (try go_bits) <;> with_reducible rfl)
  simp only [Act.put, List.setIfInBounds_toArray, List.set_cons_zero, List.set_cons_succ]
  refine wpAnyP_pure (v := ?_) 5 (at_toArray rfl) (by kernel_rfl) (by kernel_rfl) (by kernel_rfl) (fun _ _ _ h => h) (Or.inl ⟨by rfl, fun W => ?_⟩) ?_
  rotate_left 1
  · (go_simp <;> (try go_bits) <;> with_reducible rfl)
  simp only [Act.put, List.setIfInBounds_toArray, List.set_cons_zero, List.set_cons_succ]
  refine wpAnyP_pure (v := ?_) 6 (at_toArray rfl) (by kernel_rfl) (by kernel_rfl) (by kernel_rfl) (fun _ _ _ h => h) (Or.inl ⟨by rfl, fun W => ?_⟩) ?_
  rotate_left 1
  · (go_simp <;> (try go_bits) <;> with_reducible rfl)
  simp only [Act.put, List.setIfInBounds_toArray, List.set_cons_zero, List.set_cons_succ]
  refine wpAnyP_load (v := ?_) 7 (by kernel_rfl) (at_toArray rfl) (by kernel_rfl) (by kernel_rfl) (by kernel_rfl) (fun _ _ _ h => h) (by first | assumption | rfl) (Or.inl ⟨by rfl, fun W hS => ?_⟩) ?_
  rotate_left 1
  · (obtain ⟨_, _⟩ := hS; go_simp <;> (try go_bits) <;> with_reducible rfl)
  simp only [Act.put, List.setIfInBounds_toArray, List.set_cons_zero, List.set_cons_succ]
  refine wpAnyP_one 8 (at_toArray rfl) (by kernel_rfl) rfl (fun K hK => ?_)
  go_wp2_with fail
  refine (fault_look tb J.area T F _ h2.tape).mono ?_
  rintro e w3 ⟨A, c, m, rfl, hm, hc, hrr, hb, hAf⟩
  have h3 := h2.below hb
  have HB := Lib.hid (Below.trans (Below.refl _ w).drew hb)
  obtain ⟨v, hv⟩ : ∃ v, v = faultN T.off J.area := ⟨_, rfl⟩
  have hr := HR.out
  rw [← hv, ← hm] at hr
  rw [← hv]
  clear hv hb hrr hAf h h2 HR
  have HR := Lib.hid hr
  clear hr hm
  go_wp2_with fail
  refine hK.out _ _ (fun _ _ => ⟨h3.c0, h3.c1⟩) ?_
  clear hK
  refine wpAnyP_pure (v := ?_) 9 (at_toArray rfl) (by kernel_rfl) (by kernel_rfl) (by kernel_rfl) (fun _ _ _ h => h) (Or.inl ⟨by rfl, fun W => ?_⟩) ?_
  rotate_left 1
  · (go_simp <;> (try go_bits) <;> with_reducible rfl)
  simp only [Act.put, List.setIfInBounds_toArray, List.set_cons_zero, List.set_cons_succ]
  refine wpAnyP_pure (v := ?_) 10 (at_toArray rfl) (by kernel_rfl) (by kernel_rfl) (by kernel_rfl) (fun _ _ _ h => h) (Or.inl ⟨by rfl, fun W => ?_⟩) ?_
  rotate_left 1
  · (go_simp <;> (try go_bits) <;> with_reducible rfl)
  simp only [Act.put, List.setIfInBounds_toArray, List.set_cons_zero, List.set_cons_succ]
  refine wpAnyP_pure (v := ?_) 11 (at_toArray rfl) (by kernel_rfl) (by kernel_rfl) (by kernel_rfl) (fun _ _ _ h => h) (Or.inl ⟨by rfl, fun W => ?_⟩) ?_
  rotate_left 1
  · (go_simp <;> (try go_bits) <;> with_reducible rfl)
  simp only [Act.put, List.setIfInBounds_toArray, List.set_cons_zero, List.set_cons_succ]
  refine wpAnyP_pure (v := ?_) 12 (at_toArray rfl) (by kernel_rfl) (by kernel_rfl) (by kernel_rfl) (fun _ _ _ h => h) (Or.inl ⟨by rfl, fun W => ?_⟩) ?_
  rotate_left 1
  · (go_simp <;> (try go_bits) <;> with_reducible rfl)
  simp only [Act.put, List.setIfInBounds_toArray, List.set_cons_zero, List.set_cons_succ]
  refine wpAnyP_pure (v := ?_) 13 (at_toArray rfl) (by kernel_rfl) (by kernel_rfl) (by kernel_rfl) (fun _ _ _ h => h) (Or.inl ⟨by rfl, fun W => ?_⟩) ?_
  rotate_left 1
  · (go_simp <;> (try go_bits) <;> with_reducible rfl)
  simp only [Act.put, List.setIfInBounds_toArray, List.set_cons_zero, List.set_cons_succ]
  refine wpAnyP_done (by kernel_rfl) ?_ _
  by_cases h0 : v = 0
  · subst h0
    have hr := HR.out
    rw [if_neg (by simp)] at hr
    subst hr
    go_wp2_with fail
    go_ret
    exact ⟨rfl, HB.out⟩
  · have hr := HR.out
    rw [if_pos h0] at hr
    have HR := Lib.hid hr
    clear hr
    have h0' : (v == 0) = false := by simp [h0]
    have c0 := h3.c0
    have c1 := h3.c1
    go_wp2_with fail
    refine wp_region_phased (fun W => W.cell? ⟨jb, 0, none⟩ = some (.pointer (some ⟨tb, 0, none⟩)) ∧ W.cell? ⟨jb, 1, none⟩ = some (.int .i64 J.area)) 10 (by kernel_rfl) ⟨c0, c1⟩ (fun hS => ?_)
    have h4 := h3.below (Below.refl _ _).drew
    refine wpAnyP_pure (v := ?_) 0 (at_toArray rfl) (by kernel_rfl) (by kernel_rfl) (by kernel_rfl) (fun _ _ _ h => h) (Or.inl ⟨by rfl, fun W => ?_⟩) ?_
    rotate_left 1
    · (go_simp <;> (try go_bits) <;> with_reducible rfl)
    simp only [Act.put, List.setIfInBounds_toArray, List.set_cons_zero, List.set_cons_succ]
    refine wpAnyP_pure (v := ?_) 1 (at_toArray rfl) (by kernel_rfl) (by kernel_rfl) (by kernel_rfl) (fun _ _ _ h => h) (Or.inl ⟨by rfl, fun W => ?_⟩) ?_
    rotate_left 1
    · (go_simp <;> (try go_bits) <;> with_reducible rfl)
    simp only [Act.put, List.setIfInBounds_toArray, List.set_cons_zero, List.set_cons_succ]
    refine wpAnyP_pure (v := ?_) 2 (at_toArray rfl) (by kernel_rfl) (by kernel_rfl) (by kernel_rfl) (fun _ _ _ h => h) (Or.inl ⟨by rfl, fun W => ?_⟩) ?_
    rotate_left 1
    · (go_simp <;> (try go_bits) <;> with_reducible rfl)
    simp only [Act.put, List.setIfInBounds_toArray, List.set_cons_zero, List.set_cons_succ]
    refine wpAnyP_load (v := ?_) 3 (by kernel_rfl) (at_toArray rfl) (by kernel_rfl) (by kernel_rfl) (by kernel_rfl) (fun _ _ _ h => h) (by first | assumption | rfl) (Or.inl ⟨by rfl, fun W hS => ?_⟩) ?_
    rotate_left 1
    · (obtain ⟨_, _⟩ := hS; go_simp <;> (try go_bits) <;> with_reducible rfl)
    simp only [Act.put, List.setIfInBounds_toArray, List.set_cons_zero, List.set_cons_succ]
    refine wpAnyP_pure (v := ?_) 4 (at_toArray rfl) (by kernel_rfl) (by kernel_rfl) (by kernel_rfl) (fun _ _ _ h => h) (Or.inl ⟨by rfl, fun W => ?_⟩) ?_
    rotate_left 1
    · (go_simp <;> (try go_bits) <;> with_reducible rfl)
    simp only [Act.put, List.setIfInBounds_toArray, List.set_cons_zero, List.set_cons_succ]
    refine wpAnyP_pure (v := ?_) 5 (at_toArray rfl) (by kernel_rfl) (by kernel_rfl) (by kernel_rfl) (fun _ _ _ h => h) (Or.inl ⟨by rfl, fun W => ?_⟩) ?_
    rotate_left 1
    · (go_simp <;> (try go_bits) <;> with_reducible rfl)
    simp only [Act.put, List.setIfInBounds_toArray, List.set_cons_zero, List.set_cons_succ]
    refine wpAnyP_pure (v := ?_) 6 (at_toArray rfl) (by kernel_rfl) (by kernel_rfl) (by kernel_rfl) (fun _ _ _ h => h) (Or.inl ⟨by rfl, fun W => ?_⟩) ?_
    rotate_left 1
    · (go_simp <;> (try go_bits) <;> with_reducible rfl)
    simp only [Act.put, List.setIfInBounds_toArray, List.set_cons_zero, List.set_cons_succ]
    refine wpAnyP_load (v := ?_) 7 (by kernel_rfl) (at_toArray rfl) (by kernel_rfl) (by kernel_rfl) (by kernel_rfl) (fun _ _ _ h => h) (by first | assumption | rfl) (Or.inl ⟨by rfl, fun W hS => ?_⟩) ?_
    rotate_left 1
    · (obtain ⟨_, _⟩ := hS; go_simp <;> (try go_bits) <;> with_reducible rfl)
    simp only [Act.put, List.setIfInBounds_toArray, List.set_cons_zero, List.set_cons_succ]
    refine wpAnyP_one 8 (at_toArray rfl) (by kernel_rfl) rfl (fun K hK => ?_)
    go_wp2_with fail
    refine (sure_any tb J.area T F _ h4.tape).mono ?_
    rw [← HR.out]
    rintro e w5 ⟨rfl, rfl⟩
    go_wp2_with fail
    refine hK.out _ _ (fun _ h => h) ?_
    clear hK
    refine wpAnyP_pure (v := ?_) 9 (at_toArray rfl) (by kernel_rfl) (by kernel_rfl) (by kernel_rfl) (fun _ _ _ h => h) (Or.inl ⟨by rfl, fun W => ?_⟩) ?_
    rotate_left 1
    · (go_simp <;> (try go_bits) <;> with_reducible rfl)
    simp only [Act.put, List.setIfInBounds_toArray, List.set_cons_zero, List.set_cons_succ]
    refine wpAnyP_done (by kernel_rfl) ?_ _
    go_wp2_with fail
    go_ret
    exact ⟨rfl, HB.out.trans (Below.up (Below.refl _ _).drew HB.out.size)⟩
set_option maxHeartbeats 1000000 in
theorem jbytes_any (h : JR w jb tb J T F) : Calls Tryz.prog 11 #[.pointer (some ⟨jb, 0, none⟩)] w fun e w' => e = .returned (.int .i64 (J.len T)) ∧ Below w.heap.size w w' := by
  obtain ⟨r, hr⟩ : ∃ r, r = J.len T := ⟨_, rfl⟩
  rw [← hr]
  unfold JS.len at hr
  have HR := Lib.hid hr
  clear hr
  go_enter Tryz.func11, Tryz.ntmps11
  go_wp2_with fail
  refine (jfault_any h).mono ?_
  rintro e w1 ⟨rfl, hb⟩
  have h1 := h.below hb
  have HB := Lib.hid hb
  have hv : (J.fault T == 1) = false := by unfold JS.fault; split <;> rfl
  obtain ⟨v, hv'⟩ : ∃ v, v = J.fault T := ⟨_, rfl⟩
  rw [← hv'] at hv ⊢
  clear hb hv' h
  have c0 := h1.c0
  have c3 := h1.c3
  go_wp2_with fail
  refine (counts_any tb T F w1 h1.tape).mono ?_
  rintro e w2 ⟨rfl, n, hw2⟩
  have hb : Below w1.heap.size w1 w2 := by rw [hw2]; exact ⟨rfl, rfl, rfl, Nat.le_refl _, fun _ _ => rfl⟩
  have h2 := h1.below hb
  have HB2 := Lib.hid (HB.out.trans (Below.up hb HB.out.size))
  clear hw2 hb c0 c3 h1
  have c0 := h2.c0
  have c4 := h2.c4
  have hr := HR.out
  unfold JS.fault at hr
  obtain ⟨f1, hf1⟩ : ∃ f, f = T.fails := ⟨_, rfl⟩
  obtain ⟨f2, hf2⟩ : ∃ f, f = J.fails := ⟨_, rfl⟩
  rw [← hf1, ← hf2] at hr
  rw [← hf2] at c4
  rw [← hf1]
  clear HR
  have HR := Lib.hid hr
  clear hr hf1 hf2
  by_cases hf : f1 = f2
  · subst hf
    go_wp2_with fail
    refine (on_any tb T F w2 h2.tape).mono ?_
    rintro e w3 ⟨rfl, rfl⟩
    obtain ⟨o, ho⟩ : ∃ o, o = T.off := ⟨_, rfl⟩
    have hr := HR.out
    rw [← ho] at hr ⊢
    clear HR ho
    cases o with
    | true =>
      rw [if_neg (by simp)] at hr
      have HR := Lib.hid hr
      clear hr
      go_wp2_with fail
      refine (jleft_any h2).mono ?_
      rw [← HR.out]
      rintro e w4 ⟨rfl, hb⟩
      have HB3 := Lib.hid (HB2.out.trans (Below.up hb HB2.out.size))
      clear hb
      go_wp2_with fail
      go_ret
      exact ⟨rfl, HB3.out⟩
    | false =>
      rw [if_pos (by simp)] at hr
      subst hr
      go_wp2_with fail
      go_ret
      exact ⟨rfl, HB2.out⟩
  · have hfb : (f1 == f2) = false := by simp [hf]
    have hr := HR.out
    rw [if_neg (by simp [hf])] at hr
    have HR := Lib.hid hr
    clear hr
    go_wp2_with fail
    refine (jleft_any h2).mono ?_
    rw [← HR.out]
    rintro e w4 ⟨rfl, hb⟩
    have HB3 := Lib.hid (HB2.out.trans (Below.up hb HB2.out.size))
    clear hb
    go_wp2_with fail
    go_ret
    exact ⟨rfl, HB3.out⟩
set_option maxHeartbeats 1000000 in
theorem jsure_any (h : JR w jb tb J T F) : Calls Tryz.prog 13 #[.pointer (some ⟨jb, 0, none⟩)] w fun e w' => e = .returned (.bool (T.sure J.area == J.len T)) ∧ Below w.heap.size w w' := by
  obtain ⟨r, hr⟩ : ∃ r, r = (T.sure J.area == J.len T) := ⟨_, rfl⟩
  rw [← hr]
  have HR := Lib.hid hr
  clear hr
  go_enter Tryz.func13, Tryz.ntmps13
  go_wp2_with fail
  refine wp_region_phased (fun W => W.cell? ⟨jb, 0, none⟩ = some (.pointer (some ⟨tb, 0, none⟩)) ∧ W.cell? ⟨jb, 1, none⟩ = some (.int .i64 J.area)) 18 (by kernel_rfl) ⟨h.c0, h.c1⟩ (fun hS => ?_)
  have h1 := h.below (Below.refl _ _).drew
  refine wpAnyP_pure (v := ?_) 0 (at_toArray rfl) (by kernel_rfl) (by kernel_rfl) (by kernel_rfl) (fun _ _ _ h => h) (Or.inl ⟨by rfl, fun W => ?_⟩) ?_
  rotate_left 1
  · (go_simp <;> (try go_bits) <;> with_reducible rfl)
  simp only [Act.put, List.setIfInBounds_toArray, List.set_cons_zero, List.set_cons_succ]
  refine wpAnyP_one 1 (at_toArray rfl) (by kernel_rfl) rfl (fun K hK => ?_)
  go_wp2_with fail
  refine (jfault_any h1).mono ?_
  have hv : (J.fault T == 1) = false := by unfold JS.fault; split <;> rfl
  obtain ⟨v, hv'⟩ : ∃ v, v = J.fault T := ⟨_, rfl⟩
  rw [← hv'] at hv ⊢
  rintro e w1 ⟨rfl, hb⟩
  have h2 := h1.below hb
  have HB := Lib.hid (Below.trans (Below.refl _ w).drew hb)
  have hS2 : w1.cell? ⟨jb, 0, none⟩ = some (.pointer (some ⟨tb, 0, none⟩)) ∧ w1.cell? ⟨jb, 1, none⟩ = some (.int .i64 J.area) := ⟨h2.c0, h2.c1⟩
  clear hv' hb h h1
  go_wp2_with fail
  refine hK.out _ _ (fun _ _ => hS2) ?_
  clear hK hS
  have hvv : ((v != 1)) = true := by simp only [bne, hv]; rfl
  refine wpAnyP_pure (v := ?_) 2 (at_toArray rfl) (by kernel_rfl) (by kernel_rfl) (by kernel_rfl) (fun _ _ _ h => h) (Or.inl ⟨by rfl, fun W => ?_⟩) ?_
  rotate_left 1
  · (go_simp <;> (try go_bits) <;> with_reducible rfl)
  simp only [Act.put, List.setIfInBounds_toArray, List.set_cons_zero, List.set_cons_succ]
  refine wpAnyP_pure (v := ?_) 3 (at_toArray rfl) (by kernel_rfl) (by kernel_rfl) (by kernel_rfl) (fun _ _ _ h => h) (Or.inl ⟨by rfl, fun W => ?_⟩) ?_
  rotate_left 1
  · (go_simp <;> (try go_bits) <;> with_reducible rfl)
  simp only [Act.put, List.setIfInBounds_toArray, List.set_cons_zero, List.set_cons_succ]
  refine wpAnyP_pure (v := ?_) 4 (at_toArray rfl) (by kernel_rfl) (by kernel_rfl) (by kernel_rfl) (fun _ _ _ h => h) (Or.inl ⟨by rfl, fun W => ?_⟩) ?_
  rotate_left 1
  · (go_simp <;> (try go_bits) <;> with_reducible rfl)
  simp only [Act.put, List.setIfInBounds_toArray, List.set_cons_zero, List.set_cons_succ]
  refine wpAnyP_pure (v := ?_) 5 (at_toArray rfl) (by kernel_rfl) (by kernel_rfl) (by kernel_rfl) (fun _ _ _ h => h) (Or.inl ⟨by rfl, fun W => ?_⟩) ?_
  rotate_left 1
  · (go_simp <;> (try go_bits) <;> with_reducible rfl)
  simp only [Act.put, List.setIfInBounds_toArray, List.set_cons_zero, List.set_cons_succ]
  refine wpAnyP_pure (v := ?_) 6 (at_toArray rfl) (by kernel_rfl) (by kernel_rfl) (by kernel_rfl) (fun _ _ _ h => h) (Or.inl ⟨by rfl, fun W => ?_⟩) ?_
  rotate_left 1
  · (go_simp <;> (try go_bits) <;> with_reducible rfl)
  simp only [Act.put, List.setIfInBounds_toArray, List.set_cons_zero, List.set_cons_succ]
  refine wpAnyP_load (v := ?_) 7 (by kernel_rfl) (at_toArray rfl) (by kernel_rfl) (by kernel_rfl) (by kernel_rfl) (fun _ _ _ h => h) (by first | assumption | rfl) (Or.inl ⟨by rfl, fun W hS => ?_⟩) ?_
  rotate_left 1
  · (obtain ⟨_, _⟩ := hS; go_simp <;> (try go_bits) <;> with_reducible rfl)
  simp only [Act.put, List.setIfInBounds_toArray, List.set_cons_zero, List.set_cons_succ]
  refine wpAnyP_pure (v := ?_) 8 (at_toArray rfl) (by kernel_rfl) (by kernel_rfl) (by kernel_rfl) (fun _ _ _ h => h) (Or.inl ⟨by rfl, fun W => ?_⟩) ?_
  rotate_left 1
  · (go_simp <;> (try go_bits) <;> with_reducible rfl)
  simp only [Act.put, List.setIfInBounds_toArray, List.set_cons_zero, List.set_cons_succ]
  refine wpAnyP_pure (v := ?_) 9 (at_toArray rfl) (by kernel_rfl) (by kernel_rfl) (by kernel_rfl) (fun _ _ _ h => h) (Or.inl ⟨by rfl, fun W => ?_⟩) ?_
  rotate_left 1
  · (go_simp <;> (try go_bits) <;> with_reducible rfl)
  simp only [Act.put, List.setIfInBounds_toArray, List.set_cons_zero, List.set_cons_succ]
  refine wpAnyP_pure (v := ?_) 10 (at_toArray rfl) (by kernel_rfl) (by kernel_rfl) (by kernel_rfl) (fun _ _ _ h => h) (Or.inl ⟨by rfl, fun W => ?_⟩) ?_
  rotate_left 1
  · (go_simp <;> (try go_bits) <;> with_reducible rfl)
  simp only [Act.put, List.setIfInBounds_toArray, List.set_cons_zero, List.set_cons_succ]
  refine wpAnyP_load (v := ?_) 11 (by kernel_rfl) (at_toArray rfl) (by kernel_rfl) (by kernel_rfl) (by kernel_rfl) (fun _ _ _ h => h) (by first | assumption | rfl) (Or.inl ⟨by rfl, fun W hS => ?_⟩) ?_
  rotate_left 1
  · (obtain ⟨_, _⟩ := hS; go_simp <;> (try go_bits) <;> with_reducible rfl)
  simp only [Act.put, List.setIfInBounds_toArray, List.set_cons_zero, List.set_cons_succ]
  refine wpAnyP_pure (v := ?_) 13 (at_toArray rfl) (by kernel_rfl) (by kernel_rfl) (by kernel_rfl) (fun _ _ _ h => h) (Or.inl ⟨by rfl, fun W => ?_⟩) ?_
  rotate_left 1
  · (go_simp <;> (try go_bits) <;> with_reducible rfl)
  simp only [Act.put, List.setIfInBounds_toArray, List.set_cons_zero, List.set_cons_succ]
  refine wpAnyP_oneG 12 (at_toArray rfl) (by kernel_rfl) (by rfl) (fun K hK => ?_)
  go_wp2_with fail
  refine (sure_any tb J.area T F w1 h2.tape).mono ?_
  obtain ⟨x, hx⟩ : ∃ x, x = T.sure J.area := ⟨_, rfl⟩
  obtain ⟨y, hy⟩ : ∃ y, y = J.len T := ⟨_, rfl⟩
  have hr := HR.out
  rw [← hx, ← hy] at hr
  rw [← hx]
  rintro e w3 ⟨rfl, rfl⟩
  go_wp2_with fail
  refine hK.out _ _ (fun _ h => h) ?_
  clear hK
  refine wpAnyP_oneG 14 (at_toArray rfl) (by kernel_rfl) (by rfl) (fun K hK => ?_)
  go_wp2_with fail
  refine (jbytes_any h2).mono ?_
  rw [← hy]
  rintro e w4 ⟨rfl, hb⟩
  have h3 := h2.below hb
  have HB2 := Lib.hid (HB.out.trans (Below.up hb HB.out.size))
  have hS3 : w4.cell? ⟨jb, 0, none⟩ = some (.pointer (some ⟨tb, 0, none⟩)) ∧ w4.cell? ⟨jb, 1, none⟩ = some (.int .i64 J.area) := ⟨h3.c0, h3.c1⟩
  have HX := Lib.hid hx
  clear hb hx hy HR
  go_wp2_with fail
  refine hK.out _ _ (fun _ _ => hS3) ?_
  clear hK
  refine wpAnyP_pure (v := ?_) 15 (at_toArray rfl) (by kernel_rfl) (by kernel_rfl) (by kernel_rfl) (fun _ _ _ h => h) (Or.inl ⟨by rfl, fun W => ?_⟩) ?_
  rotate_left 1
  · (go_simp <;> (try go_bits) <;> with_reducible rfl)
  simp only [Act.put, List.setIfInBounds_toArray, List.set_cons_zero, List.set_cons_succ]
  refine wpAnyP_pure (v := ?_) 16 (at_toArray rfl) (by kernel_rfl) (by kernel_rfl) (by kernel_rfl) (fun _ _ _ h => h) (Or.inl ⟨by rfl, fun W => ?_⟩) ?_
  rotate_left 1
  · (go_simp <;> (try go_bits) <;> with_reducible rfl)
  simp only [Act.put, List.setIfInBounds_toArray, List.set_cons_zero, List.set_cons_succ]
  refine wpAnyP_pure (v := ?_) 17 (at_toArray rfl) (by kernel_rfl) (by kernel_rfl) (by kernel_rfl) (fun _ _ _ h => h) (Or.inl ⟨by rfl, fun W => ?_⟩) ?_
  rotate_left 1
  · (go_simp <;> (try go_bits) <;> with_reducible rfl)
  simp only [Act.put, List.setIfInBounds_toArray, List.set_cons_zero, List.set_cons_succ]
  refine wpAnyP_done (by kernel_rfl) ?_ _
  subst hr
  go_wp2_with fail
  go_ret
  have hx := HX.out
  subst hx
  exact ⟨rfl, HB2.out⟩

end Go.Proofs.YtdhafdejionefaaGreat
