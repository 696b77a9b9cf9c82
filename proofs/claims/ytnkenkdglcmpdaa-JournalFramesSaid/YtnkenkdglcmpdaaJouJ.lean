/- Rows of records; the walk of the journal's Frames. -/
import Derived.Maps.OwnIn
import Derived.Maps.AppendAt
import Derived.RangeFuncBox
import Derived.Test.YtnkenkdglcmpdaaJouI
namespace Go.Proofs.Ytnkenkdglcmpdaa
set_option linter.unusedVariables false
set_option linter.unusedSimpArgs false
open Go.RowKit
attribute [local go_sem] Oper.semAt_some

theorem rb_lt {w : World} {A : Option Addr} {xs : List UInt8} (h : RB w A xs) : ∀ a, A = some a → 0 < xs.length → a.block < w.heap.size := fun a ha h0 => by
  obtain ⟨b, off, e, hlt, _⟩ := h.2 h0
  rw [e] at ha; cases ha; exact hlt
theorem own_fr {base : Nat} {e : TypeId} {size : Nat} {v : Value} {n : Nat} {xs : List Value} {F : Nat → Prop} {w w' : World} (h : w.ownsRow base e size v n xs) (hf : Fr F w w') (hn : ∀ k, v.ownBlock = some k → ¬ F k) : w'.ownsRow base e size v n xs := by
  refine ⟨h.1, ?_⟩
  rcases h.2 with h1 | ⟨g, cap, cur, hv, hb, hg, rest⟩
  · exact .inl h1
  · exact .inr ⟨g, cap, cur, hv, hb, (hf.block g (Array.getElem?_eq_some_iff.1 hg).1 (hn g (by rw [hv]; rfl))).trans hg, rest⟩
theorem own_base {base base' : Nat} {e : TypeId} {size : Nat} {v : Value} {n : Nat} {xs : List Value} {w : World} (h : w.ownsRow base e size v n xs) (hb : base' ≤ base) : w.ownsRow base' e size v n xs := by
  refine ⟨h.1, ?_⟩
  rcases h.2 with h1 | ⟨g, cap, cur, hv, hg, rest⟩
  · exact .inl h1
  · exact .inr ⟨g, cap, cur, hv, Nat.le_trans hb hg, rest⟩
theorem own_form {base : Nat} {e : TypeId} {size : Nat} {v : Value} {n : Nat} {xs : List Value} {w : World} (h : w.ownsRow base e size v n xs) : ∃ A c, v = .slice A n c := by
  rcases h.2 with ⟨rfl, rfl⟩ | ⟨g, cap, cur, rfl, _⟩
  · exact ⟨none, 0, rfl⟩
  · exact ⟨_, _, rfl⟩
/-- A cell that reads as bytes; they lie at B or behind it, in no block of X. -/
def CB (B : Nat) (X : Nat → Prop) (w : World) (c : Value) (l : List UInt8) : Prop := ∃ A n, c = .slice A l.length n ∧ l.length ≤ n ∧ RB w A l ∧ ∀ a, A = some a → 0 < l.length → B ≤ a.block ∧ ¬ X a.block
theorem CB.fr {B : Nat} {X F : Nat → Prop} {w w' : World} {c : Value} {l : List UInt8} (h : CB B X w c l) (hf : Fr F w w') (hn : ∀ k, F k → k < B ∨ X k ∨ w.heap.size ≤ k) : CB B X w' c l := by
  obtain ⟨A, n, h1, h2, h3, h4⟩ := h
  exact ⟨A, n, h1, h2, h3.fr2 hf fun a ha h0 hF => by
    have := h4 a ha h0
    rcases hn _ hF with h | h | h
    · omega
    · exact this.2 h
    · have := rb_lt h3 a ha h0; omega, h4⟩
theorem CB.mono {B B' : Nat} {X Y : Nat → Prop} {w : World} {c : Value} {l : List UInt8} (h : CB B X w c l) (hB : B' ≤ B) (hY : ∀ k, k < w.heap.size → Y k → X k) : CB B' Y w c l := by
  obtain ⟨A, n, h1, h2, h3, h4⟩ := h
  exact ⟨A, n, h1, h2, h3, fun a ha h0 => ⟨Nat.le_trans hB (h4 a ha h0).1, fun hy => (h4 a ha h0).2 (hY _ (rb_lt h3 a ha h0) hy)⟩⟩
/-- An owned row of records. -/
def OL (B : Nat) (w : World) (v : Value) (ls : List (List UInt8)) : Prop :=
  ∃ cs : List Value, w.ownsRow B 22 1 v ls.length cs ∧ ∀ (j : Nat) (c : Value) (l : List UInt8), cs[j]? = some c → ls[j]? = some l → CB B (fun k => v.ownBlock = some k) w c l
/-- The same cell, in a later world, beside other blocks. -/
theorem CB.mono2 {B B' : Nat} {X Y : Nat → Prop} {w0 w : World} {c : Value} {l : List UInt8} (h0 : CB B X w0 c l) (h : CB B X w c l) (hB : B' ≤ B) (hY : ∀ k, k < w0.heap.size → Y k → X k) : CB B' Y w c l := by
  obtain ⟨A, n, h1, h2, h3, h4⟩ := h
  obtain ⟨A', n', e1, e2, e3, e4⟩ := h0
  rw [h1] at e1
  cases e1
  exact ⟨A, n, h1, h2, h3, fun a ha h0 => ⟨Nat.le_trans hB (h4 a ha h0).1, fun hy => (h4 a ha h0).2 (hY _ (rb_lt e3 a ha h0) hy)⟩⟩
/-- One value has been appended to the row in a box. -/
theorem pushed {W w' : World} {s B n : Nat} {v v' x : Value} {t E E' : TypeId} {xs : List Value} (hblk : Blk W s #[v] t) (hown : W.ownsRow B E 1 v n xs) (hs : s < B)
    (hown' : w'.ownsRow B E 1 v' (n + 1) (xs ++ [x])) (hg : (W.alloc (.cells #[x] E')).grownBy w' v.ownBlock) (hat : v'.ownBlock = v.ownBlock ∨ v'.ownBlock = some (W.alloc (.cells #[x] E')).heap.size) :
    w'.cell? ⟨s, 0, none⟩ = some v ∧ w'.frozen? ⟨s, 0, none⟩ = false ∧ Blk (w'.setCell ⟨s, 0, none⟩ v') s #[v'] t ∧ (w'.setCell ⟨s, 0, none⟩ v').ownsRow B E 1 v' (n + 1) (xs ++ [x]) ∧
      Fr (fun i => v.ownBlock = some i) W w' ∧ Fr (fun i => i = s ∨ v.ownBlock = some i) W (w'.setCell ⟨s, 0, none⟩ v') ∧ (v'.ownBlock = v.ownBlock ∨ ∃ k, v'.ownBlock = some k ∧ W.heap.size + 1 ≤ k) ∧ W.heap.size + 1 ≤ (w'.setCell ⟨s, 0, none⟩ v').heap.size := by
  have hf1 : Fr (fun i => v.ownBlock = some i) W (W.alloc (.cells #[x] E')) := Fr.alloc _ _ _
  have hf2 : Fr (fun i => v.ownBlock = some i) (W.alloc (.cells #[x] E')) w' := Fr.grown hg (fun k hk => hk)
  have hb : Blk w' s #[v] t := (hblk.alloc _).fr hf2 (fun h => by have := (hown.lt _ h).1; omega)
  have hf3 : Fr (fun i => i = s) w' (w'.setCell ⟨s, 0, none⟩ v') := Fr.setCell _ _ _ _ rfl
  refine ⟨hb.cell 0, hb.free 0, hb.set 0 v', own_fr hown' hf3 (fun k hk => ?_), hf1.trans hf2 fun i h => .inl h, ?_, ?_, ?_⟩
  · have := (hown'.lt k hk).1; omega
  · exact ((hf1.trans hf2 fun i h => .inl h).mono fun i h => .inl (.inr h)).trans hf3 fun i h => .inl (.inl h)
  · rcases hat with h | h
    · exact .inl h
    · exact .inr ⟨_, h, by simp⟩
  · have := hf2.size; have := hf3.size; simp at *; omega
theorem framesP_len (b : List UInt8) : (framesP b).length ≤ b.length := by
  obtain ⟨r, h⟩ := frames_is b
  have : ∀ l : List (UInt8 × List UInt8), l.length ≤ (encs l).length := by
    intro l
    induction l with
    | nil => exact Nat.le_refl _
    | cons p l ih => rw [encs_cons, List.length_append, frameB_len, List.length_cons]; omega
  have h1 := this (framesP b)
  have h2 := congrArg List.length h.eq
  rw [List.length_append] at h2
  omega
theorem info_u8' : (Try.prog.info? 5).map (fun i => (i.zero, i.size, i.bytes)) = some (some (.int .u8 0), 1, 1) := by kernel_rfl
theorem info_row : (Try.prog.info? 22).map (fun i => (i.zero, i.size, i.bytes)) = some (some (.slice none 0 0), 1, 24) := by kernel_rfl
/-- What lies between two rounds of Frames. -/
def IFr (s : Nat) (pre : List (UInt8 × List UInt8)) (W : World) : Prop := ∃ (kv lv : Value) (cs : List Value), Blk W s #[kv] 22 ∧ Blk W (s + 1) #[lv] 67 ∧
  W.ownsRow (s + 5) 5 1 kv pre.length (bv (pre.map (·.1))) ∧ W.ownsRow (s + 5) 22 1 lv pre.length cs ∧
  ∀ (j : Nat) (c : Value) (p : UInt8 × List UInt8), cs[j]? = some c → pre[j]? = some p → CB (s + 5) (fun k => kv.ownBlock = some k ∨ lv.ownBlock = some k) W c p.2
theorem IFr.fr {s : Nat} {pre : List (UInt8 × List UInt8)} {W W' : World} (h : IFr s pre W) (hf : Fr (fun k => k = s + 2 ∨ k = s + 3 ∨ k = s + 4) W W') : IFr s pre W' := by
  obtain ⟨kv, lv, cs, h1, h2, h3, h4, h5⟩ := h
  refine ⟨kv, lv, cs, h1.fr hf (by omega), h2.fr hf (by omega), own_fr h3 hf (fun k hk => ?_), own_fr h4 hf (fun k hk => ?_), fun j c p hc hp => (h5 j c p hc hp).fr hf (fun k hk => .inl (by omega))⟩
  · have := (h3.lt k hk).1; omega
  · have := (h4.lt k hk).1; omega
set_option maxRecDepth 100000 in
set_option maxHeartbeats 4000000 in
theorem frames_any (A : Option Addr) (c : Nat) (b : List UInt8) (w : World) (hr : RB w A b) (hc : b.length ≤ c) (hl : b.length ≤ 1000000000) :
    Calls Try.prog 51 #[.slice A b.length c] w fun e w' => ∃ kv lv, e = .returned (.tuple #[kv, lv]) ∧ OBB w.heap.size w' kv ((framesP b).map (·.1)) ∧ OL w.heap.size w' lv ((framesP b).map (·.2)) ∧ Below w.heap.size w w' := by
  obtain ⟨i0, hi0, hz0, hz1, hz2⟩ := info_parts info_u8'
  obtain ⟨i1, hi1, hy0, hy1, hy2⟩ := info_parts info_row
  have hfl := framesP_len b
  obtain ⟨n, hn⟩ : ∃ n, n = b.length := ⟨_, rfl⟩
  rw [← hn] at hc hl hfl ⊢
  have HN := Lib.hid hn
  clear hn
  refine (callsIn_wide (n := 5)).1 ?_
  refine callsIn_of_wp_marks Try.func51 rfl trivial ?_
  simp only [Try.ntmps51, List.size_toArray, List.length_cons, List.length_nil, Nat.reduceAdd, Nat.reduceSub, Array.replicate_succ, Array.replicate_zero, List.push_toArray, List.append_toArray, List.nil_append, List.cons_append]
  refine wpIn_wide.2 ?_
  go_wp2_with fail
  refine (all_any (.slice A n c) _ A n c rfl).mono ?_
  rintro e w1 ⟨rfl, rfl⟩
  go_wp2_with fail
  obtain ⟨w1, hw1⟩ : ∃ w1, w1 = ((w.alloc (.cells #[.slice none 0 0] 22)).alloc (.cells #[.slice none 0 0] 67)).alloc (.cells #[.slice A n c] 22) := ⟨_, rfl⟩
  rw [← hw1]
  have hs1 : w1.heap.size = w.heap.size + 3 := by rw [hw1]; simp
  have hb0 : Blk w1 w.heap.size #[.slice none 0 0] 22 := by rw [hw1]; exact ((Blk.new w _ _).alloc _).alloc _
  have hb1 : Blk w1 (w.heap.size + 1) #[.slice none 0 0] 67 := by
    rw [hw1]
    have := Blk.new (w.alloc (.cells #[.slice none 0 0] 22)) #[.slice none 0 0] 67
    rw [World.size_alloc] at this
    exact this.alloc _
  have hb2 : Blk w1 (w.heap.size + 2) #[.slice A n c] 22 := by
    rw [hw1]
    have := Blk.new ((w.alloc (.cells #[.slice none 0 0] 22)).alloc (.cells #[.slice none 0 0] 67)) #[.slice A n c] 22
    rw [World.size_alloc, World.size_alloc] at this
    exact this
  have hbw : Below w.heap.size w w1 := by
    rw [hw1]; exact (((Below.refl _ w).alloc (Nat.le_refl _) _).alloc (by simp) _).alloc (by simp; omega) _
  clear hw1
  refine wp_rangeFunc_c (gf := 93) (lb := #[.pointer (some ⟨w.heap.size + 1 + 1, 0, none⟩)]) rfl (enters_of Try.func93 (by kernel_rfl) rfl) rfl (w.heap.size + 2) (by omega)
    (fun i => i = w.heap.size ∨ i = w.heap.size + 1 ∨ w.heap.size + 5 ≤ i) (fun i hi => by omega) (framesP b) ?seq (fun pre W => IFr w.heap.size pre W ∧ Below w.heap.size w W) ?hI ?h0
    (fun k ys A' c' => { tmps := #[.slice A n c, undef, .pointer (some ⟨w.heap.size, 0, none⟩), .pointer (some ⟨w.heap.size + 1, 0, none⟩), .int .u8 (k.toNat : Int), .slice A' ys.length c', .slice A n c, .func (.func 93) #[] #[.pointer (some ⟨w.heap.size + 1 + 1, 0, none⟩)], .int .u8 (k.toNat : Int), .slice A' ys.length c', undef, undef, undef, undef, undef, undef, undef, undef, undef, undef], defers := [] }) ?assign ?body ?done
  case seq =>
    intro l J W hbW hszW hJ hY h0
    refine all1_any l (w.heap.size + 2) A c b _ J W ?_ ?_ ?_ ?_ ?_ ?_ hJ hY h0
    · omega
    · intro a ha h0
      have := rb_lt hr a ha h0
      omega
    · rw [← HN.out]; exact (hb2.below (hbW.mono (Nat.le_refl _)))
    · exact (hr.below hbw).below hbW
    · rw [← HN.out]; exact hc
    · rw [← HN.out]; omega
  case hI =>
    intro pre W W' h hf
    exact ⟨h.1.fr (hf.mono fun i hi => .inl (by omega)), Fr.below h.2 hf (fun i hi => by omega)⟩
  case h0 =>
    refine ⟨⟨_, _, [], hb0, hb1, World.ownsRow_nil _ _ _ _, World.ownsRow_nil _ _ _ _, fun j c p hc hp => by simp at hc⟩, hbw⟩
  case assign =>
    intro l k ys A' c' W K hK
    gi_wp2
    exact hK
  case body =>
    intro l pre k ys A' c' W0 W hI hf hsz hry hcy hfresh hpre
    obtain ⟨⟨kv, lv, cs, hk0, hl0, hko, hlo, hcs⟩, hBW0⟩ := hI
    have hpl : pre.length + 1 ≤ 1000000000 := by
      have := hpre.length_le
      simp at this
      omega
    have hk1 : Blk W w.heap.size #[kv] 22 := hk0.fr hf (by omega)
    have hl1 : Blk W (w.heap.size + 1) #[lv] 67 := hl0.fr hf (by omega)
    have hko1 := own_fr hko hf (fun k hk => by have := (hko.lt k hk).1; omega)
    have hlo1 := own_fr hlo hf (fun k hk => by have := (hlo.lt k hk).1; omega)
    have hne : ∀ i, kv.ownBlock = some i → lv.ownBlock = some i → False := fun i h1 h2 => by
      obtain ⟨_, cap, cur, rfl, _, hg, _⟩ | ⟨_, _⟩ := hko.2.symm
      · obtain ⟨_, cap2, cur2, rfl, _, hg2, _⟩ | ⟨_, _⟩ := hlo.2.symm
        · simp [Value.ownBlock] at h1 h2
          subst h1; subst h2
          rw [hg] at hg2
          simp at hg2
        · simp_all [Value.ownBlock]
      · simp_all [Value.ownBlock]
    have hWs := hf.size
    have c0 : W.cell? ⟨w.heap.size, 0, none⟩ = some kv := hk1.cell 0
    have HCS := Lib.hid hcs
    clear hcs hr hb0 hb1 hb2 hbw hl hfl hc
    gi_wp2_with (gi_at_builtin; refine (fun (h : Hid _) => h.out) ?_)
    refine Lib.hid ?_
    refine wpListIn_append_own_at _ rfl _ _ 22 rfl (w.heap.size + 5) 5 i0 (.int .u8 0) 1 1 Try.underlying22 hi0 hz0 hz1 hz2 rfl (by decide) kv pre.length (bv (pre.map (·.1))) rfl (own_fr hko1 (Fr.alloc (fun _ => False) _ _) (fun _ _ h => h)) ⟨W.heap.size, 0, none⟩ 1 1 [.int .u8 (k.toNat : Int)] rfl rfl (cell_one_new _ _ _) (by simp [Value.oneCell']) (by simp only [maxLen]; omega) (by omega) (by simp; omega) ?_
    intro v1 w2 hown1 hgrow1 _ hat1
    obtain ⟨p1, p2, p3, p4, p5, p6, p7, p8⟩ := pushed hk1 hko1 (by omega) hown1 hgrow1 hat1
    obtain ⟨g1, cap1, rfl⟩ := ownsRow_succ hown1
    have q1 : w2.cell? ⟨w.heap.size + 1, 0, none⟩ = some lv := (hl1.fr p5 (fun h => by have := (hko1.lt _ h).1; omega)).cell 0
    have HP1 := Lib.hid (And.intro p3 (And.intro p4 (And.intro p6 (And.intro p7 p8))))
    clear hown1 hgrow1 hat1 c0 p3 p4 p5 p6 p7 p8
    gi_wp2_with (gi_at_builtin; refine (fun (h : Hid _) => h.out) ?_)
    refine Lib.hid ?_
    obtain ⟨W3, hW3⟩ : ∃ W3, W3 = w2.setCell ⟨w.heap.size, 0, none⟩ (.slice (some ⟨g1, 0, none⟩) (pre.length + 1) cap1) := ⟨_, rfl⟩
    have hp1 := HP1.out
    have hs3 : w2.heap.size = W3.heap.size := by rw [hW3]; simp
    rw [← hW3] at hp1 ⊢
    rw [hs3]
    obtain ⟨r1, r2, r3, r4, r5⟩ := hp1
    clear HP1 hW3 p1 p2 q1
    have hl3 : Blk W3 (w.heap.size + 1) #[lv] 67 := hl1.fr r3 (fun h => by rcases h with h | h; omega; have := (hko1.lt _ h).1; omega)
    have hlo3 := own_fr hlo1 r3 (fun k hk h => by rcases h with h | h; have := (hlo1.lt k hk).1; omega; exact hne k h hk)
    refine wpListIn_append_own_at _ rfl _ _ 67 rfl (w.heap.size + 5) 22 i1 (.slice none 0 0) 1 24 Try.underlying67 hi1 hy0 hy1 hy2 rfl (by decide) lv pre.length cs rfl (own_fr hlo3 (Fr.alloc (fun _ => False) _ _) (fun _ _ h => h)) ⟨W3.heap.size, 0, none⟩ 1 1 [.slice A' ys.length c'] rfl rfl (cell_one_new _ _ _) (by simp [Value.oneCell']) (by simp only [maxLen]; omega) (by omega) (by simp; omega) ?_
    intro v2 w4 hown2 hgrow2 _ hat2
    obtain ⟨p1, p2, p3, p4, p5, p6, p7, p8⟩ := pushed hl3 hlo3 (by omega) hown2 hgrow2 hat2
    obtain ⟨g2, cap2, rfl⟩ := ownsRow_succ hown2
    have HP2 := Lib.hid (And.intro p3 (And.intro p4 (And.intro p6 (And.intro p7 p8))))
    clear hown2 hgrow2 hat2 p3 p4 p5 p6 p7 p8
    gi_wp2_with fail
    obtain ⟨W5, hW5⟩ : ∃ W5, W5 = w4.setCell ⟨w.heap.size + 1, 0, none⟩ (.slice (some ⟨g2, 0, none⟩) (pre.length + 1) cap2) := ⟨_, rfl⟩
    have hp2 := HP2.out
    rw [← hW5] at hp2 ⊢
    obtain ⟨t1, t2, t3, t4, t5⟩ := hp2
    clear HP2 hW5 p1 p2
    have hbase : ∀ {v : Value} {e : TypeId} {n : Nat} {xs : List Value} {X : World}, X.ownsRow (w.heap.size + 5) e 1 v n xs → ∀ i, v.ownBlock = some i → w.heap.size + 5 ≤ i := fun h i hi => (h.lt i hi).1
    have hfr : Fr (fun i => i = w.heap.size ∨ i = w.heap.size + 1 ∨ kv.ownBlock = some i ∨ lv.ownBlock = some i) W W5 :=
      (r3.mono fun i h => .inl (by rcases h with h | h; exact .inl h; exact .inr (.inr (.inl h)))).trans t3 fun i h => .inl (by rcases h with h | h; exact .inr (.inl h); exact .inr (.inr (.inr h)))
    have hBW5 : Below w.heap.size w W5 := Fr.below (Fr.below hBW0 hf (fun i hi => by omega)) hfr (fun i hi => by
      rcases hi with hi | hi | hi | hi
      · omega
      · omega
      · have := hbase hko1 i hi; omega
      · have := hbase hlo1 i hi; omega)
    refine ⟨hfr.mono fun i h => .inl ?_, ⟨_, _, cs ++ [.slice A' ys.length c'], r1.fr t3 (fun h => ?_), t1, ?_, ?_, ?_⟩, hBW5⟩
    · rcases h with h | h | h | h
      · exact .inl h
      · exact .inr (.inl h)
      · exact .inr (.inr (hbase hko1 i h))
      · exact .inr (.inr (hbase hlo1 i h))
    · rcases h with h | h
      · omega
      · have := hbase hlo1 _ h; omega
    · have h := own_fr r2 t3 (fun k hk h => ?_)
      · rw [List.length_append, List.map_append, bv_append]; exact h
      · rcases h with h | h
        · have := hbase r2 k hk; omega
        · rcases r4 with r4 | ⟨k', r4, r4'⟩
          · rw [r4] at hk; exact hne k hk h
          · rw [r4] at hk; cases hk; have := (hlo1.lt _ h).2; omega
    · rw [List.length_append]; exact t2
    · -- the records
      have hX : ∀ i, i < W0.heap.size → ((Value.slice (some ⟨g1, 0, none⟩) (pre.length + 1) cap1).ownBlock = some i ∨ (Value.slice (some ⟨g2, 0, none⟩) (pre.length + 1) cap2).ownBlock = some i) → kv.ownBlock = some i ∨ lv.ownBlock = some i := by
        intro i hi h
        rcases h with h | h
        · rcases r4 with r4 | ⟨k', r4, r4'⟩
          · rw [r4] at h; exact .inl h
          · rw [r4] at h; cases h; omega
        · rcases t4 with t4 | ⟨k', t4, t4'⟩
          · rw [t4] at h; exact .inr h
          · rw [t4] at h; cases h; omega
      intro j cc p hc hp
      have hcl : cs.length = pre.length := by have := hlo.1; omega
      rcases Nat.lt_or_ge j pre.length with hj | hj
      · rw [List.getElem?_append_left (by omega)] at hc
        rw [List.getElem?_append_left hj] at hp
        have h0 := HCS.out j cc p hc hp
        have h1 := h0.fr hf (fun i hi => .inl (by omega))
        refine CB.mono2 h0 (h1.fr hfr (fun i hi => ?_)) (Nat.le_refl _) hX
        rcases hi with hi | hi | hi | hi
        · exact .inl (by omega)
        · exact .inl (by omega)
        · exact .inr (.inl (.inl hi))
        · exact .inr (.inl (.inr hi))
      · rw [List.getElem?_append_right (by omega)] at hc
        rw [List.getElem?_append_right hj] at hp
        have e0 : j - pre.length = 0 := by
          rcases Nat.eq_zero_or_pos (j - pre.length) with h | h
          · exact h
          · rw [List.getElem?_eq_none (by simp; omega)] at hp; cases hp
        rw [hcl, e0] at hc
        rw [e0] at hp
        simp at hc hp
        subst hc; subst hp
        refine ⟨A', c', rfl, hcy, hry.fr2 hfr (fun a ha h0 hi => ?_), fun a ha h0 => ⟨?_, fun hi => ?_⟩⟩
        · have h1 := hfresh a ha h0
          rcases hi with hi | hi | hi | hi
          · omega
          · omega
          · have := (hko.lt _ hi).2; omega
          · have := (hlo.lt _ hi).2; omega
        · have h1 := hfresh a ha h0; omega
        · have h1 := hfresh a ha h0
          have h2 := rb_lt hry a ha h0
          rcases hi with hi | hi
          · rcases r4 with r4 | ⟨k', r4, r4'⟩
            · rw [r4] at hi; have := (hko.lt _ hi).2; omega
            · rw [r4] at hi; cases hi; omega
          · rcases t4 with t4 | ⟨k', t4, t4'⟩
            · rw [t4] at hi; have := (hlo.lt _ hi).2; omega
            · rw [t4] at hi; cases hi; omega
  case done =>
    intro W hI hK
    obtain ⟨⟨kv, lv, cs, hk0, hl0, hko, hlo, hcs⟩, hBW⟩ := hI
    have c0 : W.cell? ⟨w.heap.size, 0, none⟩ = some kv := hk0.cell 0
    have c1 : W.cell? ⟨w.heap.size + 1, 0, none⟩ = some lv := hl0.cell 0
    have f0 := hk0.free 0
    have f1 := hl0.free 0
    obtain ⟨kA, kc, rfl⟩ := own_form hko
    obtain ⟨lA, lc, rfl⟩ := own_form hlo
    have HH := Lib.hid (And.intro hko (And.intro hlo (And.intro hcs (And.intro hBW (And.intro hk0 hl0)))))
    clear hko hlo hcs hBW hk0 hl0
    go_wp2_with fail
    go_region
    all_goals go_wp2_with fail
    obtain ⟨W9, hW9⟩ : ∃ W9, W9 = ((W.setCell ⟨w.heap.size, 0, none⟩ (.slice kA (framesP b).length kc)).setCell ⟨w.heap.size + 1, 0, none⟩ (.slice lA (framesP b).length lc)).drew := ⟨_, rfl⟩
    obtain ⟨hko, hlo, hcs, hBW, hk0, hl0⟩ := HH.out
    have hf9 : Fr (fun i => i = w.heap.size ∨ i = w.heap.size + 1) W W9 := by
      rw [hW9]
      exact ((Fr.setCell _ W ⟨w.heap.size, 0, none⟩ _ (.inl rfl)).trans (Fr.setCell (fun i => i = w.heap.size + 1) _ ⟨w.heap.size + 1, 0, none⟩ _ rfl) fun i h => .inl (.inr h)).trans (Fr.drew (fun _ => False) _) fun i h => h.elim
    have hk9 : Blk W9 w.heap.size #[.slice kA (framesP b).length kc] 22 := by
      rw [hW9]; exact ((hk0.set 0 (.slice kA (framesP b).length kc)).setOther ⟨w.heap.size + 1, 0, none⟩ _ (by simp)).drew
    have hl9 : Blk W9 (w.heap.size + 1) #[.slice lA (framesP b).length lc] 67 := by
      rw [hW9]; exact ((hl0.setOther ⟨w.heap.size, 0, none⟩ _ (by simp)).set 0 (.slice lA (framesP b).length lc)).drew
    have hK9 : W9.heap[w1.heap.size]? = some (.deferred (some [])) := (hf9.block _ (Array.getElem?_eq_some_iff.1 hK).1 (by omega)).trans hK
    rw [← hW9]
    clear hW9
    refine ⟨by simp, .inl ⟨_, _, rfl, run_takeDeferred hK9, ?_⟩⟩
    have hf10 : Fr (fun i => i = w1.heap.size) W9 (W9.putObj w1.heap.size (.deferred none)) := Fr.put _ _ _ rfl
    have hk10 := (hk9.fr hf10 (by omega)).cell 0
    have hl10 := (hl9.fr hf10 (by omega)).cell 0
    have hf : Fr (fun i => i = w.heap.size ∨ i = w.heap.size + 1 ∨ i = w1.heap.size) W (W9.putObj w1.heap.size (.deferred none)) :=
      (hf9.mono fun i h => .inl (by omega)).trans hf10 fun i h => .inl (by omega)
    have hko10 := own_fr hko hf (fun k hk => by have := (hko.lt k hk).1; omega)
    have hlo10 := own_fr hlo hf (fun k hk => by have := (hlo.lt k hk).1; omega)
    refine ⟨.tuple #[.slice kA (framesP b).length kc, .slice lA (framesP b).length lc], ?_, _, _, rfl, ⟨?_, fun k hk => ?_⟩, ⟨cs, ?_, ?_⟩, Fr.below hBW hf (fun i hi => by omega)⟩
    · simp [results, Try.f51, go_sem, hk10, hl10]
    · unfold OB; rw [List.length_map]; exact own_base hko10 (Nat.zero_le _)
    · have := (hko10.lt k hk).1; omega
    · rw [List.length_map]; exact own_base hlo10 (by omega)
    · intro j cc p hc hp
      rw [List.getElem?_map] at hp
      obtain ⟨q, hq, rfl⟩ := Option.map_eq_some_iff.1 hp
      exact ((hcs j cc q hc hq).fr hf (fun i hi => .inl (by omega))).mono (by omega) (fun k _ h => .inr h)

end Go.Proofs.Ytnkenkdglcmpdaa
