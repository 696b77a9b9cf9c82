/- Best: the walk of its closure. -/
import Derived.Test.YtpbcpocheblbfaaVotP
namespace Go.Proofs.Ytpbcpocheblbfaa
set_option linter.unusedVariables false
set_option linter.unusedSimpArgs false
open Go.RowKit Go.MapKept

/-- What the closure makes of what was best so far. -/
def lookB (M : List (Ent One)) (kind need : Int) (r : Bool × Vt) (v : Vt) : Bool × Vt :=
  if v.kind = kind ∧ need ≤ (countM M v : Int) ∧ (r.1 = false ∨ aheadP v r.2 = true) then (true, v) else r
/-- The variables that the closure holds. -/
structure Caps (w : World) (kb pb nb ib vb bb : Nat) (kind need : Int) (r : Bool × Vt) : Prop where
  kind : Blk w kb #[.int .i64 kind] 3
  book : Blk w pb #[.pointer (some ⟨bb, 0, none⟩)] 24
  need : Blk w nb #[.int .i64 need] 3
  is : Blk w ib #[.bool r.1] 4
  best : Blk w vb (vcells r.2).toArray 30
  ok : r.2.ok
  k1 : kb ≠ ib
  k2 : kb ≠ vb
  p1 : pb ≠ ib
  p2 : pb ≠ vb
  n1 : nb ≠ ib
  n2 : nb ≠ vb
  iv : ib ≠ vb
theorem Caps.below {w w' : World} {kb pb nb ib vb bb : Nat} {kind need : Int} {r : Bool × Vt} (h : Caps w kb pb nb ib vb bb kind need r) (hb : Below w.heap.size w w') : Caps w' kb pb nb ib vb bb kind need r :=
  ⟨h.kind.below hb, h.book.below hb, h.need.below hb, h.is.below hb, h.best.below hb, h.ok, h.k1, h.k2, h.p1, h.p2, h.n1, h.n2, h.iv⟩
def LookPost (w : World) (kb pb nb ib vb bb mb : Nat) (N : Int) (M : List (Ent One)) (kind need : Int) (r : Bool × Vt) (e : Ending) (w' : World) : Prop :=
  e = .returned (.tuple #[]) ∧ Caps w' kb pb nb ib vb bb kind need r ∧ BookR w' bb mb N M ∧ Fr (fun k => k = ib ∨ k = vb) w w'
/-- What the closure's first region loads. -/
structure SL (w : World) (xb kb pb nb ib vb bb : Nat) (v : Vt) (kind need : Int) (is : Bool) (best : Vt) : Prop where
  vr : w.rangeAt xb 0 (vcells v)
  v0 : w.cell? ⟨xb, 0, none⟩ = some (.int .i64 v.kind)
  kind : w.cell? ⟨kb, 0, none⟩ = some (.int .i64 kind)
  book : w.cell? ⟨pb, 0, none⟩ = some (.pointer (some ⟨bb, 0, none⟩))
  need : w.cell? ⟨nb, 0, none⟩ = some (.int .i64 need)
  is : w.cell? ⟨ib, 0, none⟩ = some (.bool is)
  best : w.rangeAt vb 0 (vcells best)
theorem SL.below {w w' : World} {xb kb pb nb ib vb bb : Nat} {v : Vt} {kind need : Int} {is : Bool} {best : Vt} (h : SL w xb kb pb nb ib vb bb v kind need is best) (hb : Below w.heap.size w w') : SL w' xb kb pb nb ib vb bb v kind need is best :=
  ⟨range_below h.vr hb, cell_bl h.v0 hb, cell_bl h.kind hb, cell_bl h.book hb, cell_bl h.need hb, cell_bl h.is hb, range_below h.best hb⟩
set_option maxRecDepth 100000 in
set_option maxHeartbeats 8000000 in
theorem look_any (w : World) {kb pb nb ib vb bb mb : Nat} {N : Int} {M : List (Ent One)} {kind need : Int} {r : Bool × Vt} (hc : Caps w kb pb nb ib vb bb kind need r) (h : BookR w bb mb N M) (hne : bb ≠ ib ∧ bb ≠ vb ∧ mb ≠ ib ∧ mb ≠ vb) (v : Vt) (hv : v.ok) :
    Calls Try.prog 23 #[vval v, .pointer (some ⟨kb, 0, none⟩), .pointer (some ⟨pb, 0, none⟩), .pointer (some ⟨nb, 0, none⟩), .pointer (some ⟨ib, 0, none⟩), .pointer (some ⟨vb, 0, none⟩)] w
      (LookPost w kb pb nb ib vb bb mb N M kind need (lookB M kind need r v)) := by
  obtain ⟨is, best⟩ := r
  obtain ⟨r', hr'⟩ : ∃ r', r' = lookB M kind need (is, best) v := ⟨_, rfl⟩
  rw [← hr']
  unfold lookB at hr'
  have hbest : best.ok := hc.ok
  have HR := Lib.hid hr'
  have HC := Lib.hid hc
  have H := Lib.hid h
  have HV := Lib.hid hv
  have HBO := Lib.hid hbest
  have HNE := Lib.hid hne
  clear hr' hc h hv hbest hne
  go_enter Try.func23, Try.ntmps23
  go_wp2_with (first | (refine wpList_box_big rfl 30 _ rfl (vcells v).toArray rfl ?_; intro xb w1 HXB hb1 hbl1 HS1))
  have hxb := HXB.out
  have hbd := (Below.refl w1.heap.size w1).drew
  have hbl : Below w.heap.size w w1.drew := hbl1.trans (Below.up hbd hbl1.size)
  have HC1 := Lib.hid (HC.out.below hbl)
  have HB1 := Lib.hid (H.out.below hbl)
  have HX1 := Lib.hid (hb1.below hbd)
  have HBL := Lib.hid hbl
  have hsl : SL w1.drew xb kb pb nb ib vb bb v kind need is best := ⟨range_of_blk HX1.out, (vote_cells HX1.out).1, HC1.out.kind.cell 0, HC1.out.book.cell 0, HC1.out.need.cell 0, HC1.out.is.cell 0, range_of_blk HC1.out.best⟩
  have HXS : Hid (w.heap.size ≤ xb ∧ xb < w1.drew.heap.size) := Lib.hid ⟨by omega, HX1.out.lt⟩
  clear hb1 hbl1 HS1 HXB hxb hbd hbl H HC
  have HSL := Lib.hid hsl
  refine wp_region_phased (fun W => SL W xb kb pb nb ib vb bb v kind need is best) 20 (by kernel_rfl) hsl (fun hS => ?_)
  clear hsl
  generalize w1.drew = w2 at *
  by_cases hk : v.kind = kind
  · subst hk
    refine wpAnyP_pure (v := ?_) 0 (at_toArray rfl) (by kernel_rfl) (by kernel_rfl) (by kernel_rfl) (fun _ _ _ h => h) (Or.inl ⟨by rfl, fun W => ?_⟩) ?_
    rotate_left 1
    · (go_simp <;> (try go_bits) <;> with_reducible rfl)
    simp only [Act.put, List.setIfInBounds_toArray, List.set_cons_zero, List.set_cons_succ]
    refine wpAnyP_load (v := ?_) 1 (by kernel_rfl) (at_toArray rfl) (by kernel_rfl) (by kernel_rfl) (by kernel_rfl) (fun _ _ _ h => h) (by first | assumption | rfl) (Or.inl ⟨by rfl, fun W hS => ?_⟩) ?_
    rotate_left 1
    · (obtain ⟨s1, s2, s3, s4, s5, s6, s7⟩ := hS; go_simp <;> (try go_bits) <;> with_reducible rfl)
    simp only [Act.put, List.setIfInBounds_toArray, List.set_cons_zero, List.set_cons_succ]
    refine wpAnyP_load (v := ?_) 2 (by kernel_rfl) (at_toArray rfl) (by kernel_rfl) (by kernel_rfl) (by kernel_rfl) (fun _ _ _ h => h) (by first | assumption | rfl) (Or.inl ⟨by rfl, fun W hS => ?_⟩) ?_
    rotate_left 1
    · (obtain ⟨s1, s2, s3, s4, s5, s6, s7⟩ := hS; go_simp <;> (try go_bits) <;> with_reducible rfl)
    simp only [Act.put, List.setIfInBounds_toArray, List.set_cons_zero, List.set_cons_succ]
    refine wpAnyP_pure (v := ?_) 3 (at_toArray rfl) (by kernel_rfl) (by kernel_rfl) (by kernel_rfl) (fun _ _ _ h => h) (Or.inl ⟨by rfl, fun W => ?_⟩) ?_
    rotate_left 1
    · (go_simp <;> (try go_bits) <;> with_reducible rfl)
    simp only [Act.put, List.setIfInBounds_toArray, List.set_cons_zero, List.set_cons_succ]
    refine wpAnyP_pure (v := ?_) 4 (at_toArray rfl) (by kernel_rfl) (by kernel_rfl) (by kernel_rfl) (fun _ _ _ h => h) (Or.inl ⟨by rfl, fun W => ?_⟩) ?_
    rotate_left 1
    · (go_simp <;> (try go_bits) <;> with_reducible rfl)
    simp only [Act.put, List.setIfInBounds_toArray, List.set_cons_zero, List.set_cons_succ]
    refine wpAnyP_load (v := ?_) 5 (by kernel_rfl) (at_toArray rfl) (by kernel_rfl) (by kernel_rfl) (by kernel_rfl) (fun _ _ _ h => h) (by first | assumption | rfl) (Or.inl ⟨by rfl, fun W hS => ?_⟩) ?_
    rotate_left 1
    · (obtain ⟨s1, s2, s3, s4, s5, s6, s7⟩ := hS; go_simp <;> (try go_bits) <;> with_reducible rfl)
    simp only [Act.put, List.setIfInBounds_toArray, List.set_cons_zero, List.set_cons_succ]
    refine wpAnyP_load (v := vval v) 6 (by kernel_rfl) (at_toArray rfl) (by kernel_rfl) (by kernel_rfl) (by kernel_rfl) (fun _ _ _ h => h) (by first | assumption | rfl) (Or.inl ⟨by rfl, fun W hS => (by obtain ⟨s1, s2, s3, s4, s5, s6, s7⟩ := hS; exact load_vote HV.out s1 rfl rfl)⟩) ?_
    simp only [Act.put, List.setIfInBounds_toArray, List.set_cons_zero, List.set_cons_succ]
    refine wpAnyP_load (v := ?_) 8 (by kernel_rfl) (at_toArray rfl) (by kernel_rfl) (by kernel_rfl) (by kernel_rfl) (fun _ _ _ h => h) (by first | assumption | rfl) (Or.inl ⟨by rfl, fun W hS => ?_⟩) ?_
    rotate_left 1
    · (obtain ⟨s1, s2, s3, s4, s5, s6, s7⟩ := hS; go_simp <;> (try go_bits) <;> with_reducible rfl)
    simp only [Act.put, List.setIfInBounds_toArray, List.set_cons_zero, List.set_cons_succ]
    refine wpAnyP_oneG 7 (at_toArray rfl) (by kernel_rfl) (by rfl) (fun K hK => ?_)
    go_wp2_with fail
    have hcall := count_any w2 HB1.out v HV.out
    generalize countM M v = cn at hcall HR
    refine hcall.mono ?_
    rintro e w3 ⟨rfl, hbl3⟩
    have HC3 := Lib.hid (HC1.out.below hbl3)
    have HB3 := Lib.hid (HB1.out.below hbl3)
    have HX3 := Lib.hid (HX1.out.below hbl3)
    have HBL3 := Lib.hid (HBL.out.trans (Below.up hbl3 HBL.out.size))
    have hS3 := HSL.out.below hbl3
    have HSL3 := Lib.hid hS3
    clear hbl3 HC1 HB1 HX1 HBL HSL hS
    go_wp2_with fail
    refine hK.out _ _ (fun _ _ => hS3) ?_
    clear hK
    by_cases hn : need ≤ (cn : Int)
    · have hnd : decide (need ≤ (cn : Int)) = true := decide_eq_true hn
      refine wpAnyP_pure (v := ?_) 9 (at_toArray rfl) (by kernel_rfl) (by kernel_rfl) (by kernel_rfl) (fun _ _ _ h => h) (Or.inl ⟨by rfl, fun W => ?_⟩) ?_
      rotate_left 1
      · (go_simp <;> (try go_bits) <;> (try simp only [hnd]) <;> with_reducible rfl)
      simp only [Act.put, List.setIfInBounds_toArray, List.set_cons_zero, List.set_cons_succ]
      refine wpAnyP_pure (v := ?_) 10 (at_toArray rfl) (by kernel_rfl) (by kernel_rfl) (by kernel_rfl) (fun _ _ _ h => h) (Or.inl ⟨by rfl, fun W => ?_⟩) ?_
      rotate_left 1
      · (go_simp <;> (try go_bits) <;> with_reducible rfl)
      simp only [Act.put, List.setIfInBounds_toArray, List.set_cons_zero, List.set_cons_succ]
      refine wpAnyP_pure (v := ?_) 11 (at_toArray rfl) (by kernel_rfl) (by kernel_rfl) (by kernel_rfl) (fun _ _ _ h => h) (Or.inl ⟨by rfl, fun W => ?_⟩) ?_
      rotate_left 1
      · (go_simp <;> (try go_bits) <;> with_reducible rfl)
      simp only [Act.put, List.setIfInBounds_toArray, List.set_cons_zero, List.set_cons_succ]
      refine wpAnyP_load (v := ?_) 12 (by kernel_rfl) (at_toArray rfl) (by kernel_rfl) (by kernel_rfl) (by kernel_rfl) (fun _ _ _ h => h) (by first | assumption | rfl) (Or.inl ⟨by rfl, fun W hS => ?_⟩) ?_
      rotate_left 1
      · (obtain ⟨s1, s2, s3, s4, s5, s6, s7⟩ := hS; go_simp <;> (try go_bits) <;> with_reducible rfl)
      simp only [Act.put, List.setIfInBounds_toArray, List.set_cons_zero, List.set_cons_succ]
      cases is with
      | false =>
        refine wpAnyP_pure (v := ?_) 13 (at_toArray rfl) (by kernel_rfl) (by kernel_rfl) (by kernel_rfl) (fun _ _ _ h => h) (Or.inl ⟨by rfl, fun W => ?_⟩) ?_
        rotate_left 1
        · (go_simp <;> (try go_bits) <;> with_reducible rfl)
        simp only [Act.put, List.setIfInBounds_toArray, List.set_cons_zero, List.set_cons_succ]
        refine wpAnyP_pure (v := ?_) 14 (at_toArray rfl) (by kernel_rfl) (by kernel_rfl) (by kernel_rfl) (fun _ _ _ h => h) (Or.inl ⟨by rfl, fun W => ?_⟩) ?_
        rotate_left 1
        · (go_simp <;> (try go_bits) <;> with_reducible rfl)
        simp only [Act.put, List.setIfInBounds_toArray, List.set_cons_zero, List.set_cons_succ]
        refine wpAnyP_pure 15 (at_toArray rfl) (by kernel_rfl) (by kernel_rfl) (by kernel_rfl) (fun _ _ _ h => h) (Or.inr ⟨by rfl, rfl⟩) ?_
        simp only [Act.put, List.setIfInBounds_toArray, List.set_cons_zero, List.set_cons_succ]
        refine wpAnyP_pure 16 (at_toArray rfl) (by kernel_rfl) (by kernel_rfl) (by kernel_rfl) (fun _ _ _ h => h) (Or.inr ⟨by rfl, rfl⟩) ?_
        simp only [Act.put, List.setIfInBounds_toArray, List.set_cons_zero, List.set_cons_succ]
        refine wpAnyP_pure 17 (at_toArray rfl) (by kernel_rfl) (by kernel_rfl) (by kernel_rfl) (fun _ _ _ h => h) (Or.inr ⟨by rfl, rfl⟩) ?_
        simp only [Act.put, List.setIfInBounds_toArray, List.set_cons_zero, List.set_cons_succ]
        refine wpAnyP_pure (v := ?_) 18 (at_toArray rfl) (by kernel_rfl) (by kernel_rfl) (by kernel_rfl) (fun _ _ _ h => h) (Or.inl ⟨by rfl, fun W => ?_⟩) ?_
        rotate_left 1
        · (go_simp <;> (try go_bits) <;> with_reducible rfl)
        simp only [Act.put, List.setIfInBounds_toArray, List.set_cons_zero, List.set_cons_succ]
        refine wpAnyP_pure (v := ?_) 19 (at_toArray rfl) (by kernel_rfl) (by kernel_rfl) (by kernel_rfl) (fun _ _ _ h => h) (Or.inl ⟨by rfl, fun W => ?_⟩) ?_
        rotate_left 1
        · (go_simp <;> (try go_bits) <;> with_reducible rfl)
        simp only [Act.put, List.setIfInBounds_toArray, List.set_cons_zero, List.set_cons_succ]
        refine wpAnyP_done (by kernel_rfl) ?_ _
        have hwn : Hid (w.heap.size ≤ w3.heap.size) := Lib.hid HBL3.out.size
        go_wp2_with (first | (refine wpList_val rfl (load_vote HV.out (range_of_blk HX3.out) rfl rfl) ?_) | (refine wpList_store_big rfl 30 _ _ rfl _ rfl (vcells v) rfl _ _ HC3.out.best (sizeVote HV.out) (by rw [vcells_len HV.out]; simp [vcells_len HBO.out]) (vcells_one _) ?_; intro w9 hb9 hf9 HS9; have hi9 := HC3.out.is.fr hf9 HC3.out.iv; have i0 := hi9.cell 0; have i1 := hi9.free 0))
        (try simp only [Exit.inBlock, Exit.then]); refine bodyPost_end (results_none rfl _ _ _) rfl ?_
        have hr := HR.out
        simp only [hn, true_and, true_or, if_true] at hr
        have hF := Fr.setCell (fun k => k = ib) w9 ⟨ib, 0, none⟩ (.bool true) rfl
        refine ⟨rfl, ?_, (HB3.out.fr hf9 HNE.out.2.1 HNE.out.2.2.2).fr hF HNE.out.1 HNE.out.2.2.1, ((Fr.of_below HBL3.out).trans hf9 (fun k hk => .inl (.inr hk))).trans hF (fun k hk => .inl (.inl hk))⟩
        rw [hr]
        exact ⟨(HC3.out.kind.fr hf9 HC3.out.k2).fr hF HC3.out.k1, (HC3.out.book.fr hf9 HC3.out.p2).fr hF HC3.out.p1, (HC3.out.need.fr hf9 HC3.out.n2).fr hF HC3.out.n1, hi9.set 0 _, hb9.fr hF (fun e => HC3.out.iv e.symm), HV.out, HC3.out.k1, HC3.out.k2, HC3.out.p1, HC3.out.p2, HC3.out.n1, HC3.out.n2, HC3.out.iv⟩
      | true =>
        refine wpAnyP_pure (v := ?_) 13 (at_toArray rfl) (by kernel_rfl) (by kernel_rfl) (by kernel_rfl) (fun _ _ _ h => h) (Or.inl ⟨by rfl, fun W => ?_⟩) ?_
        rotate_left 1
        · (go_simp <;> (try go_bits) <;> with_reducible rfl)
        simp only [Act.put, List.setIfInBounds_toArray, List.set_cons_zero, List.set_cons_succ]
        refine wpAnyP_pure (v := ?_) 14 (at_toArray rfl) (by kernel_rfl) (by kernel_rfl) (by kernel_rfl) (fun _ _ _ h => h) (Or.inl ⟨by rfl, fun W => ?_⟩) ?_
        rotate_left 1
        · (go_simp <;> (try go_bits) <;> with_reducible rfl)
        simp only [Act.put, List.setIfInBounds_toArray, List.set_cons_zero, List.set_cons_succ]
        refine wpAnyP_load (v := vval v) 15 (by kernel_rfl) (at_toArray rfl) (by kernel_rfl) (by kernel_rfl) (by kernel_rfl) (fun _ _ _ h => h) (by first | assumption | rfl) (Or.inl ⟨by rfl, fun W hS => (by obtain ⟨s1, s2, s3, s4, s5, s6, s7⟩ := hS; exact load_vote HV.out s1 rfl rfl)⟩) ?_
        simp only [Act.put, List.setIfInBounds_toArray, List.set_cons_zero, List.set_cons_succ]
        refine wpAnyP_load (v := vval best) 16 (by kernel_rfl) (at_toArray rfl) (by kernel_rfl) (by kernel_rfl) (by kernel_rfl) (fun _ _ _ h => h) (by first | assumption | rfl) (Or.inl ⟨by rfl, fun W hS => (by obtain ⟨s1, s2, s3, s4, s5, s6, s7⟩ := hS; exact load_vote HBO.out s7 rfl rfl)⟩) ?_
        simp only [Act.put, List.setIfInBounds_toArray, List.set_cons_zero, List.set_cons_succ]
        refine wpAnyP_oneG 17 (at_toArray rfl) (by kernel_rfl) (by rfl) (fun K hK => ?_)
        go_wp2_with fail
        have hcall := ahead_any w3 v best HV.out HBO.out
        generalize aheadP v best = ar at hcall HR
        refine hcall.mono ?_
        rintro e w4 ⟨rfl, hbl4⟩
        have HC4 := Lib.hid (HC3.out.below hbl4)
        have HB4 := Lib.hid (HB3.out.below hbl4)
        have HX4 := Lib.hid (HX3.out.below hbl4)
        have HBL4 := Lib.hid (HBL3.out.trans (Below.up hbl4 HBL3.out.size))
        have hS4 := HSL3.out.below hbl4
        clear hbl4 HC3 HB3 HX3 HBL3 HSL3 hS3
        go_wp2_with fail
        refine hK.out _ _ (fun _ _ => hS4) ?_
        clear hK
        cases ar with
        | true =>
          refine wpAnyP_pure (v := ?_) 18 (at_toArray rfl) (by kernel_rfl) (by kernel_rfl) (by kernel_rfl) (fun _ _ _ h => h) (Or.inl ⟨by rfl, fun W => ?_⟩) ?_
          rotate_left 1
          · (go_simp <;> (try go_bits) <;> with_reducible rfl)
          simp only [Act.put, List.setIfInBounds_toArray, List.set_cons_zero, List.set_cons_succ]
          refine wpAnyP_pure (v := ?_) 19 (at_toArray rfl) (by kernel_rfl) (by kernel_rfl) (by kernel_rfl) (fun _ _ _ h => h) (Or.inl ⟨by rfl, fun W => ?_⟩) ?_
          rotate_left 1
          · (go_simp <;> (try go_bits) <;> with_reducible rfl)
          simp only [Act.put, List.setIfInBounds_toArray, List.set_cons_zero, List.set_cons_succ]
          refine wpAnyP_done (by kernel_rfl) ?_ _
          have hwn : Hid (w.heap.size ≤ w4.heap.size) := Lib.hid HBL4.out.size
          go_wp2_with (first | (refine wpList_val rfl (load_vote HV.out (range_of_blk HX4.out) rfl rfl) ?_) | (refine wpList_store_big rfl 30 _ _ rfl _ rfl (vcells v) rfl _ _ HC4.out.best (sizeVote HV.out) (by rw [vcells_len HV.out]; simp [vcells_len HBO.out]) (vcells_one _) ?_; intro w9 hb9 hf9 HS9; have hi9 := HC4.out.is.fr hf9 HC4.out.iv; have i0 := hi9.cell 0; have i1 := hi9.free 0))
          (try simp only [Exit.inBlock, Exit.then]); refine bodyPost_end (results_none rfl _ _ _) rfl ?_
          have hr := HR.out
          simp only [hn, true_and, or_true, if_true] at hr
          have hF := Fr.setCell (fun k => k = ib) w9 ⟨ib, 0, none⟩ (.bool true) rfl
          refine ⟨rfl, ?_, (HB4.out.fr hf9 HNE.out.2.1 HNE.out.2.2.2).fr hF HNE.out.1 HNE.out.2.2.1, ((Fr.of_below HBL4.out).trans hf9 (fun k hk => .inl (.inr hk))).trans hF (fun k hk => .inl (.inl hk))⟩
          rw [hr]
          exact ⟨(HC4.out.kind.fr hf9 HC4.out.k2).fr hF HC4.out.k1, (HC4.out.book.fr hf9 HC4.out.p2).fr hF HC4.out.p1, (HC4.out.need.fr hf9 HC4.out.n2).fr hF HC4.out.n1, hi9.set 0 _, hb9.fr hF (fun e => HC4.out.iv e.symm), HV.out, HC4.out.k1, HC4.out.k2, HC4.out.p1, HC4.out.p2, HC4.out.n1, HC4.out.n2, HC4.out.iv⟩
        | false =>
          refine wpAnyP_pure (v := ?_) 18 (at_toArray rfl) (by kernel_rfl) (by kernel_rfl) (by kernel_rfl) (fun _ _ _ h => h) (Or.inl ⟨by rfl, fun W => ?_⟩) ?_
          rotate_left 1
          · (go_simp <;> (try go_bits) <;> with_reducible rfl)
          simp only [Act.put, List.setIfInBounds_toArray, List.set_cons_zero, List.set_cons_succ]
          refine wpAnyP_pure (v := ?_) 19 (at_toArray rfl) (by kernel_rfl) (by kernel_rfl) (by kernel_rfl) (fun _ _ _ h => h) (Or.inl ⟨by rfl, fun W => ?_⟩) ?_
          rotate_left 1
          · (go_simp <;> (try go_bits) <;> with_reducible rfl)
          simp only [Act.put, List.setIfInBounds_toArray, List.set_cons_zero, List.set_cons_succ]
          refine wpAnyP_done (by kernel_rfl) ?_ _
          go_wp2_with fail
          (try simp only [Exit.inBlock, Exit.then]); refine bodyPost_end (results_none rfl _ _ _) rfl ?_
          have hr := HR.out
          simp at hr
          exact ⟨rfl, by rw [hr]; exact HC4.out, HB4.out, Fr.of_below HBL4.out⟩
    · have hnd : decide (need ≤ (cn : Int)) = false := decide_eq_false hn
      refine wpAnyP_pure (v := ?_) 9 (at_toArray rfl) (by kernel_rfl) (by kernel_rfl) (by kernel_rfl) (fun _ _ _ h => h) (Or.inl ⟨by rfl, fun W => ?_⟩) ?_
      rotate_left 1
      · (go_simp <;> (try go_bits) <;> (try simp only [hnd]) <;> with_reducible rfl)
      simp only [Act.put, List.setIfInBounds_toArray, List.set_cons_zero, List.set_cons_succ]
      refine wpAnyP_pure (v := ?_) 10 (at_toArray rfl) (by kernel_rfl) (by kernel_rfl) (by kernel_rfl) (fun _ _ _ h => h) (Or.inl ⟨by rfl, fun W => ?_⟩) ?_
      rotate_left 1
      · (go_simp <;> (try go_bits) <;> with_reducible rfl)
      simp only [Act.put, List.setIfInBounds_toArray, List.set_cons_zero, List.set_cons_succ]
      refine wpAnyP_pure (v := ?_) 11 (at_toArray rfl) (by kernel_rfl) (by kernel_rfl) (by kernel_rfl) (fun _ _ _ h => h) (Or.inl ⟨by rfl, fun W => ?_⟩) ?_
      rotate_left 1
      · (go_simp <;> (try go_bits) <;> with_reducible rfl)
      simp only [Act.put, List.setIfInBounds_toArray, List.set_cons_zero, List.set_cons_succ]
      refine wpAnyP_pure 12 (at_toArray rfl) (by kernel_rfl) (by kernel_rfl) (by kernel_rfl) (fun _ _ _ h => h) (Or.inr ⟨by rfl, rfl⟩) ?_
      simp only [Act.put, List.setIfInBounds_toArray, List.set_cons_zero, List.set_cons_succ]
      refine wpAnyP_pure 13 (at_toArray rfl) (by kernel_rfl) (by kernel_rfl) (by kernel_rfl) (fun _ _ _ h => h) (Or.inr ⟨by rfl, rfl⟩) ?_
      simp only [Act.put, List.setIfInBounds_toArray, List.set_cons_zero, List.set_cons_succ]
      refine wpAnyP_pure 14 (at_toArray rfl) (by kernel_rfl) (by kernel_rfl) (by kernel_rfl) (fun _ _ _ h => h) (Or.inr ⟨by rfl, rfl⟩) ?_
      simp only [Act.put, List.setIfInBounds_toArray, List.set_cons_zero, List.set_cons_succ]
      refine wpAnyP_pure 15 (at_toArray rfl) (by kernel_rfl) (by kernel_rfl) (by kernel_rfl) (fun _ _ _ h => h) (Or.inr ⟨by rfl, rfl⟩) ?_
      simp only [Act.put, List.setIfInBounds_toArray, List.set_cons_zero, List.set_cons_succ]
      refine wpAnyP_pure 16 (at_toArray rfl) (by kernel_rfl) (by kernel_rfl) (by kernel_rfl) (fun _ _ _ h => h) (Or.inr ⟨by rfl, rfl⟩) ?_
      simp only [Act.put, List.setIfInBounds_toArray, List.set_cons_zero, List.set_cons_succ]
      refine wpAnyP_pure 17 (at_toArray rfl) (by kernel_rfl) (by kernel_rfl) (by kernel_rfl) (fun _ _ _ h => h) (Or.inr ⟨by rfl, rfl⟩) ?_
      simp only [Act.put, List.setIfInBounds_toArray, List.set_cons_zero, List.set_cons_succ]
      refine wpAnyP_pure 18 (at_toArray rfl) (by kernel_rfl) (by kernel_rfl) (by kernel_rfl) (fun _ _ _ h => h) (Or.inr ⟨by rfl, rfl⟩) ?_
      simp only [Act.put, List.setIfInBounds_toArray, List.set_cons_zero, List.set_cons_succ]
      refine wpAnyP_pure (v := ?_) 19 (at_toArray rfl) (by kernel_rfl) (by kernel_rfl) (by kernel_rfl) (fun _ _ _ h => h) (Or.inl ⟨by rfl, fun W => ?_⟩) ?_
      rotate_left 1
      · (go_simp <;> (try go_bits) <;> with_reducible rfl)
      simp only [Act.put, List.setIfInBounds_toArray, List.set_cons_zero, List.set_cons_succ]
      refine wpAnyP_done (by kernel_rfl) ?_ _
      go_wp2_with fail
      (try simp only [Exit.inBlock, Exit.then]); refine bodyPost_end (results_none rfl _ _ _) rfl ?_
      have hr := HR.out
      rw [if_neg (fun h => by have := h.2.1; omega)] at hr
      exact ⟨rfl, by rw [hr]; exact HC3.out, HB3.out, Fr.of_below HBL3.out⟩
  · have hkd : decide (v.kind = kind) = false := decide_eq_false hk
    have hkb : (v.kind == kind) = false := by simpa using hk
    refine wpAnyP_pure (v := ?_) 0 (at_toArray rfl) (by kernel_rfl) (by kernel_rfl) (by kernel_rfl) (fun _ _ _ h => h) (Or.inl ⟨by rfl, fun W => ?_⟩) ?_
    rotate_left 1
    · (go_simp <;> (try go_bits) <;> with_reducible rfl)
    simp only [Act.put, List.setIfInBounds_toArray, List.set_cons_zero, List.set_cons_succ]
    refine wpAnyP_load (v := ?_) 1 (by kernel_rfl) (at_toArray rfl) (by kernel_rfl) (by kernel_rfl) (by kernel_rfl) (fun _ _ _ h => h) (by first | assumption | rfl) (Or.inl ⟨by rfl, fun W hS => ?_⟩) ?_
    rotate_left 1
    · (obtain ⟨s1, s2, s3, s4, s5, s6, s7⟩ := hS; go_simp <;> (try go_bits) <;> with_reducible rfl)
    simp only [Act.put, List.setIfInBounds_toArray, List.set_cons_zero, List.set_cons_succ]
    refine wpAnyP_load (v := ?_) 2 (by kernel_rfl) (at_toArray rfl) (by kernel_rfl) (by kernel_rfl) (by kernel_rfl) (fun _ _ _ h => h) (by first | assumption | rfl) (Or.inl ⟨by rfl, fun W hS => ?_⟩) ?_
    rotate_left 1
    · (obtain ⟨s1, s2, s3, s4, s5, s6, s7⟩ := hS; go_simp <;> (try go_bits) <;> with_reducible rfl)
    simp only [Act.put, List.setIfInBounds_toArray, List.set_cons_zero, List.set_cons_succ]
    refine wpAnyP_pure (v := ?_) 3 (at_toArray rfl) (by kernel_rfl) (by kernel_rfl) (by kernel_rfl) (fun _ _ _ h => h) (Or.inl ⟨by rfl, fun W => ?_⟩) ?_
    rotate_left 1
    · (go_simp <;> (try go_bits) <;> (try simp only [hkd, hkb]) <;> with_reducible rfl)
    simp only [Act.put, List.setIfInBounds_toArray, List.set_cons_zero, List.set_cons_succ]
    refine wpAnyP_pure (v := ?_) 4 (at_toArray rfl) (by kernel_rfl) (by kernel_rfl) (by kernel_rfl) (fun _ _ _ h => h) (Or.inl ⟨by rfl, fun W => ?_⟩) ?_
    rotate_left 1
    · (go_simp <;> (try go_bits) <;> with_reducible rfl)
    simp only [Act.put, List.setIfInBounds_toArray, List.set_cons_zero, List.set_cons_succ]
    refine wpAnyP_pure 5 (at_toArray rfl) (by kernel_rfl) (by kernel_rfl) (by kernel_rfl) (fun _ _ _ h => h) (Or.inr ⟨by rfl, rfl⟩) ?_
    simp only [Act.put, List.setIfInBounds_toArray, List.set_cons_zero, List.set_cons_succ]
    refine wpAnyP_pure 6 (at_toArray rfl) (by kernel_rfl) (by kernel_rfl) (by kernel_rfl) (fun _ _ _ h => h) (Or.inr ⟨by rfl, rfl⟩) ?_
    simp only [Act.put, List.setIfInBounds_toArray, List.set_cons_zero, List.set_cons_succ]
    refine wpAnyP_pure 7 (at_toArray rfl) (by kernel_rfl) (by kernel_rfl) (by kernel_rfl) (fun _ _ _ h => h) (Or.inr ⟨by rfl, rfl⟩) ?_
    simp only [Act.put, List.setIfInBounds_toArray, List.set_cons_zero, List.set_cons_succ]
    refine wpAnyP_pure 8 (at_toArray rfl) (by kernel_rfl) (by kernel_rfl) (by kernel_rfl) (fun _ _ _ h => h) (Or.inr ⟨by rfl, rfl⟩) ?_
    simp only [Act.put, List.setIfInBounds_toArray, List.set_cons_zero, List.set_cons_succ]
    refine wpAnyP_pure 9 (at_toArray rfl) (by kernel_rfl) (by kernel_rfl) (by kernel_rfl) (fun _ _ _ h => h) (Or.inr ⟨by rfl, rfl⟩) ?_
    simp only [Act.put, List.setIfInBounds_toArray, List.set_cons_zero, List.set_cons_succ]
    refine wpAnyP_pure (v := ?_) 10 (at_toArray rfl) (by kernel_rfl) (by kernel_rfl) (by kernel_rfl) (fun _ _ _ h => h) (Or.inl ⟨by rfl, fun W => ?_⟩) ?_
    rotate_left 1
    · (go_simp <;> (try go_bits) <;> with_reducible rfl)
    simp only [Act.put, List.setIfInBounds_toArray, List.set_cons_zero, List.set_cons_succ]
    refine wpAnyP_pure (v := ?_) 11 (at_toArray rfl) (by kernel_rfl) (by kernel_rfl) (by kernel_rfl) (fun _ _ _ h => h) (Or.inl ⟨by rfl, fun W => ?_⟩) ?_
    rotate_left 1
    · (go_simp <;> (try go_bits) <;> with_reducible rfl)
    simp only [Act.put, List.setIfInBounds_toArray, List.set_cons_zero, List.set_cons_succ]
    refine wpAnyP_pure 12 (at_toArray rfl) (by kernel_rfl) (by kernel_rfl) (by kernel_rfl) (fun _ _ _ h => h) (Or.inr ⟨by rfl, rfl⟩) ?_
    simp only [Act.put, List.setIfInBounds_toArray, List.set_cons_zero, List.set_cons_succ]
    refine wpAnyP_pure 13 (at_toArray rfl) (by kernel_rfl) (by kernel_rfl) (by kernel_rfl) (fun _ _ _ h => h) (Or.inr ⟨by rfl, rfl⟩) ?_
    simp only [Act.put, List.setIfInBounds_toArray, List.set_cons_zero, List.set_cons_succ]
    refine wpAnyP_pure 14 (at_toArray rfl) (by kernel_rfl) (by kernel_rfl) (by kernel_rfl) (fun _ _ _ h => h) (Or.inr ⟨by rfl, rfl⟩) ?_
    simp only [Act.put, List.setIfInBounds_toArray, List.set_cons_zero, List.set_cons_succ]
    refine wpAnyP_pure 15 (at_toArray rfl) (by kernel_rfl) (by kernel_rfl) (by kernel_rfl) (fun _ _ _ h => h) (Or.inr ⟨by rfl, rfl⟩) ?_
    simp only [Act.put, List.setIfInBounds_toArray, List.set_cons_zero, List.set_cons_succ]
    refine wpAnyP_pure 16 (at_toArray rfl) (by kernel_rfl) (by kernel_rfl) (by kernel_rfl) (fun _ _ _ h => h) (Or.inr ⟨by rfl, rfl⟩) ?_
    simp only [Act.put, List.setIfInBounds_toArray, List.set_cons_zero, List.set_cons_succ]
    refine wpAnyP_pure 17 (at_toArray rfl) (by kernel_rfl) (by kernel_rfl) (by kernel_rfl) (fun _ _ _ h => h) (Or.inr ⟨by rfl, rfl⟩) ?_
    simp only [Act.put, List.setIfInBounds_toArray, List.set_cons_zero, List.set_cons_succ]
    refine wpAnyP_pure 18 (at_toArray rfl) (by kernel_rfl) (by kernel_rfl) (by kernel_rfl) (fun _ _ _ h => h) (Or.inr ⟨by rfl, rfl⟩) ?_
    simp only [Act.put, List.setIfInBounds_toArray, List.set_cons_zero, List.set_cons_succ]
    refine wpAnyP_pure (v := ?_) 19 (at_toArray rfl) (by kernel_rfl) (by kernel_rfl) (by kernel_rfl) (fun _ _ _ h => h) (Or.inl ⟨by rfl, fun W => ?_⟩) ?_
    rotate_left 1
    · (go_simp <;> (try go_bits) <;> with_reducible rfl)
    simp only [Act.put, List.setIfInBounds_toArray, List.set_cons_zero, List.set_cons_succ]
    refine wpAnyP_done (by kernel_rfl) ?_ _
    go_wp2_with fail
    (try simp only [Exit.inBlock, Exit.then]); refine bodyPost_end (results_none rfl _ _ _) rfl ?_
    have hr := HR.out
    rw [if_neg (fun h => hk h.1)] at hr
    exact ⟨rfl, by rw [hr]; exact HC1.out, HB1.out, Fr.of_below HBL.out⟩

end Go.Proofs.Ytpbcpocheblbfaa
