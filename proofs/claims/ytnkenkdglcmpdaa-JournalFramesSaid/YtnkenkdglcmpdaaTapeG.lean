/- The walks of the tape's three operations: what the closures do. -/
import Derived.Test.YtnkenkdglcmpdaaTapeF
namespace Go.Proofs.Ytnkenkdglcmpdaa
set_option linter.unusedVariables false
set_option linter.unusedSimpArgs false
open Go.RowKit

def TS.app (T : TS) (n : Int) (xs : List UInt8) : TS := if n = 0 then { T with b0 := T.b0 ++ xs } else { T with b1 := T.b1 ++ xs }
section
variable {w w1 : World} {tb : Nat} {T : TS} {F : Nat → Prop} {v0 v1 v' : Value} {pv : Option Addr}
theorem TapeAt.app0 (h : TapeAt w tb T F v0 v1 pv) {xs : List UInt8} (HO : OB w1 v' (T.b0 ++ xs)) (hg : w.grownBy w1 v0.ownBlock) (hat : v'.ownBlock = v0.ownBlock ∨ v'.ownBlock = some w.heap.size) (hfit : ((T.used + xs.length : Nat) : Int) ≤ T.room) :
    TapeAt (w1.setCell ⟨tb, 2, none⟩ v') tb (T.app 0 xs) (fun k => F k ∨ v'.ownBlock = some k) v' v1 pv ∧ Upd w (w1.setCell ⟨tb, 2, none⟩ v') F (fun k => F k ∨ v'.ownBlock = some k) := by
  have hfr : Fr (fun k => v0.ownBlock = some k) w w1 := Fr.grown hg (fun k hk => hk)
  have hfr2 : Fr F w w1 := hfr.mono (fun i hi => .inl (h.f0 i hi))
  have hb := h.blk.fr hfr (h.o0.ne h.blk (by decide))
  have h1 := h.o1.fr hfr (fun k hk hk0 => h.apart k hk0 hk)
  refine ⟨⟨hb.set 2 v', HO.setOther _ _ (HO.ne hb (by decide)), h1.setOther _ _ (h1.ne hb (by decide)), ?_, ?_, .inl h.ft, fun k hk => .inr hk, fun k hk => .inl (h.f1 k hk), ?_, ⟨?_, h.wf.s1, ?_, h.wf.room, h.wf.left⟩⟩, ⟨hfr2.trans (Fr.setCell F _ _ _ h.ft) (fun _ h => .inl h), ?_⟩⟩
  · exact h.pl.of (fun pb cs e hF hp => (hp.fr hfr (h.o0.ne hp (by decide))).setOther _ _ (Blk.ne (hp.fr hfr (h.o0.ne hp (by decide))) hb (by decide))) (fun _ h => .inl h)
  · intro k hk hk1
    rcases hat with e | e
    · exact h.apart k (by rw [← e]; exact hk) hk1
    · rw [e] at hk
      have := h.o1.lt k hk1
      simp at hk
      omega
  · intro k hk
    simp only [World.setCell, Array.size_modify]
    rcases hk with hk | hk
    · exact Nat.lt_of_lt_of_le (h.flt k hk) hg.size
    · exact HO.lt k hk
  · show T.s0 ≤ (T.b0 ++ xs).length
    have := h.wf.s0
    rw [List.length_append]; omega
  · show (((T.b0 ++ xs).length + T.b1.length : Nat) : Int) ≤ T.room
    simp only [TS.used] at hfit
    rw [List.length_append]; omega
  · intro k hk
    rcases hk with hk | hk
    · exact .inl hk
    · rcases hat with e | e
      · exact .inl (h.f0 k (by rw [← e]; exact hk))
      · rw [e] at hk; simp at hk; exact .inr (by omega)
theorem TapeAt.app1 (h : TapeAt w tb T F v0 v1 pv) {xs : List UInt8} (HO : OB w1 v' (T.b1 ++ xs)) (hg : w.grownBy w1 v1.ownBlock) (hat : v'.ownBlock = v1.ownBlock ∨ v'.ownBlock = some w.heap.size) (hfit : ((T.used + xs.length : Nat) : Int) ≤ T.room) :
    TapeAt (w1.setCell ⟨tb, 4, none⟩ v') tb (T.app 1 xs) (fun k => F k ∨ v'.ownBlock = some k) v0 v' pv ∧ Upd w (w1.setCell ⟨tb, 4, none⟩ v') F (fun k => F k ∨ v'.ownBlock = some k) := by
  have hfr : Fr (fun k => v1.ownBlock = some k) w w1 := Fr.grown hg (fun k hk => hk)
  have hfr2 : Fr F w w1 := hfr.mono (fun i hi => .inl (h.f1 i hi))
  have hb := h.blk.fr hfr (h.o1.ne h.blk (by decide))
  have h1 := h.o0.fr hfr (fun k hk hk0 => h.apart k hk hk0)
  refine ⟨⟨hb.set 4 v', h1.setOther _ _ (h1.ne hb (by decide)), HO.setOther _ _ (HO.ne hb (by decide)), ?_, ?_, .inl h.ft, fun k hk => .inl (h.f0 k hk), fun k hk => .inr hk, ?_, ⟨h.wf.s0, ?_, ?_, h.wf.room, h.wf.left⟩⟩, ⟨hfr2.trans (Fr.setCell F _ _ _ h.ft) (fun _ h => .inl h), ?_⟩⟩
  · exact h.pl.of (fun pb cs e hF hp => (hp.fr hfr (h.o1.ne hp (by decide))).setOther _ _ (Blk.ne (hp.fr hfr (h.o1.ne hp (by decide))) hb (by decide))) (fun _ h => .inl h)
  · intro k hk1 hk
    rcases hat with e | e
    · exact h.apart k hk1 (by rw [← e]; exact hk)
    · rw [e] at hk
      have := h.o0.lt k hk1
      simp at hk
      omega
  · intro k hk
    simp only [World.setCell, Array.size_modify]
    rcases hk with hk | hk
    · exact Nat.lt_of_lt_of_le (h.flt k hk) hg.size
    · exact HO.lt k hk
  · show T.s1 ≤ (T.b1 ++ xs).length
    have := h.wf.s1
    rw [List.length_append]; omega
  · show ((T.b0.length + (T.b1 ++ xs).length : Nat) : Int) ≤ T.room
    simp only [TS.used] at hfit
    rw [List.length_append]; omega
  · intro k hk
    rcases hk with hk | hk
    · exact .inl hk
    · rcases hat with e | e
      · exact .inl (h.f1 k (by rw [← e]; exact hk))
      · rw [e] at hk; simp at hk; exact .inr (by omega)
end

set_option maxRecDepth 100000 in
set_option maxHeartbeats 2000000 in
theorem append1_0 (tb b3 b4 b5 : Nat) (A : Option Addr) (c : Nat) (xs : List UInt8) (T : TS) (F : Nat → Prop) (w : World) (h : TapeR w tb T F)
    (k3 : w.cell? ⟨b3, 0, none⟩ = some (.pointer (some ⟨tb, 0, none⟩))) (k4 : w.cell? ⟨b4, 0, none⟩ = some (.int .i64 0)) (k5 : w.cell? ⟨b5, 0, none⟩ = some (.slice A xs.length c)) (f3 : ¬ F b3) (f4 : ¬ F b4) (f5 : ¬ F b5)
    (hr : RB w A xs) (hfit : ((T.used + xs.length : Nat) : Int) ≤ T.room) :
    Calls Try.prog 64 #[.pointer (some ⟨b3, 0, none⟩), .pointer (some ⟨b4, 0, none⟩), .pointer (some ⟨b5, 0, none⟩)] w fun e w' => e = .returned (.tuple #[]) ∧ ∃ F', TapeR w' tb (T.app 0 xs) F' ∧ Upd w w' F F' := by
  obtain ⟨v0, v1, pv, h⟩ := h
  obtain ⟨wd, hwd⟩ : ∃ wd, wd = w.drew := ⟨_, rfl⟩
  have hd : Below w.heap.size w wd := by rw [hwd]; exact (Below.refl _ _).drew
  have H := Lib.hid (h.fr (Fr.of_below (F := fun _ => False) hd) (fun _ _ h => h))
  have HR := Lib.hid (hr.below hd)
  have d3 : wd.cell? ⟨b3, 0, none⟩ = some (.pointer (some ⟨tb, 0, none⟩)) := (hd.cell (World.block_lt_of_cell? w _ k3)).trans k3
  have d4 : wd.cell? ⟨b4, 0, none⟩ = some (.int .i64 0) := (hd.cell (World.block_lt_of_cell? w _ k4)).trans k4
  have d5 : wd.cell? ⟨b5, 0, none⟩ = some (.slice A xs.length c) := (hd.cell (World.block_lt_of_cell? w _ k5)).trans k5
  have dt := H.out.c2
  have l0 := H.out.len0
  have hxl : T.b0.length + xs.length ≤ 140737488355328 := by
    have h1 := h.wf.room
    simp only [TS.used] at hfit
    omega
  clear k3 k4 k5 hr h
  obtain ⟨A0, c0, hv⟩ := H.out.o0.form
  rw [hv] at dt
  have HV := Lib.hid hv
  clear hv
  go_enter Try.func64, Try.ntmps64
  go_wp2_with fail
  refine wp_region_phased (fun W => W.cell? ⟨b3, 0, none⟩ = some (.pointer (some ⟨tb, 0, none⟩)) ∧ W.cell? ⟨b4, 0, none⟩ = some (.int .i64 0) ∧ W.cell? ⟨b5, 0, none⟩ = some (.slice A xs.length c) ∧ W.cell? ⟨tb, 2, none⟩ = some (.slice A0 T.b0.length c0)) 17 (by kernel_rfl) (by rw [← hwd]; exact ⟨d3, d4, d5, dt⟩) (fun hS0 => ?_)
  rw [← hwd] at hS0 ⊢
  have U0 := Lib.hid (Upd.of_below (F := F) hd)
  clear hwd hd
  refine wpAnyP_load (v := ?_) 0 (by kernel_rfl) (at_toArray rfl) (by kernel_rfl) (by kernel_rfl) (by kernel_rfl) (fun _ _ _ h => h) (by first | assumption | rfl) (Or.inl ⟨by rfl, fun W hS => ?_⟩) ?_
  rotate_left 1
  · (obtain ⟨e3, e4, e5, et⟩ := hS; go_simp <;> (try go_bits) <;> with_reducible rfl)
  simp only [Act.put, List.setIfInBounds_toArray, List.set_cons_zero, List.set_cons_succ]
  refine wpAnyP_load (v := ?_) 1 (by kernel_rfl) (at_toArray rfl) (by kernel_rfl) (by kernel_rfl) (by kernel_rfl) (fun _ _ _ h => h) (by first | assumption | rfl) (Or.inl ⟨by rfl, fun W hS => ?_⟩) ?_
  rotate_left 1
  · (obtain ⟨e3, e4, e5, et⟩ := hS; go_simp <;> (try go_bits) <;> with_reducible rfl)
  simp only [Act.put, List.setIfInBounds_toArray, List.set_cons_zero, List.set_cons_succ]
  refine wpAnyP_load (v := ?_) 2 (by kernel_rfl) (at_toArray rfl) (by kernel_rfl) (by kernel_rfl) (by kernel_rfl) (fun _ _ _ h => h) (by first | assumption | rfl) (Or.inl ⟨by rfl, fun W hS => ?_⟩) ?_
  rotate_left 1
  · (obtain ⟨e3, e4, e5, et⟩ := hS; go_simp <;> (try go_bits) <;> with_reducible rfl)
  simp only [Act.put, List.setIfInBounds_toArray, List.set_cons_zero, List.set_cons_succ]
  refine wpAnyP_load (v := ?_) 3 (by kernel_rfl) (at_toArray rfl) (by kernel_rfl) (by kernel_rfl) (by kernel_rfl) (fun _ _ _ h => h) (by first | assumption | rfl) (Or.inl ⟨by rfl, fun W hS => ?_⟩) ?_
  rotate_left 1
  · (obtain ⟨e3, e4, e5, et⟩ := hS; go_simp <;> (try go_bits) <;> with_reducible rfl)
  simp only [Act.put, List.setIfInBounds_toArray, List.set_cons_zero, List.set_cons_succ]
  refine wpAnyP_pure (v := ?_) 4 (at_toArray rfl) (by kernel_rfl) (by kernel_rfl) (by kernel_rfl) (fun _ _ _ h => h) (Or.inl ⟨by rfl, fun W => ?_⟩) ?_
  rotate_left 1
  · (go_simp <;> (try go_bits) <;> with_reducible rfl)
  simp only [Act.put, List.setIfInBounds_toArray, List.set_cons_zero, List.set_cons_succ]
  refine wpAnyP_pure (v := ?_) 5 (at_toArray rfl) (by kernel_rfl) (by kernel_rfl) (by kernel_rfl) (fun _ _ _ h => h) (Or.inl ⟨by rfl, fun W => ?_⟩) ?_
  rotate_left 1
  · (go_simp <;> (try go_bits) <;> with_reducible rfl)
  simp only [Act.put, List.setIfInBounds_toArray, List.set_cons_zero, List.set_cons_succ]
  refine wpAnyP_pure (v := ?_) 6 (at_toArray rfl) (by kernel_rfl) (by kernel_rfl) (by kernel_rfl) (fun _ _ _ h => h) (Or.inl ⟨by rfl, fun W => ?_⟩) ?_
  rotate_left 1
  · (go_simp <;> (try go_bits) <;> with_reducible rfl)
  simp only [Act.put, List.setIfInBounds_toArray, List.set_cons_zero, List.set_cons_succ]
  refine wpAnyP_pure (v := ?_) 7 (at_toArray rfl) (by kernel_rfl) (by kernel_rfl) (by kernel_rfl) (fun _ _ _ h => h) (Or.inl ⟨by rfl, fun W => ?_⟩) ?_
  rotate_left 1
  · (go_simp <;> (try go_bits) <;> with_reducible rfl)
  simp only [Act.put, List.setIfInBounds_toArray, List.set_cons_zero, List.set_cons_succ]
  refine wpAnyP_pure (v := ?_) 8 (at_toArray rfl) (by kernel_rfl) (by kernel_rfl) (by kernel_rfl) (fun _ _ _ h => h) (Or.inl ⟨by rfl, fun W => ?_⟩) ?_
  rotate_left 1
  · (go_simp <;> (try go_bits) <;> with_reducible rfl)
  simp only [Act.put, List.setIfInBounds_toArray, List.set_cons_zero, List.set_cons_succ]
  refine wpAnyP_load (v := ?_) 9 (by kernel_rfl) (at_toArray rfl) (by kernel_rfl) (by kernel_rfl) (by kernel_rfl) (fun _ _ _ h => h) (by first | assumption | rfl) (Or.inl ⟨by rfl, fun W hS => ?_⟩) ?_
  rotate_left 1
  · (obtain ⟨e3, e4, e5, et⟩ := hS; go_simp <;> (try go_bits) <;> with_reducible rfl)
  simp only [Act.put, List.setIfInBounds_toArray, List.set_cons_zero, List.set_cons_succ]
  refine wpAnyP_load (v := ?_) 10 (by kernel_rfl) (at_toArray rfl) (by kernel_rfl) (by kernel_rfl) (by kernel_rfl) (fun _ _ _ h => h) (by first | assumption | rfl) (Or.inl ⟨by rfl, fun W hS => ?_⟩) ?_
  rotate_left 1
  · (obtain ⟨e3, e4, e5, et⟩ := hS; go_simp <;> (try go_bits) <;> with_reducible rfl)
  simp only [Act.put, List.setIfInBounds_toArray, List.set_cons_zero, List.set_cons_succ]
  refine wpAnyP_pure (v := ?_) 12 (at_toArray rfl) (by kernel_rfl) (by kernel_rfl) (by kernel_rfl) (fun _ _ _ h => h) (Or.inl ⟨by rfl, fun W => ?_⟩) ?_
  rotate_left 1
  · (go_simp <;> (try go_bits) <;> with_reducible rfl)
  simp only [Act.put, List.setIfInBounds_toArray, List.set_cons_zero, List.set_cons_succ]
  refine wpAnyP_pure (v := ?_) 13 (at_toArray rfl) (by kernel_rfl) (by kernel_rfl) (by kernel_rfl) (fun _ _ _ h => h) (Or.inl ⟨by rfl, fun W => ?_⟩) ?_
  rotate_left 1
  · (go_simp <;> (try go_bits) <;> with_reducible rfl)
  simp only [Act.put, List.setIfInBounds_toArray, List.set_cons_zero, List.set_cons_succ]
  refine wpAnyP_one 11 (at_toArray rfl) (by kernel_rfl) rfl (fun K hK => ?_)
  refine wp_append_b (.tmp 12) (.tmp 13) rfl (.slice A0 T.b0.length c0) T.b0 rfl (by rw [← HV.out]; exact H.out.o0) A c xs rfl HR.out hxl ?_
  intro v' w1 HO hg hat
  rw [← HV.out] at hg hat
  have hfr : Fr F wd w1 := (Fr.grown hg (fun k hk => hk)).mono (fun i hi => .inl (H.out.f0 i hi))
  have a3 : w1.cell? ⟨b3, 0, none⟩ = some (.pointer (some ⟨tb, 0, none⟩)) := (World.cell?_of_block (a := ⟨b3, 0, none⟩) (hfr.block b3 (World.block_lt_of_cell? wd _ d3) f3)).trans d3
  have a4 : w1.cell? ⟨b4, 0, none⟩ = some (.int .i64 0) := (World.cell?_of_block (a := ⟨b4, 0, none⟩) (hfr.block b4 (World.block_lt_of_cell? wd _ d4) f4)).trans d4
  have a5 : w1.cell? ⟨b5, 0, none⟩ = some (.slice A xs.length c) := (World.cell?_of_block (a := ⟨b5, 0, none⟩) (hfr.block b5 (World.block_lt_of_cell? wd _ d5) f5)).trans d5
  have hbt := H.out.blk.fr (Fr.grown hg (fun k hk => hk)) (H.out.o0.ne H.out.blk (by decide))
  have at_ : w1.cell? ⟨tb, 2, none⟩ = some (.slice A0 T.b0.length c0) := by rw [hbt.cell, ← HV.out]; rfl
  have gt := hbt.free 2
  have hfin := H.out.app0 HO hg hat hfit
  obtain ⟨A1, c1, hv1⟩ := HO.form
  rw [List.length_append] at hv1
  subst hv1
  have HF := Lib.hid hfin
  clear hfin HO hg hat hfr hbt
  refine hK.out _ _ (fun _ _ => ⟨a3, a4, a5, at_⟩) ?_
  simp only [Act.put, List.setIfInBounds_toArray, List.set_cons_zero, List.set_cons_succ]
  clear hK hS0 d3 d4 d5 dt
  refine wpAnyP_pure (v := ?_) 14 (at_toArray rfl) (by kernel_rfl) (by kernel_rfl) (by kernel_rfl) (fun _ _ _ h => h) (Or.inl ⟨by rfl, fun W => ?_⟩) ?_
  rotate_left 1
  · (go_simp <;> (try go_bits) <;> with_reducible rfl)
  simp only [Act.put, List.setIfInBounds_toArray, List.set_cons_zero, List.set_cons_succ]
  refine wpAnyP_pure (v := ?_) 15 (at_toArray rfl) (by kernel_rfl) (by kernel_rfl) (by kernel_rfl) (fun _ _ _ h => h) (Or.inl ⟨by rfl, fun W => ?_⟩) ?_
  rotate_left 1
  · (go_simp <;> (try go_bits) <;> with_reducible rfl)
  simp only [Act.put, List.setIfInBounds_toArray, List.set_cons_zero, List.set_cons_succ]
  refine wpAnyP_pure (v := ?_) 16 (at_toArray rfl) (by kernel_rfl) (by kernel_rfl) (by kernel_rfl) (fun _ _ _ h => h) (Or.inl ⟨by rfl, fun W => ?_⟩) ?_
  rotate_left 1
  · (go_simp <;> (try go_bits) <;> with_reducible rfl)
  simp only [Act.put, List.setIfInBounds_toArray, List.set_cons_zero, List.set_cons_succ]
  refine wpAnyP_one 17 (at_toArray rfl) (by kernel_rfl) rfl (fun K hK => ?_)
  go_wp2_with fail
  refine hK.out _ _ (fun h => absurd h (by decide)) ?_
  clear hK
  refine wpAnyP_done (by kernel_rfl) ?_ _
  go_end0
  exact ⟨rfl, _, ⟨_, _, _, HF.out.1⟩, U0.out.trans HF.out.2⟩

set_option maxRecDepth 100000 in
set_option maxHeartbeats 2000000 in
theorem append1_1 (tb b3 b4 b5 : Nat) (A : Option Addr) (c : Nat) (xs : List UInt8) (T : TS) (F : Nat → Prop) (w : World) (h : TapeR w tb T F)
    (k3 : w.cell? ⟨b3, 0, none⟩ = some (.pointer (some ⟨tb, 0, none⟩))) (k4 : w.cell? ⟨b4, 0, none⟩ = some (.int .i64 1)) (k5 : w.cell? ⟨b5, 0, none⟩ = some (.slice A xs.length c)) (f3 : ¬ F b3) (f4 : ¬ F b4) (f5 : ¬ F b5)
    (hr : RB w A xs) (hfit : ((T.used + xs.length : Nat) : Int) ≤ T.room) :
    Calls Try.prog 64 #[.pointer (some ⟨b3, 0, none⟩), .pointer (some ⟨b4, 0, none⟩), .pointer (some ⟨b5, 0, none⟩)] w fun e w' => e = .returned (.tuple #[]) ∧ ∃ F', TapeR w' tb (T.app 1 xs) F' ∧ Upd w w' F F' := by
  obtain ⟨v0, v1, pv, h⟩ := h
  obtain ⟨wd, hwd⟩ : ∃ wd, wd = w.drew := ⟨_, rfl⟩
  have hd : Below w.heap.size w wd := by rw [hwd]; exact (Below.refl _ _).drew
  have H := Lib.hid (h.fr (Fr.of_below (F := fun _ => False) hd) (fun _ _ h => h))
  have HR := Lib.hid (hr.below hd)
  have d3 : wd.cell? ⟨b3, 0, none⟩ = some (.pointer (some ⟨tb, 0, none⟩)) := (hd.cell (World.block_lt_of_cell? w _ k3)).trans k3
  have d4 : wd.cell? ⟨b4, 0, none⟩ = some (.int .i64 1) := (hd.cell (World.block_lt_of_cell? w _ k4)).trans k4
  have d5 : wd.cell? ⟨b5, 0, none⟩ = some (.slice A xs.length c) := (hd.cell (World.block_lt_of_cell? w _ k5)).trans k5
  have dt := H.out.c4
  have l0 := H.out.len1
  have hxl : T.b1.length + xs.length ≤ 140737488355328 := by
    have h1 := h.wf.room
    simp only [TS.used] at hfit
    omega
  clear k3 k4 k5 hr h
  obtain ⟨A0, c0, hv⟩ := H.out.o1.form
  rw [hv] at dt
  have HV := Lib.hid hv
  clear hv
  go_enter Try.func64, Try.ntmps64
  go_wp2_with fail
  refine wp_region_phased (fun W => W.cell? ⟨b3, 0, none⟩ = some (.pointer (some ⟨tb, 0, none⟩)) ∧ W.cell? ⟨b4, 0, none⟩ = some (.int .i64 1) ∧ W.cell? ⟨b5, 0, none⟩ = some (.slice A xs.length c) ∧ W.cell? ⟨tb, 4, none⟩ = some (.slice A0 T.b1.length c0)) 17 (by kernel_rfl) (by rw [← hwd]; exact ⟨d3, d4, d5, dt⟩) (fun hS0 => ?_)
  rw [← hwd] at hS0 ⊢
  have U0 := Lib.hid (Upd.of_below (F := F) hd)
  clear hwd hd
  refine wpAnyP_load (v := ?_) 0 (by kernel_rfl) (at_toArray rfl) (by kernel_rfl) (by kernel_rfl) (by kernel_rfl) (fun _ _ _ h => h) (by first | assumption | rfl) (Or.inl ⟨by rfl, fun W hS => ?_⟩) ?_
  rotate_left 1
  · (obtain ⟨e3, e4, e5, et⟩ := hS; go_simp <;> (try go_bits) <;> with_reducible rfl)
  simp only [Act.put, List.setIfInBounds_toArray, List.set_cons_zero, List.set_cons_succ]
  refine wpAnyP_load (v := ?_) 1 (by kernel_rfl) (at_toArray rfl) (by kernel_rfl) (by kernel_rfl) (by kernel_rfl) (fun _ _ _ h => h) (by first | assumption | rfl) (Or.inl ⟨by rfl, fun W hS => ?_⟩) ?_
  rotate_left 1
  · (obtain ⟨e3, e4, e5, et⟩ := hS; go_simp <;> (try go_bits) <;> with_reducible rfl)
  simp only [Act.put, List.setIfInBounds_toArray, List.set_cons_zero, List.set_cons_succ]
  refine wpAnyP_load (v := ?_) 2 (by kernel_rfl) (at_toArray rfl) (by kernel_rfl) (by kernel_rfl) (by kernel_rfl) (fun _ _ _ h => h) (by first | assumption | rfl) (Or.inl ⟨by rfl, fun W hS => ?_⟩) ?_
  rotate_left 1
  · (obtain ⟨e3, e4, e5, et⟩ := hS; go_simp <;> (try go_bits) <;> with_reducible rfl)
  simp only [Act.put, List.setIfInBounds_toArray, List.set_cons_zero, List.set_cons_succ]
  refine wpAnyP_load (v := ?_) 3 (by kernel_rfl) (at_toArray rfl) (by kernel_rfl) (by kernel_rfl) (by kernel_rfl) (fun _ _ _ h => h) (by first | assumption | rfl) (Or.inl ⟨by rfl, fun W hS => ?_⟩) ?_
  rotate_left 1
  · (obtain ⟨e3, e4, e5, et⟩ := hS; go_simp <;> (try go_bits) <;> with_reducible rfl)
  simp only [Act.put, List.setIfInBounds_toArray, List.set_cons_zero, List.set_cons_succ]
  refine wpAnyP_pure (v := ?_) 4 (at_toArray rfl) (by kernel_rfl) (by kernel_rfl) (by kernel_rfl) (fun _ _ _ h => h) (Or.inl ⟨by rfl, fun W => ?_⟩) ?_
  rotate_left 1
  · (go_simp <;> (try go_bits) <;> with_reducible rfl)
  simp only [Act.put, List.setIfInBounds_toArray, List.set_cons_zero, List.set_cons_succ]
  refine wpAnyP_pure (v := ?_) 5 (at_toArray rfl) (by kernel_rfl) (by kernel_rfl) (by kernel_rfl) (fun _ _ _ h => h) (Or.inl ⟨by rfl, fun W => ?_⟩) ?_
  rotate_left 1
  · (go_simp <;> (try go_bits) <;> with_reducible rfl)
  simp only [Act.put, List.setIfInBounds_toArray, List.set_cons_zero, List.set_cons_succ]
  refine wpAnyP_pure (v := ?_) 6 (at_toArray rfl) (by kernel_rfl) (by kernel_rfl) (by kernel_rfl) (fun _ _ _ h => h) (Or.inl ⟨by rfl, fun W => ?_⟩) ?_
  rotate_left 1
  · (go_simp <;> (try go_bits) <;> with_reducible rfl)
  simp only [Act.put, List.setIfInBounds_toArray, List.set_cons_zero, List.set_cons_succ]
  refine wpAnyP_pure (v := ?_) 7 (at_toArray rfl) (by kernel_rfl) (by kernel_rfl) (by kernel_rfl) (fun _ _ _ h => h) (Or.inl ⟨by rfl, fun W => ?_⟩) ?_
  rotate_left 1
  · (go_simp <;> (try go_bits) <;> with_reducible rfl)
  simp only [Act.put, List.setIfInBounds_toArray, List.set_cons_zero, List.set_cons_succ]
  refine wpAnyP_pure (v := ?_) 8 (at_toArray rfl) (by kernel_rfl) (by kernel_rfl) (by kernel_rfl) (fun _ _ _ h => h) (Or.inl ⟨by rfl, fun W => ?_⟩) ?_
  rotate_left 1
  · (go_simp <;> (try go_bits) <;> with_reducible rfl)
  simp only [Act.put, List.setIfInBounds_toArray, List.set_cons_zero, List.set_cons_succ]
  refine wpAnyP_load (v := ?_) 9 (by kernel_rfl) (at_toArray rfl) (by kernel_rfl) (by kernel_rfl) (by kernel_rfl) (fun _ _ _ h => h) (by first | assumption | rfl) (Or.inl ⟨by rfl, fun W hS => ?_⟩) ?_
  rotate_left 1
  · (obtain ⟨e3, e4, e5, et⟩ := hS; go_simp <;> (try go_bits) <;> with_reducible rfl)
  simp only [Act.put, List.setIfInBounds_toArray, List.set_cons_zero, List.set_cons_succ]
  refine wpAnyP_load (v := ?_) 10 (by kernel_rfl) (at_toArray rfl) (by kernel_rfl) (by kernel_rfl) (by kernel_rfl) (fun _ _ _ h => h) (by first | assumption | rfl) (Or.inl ⟨by rfl, fun W hS => ?_⟩) ?_
  rotate_left 1
  · (obtain ⟨e3, e4, e5, et⟩ := hS; go_simp <;> (try go_bits) <;> with_reducible rfl)
  simp only [Act.put, List.setIfInBounds_toArray, List.set_cons_zero, List.set_cons_succ]
  refine wpAnyP_pure (v := ?_) 12 (at_toArray rfl) (by kernel_rfl) (by kernel_rfl) (by kernel_rfl) (fun _ _ _ h => h) (Or.inl ⟨by rfl, fun W => ?_⟩) ?_
  rotate_left 1
  · (go_simp <;> (try go_bits) <;> with_reducible rfl)
  simp only [Act.put, List.setIfInBounds_toArray, List.set_cons_zero, List.set_cons_succ]
  refine wpAnyP_pure (v := ?_) 13 (at_toArray rfl) (by kernel_rfl) (by kernel_rfl) (by kernel_rfl) (fun _ _ _ h => h) (Or.inl ⟨by rfl, fun W => ?_⟩) ?_
  rotate_left 1
  · (go_simp <;> (try go_bits) <;> with_reducible rfl)
  simp only [Act.put, List.setIfInBounds_toArray, List.set_cons_zero, List.set_cons_succ]
  refine wpAnyP_one 11 (at_toArray rfl) (by kernel_rfl) rfl (fun K hK => ?_)
  refine wp_append_b (.tmp 12) (.tmp 13) rfl (.slice A0 T.b1.length c0) T.b1 rfl (by rw [← HV.out]; exact H.out.o1) A c xs rfl HR.out hxl ?_
  intro v' w1 HO hg hat
  rw [← HV.out] at hg hat
  have hfr : Fr F wd w1 := (Fr.grown hg (fun k hk => hk)).mono (fun i hi => .inl (H.out.f1 i hi))
  have a3 : w1.cell? ⟨b3, 0, none⟩ = some (.pointer (some ⟨tb, 0, none⟩)) := (World.cell?_of_block (a := ⟨b3, 0, none⟩) (hfr.block b3 (World.block_lt_of_cell? wd _ d3) f3)).trans d3
  have a4 : w1.cell? ⟨b4, 0, none⟩ = some (.int .i64 1) := (World.cell?_of_block (a := ⟨b4, 0, none⟩) (hfr.block b4 (World.block_lt_of_cell? wd _ d4) f4)).trans d4
  have a5 : w1.cell? ⟨b5, 0, none⟩ = some (.slice A xs.length c) := (World.cell?_of_block (a := ⟨b5, 0, none⟩) (hfr.block b5 (World.block_lt_of_cell? wd _ d5) f5)).trans d5
  have hbt := H.out.blk.fr (Fr.grown hg (fun k hk => hk)) (H.out.o1.ne H.out.blk (by decide))
  have at_ : w1.cell? ⟨tb, 4, none⟩ = some (.slice A0 T.b1.length c0) := by rw [hbt.cell, ← HV.out]; rfl
  have gt := hbt.free 4
  have hfin := H.out.app1 HO hg hat hfit
  obtain ⟨A1, c1, hv1⟩ := HO.form
  rw [List.length_append] at hv1
  subst hv1
  have HF := Lib.hid hfin
  clear hfin HO hg hat hfr hbt
  refine hK.out _ _ (fun _ _ => ⟨a3, a4, a5, at_⟩) ?_
  simp only [Act.put, List.setIfInBounds_toArray, List.set_cons_zero, List.set_cons_succ]
  clear hK hS0 d3 d4 d5 dt
  refine wpAnyP_pure (v := ?_) 14 (at_toArray rfl) (by kernel_rfl) (by kernel_rfl) (by kernel_rfl) (fun _ _ _ h => h) (Or.inl ⟨by rfl, fun W => ?_⟩) ?_
  rotate_left 1
  · (go_simp <;> (try go_bits) <;> with_reducible rfl)
  simp only [Act.put, List.setIfInBounds_toArray, List.set_cons_zero, List.set_cons_succ]
  refine wpAnyP_pure (v := ?_) 15 (at_toArray rfl) (by kernel_rfl) (by kernel_rfl) (by kernel_rfl) (fun _ _ _ h => h) (Or.inl ⟨by rfl, fun W => ?_⟩) ?_
  rotate_left 1
  · (go_simp <;> (try go_bits) <;> with_reducible rfl)
  simp only [Act.put, List.setIfInBounds_toArray, List.set_cons_zero, List.set_cons_succ]
  refine wpAnyP_pure (v := ?_) 16 (at_toArray rfl) (by kernel_rfl) (by kernel_rfl) (by kernel_rfl) (fun _ _ _ h => h) (Or.inl ⟨by rfl, fun W => ?_⟩) ?_
  rotate_left 1
  · (go_simp <;> (try go_bits) <;> with_reducible rfl)
  simp only [Act.put, List.setIfInBounds_toArray, List.set_cons_zero, List.set_cons_succ]
  refine wpAnyP_one 17 (at_toArray rfl) (by kernel_rfl) rfl (fun K hK => ?_)
  go_wp2_with fail
  refine hK.out _ _ (fun h => absurd h (by decide)) ?_
  clear hK
  refine wpAnyP_done (by kernel_rfl) ?_ _
  go_end0
  exact ⟨rfl, _, ⟨_, _, _, HF.out.1⟩, U0.out.trans HF.out.2⟩

end Go.Proofs.Ytnkenkdglcmpdaa
