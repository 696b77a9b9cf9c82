/- Parts: The walks of the tape's three operations: what the closures do. .. The walks of the tape's New, Append, Sync, Clear. -/
import Derived.Test.YtdhafdejionefaaGreatM02
/- The walks of the tape's three operations: what the closures do. -/
namespace Go.Proofs.YtdhafdejionefaaGreat
set_option linter.unusedVariables false
set_option linter.unusedSimpArgs false
open Go.RowKit

def TS.app (T : TS) (n : Int) (xs : List UInt8) : TS := if n = 0 then { T with b0 := T.b0 ++ xs } else { T with b1 := T.b1 ++ xs }
section
variable {w w1 : World} {tb : Nat} {T : TS} {F : Nat → Prop} {v0 v1 v' : Value} {pv : Option Addr}
theorem TapeAt.app0 (h : TapeAt w tb T F v0 v1 pv) {xs : List UInt8} (HO : OB w1 v' (T.b0 ++ xs)) (hg : w.grownBy w1 v0.ownBlock) (hat : v'.ownBlock = v0.ownBlock ∨ v'.ownBlock = some w.heap.size) (hfit : ((T.used + xs.length : Nat) : Int) ≤ T.room) :
    TapeAt (w1.setCell ⟨tb, 2, none⟩ v') tb (T.app 0 xs) (fun k => F k ∨ v'.ownBlock = some k) v' v1 pv ∧ Upd w (w1.setCell ⟨tb, 2, none⟩ v') F (fun k => F k ∨ v'.ownBlock = some k) := by
  have hfr : Fr (fun k => v0.ownBlock = some k) w w1 := Fr.grown hg (fun k hk => hk)
  have hfr2 : Fr F w w1 := hfr.mono (fun i hi => .inl (h.f0 i hi))
  have hb := h.blk.fr hfr (h.o0.ne h.blk (by decide))
  have h1 := h.o1.fr hfr (fun k hk hk0 => h.apart k hk0 hk)
  refine ⟨⟨hb.set 2 v', HO.setOther _ _ (HO.ne hb (by decide)), h1.setOther _ _ (h1.ne hb (by decide)), ?_, ?_, .inl h.ft, fun k hk => .inr hk, fun k hk => .inl (h.f1 k hk), ?_, ⟨?_, h.wf.s1, ?_, h.wf.room, h.wf.left⟩⟩, ⟨hfr2.trans (Fr.setCell F _ _ _ h.ft) (fun _ h => .inl h), ?_⟩⟩
  · exact h.pl.of (fun pb cs e hF hp => (hp.fr hfr (h.o0.ne hp (by decide))).setOther _ _ (Blk.ne (hp.fr hfr (h.o0.ne hp (by decide))) hb (by decide))) (fun _ h => .inl h)
  · intro k hk hk1
    rcases hat with e | e
    · exact h.apart k (by rw [← e]; exact hk) hk1
    · rw [e] at hk
      have := h.o1.lt k hk1
      simp at hk
      omega
  · intro k hk
    simp only [World.setCell, Array.size_modify]
    rcases hk with hk | hk
    · exact Nat.lt_of_lt_of_le (h.flt k hk) hg.size
    · exact HO.lt k hk
  · show T.s0 ≤ (T.b0 ++ xs).length
    have := h.wf.s0
    rw [List.length_append]; omega
  · show (((T.b0 ++ xs).length + T.b1.length : Nat) : Int) ≤ T.room
    simp only [TS.used] at hfit
    rw [List.length_append]; omega
  · intro k hk
    rcases hk with hk | hk
    · exact .inl hk
    · rcases hat with e | e
      · exact .inl (h.f0 k (by rw [← e]; exact hk))
      · rw [e] at hk; simp at hk; exact .inr (by omega)
theorem TapeAt.app1 (h : TapeAt w tb T F v0 v1 pv) {xs : List UInt8} (HO : OB w1 v' (T.b1 ++ xs)) (hg : w.grownBy w1 v1.ownBlock) (hat : v'.ownBlock = v1.ownBlock ∨ v'.ownBlock = some w.heap.size) (hfit : ((T.used + xs.length : Nat) : Int) ≤ T.room) :
    TapeAt (w1.setCell ⟨tb, 4, none⟩ v') tb (T.app 1 xs) (fun k => F k ∨ v'.ownBlock = some k) v0 v' pv ∧ Upd w (w1.setCell ⟨tb, 4, none⟩ v') F (fun k => F k ∨ v'.ownBlock = some k) := by
  have hfr : Fr (fun k => v1.ownBlock = some k) w w1 := Fr.grown hg (fun k hk => hk)
  have hfr2 : Fr F w w1 := hfr.mono (fun i hi => .inl (h.f1 i hi))
  have hb := h.blk.fr hfr (h.o1.ne h.blk (by decide))
  have h1 := h.o0.fr hfr (fun k hk hk0 => h.apart k hk hk0)
  refine ⟨⟨hb.set 4 v', h1.setOther _ _ (h1.ne hb (by decide)), HO.setOther _ _ (HO.ne hb (by decide)), ?_, ?_, .inl h.ft, fun k hk => .inl (h.f0 k hk), fun k hk => .inr hk, ?_, ⟨h.wf.s0, ?_, ?_, h.wf.room, h.wf.left⟩⟩, ⟨hfr2.trans (Fr.setCell F _ _ _ h.ft) (fun _ h => .inl h), ?_⟩⟩
  · exact h.pl.of (fun pb cs e hF hp => (hp.fr hfr (h.o1.ne hp (by decide))).setOther _ _ (Blk.ne (hp.fr hfr (h.o1.ne hp (by decide))) hb (by decide))) (fun _ h => .inl h)
  · intro k hk1 hk
    rcases hat with e | e
    · exact h.apart k hk1 (by rw [← e]; exact hk)
    · rw [e] at hk
      have := h.o0.lt k hk1
      simp at hk
      omega
  · intro k hk
    simp only [World.setCell, Array.size_modify]
    rcases hk with hk | hk
    · exact Nat.lt_of_lt_of_le (h.flt k hk) hg.size
    · exact HO.lt k hk
  · show T.s1 ≤ (T.b1 ++ xs).length
    have := h.wf.s1
    rw [List.length_append]; omega
  · show ((T.b0.length + (T.b1 ++ xs).length : Nat) : Int) ≤ T.room
    simp only [TS.used] at hfit
    rw [List.length_append]; omega
  · intro k hk
    rcases hk with hk | hk
    · exact .inl hk
    · rcases hat with e | e
      · exact .inl (h.f1 k (by rw [← e]; exact hk))
      · rw [e] at hk; simp at hk; exact .inr (by omega)
end

set_option maxRecDepth 100000 in
set_option maxHeartbeats 2000000 in
theorem append1_0 (tb b3 b4 b5 : Nat) (A : Option Addr) (c : Nat) (xs : List UInt8) (T : TS) (F : Nat → Prop) (w : World) (h : TapeR w tb T F)
    (k3 : w.cell? ⟨b3, 0, none⟩ = some (.pointer (some ⟨tb, 0, none⟩))) (k4 : w.cell? ⟨b4, 0, none⟩ = some (.int .i64 0)) (k5 : w.cell? ⟨b5, 0, none⟩ = some (.slice A xs.length c)) (f3 : ¬ F b3) (f4 : ¬ F b4) (f5 : ¬ F b5)
    (hr : RB w A xs) (hfit : ((T.used + xs.length : Nat) : Int) ≤ T.room) :
    Calls Tryz.prog 56 #[.pointer (some ⟨b3, 0, none⟩), .pointer (some ⟨b4, 0, none⟩), .pointer (some ⟨b5, 0, none⟩)] w fun e w' => e = .returned (.tuple #[]) ∧ ∃ F', TapeR w' tb (T.app 0 xs) F' ∧ Upd w w' F F' := by
  obtain ⟨v0, v1, pv, h⟩ := h
  obtain ⟨wd, hwd⟩ : ∃ wd, wd = w.drew := ⟨_, rfl⟩
  have hd : Below w.heap.size w wd := by rw [hwd]; exact (Below.refl _ _).drew
  have H := Lib.hid (h.fr (Fr.of_below (F := fun _ => False) hd) (fun _ _ h => h))
  have HR := Lib.hid (hr.below hd)
  have d3 : wd.cell? ⟨b3, 0, none⟩ = some (.pointer (some ⟨tb, 0, none⟩)) := (hd.cell (World.block_lt_of_cell? w _ k3)).trans k3
  have d4 : wd.cell? ⟨b4, 0, none⟩ = some (.int .i64 0) := (hd.cell (World.block_lt_of_cell? w _ k4)).trans k4
  have d5 : wd.cell? ⟨b5, 0, none⟩ = some (.slice A xs.length c) := (hd.cell (World.block_lt_of_cell? w _ k5)).trans k5
  have dt := H.out.c2
  have l0 := H.out.len0
  have hxl : T.b0.length + xs.length ≤ 140737488355328 := by
    have h1 := h.wf.room
    simp only [TS.used] at hfit
    omega
  clear k3 k4 k5 hr h
  obtain ⟨A0, c0, hv⟩ := H.out.o0.form
  rw [hv] at dt
  have HV := Lib.hid hv
  clear hv
  go_enter Tryz.func56, Tryz.ntmps56
  go_wp2_with fail
  refine wp_region_phased (fun W => W.cell? ⟨b3, 0, none⟩ = some (.pointer (some ⟨tb, 0, none⟩)) ∧ W.cell? ⟨b4, 0, none⟩ = some (.int .i64 0) ∧ W.cell? ⟨b5, 0, none⟩ = some (.slice A xs.length c) ∧ W.cell? ⟨tb, 2, none⟩ = some (.slice A0 T.b0.length c0)) 17 (by kernel_rfl) (by rw [← hwd]; exact ⟨d3, d4, d5, dt⟩) (fun hS0 => ?_)
  rw [← hwd] at hS0 ⊢
  have U0 := Lib.hid (Upd.of_below (F := F) hd)
  clear hwd hd
  refine wpAnyP_load (v := ?_) 0 (by kernel_rfl) (at_toArray rfl) (by kernel_rfl) (by kernel_rfl) (by kernel_rfl) (fun _ _ _ h => h) (by first | assumption | rfl) (Or.inl ⟨by rfl, fun W hS => ?_⟩) ?_
  rotate_left 1
  · (obtain ⟨e3, e4, e5, et⟩ := hS; go_simp <;> (try go_bits) <;> with_reducible rfl)
  simp only [Act.put, List.setIfInBounds_toArray, List.set_cons_zero, List.set_cons_succ]
  refine wpAnyP_load (v := ?_) 1 (by kernel_rfl) (at_toArray rfl) (by kernel_rfl) (by kernel_rfl) (by kernel_rfl) (fun _ _ _ h => h) (by first | assumption | rfl) (Or.inl ⟨by rfl, fun W hS => ?_⟩) ?_
  rotate_left 1
  · (obtain ⟨e3, e4, e5, et⟩ := hS; go_simp <;> (try go_bits) <;> with_reducible rfl)
  simp only [Act.put, List.setIfInBounds_toArray, List.set_cons_zero, List.set_cons_succ]
  refine wpAnyP_load (v := ?_) 2 (by kernel_rfl) (at_toArray rfl) (by kernel_rfl) (by kernel_rfl) (by kernel_rfl) (fun _ _ _ h => h) (by first | assumption | rfl) (Or.inl ⟨by rfl, fun W hS => ?_⟩) ?_
  rotate_left 1
  · (obtain ⟨e3, e4, e5, et⟩ := hS; go_simp <;> (try go_bits) <;> with_reducible rfl)
  simp only [Act.put, List.setIfInBounds_toArray, List.set_cons_zero, List.set_cons_succ]
  refine wpAnyP_load (v := ?_) 3 (by kernel_rfl) (at_toArray rfl) (by kernel_rfl) (by kernel_rfl) (by kernel_rfl) (fun _ _ _ h => h) (by first | assumption | rfl) (Or.inl ⟨by rfl, fun W hS => ?_⟩) ?_
  rotate_left 1
  · (obtain ⟨e3, e4, e5, et⟩ := hS; go_simp <;> (try go_bits) <;> with_reducible rfl)
  simp only [Act.put, List.setIfInBounds_toArray, List.set_cons_zero, List.set_cons_succ]
  refine wpAnyP_pure (v := ?_) 4 (at_toArray rfl) (by kernel_rfl) (by kernel_rfl) (by kernel_rfl) (fun _ _ _ h => h) (Or.inl ⟨by rfl, fun W => ?_⟩) ?_
  rotate_left 1
  · (go_simp <;> (try go_bits) <;> with_reducible rfl)
  simp only [Act.put, List.setIfInBounds_toArray, List.set_cons_zero, List.set_cons_succ]
  refine wpAnyP_pure (v := ?_) 5 (at_toArray rfl) (by kernel_rfl) (by kernel_rfl) (by kernel_rfl) (fun _ _ _ h => h) (Or.inl ⟨by rfl, fun W => ?_⟩) ?_
  rotate_left 1
  · (go_simp <;> (try go_bits) <;> with_reducible rfl)
  simp only [Act.put, List.setIfInBounds_toArray, List.set_cons_zero, List.set_cons_succ]
  refine wpAnyP_pure (v := ?_) 6 (at_toArray rfl) (by kernel_rfl) (by kernel_rfl) (by kernel_rfl) (fun _ _ _ h => h) (Or.inl ⟨by rfl, fun W => ?_⟩) ?_
  rotate_left 1
  · (go_simp <;> (try go_bits) <;> with_reducible rfl)
  simp only [Act.put, List.setIfInBounds_toArray, List.set_cons_zero, List.set_cons_succ]
  refine wpAnyP_pure (v := ?_) 7 (at_toArray rfl) (by kernel_rfl) (by kernel_rfl) (by kernel_rfl) (fun _ _ _ h => h) (Or.inl ⟨by rfl, fun W => ?_⟩) ?_
  rotate_left 1
  · (go_simp <;> (try go_bits) <;> with_reducible rfl)
  simp only [Act.put, List.setIfInBounds_toArray, List.set_cons_zero, List.set_cons_succ]
  refine wpAnyP_pure (v := ?_) 8 (at_toArray rfl) (by kernel_rfl) (by kernel_rfl) (by kernel_rfl) (fun _ _ _ h => h) (Or.inl ⟨by rfl, fun W => ?_⟩) ?_
  rotate_left 1
  · (go_simp <;> (try go_bits) <;> with_reducible rfl)
  simp only [Act.put, List.setIfInBounds_toArray, List.set_cons_zero, List.set_cons_succ]
  refine wpAnyP_load (v := ?_) 9 (by kernel_rfl) (at_toArray rfl) (by kernel_rfl) (by kernel_rfl) (by kernel_rfl) (fun _ _ _ h => h) (by first | assumption | rfl) (Or.inl ⟨by rfl, fun W hS => ?_⟩) ?_
  rotate_left 1
  · (obtain ⟨e3, e4, e5, et⟩ := hS; go_simp <;> (try go_bits) <;> with_reducible rfl)
  simp only [Act.put, List.setIfInBounds_toArray, List.set_cons_zero, List.set_cons_succ]
  refine wpAnyP_load (v := ?_) 10 (by kernel_rfl) (at_toArray rfl) (by kernel_rfl) (by kernel_rfl) (by kernel_rfl) (fun _ _ _ h => h) (by first | assumption | rfl) (Or.inl ⟨by rfl, fun W hS => ?_⟩) ?_
  rotate_left 1
  · (obtain ⟨e3, e4, e5, et⟩ := hS; go_simp <;> (try go_bits) <;> with_reducible rfl)
  simp only [Act.put, List.setIfInBounds_toArray, List.set_cons_zero, List.set_cons_succ]
  refine wpAnyP_pure (v := ?_) 12 (at_toArray rfl) (by kernel_rfl) (by kernel_rfl) (by kernel_rfl) (fun _ _ _ h => h) (Or.inl ⟨by rfl, fun W => ?_⟩) ?_
  rotate_left 1
  · (go_simp <;> (try go_bits) <;> with_reducible rfl)
  simp only [Act.put, List.setIfInBounds_toArray, List.set_cons_zero, List.set_cons_succ]
  refine wpAnyP_pure (v := ?_) 13 (at_toArray rfl) (by kernel_rfl) (by kernel_rfl) (by kernel_rfl) (fun _ _ _ h => h) (Or.inl ⟨by rfl, fun W => ?_⟩) ?_
  rotate_left 1
  · (go_simp <;> (try go_bits) <;> with_reducible rfl)
  simp only [Act.put, List.setIfInBounds_toArray, List.set_cons_zero, List.set_cons_succ]
  refine wpAnyP_one 11 (at_toArray rfl) (by kernel_rfl) rfl (fun K hK => ?_)
  refine wp_append_b (.tmp 12) (.tmp 13) rfl (.slice A0 T.b0.length c0) T.b0 rfl (by rw [← HV.out]; exact H.out.o0) A c xs rfl HR.out hxl ?_
  intro v' w1 HO hg hat
  rw [← HV.out] at hg hat
  have hfr : Fr F wd w1 := (Fr.grown hg (fun k hk => hk)).mono (fun i hi => .inl (H.out.f0 i hi))
  have a3 : w1.cell? ⟨b3, 0, none⟩ = some (.pointer (some ⟨tb, 0, none⟩)) := (World.cell?_of_block (a := ⟨b3, 0, none⟩) (hfr.block b3 (World.block_lt_of_cell? wd _ d3) f3)).trans d3
  have a4 : w1.cell? ⟨b4, 0, none⟩ = some (.int .i64 0) := (World.cell?_of_block (a := ⟨b4, 0, none⟩) (hfr.block b4 (World.block_lt_of_cell? wd _ d4) f4)).trans d4
  have a5 : w1.cell? ⟨b5, 0, none⟩ = some (.slice A xs.length c) := (World.cell?_of_block (a := ⟨b5, 0, none⟩) (hfr.block b5 (World.block_lt_of_cell? wd _ d5) f5)).trans d5
  have hbt := H.out.blk.fr (Fr.grown hg (fun k hk => hk)) (H.out.o0.ne H.out.blk (by decide))
  have at_ : w1.cell? ⟨tb, 2, none⟩ = some (.slice A0 T.b0.length c0) := by rw [hbt.cell, ← HV.out]; rfl
  have gt := hbt.free 2
  have hfin := H.out.app0 HO hg hat hfit
  obtain ⟨A1, c1, hv1⟩ := HO.form
  rw [List.length_append] at hv1
  subst hv1
  have HF := Lib.hid hfin
  clear hfin HO hg hat hfr hbt
  refine hK.out _ _ (fun _ _ => ⟨a3, a4, a5, at_⟩) ?_
  simp only [Act.put, List.setIfInBounds_toArray, List.set_cons_zero, List.set_cons_succ]
  clear hK hS0 d3 d4 d5 dt
  refine wpAnyP_pure (v := ?_) 14 (at_toArray rfl) (by kernel_rfl) (by kernel_rfl) (by kernel_rfl) (fun _ _ _ h => h) (Or.inl ⟨by rfl, fun W => ?_⟩) ?_
  rotate_left 1
  · (go_simp <;> (try go_bits) <;> with_reducible rfl)
  simp only [Act.put, List.setIfInBounds_toArray, List.set_cons_zero, List.set_cons_succ]
  refine wpAnyP_pure (v := ?_) 15 (at_toArray rfl) (by kernel_rfl) (by kernel_rfl) (by kernel_rfl) (fun _ _ _ h => h) (Or.inl ⟨by rfl, fun W => ?_⟩) ?_
  rotate_left 1
  · (go_simp <;> (try go_bits) <;> with_reducible rfl)
  simp only [Act.put, List.setIfInBounds_toArray, List.set_cons_zero, List.set_cons_succ]
  refine wpAnyP_pure (v := ?_) 16 (at_toArray rfl) (by kernel_rfl) (by kernel_rfl) (by kernel_rfl) (fun _ _ _ h => h) (Or.inl ⟨by rfl, fun W => ?_⟩) ?_
  rotate_left 1
  · (go_simp <;> (try go_bits) <;> with_reducible rfl)
  simp only [Act.put, List.setIfInBounds_toArray, List.set_cons_zero, List.set_cons_succ]
  refine wpAnyP_one 17 (at_toArray rfl) (by kernel_rfl) rfl (fun K hK => ?_)
  go_wp2_with fail
  refine hK.out _ _ (fun h => absurd h (by decide)) ?_
  clear hK
  refine wpAnyP_done (by kernel_rfl) ?_ _
  go_end0
  exact ⟨rfl, _, ⟨_, _, _, HF.out.1⟩, U0.out.trans HF.out.2⟩

set_option maxRecDepth 100000 in
set_option maxHeartbeats 2000000 in
theorem append1_1 (tb b3 b4 b5 : Nat) (A : Option Addr) (c : Nat) (xs : List UInt8) (T : TS) (F : Nat → Prop) (w : World) (h : TapeR w tb T F)
    (k3 : w.cell? ⟨b3, 0, none⟩ = some (.pointer (some ⟨tb, 0, none⟩))) (k4 : w.cell? ⟨b4, 0, none⟩ = some (.int .i64 1)) (k5 : w.cell? ⟨b5, 0, none⟩ = some (.slice A xs.length c)) (f3 : ¬ F b3) (f4 : ¬ F b4) (f5 : ¬ F b5)
    (hr : RB w A xs) (hfit : ((T.used + xs.length : Nat) : Int) ≤ T.room) :
    Calls Tryz.prog 56 #[.pointer (some ⟨b3, 0, none⟩), .pointer (some ⟨b4, 0, none⟩), .pointer (some ⟨b5, 0, none⟩)] w fun e w' => e = .returned (.tuple #[]) ∧ ∃ F', TapeR w' tb (T.app 1 xs) F' ∧ Upd w w' F F' := by
  obtain ⟨v0, v1, pv, h⟩ := h
  obtain ⟨wd, hwd⟩ : ∃ wd, wd = w.drew := ⟨_, rfl⟩
  have hd : Below w.heap.size w wd := by rw [hwd]; exact (Below.refl _ _).drew
  have H := Lib.hid (h.fr (Fr.of_below (F := fun _ => False) hd) (fun _ _ h => h))
  have HR := Lib.hid (hr.below hd)
  have d3 : wd.cell? ⟨b3, 0, none⟩ = some (.pointer (some ⟨tb, 0, none⟩)) := (hd.cell (World.block_lt_of_cell? w _ k3)).trans k3
  have d4 : wd.cell? ⟨b4, 0, none⟩ = some (.int .i64 1) := (hd.cell (World.block_lt_of_cell? w _ k4)).trans k4
  have d5 : wd.cell? ⟨b5, 0, none⟩ = some (.slice A xs.length c) := (hd.cell (World.block_lt_of_cell? w _ k5)).trans k5
  have dt := H.out.c4
  have l0 := H.out.len1
  have hxl : T.b1.length + xs.length ≤ 140737488355328 := by
    have h1 := h.wf.room
    simp only [TS.used] at hfit
    omega
  clear k3 k4 k5 hr h
  obtain ⟨A0, c0, hv⟩ := H.out.o1.form
  rw [hv] at dt
  have HV := Lib.hid hv
  clear hv
  go_enter Tryz.func56, Tryz.ntmps56
  go_wp2_with fail
  refine wp_region_phased (fun W => W.cell? ⟨b3, 0, none⟩ = some (.pointer (some ⟨tb, 0, none⟩)) ∧ W.cell? ⟨b4, 0, none⟩ = some (.int .i64 1) ∧ W.cell? ⟨b5, 0, none⟩ = some (.slice A xs.length c) ∧ W.cell? ⟨tb, 4, none⟩ = some (.slice A0 T.b1.length c0)) 17 (by kernel_rfl) (by rw [← hwd]; exact ⟨d3, d4, d5, dt⟩) (fun hS0 => ?_)
  rw [← hwd] at hS0 ⊢
  have U0 := Lib.hid (Upd.of_below (F := F) hd)
  clear hwd hd
  refine wpAnyP_load (v := ?_) 0 (by kernel_rfl) (at_toArray rfl) (by kernel_rfl) (by kernel_rfl) (by kernel_rfl) (fun _ _ _ h => h) (by first | assumption | rfl) (Or.inl ⟨by rfl, fun W hS => ?_⟩) ?_
  rotate_left 1
  · (obtain ⟨e3, e4, e5, et⟩ := hS; go_simp <;> (try go_bits) <;> with_reducible rfl)
  simp only [Act.put, List.setIfInBounds_toArray, List.set_cons_zero, List.set_cons_succ]
  refine wpAnyP_load (v := ?_) 1 (by kernel_rfl) (at_toArray rfl) (by kernel_rfl) (by kernel_rfl) (by kernel_rfl) (fun _ _ _ h => h) (by first | assumption | rfl) (Or.inl ⟨by rfl, fun W hS => ?_⟩) ?_
  rotate_left 1
  · (obtain ⟨e3, e4, e5, et⟩ := hS; go_simp <;> (try go_bits) <;> with_reducible rfl)
  simp only [Act.put, List.setIfInBounds_toArray, List.set_cons_zero, List.set_cons_succ]
  refine wpAnyP_load (v := ?_) 2 (by kernel_rfl) (at_toArray rfl) (by kernel_rfl) (by kernel_rfl) (by kernel_rfl) (fun _ _ _ h => h) (by first | assumption | rfl) (Or.inl ⟨by rfl, fun W hS => ?_⟩) ?_
  rotate_left 1
  · (obtain ⟨e3, e4, e5, et⟩ := hS; go_simp <;> (try go_bits) <;> with_reducible rfl)
  simp only [Act.put, List.setIfInBounds_toArray, List.set_cons_zero, List.set_cons_succ]
  refine wpAnyP_load (v := ?_) 3 (by kernel_rfl) (at_toArray rfl) (by kernel_rfl) (by kernel_rfl) (by kernel_rfl) (fun _ _ _ h => h) (by first | assumption | rfl) (Or.inl ⟨by rfl, fun W hS => ?_⟩) ?_
  rotate_left 1
  · (obtain ⟨e3, e4, e5, et⟩ := hS; go_simp <;> (try go_bits) <;> with_reducible rfl)
  simp only [Act.put, List.setIfInBounds_toArray, List.set_cons_zero, List.set_cons_succ]
  refine wpAnyP_pure (v := ?_) 4 (at_toArray rfl) (by kernel_rfl) (by kernel_rfl) (by kernel_rfl) (fun _ _ _ h => h) (Or.inl ⟨by rfl, fun W => ?_⟩) ?_
  rotate_left 1
  · (go_simp <;> (try go_bits) <;> with_reducible rfl)
  simp only [Act.put, List.setIfInBounds_toArray, List.set_cons_zero, List.set_cons_succ]
  refine wpAnyP_pure (v := ?_) 5 (at_toArray rfl) (by kernel_rfl) (by kernel_rfl) (by kernel_rfl) (fun _ _ _ h => h) (Or.inl ⟨by rfl, fun W => ?_⟩) ?_
  rotate_left 1
  · (go_simp <;> (try go_bits) <;> with_reducible rfl)
  simp only [Act.put, List.setIfInBounds_toArray, List.set_cons_zero, List.set_cons_succ]
  refine wpAnyP_pure (v := ?_) 6 (at_toArray rfl) (by kernel_rfl) (by kernel_rfl) (by kernel_rfl) (fun _ _ _ h => h) (Or.inl ⟨by rfl, fun W => ?_⟩) ?_
  rotate_left 1
  · (go_simp <;> (try go_bits) <;> with_reducible rfl)
  simp only [Act.put, List.setIfInBounds_toArray, List.set_cons_zero, List.set_cons_succ]
  refine wpAnyP_pure (v := ?_) 7 (at_toArray rfl) (by kernel_rfl) (by kernel_rfl) (by kernel_rfl) (fun _ _ _ h => h) (Or.inl ⟨by rfl, fun W => ?_⟩) ?_
  rotate_left 1
  · (go_simp <;> (try go_bits) <;> with_reducible rfl)
  simp only [Act.put, List.setIfInBounds_toArray, List.set_cons_zero, List.set_cons_succ]
  refine wpAnyP_pure (v := ?_) 8 (at_toArray rfl) (by kernel_rfl) (by kernel_rfl) (by kernel_rfl) (fun _ _ _ h => h) (Or.inl ⟨by rfl, fun W => ?_⟩) ?_
  rotate_left 1
  · (go_simp <;> (try go_bits) <;> with_reducible rfl)
  simp only [Act.put, List.setIfInBounds_toArray, List.set_cons_zero, List.set_cons_succ]
  refine wpAnyP_load (v := ?_) 9 (by kernel_rfl) (at_toArray rfl) (by kernel_rfl) (by kernel_rfl) (by kernel_rfl) (fun _ _ _ h => h) (by first | assumption | rfl) (Or.inl ⟨by rfl, fun W hS => ?_⟩) ?_
  rotate_left 1
  · (obtain ⟨e3, e4, e5, et⟩ := hS; go_simp <;> (try go_bits) <;> with_reducible rfl)
  simp only [Act.put, List.setIfInBounds_toArray, List.set_cons_zero, List.set_cons_succ]
  refine wpAnyP_load (v := ?_) 10 (by kernel_rfl) (at_toArray rfl) (by kernel_rfl) (by kernel_rfl) (by kernel_rfl) (fun _ _ _ h => h) (by first | assumption | rfl) (Or.inl ⟨by rfl, fun W hS => ?_⟩) ?_
  rotate_left 1
  · (obtain ⟨e3, e4, e5, et⟩ := hS; go_simp <;> (try go_bits) <;> with_reducible rfl)
  simp only [Act.put, List.setIfInBounds_toArray, List.set_cons_zero, List.set_cons_succ]
  refine wpAnyP_pure (v := ?_) 12 (at_toArray rfl) (by kernel_rfl) (by kernel_rfl) (by kernel_rfl) (fun _ _ _ h => h) (Or.inl ⟨by rfl, fun W => ?_⟩) ?_
  rotate_left 1
  · (go_simp <;> (try go_bits) <;> with_reducible rfl)
  simp only [Act.put, List.setIfInBounds_toArray, List.set_cons_zero, List.set_cons_succ]
  refine wpAnyP_pure (v := ?_) 13 (at_toArray rfl) (by kernel_rfl) (by kernel_rfl) (by kernel_rfl) (fun _ _ _ h => h) (Or.inl ⟨by rfl, fun W => ?_⟩) ?_
  rotate_left 1
  · (go_simp <;> (try go_bits) <;> with_reducible rfl)
  simp only [Act.put, List.setIfInBounds_toArray, List.set_cons_zero, List.set_cons_succ]
  refine wpAnyP_one 11 (at_toArray rfl) (by kernel_rfl) rfl (fun K hK => ?_)
  refine wp_append_b (.tmp 12) (.tmp 13) rfl (.slice A0 T.b1.length c0) T.b1 rfl (by rw [← HV.out]; exact H.out.o1) A c xs rfl HR.out hxl ?_
  intro v' w1 HO hg hat
  rw [← HV.out] at hg hat
  have hfr : Fr F wd w1 := (Fr.grown hg (fun k hk => hk)).mono (fun i hi => .inl (H.out.f1 i hi))
  have a3 : w1.cell? ⟨b3, 0, none⟩ = some (.pointer (some ⟨tb, 0, none⟩)) := (World.cell?_of_block (a := ⟨b3, 0, none⟩) (hfr.block b3 (World.block_lt_of_cell? wd _ d3) f3)).trans d3
  have a4 : w1.cell? ⟨b4, 0, none⟩ = some (.int .i64 1) := (World.cell?_of_block (a := ⟨b4, 0, none⟩) (hfr.block b4 (World.block_lt_of_cell? wd _ d4) f4)).trans d4
  have a5 : w1.cell? ⟨b5, 0, none⟩ = some (.slice A xs.length c) := (World.cell?_of_block (a := ⟨b5, 0, none⟩) (hfr.block b5 (World.block_lt_of_cell? wd _ d5) f5)).trans d5
  have hbt := H.out.blk.fr (Fr.grown hg (fun k hk => hk)) (H.out.o1.ne H.out.blk (by decide))
  have at_ : w1.cell? ⟨tb, 4, none⟩ = some (.slice A0 T.b1.length c0) := by rw [hbt.cell, ← HV.out]; rfl
  have gt := hbt.free 4
  have hfin := H.out.app1 HO hg hat hfit
  obtain ⟨A1, c1, hv1⟩ := HO.form
  rw [List.length_append] at hv1
  subst hv1
  have HF := Lib.hid hfin
  clear hfin HO hg hat hfr hbt
  refine hK.out _ _ (fun _ _ => ⟨a3, a4, a5, at_⟩) ?_
  simp only [Act.put, List.setIfInBounds_toArray, List.set_cons_zero, List.set_cons_succ]
  clear hK hS0 d3 d4 d5 dt
  refine wpAnyP_pure (v := ?_) 14 (at_toArray rfl) (by kernel_rfl) (by kernel_rfl) (by kernel_rfl) (fun _ _ _ h => h) (Or.inl ⟨by rfl, fun W => ?_⟩) ?_
  rotate_left 1
  · (go_simp <;> (try go_bits) <;> with_reducible rfl)
  simp only [Act.put, List.setIfInBounds_toArray, List.set_cons_zero, List.set_cons_succ]
  refine wpAnyP_pure (v := ?_) 15 (at_toArray rfl) (by kernel_rfl) (by kernel_rfl) (by kernel_rfl) (fun _ _ _ h => h) (Or.inl ⟨by rfl, fun W => ?_⟩) ?_
  rotate_left 1
  · (go_simp <;> (try go_bits) <;> with_reducible rfl)
  simp only [Act.put, List.setIfInBounds_toArray, List.set_cons_zero, List.set_cons_succ]
  refine wpAnyP_pure (v := ?_) 16 (at_toArray rfl) (by kernel_rfl) (by kernel_rfl) (by kernel_rfl) (fun _ _ _ h => h) (Or.inl ⟨by rfl, fun W => ?_⟩) ?_
  rotate_left 1
  · (go_simp <;> (try go_bits) <;> with_reducible rfl)
  simp only [Act.put, List.setIfInBounds_toArray, List.set_cons_zero, List.set_cons_succ]
  refine wpAnyP_one 17 (at_toArray rfl) (by kernel_rfl) rfl (fun K hK => ?_)
  go_wp2_with fail
  refine hK.out _ _ (fun h => absurd h (by decide)) ?_
  clear hK
  refine wpAnyP_done (by kernel_rfl) ?_ _
  go_end0
  exact ⟨rfl, _, ⟨_, _, _, HF.out.1⟩, U0.out.trans HF.out.2⟩

end Go.Proofs.YtdhafdejionefaaGreat

/- The walks of what Sync and Clear do. -/
namespace Go.Proofs.YtdhafdejionefaaGreat
set_option linter.unusedVariables false
set_option linter.unusedSimpArgs false
open Go.RowKit

def TS.syn (T : TS) (n : Int) : TS := if n = 0 then { T with s0 := T.b0.length } else { T with s1 := T.b1.length }
def TS.clr (T : TS) (n : Int) : TS := if n = 0 then { T with b0 := [], s0 := 0 } else { T with b1 := [], s1 := 0 }
theorem fresh_nil (w : World) : Fresh w w (.slice none 0 0) [] := ⟨OB.nil w, Below.refl _ _, fun k hk => by simp [Value.ownBlock] at hk⟩

theorem TapeAt.syn0 {w : World} {tb : Nat} {T : TS} {F : Nat → Prop} {v0 v1 : Value} {pv : Option Addr} (h : TapeAt w tb T F v0 v1 pv) :
    TapeAt (w.setCell ⟨tb, 3, none⟩ (.int .i64 (T.b0.length : Int))) tb (T.syn 0) F v0 v1 pv :=
  h.put 3 _ rfl rfl rfl rfl (by first | exact ⟨Nat.le_refl _, h.wf.s1, h.wf.fit, h.wf.room, h.wf.left⟩ | exact ⟨h.wf.s0, Nat.le_refl _, h.wf.fit, h.wf.room, h.wf.left⟩)
theorem TapeAt.clr0 {w : World} {tb : Nat} {T : TS} {F : Nat → Prop} {v0 v1 : Value} {pv : Option Addr} (h : TapeAt w tb T F v0 v1 pv) :
    TapeR ((w.setCell ⟨tb, 2, none⟩ (.slice none 0 0)).setCell ⟨tb, 3, none⟩ (.int .i64 0)) tb (T.clr 0) F := by
  have h1 := h.cut0 (fresh_nil w) 0 rfl (Nat.zero_le _)
  exact ⟨_, _, _, h1.blk, h1.o0, h1.o1, h1.pl.of (fun _ _ _ _ h => h) (fun k hk => hk.elim id (fun h => by simp [Value.ownBlock] at h)), h1.apart, h.ft, fun k hk => (h1.f0 k hk).elim id (fun h => by simp [Value.ownBlock] at h), fun k hk => (h1.f1 k hk).elim id (fun h => by simp [Value.ownBlock] at h), fun k hk => h1.flt k (.inl hk), h1.wf⟩

set_option maxRecDepth 100000 in
set_option maxHeartbeats 2000000 in
theorem sync1_0 (tb b3 b4 : Nat) (T : TS) (F : Nat → Prop) (w : World) (h : TapeR w tb T F)
    (k3 : w.cell? ⟨b3, 0, none⟩ = some (.pointer (some ⟨tb, 0, none⟩))) (k4 : w.cell? ⟨b4, 0, none⟩ = some (.int .i64 0)) :
    Calls Tryz.prog 70 #[.pointer (some ⟨b3, 0, none⟩), .pointer (some ⟨b4, 0, none⟩)] w fun e w' => e = .returned (.tuple #[]) ∧ ∃ F', TapeR w' tb (T.syn 0) F' ∧ Upd w w' F F' := by
  obtain ⟨v0, v1, pv, h⟩ := h
  obtain ⟨A0, c0, hv⟩ := h.o0.form
  have ht := h.c2
  rw [hv] at ht
  have hs := h.c3
  have hg := h.free 3
  have H := Lib.hid h.drew
  have HF := Lib.hid h.ft
  clear h hv
  go_enter Tryz.func70, Tryz.ntmps70
  go_wp2_with fail
  refine wp_region_phased (fun W => W = w.drew) 13 (by kernel_rfl) rfl (fun hS0 => ?_)
  refine wpAnyP_load (v := ?_) 0 (by kernel_rfl) (at_toArray rfl) (by kernel_rfl) (by kernel_rfl) (by kernel_rfl) (fun _ _ _ h => h) (by first | assumption | rfl) (Or.inl ⟨by rfl, fun W hS => ?_⟩) ?_
  rotate_left 1
  · (obtain rfl := hS; go_simp <;> (try go_bits) <;> with_reducible rfl)
  simp only [Act.put, List.setIfInBounds_toArray, List.set_cons_zero, List.set_cons_succ]
  refine wpAnyP_load (v := ?_) 1 (by kernel_rfl) (at_toArray rfl) (by kernel_rfl) (by kernel_rfl) (by kernel_rfl) (fun _ _ _ h => h) (by first | assumption | rfl) (Or.inl ⟨by rfl, fun W hS => ?_⟩) ?_
  rotate_left 1
  · (obtain rfl := hS; go_simp <;> (try go_bits) <;> with_reducible rfl)
  simp only [Act.put, List.setIfInBounds_toArray, List.set_cons_zero, List.set_cons_succ]
  refine wpAnyP_load (v := ?_) 2 (by kernel_rfl) (at_toArray rfl) (by kernel_rfl) (by kernel_rfl) (by kernel_rfl) (fun _ _ _ h => h) (by first | assumption | rfl) (Or.inl ⟨by rfl, fun W hS => ?_⟩) ?_
  rotate_left 1
  · (obtain rfl := hS; go_simp <;> (try go_bits) <;> with_reducible rfl)
  simp only [Act.put, List.setIfInBounds_toArray, List.set_cons_zero, List.set_cons_succ]
  refine wpAnyP_load (v := ?_) 3 (by kernel_rfl) (at_toArray rfl) (by kernel_rfl) (by kernel_rfl) (by kernel_rfl) (fun _ _ _ h => h) (by first | assumption | rfl) (Or.inl ⟨by rfl, fun W hS => ?_⟩) ?_
  rotate_left 1
  · (obtain rfl := hS; go_simp <;> (try go_bits) <;> with_reducible rfl)
  simp only [Act.put, List.setIfInBounds_toArray, List.set_cons_zero, List.set_cons_succ]
  refine wpAnyP_pure (v := ?_) 4 (at_toArray rfl) (by kernel_rfl) (by kernel_rfl) (by kernel_rfl) (fun _ _ _ h => h) (Or.inl ⟨by rfl, fun W => ?_⟩) ?_
  rotate_left 1
  · (go_simp <;> (try go_bits) <;> with_reducible rfl)
  simp only [Act.put, List.setIfInBounds_toArray, List.set_cons_zero, List.set_cons_succ]
  refine wpAnyP_pure (v := ?_) 5 (at_toArray rfl) (by kernel_rfl) (by kernel_rfl) (by kernel_rfl) (fun _ _ _ h => h) (Or.inl ⟨by rfl, fun W => ?_⟩) ?_
  rotate_left 1
  · (go_simp <;> (try go_bits) <;> with_reducible rfl)
  simp only [Act.put, List.setIfInBounds_toArray, List.set_cons_zero, List.set_cons_succ]
  refine wpAnyP_pure (v := ?_) 6 (at_toArray rfl) (by kernel_rfl) (by kernel_rfl) (by kernel_rfl) (fun _ _ _ h => h) (Or.inl ⟨by rfl, fun W => ?_⟩) ?_
  rotate_left 1
  · (go_simp <;> (try go_bits) <;> with_reducible rfl)
  simp only [Act.put, List.setIfInBounds_toArray, List.set_cons_zero, List.set_cons_succ]
  refine wpAnyP_pure (v := ?_) 7 (at_toArray rfl) (by kernel_rfl) (by kernel_rfl) (by kernel_rfl) (fun _ _ _ h => h) (Or.inl ⟨by rfl, fun W => ?_⟩) ?_
  rotate_left 1
  · (go_simp <;> (try go_bits) <;> with_reducible rfl)
  simp only [Act.put, List.setIfInBounds_toArray, List.set_cons_zero, List.set_cons_succ]
  refine wpAnyP_pure (v := ?_) 9 (at_toArray rfl) (by kernel_rfl) (by kernel_rfl) (by kernel_rfl) (fun _ _ _ h => h) (Or.inl ⟨by rfl, fun W => ?_⟩) ?_
  rotate_left 1
  · (go_simp <;> (try go_bits) <;> with_reducible rfl)
  simp only [Act.put, List.setIfInBounds_toArray, List.set_cons_zero, List.set_cons_succ]
  refine wpAnyP_pure (v := ?_) 10 (at_toArray rfl) (by kernel_rfl) (by kernel_rfl) (by kernel_rfl) (fun _ _ _ h => h) (Or.inl ⟨by rfl, fun W => ?_⟩) ?_
  rotate_left 1
  · (go_simp <;> (try go_bits) <;> with_reducible rfl)
  simp only [Act.put, List.setIfInBounds_toArray, List.set_cons_zero, List.set_cons_succ]
  refine wpAnyP_one 8 (at_toArray rfl) (by kernel_rfl) rfl (fun K hK => ?_)
  go_wp2_with fail
  refine (size_any tb 2 A0 T.b0.length c0 _ (by simpa using ht)).mono ?_
  rintro e w' ⟨rfl, rfl⟩
  go_wp2_with fail
  refine hK.out _ _ (fun _ _ => rfl) ?_
  clear hK
  refine wpAnyP_pure (v := ?_) 11 (at_toArray rfl) (by kernel_rfl) (by kernel_rfl) (by kernel_rfl) (fun _ _ _ h => h) (Or.inl ⟨by rfl, fun W => ?_⟩) ?_
  rotate_left 1
  · (go_simp <;> (try go_bits) <;> with_reducible rfl)
  simp only [Act.put, List.setIfInBounds_toArray, List.set_cons_zero, List.set_cons_succ]
  refine wpAnyP_pure (v := ?_) 12 (at_toArray rfl) (by kernel_rfl) (by kernel_rfl) (by kernel_rfl) (fun _ _ _ h => h) (Or.inl ⟨by rfl, fun W => ?_⟩) ?_
  rotate_left 1
  · (go_simp <;> (try go_bits) <;> with_reducible rfl)
  simp only [Act.put, List.setIfInBounds_toArray, List.set_cons_zero, List.set_cons_succ]
  refine wpAnyP_one 13 (at_toArray rfl) (by kernel_rfl) rfl (fun K hK => ?_)
  go_wp2_with fail
  refine hK.out _ _ (fun h => absurd h (by decide)) ?_
  clear hK
  refine wpAnyP_done (by kernel_rfl) ?_ _
  go_end0
  exact ⟨rfl, F, ⟨_, _, _, H.out.syn0⟩, (Upd.of_below (Below.refl _ _).drew).trans ⟨Fr.setCell F w.drew _ _ HF.out, fun _ h => .inl h⟩⟩

set_option maxRecDepth 100000 in
set_option maxHeartbeats 2000000 in
theorem clear1_0 (tb b3 b4 : Nat) (T : TS) (F : Nat → Prop) (w : World) (h : TapeR w tb T F)
    (k3 : w.cell? ⟨b3, 0, none⟩ = some (.pointer (some ⟨tb, 0, none⟩))) (k4 : w.cell? ⟨b4, 0, none⟩ = some (.int .i64 0)) :
    Calls Tryz.prog 59 #[.pointer (some ⟨b3, 0, none⟩), .pointer (some ⟨b4, 0, none⟩)] w fun e w' => e = .returned (.tuple #[]) ∧ ∃ F', TapeR w' tb (T.clr 0) F' ∧ Upd w w' F F' := by
  obtain ⟨v0, v1, pv, h⟩ := h
  obtain ⟨A0, c0, hv⟩ := h.o0.form
  have ht := h.c2
  rw [hv] at ht
  have hs := h.c3
  have hg := h.free 2
  have hg2 := h.free 3
  have H := Lib.hid h.drew
  have HF := Lib.hid h.ft
  clear h hv
  go_enter Tryz.func59, Tryz.ntmps59
  go_wp2_with fail
  refine wp_region_phased (fun W => W = w.drew) 6 (by kernel_rfl) rfl (fun hS0 => ?_)
  refine wpAnyP_load (v := ?_) 0 (by kernel_rfl) (at_toArray rfl) (by kernel_rfl) (by kernel_rfl) (by kernel_rfl) (fun _ _ _ h => h) (by first | assumption | rfl) (Or.inl ⟨by rfl, fun W hS => ?_⟩) ?_
  rotate_left 1
  · (obtain rfl := hS; go_simp <;> (try go_bits) <;> with_reducible rfl)
  simp only [Act.put, List.setIfInBounds_toArray, List.set_cons_zero, List.set_cons_succ]
  refine wpAnyP_load (v := ?_) 1 (by kernel_rfl) (at_toArray rfl) (by kernel_rfl) (by kernel_rfl) (by kernel_rfl) (fun _ _ _ h => h) (by first | assumption | rfl) (Or.inl ⟨by rfl, fun W hS => ?_⟩) ?_
  rotate_left 1
  · (obtain rfl := hS; go_simp <;> (try go_bits) <;> with_reducible rfl)
  simp only [Act.put, List.setIfInBounds_toArray, List.set_cons_zero, List.set_cons_succ]
  refine wpAnyP_pure (v := ?_) 2 (at_toArray rfl) (by kernel_rfl) (by kernel_rfl) (by kernel_rfl) (fun _ _ _ h => h) (Or.inl ⟨by rfl, fun W => ?_⟩) ?_
  rotate_left 1
  · (go_simp <;> (try go_bits) <;> with_reducible rfl)
  simp only [Act.put, List.setIfInBounds_toArray, List.set_cons_zero, List.set_cons_succ]
  refine wpAnyP_pure (v := ?_) 3 (at_toArray rfl) (by kernel_rfl) (by kernel_rfl) (by kernel_rfl) (fun _ _ _ h => h) (Or.inl ⟨by rfl, fun W => ?_⟩) ?_
  rotate_left 1
  · (go_simp <;> (try go_bits) <;> with_reducible rfl)
  simp only [Act.put, List.setIfInBounds_toArray, List.set_cons_zero, List.set_cons_succ]
  refine wpAnyP_pure (v := ?_) 4 (at_toArray rfl) (by kernel_rfl) (by kernel_rfl) (by kernel_rfl) (fun _ _ _ h => h) (Or.inl ⟨by rfl, fun W => ?_⟩) ?_
  rotate_left 1
  · (go_simp <;> (try go_bits) <;> with_reducible rfl)
  simp only [Act.put, List.setIfInBounds_toArray, List.set_cons_zero, List.set_cons_succ]
  refine wpAnyP_pure (v := ?_) 5 (at_toArray rfl) (by kernel_rfl) (by kernel_rfl) (by kernel_rfl) (fun _ _ _ h => h) (Or.inl ⟨by rfl, fun W => ?_⟩) ?_
  rotate_left 1
  · (go_simp <;> (try go_bits) <;> with_reducible rfl)
  simp only [Act.put, List.setIfInBounds_toArray, List.set_cons_zero, List.set_cons_succ]
  refine wpAnyP_one 6 (at_toArray rfl) (by kernel_rfl) rfl (fun K hK => ?_)
  go_wp2_with fail
  refine hK.out _ _ (fun h => absurd h (by decide)) ?_
  clear hK
  refine wpAnyP_done (by kernel_rfl) ?_ _
  go_end0
  exact ⟨rfl, F, H.out.clr0, (Upd.of_below (Below.refl _ _).drew).trans ⟨(Fr.setCell F w.drew _ _ HF.out).trans (Fr.setCell F _ _ _ HF.out) (fun _ h => .inl h), fun _ h => .inl h⟩⟩

theorem TapeAt.syn1 {w : World} {tb : Nat} {T : TS} {F : Nat → Prop} {v0 v1 : Value} {pv : Option Addr} (h : TapeAt w tb T F v0 v1 pv) :
    TapeAt (w.setCell ⟨tb, 5, none⟩ (.int .i64 (T.b1.length : Int))) tb (T.syn 1) F v0 v1 pv :=
  h.put 5 _ rfl rfl rfl rfl (by first | exact ⟨Nat.le_refl _, h.wf.s1, h.wf.fit, h.wf.room, h.wf.left⟩ | exact ⟨h.wf.s0, Nat.le_refl _, h.wf.fit, h.wf.room, h.wf.left⟩)
theorem TapeAt.clr1 {w : World} {tb : Nat} {T : TS} {F : Nat → Prop} {v0 v1 : Value} {pv : Option Addr} (h : TapeAt w tb T F v0 v1 pv) :
    TapeR ((w.setCell ⟨tb, 4, none⟩ (.slice none 0 0)).setCell ⟨tb, 5, none⟩ (.int .i64 0)) tb (T.clr 1) F := by
  have h1 := h.cut1 (fresh_nil w) 0 rfl (Nat.zero_le _)
  exact ⟨_, _, _, h1.blk, h1.o0, h1.o1, h1.pl.of (fun _ _ _ _ h => h) (fun k hk => hk.elim id (fun h => by simp [Value.ownBlock] at h)), h1.apart, h.ft, fun k hk => (h1.f0 k hk).elim id (fun h => by simp [Value.ownBlock] at h), fun k hk => (h1.f1 k hk).elim id (fun h => by simp [Value.ownBlock] at h), fun k hk => h1.flt k (.inl hk), h1.wf⟩

set_option maxRecDepth 100000 in
set_option maxHeartbeats 2000000 in
theorem sync1_1 (tb b3 b4 : Nat) (T : TS) (F : Nat → Prop) (w : World) (h : TapeR w tb T F)
    (k3 : w.cell? ⟨b3, 0, none⟩ = some (.pointer (some ⟨tb, 0, none⟩))) (k4 : w.cell? ⟨b4, 0, none⟩ = some (.int .i64 1)) :
    Calls Tryz.prog 70 #[.pointer (some ⟨b3, 0, none⟩), .pointer (some ⟨b4, 0, none⟩)] w fun e w' => e = .returned (.tuple #[]) ∧ ∃ F', TapeR w' tb (T.syn 1) F' ∧ Upd w w' F F' := by
  obtain ⟨v0, v1, pv, h⟩ := h
  obtain ⟨A0, c0, hv⟩ := h.o1.form
  have ht := h.c4
  rw [hv] at ht
  have hs := h.c5
  have hg := h.free 5
  have H := Lib.hid h.drew
  have HF := Lib.hid h.ft
  clear h hv
  go_enter Tryz.func70, Tryz.ntmps70
  go_wp2_with fail
  refine wp_region_phased (fun W => W = w.drew) 13 (by kernel_rfl) rfl (fun hS0 => ?_)
  refine wpAnyP_load (v := ?_) 0 (by kernel_rfl) (at_toArray rfl) (by kernel_rfl) (by kernel_rfl) (by kernel_rfl) (fun _ _ _ h => h) (by first | assumption | rfl) (Or.inl ⟨by rfl, fun W hS => ?_⟩) ?_
  rotate_left 1
  · (obtain rfl := hS; go_simp <;> (try go_bits) <;> with_reducible rfl)
  simp only [Act.put, List.setIfInBounds_toArray, List.set_cons_zero, List.set_cons_succ]
  refine wpAnyP_load (v := ?_) 1 (by kernel_rfl) (at_toArray rfl) (by kernel_rfl) (by kernel_rfl) (by kernel_rfl) (fun _ _ _ h => h) (by first | assumption | rfl) (Or.inl ⟨by rfl, fun W hS => ?_⟩) ?_
  rotate_left 1
  · (obtain rfl := hS; go_simp <;> (try go_bits) <;> with_reducible rfl)
  simp only [Act.put, List.setIfInBounds_toArray, List.set_cons_zero, List.set_cons_succ]
  refine wpAnyP_load (v := ?_) 2 (by kernel_rfl) (at_toArray rfl) (by kernel_rfl) (by kernel_rfl) (by kernel_rfl) (fun _ _ _ h => h) (by first | assumption | rfl) (Or.inl ⟨by rfl, fun W hS => ?_⟩) ?_
  rotate_left 1
  · (obtain rfl := hS; go_simp <;> (try go_bits) <;> with_reducible rfl)
  simp only [Act.put, List.setIfInBounds_toArray, List.set_cons_zero, List.set_cons_succ]
  refine wpAnyP_load (v := ?_) 3 (by kernel_rfl) (at_toArray rfl) (by kernel_rfl) (by kernel_rfl) (by kernel_rfl) (fun _ _ _ h => h) (by first | assumption | rfl) (Or.inl ⟨by rfl, fun W hS => ?_⟩) ?_
  rotate_left 1
  · (obtain rfl := hS; go_simp <;> (try go_bits) <;> with_reducible rfl)
  simp only [Act.put, List.setIfInBounds_toArray, List.set_cons_zero, List.set_cons_succ]
  refine wpAnyP_pure (v := ?_) 4 (at_toArray rfl) (by kernel_rfl) (by kernel_rfl) (by kernel_rfl) (fun _ _ _ h => h) (Or.inl ⟨by rfl, fun W => ?_⟩) ?_
  rotate_left 1
  · (go_simp <;> (try go_bits) <;> with_reducible rfl)
  simp only [Act.put, List.setIfInBounds_toArray, List.set_cons_zero, List.set_cons_succ]
  refine wpAnyP_pure (v := ?_) 5 (at_toArray rfl) (by kernel_rfl) (by kernel_rfl) (by kernel_rfl) (fun _ _ _ h => h) (Or.inl ⟨by rfl, fun W => ?_⟩) ?_
  rotate_left 1
  · (go_simp <;> (try go_bits) <;> with_reducible rfl)
  simp only [Act.put, List.setIfInBounds_toArray, List.set_cons_zero, List.set_cons_succ]
  refine wpAnyP_pure (v := ?_) 6 (at_toArray rfl) (by kernel_rfl) (by kernel_rfl) (by kernel_rfl) (fun _ _ _ h => h) (Or.inl ⟨by rfl, fun W => ?_⟩) ?_
  rotate_left 1
  · (go_simp <;> (try go_bits) <;> with_reducible rfl)
  simp only [Act.put, List.setIfInBounds_toArray, List.set_cons_zero, List.set_cons_succ]
  refine wpAnyP_pure (v := ?_) 7 (at_toArray rfl) (by kernel_rfl) (by kernel_rfl) (by kernel_rfl) (fun _ _ _ h => h) (Or.inl ⟨by rfl, fun W => ?_⟩) ?_
  rotate_left 1
  · (go_simp <;> (try go_bits) <;> with_reducible rfl)
  simp only [Act.put, List.setIfInBounds_toArray, List.set_cons_zero, List.set_cons_succ]
  refine wpAnyP_pure (v := ?_) 9 (at_toArray rfl) (by kernel_rfl) (by kernel_rfl) (by kernel_rfl) (fun _ _ _ h => h) (Or.inl ⟨by rfl, fun W => ?_⟩) ?_
  rotate_left 1
  · (go_simp <;> (try go_bits) <;> with_reducible rfl)
  simp only [Act.put, List.setIfInBounds_toArray, List.set_cons_zero, List.set_cons_succ]
  refine wpAnyP_pure (v := ?_) 10 (at_toArray rfl) (by kernel_rfl) (by kernel_rfl) (by kernel_rfl) (fun _ _ _ h => h) (Or.inl ⟨by rfl, fun W => ?_⟩) ?_
  rotate_left 1
  · (go_simp <;> (try go_bits) <;> with_reducible rfl)
  simp only [Act.put, List.setIfInBounds_toArray, List.set_cons_zero, List.set_cons_succ]
  refine wpAnyP_one 8 (at_toArray rfl) (by kernel_rfl) rfl (fun K hK => ?_)
  go_wp2_with fail
  refine (size_any tb 4 A0 T.b1.length c0 _ (by simpa using ht)).mono ?_
  rintro e w' ⟨rfl, rfl⟩
  go_wp2_with fail
  refine hK.out _ _ (fun _ _ => rfl) ?_
  clear hK
  refine wpAnyP_pure (v := ?_) 11 (at_toArray rfl) (by kernel_rfl) (by kernel_rfl) (by kernel_rfl) (fun _ _ _ h => h) (Or.inl ⟨by rfl, fun W => ?_⟩) ?_
  rotate_left 1
  · (go_simp <;> (try go_bits) <;> with_reducible rfl)
  simp only [Act.put, List.setIfInBounds_toArray, List.set_cons_zero, List.set_cons_succ]
  refine wpAnyP_pure (v := ?_) 12 (at_toArray rfl) (by kernel_rfl) (by kernel_rfl) (by kernel_rfl) (fun _ _ _ h => h) (Or.inl ⟨by rfl, fun W => ?_⟩) ?_
  rotate_left 1
  · (go_simp <;> (try go_bits) <;> with_reducible rfl)
  simp only [Act.put, List.setIfInBounds_toArray, List.set_cons_zero, List.set_cons_succ]
  refine wpAnyP_one 13 (at_toArray rfl) (by kernel_rfl) rfl (fun K hK => ?_)
  go_wp2_with fail
  refine hK.out _ _ (fun h => absurd h (by decide)) ?_
  clear hK
  refine wpAnyP_done (by kernel_rfl) ?_ _
  go_end0
  exact ⟨rfl, F, ⟨_, _, _, H.out.syn1⟩, (Upd.of_below (Below.refl _ _).drew).trans ⟨Fr.setCell F w.drew _ _ HF.out, fun _ h => .inl h⟩⟩

set_option maxRecDepth 100000 in
set_option maxHeartbeats 2000000 in
theorem clear1_1 (tb b3 b4 : Nat) (T : TS) (F : Nat → Prop) (w : World) (h : TapeR w tb T F)
    (k3 : w.cell? ⟨b3, 0, none⟩ = some (.pointer (some ⟨tb, 0, none⟩))) (k4 : w.cell? ⟨b4, 0, none⟩ = some (.int .i64 1)) :
    Calls Tryz.prog 59 #[.pointer (some ⟨b3, 0, none⟩), .pointer (some ⟨b4, 0, none⟩)] w fun e w' => e = .returned (.tuple #[]) ∧ ∃ F', TapeR w' tb (T.clr 1) F' ∧ Upd w w' F F' := by
  obtain ⟨v0, v1, pv, h⟩ := h
  obtain ⟨A0, c0, hv⟩ := h.o1.form
  have ht := h.c4
  rw [hv] at ht
  have hs := h.c5
  have hg := h.free 4
  have hg2 := h.free 5
  have H := Lib.hid h.drew
  have HF := Lib.hid h.ft
  clear h hv
  go_enter Tryz.func59, Tryz.ntmps59
  go_wp2_with fail
  refine wp_region_phased (fun W => W = w.drew) 6 (by kernel_rfl) rfl (fun hS0 => ?_)
  refine wpAnyP_load (v := ?_) 0 (by kernel_rfl) (at_toArray rfl) (by kernel_rfl) (by kernel_rfl) (by kernel_rfl) (fun _ _ _ h => h) (by first | assumption | rfl) (Or.inl ⟨by rfl, fun W hS => ?_⟩) ?_
  rotate_left 1
  · (obtain rfl := hS; go_simp <;> (try go_bits) <;> with_reducible rfl)
  simp only [Act.put, List.setIfInBounds_toArray, List.set_cons_zero, List.set_cons_succ]
  refine wpAnyP_load (v := ?_) 1 (by kernel_rfl) (at_toArray rfl) (by kernel_rfl) (by kernel_rfl) (by kernel_rfl) (fun _ _ _ h => h) (by first | assumption | rfl) (Or.inl ⟨by rfl, fun W hS => ?_⟩) ?_
  rotate_left 1
  · (obtain rfl := hS; go_simp <;> (try go_bits) <;> with_reducible rfl)
  simp only [Act.put, List.setIfInBounds_toArray, List.set_cons_zero, List.set_cons_succ]
  refine wpAnyP_pure (v := ?_) 2 (at_toArray rfl) (by kernel_rfl) (by kernel_rfl) (by kernel_rfl) (fun _ _ _ h => h) (Or.inl ⟨by rfl, fun W => ?_⟩) ?_
  rotate_left 1
  · (go_simp <;> (try go_bits) <;> with_reducible rfl)
  simp only [Act.put, List.setIfInBounds_toArray, List.set_cons_zero, List.set_cons_succ]
  refine wpAnyP_pure (v := ?_) 3 (at_toArray rfl) (by kernel_rfl) (by kernel_rfl) (by kernel_rfl) (fun _ _ _ h => h) (Or.inl ⟨by rfl, fun W => ?_⟩) ?_
  rotate_left 1
  · (go_simp <;> (try go_bits) <;> with_reducible rfl)
  simp only [Act.put, List.setIfInBounds_toArray, List.set_cons_zero, List.set_cons_succ]
  refine wpAnyP_pure (v := ?_) 4 (at_toArray rfl) (by kernel_rfl) (by kernel_rfl) (by kernel_rfl) (fun _ _ _ h => h) (Or.inl ⟨by rfl, fun W => ?_⟩) ?_
  rotate_left 1
  · (go_simp <;> (try go_bits) <;> with_reducible rfl)
  simp only [Act.put, List.setIfInBounds_toArray, List.set_cons_zero, List.set_cons_succ]
  refine wpAnyP_pure (v := ?_) 5 (at_toArray rfl) (by kernel_rfl) (by kernel_rfl) (by kernel_rfl) (fun _ _ _ h => h) (Or.inl ⟨by rfl, fun W => ?_⟩) ?_
  rotate_left 1
  · (go_simp <;> (try go_bits) <;> with_reducible rfl)
  simp only [Act.put, List.setIfInBounds_toArray, List.set_cons_zero, List.set_cons_succ]
  refine wpAnyP_one 6 (at_toArray rfl) (by kernel_rfl) rfl (fun K hK => ?_)
  go_wp2_with fail
  refine hK.out _ _ (fun h => absurd h (by decide)) ?_
  clear hK
  refine wpAnyP_done (by kernel_rfl) ?_ _
  go_end0
  exact ⟨rfl, F, H.out.clr1, (Upd.of_below (Below.refl _ _).drew).trans ⟨(Fr.setCell F w.drew _ _ HF.out).trans (Fr.setCell F _ _ _ HF.out) (fun _ h => .inl h), fun _ h => .inl h⟩⟩

end Go.Proofs.YtdhafdejionefaaGreat

/- The walks of the tape's New, Append, Sync, Clear. -/
namespace Go.Proofs.YtdhafdejionefaaGreat
set_option linter.unusedVariables false
set_option linter.unusedSimpArgs false
open Go.RowKit

def TS.new (room : Int) : TS := ⟨room, [], [], 0, 0, false, none, 0, 0⟩
theorem new_ok (room : Int) (w : World) (h0 : 0 ≤ room) (h1 : room ≤ 1073741824) :
    Calls Tryz.prog 6 #[.int .i64 room] w fun e w' => ∃ tb, e = .returned (.pointer (some ⟨tb, 0, none⟩)) ∧ w.heap.size ≤ tb ∧ Below w.heap.size w w' ∧ TapeR w' tb (TS.new room) (fun k => k = tb) := by
  have h2 : ¬ room < 0 := by omega
  have h3 : ¬ 1073741824 < room := by omega
  go_enter Tryz.func6, Tryz.ntmps6
  go_wp2
  go_ret
  refine ⟨_, rfl, Nat.le_refl _, (Below.refl _ _).alloc (Nat.le_refl _) _, .slice none 0 0, .slice none 0 0, none, Blk.new w _ _, OB.nil _, OB.nil _, rfl, fun k hk => by simp [Value.ownBlock] at hk, rfl, fun k hk => by simp [Value.ownBlock] at hk, fun k hk => by simp [Value.ownBlock] at hk, fun k hk => by subst hk; simp, ⟨Nat.le_refl _, Nat.le_refl _, ?_, h1, fun l k e => by cases e⟩⟩
  show ((0 + 0 : Nat) : Int) ≤ room
  omega
theorem new_no (room : Int) (w : World) (h : room < 0 ∨ 1073741824 < room) :
    Calls Tryz.prog 6 #[.int .i64 room] w fun e w' => e = .returned (.pointer none) ∧ w = w' := by
  by_cases h1 : room < 0
  · clear h
    go_enter Tryz.func6, Tryz.ntmps6
    go_wp2
    go_ret
    exact ⟨rfl, rfl⟩
  · have h2 : 1073741824 < room := by omega
    clear h
    go_enter Tryz.func6, Tryz.ntmps6
    go_wp2
    go_ret
    exact ⟨rfl, rfl⟩

/-- An operation f, unless power goes. -/
def TS.op (T : TS) (f : TS → TS) : Int × TS :=
  match T.plan with
  | none => (0, f T.step)
  | some (l, k) => if l = 0 then (150, T.gone k) else (0, f T.step)
def TS.append (T : TS) (n : Int) (xs : List UInt8) : Int × TS :=
  if faultN T.off n ≠ 0 then (faultN T.off n, T) else if T.room - (T.used : Int) < (xs.length : Int) then (151, T) else T.op fun T => T.app n xs
def TS.sync (T : TS) (n : Int) : Int × TS := if faultN T.off n ≠ 0 then (faultN T.off n, T) else T.op fun T => T.syn n
def TS.clear (T : TS) (n : Int) : Int × TS := if faultN T.off n ≠ 0 then (faultN T.off n, T) else T.op fun T => T.clr n
theorem fault_zero {off : Bool} {n : Int} (h : faultN off n = 0) : off = false ∧ (n = 0 ∨ n = 1) := by
  unfold faultN at h
  split at h
  · rename_i hn
    cases off
    · exact ⟨rfl, hn⟩
    · simp at h
  · omega
/-- What a call on a tape comes to. -/
def Does (w : World) (tb : Nat) (F : Nat → Prop) (r : Int × TS) (e : Ending) (w' : World) : Prop := e = .returned (.int .i64 r.1) ∧ ∃ F', TapeR w' tb r.2 F' ∧ Upd w w' F F'

theorem sync_err (tb : Nat) (n : Int) (T : TS) (F : Nat → Prop) (w : World) (h : TapeR w tb T F) (hn : faultN T.off n ≠ 0) :
    Calls Tryz.prog 49 #[.pointer (some ⟨tb, 0, none⟩), .int .i64 n] w (Does w tb F (faultN T.off n, T)) := by
  have hb : Below w.heap.size w ((w.alloc (.cells #[.pointer (some ⟨tb, 0, none⟩)] 27)).alloc (.cells #[.int .i64 n] 3)) := ((Below.refl _ _).alloc (Nat.le_refl _) _).alloc (by simp) _
  have H := Lib.hid (h.below hb)
  have HB := Lib.hid hb
  obtain ⟨v0, v1, pv, h⟩ := h
  have h0 := ((h.blk.alloc (.cells #[.pointer (some ⟨tb, 0, none⟩)] 27)).alloc (.cells #[.int .i64 n] 3)).cell 0
  have h6 := ((h.blk.alloc (.cells #[.pointer (some ⟨tb, 0, none⟩)] 27)).alloc (.cells #[.int .i64 n] 3)).cell 6
  obtain ⟨k, hk⟩ : ∃ k, k = faultN T.off n := ⟨_, rfl⟩
  have hne : (k != 0) = true := by rw [bne_iff_ne, hk]; exact hn
  rw [← hk]
  have HK := Lib.hid hk
  have H0 := Lib.hid h0
  have H6 := Lib.hid h6
  clear h hn hk hb h0 h6
  go_enter Tryz.func49, Tryz.ntmps49
  go_wp2_with fail
  refine (fault_any tb n T.off _ H0.out H6.out).mono ?_
  rintro e w' ⟨rfl, rfl⟩
  rw [← HK.out]
  go_wp2
  go_ret
  exact ⟨rfl, F, H.out, Upd.of_below HB.out⟩
set_option maxHeartbeats 1000000 in
theorem sync_ok (tb : Nat) (n : Int) (T : TS) (F : Nat → Prop) (w : World) (h : TapeR w tb T F) (hn : n = 0 ∨ n = 1) (ho : T.off = false) :
    Calls Tryz.prog 49 #[.pointer (some ⟨tb, 0, none⟩), .int .i64 n] w (Does w tb F (T.op fun T => T.syn n)) := by
  obtain ⟨w2, hw2⟩ : ∃ w2, w2 = ((w.alloc (.cells #[.pointer (some ⟨tb, 0, none⟩)] 27)).alloc (.cells #[.int .i64 n] 3)) := ⟨_, rfl⟩
  have hb : Below w.heap.size w w2 := by rw [hw2]; exact ((Below.refl _ _).alloc (Nat.le_refl _) _).alloc (by simp) _
  have hk3 : Blk w2 w.heap.size #[.pointer (some ⟨tb, 0, none⟩)] 27 := by rw [hw2]; exact (Blk.new w _ _).alloc _
  have hk4 : Blk w2 (w.heap.size + 1) #[.int .i64 n] 3 := by rw [hw2]; have := Blk.new (w.alloc (.cells #[.pointer (some ⟨tb, 0, none⟩)] 27)) #[.int .i64 n] 3; simpa using this
  have hF : ∀ k, F k → k < w.heap.size := by obtain ⟨_, _, _, h⟩ := h; exact h.flt
  have h2 := h.below hb
  have H := Lib.hid h2
  have HB := Lib.hid hb
  have HK3 := Lib.hid hk3
  have HK4 := Lib.hid hk4
  have hn3 := hk3.cell 0
  have hn4 := hk4.cell 0
  obtain ⟨v0, v1, pv, h2⟩ := h2
  have h0 := h2.c0
  have h6 := h2.c6
  rw [ho] at h6
  have HN := Lib.hid hn
  have HF := Lib.hid hF
  have hfz : faultN false n = 0 := by simp [faultN, hn]
  have HW := Lib.hid hw2
  clear h h2 hb hk3 hk4 hn hF hw2 ho
  go_enter Tryz.func49, Tryz.ntmps49
  go_wp2_with fail
  rw [← HW.out]
  clear HW
  refine (fault_any tb n false w2 h0 h6).mono ?_
  rintro e w' ⟨rfl, rfl⟩
  rw [hfz]
  clear hfz
  go_wp2_with fail
  have hcl : ∀ w1, TapeR w1 tb T.step F → Upd w2 w1 F F → Calls Tryz.prog 70 #[.pointer (some ⟨w.heap.size, 0, none⟩), .pointer (some ⟨w.heap.size + 1, 0, none⟩)] w1 fun e w' => e = .returned (.tuple #[]) ∧ ∃ F', TapeR w' tb (T.step.syn n) F' ∧ Upd w1 w' F F' := by
    intro w1 ht hu
    have a3 := (HK3.out.fr hu.fr (fun hf => by have := HF.out _ hf; omega)).cell 0
    have a4 := (HK4.out.fr hu.fr (fun hf => by have := HF.out _ hf; omega)).cell 0
    rcases HN.out with rfl | rfl
    · exact sync1_0 tb _ _ _ F w1 ht a3 a4
    · exact sync1_1 tb _ _ _ F w1 ht a3 a4
  have HCL := Lib.hid hcl
  clear hcl
  obtain ⟨pl, hpl⟩ : ∃ pl, pl = T.plan := ⟨_, rfl⟩
  match pl, hpl with
  | none, hpl =>
    have hv : T.op (fun T => T.syn n) = (0, T.step.syn n) := by unfold TS.op; rw [← hpl]
    have HV := Lib.hid hv
    refine (do_none_sync _ tb T F w2 H.out hpl.symm (fun w1 w' => ∃ F', TapeR w' tb (T.step.syn n) F' ∧ Upd w1 w' F F') HCL.out).mono ?_
    rintro e w' ⟨rfl, w1, _, hu1, F', ht, hu⟩
    have HT := Lib.hid ht
    have HU := Lib.hid (hu1.trans hu)
    clear ht hu hu1 hpl hv
    go_wp2
    go_ret
    rw [HV.out]
    exact ⟨rfl, F', HT.out, (Upd.of_below HB.out).trans HU.out⟩
  | some (l, k), hpl =>
    by_cases hl : l = 0
    · subst hl
      have hv : T.op (fun T => T.syn n) = (150, T.gone k) := by unfold TS.op; rw [← hpl]; rfl
      have HV := Lib.hid hv
      refine (do_gone_sync _ tb T F w2 H.out k hpl.symm).mono ?_
      rintro e w' ⟨rfl, F', ht, hu⟩
      have HT := Lib.hid ht
      have HU := Lib.hid hu
      clear ht hu hpl hv
      go_wp2
      go_ret
      rw [HV.out]
      exact ⟨rfl, F', HT.out, (Upd.of_below HB.out).trans HU.out⟩
    · have hv : T.op (fun T => T.syn n) = (0, T.step.syn n) := by unfold TS.op; rw [← hpl]; exact if_neg hl
      have HV := Lib.hid hv
      have hl0 : 0 < l := by
        obtain ⟨_, _, _, ht⟩ := H.out
        have := (ht.wf.left l k hpl.symm).1
        omega
      refine (do_left_sync _ tb T F w2 H.out l k hpl.symm hl0 (fun w1 w' => ∃ F', TapeR w' tb (T.step.syn n) F' ∧ Upd w1 w' F F') HCL.out).mono ?_
      rintro e w' ⟨rfl, w1, _, hu1, F', ht, hu⟩
      have HT := Lib.hid ht
      have HU := Lib.hid (hu1.trans hu)
      clear ht hu hu1 hpl hv
      go_wp2
      go_ret
      rw [HV.out]
      exact ⟨rfl, F', HT.out, (Upd.of_below HB.out).trans HU.out⟩
theorem sync_any (tb : Nat) (n : Int) (T : TS) (F : Nat → Prop) (w : World) (h : TapeR w tb T F) :
    Calls Tryz.prog 49 #[.pointer (some ⟨tb, 0, none⟩), .int .i64 n] w (Does w tb F (T.sync n)) := by
  unfold TS.sync
  by_cases hn : faultN T.off n = 0
  · rw [if_neg (by simpa using hn)]
    have := fault_zero hn
    exact sync_ok tb n T F w h this.2 this.1
  · rw [if_pos hn]
    exact sync_err tb n T F w h hn
theorem sync_no (p : Option Addr) (n : Int) (w : World) (h : NoTape w p) :
    Calls Tryz.prog 49 #[.pointer p, .int .i64 n] w fun e w' => e = .returned (.int .i64 1) ∧ Below w.heap.size w w' := by
  have hb : Below w.heap.size w ((w.alloc (.cells #[.pointer p] 27)).alloc (.cells #[.int .i64 n] 3)) := ((Below.refl _ _).alloc (Nat.le_refl _) _).alloc (by simp) _
  have H := Lib.hid (h.below hb)
  have HB := Lib.hid hb
  clear h hb
  go_enter Tryz.func49, Tryz.ntmps49
  go_wp2_with fail
  refine (fault_no p n _ H.out).mono ?_
  rintro e w' ⟨rfl, rfl⟩
  go_wp2
  go_ret
  exact ⟨rfl, HB.out⟩

theorem clear_err (tb : Nat) (n : Int) (T : TS) (F : Nat → Prop) (w : World) (h : TapeR w tb T F) (hn : faultN T.off n ≠ 0) :
    Calls Tryz.prog 31 #[.pointer (some ⟨tb, 0, none⟩), .int .i64 n] w (Does w tb F (faultN T.off n, T)) := by
  have hb : Below w.heap.size w ((w.alloc (.cells #[.pointer (some ⟨tb, 0, none⟩)] 27)).alloc (.cells #[.int .i64 n] 3)) := ((Below.refl _ _).alloc (Nat.le_refl _) _).alloc (by simp) _
  have H := Lib.hid (h.below hb)
  have HB := Lib.hid hb
  obtain ⟨v0, v1, pv, h⟩ := h
  have h0 := ((h.blk.alloc (.cells #[.pointer (some ⟨tb, 0, none⟩)] 27)).alloc (.cells #[.int .i64 n] 3)).cell 0
  have h6 := ((h.blk.alloc (.cells #[.pointer (some ⟨tb, 0, none⟩)] 27)).alloc (.cells #[.int .i64 n] 3)).cell 6
  obtain ⟨k, hk⟩ : ∃ k, k = faultN T.off n := ⟨_, rfl⟩
  have hne : (k != 0) = true := by rw [bne_iff_ne, hk]; exact hn
  rw [← hk]
  have HK := Lib.hid hk
  have H0 := Lib.hid h0
  have H6 := Lib.hid h6
  clear h hn hk hb h0 h6
  go_enter Tryz.func31, Tryz.ntmps31
  go_wp2_with fail
  refine (fault_any tb n T.off _ H0.out H6.out).mono ?_
  rintro e w' ⟨rfl, rfl⟩
  rw [← HK.out]
  go_wp2
  go_ret
  exact ⟨rfl, F, H.out, Upd.of_below HB.out⟩
set_option maxHeartbeats 1000000 in
theorem clear_ok (tb : Nat) (n : Int) (T : TS) (F : Nat → Prop) (w : World) (h : TapeR w tb T F) (hn : n = 0 ∨ n = 1) (ho : T.off = false) :
    Calls Tryz.prog 31 #[.pointer (some ⟨tb, 0, none⟩), .int .i64 n] w (Does w tb F (T.op fun T => T.clr n)) := by
  obtain ⟨w2, hw2⟩ : ∃ w2, w2 = ((w.alloc (.cells #[.pointer (some ⟨tb, 0, none⟩)] 27)).alloc (.cells #[.int .i64 n] 3)) := ⟨_, rfl⟩
  have hb : Below w.heap.size w w2 := by rw [hw2]; exact ((Below.refl _ _).alloc (Nat.le_refl _) _).alloc (by simp) _
  have hk3 : Blk w2 w.heap.size #[.pointer (some ⟨tb, 0, none⟩)] 27 := by rw [hw2]; exact (Blk.new w _ _).alloc _
  have hk4 : Blk w2 (w.heap.size + 1) #[.int .i64 n] 3 := by rw [hw2]; have := Blk.new (w.alloc (.cells #[.pointer (some ⟨tb, 0, none⟩)] 27)) #[.int .i64 n] 3; simpa using this
  have hF : ∀ k, F k → k < w.heap.size := by obtain ⟨_, _, _, h⟩ := h; exact h.flt
  have h2 := h.below hb
  have H := Lib.hid h2
  have HB := Lib.hid hb
  have HK3 := Lib.hid hk3
  have HK4 := Lib.hid hk4
  have hn3 := hk3.cell 0
  have hn4 := hk4.cell 0
  obtain ⟨v0, v1, pv, h2⟩ := h2
  have h0 := h2.c0
  have h6 := h2.c6
  rw [ho] at h6
  have HN := Lib.hid hn
  have HF := Lib.hid hF
  have hfz : faultN false n = 0 := by simp [faultN, hn]
  have HW := Lib.hid hw2
  clear h h2 hb hk3 hk4 hn hF hw2 ho
  go_enter Tryz.func31, Tryz.ntmps31
  go_wp2_with fail
  rw [← HW.out]
  clear HW
  refine (fault_any tb n false w2 h0 h6).mono ?_
  rintro e w' ⟨rfl, rfl⟩
  rw [hfz]
  clear hfz
  go_wp2_with fail
  have hcl : ∀ w1, TapeR w1 tb T.step F → Upd w2 w1 F F → Calls Tryz.prog 59 #[.pointer (some ⟨w.heap.size, 0, none⟩), .pointer (some ⟨w.heap.size + 1, 0, none⟩)] w1 fun e w' => e = .returned (.tuple #[]) ∧ ∃ F', TapeR w' tb (T.step.clr n) F' ∧ Upd w1 w' F F' := by
    intro w1 ht hu
    have a3 := (HK3.out.fr hu.fr (fun hf => by have := HF.out _ hf; omega)).cell 0
    have a4 := (HK4.out.fr hu.fr (fun hf => by have := HF.out _ hf; omega)).cell 0
    rcases HN.out with rfl | rfl
    · exact clear1_0 tb _ _ _ F w1 ht a3 a4
    · exact clear1_1 tb _ _ _ F w1 ht a3 a4
  have HCL := Lib.hid hcl
  clear hcl
  obtain ⟨pl, hpl⟩ : ∃ pl, pl = T.plan := ⟨_, rfl⟩
  match pl, hpl with
  | none, hpl =>
    have hv : T.op (fun T => T.clr n) = (0, T.step.clr n) := by unfold TS.op; rw [← hpl]
    have HV := Lib.hid hv
    refine (do_none_clear _ tb T F w2 H.out hpl.symm (fun w1 w' => ∃ F', TapeR w' tb (T.step.clr n) F' ∧ Upd w1 w' F F') HCL.out).mono ?_
    rintro e w' ⟨rfl, w1, _, hu1, F', ht, hu⟩
    have HT := Lib.hid ht
    have HU := Lib.hid (hu1.trans hu)
    clear ht hu hu1 hpl hv
    go_wp2
    go_ret
    rw [HV.out]
    exact ⟨rfl, F', HT.out, (Upd.of_below HB.out).trans HU.out⟩
  | some (l, k), hpl =>
    by_cases hl : l = 0
    · subst hl
      have hv : T.op (fun T => T.clr n) = (150, T.gone k) := by unfold TS.op; rw [← hpl]; rfl
      have HV := Lib.hid hv
      refine (do_gone_clear _ tb T F w2 H.out k hpl.symm).mono ?_
      rintro e w' ⟨rfl, F', ht, hu⟩
      have HT := Lib.hid ht
      have HU := Lib.hid hu
      clear ht hu hpl hv
      go_wp2
      go_ret
      rw [HV.out]
      exact ⟨rfl, F', HT.out, (Upd.of_below HB.out).trans HU.out⟩
    · have hv : T.op (fun T => T.clr n) = (0, T.step.clr n) := by unfold TS.op; rw [← hpl]; exact if_neg hl
      have HV := Lib.hid hv
      have hl0 : 0 < l := by
        obtain ⟨_, _, _, ht⟩ := H.out
        have := (ht.wf.left l k hpl.symm).1
        omega
      refine (do_left_clear _ tb T F w2 H.out l k hpl.symm hl0 (fun w1 w' => ∃ F', TapeR w' tb (T.step.clr n) F' ∧ Upd w1 w' F F') HCL.out).mono ?_
      rintro e w' ⟨rfl, w1, _, hu1, F', ht, hu⟩
      have HT := Lib.hid ht
      have HU := Lib.hid (hu1.trans hu)
      clear ht hu hu1 hpl hv
      go_wp2
      go_ret
      rw [HV.out]
      exact ⟨rfl, F', HT.out, (Upd.of_below HB.out).trans HU.out⟩
theorem clear_any (tb : Nat) (n : Int) (T : TS) (F : Nat → Prop) (w : World) (h : TapeR w tb T F) :
    Calls Tryz.prog 31 #[.pointer (some ⟨tb, 0, none⟩), .int .i64 n] w (Does w tb F (T.clear n)) := by
  unfold TS.clear
  by_cases hn : faultN T.off n = 0
  · rw [if_neg (by simpa using hn)]
    have := fault_zero hn
    exact clear_ok tb n T F w h this.2 this.1
  · rw [if_pos hn]
    exact clear_err tb n T F w h hn
theorem clear_no (p : Option Addr) (n : Int) (w : World) (h : NoTape w p) :
    Calls Tryz.prog 31 #[.pointer p, .int .i64 n] w fun e w' => e = .returned (.int .i64 1) ∧ Below w.heap.size w w' := by
  have hb : Below w.heap.size w ((w.alloc (.cells #[.pointer p] 27)).alloc (.cells #[.int .i64 n] 3)) := ((Below.refl _ _).alloc (Nat.le_refl _) _).alloc (by simp) _
  have H := Lib.hid (h.below hb)
  have HB := Lib.hid hb
  clear h hb
  go_enter Tryz.func31, Tryz.ntmps31
  go_wp2_with fail
  refine (fault_no p n _ H.out).mono ?_
  rintro e w' ⟨rfl, rfl⟩
  go_wp2
  go_ret
  exact ⟨rfl, HB.out⟩

end Go.Proofs.YtdhafdejionefaaGreat
