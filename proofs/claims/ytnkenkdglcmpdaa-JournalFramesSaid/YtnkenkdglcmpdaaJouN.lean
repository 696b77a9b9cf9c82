/- The walks of the journal's lay, its inner function. -/
import Derived.Test.YtnkenkdglcmpdaaJouM
namespace Go.Proofs.Ytnkenkdglcmpdaa
set_option linter.unusedVariables false
set_option linter.unusedSimpArgs false
open Go.RowKit

/-- One frame is put onto an area, if nothing has failed yet: how many bytes, the error, the tape. -/
def layPut (a : Int) (f : List UInt8) (s : Int × Int × TS) : Int × Int × TS :=
  if s.2.1 = 0 then (wrap64 (s.1 + (f.length : Int)), (s.2.2.append a f).1, (s.2.2.append a f).2) else s
def layFold (a : Int) (ls : List (List UInt8)) (s : Int × Int × TS) : Int × Int × TS := ls.foldl (fun s xs => layPut a (frameB 68 xs) s) s
def layEnd (a turn : Int) (s : Int × Int × TS) : Int × Int × TS := layPut a (frameB 71 (putN (turn + 1).toNat)) s
def layN (T : TS) (a turn : Int) (ls : List (List UInt8)) : Int × Int × TS :=
  if (T.clear a).1 ≠ 0 then (0, (T.clear a).1, (T.clear a).2)
  else if (layEnd a turn (layFold a ls (0, 0, (T.clear a).2))).2.1 = 0
  then ((layEnd a turn (layFold a ls (0, 0, (T.clear a).2))).1, ((layEnd a turn (layFold a ls (0, 0, (T.clear a).2))).2.2.sync a).1, ((layEnd a turn (layFold a ls (0, 0, (T.clear a).2))).2.2.sync a).2)
  else layEnd a turn (layFold a ls (0, 0, (T.clear a).2))
/-- What lies while records are laid: boxes from s on. -/
structure LayR (w : World) (s jb tb : Nat) (J : JS) (a : Int) (q : Int × Int × TS) (F : Nat → Prop) : Prop where
  jr : JR w jb tb J q.2.2 F
  bj : Blk w s #[.pointer (some ⟨jb, 0, none⟩)] 69
  ba : Blk w (s + 1) #[.int .i64 a] 3
  bn : Blk w (s + 2) #[.int .i64 q.1] 3
  be : Blk w (s + 3) #[.int .i64 q.2.1] 38
  apart : ∀ i, s ≤ i → i ≤ s + 3 → ¬ F i ∧ i ≠ jb
def FS (F : Nat → Prop) (s : Nat) : Nat → Prop := fun k => F k ∨ k = s + 2 ∨ k = s + 3
variable {w : World} {s jb tb : Nat} {J : JS} {a : Int} {q : Int × Int × TS} {F : Nat → Prop}
theorem LayR.below {w' : World} (h : LayR w s jb tb J a q F) (hb : Below w.heap.size w w') : LayR w' s jb tb J a q F :=
  ⟨h.jr.below hb, h.bj.below hb, h.ba.below hb, h.bn.below hb, h.be.below hb, h.apart⟩
theorem LayR.setN (h : LayR w s jb tb J a q F) (n : Int) : LayR (w.setCell ⟨s + 2, 0, none⟩ (.int .i64 n)) s jb tb J a (n, q.2) F ∧ Upd w (w.setCell ⟨s + 2, 0, none⟩ (.int .i64 n)) (FS F s) (FS F s) := by
  have hf := Fr.setCell (fun k => k = s + 2) w ⟨s + 2, 0, none⟩ (.int .i64 n) rfl
  have h2 := h.apart (s + 2) (by omega) (by omega)
  exact ⟨⟨h.jr.fr hf (fun k hk e => h2.1 (e ▸ hk)) (fun e => h2.2 e.symm), h.bj.fr hf (by omega), h.ba.fr hf (by omega), h.bn.set 0 _, h.be.fr hf (by omega), h.apart⟩, hf.mono fun i hi => .inl (.inr (.inl hi)), fun k hk => .inl hk⟩
theorem LayR.setE (h : LayR w s jb tb J a q F) (e : Int) : LayR (w.setCell ⟨s + 3, 0, none⟩ (.int .i64 e)) s jb tb J a (q.1, e, q.2.2) F ∧ Upd w (w.setCell ⟨s + 3, 0, none⟩ (.int .i64 e)) (FS F s) (FS F s) := by
  have hf := Fr.setCell (fun k => k = s + 3) w ⟨s + 3, 0, none⟩ (.int .i64 e) rfl
  have h2 := h.apart (s + 3) (by omega) (by omega)
  exact ⟨⟨h.jr.fr hf (fun k hk e => h2.1 (e ▸ hk)) (fun e => h2.2 e.symm), h.bj.fr hf (by omega), h.ba.fr hf (by omega), h.bn.fr hf (by omega), h.be.set 0 _, h.apart⟩, hf.mono fun i hi => .inl (.inr (.inr hi)), fun k hk => .inl hk⟩
/-- What a call on the tape leaves of it. -/
theorem LayR.upd {w' : World} {T' : TS} {F' : Nat → Prop} (h : LayR w s jb tb J a q F) (ht : TapeR w' tb T' F') (hu : Upd w w' F F') : LayR w' s jb tb J a (q.1, q.2.1, T') F' ∧ Upd w w' (FS F s) (FS F' s) := by
  have ha := fun i h1 h2 => (h.apart i h1 h2).1
  have hlt : s + 3 < w.heap.size := h.be.lt
  refine ⟨⟨(h.jr.upd ht hu).1, h.bj.fr hu.fr (ha s (by omega) (by omega)), h.ba.fr hu.fr (ha _ (by omega) (by omega)), h.bn.fr hu.fr (ha _ (by omega) (by omega)), h.be.fr hu.fr (ha _ (by omega) (by omega)), fun i h1 h2 => ⟨fun hf => (hu.new i hf).elim (ha i h1 h2) (fun h => by omega), (h.apart i h1 h2).2⟩⟩, hu.fr.mono fun i hi => .inl (.inl hi), fun k hk => ?_⟩
  rcases hk with hk | hk
  · exact (hu.new k hk).elim (fun h => .inl (.inl h)) .inr
  · exact .inl (.inr hk)
theorem LayR.cs (h : LayR w s jb tb J a q F) : w.cell? ⟨s, 0, none⟩ = some (.pointer (some ⟨jb, 0, none⟩)) := h.bj.cell 0
theorem LayR.ca (h : LayR w s jb tb J a q F) : w.cell? ⟨s + 1, 0, none⟩ = some (.int .i64 a) := h.ba.cell 0
theorem LayR.cn (h : LayR w s jb tb J a q F) : w.cell? ⟨s + 2, 0, none⟩ = some (.int .i64 q.1) := h.bn.cell 0
theorem LayR.ce (h : LayR w s jb tb J a q F) : w.cell? ⟨s + 3, 0, none⟩ = some (.int .i64 q.2.1) := h.be.cell 0
set_option maxRecDepth 100000 in
set_option maxHeartbeats 2000000 in
theorem lay1_any (A : Option Addr) (c : Nat) (f : List UInt8) (h : LayR w s jb tb J a q F) (hr : RB w A f) (hA : ∀ x, A = some x → 0 < f.length → ¬ F x.block ∧ ¬ (x.block = s + 2)) (hq : 0 ≤ q.1 ∧ q.1 ≤ 4611686018427387904) (hl : f.length ≤ 1000000000) :
    Calls Try.prog 91 #[.slice A f.length c, .pointer (some ⟨s + 3, 0, none⟩), .pointer (some ⟨s + 2, 0, none⟩), .pointer (some ⟨s, 0, none⟩), .pointer (some ⟨s + 1, 0, none⟩)] w fun e w' => e = .returned (.tuple #[]) ∧ ∃ F', LayR w' s jb tb J a (layPut a f q) F' ∧ Upd w w' (FS F s) (FS F' s) := by
  obtain ⟨n0, e0, T⟩ := q
  obtain ⟨r, hrr⟩ : ∃ r, r = layPut a f (n0, e0, T) := ⟨_, rfl⟩
  rw [← hrr]
  unfold layPut at hrr
  simp only at hrr hq
  obtain ⟨n, hn⟩ : ∃ n, n = f.length := ⟨_, rfl⟩
  rw [← hn] at hrr hl ⊢
  have HN := Lib.hid hn
  have HR := Lib.hid hrr
  have HF := Lib.hid hr
  have H := Lib.hid h
  have HA := Lib.hid hA
  have ce : w.cell? ⟨s + 3, 0, none⟩ = some (.int .i64 e0) := h.be.cell 0
  have cn : w.cell? ⟨s + 2, 0, none⟩ = some (.int .i64 n0) := h.bn.cell 0
  have fn := h.bn.free 0
  clear hrr hr h hA hn
  obtain ⟨hq0, hq1⟩ := hq
  go_enter Try.func91, Try.ntmps91
  by_cases h0 : e0 = 0
  · subst h0
    have hr := HR.out
    rw [if_pos rfl, IntWalk.wrap64_in _ (by omega)] at hr
    subst hr
    clear HR
    go_wp2_with fail
    obtain ⟨w1, hw1⟩ : ∃ w1, w1 = w.setCell ⟨s + 2, 0, none⟩ (.int .i64 (n0 + (n : Int))) := ⟨_, rfl⟩
    obtain ⟨h1, u1⟩ := H.out.setN (n0 + (n : Int))
    have hf1 : RB w1 A f := by
      rw [hw1]
      exact HF.out.fr2 (Fr.setCell (fun k => k = s + 2) w ⟨s + 2, 0, none⟩ _ rfl) (fun x hx h0 => (HA.out x hx h0).2)
    rw [← hw1] at h1 u1 ⊢
    have U1 := Lib.hid u1
    have HF1 := Lib.hid hf1
    have HE : Hid (w1.frozen? ⟨s + 3, 0, none⟩ = false) := Lib.hid (h1.be.free 0)
    clear u1 hf1 hw1 ce cn fn
    refine wp_region_phased (fun W => W.cell? ⟨s, 0, none⟩ = some (.pointer (some ⟨jb, 0, none⟩)) ∧ W.cell? ⟨jb, 0, none⟩ = some (.pointer (some ⟨tb, 0, none⟩)) ∧ W.cell? ⟨s + 1, 0, none⟩ = some (.int .i64 a)) 7 (by kernel_rfl) ⟨h1.cs, h1.jr.c0, h1.ca⟩ (fun hS => ?_)
    have h2 := h1.below (Below.refl _ _).drew
    refine wpAnyP_load (v := ?_) 0 (by kernel_rfl) (at_toArray rfl) (by kernel_rfl) (by kernel_rfl) (by kernel_rfl) (fun _ _ _ h => h) (by first | assumption | rfl) (Or.inl ⟨by rfl, fun W hS => ?_⟩) ?_
    rotate_left 1
    · (obtain ⟨_, _, _⟩ := hS; go_simp <;> (try go_bits) <;> with_reducible rfl)
    simp only [Act.put, List.setIfInBounds_toArray, List.set_cons_zero, List.set_cons_succ]
    refine wpAnyP_pure (v := ?_) 1 (at_toArray rfl) (by kernel_rfl) (by kernel_rfl) (by kernel_rfl) (fun _ _ _ h => h) (Or.inl ⟨by rfl, fun W => ?_⟩) ?_
    rotate_left 1
    · (go_simp <;> (try go_bits) <;> with_reducible rfl)
    simp only [Act.put, List.setIfInBounds_toArray, List.set_cons_zero, List.set_cons_succ]
    refine wpAnyP_pure (v := ?_) 2 (at_toArray rfl) (by kernel_rfl) (by kernel_rfl) (by kernel_rfl) (fun _ _ _ h => h) (Or.inl ⟨by rfl, fun W => ?_⟩) ?_
    rotate_left 1
    · (go_simp <;> (try go_bits) <;> with_reducible rfl)
    simp only [Act.put, List.setIfInBounds_toArray, List.set_cons_zero, List.set_cons_succ]
    refine wpAnyP_load (v := ?_) 3 (by kernel_rfl) (at_toArray rfl) (by kernel_rfl) (by kernel_rfl) (by kernel_rfl) (fun _ _ _ h => h) (by first | assumption | rfl) (Or.inl ⟨by rfl, fun W hS => ?_⟩) ?_
    rotate_left 1
    · (obtain ⟨_, _, _⟩ := hS; go_simp <;> (try go_bits) <;> with_reducible rfl)
    simp only [Act.put, List.setIfInBounds_toArray, List.set_cons_zero, List.set_cons_succ]
    refine wpAnyP_load (v := ?_) 4 (by kernel_rfl) (at_toArray rfl) (by kernel_rfl) (by kernel_rfl) (by kernel_rfl) (fun _ _ _ h => h) (by first | assumption | rfl) (Or.inl ⟨by rfl, fun W hS => ?_⟩) ?_
    rotate_left 1
    · (obtain ⟨_, _, _⟩ := hS; go_simp <;> (try go_bits) <;> with_reducible rfl)
    simp only [Act.put, List.setIfInBounds_toArray, List.set_cons_zero, List.set_cons_succ]
    refine wpAnyP_pure (v := ?_) 5 (at_toArray rfl) (by kernel_rfl) (by kernel_rfl) (by kernel_rfl) (fun _ _ _ h => h) (Or.inl ⟨by rfl, fun W => ?_⟩) ?_
    rotate_left 1
    · (go_simp <;> (try go_bits) <;> with_reducible rfl)
    simp only [Act.put, List.setIfInBounds_toArray, List.set_cons_zero, List.set_cons_succ]
    refine wpAnyP_one 6 (at_toArray rfl) (by kernel_rfl) rfl (fun K hK => ?_)
    go_wp2_with fail
    rw [HN.out]
    refine (append_any tb a A c f T F _ h2.jr.tape (HF1.out.below (Below.refl _ _).drew) (fun x hx h0 => (HA.out x hx h0).1)).mono ?_
    rw [← HN.out]
    rintro e w3 ⟨rfl, F', ht, hu⟩
    obtain ⟨h3, u3⟩ := h2.upd ht hu
    have U3 := Lib.hid (U1.out.trans (Upd.trans (Upd.of_below (Below.refl _ _).drew) u3))
    have c3 := h3.be.cell 0
    have f3 := h3.be.free 0
    have H3 := Lib.hid h3
    clear ht hu u3 h1 h2
    go_wp2_with fail
    refine hK.out _ _ (fun _ _ => ⟨H3.out.cs, H3.out.jr.c0, H3.out.ca⟩) ?_
    clear hK
    refine wpAnyP_one 7 (at_toArray rfl) (by kernel_rfl) rfl (fun K hK => ?_)
    go_wp2_with fail
    refine hK.out _ _ (fun h => absurd h (by decide)) ?_
    clear hK
    refine wpAnyP_done (by kernel_rfl) ?_ _
    go_wp2_with fail
    go_end0
    obtain ⟨h4, u4⟩ := H3.out.setE (T.append a f).1
    exact ⟨rfl, F', h4, U3.out.trans u4⟩
  · have hr := HR.out
    rw [if_neg h0] at hr
    subst hr
    have h0' : (e0 == 0) = false := by simp [h0]
    go_wp2_with fail
    go_end0
    exact ⟨rfl, F, H.out, Upd.refl _ _⟩

end Go.Proofs.Ytnkenkdglcmpdaa
