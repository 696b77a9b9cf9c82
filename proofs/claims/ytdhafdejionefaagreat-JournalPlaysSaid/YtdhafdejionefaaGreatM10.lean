/- Parts: The walks of the journal's lay, its inner function. .. The chapter's example: lives tells true. -/
import Derived.Test.YtdhafdejionefaaGreatM09
/- The walks of the journal's lay, its inner function. -/
namespace Go.Proofs.YtdhafdejionefaaGreat
set_option linter.unusedVariables false
set_option linter.unusedSimpArgs false
open Go.RowKit

/-- One frame is put onto an area, if nothing has failed yet: how many bytes, the error, the tape. -/
def layPut (a : Int) (f : List UInt8) (s : Int × Int × TS) : Int × Int × TS :=
  if s.2.1 = 0 then (wrap64 (s.1 + (f.length : Int)), (s.2.2.append a f).1, (s.2.2.append a f).2) else s
def layFold (a : Int) (ls : List (List UInt8)) (s : Int × Int × TS) : Int × Int × TS := ls.foldl (fun s xs => layPut a (frameB 68 xs) s) s
def layEnd (a turn : Int) (s : Int × Int × TS) : Int × Int × TS := layPut a (frameB 71 (putN (turn + 1).toNat)) s
def layN (T : TS) (a turn : Int) (ls : List (List UInt8)) : Int × Int × TS :=
  if (T.clear a).1 ≠ 0 then (0, (T.clear a).1, (T.clear a).2)
  else if (layEnd a turn (layFold a ls (0, 0, (T.clear a).2))).2.1 = 0
  then ((layEnd a turn (layFold a ls (0, 0, (T.clear a).2))).1, ((layEnd a turn (layFold a ls (0, 0, (T.clear a).2))).2.2.sync a).1, ((layEnd a turn (layFold a ls (0, 0, (T.clear a).2))).2.2.sync a).2)
  else layEnd a turn (layFold a ls (0, 0, (T.clear a).2))
/-- What lies while records are laid: boxes from s on. -/
structure LayR (w : World) (s jb tb : Nat) (J : JS) (a : Int) (q : Int × Int × TS) (F : Nat → Prop) : Prop where
  jr : JR w jb tb J q.2.2 F
  bj : Blk w s #[.pointer (some ⟨jb, 0, none⟩)] 31
  ba : Blk w (s + 1) #[.int .i64 a] 3
  bn : Blk w (s + 2) #[.int .i64 q.1] 3
  be : Blk w (s + 3) #[.int .i64 q.2.1] 51
  apart : ∀ i, s ≤ i → i ≤ s + 3 → ¬ F i ∧ i ≠ jb
def FS (F : Nat → Prop) (s : Nat) : Nat → Prop := fun k => F k ∨ k = s + 2 ∨ k = s + 3
variable {w : World} {s jb tb : Nat} {J : JS} {a : Int} {q : Int × Int × TS} {F : Nat → Prop}
theorem LayR.below {w' : World} (h : LayR w s jb tb J a q F) (hb : Below w.heap.size w w') : LayR w' s jb tb J a q F :=
  ⟨h.jr.below hb, h.bj.below hb, h.ba.below hb, h.bn.below hb, h.be.below hb, h.apart⟩
theorem LayR.setN (h : LayR w s jb tb J a q F) (n : Int) : LayR (w.setCell ⟨s + 2, 0, none⟩ (.int .i64 n)) s jb tb J a (n, q.2) F ∧ Upd w (w.setCell ⟨s + 2, 0, none⟩ (.int .i64 n)) (FS F s) (FS F s) := by
  have hf := Fr.setCell (fun k => k = s + 2) w ⟨s + 2, 0, none⟩ (.int .i64 n) rfl
  have h2 := h.apart (s + 2) (by omega) (by omega)
  exact ⟨⟨h.jr.fr hf (fun k hk e => h2.1 (e ▸ hk)) (fun e => h2.2 e.symm), h.bj.fr hf (by omega), h.ba.fr hf (by omega), h.bn.set 0 _, h.be.fr hf (by omega), h.apart⟩, hf.mono fun i hi => .inl (.inr (.inl hi)), fun k hk => .inl hk⟩
theorem LayR.setE (h : LayR w s jb tb J a q F) (e : Int) : LayR (w.setCell ⟨s + 3, 0, none⟩ (.int .i64 e)) s jb tb J a (q.1, e, q.2.2) F ∧ Upd w (w.setCell ⟨s + 3, 0, none⟩ (.int .i64 e)) (FS F s) (FS F s) := by
  have hf := Fr.setCell (fun k => k = s + 3) w ⟨s + 3, 0, none⟩ (.int .i64 e) rfl
  have h2 := h.apart (s + 3) (by omega) (by omega)
  exact ⟨⟨h.jr.fr hf (fun k hk e => h2.1 (e ▸ hk)) (fun e => h2.2 e.symm), h.bj.fr hf (by omega), h.ba.fr hf (by omega), h.bn.fr hf (by omega), h.be.set 0 _, h.apart⟩, hf.mono fun i hi => .inl (.inr (.inr hi)), fun k hk => .inl hk⟩
/-- What a call on the tape leaves of it. -/
theorem LayR.upd {w' : World} {T' : TS} {F' : Nat → Prop} (h : LayR w s jb tb J a q F) (ht : TapeR w' tb T' F') (hu : Upd w w' F F') : LayR w' s jb tb J a (q.1, q.2.1, T') F' ∧ Upd w w' (FS F s) (FS F' s) := by
  have ha := fun i h1 h2 => (h.apart i h1 h2).1
  have hlt : s + 3 < w.heap.size := h.be.lt
  refine ⟨⟨(h.jr.upd ht hu).1, h.bj.fr hu.fr (ha s (by omega) (by omega)), h.ba.fr hu.fr (ha _ (by omega) (by omega)), h.bn.fr hu.fr (ha _ (by omega) (by omega)), h.be.fr hu.fr (ha _ (by omega) (by omega)), fun i h1 h2 => ⟨fun hf => (hu.new i hf).elim (ha i h1 h2) (fun h => by omega), (h.apart i h1 h2).2⟩⟩, hu.fr.mono fun i hi => .inl (.inl hi), fun k hk => ?_⟩
  rcases hk with hk | hk
  · exact (hu.new k hk).elim (fun h => .inl (.inl h)) .inr
  · exact .inl (.inr hk)
theorem LayR.cs (h : LayR w s jb tb J a q F) : w.cell? ⟨s, 0, none⟩ = some (.pointer (some ⟨jb, 0, none⟩)) := h.bj.cell 0
theorem LayR.ca (h : LayR w s jb tb J a q F) : w.cell? ⟨s + 1, 0, none⟩ = some (.int .i64 a) := h.ba.cell 0
theorem LayR.cn (h : LayR w s jb tb J a q F) : w.cell? ⟨s + 2, 0, none⟩ = some (.int .i64 q.1) := h.bn.cell 0
theorem LayR.ce (h : LayR w s jb tb J a q F) : w.cell? ⟨s + 3, 0, none⟩ = some (.int .i64 q.2.1) := h.be.cell 0
set_option maxRecDepth 100000 in
set_option maxHeartbeats 2000000 in
theorem lay1_any (A : Option Addr) (c : Nat) (f : List UInt8) (h : LayR w s jb tb J a q F) (hr : RB w A f) (hA : ∀ x, A = some x → 0 < f.length → ¬ F x.block ∧ ¬ (x.block = s + 2)) (hq : 0 ≤ q.1 ∧ q.1 ≤ 4611686018427387904) (hl : f.length ≤ 1000000000) :
    Calls Tryz.prog 76 #[.slice A f.length c, .pointer (some ⟨s + 3, 0, none⟩), .pointer (some ⟨s + 2, 0, none⟩), .pointer (some ⟨s, 0, none⟩), .pointer (some ⟨s + 1, 0, none⟩)] w fun e w' => e = .returned (.tuple #[]) ∧ ∃ F', LayR w' s jb tb J a (layPut a f q) F' ∧ Upd w w' (FS F s) (FS F' s) := by
  obtain ⟨n0, e0, T⟩ := q
  obtain ⟨r, hrr⟩ : ∃ r, r = layPut a f (n0, e0, T) := ⟨_, rfl⟩
  rw [← hrr]
  unfold layPut at hrr
  simp only at hrr hq
  obtain ⟨n, hn⟩ : ∃ n, n = f.length := ⟨_, rfl⟩
  rw [← hn] at hrr hl ⊢
  have HN := Lib.hid hn
  have HR := Lib.hid hrr
  have HF := Lib.hid hr
  have H := Lib.hid h
  have HA := Lib.hid hA
  have ce : w.cell? ⟨s + 3, 0, none⟩ = some (.int .i64 e0) := h.be.cell 0
  have cn : w.cell? ⟨s + 2, 0, none⟩ = some (.int .i64 n0) := h.bn.cell 0
  have fn := h.bn.free 0
  clear hrr hr h hA hn
  obtain ⟨hq0, hq1⟩ := hq
  go_enter Tryz.func76, Tryz.ntmps76
  by_cases h0 : e0 = 0
  · subst h0
    have hr := HR.out
    rw [if_pos rfl, IntWalk.wrap64_in _ (by omega)] at hr
    subst hr
    clear HR
    go_wp2_with fail
    obtain ⟨w1, hw1⟩ : ∃ w1, w1 = w.setCell ⟨s + 2, 0, none⟩ (.int .i64 (n0 + (n : Int))) := ⟨_, rfl⟩
    obtain ⟨h1, u1⟩ := H.out.setN (n0 + (n : Int))
    have hf1 : RB w1 A f := by
      rw [hw1]
      exact HF.out.fr2 (Fr.setCell (fun k => k = s + 2) w ⟨s + 2, 0, none⟩ _ rfl) (fun x hx h0 => (HA.out x hx h0).2)
    rw [← hw1] at h1 u1 ⊢
    have U1 := Lib.hid u1
    have HF1 := Lib.hid hf1
    have HE : Hid (w1.frozen? ⟨s + 3, 0, none⟩ = false) := Lib.hid (h1.be.free 0)
    clear u1 hf1 hw1 ce cn fn
    refine wp_region_phased (fun W => W.cell? ⟨s, 0, none⟩ = some (.pointer (some ⟨jb, 0, none⟩)) ∧ W.cell? ⟨jb, 0, none⟩ = some (.pointer (some ⟨tb, 0, none⟩)) ∧ W.cell? ⟨s + 1, 0, none⟩ = some (.int .i64 a)) 7 (by kernel_rfl) ⟨h1.cs, h1.jr.c0, h1.ca⟩ (fun hS => ?_)
    have h2 := h1.below (Below.refl _ _).drew
    refine wpAnyP_load (v := ?_) 0 (by kernel_rfl) (at_toArray rfl) (by kernel_rfl) (by kernel_rfl) (by kernel_rfl) (fun _ _ _ h => h) (by first | assumption | rfl) (Or.inl ⟨by rfl, fun W hS => ?_⟩) ?_
    rotate_left 1
    · (obtain ⟨_, _, _⟩ := hS; go_simp <;> (try go_bits) <;> with_reducible rfl)
    simp only [Act.put, List.setIfInBounds_toArray, List.set_cons_zero, List.set_cons_succ]
    refine wpAnyP_pure (v := ?_) 1 (at_toArray rfl) (by kernel_rfl) (by kernel_rfl) (by kernel_rfl) (fun _ _ _ h => h) (Or.inl ⟨by rfl, fun W => ?_⟩) ?_
    rotate_left 1
    · (go_simp <;> (try go_bits) <;> with_reducible rfl)
    simp only [Act.put, List.setIfInBounds_toArray, List.set_cons_zero, List.set_cons_succ]
    refine wpAnyP_pure (v := ?_) 2 (at_toArray rfl) (by kernel_rfl) (by kernel_rfl) (by kernel_rfl) (fun _ _ _ h => h) (Or.inl ⟨by rfl, fun W => ?_⟩) ?_
    rotate_left 1
    · (go_simp <;> (try go_bits) <;> with_reducible rfl)
    simp only [Act.put, List.setIfInBounds_toArray, List.set_cons_zero, List.set_cons_succ]
    refine wpAnyP_load (v := ?_) 3 (by kernel_rfl) (at_toArray rfl) (by kernel_rfl) (by kernel_rfl) (by kernel_rfl) (fun _ _ _ h => h) (by first | assumption | rfl) (Or.inl ⟨by rfl, fun W hS => ?_⟩) ?_
    rotate_left 1
    · (obtain ⟨_, _, _⟩ := hS; go_simp <;> (try go_bits) <;> with_reducible rfl)
    simp only [Act.put, List.setIfInBounds_toArray, List.set_cons_zero, List.set_cons_succ]
    refine wpAnyP_load (v := ?_) 4 (by kernel_rfl) (at_toArray rfl) (by kernel_rfl) (by kernel_rfl) (by kernel_rfl) (fun _ _ _ h => h) (by first | assumption | rfl) (Or.inl ⟨by rfl, fun W hS => ?_⟩) ?_
    rotate_left 1
    · (obtain ⟨_, _, _⟩ := hS; go_simp <;> (try go_bits) <;> with_reducible rfl)
    simp only [Act.put, List.setIfInBounds_toArray, List.set_cons_zero, List.set_cons_succ]
    refine wpAnyP_pure (v := ?_) 5 (at_toArray rfl) (by kernel_rfl) (by kernel_rfl) (by kernel_rfl) (fun _ _ _ h => h) (Or.inl ⟨by rfl, fun W => ?_⟩) ?_
    rotate_left 1
    · (go_simp <;> (try go_bits) <;> with_reducible rfl)
    simp only [Act.put, List.setIfInBounds_toArray, List.set_cons_zero, List.set_cons_succ]
    refine wpAnyP_one 6 (at_toArray rfl) (by kernel_rfl) rfl (fun K hK => ?_)
    go_wp2_with fail
    rw [HN.out]
    refine (append_any tb a A c f T F _ h2.jr.tape (HF1.out.below (Below.refl _ _).drew) (fun x hx h0 => (HA.out x hx h0).1)).mono ?_
    rw [← HN.out]
    rintro e w3 ⟨rfl, F', ht, hu⟩
    obtain ⟨h3, u3⟩ := h2.upd ht hu
    have U3 := Lib.hid (U1.out.trans (Upd.trans (Upd.of_below (Below.refl _ _).drew) u3))
    have c3 := h3.be.cell 0
    have f3 := h3.be.free 0
    have H3 := Lib.hid h3
    clear ht hu u3 h1 h2
    go_wp2_with fail
    refine hK.out _ _ (fun _ _ => ⟨H3.out.cs, H3.out.jr.c0, H3.out.ca⟩) ?_
    clear hK
    refine wpAnyP_one 7 (at_toArray rfl) (by kernel_rfl) rfl (fun K hK => ?_)
    go_wp2_with fail
    refine hK.out _ _ (fun h => absurd h (by decide)) ?_
    clear hK
    refine wpAnyP_done (by kernel_rfl) ?_ _
    go_wp2_with fail
    go_end0
    obtain ⟨h4, u4⟩ := H3.out.setE (T.append a f).1
    exact ⟨rfl, F', h4, U3.out.trans u4⟩
  · have hr := HR.out
    rw [if_neg h0] at hr
    subst hr
    have h0' : (e0 == 0) = false := by simp [h0]
    go_wp2_with fail
    go_end0
    exact ⟨rfl, F, H.out, Upd.refl _ _⟩

end Go.Proofs.YtdhafdejionefaaGreat

/- The walk of the journal's lay. -/
namespace Go.Proofs.YtdhafdejionefaaGreat
set_option linter.unusedVariables false
set_option linter.unusedSimpArgs false
open Go.RowKit

/-- A slice that reads as records; none of its bytes lies in a block of X. -/
def RLs (w : World) (X : Nat → Prop) (A : Option Addr) (ls : List (List UInt8)) : Prop :=
  ∀ (j : Nat) (l : List UInt8), ls[j]? = some l → ∃ b off c, A = some ⟨b, off, none⟩ ∧ b < w.heap.size ∧ ¬ X b ∧ w.cell? ⟨b, off + j, none⟩ = some c ∧ CB 0 X w c l
theorem RLs.upd {w w' : World} {X X' : Nat → Prop} {A : Option Addr} {ls : List (List UInt8)} (h : RLs w X A ls) (u : Upd w w' X X') : RLs w' X' A ls := by
  intro j l hj
  obtain ⟨b, off, c, hA, hb, hX, hc, A1, n, e1, e2, e3, e4⟩ := h j l hj
  have hn : ∀ k, k < w.heap.size → ¬ X k → ¬ X' k := fun k hk hx hx' => (u.new k hx').elim hx (fun h => by omega)
  refine ⟨b, off, c, hA, Nat.lt_of_lt_of_le hb u.fr.size, hn b hb hX, ?_, A1, n, e1, e2, e3.fr2 u.fr (fun a ha h0 => (e4 a ha h0).2), fun a ha h0 => ⟨Nat.zero_le _, hn _ (rb_lt e3 a ha h0) (e4 a ha h0).2⟩⟩
  have : w'.cell? ⟨b, off + j, none⟩ = w.cell? ⟨b, off + j, none⟩ := by
    unfold World.cell?
    rw [u.fr.block b hb hX]
  rw [this]; exact hc
theorem RLs.mono {w : World} {X Y : Nat → Prop} {A : Option Addr} {ls : List (List UInt8)} (h : RLs w X A ls) (hY : ∀ k, k < w.heap.size → Y k → X k) : RLs w Y A ls := by
  intro j l hj
  obtain ⟨b, off, c, hA, hb, hX, hc, hcb⟩ := h j l hj
  exact ⟨b, off, c, hA, hb, fun hy => hX (hY b hb hy), hc, hcb.mono (Nat.le_refl _) hY⟩
theorem layPut_n {a : Int} {f : List UInt8} {s : Int × Int × TS} {m : Int} (h0 : 0 ≤ s.1) (h1 : s.1 ≤ m) (hm : m ≤ 4000000000000000000) (hf : f.length ≤ 1000000000) :
    0 ≤ (layPut a f s).1 ∧ (layPut a f s).1 ≤ m + 1000000000 := by
  unfold layPut
  split
  · simp only; rw [IntWalk.wrap64_in _ (by omega)]; omega
  · omega
theorem layFold_snoc (a : Int) (ls : List (List UInt8)) (l : List UInt8) (s : Int × Int × TS) : layFold a (ls ++ [l]) s = layPut a (frameB 68 l) (layFold a ls s) := by simp [layFold]
theorem take_snoc {α : Type} (ls : List α) (k : Nat) (l : α) (h : ls[k]? = some l) : ls.take (k + 1) = ls.take k ++ [l] := by
  rw [List.take_add_one, h]; rfl
theorem frameB_small (k : UInt8) (xs : List UInt8) (h : xs.length ≤ 4194304) : (frameB k xs).length ≤ 1000000000 := by
  have := nbytes_small (n := xs.length) (by omega)
  rw [frameB_len]; omega
variable {w : World} {jb tb : Nat} {J : JS} {T : TS} {F : Nat → Prop}
set_option maxRecDepth 100000 in
set_option maxHeartbeats 8000000 in
theorem lay_any (a : Int) (A : Option Addr) (c : Nat) (ls : List (List UInt8)) (h : JR w jb tb J T F) (hr : RLs w F A ls) (hl : ls.length ≤ 2000000000) (hs : ∀ l ∈ ls, l.length ≤ 4194304) (ht : 0 ≤ J.turn ∧ J.turn < 1099511627776) :
    Calls Tryz.prog 62 #[.pointer (some ⟨jb, 0, none⟩), .int .i64 a, .slice A ls.length c] w fun e w' => e = .returned (.tuple #[.int .i64 (layN T a J.turn ls).1, .int .i64 (layN T a J.turn ls).2.1]) ∧
      ∃ F', JR w' jb tb J (layN T a J.turn ls).2.2 F' ∧ Upd w w' F F' := by
  obtain ⟨r, hrr⟩ : ∃ r, r = layN T a J.turn ls := ⟨_, rfl⟩
  rw [← hrr]
  unfold layN at hrr
  obtain ⟨N, hN⟩ : ∃ N, N = ls.length := ⟨_, rfl⟩
  rw [← hN] at hl ⊢
  have HN := Lib.hid hN
  have HR := Lib.hid hrr
  have HL := Lib.hid hr
  have HS := Lib.hid hs
  have HT := Lib.hid ht
  have H := Lib.hid h
  clear hrr hr hs ht h hN
  go_enter Tryz.func62, Tryz.ntmps62
  go_wp2_with fail
  obtain ⟨w1, hw1⟩ : ∃ w1, w1 = (((w.alloc (.cells #[.pointer (some ⟨jb, 0, none⟩)] 31)).alloc (.cells #[.int .i64 a] 3)).alloc (.cells #[.int .i64 0] 3)).alloc (.cells #[.int .i64 0] 51) := ⟨_, rfl⟩
  rw [← hw1]
  have hb1 : Below w.heap.size w w1 := by
    rw [hw1]; exact ((((Below.refl _ w).alloc (Nat.le_refl _) _).alloc (by simp) _).alloc (by simp; omega) _).alloc (by simp; omega) _
  have hL1 : LayR w1 w.heap.size jb tb J a (0, 0, T) F := by
    refine ⟨H.out.below hb1, ?_, ?_, ?_, ?_, fun i h1 h2 => ⟨fun hf => ?_, fun e => ?_⟩⟩
    · rw [hw1]; exact (((Blk.new w _ _).alloc _).alloc _).alloc _
    · rw [hw1]
      have := Blk.new (w.alloc (.cells #[.pointer (some ⟨jb, 0, none⟩)] 31)) #[.int .i64 a] 3
      rw [World.size_alloc] at this
      exact (this.alloc _).alloc _
    · rw [hw1]
      have := Blk.new ((w.alloc (.cells #[.pointer (some ⟨jb, 0, none⟩)] 31)).alloc (.cells #[.int .i64 a] 3)) #[.int .i64 0] 3
      rw [World.size_alloc, World.size_alloc] at this
      exact this.alloc _
    · rw [hw1]
      have := Blk.new (((w.alloc (.cells #[.pointer (some ⟨jb, 0, none⟩)] 31)).alloc (.cells #[.int .i64 a] 3)).alloc (.cells #[.int .i64 0] 3)) #[.int .i64 0] 51
      rw [World.size_alloc, World.size_alloc, World.size_alloc] at this
      exact this
    · obtain ⟨_, _, _, t⟩ := H.out.tape
      have := t.flt _ hf
      omega
    · have := H.out.blk.lt; omega
  have u1 : Upd w w1 F (FS F w.heap.size) := ⟨Fr.of_below hb1, fun k hk => by
    rcases hk with hk | hk
    · exact .inl hk
    · exact .inr (by omega)⟩
  have U1 := Lib.hid u1
  clear hw1 u1 hb1
  simp only [Nat.add_assoc, Nat.reduceAdd]
  refine wp_region_phased (fun W => W.cell? ⟨w.heap.size, 0, none⟩ = some (.pointer (some ⟨jb, 0, none⟩)) ∧ W.cell? ⟨jb, 0, none⟩ = some (.pointer (some ⟨tb, 0, none⟩)) ∧ W.cell? ⟨w.heap.size + 1, 0, none⟩ = some (.int .i64 a)) 6 (by kernel_rfl) ⟨hL1.cs, hL1.jr.c0, hL1.ca⟩ (fun hS => ?_)
  have h2 := hL1.below (Below.refl _ _).drew
  refine wpAnyP_load (v := ?_) 0 (by kernel_rfl) (at_toArray rfl) (by kernel_rfl) (by kernel_rfl) (by kernel_rfl) (fun _ _ _ h => h) (by first | assumption | rfl) (Or.inl ⟨by rfl, fun W hS => ?_⟩) ?_
  rotate_left 1
  · (obtain ⟨_, _, _⟩ := hS; go_simp <;> (try go_bits) <;> with_reducible rfl)
  simp only [Act.put, List.setIfInBounds_toArray, List.set_cons_zero, List.set_cons_succ]
  refine wpAnyP_pure (v := ?_) 1 (at_toArray rfl) (by kernel_rfl) (by kernel_rfl) (by kernel_rfl) (fun _ _ _ h => h) (Or.inl ⟨by rfl, fun W => ?_⟩) ?_
  rotate_left 1
  · (go_simp <;> (try go_bits) <;> with_reducible rfl)
  simp only [Act.put, List.setIfInBounds_toArray, List.set_cons_zero, List.set_cons_succ]
  refine wpAnyP_pure (v := ?_) 2 (at_toArray rfl) (by kernel_rfl) (by kernel_rfl) (by kernel_rfl) (fun _ _ _ h => h) (Or.inl ⟨by rfl, fun W => ?_⟩) ?_
  rotate_left 1
  · (go_simp <;> (try go_bits) <;> with_reducible rfl)
  simp only [Act.put, List.setIfInBounds_toArray, List.set_cons_zero, List.set_cons_succ]
  refine wpAnyP_load (v := ?_) 3 (by kernel_rfl) (at_toArray rfl) (by kernel_rfl) (by kernel_rfl) (by kernel_rfl) (fun _ _ _ h => h) (by first | assumption | rfl) (Or.inl ⟨by rfl, fun W hS => ?_⟩) ?_
  rotate_left 1
  · (obtain ⟨_, _, _⟩ := hS; go_simp <;> (try go_bits) <;> with_reducible rfl)
  simp only [Act.put, List.setIfInBounds_toArray, List.set_cons_zero, List.set_cons_succ]
  refine wpAnyP_load (v := ?_) 4 (by kernel_rfl) (at_toArray rfl) (by kernel_rfl) (by kernel_rfl) (by kernel_rfl) (fun _ _ _ h => h) (by first | assumption | rfl) (Or.inl ⟨by rfl, fun W hS => ?_⟩) ?_
  rotate_left 1
  · (obtain ⟨_, _, _⟩ := hS; go_simp <;> (try go_bits) <;> with_reducible rfl)
  simp only [Act.put, List.setIfInBounds_toArray, List.set_cons_zero, List.set_cons_succ]
  refine wpAnyP_one 5 (at_toArray rfl) (by kernel_rfl) rfl (fun K hK => ?_)
  go_wp2_with fail
  refine (clear_any tb a T F _ h2.jr.tape).mono ?_
  obtain ⟨⟨p, T0⟩, hp⟩ : ∃ p, p = T.clear a := ⟨_, rfl⟩
  have hr := HR.out
  rw [← hp] at hr ⊢
  rintro e w3 ⟨rfl, F3, ht, hu⟩
  obtain ⟨h3, u3⟩ := h2.upd ht hu
  have U3 := Lib.hid (U1.out.trans (Upd.trans (Upd.of_below (Below.refl _ _).drew) u3))
  have c3 := h3.be.cell 0
  have f3 := h3.be.free 0
  have H3 := Lib.hid h3
  clear ht hu u3 hL1 h2 HR hp h3
  have HR := Lib.hid hr
  clear hr
  go_wp2_with fail
  refine hK.out _ _ (fun _ _ => ⟨H3.out.cs, H3.out.jr.c0, H3.out.ca⟩) ?_
  clear hK
  refine wpAnyP_one 6 (at_toArray rfl) (by kernel_rfl) rfl (fun K hK => ?_)
  go_wp2_with fail
  refine hK.out _ _ (fun h => absurd h (by decide)) ?_
  clear hK
  refine wpAnyP_done (by kernel_rfl) ?_ _
  obtain ⟨h4, u4⟩ := H3.out.setE p
  obtain ⟨w4, hw4⟩ : ∃ w4, w4 = w3.setCell ⟨w.heap.size + 3, 0, none⟩ (.int .i64 p) := ⟨_, rfl⟩
  rw [← hw4] at h4 u4 ⊢
  have U4 := Lib.hid (U3.out.trans u4)
  have H4 := Lib.hid h4
  have c4 := h4.ce
  simp only at c4
  clear hw4 h4 u4 c3 f3 hS
  by_cases hp0 : p = 0
  · subst hp0
    have hr := HR.out
    rw [if_neg (by simp)] at hr
    have HR := Lib.hid hr
    clear hr
    go_wp2_with fail
    go_loopw [23] (fun i wr => ∃ (k : Nat) (F' : Nat → Prop) (q : Int × Int × TS), k ≤ N ∧ i = .int .i64 (k : Int) ∧ Hid (q = layFold a (ls.take k) (0, 0, T0)) ∧ (0 ≤ q.1 ∧ q.1 ≤ (k : Int) * 1000000000) ∧ Hid (LayR wr w.heap.size jb tb J a q F') ∧ Hid (Upd w wr F (FS F' w.heap.size))) (fun i _ => N - (intOf i).toNat)
    case atStart => exact ⟨0, F3, (0, 0, T0), Nat.zero_le _, rfl, Lib.hid rfl, by simp, H4, U4⟩
    case round =>
      clear H4 U4 H3 U3 U1 c4
      obtain ⟨k, F', q, hk, rfl, HQ, hqb, HW, HU⟩ := hrel
      by_cases hlt : k < N
      · obtain ⟨l, hl'⟩ : ∃ l, ls[k]? = some l := ⟨_, List.getElem?_eq_getElem (by rw [← HN.out]; exact hlt)⟩
        have hrl := HL.out.upd HU.out
        obtain ⟨b, off, cc, hA, hbl, hX, hcell, A1, n1, rfl, hn1, hrb, hX1⟩ := hrl k l hl'
        subst hA
        have hls := HS.out l (List.mem_of_getElem? hl')
        obtain ⟨m, hm⟩ : ∃ m, m = l.length := ⟨_, rfl⟩
        rw [← hm] at hcell hn1
        have HM := Lib.hid hm
        have HRB := Lib.hid hrb
        have HL' := Lib.hid hl'
        clear hm hrb hl' hX1 hrl
        go_wp2_with fail
        refine (frame_n wr.heap.size 68 A1 n1 m l wr HM.out.symm (Nat.le_refl _) HRB.out (by omega)).mono ?_
        rintro e w5 ⟨A2, c2, rfl, hf2, hA2, hb2⟩
        have hw5 := HW.out.below hb2
        have hfs := frameB_small 68 l hls
        obtain ⟨fl, hfl⟩ : ∃ fl, fl = (frameB 68 l).length := ⟨_, rfl⟩
        have hcall := lay1_any A2 c2 (frameB 68 l) hw5 hf2 (fun x hx h0 => by
          have e1 := hA2 x hx
          obtain ⟨_, _, _, t⟩ := HW.out.jr.tape
          have e3 := HW.out.be.lt
          exact ⟨fun hF => by have := t.flt _ hF; omega, by omega⟩) (by omega) hfs
        rw [← hfl] at hcall ⊢
        have HC := Lib.hid hcall
        have HU5 := Lib.hid (HU.out.trans (Upd.of_below hb2))
        have hqn := layPut_n (a := a) (f := frameB 68 l) hqb.1 hqb.2 (by omega) hfs
        clear hcall hfl hw5 hf2 hA2 hb2 hcell
        go_wp2_with fail
        refine HC.out.mono ?_
        rintro e w6 ⟨rfl, F6, h6, u6⟩
        have H6 := Lib.hid h6
        have U6 := Lib.hid (HU5.out.trans u6)
        clear h6 u6 HC HU5
        go_wp2_with fail
        go_roundw
        case rel =>
          refine ⟨k + 1, F6, layPut a (frameB 68 l) q, hlt, by go_num, Lib.hid ?_, ⟨hqn.1, by have := hqn.2; omega⟩, H6, U6⟩
          rw [take_snoc ls k l HL'.out, layFold_snoc, ← HQ.out]
        case measure => simp [intOf]; omega
      · have hkN : k = N := by omega
        subst hkN
        have hq := HQ.out
        rw [HN.out, List.take_length] at hq
        have hr := HR.out
        rw [← hq] at hr
        clear HR HQ
        have HR := Lib.hid hr
        clear hr hq
        obtain ⟨tn, htn⟩ : ∃ tn : Nat, J.turn = (tn : Int) := ⟨J.turn.toNat, by have := HT.out.1; omega⟩
        have htb : tn < 1099511627776 := by have := HT.out.2; omega
        have cs := HW.out.cs
        have ct := HW.out.jr.c2
        rw [htn] at ct
        have HTN := Lib.hid htn
        clear htn
        go_wp2_with fail
        rw [show (tn : Int) + 1 = ((tn + 1 : Nat) : Int) by omega]
        refine (put_any wr.heap.size none 0 [] (tn + 1) wr (Nat.le_refl _) ⟨OB.nil _, fun j hj => by simp [Value.ownBlock] at hj⟩ rfl (by omega) (by omega)).mono ?_
        rintro e w5 ⟨v5, rfl, ho5, hb5⟩
        rw [List.nil_append] at ho5
        have hpl : (putN (tn + 1)).length ≤ 9 := by
          have := nbytes_small (n := tn + 1) (by omega)
          rw [putN_len]; omega
        obtain ⟨A5, c5, rfl, hr5, _, hA5⟩ := ho5.1.reads' (by omega)
        have hs5 := hb5.size
        obtain ⟨pl, hpl'⟩ : ∃ pl, pl = (putN (tn + 1)).length := ⟨_, rfl⟩
        rw [← hpl'] at hpl ⊢
        have HPL := Lib.hid hpl'
        have HB5 := Lib.hid hb5
        clear hpl' hA5 ho5 hb5
        go_wp2_with fail
        refine (frame_n w5.heap.size 71 A5 c5 pl (putN (tn + 1)) w5 HPL.out.symm (Nat.le_refl _) hr5 (by rw [← HPL.out]; omega)).mono ?_
        rintro e w6 ⟨A6, c6, rfl, hf6, hA6, hb6⟩
        have hw6 := (HW.out.below HB5.out).below hb6
        have hfs := frameB_small 71 (putN (tn + 1)) (by rw [← HPL.out]; omega)
        obtain ⟨fl, hfl⟩ : ∃ fl, fl = (frameB 71 (putN (tn + 1))).length := ⟨_, rfl⟩
        have hcall := lay1_any A6 c6 (frameB 71 (putN (tn + 1))) hw6 hf6 (fun x hx h0 => by
          have e1 := hA6 x hx
          obtain ⟨_, _, _, t⟩ := HW.out.jr.tape
          have e3 := HW.out.be.lt
          exact ⟨fun hF => by have := t.flt _ hF; omega, by omega⟩) (by omega) hfs
        rw [← hfl] at hcall ⊢
        have HC := Lib.hid hcall
        have HU6 := Lib.hid ((HU.out.trans (Upd.of_below HB5.out)).trans (Upd.of_below hb6))
        have hend : layPut a (frameB 71 (putN (tn + 1))) q = layEnd a J.turn q := by
          unfold layEnd
          rw [HTN.out]
          rfl
        rw [hend] at hcall HC
        obtain ⟨qe, hqe⟩ : ∃ qe, qe = layEnd a J.turn q := ⟨_, rfl⟩
        have hr := HR.out
        rw [← hqe] at hr HC
        have HR := Lib.hid hr
        clear hcall hfl hw6 hf6 hA6 hb6 hr5 hs5 hr hend cs ct hqe
        go_wp2_with fail
        refine HC.out.mono ?_
        rintro e w7 ⟨rfl, F7, h7, u7⟩
        have H7 := Lib.hid h7
        have U7 := Lib.hid (HU6.out.trans u7)
        obtain ⟨n7, e7, T7⟩ := qe
        have c7 := h7.ce
        simp only at c7
        clear h7 u7 HC HU6
        by_cases he7 : e7 = 0
        · subst he7
          have hr := HR.out
          rw [if_pos rfl] at hr
          have HR := Lib.hid hr
          clear hr
          go_wp2_with fail
          refine wp_region_phased (fun W => W.cell? ⟨w.heap.size, 0, none⟩ = some (.pointer (some ⟨jb, 0, none⟩)) ∧ W.cell? ⟨jb, 0, none⟩ = some (.pointer (some ⟨tb, 0, none⟩)) ∧ W.cell? ⟨w.heap.size + 1, 0, none⟩ = some (.int .i64 a)) 6 (by kernel_rfl) ⟨H7.out.cs, H7.out.jr.c0, H7.out.ca⟩ (fun hS => ?_)
          have h8 := H7.out.below (Below.refl _ _).drew
          refine wpAnyP_load (v := ?_) 0 (by kernel_rfl) (at_toArray rfl) (by kernel_rfl) (by kernel_rfl) (by kernel_rfl) (fun _ _ _ h => h) (by first | assumption | rfl) (Or.inl ⟨by rfl, fun W hS => ?_⟩) ?_
          rotate_left 1
          · (obtain ⟨_, _, _⟩ := hS; go_simp <;> (try go_bits) <;> with_reducible rfl)
          simp only [Act.put, List.setIfInBounds_toArray, List.set_cons_zero, List.set_cons_succ]
          refine wpAnyP_pure (v := ?_) 1 (at_toArray rfl) (by kernel_rfl) (by kernel_rfl) (by kernel_rfl) (fun _ _ _ h => h) (Or.inl ⟨by rfl, fun W => ?_⟩) ?_
          rotate_left 1
          · (go_simp <;> (try go_bits) <;> with_reducible rfl)
          simp only [Act.put, List.setIfInBounds_toArray, List.set_cons_zero, List.set_cons_succ]
          refine wpAnyP_pure (v := ?_) 2 (at_toArray rfl) (by kernel_rfl) (by kernel_rfl) (by kernel_rfl) (fun _ _ _ h => h) (Or.inl ⟨by rfl, fun W => ?_⟩) ?_
          rotate_left 1
          · (go_simp <;> (try go_bits) <;> with_reducible rfl)
          simp only [Act.put, List.setIfInBounds_toArray, List.set_cons_zero, List.set_cons_succ]
          refine wpAnyP_load (v := ?_) 3 (by kernel_rfl) (at_toArray rfl) (by kernel_rfl) (by kernel_rfl) (by kernel_rfl) (fun _ _ _ h => h) (by first | assumption | rfl) (Or.inl ⟨by rfl, fun W hS => ?_⟩) ?_
          rotate_left 1
          · (obtain ⟨_, _, _⟩ := hS; go_simp <;> (try go_bits) <;> with_reducible rfl)
          simp only [Act.put, List.setIfInBounds_toArray, List.set_cons_zero, List.set_cons_succ]
          refine wpAnyP_load (v := ?_) 4 (by kernel_rfl) (at_toArray rfl) (by kernel_rfl) (by kernel_rfl) (by kernel_rfl) (fun _ _ _ h => h) (by first | assumption | rfl) (Or.inl ⟨by rfl, fun W hS => ?_⟩) ?_
          rotate_left 1
          · (obtain ⟨_, _, _⟩ := hS; go_simp <;> (try go_bits) <;> with_reducible rfl)
          simp only [Act.put, List.setIfInBounds_toArray, List.set_cons_zero, List.set_cons_succ]
          refine wpAnyP_one 5 (at_toArray rfl) (by kernel_rfl) rfl (fun K hK => ?_)
          go_wp2_with fail
          refine (sync_any tb a T7 F7 _ h8.jr.tape).mono ?_
          obtain ⟨⟨p8, T8⟩, hp8⟩ : ∃ p, p = T7.sync a := ⟨_, rfl⟩
          have hr := HR.out
          rw [← hp8] at hr ⊢
          rintro e w9 ⟨rfl, F9, ht, hu⟩
          obtain ⟨h9, u9⟩ := h8.upd ht hu
          have U9 := Lib.hid (U7.out.trans (Upd.trans (Upd.of_below (Below.refl _ _).drew) u9))
          have c9 := h9.be.cell 0
          have f9 := h9.be.free 0
          have H9 := Lib.hid h9
          subst hr
          clear ht hu u9 h8 HR hp8 h9
          go_wp2_with fail
          refine hK.out _ _ (fun _ _ => ⟨H9.out.cs, H9.out.jr.c0, H9.out.ca⟩) ?_
          clear hK
          refine wpAnyP_one 6 (at_toArray rfl) (by kernel_rfl) rfl (fun K hK => ?_)
          go_wp2_with fail
          refine hK.out _ _ (fun h => absurd h (by decide)) ?_
          clear hK
          refine wpAnyP_done (by kernel_rfl) ?_ _
          obtain ⟨h10, u10⟩ := H9.out.setE p8
          obtain ⟨w10, hw10⟩ : ∃ w10, w10 = w9.setCell ⟨w.heap.size + 3, 0, none⟩ (.int .i64 p8) := ⟨_, rfl⟩
          rw [← hw10] at h10 u10 ⊢
          have U10 := Lib.hid (U9.out.trans u10)
          have H10 := Lib.hid h10
          have ce := h10.ce
          have cn := h10.cn
          have fn := h10.bn.free 0
          have fe := h10.be.free 0
          clear hw10 h10 u10 c9 f9 hS
          go_wp2_with fail
          go_region
          all_goals go_wp2_with fail
          obtain ⟨h11, u11⟩ := H10.out.setN n7
          obtain ⟨h12, u12⟩ := h11.setE p8
          have h13 := h12.below (Below.refl _ _).drew
          have U13 := (U10.out.trans (u11.trans u12)).trans (Upd.of_below (Below.refl _ _).drew)
          have k2 := h13.cn
          have k3 := h13.ce
          refine bodyPost_ret (v := .tuple #[.int .i64 n7, .int .i64 p8]) (by simp [results, Tryz.f62, go_sem, k2, k3]) rfl ⟨rfl, F9, h13.jr, U13.fr, fun k hk => U13.new k (.inl hk)⟩
        · have hr := HR.out
          rw [if_neg he7] at hr
          subst hr
          have he7' : (e7 == 0) = false := by simp [he7]
          have cn := H7.out.cn
          have fn := H7.out.bn.free 0
          have fe := H7.out.be.free 0
          clear HR
          go_wp2_with fail
          go_region
          all_goals go_wp2_with fail
          obtain ⟨h11, u11⟩ := H7.out.setN n7
          obtain ⟨h12, u12⟩ := h11.setE e7
          have h13 := h12.below (Below.refl _ _).drew
          have U13 := (U7.out.trans (u11.trans u12)).trans (Upd.of_below (Below.refl _ _).drew)
          have k2 := h13.cn
          have k3 := h13.ce
          refine bodyPost_ret (v := .tuple #[.int .i64 n7, .int .i64 e7]) (by simp [results, Tryz.f62, go_sem, k2, k3]) rfl ⟨rfl, F7, h13.jr, U13.fr, fun k hk => U13.new k (.inl hk)⟩
  · have hr := HR.out
    rw [if_pos hp0] at hr
    subst hr
    have hp0' : (p == 0) = false := by simp [hp0]
    have cn := H4.out.cn
    have fn := H4.out.bn.free 0
    have fe := H4.out.be.free 0
    simp only at cn
    clear HR
    go_wp2_with fail
    go_region
    all_goals go_wp2_with fail
    obtain ⟨h5, u5⟩ := H4.out.setN 0
    obtain ⟨h6, u6⟩ := h5.setE p
    have h7 := h6.below (Below.refl _ _).drew
    have U7 := (U4.out.trans (u5.trans u6)).trans (Upd.of_below (Below.refl _ _).drew)
    have k2 := h7.cn
    have k3 := h7.ce
    simp only at k2 k3
    refine bodyPost_ret (v := .tuple #[.int .i64 0, .int .i64 p]) (by simp [results, Tryz.f62, go_sem, k2, k3]) rfl ⟨rfl, F3, h7.jr, U7.fr, fun k hk => U7.new k (.inl hk)⟩

end Go.Proofs.YtdhafdejionefaaGreat

/- The walk of the journal's Lay. -/
namespace Go.Proofs.YtdhafdejionefaaGreat
set_option linter.unusedVariables false
set_option linter.unusedSimpArgs false
open Go.RowKit

def long (ls : List (List UInt8)) : Bool := ls.any fun l => decide (4194304 < l.length)
def JS.lay (J : JS) (T : TS) (ls : List (List UInt8)) : Int × TS × JS :=
  if J.fault T ≠ 0 then (J.fault T, T, J)
  else if long ls = true then (3, T, J)
  else if 1099511627776 ≤ J.turn then (2, T, J)
  else if (layN T (1 - J.area) J.turn ls).2.1 = 0 then (0, (layN T (1 - J.area) J.turn ls).2.2, { J with area := 1 - J.area, turn := J.turn + 1, bytes := (layN T (1 - J.area) J.turn ls).1 })
  else if (layN T (1 - J.area) J.turn ls).2.1 = 151 then
    (if ((layN T (1 - J.area) J.turn ls).2.2.clear (1 - J.area)).1 ≠ 0 then ((layN T (1 - J.area) J.turn ls).2.2.clear (1 - J.area)).1 else 151, ((layN T (1 - J.area) J.turn ls).2.2.clear (1 - J.area)).2, J)
  else ((layN T (1 - J.area) J.turn ls).2.1, (layN T (1 - J.area) J.turn ls).2.2, J)
structure JS.ok (J : JS) : Prop where
  area : J.area = 0 ∨ J.area = 1
  turn : 0 ≤ J.turn ∧ J.turn ≤ 1099511627776
theorem upd_FJ {w w' : World} {F F' : Nat → Prop} {jb : Nat} (hu : Upd w w' F F') : Upd w w' (FJ F jb) (FJ F' jb) :=
  ⟨hu.fr.mono fun i hi => .inl (.inl hi), fun k hk => hk.elim (fun h => (hu.new k h).elim (fun h => .inl (.inl h)) .inr) (fun h => .inl (.inr h))⟩
variable {w : World} {jb tb : Nat} {J : JS} {T : TS} {F : Nat → Prop}
set_option maxRecDepth 100000 in
set_option maxHeartbeats 8000000 in
theorem jlay_any (A : Option Addr) (c : Nat) (ls : List (List UInt8)) (h : JR w jb tb J T F) (hr : RLs w (FJ F jb) A ls) (hl : ls.length ≤ 2000000000) (hJ : J.ok) :
    Calls Tryz.prog 35 #[.pointer (some ⟨jb, 0, none⟩), .slice A ls.length c] w (DoesJ w jb tb F (J.lay T ls)) := by
  obtain ⟨r, hrr⟩ : ∃ r, r = J.lay T ls := ⟨_, rfl⟩
  rw [← hrr]
  unfold JS.lay at hrr
  obtain ⟨N, hN⟩ : ∃ N, N = ls.length := ⟨_, rfl⟩
  rw [← hN] at hl ⊢
  have HN := Lib.hid hN
  have HR := Lib.hid hrr
  have HL := Lib.hid hr
  have HJ := Lib.hid hJ
  clear hrr hr hJ hN
  go_enter Tryz.func35, Tryz.ntmps35
  go_wp2_with fail
  refine (jfault_any h).mono ?_
  rintro e w1 ⟨rfl, hb⟩
  have h1 := h.below hb
  have HB := Lib.hid hb
  have HL := Lib.hid (HL.out.upd (Upd.of_below hb))
  obtain ⟨v, hv⟩ : ∃ v, v = J.fault T := ⟨_, rfl⟩
  have hr := HR.out
  rw [← hv] at hr ⊢
  clear hv hb h HR
  by_cases h0 : v = 0
  · subst h0
    rw [if_neg (by simp)] at hr
    have HR := Lib.hid hr
    clear hr
    go_wp2_with fail
    go_loopw [19] (fun i wr => ∃ k : Nat, k ≤ N ∧ i = .int .i64 (k : Int) ∧ Hid (long (ls.take k) = false) ∧ Hid (w1 = wr)) (fun i _ => N - (intOf i).toNat)
    case atStart => exact ⟨0, Nat.zero_le _, rfl, Lib.hid (by simp [long]), Lib.hid rfl⟩
    case round =>
      obtain ⟨k, hk, rfl, HQ, HW⟩ := hrel
      have hw := HW.out
      subst hw
      clear HW
      by_cases hlt : k < N
      · obtain ⟨l, hl'⟩ : ∃ l, ls[k]? = some l := ⟨_, List.getElem?_eq_getElem (by rw [← HN.out]; exact hlt)⟩
        obtain ⟨b, off, cc, hA, hbl, hX, hcell, A1, n1, rfl, hn1, hrb, hX1⟩ := HL.out k l hl'
        subst hA
        obtain ⟨m, hm⟩ : ∃ m, m = l.length := ⟨_, rfl⟩
        rw [← hm] at hcell hn1
        have HM := Lib.hid hm
        have HL' := Lib.hid hl'
        clear hm hl' hX1 hrb
        by_cases hlong : 4194304 < m
        · have hlg : long ls = true := by
            unfold long
            rw [List.any_eq_true]
            exact ⟨l, List.mem_of_getElem? HL'.out, by rw [← HM.out]; simp; exact hlong⟩
          have hr := HR.out
          rw [if_pos hlg] at hr
          subst hr
          go_wp2_with fail
          go_ret
          exact ⟨rfl, F, h1, Upd.of_below HB.out⟩
        · go_wp2_with fail
          go_roundw
          case rel =>
            refine ⟨k + 1, hlt, by go_num, Lib.hid ?_, Lib.hid (by trivial)⟩
            rw [take_snoc ls k l HL'.out]
            have := HQ.out
            unfold long at this ⊢
            rw [List.any_append, this]
            simp
            have := HM.out
            omega
          case measure => simp [intOf]; omega
      · have hkN : k = N := by omega
        subst hkN
        have hlg := HQ.out
        rw [HN.out, List.take_length] at hlg
        have hr := HR.out
        rw [if_neg (by rw [hlg]; simp)] at hr
        have hs : ∀ l ∈ ls, l.length ≤ 4194304 := fun l hl' => by
          unfold long at hlg
          have := List.any_eq_false.1 hlg l hl'
          simp at this
          omega
        have HS := Lib.hid hs
        clear HR HQ hlg hs
        have c2 := h1.c2
        have c1 := h1.c1
        have c0 := h1.c0
        obtain ⟨hja, hjt⟩ := HJ.out
        obtain ⟨jt, hjt'⟩ : ∃ jt, jt = J.turn := ⟨_, rfl⟩
        obtain ⟨ja, hja'⟩ : ∃ ja, ja = J.area := ⟨_, rfl⟩
        rw [← hjt'] at hjt
        rw [← hja'] at hja
        rw [← hja', ← hjt'] at hr
        rw [← hjt'] at c2
        rw [← hja'] at c1
        obtain ⟨hjt0, hjt1⟩ := hjt
        by_cases hmax : 1099511627776 ≤ jt
        · rw [if_pos hmax] at hr
          subst hr
          go_wp2_with fail
          go_ret
          exact ⟨rfl, F, h1, Upd.of_below HB.out⟩
        · rw [if_neg hmax] at hr
          have hmax' : jt < 1099511627776 := by omega
          have HR := Lib.hid hr
          have HJT := Lib.hid hjt'
          have HJA := Lib.hid hja'
          have hja0 : 0 ≤ ja ∧ ja ≤ 1 := by omega
          have hja01 := hja0.1
          have hja02 := hja0.2
          clear hr hjt' hja' hja0
          go_wp2_with fail
          have hcall := lay_any (1 - ja) A c ls h1 (HL.out.mono fun k _ h => .inl h) (by rw [← HN.out]; exact hl) HS.out ⟨by rw [← HJT.out]; omega, by rw [← HJT.out]; omega⟩
          rw [← HN.out, ← HJT.out] at hcall
          obtain ⟨⟨n9, e9, T9⟩, hq⟩ : ∃ q, q = layN T (1 - ja) jt ls := ⟨_, rfl⟩
          have hr := HR.out
          rw [← hq] at hr hcall
          have HR := Lib.hid hr
          clear hr hq
          refine hcall.mono ?_
          clear hcall
          rintro e w2 ⟨rfl, F2, h2, u2⟩
          have H2 := Lib.hid h2
          have U2 := Lib.hid ((Upd.of_below HB.out).trans (upd_FJ (jb := jb) u2))
          have d0 := h2.c0
          have d1 := h2.c1
          have d2 := h2.c2
          rw [← HJT.out] at d2
          have d3 := h2.c3
          have e1 := h2.blk.free 1
          have e2 := h2.blk.free 2
          have e3 := h2.blk.free 3
          clear u2 h2 c0 c1 c2 h1
          by_cases he0 : e9 = 0
          · subst he0
            have hr := HR.out
            rw [if_pos rfl] at hr
            subst hr
            go_wp2_with fail
            go_ret
            obtain ⟨k1, v1⟩ := H2.out.set (J' := { J with area := 1 - ja }) 1 (.int .i64 (1 - ja)) rfl
            obtain ⟨k2, v2⟩ := k1.set (J' := { J with area := 1 - ja, bytes := n9 }) 3 (.int .i64 n9) rfl
            obtain ⟨k3, v3⟩ := k2.set (J' := { J with area := 1 - ja, turn := jt + 1, bytes := n9 }) 2 (.int .i64 (jt + 1)) rfl
            exact ⟨rfl, F2, k3, ((U2.out.trans v1).trans v2).trans v3⟩
          · have hr := HR.out
            rw [if_neg he0] at hr
            have HR := Lib.hid hr
            clear hr
            have he0' : (e9 == 0) = false := by simp [he0]
            by_cases he1 : e9 = 151
            · subst he1
              have hr := HR.out
              rw [if_pos rfl] at hr
              have HR := Lib.hid hr
              clear hr
              go_wp2_with fail
              refine (clear_any tb (1 - ja) T9 F2 _ H2.out.tape).mono ?_
              obtain ⟨⟨p, T8⟩, hp⟩ : ∃ p, p = T9.clear (1 - ja) := ⟨_, rfl⟩
              have hr := HR.out
              rw [← hp] at hr ⊢
              rintro e w3 ⟨rfl, F3, ht, hu⟩
              obtain ⟨h3, u3⟩ := H2.out.upd ht hu
              have U3 := Lib.hid (U2.out.trans u3)
              have H3 := Lib.hid h3
              clear HR hp ht hu h3 u3
              by_cases hp0 : p = 0
              · subst hp0
                rw [if_neg (by simp)] at hr
                subst hr
                go_wp2_with fail
                go_ret
                exact ⟨rfl, F3, H3.out, U3.out⟩
              · simp only at hr
                rw [if_pos hp0] at hr
                subst hr
                have hp0' : (p == 0) = false := by simp [hp0]
                go_wp2_with fail
                go_ret
                exact ⟨rfl, F3, H3.out, U3.out⟩
            · have hr := HR.out
              rw [if_neg he1] at hr
              subst hr
              have he1' : (e9 == 151) = false := by simp [he1]
              go_wp2_with fail
              go_ret
              exact ⟨rfl, F2, H2.out, U2.out⟩
  · rw [if_pos h0] at hr
    subst hr
    have h0' : (v == 0) = false := by simp [h0]
    go_wp2_with fail
    go_ret
    exact ⟨rfl, F, h1, Upd.of_below HB.out⟩

end Go.Proofs.YtdhafdejionefaaGreat

/- The walk of the journal's Open. -/
namespace Go.Proofs.YtdhafdejionefaaGreat
set_option linter.unusedVariables false
set_option linter.unusedSimpArgs false
open Go.RowKit

/-- What an area holds: its turn, its records. -/
def turnA (T : TS) (a : Int) : Int := turnOf (framesP (T.read a))
def recsA (T : TS) (a : Int) : List (List UInt8) := recsOf (framesP (T.read a))
/-- What Open finds: the journal that it lays anew, the records. -/
def foundStep (T : TS) (a : Int) (s : JS × List (List UInt8)) : JS × List (List UInt8) :=
  if s.1.turn < turnA T a then ({ s.1 with area := a, turn := turnA T a }, recsA T a) else s
def foundN (T : TS) : Nat → JS × List (List UInt8)
  | 0 => (⟨1, 0, 0, T.fails⟩, [])
  | k + 1 => foundStep T (k : Int) (foundN T k)
def found (T : TS) : JS × List (List UInt8) := foundN T 2
theorem foundN_ok (T : TS) : ∀ k, k ≤ 2 → (foundN T k).1.ok ∧ (foundN T k).2.length ≤ max (T.read 0).length (T.read 1).length
  | 0, _ => ⟨⟨.inr rfl, by simp [foundN], by simp [foundN]⟩, by simp [foundN]⟩
  | k + 1, hk => by
    have ih := foundN_ok T k (by omega)
    rw [foundN, foundStep]
    split
    · have hb := turnOf_bound (framesP (T.read (k : Int)))
      refine ⟨⟨?_, hb.1, hb.2⟩, ?_⟩
      · simp only; omega
      · have h1 := recsOf_len (framesP (T.read (k : Int)))
        have h2 := framesP_len (T.read (k : Int))
        simp only [recsA]
        have : k = 0 ∨ k = 1 := by omega
        rcases this with rfl | rfl
        · exact Nat.le_trans h1 (Nat.le_trans h2 (Nat.le_max_left _ _))
        · exact Nat.le_trans h1 (Nat.le_trans h2 (Nat.le_max_right _ _))
    · exact ih
/-- What Open does: the error, the tape, the journal; the records are found's. -/
def openP (T : TS) : Int × TS × JS := if T.off = true then (150, T, (found T).1) else (found T).1.lay T (found T).2
theorem RLs.nil (w : World) (X : Nat → Prop) (A : Option Addr) : RLs w X A [] := fun j l h => by simp at h
theorem OL.rls {B : Nat} {w : World} {v : Value} {ls : List (List UInt8)} {X : Nat → Prop} (h : OL B w v ls) (hX : ∀ k, X k → k < B) : ∃ A c, v = .slice A ls.length c ∧ RLs w X A ls := by
  obtain ⟨cs, ho, hc⟩ := h
  obtain ⟨A, c, rfl⟩ := own_form ho
  refine ⟨A, c, rfl, fun j l hj => ?_⟩
  have hjl : j < ls.length := (List.getElem?_eq_some_iff.1 hj).1
  have hcl : cs.length = ls.length := by have := ho.1; omega
  have hcj : cs[j]? = some cs[j] := List.getElem?_eq_getElem (by omega)
  have hb := hc j _ l hcj hj
  rcases ho.2 with ⟨h1, h2⟩ | ⟨g, cap, cur, hv, hg, hh, _⟩
  · omega
  · simp at hv
    obtain ⟨rfl, rfl⟩ := hv
    have hown := World.ownsRow.cells ho (g := g) rfl j _ hcj
    have ha : (⟨g, 0, none⟩ : Addr).add j = ⟨g, 0 + j, none⟩ := by unfold Addr.add; split <;> simp_all
    rw [ha] at hown
    refine ⟨g, 0, _, rfl, (Array.getElem?_eq_some_iff.1 hh).1, fun hx => by have := hX _ hx; omega, hown, ?_⟩
    obtain ⟨A1, n, e1, e2, e3, e4⟩ := hb
    exact ⟨A1, n, e1, e2, e3, fun a ha h0 => ⟨Nat.zero_le _, fun hx => by have := hX _ hx; have := (e4 a ha h0).1; omega⟩⟩
def OpenPost (w : World) (tb : Nat) (F : Nat → Prop) (T : TS) (e : Ending) (w' : World) : Prop :=
  ∃ F', if (openP T).1 = 0 then ∃ jb A c, e = .returned (.tuple #[.pointer (some ⟨jb, 0, none⟩), .slice A (found T).2.length c, .int .i64 0]) ∧ JR w' jb tb (openP T).2.2 (openP T).2.1 F' ∧ w.heap.size ≤ jb ∧ RLs w' (FJ F' jb) A (found T).2 ∧ Upd w w' F (FJ F' jb)
  else e = .returned (.tuple #[.pointer none, .slice none 0 0, .int .i64 (openP T).1]) ∧ TapeR w' tb (openP T).2.1 F' ∧ Upd w w' F F'
variable {w : World} {tb : Nat} {T : TS} {F : Nat → Prop}
set_option maxRecDepth 100000 in
set_option maxHeartbeats 8000000 in
theorem jopen_any (h : TapeR w tb T F) : Calls Tryz.prog 19 #[.pointer (some ⟨tb, 0, none⟩)] w (OpenPost w tb F T) := by
  go_enter Tryz.func19, Tryz.ntmps19
  go_wp2_with fail
  refine (fault_look tb 0 T F w h).mono ?_
  rintro e w1 ⟨A0, c0, m0, rfl, z1, z2, z3, hb, z4⟩
  clear z1 z2 z3 z4
  have h1 := h.below hb
  have HB := Lib.hid hb
  obtain ⟨v, hv⟩ : ∃ v, v = faultN T.off 0 := ⟨_, rfl⟩
  rw [← hv]
  clear hb h
  by_cases ho : T.off = true
  · replace hv : v = 150 := by rw [hv, ho]; rfl
    subst hv
    have ho' : openP T = (150, T, (found T).1) := by unfold openP; rw [if_pos ho]
    have HO := Lib.hid ho'
    clear ho ho'
    go_wp2_with fail
    refine bodyPost_ret (results_tmp3 rfl _ _ _) rfl ?_
    refine ⟨F, ?_⟩
    have ho' := HO.out
    rw [ho', if_neg (by simp)]
    exact ⟨rfl, h1, Upd.of_below HB.out⟩
  · have ho0 : T.off = false := by simpa using ho
    replace hv : v = 0 := by rw [hv, ho0]; rfl
    subst hv
    have hop : openP T = (found T).1.lay T (found T).2 := by unfold openP; rw [if_neg ho]
    have HOP := Lib.hid hop
    clear ho hop ho0
    go_wp2_with fail
    refine (counts_any tb T F w1 h1).mono ?_
    rintro e w2 ⟨rfl, n, hw2⟩
    have hb : Below w1.heap.size w1 w2 := by rw [hw2]; exact ⟨rfl, rfl, rfl, Nat.le_refl _, fun _ _ => rfl⟩
    have h2 := h1.below hb
    have HB2 := Lib.hid (HB.out.trans (Below.up hb HB.out.size))
    obtain ⟨fl, hfl⟩ : ∃ fl, fl = T.fails := ⟨_, rfl⟩
    rw [← hfl]
    have HFL := Lib.hid hfl
    clear hw2 hb h1 hfl
    go_wp2_with fail
    obtain ⟨w3, hw3⟩ : ∃ w3, w3 = w2.alloc (.cells #[.pointer (some ⟨tb, 0, none⟩), .int .i64 1, .int .i64 0, .int .i64 0, .int .i64 fl] 83) := ⟨_, rfl⟩
    rw [← hw3]
    have hlt : ∀ k, F k → k < w2.heap.size := by obtain ⟨_, _, _, t⟩ := h2; exact t.flt
    have h3 : JR w3 w2.heap.size tb (foundN T 0).1 T F := by
      refine ⟨?_, ?_, fun hf => by have := hlt _ hf; omega⟩
      · rw [hw3]
        have := Blk.new w2 #[.pointer (some ⟨tb, 0, none⟩), .int .i64 1, .int .i64 0, .int .i64 0, .int .i64 fl] 83
        rw [HFL.out] at this
        rw [HFL.out]
        exact this
      · rw [hw3]; exact h2.below ((Below.refl _ _).alloc (Nat.le_refl _) _)
    have u3 : Upd w w3 F (FJ F w2.heap.size) := by
      refine ⟨Fr.of_below (HB2.out.trans (Below.up (by rw [hw3]; exact (Below.refl _ _).alloc (Nat.le_refl _) _) HB2.out.size)), fun k hk => ?_⟩
      rcases hk with hk | hk
      · exact .inl hk
      · have := HB2.out.size; exact .inr (by omega)
    have hlj : w.heap.size ≤ w2.heap.size := HB2.out.size
    obtain ⟨jb, hjb⟩ : ∃ jb, jb = w2.heap.size := ⟨_, rfl⟩
    rw [← hjb] at h3 u3 hlj ⊢
    have H3 := Lib.hid h3
    have U3 := Lib.hid u3
    clear h3 u3 hjb hw3 HB2 h2 hlt HFL HB
    go_loopw [10, 32] (fun rv i wr => ∃ (k : Nat) (A : Option Addr) (c : Nat), k ≤ 2 ∧ i = .int .i64 (k : Int) ∧ rv = .slice A (foundN T k).2.length c ∧ Hid (JR wr jb tb (foundN T k).1 T F) ∧ Hid (RLs wr (FJ F jb) A (foundN T k).2) ∧ Hid (Upd w wr F (FJ F jb))) (fun _ i _ => 2 - (intOf i).toNat)
    case atStart => exact ⟨0, none, 0, by omega, rfl, rfl, H3, Lib.hid (RLs.nil _ _ _), U3⟩
    case round =>
      clear H3 U3
      obtain ⟨k, A, c, hk, rfl, rfl, HW, HL, HU⟩ := hrel
      obtain ⟨⟨Jk, ls⟩, hS⟩ : ∃ S, S = foundN T k := ⟨_, rfl⟩
      rw [← hS] at HW HL ⊢
      by_cases hlt2 : k < 2
      · have hstep : foundN T (k + 1) = foundStep T (k : Int) (Jk, ls) := by rw [foundN, ← hS]
        unfold foundStep at hstep
        have HS := Lib.hid hstep
        obtain ⟨L, hL⟩ : ∃ L, L = ls.length := ⟨_, rfl⟩
        have HLL := Lib.hid hL
        try simp only at HW HL ⊢
        rw [← hL]
        clear hstep hS hL
        go_wp2_with fail
        refine (look_any tb (k : Int) T F wr HW.out.tape).mono ?_
        rintro e w5 ⟨lv, rfl, hol, hb5⟩
        have h5 := HW.out.below hb5
        have hr5 := HL.out.upd (Upd.of_below hb5)
        obtain ⟨A5, c5, rfl, hr6⟩ := hol.rls (X := FJ F jb) (fun k hk => by
          obtain ⟨_, _, _, t⟩ := HW.out.tape
          have := HW.out.blk.lt
          rcases hk with hk | hk
          · exact t.flt _ hk
          · omega)
        have HR5 := Lib.hid hr5
        have HR6 := Lib.hid hr6
        have H5 := Lib.hid h5
        have U5 := Lib.hid (HU.out.trans (Upd.of_below hb5))
        have ct := h5.c2
        have f1 := h5.blk.free 1
        have f2 := h5.blk.free 2
        have c1 := h5.c1
        obtain ⟨tk, htk⟩ : ∃ tk, tk = turnOf (framesP (T.read (k : Int))) := ⟨_, rfl⟩
        obtain ⟨M, hM⟩ : ∃ M, M = (recsOf (framesP (T.read (k : Int)))).length := ⟨_, rfl⟩
        obtain ⟨jt, hjt⟩ : ∃ jt, jt = Jk.turn := ⟨_, rfl⟩
        have hs := HS.out
        unfold turnA recsA at hs
        try simp only at hs
        rw [← htk, ← hjt] at hs
        rw [← hjt] at ct
        rw [← htk, ← hM]
        have HS := Lib.hid hs
        have HM := Lib.hid hM
        clear hb5 hol hr5 hr6 h5 htk hM hjt hs
        by_cases hlt3 : jt < tk
        · have hs := HS.out
          rw [if_pos hlt3] at hs
          have HS := Lib.hid hs
          clear hs
          go_wp2_with fail
          go_roundw
          case rel =>
            obtain ⟨k1, v1⟩ := H5.out.set (J' := { Jk with area := (k : Int) }) 1 (.int .i64 (k : Int)) rfl
            obtain ⟨k2, v2⟩ := k1.set (J' := { Jk with area := (k : Int), turn := tk }) 2 (.int .i64 tk) rfl
            refine ⟨k + 1, A5, c5, by omega, by go_num, ?_, Lib.hid ?_, Lib.hid ?_, Lib.hid ((U5.out.trans v1).trans v2)⟩
            · rw [HS.out, HM.out]
            · rw [HS.out]; exact k2
            · rw [HS.out]; exact (HR6.out.upd v1).upd v2
          case measure => simp [intOf]; omega
        · have hs := HS.out
          rw [if_neg hlt3] at hs
          have HS := Lib.hid hs
          clear hs
          go_wp2_with fail
          go_roundw
          case rel =>
            refine ⟨k + 1, A, c, by omega, by go_num, ?_, Lib.hid ?_, Lib.hid ?_, U5⟩
            · rw [HS.out, HLL.out]
            · rw [HS.out]; exact H5.out
            · rw [HS.out]; exact HR5.out
          case measure => simp [intOf]; omega
      · have hk2 : k = 2 := by omega
        subst hk2
        have hfo := foundN_ok T 2 (Nat.le_refl _)
        have hfe : found T = (Jk, ls) := hS.symm
        rw [← hS] at hfo
        have hop := HOP.out
        rw [hfe] at hop
        try simp only at hop hfo HW HL ⊢
        have hrl : ls.length ≤ 2000000000 := by
          obtain ⟨_, _, _, t⟩ := HW.out.tape
          have r0 := TS.read_len t.wf 0
          have r1 := TS.read_len t.wf 1
          have := hfo.2
          omega
        have hcall := jlay_any A c ls HW.out HL.out hrl hfo.1
        obtain ⟨L, hL⟩ : ∃ L, L = ls.length := ⟨_, rfl⟩
        rw [← hL] at hcall ⊢
        obtain ⟨⟨p, T', J'⟩, hp⟩ : ∃ r, r = Jk.lay T ls := ⟨_, rfl⟩
        rw [← hp] at hcall hop
        have HOP := Lib.hid hop
        have HFE := Lib.hid hfe
        have HLL := Lib.hid hL
        have HC := Lib.hid hcall
        clear hS hfo hfe hop hrl hcall hL hp
        go_wp2_with fail
        refine HC.out.mono ?_
        rintro e w5 ⟨rfl, F', h5, u5⟩
        have H5 := Lib.hid h5
        have U5 := Lib.hid (HU.out.trans u5)
        have HR5 := Lib.hid (HL.out.upd u5)
        clear h5 u5 HC HU
        by_cases hp0 : p = 0
        · subst hp0
          go_wp2_with fail
          refine bodyPost_ret (results_tmp3 rfl _ _ _) rfl ?_
          refine ⟨F', ?_⟩
          rw [HOP.out, HFE.out, if_pos rfl]
          refine ⟨jb, A, c, ?_, H5.out, hlj, HR5.out, U5.out⟩
          rw [← HLL.out]
          rfl
        · have hp0' : (p == 0) = false := by simp [hp0]
          go_wp2_with fail
          refine bodyPost_ret (results_tmp3 rfl _ _ _) rfl ?_
          refine ⟨F', ?_⟩
          rw [HOP.out, if_neg hp0]
          exact ⟨rfl, H5.out.tape, U5.out.fr, fun k hk => U5.out.new k (.inl hk)⟩

end Go.Proofs.YtdhafdejionefaaGreat

/- The chapter's example: lives tells true. -/
namespace Go.Proofs.YtdhafdejionefaaGreat
set_option linter.unusedVariables false
set_option linter.unusedSimpArgs false
open Go.RowKit

/-- A journal of the call's own: all its blocks lie at B or behind it. -/
structure JN (B : Nat) (w : World) (jb tb : Nat) (J : JS) (T : TS) (F : Nat → Prop) : Prop where
  jr : JR w jb tb J T F
  from_ : ∀ k, FJ F jb k → B ≤ k
  size : B ≤ w.heap.size
theorem JN.below {B : Nat} {w w' : World} {jb tb : Nat} {J : JS} {T : TS} {F : Nat → Prop} (h : JN B w jb tb J T F) (hb : Below w.heap.size w w') : JN B w' jb tb J T F := ⟨h.jr.below hb, h.from_, Nat.le_trans h.size hb.size⟩
theorem JN.upd {B : Nat} {w w' : World} {jb tb : Nat} {J J' : JS} {T T' : TS} {F F' : Nat → Prop} (h : JN B w jb tb J T F) (hj : JR w' jb tb J' T' F') (hu : Upd w w' (FJ F jb) (FJ F' jb)) : JN B w' jb tb J' T' F' ∧ Below B w w' :=
  ⟨⟨hj, (upd_below hu h.size h.from_).2, Nat.le_trans h.size hu.fr.size⟩, (upd_below hu h.size h.from_).1⟩
theorem JN.lt {B : Nat} {w : World} {jb tb : Nat} {J : JS} {T : TS} {F : Nat → Prop} (h : JN B w jb tb J T F) : ∀ k, FJ F jb k → k < w.heap.size := fun k hk => by
  obtain ⟨_, _, _, t⟩ := h.jr.tape
  have := h.jr.blk.lt
  rcases hk with hk | hk
  · exact t.flt _ hk
  · omega
theorem JN.ok {B : Nat} {w : World} {jb tb : Nat} {J : JS} {T : TS} {F : Nat → Prop} (h : JN B w jb tb J T F) : T.ok := by
  obtain ⟨_, _, _, t⟩ := h.jr.tape; exact t.wf
/-- Append of a literal. -/
theorem jappend_lit (B : Nat) (m c : Nat) (cs : Array Value) (fr : Nat × Nat) (xs : List UInt8) (T : TS) (J : JS) (jb tb : Nat) (F : Nat → Prop) (w : World) (h : JN B w jb tb J T F) (hcs : cs = (bv xs).toArray) (hl : xs.length ≤ 140737488355328) (hm : m = xs.length) :
    Calls Tryz.prog 20 #[.pointer (some ⟨jb, 0, none⟩), .slice (some ⟨w.heap.size, 0, none⟩) m c] (w.alloc (.cells cs 5 fr)) fun e w' => e = .returned (.int .i64 (J.append T xs).1) ∧ ∃ F', JN B w' jb tb (J.append T xs).2.2 (J.append T xs).2.1 F' ∧ Below B w w' := by
  subst hm
  have hb : Below w.heap.size w (w.alloc (.cells cs 5 fr)) := (Below.refl _ _).alloc (Nat.le_refl _) _
  have h1 := h.below hb
  refine (jappend_any (some ⟨w.heap.size, 0, none⟩) c xs h1.jr (RB.fresh w xs [] 5 fr hl (by simp [hcs]))).mono ?_
  rintro e w' ⟨rfl, F', hj, hu⟩
  obtain ⟨k1, k2⟩ := h1.upd hj hu
  exact ⟨rfl, F', k1, (Below.up hb h.size).trans k2⟩
/-! ### The example's states -/
def l1 : Int × TS × JS := openP (TS.new 1000)
def l2 : Int × TS × JS := l1.2.2.append l1.2.1 [97]
def l3 : Int × TS × JS := l2.2.2.sync l2.2.1
def l4 : Int × TS × JS := l3.2.2.append l3.2.1 [98]
def l5 : Int × TS := l4.2.1.fail 0
def l6 : TS := { l5.2 with off := false }
def l7 : Int × TS × JS := openP l6
theorem l1_e : l1.1 = 0 ∧ (found (TS.new 1000)).2 = [] ∧ l1.2.2.turn = 1 := by decide +kernel
theorem l2_e : l2.1 = 0 := by decide +kernel
theorem l3_e : l3.1 = 0 := by decide +kernel
theorem l4_e : l4.1 = 0 ∧ (l4.2.1.sure l4.2.2.area == l4.2.2.len l4.2.1) = false := by decide +kernel
theorem l5_e : l5.1 = 0 := by decide +kernel
theorem l7_e : l7.1 = 0 ∧ (found l6).2 = [[97]] ∧ l7.2.2.turn = 2 := by decide +kernel
set_option maxRecDepth 100000 in
set_option maxHeartbeats 8000000 in
theorem jlives_true (w : World) : Calls Tryz.prog 5 #[] w fun e w' => e = .returned (.bool true) ∧ Below w.heap.size w w' := by
  obtain ⟨B, hB⟩ : ∃ B, B = w.heap.size := ⟨_, rfl⟩
  rw [← hB]
  have kc := fun (w : World) (C : Array Value) (n c : Nat) => Lib.run_convert_bytes_const (P := Tryz.prog) w 35 5 C n c Tryz.underlying35 Tryz.underlying5
  go_enter Tryz.func5, Tryz.ntmps5
  go_wp2_with fail
  refine (made B 1000 w hB.symm (by decide) (by decide)).mono ?_
  rintro e w1 ⟨tb, rfl, ⟨hs1, F1, h1, hF1⟩, b1⟩
  have H1 := Lib.hid h1
  have B1 := Lib.hid b1
  clear h1 b1 hB
  go_wp2_with fail
  refine (jopen_any H1.out).mono ?_
  rintro e w2 ⟨F2, h2⟩
  rw [show openP (TS.new 1000) = l1 from rfl, if_pos l1_e.1, l1_e.2.1] at h2
  obtain ⟨jb, A2, c2, rfl, hj2, hjb, _, hu2⟩ := h2
  have hB2 := upd_below hu2 hs1 hF1
  have h2 : JN B w2 jb tb l1.2.2 l1.2.1 F2 := ⟨hj2, hB2.2, Nat.le_trans hs1 hu2.fr.size⟩
  have H2 := Lib.hid h2
  have B2 := Lib.hid (B1.out.trans hB2.1)
  have HT := Lib.hid l1_e.2.2
  clear hj2 hu2 hB2 h2 H1 B1 hF1 hs1 hjb
  go_wp2_with fail
  refine (turn_any H2.out.jr).mono ?_
  rw [HT.out]
  rintro e w3 ⟨rfl, hb⟩
  have H3 := Lib.hid (H2.out.below hb)
  have B3 := Lib.hid (B2.out.trans (Below.up hb H2.out.size))
  clear hb H2 B2 HT
  go_wp2_with fail
  refine (jappend_lit B 1 _ _ _ [97] l1.2.1 l1.2.2 jb tb F2 w3 H3.out rfl (by decide) rfl).mono ?_
  rw [show l1.2.2.append l1.2.1 [97] = l2 from rfl, l2_e]
  rintro e w4 ⟨rfl, F4, h4, b4⟩
  have H4 := Lib.hid h4
  have B4 := Lib.hid (B3.out.trans b4)
  clear h4 b4 H3 B3
  go_wp2_with fail
  refine (jsync_any H4.out.jr).mono ?_
  rw [show l2.2.2.sync l2.2.1 = l3 from rfl]
  rintro e w5 ⟨he, F5, hj, hu⟩
  rw [l3_e] at he
  subst he
  obtain ⟨h5, b5⟩ := H4.out.upd hj hu
  have H5 := Lib.hid h5
  have B5 := Lib.hid (B4.out.trans b5)
  clear h5 b5 hj hu H4 B4
  go_wp2_with fail
  refine (jappend_lit B 1 _ _ _ [98] l3.2.1 l3.2.2 jb tb F5 w5 H5.out rfl (by decide) rfl).mono ?_
  rw [show l3.2.2.append l3.2.1 [98] = l4 from rfl, l4_e.1]
  rintro e w6 ⟨rfl, F6, h6, b6⟩
  have H6 := Lib.hid h6
  have B6 := Lib.hid (B5.out.trans b6)
  clear h6 b6 H5 B5
  go_wp2_with fail
  refine (jsure_any H6.out.jr).mono ?_
  rw [l4_e.2]
  rintro e w7 ⟨rfl, hb⟩
  have H7 := Lib.hid (H6.out.below hb)
  have B7 := Lib.hid (B6.out.trans (Below.up hb H6.out.size))
  clear hb H6 B6
  go_wp2_with fail
  refine (fail_any tb 0 l4.2.1 F6 w7 H7.out.jr.tape).mono ?_
  rw [show l4.2.1.fail 0 = l5 from rfl]
  rintro e w8 ⟨he, F8, ht, hu⟩
  rw [l5_e] at he
  subst he
  have hF6 : ∀ k, F6 k → B ≤ k := fun k hk => H7.out.from_ k (.inl hk)
  have hb8 := upd_below hu H7.out.size hF6
  have H8 := Lib.hid ht
  have B8 := Lib.hid (B7.out.trans hb8.1)
  have HF8 := Lib.hid hb8.2
  have HS8 : Hid (B ≤ w8.heap.size) := Lib.hid (Nat.le_trans H7.out.size hu.fr.size)
  clear hb8 hu ht hF6 H7 B7
  go_wp2_with fail
  refine (power_any tb l5.2 F8 w8 H8.out).mono ?_
  rintro e w9 ⟨rfl, ht, hu⟩
  have ht : TapeR w9 tb l6 F8 := ht
  have hb9 := upd_below hu HS8.out HF8.out
  have H9 := Lib.hid ht
  have B9 := Lib.hid (B8.out.trans hb9.1)
  have HS9 : Hid (B ≤ w9.heap.size) := Lib.hid (Nat.le_trans HS8.out hu.fr.size)
  clear hb9 hu ht H8 B8 HS8
  go_wp2_with fail
  refine (jopen_any H9.out).mono ?_
  rintro e w10 ⟨F10, h10⟩
  rw [show openP l6 = l7 from rfl, if_pos l7_e.1, l7_e.2.1] at h10
  obtain ⟨jb2, A10, c10, rfl, hj10, hjb10, hrl, hu10⟩ := h10
  have hB10 := upd_below hu10 HS9.out HF8.out
  obtain ⟨b, off, cc, hA, hbl, hX, hcell, A11, n11, rfl, hn11, hrb, _⟩ := hrl 0 [97] rfl
  subst hA
  have hcell : w10.cell? ⟨b, off, none⟩ = some (.slice A11 1 n11) := hcell
  have hs := run_str hrb 1 n11 rfl
  have H10 := Lib.hid hj10
  have B10 := Lib.hid (B9.out.trans hB10.1)
  have HT := Lib.hid l7_e.2.2
  have HS10 : B ≤ w10.heap.size := Nat.le_trans HS9.out hu10.fr.size
  clear hj10 hu10 hB10 hrl hrb H9 B9 hjb10 HS9 hn11 hX hbl kc
  have hlit : (strB [97]).toList = [97] := by decide +kernel
  go_wp2_with fail
  refine (turn_any H10.out).mono ?_
  rw [HT.out]
  rintro e w11 ⟨rfl, hb⟩
  have B11 := Lib.hid (B10.out.trans (Below.up hb HS10))
  clear hb
  go_wp2_with fail
  go_ret
  exact ⟨rfl, B11.out⟩

end Go.Proofs.YtdhafdejionefaaGreat
