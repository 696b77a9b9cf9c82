/- The walks of the journal's methods: fault, Sync, Append, Turn, On. -/
import Derived.Test.YtnkenkdglcmpdaaJouK
namespace Go.Proofs.Ytnkenkdglcmpdaa
set_option linter.unusedVariables false
set_option linter.unusedSimpArgs false
open Go.RowKit

/-- What a journal has, beside its tape. -/
structure JS where
  area : Int
  turn : Int
  bytes : Int
  fails : Int
def jcells (tb : Nat) (J : JS) : Array Value := #[.pointer (some ⟨tb, 0, none⟩), .int .i64 J.area, .int .i64 J.turn, .int .i64 J.bytes, .int .i64 J.fails]
/-- Block jb is a journal that has J, on the tape tb that has T. -/
structure JR (w : World) (jb tb : Nat) (J : JS) (T : TS) (F : Nat → Prop) : Prop where
  blk : Blk w jb (jcells tb J) 76
  tape : TapeR w tb T F
  no : ¬ F jb
def FJ (F : Nat → Prop) (jb : Nat) : Nat → Prop := fun k => F k ∨ k = jb
theorem JR.fr {w w' : World} {jb tb : Nat} {J : JS} {T : TS} {F G : Nat → Prop} (h : JR w jb tb J T F) (hf : Fr G w w') (hG : ∀ k, F k → ¬ G k) (hj : ¬ G jb) : JR w' jb tb J T F :=
  ⟨h.blk.fr hf hj, h.tape.fr hf hG, h.no⟩
theorem JR.below {w w' : World} {jb tb : Nat} {J : JS} {T : TS} {F : Nat → Prop} (h : JR w jb tb J T F) (hb : Below w.heap.size w w') : JR w' jb tb J T F :=
  ⟨h.blk.below hb, h.tape.below hb, h.no⟩
theorem JR.upd {w w' : World} {jb tb : Nat} {J : JS} {T T' : TS} {F F' : Nat → Prop} (h : JR w jb tb J T F) (ht : TapeR w' tb T' F') (hu : Upd w w' F F') : JR w' jb tb J T' F' ∧ Upd w w' (FJ F jb) (FJ F' jb) :=
  ⟨⟨h.blk.fr hu.fr h.no, ht, fun hf => (hu.new jb hf).elim h.no (fun h' => by have := h.blk.lt; omega)⟩,
   hu.fr.mono (fun i hi => .inl (.inl hi)), fun k hk => hk.elim (fun h => (hu.new k h).elim (fun h => .inl (.inl h)) .inr) (fun h => .inl (.inr h))⟩
/-- A cell of the journal is set. -/
theorem JR.set {w : World} {jb tb : Nat} {J J' : JS} {T : TS} {F : Nat → Prop} (h : JR w jb tb J T F) (i : Nat) (v : Value) (hJ : (jcells tb J).setIfInBounds i v = jcells tb J') :
    JR (w.setCell ⟨jb, i, none⟩ v) jb tb J' T F ∧ Upd w (w.setCell ⟨jb, i, none⟩ v) (FJ F jb) (FJ F jb) :=
  ⟨⟨by have := h.blk.set i v; rw [hJ] at this; exact this, h.tape.fr (Fr.setCell (fun k => k = jb) w ⟨jb, i, none⟩ v rfl) (fun k hk e => h.no (e ▸ hk)), h.no⟩,
   Fr.setCell _ w ⟨jb, i, none⟩ v (.inr rfl), fun k hk => .inl hk⟩
def DoesJ (w : World) (jb tb : Nat) (F : Nat → Prop) (r : Int × TS × JS) (e : Ending) (w' : World) : Prop :=
  e = .returned (.int .i64 r.1) ∧ ∃ F', JR w' jb tb r.2.2 r.2.1 F' ∧ Upd w w' (FJ F jb) (FJ F' jb)
def JS.fault (J : JS) (T : TS) : Int := if T.off = false ∧ T.fails = J.fails then 0 else 150
def JS.sync (J : JS) (T : TS) : Int × TS × JS := if J.fault T ≠ 0 then (J.fault T, T, J) else ((T.sync J.area).1, (T.sync J.area).2, J)
def JS.append (J : JS) (T : TS) (xs : List UInt8) : Int × TS × JS :=
  if J.fault T ≠ 0 then (J.fault T, T, J) else if 4194304 < xs.length then (3, T, J)
  else if (T.append J.area (frameB 68 xs)).1 = 0 then (0, (T.append J.area (frameB 68 xs)).2, { J with bytes := wrap64 (J.bytes + ((frameB 68 xs).length : Int)) })
  else ((T.append J.area (frameB 68 xs)).1, (T.append J.area (frameB 68 xs)).2, J)
variable {w : World} {jb tb : Nat} {J : JS} {T : TS} {F : Nat → Prop}
theorem JR.c0 (h : JR w jb tb J T F) : w.cell? ⟨jb, 0, none⟩ = some (.pointer (some ⟨tb, 0, none⟩)) := h.blk.cell 0
theorem JR.c1 (h : JR w jb tb J T F) : w.cell? ⟨jb, 1, none⟩ = some (.int .i64 J.area) := h.blk.cell 1
theorem JR.c2 (h : JR w jb tb J T F) : w.cell? ⟨jb, 2, none⟩ = some (.int .i64 J.turn) := h.blk.cell 2
theorem JR.c3 (h : JR w jb tb J T F) : w.cell? ⟨jb, 3, none⟩ = some (.int .i64 J.bytes) := h.blk.cell 3
theorem JR.c4 (h : JR w jb tb J T F) : w.cell? ⟨jb, 4, none⟩ = some (.int .i64 J.fails) := h.blk.cell 4
set_option maxHeartbeats 1000000 in
theorem jfault_any (h : JR w jb tb J T F) : Calls Try.prog 79 #[.pointer (some ⟨jb, 0, none⟩)] w fun e w' => e = .returned (.int .i64 (J.fault T)) ∧ Below w.heap.size w w' := by
  obtain ⟨v, hv⟩ : ∃ v, v = J.fault T := ⟨_, rfl⟩
  rw [← hv]
  unfold JS.fault at hv
  have c0 := h.c0
  go_enter Try.func79, Try.ntmps79
  go_wp2_with fail
  refine (counts_any tb T F w h.tape).mono ?_
  rintro e w1 ⟨rfl, n, hw1⟩
  have hb : Below w.heap.size w w1 := by rw [hw1]; exact ⟨rfl, rfl, rfl, Nat.le_refl _, fun _ _ => rfl⟩
  have h1 := h.below hb
  have HB := Lib.hid hb
  clear hw1 hb c0 h
  have c0 := h1.c0
  have c4 := h1.c4
  go_wp2_with fail
  refine (on_any tb T F w1 h1.tape).mono ?_
  rintro e w2 ⟨rfl, rfl⟩
  obtain ⟨f1, hf1⟩ : ∃ f, f = T.fails := ⟨_, rfl⟩
  obtain ⟨f2, hf2⟩ : ∃ f, f = J.fails := ⟨_, rfl⟩
  obtain ⟨o, ho⟩ : ∃ o, o = T.off := ⟨_, rfl⟩
  rw [← hf1, ← hf2, ← ho] at hv
  rw [← hf2] at c4
  rw [← hf1, ← ho]
  clear hf1 hf2 ho h1
  cases o with
  | true =>
    rw [if_neg (by simp)] at hv
    subst hv
    go_wp2_with fail
    go_ret
    exact ⟨rfl, HB.out⟩
  | false =>
    by_cases hf : f1 = f2
    · rw [if_pos ⟨rfl, hf⟩] at hv
      subst hv
      subst hf
      go_wp2_with fail
      go_ret
      exact ⟨rfl, HB.out⟩
    · rw [if_neg (fun h => hf h.2)] at hv
      subst hv
      have hfb : (f1 == f2) = false := by simp [hf]
      go_wp2_with fail
      go_ret
      exact ⟨rfl, HB.out⟩
theorem turn_any (h : JR w jb tb J T F) : Calls Try.prog 45 #[.pointer (some ⟨jb, 0, none⟩)] w fun e w' => e = .returned (.int .i64 J.turn) ∧ Below w.heap.size w w' := by
  go_enter Try.func45, Try.ntmps45
  go_wp2_with fail
  refine (jfault_any h).mono ?_
  rintro e w1 ⟨rfl, hb⟩
  have h1 := h.below hb
  have c2 := h1.c2
  have HB := Lib.hid hb
  have hv : (J.fault T == 1) = false := by unfold JS.fault; split <;> rfl
  obtain ⟨v, hv'⟩ : ∃ v, v = J.fault T := ⟨_, rfl⟩
  rw [← hv'] at hv ⊢
  clear hb hv' h h1
  go_wp2_with fail
  go_ret
  exact ⟨rfl, HB.out⟩
theorem jon_any (h : JR w jb tb J T F) : Calls Try.prog 50 #[.pointer (some ⟨jb, 0, none⟩)] w fun e w' => e = .returned (.bool (J.fault T == 0)) ∧ Below w.heap.size w w' := by
  obtain ⟨b, hb'⟩ : ∃ b, b = (J.fault T == 0) := ⟨_, rfl⟩
  rw [← hb']
  have HB' := Lib.hid hb'
  clear hb'
  go_enter Try.func50, Try.ntmps50
  go_wp2_with fail
  refine (jfault_any h).mono ?_
  rintro e w1 ⟨rfl, hb⟩
  obtain ⟨v, hv'⟩ : ∃ v, v = J.fault T := ⟨_, rfl⟩
  have hb2 := HB'.out
  rw [← hv'] at hb2 ⊢
  have HB := Lib.hid hb
  clear hb hv' h HB'
  subst hb2
  go_wp2_with fail
  go_ret
  exact ⟨rfl, HB.out⟩
set_option maxHeartbeats 1000000 in
theorem jsync_any (h : JR w jb tb J T F) : Calls Try.prog 48 #[.pointer (some ⟨jb, 0, none⟩)] w (DoesJ w jb tb F (J.sync T)) := by
  obtain ⟨r, hr⟩ : ∃ r, r = J.sync T := ⟨_, rfl⟩
  rw [← hr]
  unfold JS.sync at hr
  have HR := Lib.hid hr
  clear hr
  go_enter Try.func48, Try.ntmps48
  go_wp2_with fail
  refine (jfault_any h).mono ?_
  rintro e w1 ⟨rfl, hb⟩
  have h1 := h.below hb
  have HB := Lib.hid hb
  obtain ⟨v, hv⟩ : ∃ v, v = J.fault T := ⟨_, rfl⟩
  have hr := HR.out
  rw [← hv] at hr ⊢
  clear hv hb h HR
  by_cases h0 : v = 0
  · subst h0
    rw [if_neg (by simp)] at hr
    subst hr
    have c0 := h1.c0
    have c1 := h1.c1
    go_wp2_with fail
    refine wp_region_phased (fun W => W.cell? ⟨jb, 0, none⟩ = some (.pointer (some ⟨tb, 0, none⟩)) ∧ W.cell? ⟨jb, 1, none⟩ = some (.int .i64 J.area)) 10 (by kernel_rfl) ⟨c0, c1⟩ (fun hS => ?_)
    have h2 := h1.below (Below.refl _ _).drew
    refine wpAnyP_pure (v := ?_) 0 (at_toArray rfl) (by kernel_rfl) (by kernel_rfl) (by kernel_rfl) (fun _ _ _ h => h) (Or.inl ⟨by rfl, fun W => ?_⟩) ?_
    rotate_left 1
    · (go_simp <;> (try go_bits) <;> with_reducible rfl)
    simp only [Act.put, List.setIfInBounds_toArray, List.set_cons_zero, List.set_cons_succ]
    refine wpAnyP_pure (v := ?_) 1 (at_toArray rfl) (by kernel_rfl) (by kernel_rfl) (by kernel_rfl) (fun _ _ _ h => h) (Or.inl ⟨by rfl, fun W => ?_⟩) ?_
    rotate_left 1
    · (go_simp <;> (try go_bits) <;> with_reducible rfl)
    simp only [Act.put, List.setIfInBounds_toArray, List.set_cons_zero, List.set_cons_succ]
    refine wpAnyP_pure (v := ?_) 2 (at_toArray rfl) (by kernel_rfl) (by kernel_rfl) (by kernel_rfl) (fun _ _ _ h => h) (Or.inl ⟨by rfl, fun W => ?_⟩) ?_
    rotate_left 1
    · (go_simp <;> (try go_bits) <;> with_reducible rfl)
    simp only [Act.put, List.setIfInBounds_toArray, List.set_cons_zero, List.set_cons_succ]
    refine wpAnyP_load (v := ?_) 3 (by kernel_rfl) (at_toArray rfl) (by kernel_rfl) (by kernel_rfl) (by kernel_rfl) (fun _ _ _ h => h) (by first | assumption | rfl) (Or.inl ⟨by rfl, fun W hS => ?_⟩) ?_
    rotate_left 1
    · (obtain ⟨_, _⟩ := hS; go_simp <;> (try go_bits) <;> with_reducible rfl)
    simp only [Act.put, List.setIfInBounds_toArray, List.set_cons_zero, List.set_cons_succ]
    refine wpAnyP_pure (v := ?_) 4 (at_toArray rfl) (by kernel_rfl) (by kernel_rfl) (by kernel_rfl) (fun _ _ _ h => h) (Or.inl ⟨by rfl, fun W => ?_⟩) ?_
    rotate_left 1
    · (go_simp <;> (try go_bits) <;> with_reducible rfl)
    simp only [Act.put, List.setIfInBounds_toArray, List.set_cons_zero, List.set_cons_succ]
    refine wpAnyP_pure (v := ?_) 5 (at_toArray rfl) (by kernel_rfl) (by kernel_rfl) (by kernel_rfl) (fun _ _ _ h => h) (Or.inl ⟨by rfl, fun W => ?_⟩) ?_
    rotate_left 1
    · (go_simp <;> (try go_bits) <;> with_reducible rfl)
    simp only [Act.put, List.setIfInBounds_toArray, List.set_cons_zero, List.set_cons_succ]
    refine wpAnyP_pure (v := ?_) 6 (at_toArray rfl) (by kernel_rfl) (by kernel_rfl) (by kernel_rfl) (fun _ _ _ h => h) (Or.inl ⟨by rfl, fun W => ?_⟩) ?_
    rotate_left 1
    · (go_simp <;> (try go_bits) <;> with_reducible rfl)
    simp only [Act.put, List.setIfInBounds_toArray, List.set_cons_zero, List.set_cons_succ]
    refine wpAnyP_load (v := ?_) 7 (by kernel_rfl) (at_toArray rfl) (by kernel_rfl) (by kernel_rfl) (by kernel_rfl) (fun _ _ _ h => h) (by first | assumption | rfl) (Or.inl ⟨by rfl, fun W hS => ?_⟩) ?_
    rotate_left 1
    · (obtain ⟨_, _⟩ := hS; go_simp <;> (try go_bits) <;> with_reducible rfl)
    simp only [Act.put, List.setIfInBounds_toArray, List.set_cons_zero, List.set_cons_succ]
    refine wpAnyP_one 8 (at_toArray rfl) (by kernel_rfl) rfl (fun K hK => ?_)
    go_wp2_with fail
    refine (sync_any tb J.area T F _ h2.tape).mono ?_
    rintro e w3 ⟨rfl, F', ht, hu⟩
    obtain ⟨hj, hu'⟩ := h2.upd ht hu
    have HJ := Lib.hid hj
    have HU := Lib.hid (Upd.trans (Upd.of_below (HB.out.trans (Below.up (Below.refl _ _).drew HB.out.size))) hu')
    clear ht hu hu'
    go_wp2_with fail
    refine hK.out _ _ (fun _ _ => ⟨HJ.out.c0, HJ.out.c1⟩) ?_
    clear hK
    refine wpAnyP_pure (v := ?_) 9 (at_toArray rfl) (by kernel_rfl) (by kernel_rfl) (by kernel_rfl) (fun _ _ _ h => h) (Or.inl ⟨by rfl, fun W => ?_⟩) ?_
    rotate_left 1
    · (go_simp <;> (try go_bits) <;> with_reducible rfl)
    simp only [Act.put, List.setIfInBounds_toArray, List.set_cons_zero, List.set_cons_succ]
    refine wpAnyP_done (by kernel_rfl) ?_ _
    go_wp2_with fail
    go_ret
    exact ⟨rfl, F', HJ.out, HU.out⟩
  · rw [if_pos h0] at hr
    subst hr
    have h0' : (v == 0) = false := by simp [h0]
    go_wp2_with fail
    go_ret
    exact ⟨rfl, F, h1, Upd.of_below HB.out⟩

end Go.Proofs.Ytnkenkdglcmpdaa
