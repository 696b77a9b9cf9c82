/- The document's book of votes: its row, New, at, Of. -/
import Derived.Test.YtpbcpocheblbfaaVotJ
import Derived.Test.YtpbcpocheblbfaaVotS
namespace Go.Proofs.Ytpbcpocheblbfaa
set_option linter.unusedVariables false
set_option linter.unusedSimpArgs false
open Go.RowKit Go.MapKept

def ons (L : List VAct) : List Value := L.flatMap fun s => acells s
def OnOk (L : List VAct) : Prop := ∀ s ∈ L, s.ok
theorem ons_append (L M : List VAct) : ons (L ++ M) = ons L ++ ons M := by simp [ons]
theorem ons_one (s : VAct) : ons [s] = acells s := by simp [ons]
theorem ons_len : ∀ {L : List VAct}, OnOk L → (ons L).length = L.length * 53
  | [], _ => rfl
  | s :: L, h => by
    have ih := ons_len (L := L) (fun x hx => h x (List.mem_cons_of_mem _ hx))
    have hs := h s (List.mem_cons_self ..)
    show (acells s ++ ons L).length = _
    rw [List.length_append, ih, List.length_cons]
    rw [acells_len hs]
    omega
theorem ons_one' : ∀ (L : List VAct), ∀ u ∈ ons L, u.oneCell' = true := by
  intro L u hu
  obtain ⟨s, _, hs⟩ := List.mem_flatMap.1 hu
  exact acells_one _ u hs
/-- An owned row of the document's votes, at B or behind it. -/
def VO (B : Nat) (w : World) (v : Value) (L : List VAct) : Prop := w.ownsRow B 70 53 v L.length (ons L)
/-- A slice that reads as them. -/
def VR (w : World) (A : Option Addr) (L : List VAct) : Prop := ∀ (i : Nat) (s : VAct), L[i]? = some s → ∃ b off, A = some ⟨b, off, none⟩ ∧ w.rangeAt b (off + i * 53) (acells s)
theorem VR.below {w w' : World} {A : Option Addr} {L : List VAct} (h : VR w A L) (hb : Below w.heap.size w w') : VR w' A L := fun i s hs => by
  obtain ⟨b, off, e, hr⟩ := h i s hs
  exact ⟨b, off, e, range_below hr hb⟩
theorem VR.nil (w : World) (A : Option Addr) : VR w A [] := fun i s h => by simp at h
theorem VR.take {w : World} {A : Option Addr} {L : List VAct} (h : VR w A L) (n : Nat) : VR w A (L.take n) := fun i s hs => by
  rw [List.getElem?_take] at hs
  split at hs
  · exact h i s hs
  · cases hs
theorem ons_at : ∀ {L : List VAct}, OnOk L → ∀ (i : Nat) (s : VAct), L[i]? = some s → ∃ pre post, ons L = pre ++ acells s ++ post ∧ pre.length = i * 53
  | [], _, i, s, h => by simp at h
  | x :: L, hok, 0, s, h => by
    simp at h; subst h
    exact ⟨[], ons L, by simp [ons], rfl⟩
  | x :: L, hok, i + 1, s, h => by
    obtain ⟨pre, post, e, hl⟩ := ons_at (L := L) (fun y hy => hok y (List.mem_cons_of_mem _ hy)) i s (by simpa using h)
    have hx := hok x (List.mem_cons_self ..)
    refine ⟨acells x ++ pre, post, ?_, ?_⟩
    · show acells x ++ ons L = _
      rw [e]; simp
    · rw [List.length_append, hl]
      rw [acells_len hx]
      omega
theorem VO.reads {B : Nat} {w : World} {v : Value} {L : List VAct} (h : VO B w v L) (hok : OnOk L) : ∃ A c, v = .slice A L.length c ∧ VR w A L ∧ L.length ≤ c ∧ (∀ a, A = some a → 0 < L.length → B ≤ a.block) := by
  rcases h.2 with ⟨rfl, h0⟩ | ⟨g, cap, cur, rfl, hg, hh, hc, _⟩
  · have : L = [] := List.eq_nil_of_length_eq_zero h0
    subst this
    exact ⟨none, 0, rfl, VR.nil _ _, Nat.le_refl _, fun a ha => by cases ha⟩
  · refine ⟨_, cap, rfl, fun i s hs => ⟨g, 0, rfl, fun j u hu => ?_⟩, hc, fun a ha _ => by cases ha; exact hg⟩
    obtain ⟨pre, post, e, hl⟩ := ons_at hok i s hs
    have hj := (List.getElem?_eq_some_iff.1 hu).1
    have hat : (ons L)[i * 53 + j]? = some u := by
      rw [e, List.append_assoc, List.getElem?_append_right (by omega), hl, show i * 53 + j - i * 53 = j by omega, List.getElem?_append_left hj]
      exact hu
    have := World.ownsRow.cells h (g := g) rfl _ _ hat
    rw [Addr.add_mid, Nat.zero_add] at this
    rw [Nat.zero_add]; exact this
theorem VO.nil (B : Nat) (w : World) : VO B w (.slice none 0 0) [] := World.ownsRow_nil _ _ _ _
theorem VO.fr {B : Nat} {F : Nat → Prop} {w w' : World} {v : Value} {L : List VAct} (h : VO B w v L) (hf : Fr F w w') (hn : ∀ k, v.ownBlock = some k → ¬ F k) : VO B w' v L := by
  refine ⟨h.1, ?_⟩
  rcases h.2 with h' | ⟨g, cap, cur, rfl, h1, hh, h2⟩
  · exact .inl h'
  · exact .inr ⟨g, cap, cur, rfl, h1, (hf.block g (Array.getElem?_eq_some_iff.1 hh).1 (hn g rfl)).trans hh, h2⟩
theorem VO.below {B : Nat} {w w' : World} {v : Value} {L : List VAct} (h : VO B w v L) (hb : Below w.heap.size w w') : VO B w' v L := h.fr (Fr.of_below (F := fun _ => False) hb) (fun _ _ h => h)
theorem VO.form {B : Nat} {w : World} {v : Value} {L : List VAct} (h : VO B w v L) : ∃ A c, v = .slice A L.length c := by
  rcases h.2 with ⟨rfl, h0⟩ | ⟨g, cap, cur, rfl, _⟩
  · exact ⟨none, 0, by rw [h0]⟩
  · exact ⟨_, cap, rfl⟩
theorem VO.form2 {B : Nat} {w : World} {v : Value} {L : List VAct} (h : VO B w v L) : ∃ A n c, v = .slice A n c := by
  obtain ⟨A, c, h⟩ := h.form
  exact ⟨A, _, c, h⟩
theorem VO.lt {B : Nat} {w : World} {v : Value} {L : List VAct} (h : VO B w v L) : ∀ k, v.ownBlock = some k → B ≤ k ∧ k < w.heap.size ∧ ∃ cs, Blk w k cs 70 := fun k hk => by
  rcases h.2 with ⟨rfl, h0⟩ | ⟨g, cap, cur, rfl, h1, hh, _⟩
  · simp [Value.ownBlock] at hk
  · simp [Value.ownBlock] at hk
    subst hk
    exact ⟨h1, (Array.getElem?_eq_some_iff.1 hh).1, cur, hh⟩

theorem VR.below' {w w' : World} {A : Option Addr} {L : List VAct} (h : VR w A L) (hb : Below w.heap.size w w') : VR w' A L := h.below hb
/-- The document's book holds the votes R. -/
structure RefB (w : World) (rb : Nat) (N : Int) (R : List VAct) : Prop where
  row : ∃ v, Blk w rb #[.int .i64 N, v] 68 ∧ VO (rb + 1) w v R
  ok : OnOk R
  small : R.length ≤ 1000
theorem RefB.lt {w : World} {rb : Nat} {N : Int} {R : List VAct} (h : RefB w rb N R) : rb < w.heap.size := by
  obtain ⟨v, hb, _⟩ := h.row
  exact hb.lt
theorem RefB.below {w w' : World} {rb : Nat} {N : Int} {R : List VAct} (h : RefB w rb N R) (hb : Below w.heap.size w w') : RefB w' rb N R := by
  obtain ⟨v, h1, h2⟩ := h.row
  exact ⟨⟨v, h1.below hb, h2.below hb⟩, h.ok, h.small⟩
theorem RefB.read {w : World} {rb : Nat} {N : Int} {R : List VAct} (h : RefB w rb N R) : ∃ A c, Blk w rb #[.int .i64 N, .slice A R.length c] 68 ∧ VR w A R := by
  obtain ⟨v, h1, h2⟩ := h.row
  obtain ⟨A, c, rfl, h3, _⟩ := h2.reads h.ok
  exact ⟨A, c, h1, h3⟩
theorem built_rbook (n : Int) : Try.prog.built 68 [(0, .int .i64 n)] = some #[.int .i64 n, .slice none 0 0] := by kernel_rfl
theorem rbnew_ok (n : Int) (w : World) (hg : goodN n = true) : Calls Try.prog 14 #[.int .i64 n] w fun e w' => ∃ rb, e = .returned (.pointer (some ⟨rb, 0, none⟩)) ∧ RefB w' rb n [] ∧ w.heap.size ≤ rb ∧ Below w.heap.size w w' := by
  go_enter Try.func14, Try.ntmps14
  go_wp2_with fail
  refine (rgood_any n w).mono ?_
  rintro e w' ⟨rfl, rfl⟩
  rw [hg]
  go_wp2_with (first | (refine wpList_val rfl (exec_build1 _ _ _ _ rfl rfl _ (built_rbook n)) ?_) | (refine wpList_box_big rfl 68 _ rfl _ rfl ?_; intro rb w1 HRB hb1 hbl1 HS1))
  go_ret
  exact ⟨rb, rfl, ⟨⟨_, hb1, VO.nil _ _⟩, fun s h => (by cases h), Nat.zero_le _⟩, Nat.le_of_eq HRB.out, hbl1⟩
theorem rbnew_no (n : Int) (w : World) (hg : goodN n = false) : Calls Try.prog 14 #[.int .i64 n] w fun e w' => e = .returned (.pointer none) ∧ w = w' := by
  go_enter Try.func14, Try.ntmps14
  go_wp2_with fail
  refine (rgood_any n w).mono ?_
  rintro e w' ⟨rfl, rfl⟩
  rw [hg]
  go_wp2_with fail
  go_ret
  exact ⟨rfl, rfl⟩

end Go.Proofs.Ytpbcpocheblbfaa
