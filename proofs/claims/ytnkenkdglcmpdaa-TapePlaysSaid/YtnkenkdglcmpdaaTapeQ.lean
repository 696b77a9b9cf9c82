/- The document's tape: its words, the walks of its functions that change nothing, and of gone. -/
import Derived.Test.YtnkenkdglcmpdaaTapeK
import Derived.Test.YtnkenkdglcmpdaaReg
namespace Go.Proofs.Ytnkenkdglcmpdaa
set_option linter.unusedVariables false
set_option linter.unusedSimpArgs false
open Go.RowKit
attribute [local go_sem] max2_int min2_int max_two min_two min_four

def rcells (T : TS) (l k : Int) (u0 u1 : Value) : Array Value :=
  #[.int .i64 T.room, u0, u1, .int .i64 (T.s0 : Int), .int .i64 (T.s1 : Int), .bool T.off, .bool T.plan.isSome, .int .i64 l, .int .i64 k, .int .i64 T.ops, .int .i64 T.fails]
/-- Block rb is the document's tape, and has T; F holds all of its blocks. -/
structure RefAt (w : World) (rb : Nat) (T : TS) (F : Nat → Prop) (l k : Int) (u0 u1 : Value) : Prop where
  blk : Blk w rb (rcells T l k u0 u1) 95
  o0 : OB w u0 T.b0
  o1 : OB w u1 T.b1
  pl : ∀ a b, T.plan = some (a, b) → a = l ∧ b = k
  apart : ∀ k, u0.ownBlock = some k → u1.ownBlock ≠ some k
  ft : F rb
  f0 : ∀ k, u0.ownBlock = some k → F k
  f1 : ∀ k, u1.ownBlock = some k → F k
  flt : ∀ k, F k → k < w.heap.size
  wf : T.ok
def RefR (w : World) (rb : Nat) (T : TS) (F : Nat → Prop) : Prop := ∃ l k u0 u1, RefAt w rb T F l k u0 u1
theorem RefAt.fr {w w' : World} {rb : Nat} {T : TS} {F G : Nat → Prop} {l k : Int} {u0 u1 : Value} (h : RefAt w rb T F l k u0 u1) (hf : Fr G w w') (hG : ∀ k, F k → ¬ G k) : RefAt w' rb T F l k u0 u1 :=
  ⟨h.blk.fr hf (hG _ h.ft), h.o0.fr hf (fun k hk => hG k (h.f0 k hk)), h.o1.fr hf (fun k hk => hG k (h.f1 k hk)), h.pl, h.apart, h.ft, h.f0, h.f1, fun k hk => Nat.lt_of_lt_of_le (h.flt k hk) hf.size, h.wf⟩
theorem RefR.fr {w w' : World} {rb : Nat} {T : TS} {F G : Nat → Prop} (h : RefR w rb T F) (hf : Fr G w w') (hG : ∀ k, F k → ¬ G k) : RefR w' rb T F := by
  obtain ⟨l, k, u0, u1, h⟩ := h; exact ⟨l, k, u0, u1, h.fr hf hG⟩
theorem RefAt.below {w w' : World} {rb : Nat} {T : TS} {F : Nat → Prop} {l k : Int} {u0 u1 : Value} (h : RefAt w rb T F l k u0 u1) (hf : Below w.heap.size w w') : RefAt w' rb T F l k u0 u1 := h.fr (Fr.of_below (F := fun _ => False) hf) (fun _ _ h => h)
theorem RefR.below {w w' : World} {rb : Nat} {T : TS} {F : Nat → Prop} (h : RefR w rb T F) (hf : Below w.heap.size w w') : RefR w' rb T F := h.fr (Fr.of_below (F := fun _ => False) hf) (fun _ _ h => h)
section
variable {w : World} {rb : Nat} {T : TS} {F : Nat → Prop} {l k : Int} {u0 u1 : Value}
theorem RefAt.len0 (h : RefAt w rb T F l k u0 u1) : T.b0.length ≤ 1073741824 := by
  have h1 := h.wf.fit; have h2 := h.wf.room; unfold TS.used at h1; omega
theorem RefAt.len1 (h : RefAt w rb T F l k u0 u1) : T.b1.length ≤ 1073741824 := by
  have h1 := h.wf.fit; have h2 := h.wf.room; unfold TS.used at h1; omega
/-- The block itself is written, in whatever cells; the rows stay. -/
theorem RefAt.re (h : RefAt w rb T F l k u0 u1) {w' : World} {T' : TS} {l' k' : Int} (hf : Fr (fun k => k = rb) w w') (hb : Blk w' rb (rcells T' l' k' u0 u1) 95) (e0 : T'.b0 = T.b0) (e1 : T'.b1 = T.b1) (ep : ∀ a b, T'.plan = some (a, b) → a = l' ∧ b = k') (ok : T'.ok) : RefAt w' rb T' F l' k' u0 u1 :=
  ⟨hb, e0 ▸ h.o0.fr hf (fun k hk e => h.o0.ne h.blk (by decide) (e ▸ hk)), e1 ▸ h.o1.fr hf (fun k hk e => h.o1.ne h.blk (by decide) (e ▸ hk)), ep, h.apart, h.ft, h.f0, h.f1, fun k hk => Nat.lt_of_lt_of_le (h.flt k hk) hf.size, ok⟩
theorem fr_own (w : World) (rb i : Nat) (v : Value) : Fr (fun k => k = rb) w (w.setCell ⟨rb, i, none⟩ v) := Fr.setCell _ w ⟨rb, i, none⟩ v rfl
theorem RefAt.row0 (h : RefAt w rb T F l k u0 u1) {w1 : World} {v : Value} {xs : List UInt8} (hf : Fresh w w1 v xs) (ok : TS.ok { T with b0 := xs }) :
    RefAt (w1.setCell ⟨rb, 1, none⟩ v) rb { T with b0 := xs } (fun k => F k ∨ v.ownBlock = some k) l k v u1 := by
  obtain ⟨ho, hb, hw⟩ := hf
  have h1 := h.below hb
  refine ⟨h1.blk.set 1 v, ho.setOther _ _ (ho.ne h1.blk (by decide)), h1.o1.setOther _ _ (h1.o1.ne h1.blk (by decide)), h.pl, ?_, .inl h.ft, fun k hk => .inr hk, fun k hk => .inl (h.f1 k hk), ?_, ok⟩
  · intro k hk hk1
    have a := hw k hk
    have b := h.o1.lt k hk1
    omega
  · intro k hk
    simp only [World.setCell, Array.size_modify]
    rcases hk with hk | hk
    · exact Nat.lt_of_lt_of_le (h.flt k hk) hb.size
    · exact ho.lt k hk
theorem RefAt.row1 (h : RefAt w rb T F l k u0 u1) {w1 : World} {v : Value} {xs : List UInt8} (hf : Fresh w w1 v xs) (ok : TS.ok { T with b1 := xs }) :
    RefAt (w1.setCell ⟨rb, 2, none⟩ v) rb { T with b1 := xs } (fun k => F k ∨ v.ownBlock = some k) l k u0 v := by
  obtain ⟨ho, hb, hw⟩ := hf
  have h1 := h.below hb
  refine ⟨h1.blk.set 2 v, h1.o0.setOther _ _ (h1.o0.ne h1.blk (by decide)), ho.setOther _ _ (ho.ne h1.blk (by decide)), h.pl, ?_, .inl h.ft, fun k hk => .inl (h.f0 k hk), fun k hk => .inr hk, ?_, ok⟩
  · intro k hk1 hk
    have a := hw k hk
    have b := h.o0.lt k hk1
    omega
  · intro k hk
    simp only [World.setCell, Array.size_modify]
    rcases hk with hk | hk
    · exact Nat.lt_of_lt_of_le (h.flt k hk) hb.size
    · exact ho.lt k hk
end
theorem upd_row {w w1 : World} {rb i : Nat} {F : Nat → Prop} {v : Value} {xs : List UInt8} (hf : Fresh w w1 v xs) (ht : F rb) : Upd w (w1.setCell ⟨rb, i, none⟩ v) F (fun k => F k ∨ v.ownBlock = some k) :=
  ⟨(Fr.of_below hf.2.1).trans (Fr.setCell F w1 _ _ ht) (fun _ h => .inl h), fun k hk => hk.elim .inl (fun h => .inr (hf.2.2 k h))⟩
theorem upd_re {w w' : World} {rb : Nat} {F : Nat → Prop} (hf : Fr (fun k => k = rb) w w') (ht : F rb) : Upd w w' F F := ⟨hf.mono fun i h => .inl (h ▸ ht), fun k h => .inl h⟩

theorem rfault_any (rb : Nat) (n : Int) (off : Bool) (w : World) (h5 : w.cell? ⟨rb, 5, none⟩ = some (.bool off)) :
    Calls Try.prog 87 #[.pointer (some ⟨rb, 0, none⟩), .int .i64 n] w fun e w' => e = .returned (.int .i64 (faultN off n)) ∧ w = w' := by
  obtain ⟨r, hr⟩ : ∃ r, faultN off n = r := ⟨_, rfl⟩
  rw [hr]
  unfold faultN at hr
  by_cases h0 : n = 0
  · subst h0
    rw [if_pos (.inl rfl)] at hr
    cases off
    all_goals
      go_enter Try.func87, Try.ntmps87
      go_wp2
      go_ret
      exact ⟨ret_int hr, rfl⟩
  · by_cases h1 : n = 1
    · subst h1
      rw [if_pos (.inr rfl)] at hr
      cases off
      all_goals
        go_enter Try.func87, Try.ntmps87
        go_wp2
        go_ret
        exact ⟨ret_int hr, rfl⟩
    · rw [if_neg (by omega)] at hr
      have b0 : (n != 0) = true := by rw [bne_iff_ne]; exact h0
      have b1 : (n != 1) = true := by rw [bne_iff_ne]; exact h1
      have HR := Lib.hid hr
      clear hr h0 h1
      go_enter Try.func87, Try.ntmps87
      go_wp2
      go_ret
      exact ⟨ret_int HR.out, rfl⟩
theorem rused_any (rb : Nat) (T : TS) (F : Nat → Prop) (w : World) (h : RefR w rb T F) :
    Calls Try.prog 75 #[.pointer (some ⟨rb, 0, none⟩)] w fun e w' => e = .returned (.int .i64 (T.used : Int)) ∧ ∃ n, w' = w.drewN n := by
  obtain ⟨l, k, u0, u1, h⟩ := h
  have l0 := h.len0
  have l1 := h.len1
  obtain ⟨A0, c0, rfl, _⟩ := h.o0.reads' (by omega)
  obtain ⟨A1, c1, rfl, _⟩ := h.o1.reads' (by omega)
  have h1 : w.cell? ⟨rb, 1, none⟩ = some (.slice A0 T.b0.length c0) := h.blk.cell 1
  have h2 : w.cell? ⟨rb, 2, none⟩ = some (.slice A1 T.b1.length c1) := h.blk.cell 2
  have hu : (T.b0.length : Int) + (T.b1.length : Int) = (T.used : Int) := by unfold TS.used; omega
  have HU := Lib.hid hu
  clear h hu
  go_enter Try.func75, Try.ntmps75
  go_wp2_with fail
  go_quiet (fail)
  go_wp2
  go_ret
  exact ⟨ret_int HU.out, _, rfl⟩
theorem rsure_any (rb : Nat) (n : Int) (T : TS) (F : Nat → Prop) (w : World) (h : RefR w rb T F) :
    Calls Try.prog 77 #[.pointer (some ⟨rb, 0, none⟩), .int .i64 n] w fun e w' => e = .returned (.int .i64 (T.sure n)) ∧ w = w' := by
  obtain ⟨l, k, u0, u1, h⟩ := h
  have h3 : w.cell? ⟨rb, 3, none⟩ = some (.int .i64 (T.s0 : Int)) := h.blk.cell 3
  have h4 : w.cell? ⟨rb, 4, none⟩ = some (.int .i64 (T.s1 : Int)) := h.blk.cell 4
  clear h
  obtain ⟨r, hr⟩ : ∃ r, T.sure n = r := ⟨_, rfl⟩
  rw [hr]
  unfold TS.sure at hr
  by_cases h0 : n = 0
  · subst h0
    rw [if_pos rfl] at hr
    have HR := Lib.hid hr
    clear hr
    go_enter Try.func77, Try.ntmps77
    go_wp2
    go_ret
    exact ⟨ret_int HR.out, rfl⟩
  · by_cases h1 : n = 1
    · subst h1
      rw [if_neg (by decide), if_pos rfl] at hr
      have HR := Lib.hid hr
      clear hr
      go_enter Try.func77, Try.ntmps77
      go_wp2
      go_ret
      exact ⟨ret_int HR.out, rfl⟩
    · rw [if_neg h0, if_neg h1] at hr
      have b0 : (n != 0) = true := by rw [bne_iff_ne]; exact h0
      have b1 : (n != 1) = true := by rw [bne_iff_ne]; exact h1
      have HR := Lib.hid hr
      clear hr h0 h1
      go_enter Try.func77, Try.ntmps77
      go_wp2
      go_ret
      exact ⟨ret_int HR.out, rfl⟩
set_option maxHeartbeats 1000000 in
theorem rread_any (rb : Nat) (n : Int) (T : TS) (F : Nat → Prop) (w : World) (h : RefR w rb T F) :
    Calls Try.prog 76 #[.pointer (some ⟨rb, 0, none⟩), .int .i64 n] w fun e w' => ∃ v, e = .returned (.tuple #[v, .int .i64 (faultN T.off n)]) ∧ Fresh w w' v (T.read n) := by
  obtain ⟨l, k, u0, u1, h⟩ := h
  have h5 : w.cell? ⟨rb, 5, none⟩ = some (.bool T.off) := h.blk.cell 5
  obtain ⟨xs, hxs⟩ : ∃ xs, T.read n = xs := ⟨_, rfl⟩
  rw [hxs]
  by_cases hz : faultN T.off n = 0
  · obtain ⟨ho, hn⟩ := fault_zero hz
    rw [hz]
    have HZ := Lib.hid hz
    have HLO := Lib.hid (show OB (w.alloc (.cells #[] 5)) (.slice (some ⟨w.heap.size, 0, none⟩) 0 0) [] from OB.lit w [] _ rfl (by decide))
    unfold TS.read at hxs
    rw [if_pos hz] at hxs
    clear hz
    rcases hn with rfl | rfl
    · obtain ⟨A, c, rfl, hr, _⟩ := h.o0.reads' (by have := h.len0; omega)
      have hc : (w.alloc (.cells #[] 5)).cell? ⟨rb, 1, none⟩ = some (.slice A T.b0.length c) := (h.blk.alloc _).cell 1
      have hl := h.len0
      have HR := Lib.hid (hr.below ((Below.refl w.heap.size w).alloc (Nat.le_refl _) (.cells #[] 5)))
      have HX : Hid (T.b0 = xs) := hxs
      clear hr h hxs
      go_enter Try.func76, Try.ntmps76
      go_wp2_with fail
      refine (rfault_any rb 0 T.off w h5).mono ?_
      rintro e w' ⟨rfl, rfl⟩
      rw [HZ.out]
      go_wp2_with (at_builtin; refine wpList_append_b rfl (.tmp 13) (.tmp 19) rfl (.slice (some ⟨w.heap.size, 0, none⟩) 0 0) [] rfl HLO.out A c T.b0 rfl HR.out (by simp; omega) ?_; intro v' w1 HO hg hat)
      have HF := Lib.hid (clone_facts HO hg hat)
      clear HO hg hat
      go_ret2
      rw [← HX.out]
      exact ⟨v', rfl, HF.out⟩
    · obtain ⟨A, c, rfl, hr, _⟩ := h.o1.reads' (by have := h.len1; omega)
      have hc : (w.alloc (.cells #[] 5)).cell? ⟨rb, 2, none⟩ = some (.slice A T.b1.length c) := (h.blk.alloc _).cell 2
      have hl := h.len1
      have HR := Lib.hid (hr.below ((Below.refl w.heap.size w).alloc (Nat.le_refl _) (.cells #[] 5)))
      have HX : Hid (T.b1 = xs) := hxs
      clear hr h hxs
      go_enter Try.func76, Try.ntmps76
      go_wp2_with fail
      refine (rfault_any rb 1 T.off w h5).mono ?_
      rintro e w' ⟨rfl, rfl⟩
      rw [HZ.out]
      go_wp2_with (at_builtin; refine wpList_append_b rfl (.tmp 13) (.tmp 19) rfl (.slice (some ⟨w.heap.size, 0, none⟩) 0 0) [] rfl HLO.out A c T.b1 rfl HR.out (by simp; omega) ?_; intro v' w1 HO hg hat)
      have HF := Lib.hid (clone_facts HO hg hat)
      clear HO hg hat
      go_ret2
      rw [← HX.out]
      exact ⟨v', rfl, HF.out⟩
  · have hx : xs = [] := by rw [← hxs]; unfold TS.read; rw [if_neg hz]
    subst hx
    obtain ⟨r, hr⟩ : ∃ r, r = faultN T.off n := ⟨_, rfl⟩
    have hne : (r != 0) = true := by rw [bne_iff_ne, hr]; exact hz
    have HR := Lib.hid hr
    rw [← hr]
    clear h hxs hz hr
    go_enter Try.func76, Try.ntmps76
    go_wp2_with fail
    refine (rfault_any rb n T.off w h5).mono ?_
    rintro e w' ⟨rfl, rfl⟩
    rw [← HR.out]
    go_wp2
    go_ret2
    exact ⟨_, rfl, fresh_nil w⟩

end Go.Proofs.Ytnkenkdglcmpdaa
