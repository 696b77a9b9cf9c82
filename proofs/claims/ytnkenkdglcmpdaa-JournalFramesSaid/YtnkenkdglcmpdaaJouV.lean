/- What the journal's methods come to on a tape with power: plain Lean, no program in sight. -/
import Derived.Test.YtnkenkdglcmpdaaJouU
namespace Go.Proofs.Ytnkenkdglcmpdaa
set_option linter.unusedVariables false
set_option linter.unusedSimpArgs false

def dat (ls : List (List UInt8)) : List (UInt8 × List UInt8) := ls.map fun l => (68, l)
theorem TS.used_b (T : TS) (a : Int) (ha : a = 0 ∨ a = 1) : T.used = (T.b a).length + (T.b (1 - a)).length := by
  rcases ha with rfl | rfl
  · simp [TS.used, TS.b]
  · simp [TS.used, TS.b]; omega
/-- A tape whose area a has bytes bs more, or other ones; all else is as it was, but the count of operations. -/
structure Ext (a : Int) (T T' : TS) : Prop where
  other : T'.b (1 - a) = T.b (1 - a)
  off : T'.off = T.off
  plan : T.plan = none → T'.plan = none
  fails : T'.fails = T.fails
  room : T'.room = T.room
  osure : T'.sure (1 - a) = T.sure (1 - a)
theorem Ext.refl (a : Int) (T : TS) : Ext a T T := ⟨rfl, rfl, fun h => h, rfl, rfl, rfl⟩
theorem Ext.trans {a : Int} {T1 T2 T3 : TS} (h : Ext a T1 T2) (k : Ext a T2 T3) : Ext a T1 T3 :=
  ⟨k.other.trans h.other, k.off.trans h.off, fun p => k.plan (h.plan p), k.fails.trans h.fails, k.room.trans h.room, k.osure.trans h.osure⟩
theorem step_b (T : TS) (a : Int) : T.step.b a = T.b a := rfl
theorem step_sure (T : TS) (a : Int) : T.step.sure a = T.sure a := rfl
theorem op_none {T : TS} (h : T.plan = none) (f : TS → TS) : T.op f = (0, f T.step) := by unfold TS.op; rw [h]
theorem faultN_ok {a : Int} (ha : a = 0 ∨ a = 1) : faultN false a = 0 := by unfold faultN; rw [if_pos ha]; rfl
theorem append_fine {T : TS} {a : Int} {xs : List UInt8} (ha : a = 0 ∨ a = 1) (ho : T.off = false) (hp : T.plan = none) (hr : ((T.b a).length + (T.b (1 - a)).length + xs.length : Int) ≤ T.room) :
    (T.append a xs).1 = 0 ∧ Ext a T (T.append a xs).2 ∧ (T.append a xs).2.b a = T.b a ++ xs ∧ (T.append a xs).2.sure a = T.sure a := by
  have hu := T.used_b a ha
  have e : T.append a xs = (0, T.step.app a xs) := by
    unfold TS.append
    rw [ho, if_neg (by rw [faultN_ok ha]; simp), if_neg (by omega), op_none hp]
  rw [e]
  rcases ha with rfl | rfl
  · exact ⟨rfl, ⟨rfl, rfl, fun h => by simp [TS.app, TS.step, h], rfl, rfl, rfl⟩, rfl, rfl⟩
  · exact ⟨rfl, ⟨rfl, rfl, fun h => by simp [TS.app, TS.step, h], rfl, rfl, rfl⟩, rfl, rfl⟩
theorem sync_fine {T : TS} {a : Int} (ha : a = 0 ∨ a = 1) (ho : T.off = false) (hp : T.plan = none) :
    (T.sync a).1 = 0 ∧ Ext a T (T.sync a).2 ∧ (T.sync a).2.b a = T.b a ∧ (T.sync a).2.sure a = ((T.b a).length : Int) := by
  have e : T.sync a = (0, T.step.syn a) := by
    unfold TS.sync
    rw [ho, if_neg (by rw [faultN_ok ha]; simp), op_none hp]
  rw [e]
  rcases ha with rfl | rfl
  · exact ⟨rfl, ⟨rfl, rfl, fun h => by simp [TS.syn, TS.step, h], rfl, rfl, rfl⟩, rfl, rfl⟩
  · exact ⟨rfl, ⟨rfl, rfl, fun h => by simp [TS.syn, TS.step, h], rfl, rfl, rfl⟩, rfl, rfl⟩
theorem clear_fine {T : TS} {a : Int} (ha : a = 0 ∨ a = 1) (ho : T.off = false) (hp : T.plan = none) :
    (T.clear a).1 = 0 ∧ Ext a T (T.clear a).2 ∧ (T.clear a).2.b a = [] := by
  have e : T.clear a = (0, T.step.clr a) := by
    unfold TS.clear
    rw [ho, if_neg (by rw [faultN_ok ha]; simp), op_none hp]
  rw [e]
  rcases ha with rfl | rfl
  · exact ⟨rfl, ⟨rfl, rfl, fun h => by simp [TS.clr, TS.step, h], rfl, rfl, rfl⟩, rfl⟩
  · exact ⟨rfl, ⟨rfl, rfl, fun h => by simp [TS.clr, TS.step, h], rfl, rfl, rfl⟩, rfl⟩
theorem dat_snoc (ls : List (List UInt8)) (l : List UInt8) : dat (ls ++ [l]) = dat ls ++ [(68, l)] := by simp [dat]
theorem encs_one (p : UInt8 × List UInt8) : encs [p] = frameB p.1 p.2 := by simp [encs]
/-- Records are laid, one behind another. -/
theorem layFold_fine (a : Int) (ha : a = 0 ∨ a = 1) : ∀ (ls : List (List UInt8)) (n : Int) (T : TS), T.off = false → T.plan = none → 0 ≤ n → n + ((encs (dat ls)).length : Int) ≤ 4000000000 → ((T.b a).length + (T.b (1 - a)).length + (encs (dat ls)).length : Int) ≤ T.room →
    ∃ T', layFold a ls (n, 0, T) = (n + ((encs (dat ls)).length : Int), 0, T') ∧ Ext a T T' ∧ T'.b a = T.b a ++ encs (dat ls)
  | [], n, T, _, _, _, _, _ => ⟨T, by simp [layFold, dat, encs_nil], Ext.refl _ _, by simp [dat, encs_nil]⟩
  | l :: ls, n, T, ho, hp, h0, h1, hr => by
    have ed : encs (dat (l :: ls)) = frameB 68 l ++ encs (dat ls) := encs_cons (68, l) (dat ls)
    rw [ed, List.length_append] at hr h1 ⊢
    obtain ⟨e1, e2, e3, e4⟩ := append_fine (xs := frameB 68 l) ha ho hp (by omega)
    have hput : layPut a (frameB 68 l) (n, 0, T) = (n + ((frameB 68 l).length : Int), 0, (T.append a (frameB 68 l)).2) := by
      unfold layPut
      rw [if_pos rfl]
      simp only
      rw [IntWalk.wrap64_in _ (by omega), e1]
    obtain ⟨T', k1, k2, k3⟩ := layFold_fine a ha ls (n + ((frameB 68 l).length : Int)) (T.append a (frameB 68 l)).2 (e2.off.trans ho) (e2.plan hp) (by omega) (by omega)
      (by rw [e3, e2.other, e2.room, List.length_append]; omega)
    refine ⟨T', ?_, e2.trans k2, by rw [k3, e3, List.append_assoc]⟩
    have : layFold a (l :: ls) (n, 0, T) = layFold a ls (layPut a (frameB 68 l) (n, 0, T)) := rfl
    rw [this, hput, k1]
    congr 1
    omega
theorem putT_num (t : Nat) (h : t < 9223372036854775808) : numberP (putN t) = if (t : Int) ≤ 1099511627776 then (t : Int) else 0 := by
  have h1 := numP_put t [] h
  rw [List.append_nil] at h1
  unfold numberP
  rw [h1]
  simp only [putN_len]
  by_cases ht : (t : Int) ≤ 1099511627776
  · rw [if_pos ⟨trivial, ht, by omega⟩, if_pos ht]
  · rw [if_neg (fun h => ht h.2.1), if_neg ht]
theorem turnframe_ok (t : Nat) (h0 : 0 < t) (h1 : t ≤ 1099511627776) : okF (71, putN t) := by
  refine ⟨.inr rfl, ?_, fun _ => ?_⟩
  · have := nbytes_small (n := t) (by omega)
    simp only [putN_len]; omega
  · simp only
    rw [putT_num t (by omega), if_pos (by omega)]
    omega
theorem rec_ok (l : List UInt8) (h : l.length ≤ 4194304) : okF (68, l) := ⟨.inl rfl, h, fun h => absurd (show (68 : UInt8) = 71 from h) (by decide)⟩
theorem dat_ok {ls : List (List UInt8)} (h : ∀ l ∈ ls, l.length ≤ 4194304) : ∀ p ∈ dat ls, okF p := fun p hp => by
  obtain ⟨l, hl, rfl⟩ := List.mem_map.1 hp
  exact rec_ok l (h l hl)
theorem recsOf_append (F G : List (UInt8 × List UInt8)) : recsOf (F ++ G) = recsOf F ++ recsOf G := by simp [recsOf]
theorem recsOf_dat (ls : List (List UInt8)) : recsOf (dat ls) = ls := by
  unfold recsOf dat
  rw [List.filter_eq_self.2 (fun p hp => by obtain ⟨l, _, rfl⟩ := List.mem_map.1 hp; rfl), List.map_map]
  simp [Function.comp_def]
theorem recsOf_71 (ys : List UInt8) : recsOf [(71, ys)] = [] := by simp [recsOf]
theorem turnOf_dat (F : List (UInt8 × List UInt8)) (ls : List (List UInt8)) : turnOf (F ++ dat ls) = turnOf F := by
  have : ∀ ls : List (List UInt8), turnOf (F ++ dat ls) = turnOf F := rev_ind (by simp [dat]) fun ls l ih => by
    rw [dat_snoc, ← List.append_assoc, turnOf_rec _ _ _ (by decide), ih]
  exact this ls
/-- What a laid area holds. -/
def laid (ls : List (List UInt8)) (t : Nat) : List (UInt8 × List UInt8) := dat ls ++ [(71, putN t)]
theorem laid_ok {ls : List (List UInt8)} {t : Nat} (h : ∀ l ∈ ls, l.length ≤ 4194304) (h0 : 0 < t) (h1 : t ≤ 1099511627776) : ∀ p ∈ laid ls t, okF p := fun p hp => by
  rcases List.mem_append.1 hp with hp | hp
  · exact dat_ok h p hp
  · have : p = (71, putN t) := by simpa using hp
    rw [this]; exact turnframe_ok t h0 h1
theorem recsOf_laid (ls : List (List UInt8)) (t : Nat) : recsOf (laid ls t) = ls := by rw [laid, recsOf_append, recsOf_dat, recsOf_71, List.append_nil]
theorem turnOf_laid (ls : List (List UInt8)) (t : Nat) (h1 : t ≤ 1099511627776) : turnOf (laid ls t) = (t : Int) := by
  rw [laid, turnOf_turn, putT_num t (by omega), if_pos (by omega)]
  have h := turnOf_dat [] ls
  rw [List.nil_append] at h
  rw [h]
  show max (0 : Int) (t : Int) = _
  omega
/-- Records are laid anew. -/
theorem layN_fine {T : TS} {a : Int} {ls : List (List UInt8)} {t : Nat} (ha : a = 0 ∨ a = 1) (ho : T.off = false) (hp : T.plan = none) (hr : ((T.b (1 - a)).length + (encs (laid ls (t + 1))).length : Int) ≤ T.room) (hm : (encs (laid ls (t + 1))).length ≤ 4000000000) :
    ∃ T', layN T a (t : Int) ls = (((encs (laid ls (t + 1))).length : Int), 0, T') ∧ Ext a T T' ∧ T'.b a = encs (laid ls (t + 1)) ∧ T'.sure a = ((encs (laid ls (t + 1))).length : Int) := by
  have el : encs (laid ls (t + 1)) = encs (dat ls) ++ frameB 71 (putN (t + 1)) := by rw [laid, encs_append, encs_one]
  obtain ⟨c1, c2, c3⟩ := clear_fine ha ho hp
  rw [el, List.length_append] at hr hm
  obtain ⟨T1, k1, k2, k3⟩ := layFold_fine a ha ls 0 (T.clear a).2 (c2.off.trans ho) (c2.plan hp) (by omega) (by omega) (by rw [c3, c2.other, c2.room]; simp only [List.length_nil]; omega)
  rw [c3, List.nil_append] at k3
  have x2 := c2.trans k2
  obtain ⟨e1, e2, e3, e4⟩ := append_fine (xs := frameB 71 (putN (t + 1))) ha (x2.off.trans ho) (x2.plan hp) (by rw [k3, x2.other, x2.room]; omega)
  have x3 := x2.trans e2
  obtain ⟨s1, s2, s3, s4⟩ := sync_fine ha (x3.off.trans ho) (x3.plan hp)
  have hend : layEnd a (t : Int) (layFold a ls (0, 0, (T.clear a).2)) = (((encs (laid ls (t + 1))).length : Int), 0, (T1.append a (frameB 71 (putN (t + 1)))).2) := by
    rw [k1]
    unfold layEnd layPut
    rw [if_pos rfl]
    simp only
    rw [show ((t : Int) + 1).toNat = t + 1 by omega, IntWalk.wrap64_in _ (by omega), e1, el, List.length_append]
    congr 1
    omega
  refine ⟨((T1.append a (frameB 71 (putN (t + 1)))).2.sync a).2, ?_, x3.trans s2, ?_, ?_⟩
  · unfold layN
    rw [if_neg (by rw [c1]; simp), hend]
    rw [if_pos rfl]
    simp only
    rw [s1]
  · rw [s3, e3, k3, el]
  · rw [s4, e3, k3, el]

/-- A tape with power, of whose areas one has the greater turn. -/
structure Has (T : TS) (a : Int) (t : Nat) (ls : List (List UInt8)) : Prop where
  area : a = 0 ∨ a = 1
  off : T.off = false
  plan : T.plan = none
  pos : 0 < t
  small : t < 1099511627776
  turn : turnOf (framesP (T.b a)) = (t : Int)
  recs : recsOf (framesP (T.b a)) = ls
  less : turnOf (framesP (T.b (1 - a))) < (t : Int)
  short : ∀ l ∈ ls, l.length ≤ 4194304
  fit : ((T.b a).length + (encs (laid ls (t + 1))).length : Int) ≤ T.room
  room : T.room ≤ 1073741824
theorem read_b {T : TS} {a : Int} (ho : T.off = false) (ha : a = 0 ∨ a = 1) : T.read a = T.b a := by
  unfold TS.read
  rw [ho, if_pos (faultN_ok ha)]
theorem Has.finds {T : TS} {a : Int} {t : Nat} {ls : List (List UInt8)} (h : Has T a t ls) : found T = (⟨a, (t : Int), 0, T.fails⟩, ls) := by
  have h0 := read_b h.off (a := 0) (.inl rfl)
  have h1 := read_b h.off (a := 1) (.inr rfl)
  have hp := h.pos
  have ht := h.turn
  have hr := h.recs
  have hl := h.less
  have hb0 := turnOf_bound (framesP (T.b 0))
  have hb1 := turnOf_bound (framesP (T.b 1))
  have e : found T = foundStep T 1 (foundStep T 0 (⟨1, 0, 0, T.fails⟩, [])) := rfl
  rw [e]
  unfold foundStep turnA recsA
  rw [h0, h1]
  rcases h.area with rfl | rfl
  · have hl : turnOf (framesP (T.b 1)) < (t : Int) := hl
    simp only
    have p0 : (0 : Int) < (t : Int) := by omega
    rw [ht, hr]
    simp only [if_pos p0]
    rw [if_neg (by omega)]
  · have hl : turnOf (framesP (T.b 0)) < (t : Int) := hl
    simp only
    by_cases h2 : 0 < turnOf (framesP (T.b 0))
    · simp only [if_pos h2]
      rw [ht, hr, if_pos (by omega)]
    · simp only [if_neg h2]
      rw [ht, hr, if_pos (by omega)]
theorem long_no {ls : List (List UInt8)} (h : ∀ l ∈ ls, l.length ≤ 4194304) : long ls = false := by
  unfold long
  rw [List.any_eq_false]
  intro l hl
  have := h l hl
  simp; omega
/-- What Open comes to. -/
theorem Has.opens {T : TS} {a : Int} {t : Nat} {ls : List (List UInt8)} (h : Has T a t ls) :
    ∃ T', openP T = (0, T', ⟨1 - a, (t : Int) + 1, ((encs (laid ls (t + 1))).length : Int), T.fails⟩) ∧ Ext (1 - a) T T' ∧ T'.b (1 - a) = encs (laid ls (t + 1)) ∧ T'.sure (1 - a) = ((encs (laid ls (t + 1))).length : Int) := by
  have ha : 1 - a = 0 ∨ 1 - a = 1 := by have := h.area; omega
  have hfit := h.fit
  have hroom := h.room
  obtain ⟨T', k1, k2, k3, k4⟩ := layN_fine (t := t) (ls := ls) ha h.off h.plan (by rw [show 1 - (1 - a) = a by omega]; exact hfit) (by omega)
  refine ⟨T', ?_, k2, k3, k4⟩
  unfold openP
  rw [if_neg (by rw [h.off]; simp), h.finds]
  unfold JS.lay
  simp only
  have hf : JS.fault ⟨a, (t : Int), 0, T.fails⟩ T = 0 := by unfold JS.fault; rw [if_pos ⟨h.off, rfl⟩]
  have hs := h.small
  rw [hf, if_neg (by simp), long_no h.short, if_neg (by simp), if_neg (by omega), k1, if_pos rfl]
/-- Behind Open the journal's tape has the records, in the other area. -/
theorem Has.next {T T' : TS} {a : Int} {t : Nat} {ls : List (List UInt8)} (h : Has T a t ls) (hx : Ext (1 - a) T T') (hb : T'.b (1 - a) = encs (laid ls (t + 1))) (ht : t + 1 < 1099511627776) (hfit : ((encs (laid ls (t + 1))).length + (encs (laid ls (t + 2))).length : Int) ≤ T.room) : Has T' (1 - a) (t + 1) ls := by
  have ha : 1 - a = 0 ∨ 1 - a = 1 := by have := h.area; omega
  have hfr : framesP (T'.b (1 - a)) = laid ls (t + 1) := by rw [hb]; exact frames_encs _ (laid_ok h.short (by omega) (by omega))
  have ho := hx.other
  rw [show 1 - (1 - a) = a by omega] at ho
  refine ⟨ha, hx.off.trans h.off, hx.plan h.plan, by omega, ht, ?_, ?_, ?_, h.short, ?_, by rw [hx.room]; exact h.room⟩
  · rw [hfr, turnOf_laid _ _ (by omega)]
  · rw [hfr, recsOf_laid]
  · rw [show 1 - (1 - a) = a by omega, ho, h.turn]; omega
  · rw [hb, hx.room]; exact hfit

end Go.Proofs.Ytnkenkdglcmpdaa
