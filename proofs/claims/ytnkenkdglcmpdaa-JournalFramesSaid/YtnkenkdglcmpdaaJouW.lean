/- A journal that runs: plain Lean; begins. -/
import Derived.Test.YtnkenkdglcmpdaaJouV
namespace Go.Proofs.Ytnkenkdglcmpdaa
set_option linter.unusedVariables false
set_option linter.unusedSimpArgs false
open Go.RowKit

theorem total_snoc (ls : List (List UInt8)) (l : List UInt8) : total (ls ++ [l]) = total ls + l.length := by simp [total]
theorem total_take (ls : List (List UInt8)) (k : Nat) : 20 * (ls.take k).length + total (ls.take k) ≤ 20 * ls.length + total ls := by
  have h1 := congrArg (fun l => (List.map List.length l).sum) (List.take_append_drop k ls)
  simp only [List.map_append, List.sum_append] at h1
  unfold total
  have h2 : (ls.take k).length ≤ ls.length := by rw [List.length_take]; omega
  omega
theorem encs_len : ∀ (ls : List (List UInt8)), (∀ l ∈ ls, l.length ≤ 4194304) → (encs (dat ls)).length ≤ 13 * ls.length + total ls
  | [], _ => by simp [dat, encs_nil]
  | l :: ls, h => by
    have ih := encs_len ls (fun x hx => h x (List.mem_cons_of_mem _ hx))
    have hl := h l (List.mem_cons_self ..)
    have hn := nbytes_small (n := l.length) (by omega)
    have e : encs (dat (l :: ls)) = frameB 68 l ++ encs (dat ls) := encs_cons (68, l) (dat ls)
    rw [e, List.length_append, frameB_len, List.length_cons]
    have e2 : total (l :: ls) = l.length + total ls := by simp [total]
    omega
theorem turnframe_len (t : Nat) (h : t < 9223372036854775808) : 6 ≤ (frameB 71 (putN t)).length ∧ (frameB 71 (putN t)).length ≤ 22 := by
  have h1 := nbytes_small h
  have h2 := putN_len t
  have h3 := nbytes_small (n := (putN t).length) (by omega)
  rw [frameB_len]; omega
theorem laid_len (ls : List (List UInt8)) (t : Nat) (h : t < 9223372036854775808) : (encs (laid ls t)).length = (encs (dat ls)).length + (frameB 71 (putN t)).length := by
  rw [laid, encs_append, encs_one, List.length_append]
def runF (ls : List (List UInt8)) : List (UInt8 × List UInt8) := (71, putN 1) :: dat ls
theorem runF_snoc (ls : List (List UInt8)) (l : List UInt8) : runF (ls ++ [l]) = runF ls ++ [(68, l)] := by simp [runF, dat_snoc]
theorem runF_ok {ls : List (List UInt8)} (h : ∀ l ∈ ls, l.length ≤ 4194304) : ∀ p ∈ runF ls, okF p := fun p hp => by
  rcases List.mem_cons.1 hp with rfl | hp
  · exact turnframe_ok 1 (by omega) (by omega)
  · exact dat_ok h p hp
theorem runF_turn (ls : List (List UInt8)) : turnOf (runF ls) = 1 := by
  have h := turnOf_dat [(71, putN 1)] ls
  have e : runF ls = [(71, putN 1)] ++ dat ls := rfl
  rw [e, h]
  have h2 := turnOf_turn [] (putN 1)
  rw [List.nil_append] at h2
  rw [h2, putT_num 1 (by omega), if_pos (by omega)]
  rfl
theorem runF_recs (ls : List (List UInt8)) : recsOf (runF ls) = ls := by
  have e : runF ls = [(71, putN 1)] ++ dat ls := rfl
  rw [e, recsOf_append, recsOf_71, recsOf_dat, List.nil_append]
theorem runF_len (ls : List (List UInt8)) (h : ∀ l ∈ ls, l.length ≤ 4194304) : (encs (runF ls)).length ≤ 22 + 13 * ls.length + total ls := by
  have h1 := encs_len ls h
  have h2 := turnframe_len 1 (by omega)
  have e : encs (runF ls) = frameB 71 (putN 1) ++ encs (dat ls) := encs_cons _ _
  rw [e, List.length_append]; omega
/-- A journal with power that was laid once, and has the records ls since. -/
structure Run (T : TS) (J : JS) (ls : List (List UInt8)) : Prop where
  off : T.off = false
  plan : T.plan = none
  fails : T.fails = J.fails
  area : J.area = 0
  turn : J.turn = 1
  b0 : T.b 0 = encs (runF ls)
  b1 : T.b 1 = []
  room : T.room = 1048576
theorem Run.fault {T : TS} {J : JS} {ls : List (List UInt8)} (h : Run T J ls) : J.fault T = 0 := by
  unfold JS.fault; rw [if_pos ⟨h.off, h.fails⟩]
theorem Run.append {T : TS} {J : JS} {ls : List (List UInt8)} (h : Run T J ls) (l : List UInt8) (hs : ∀ x ∈ ls ++ [l], x.length ≤ 8000) (hl : 20 * (ls ++ [l]).length + total (ls ++ [l]) ≤ 8000) :
    (J.append T l).1 = 0 ∧ Run (J.append T l).2.1 (J.append T l).2.2 (ls ++ [l]) := by
  have h1 := runF_len ls (fun x hx => by have := hs x (List.mem_append_left _ hx); omega)
  have hll := hs l (List.mem_append_right _ (List.mem_singleton.2 rfl))
  rw [total_snoc, List.length_append, List.length_singleton] at hl
  have hn := nbytes_small (n := l.length) (by omega)
  have hfl := frameB_len 68 l
  obtain ⟨e1, e2, e3, e4⟩ := append_fine (T := T) (a := 0) (xs := frameB 68 l) (.inl rfl) h.off h.plan (by
    rw [h.b0, show (1 - 0 : Int) = 1 from rfl, h.b1, h.room]; simp only [List.length_nil]; omega)
  have e : J.append T l = (0, (T.append 0 (frameB 68 l)).2, { J with bytes := wrap64 (J.bytes + ((frameB 68 l).length : Int)) }) := by
    unfold JS.append
    rw [h.fault, if_neg (by simp), if_neg (by omega), h.area, if_pos e1]
  rw [e]
  refine ⟨rfl, e2.off.trans h.off, e2.plan h.plan, e2.fails.trans h.fails, h.area, h.turn, ?_, e2.other.trans h.b1, e2.room.trans h.room⟩
  simp only
  rw [e3, h.b0, runF_snoc, encs_append, encs_one]
theorem Run.has {T : TS} {J : JS} {ls : List (List UInt8)} (h : Run T J ls) (hs : ∀ x ∈ ls, x.length ≤ 8000) (hl : 20 * ls.length + total ls ≤ 8000) : Has T 0 1 ls := by
  have h1 := runF_len ls (fun x hx => by have := hs x hx; omega)
  have h2 := encs_len ls (fun x hx => by have := hs x hx; omega)
  have h3 := turnframe_len (1 + 1) (by omega)
  have hf : framesP (T.b 0) = runF ls := by rw [h.b0]; exact frames_encs _ (runF_ok fun x hx => by have := hs x hx; omega)
  refine ⟨.inl rfl, h.off, h.plan, by omega, by omega, by rw [hf, runF_turn]; rfl, by rw [hf, runF_recs], ?_, fun x hx => by have := hs x hx; omega, ?_, by rw [h.room]; omega⟩
  · rw [show (1 - 0 : Int) = 1 from rfl, h.b1]; decide
  · rw [h.b0, laid_len _ _ (by omega), h.room]; omega
/-! ### The journal on a new tape -/
def n1 : Int × TS × JS := openP (TS.new 1048576)
theorem n1_e : n1.1 = 0 ∧ (found (TS.new 1048576)).2 = [] := by decide +kernel
theorem n1_run : Run n1.2.1 n1.2.2 [] :=
  ⟨by decide +kernel, by decide +kernel, by decide +kernel, by decide +kernel, by decide +kernel, by decide +kernel, by decide +kernel, by decide +kernel⟩
theorem n1_sure : n1.2.1.s0 = (encs (runF [])).length ∧ n1.2.2.fails = 0 := by decide +kernel
/-- Open again, and again. -/
structure Again (T : TS) (a : Int) (t : Nat) (ls : List (List UInt8)) : Prop where
  has : Has T a t ls
  room : T.room = 1048576
  len : (T.b a).length ≤ 9000
theorem Again.next {T : TS} {a : Int} {t : Nat} {ls : List (List UInt8)} (h : Again T a t ls) (ht : t ≤ 1000) (hs : ∀ x ∈ ls, x.length ≤ 8000) (hl : 20 * ls.length + total ls ≤ 8000) :
    (openP T).1 = 0 ∧ (openP T).2.2 = ⟨1 - a, (t : Int) + 1, ((encs (laid ls (t + 1))).length : Int), T.fails⟩ ∧ (found T).2 = ls ∧ Again (openP T).2.1 (1 - a) (t + 1) ls ∧
      (openP T).2.1.off = false ∧ (openP T).2.1.fails = T.fails ∧ (openP T).2.1.sure (1 - a) = ((encs (laid ls (t + 1))).length : Int) ∧ 6 ≤ (encs (laid ls (t + 1))).length := by
  obtain ⟨T', e1, e2, e3, e4⟩ := h.has.opens
  have h2 := encs_len ls (fun x hx => by have := hs x hx; omega)
  have h3 := turnframe_len (t + 1) (by omega)
  have h4 := turnframe_len (t + 2) (by omega)
  have h5 := laid_len ls (t + 1) (by omega)
  have h6 := laid_len ls (t + 2) (by omega)
  rw [e1, h.has.finds]
  exact ⟨rfl, rfl, rfl, ⟨h.has.next e2 e3 (by omega) (by rw [h.room]; omega), e2.room.trans h.room, by show (T'.b (1 - a)).length ≤ 9000; rw [e3]; omega⟩, e2.off.trans h.has.off, e2.fails, e4, by omega⟩

end Go.Proofs.Ytnkenkdglcmpdaa
