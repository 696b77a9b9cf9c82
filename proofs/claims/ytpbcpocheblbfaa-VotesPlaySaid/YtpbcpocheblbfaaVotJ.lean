/- Acts of the votes' laws, opened. -/
import Derived.Test.YtpbcpocheblbfaaVotI
import Derived.Test.YtpbcpocheblbfaaOpen
import Derived.OpenShut
namespace Go.Proofs.Ytpbcpocheblbfaa
set_option linter.unusedVariables false
set_option linter.unusedSimpArgs false
open Go.RowKit Go.ChangeShapes Go.WideShapes Go.Deep

section
variable {H : Type} {enc : TypeId × Value → H} {w : World} {base : Nat} {held : Bool} {spare : Nat → Bool}
theorem open_bytesN {t : TypeId} {n fuel : Nat} (ht : Try.prog.underlying t = some (.array n 5)) (hc : Try.prog.cellsOf t = n) {cs : List Value} {x : DataW H × List MemPlace}
    (h : DataW.trod enc Try.prog w base spare held fuel t cs = some x) : ∃ xs : List UInt8, cs = bv xs ∧ xs.length = n := by
  obtain ⟨ys, m, _, _, hl, hyl, hi⟩ := DataW.trod_array ht h
  rw [hc] at hl
  have hex : ∀ i, i < n → ∃ b : UInt8, cs[i]? = some (.int .u8 (b.toNat : Int)) := fun i hin => by
    have h1 := hi i hin
    rw [cellsU8, Nat.mul_one, List.getElem?_eq_getElem (show i < ys.length by omega)] at h1
    have e : (cs.drop i).take 1 = [cs[i]'(by omega)] := by
      rw [List.drop_eq_getElem_cons (by omega)]; rfl
    rw [e] at h1
    obtain ⟨k, hk, hw⟩ := open_num Try.underlying5 h1
    have hb := wf_u8 hw
    refine ⟨UInt8.ofNat k.toNat, ?_⟩
    rw [List.getElem?_eq_getElem (show i < cs.length by omega), hk]
    congr 2
    simp
    omega
  have hex2 : ∀ i : Nat, ∃ b : UInt8, i < n → cs[i]? = some (.int .u8 (b.toNat : Int)) := fun i => by
    by_cases hin : i < n
    · obtain ⟨b, hb⟩ := hex i hin; exact ⟨b, fun _ => hb⟩
    · exact ⟨0, fun h => absurd h hin⟩
  refine ⟨(List.range n).map fun i => Classical.choose (hex2 i), ?_, by simp⟩
  apply List.ext_getElem?
  intro i
  by_cases hin : i < n
  · rw [Classical.choose_spec (hex2 i) hin, bv, List.getElem?_map, List.getElem?_map, List.getElem?_range hin]
    rfl
  · rw [List.getElem?_eq_none (by omega), List.getElem?_eq_none (by simp [bv]; omega)]
theorem open_votec {fuel : Nat} {cs : List Value} {x : DataW H × List MemPlace} (h : DataW.trod enc Try.prog w base spare held fuel 30 cs = some x) : ∃ v : Vt, cs = vcells v ∧ v.ok := by
  obtain ⟨ys, n, _, _, hl, hyl, hf⟩ := DataW.trod_struct Try.underlying30 h
  rw [cellsVote] at hl
  have g : ∀ (i : Nat) (f : Field), ys[i]? ≠ none → ∃ y, ys[i]? = some y := fun i f h => Option.ne_none_iff_exists'.1 h
  have hys : ys.length = 5 := hyl
  have f0 := hf 0 _ rfl
  have f1 := hf 1 _ rfl
  have f2 := hf 2 _ rfl
  have f3 := hf 3 _ rfl
  have f4 := hf 4 _ rfl
  change DataW.trod enc Try.prog w base spare held n 3 ((cs.drop 0).take (Try.prog.cellsOf 3)) = _ at f0
  rw [cellsInt] at f0
  change DataW.trod enc Try.prog w base spare held n 3 ((cs.drop 1).take (Try.prog.cellsOf 3)) = _ at f1
  rw [cellsInt] at f1
  change DataW.trod enc Try.prog w base spare held n 3 ((cs.drop 2).take (Try.prog.cellsOf 3)) = _ at f2
  rw [cellsInt] at f2
  change DataW.trod enc Try.prog w base spare held n 3 ((cs.drop 3).take (Try.prog.cellsOf 3)) = _ at f3
  rw [cellsInt] at f3
  change DataW.trod enc Try.prog w base spare held n 28 ((cs.drop 4).take (Try.prog.cellsOf 28)) = _ at f4
  rw [cellsDig] at f4
  rw [List.getElem?_eq_getElem (show 0 < ys.length by omega)] at f0
  rw [List.getElem?_eq_getElem (show 1 < ys.length by omega)] at f1
  rw [List.getElem?_eq_getElem (show 2 < ys.length by omega)] at f2
  rw [List.getElem?_eq_getElem (show 3 < ys.length by omega)] at f3
  rw [List.getElem?_eq_getElem (show 4 < ys.length by omega)] at f4
  match cs, hl with
  | c0 :: c1 :: c2 :: c3 :: rest, hl =>
    have hr : rest.length = 32 := by simpa using hl
    obtain ⟨k0, rfl, w0⟩ := open_num Try.underlying3 (v := c0) (by simpa using f0)
    obtain ⟨k1, rfl, w1⟩ := open_num Try.underlying3 (v := c1) (by simpa using f1)
    obtain ⟨k2, rfl, w2⟩ := open_num Try.underlying3 (v := c2) (by simpa using f2)
    obtain ⟨k3, rfl, w3⟩ := open_num Try.underlying3 (v := c3) (by simpa using f3)
    have f4' : DataW.trod enc Try.prog w base spare held n 28 rest = some (ys[4]'(by omega)) := by
      rw [← f4]
      congr 1
      show rest = (rest).take 32
      rw [List.take_of_length_le (by omega)]
    obtain ⟨xs, rfl, hx⟩ := open_bytesN Try.underlying28 cellsDig f4'
    exact ⟨⟨k0, k1, k2, k3, xs⟩, rfl, w0, w1, w2, w3, hx⟩
/-- An act, as it came in. -/
structure VAct where
  node : Int
  vote : Vt
  tag : List UInt8
def acells (a : VAct) : List Value := .int .i64 a.node :: (vcells a.vote ++ bv a.tag)
structure VAct.ok (a : VAct) : Prop where
  node : I64 a.node
  vote : a.vote.ok
  tag : a.tag.length = 16
theorem cellsAct : Try.prog.cellsOf 34 = 53 := by kernel_rfl
theorem acells_len {a : VAct} (h : a.ok) : (acells a).length = 53 := by simp [acells, vcells_len h.vote, bv_length, h.tag]
theorem acells_one (a : VAct) : ∀ u ∈ acells a, u.oneCell' = true := fun u hu => (List.mem_cons.1 hu).elim (fun e => by rw [e]; rfl) (fun h => (List.mem_append.1 h).elim (vcells_one _ u) (bv_one' _ u))
theorem sizeAct {a : VAct} (h : a.ok) : (Try.prog.info? 34).map (·.size) = some (acells a).length := by rw [acells_len h]; kernel_rfl
theorem open_vact {fuel : Nat} {cs : List Value} {x : DataW H × List MemPlace} (h : DataW.trod enc Try.prog w base spare held fuel 34 cs = some x) : ∃ a : VAct, cs = acells a ∧ a.ok := by
  obtain ⟨ys, n, _, _, hl, hyl, hf⟩ := DataW.trod_struct Try.underlying34 h
  rw [cellsAct] at hl
  have hys : ys.length = 3 := hyl
  have f0 := hf 0 _ rfl
  have f1 := hf 1 _ rfl
  have f2 := hf 2 _ rfl
  change DataW.trod enc Try.prog w base spare held n 3 ((cs.drop 0).take (Try.prog.cellsOf 3)) = _ at f0
  rw [cellsInt] at f0
  change DataW.trod enc Try.prog w base spare held n 30 ((cs.drop 1).take (Try.prog.cellsOf 30)) = _ at f1
  rw [cellsVote] at f1
  change DataW.trod enc Try.prog w base spare held n 32 ((cs.drop 37).take (Try.prog.cellsOf 32)) = _ at f2
  rw [cellsTag] at f2
  rw [List.getElem?_eq_getElem (show 0 < ys.length by omega)] at f0
  rw [List.getElem?_eq_getElem (show 1 < ys.length by omega)] at f1
  rw [List.getElem?_eq_getElem (show 2 < ys.length by omega)] at f2
  match cs, hl with
  | c0 :: rest, hl =>
    have hr : rest.length = 52 := by simpa using hl
    obtain ⟨k0, rfl, w0⟩ := open_num Try.underlying3 (v := c0) (by simpa using f0)
    have f1' : DataW.trod enc Try.prog w base spare held n 30 (rest.take 36) = some (ys[1]'(by omega)) := f1
    obtain ⟨v, hv, hvo⟩ := open_votec f1'
    have f2' : DataW.trod enc Try.prog w base spare held n 32 (rest.drop 36) = some (ys[2]'(by omega)) := by
      rw [← f2]
      congr 1
      show rest.drop 36 = (rest.drop 36).take 16
      rw [List.take_of_length_le (by simp; omega)]
    obtain ⟨t, ht, hto⟩ := open_bytesN Try.underlying32 cellsTag f2'
    refine ⟨⟨k0, v, t⟩, ?_, w0, hvo, hto⟩
    show _ :: rest = _ :: _
    congr 1
    show rest = vcells v ++ bv t
    rw [← hv, ← ht, List.take_append_drop]
/-- A row of acts. -/
def VActsR (w : World) (A : Option Addr) (xs : List VAct) : Prop := ∀ (i : Nat) (a : VAct), xs[i]? = some a → a.ok ∧ ∃ b off, A = some ⟨b, off, none⟩ ∧ b < w.heap.size ∧ w.rangeAt b (off + i * 53) (acells a)
theorem VActsR.below {w' : World} {A : Option Addr} {xs : List VAct} (h : VActsR w A xs) (hb : Below w.heap.size w w') : VActsR w' A xs := fun i a hi => by
  obtain ⟨h1, b, off, h2, h3, h4⟩ := h i a hi
  exact ⟨h1, b, off, h2, Nat.lt_of_lt_of_le h3 hb.size, range_below h4 hb⟩
theorem open_vacts {fuel : Nat} {v : Value} {x : DataW H × List MemPlace} (h : DataW.trod enc Try.prog w base (fun _ => true) held fuel 22 [v] = some x) : ∃ A xs c, v = .slice A xs.length c ∧ xs.length ≤ c ∧ c ≤ maxLen ∧ VActsR w A xs := by
  obtain ⟨A, len, cap, hv, hl, hm, _, hr⟩ := open_rows Try.underlying22 (by decide +kernel) h
  rw [cellsAct] at hr
  have hex : ∀ i : Nat, ∃ a : VAct, i < len → a.ok ∧ ∃ b off, A = some ⟨b, off, none⟩ ∧ b < w.heap.size ∧ w.rangeAt b (off + i * 53) (acells a) := fun i => by
    by_cases hi : i < len
    · obtain ⟨b, off, cs', n, y, h1, h2, h5, h3, h4⟩ := hr i hi
      obtain ⟨a, rfl, ha⟩ := open_vact h4
      refine ⟨a, fun _ => ⟨ha, b, off, h1, h2, fun j u hu => ?_⟩⟩
      have hj := (List.getElem?_eq_some_iff.1 hu).1
      rw [h3 j (by rw [← h5]; exact hj)]; exact hu
    · exact ⟨⟨0, zeroV, []⟩, fun h => absurd h hi⟩
  simp only [List.cons.injEq, and_true] at hv
  refine ⟨A, (List.range len).map fun i => Classical.choose (hex i), cap, by simpa using hv, by simpa using hl, hm, fun i a hi => ?_⟩
  rw [List.getElem?_map] at hi
  by_cases hil : i < len
  · rw [List.getElem?_range hil] at hi
    simp at hi
    subst hi
    exact Classical.choose_spec (hex i) hil
  · rw [List.getElem?_eq_none (by simp; omega)] at hi
    cases hi
end

end Go.Proofs.Ytpbcpocheblbfaa
