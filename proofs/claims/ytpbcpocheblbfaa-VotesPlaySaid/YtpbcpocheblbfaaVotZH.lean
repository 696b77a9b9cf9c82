/- The law VotesPlay: words ahead of the walk. -/
import Derived.Test.YtpbcpocheblbfaaVotZE
import Derived.Test.YtpbcpocheblbfaaVotZG
import Derived.Test.YtpbcpocheblbfaaVotT
namespace Go.Proofs.Ytpbcpocheblbfaa
set_option linter.unusedVariables false
set_option linter.unusedSimpArgs false
open Go.RowKit Go.MapKept

theorem RefB.fr {F : Nat → Prop} {w w' : World} {rb : Nat} {N : Int} {R : List VAct} (h : RefB w rb N R) (hf : Fr F w w') (hF : ∀ i, F i → i < rb) : RefB w' rb N R := by
  obtain ⟨v, h1, h2⟩ := h.row
  exact ⟨⟨v, h1.fr hf (fun h => Nat.lt_irrefl _ (hF _ h)), h2.fr hf (fun k hk hk2 => by
    have := (h2.lt k hk).1
    have := hF k hk2
    omega)⟩, h.ok, h.small⟩
structure SgAll (L : List Sg) : Prop where
  ok : SgOk L
  num : SgNum L
  small : L.length ≤ 1000
theorem SgAll.nil : SgAll [] := ⟨fun s h => (by cases h), fun s h => (by cases h), Nat.zero_le _⟩
theorem certL_all {M : List (Ent One)} {N : Nat} (hok : ∀ p ∈ M, p.2.ok) (hN : N ≤ 64) (v : Vt) (need : Int) : SgAll (certL M v N need) := by
  unfold certL
  split
  · have hl := signsP_len M v N
    refine ⟨fun s hs => signsP_ok hok v N s (List.mem_of_mem_take hs), fun s hs => ?_, by rw [List.length_take]; omega⟩
    obtain ⟨i, hi, e, _⟩ := signsP_mem (List.mem_of_mem_take hs)
    exact i64_of (by omega) (by omega)
  · exact SgAll.nil
theorem bestL_all {M : List (Ent One)} {N : Nat} (hok : ∀ p ∈ M, p.2.ok) (hN : N ≤ 64) (need : Int) (r : Bool × Vt) : SgAll (bestL M N need r) := by
  unfold bestL
  split
  · exact certL_all hok hN _ _
  · exact SgAll.nil
theorem refF_ok {M : List (Ent One)} (hok : ∀ p ∈ M, p.2.ok) (kind need : Int) (N : Nat) : ∀ n, (refF M kind need N n).2.ok
  | 0 => zeroV_ok
  | n + 1 => by
    have ih := refF_ok hok kind need N n
    rw [refF_succ]
    unfold stepR
    cases hl : lookM M (kind, (n : Int)) with
    | none => exact ih
    | some x =>
      simp only
      split
      · exact (hok _ (lookM_mem hl)).vote
      · exact ih
theorem best_doc (w : World) {bb mb N : Nat} {M : List (Ent One)} (h : BookR w bb mb (N : Int) M) (hi : Inv N M) (hN : N ≤ 64) (kind need : Int) :
    Calls Try.prog 13 #[.pointer (some ⟨bb, 0, none⟩), .int .i64 kind, .int .i64 need] w (CertPost w (refF M kind need N N).2 (bestL M N need (refF M kind need N N)) (refF M kind need N N).1) :=
  (best_any w h hN kind need).mono fun e w' ⟨D, hD, hc⟩ => by
    obtain ⟨h1, h2, h3⟩ := best_same hi h.map.apart hD kind need
    rw [← h1, ← h2, ← h3]
    exact hc
theorem vote_neqS {o : Oper} {ρ : Operand → Value} {x y : Operand} {t' : TypeId} {u : Vt} (w : World) (hu : u.ok) (ho : o.op = .binOp .neq 30 x y t') (hx : ρ x = vval u) (hy : ρ y = vval u) :
    (execOp ρ o).run Try.prog w = .ok (.value (.bool false)) w := by
  rw [vote_neq w hu hu ho hx hy]; simp
theorem tag_neqS {o : Oper} {ρ : Operand → Value} {x y : Operand} {t' : TypeId} {u : List UInt8} (w : World) (hu : u.length = 16) (ho : o.op = .binOp .neq 32 x y t') (hx : ρ x = tval u) (hy : ρ y = tval u) :
    (execOp ρ o).run Try.prog w = .ok (.value (.bool false)) w := by
  rw [tag_neq w hu hu ho hx hy]; simp
theorem act_all {W : World} {ab : Nat} {a : VAct} {t : TypeId} (ha : a.ok) (h : Blk W ab (acells a).toArray t) : W.cell? ⟨ab, 0, none⟩ = some (.int .i64 a.node) ∧ W.rangeAt ab 1 (vcells a.vote) ∧ W.rangeAt ab 37 (bv a.tag) :=
  ⟨act_node (range_of_blk h), by have := act_vote (range_of_blk h); rwa [Nat.zero_add] at this, by have := act_tag ha (range_of_blk h); rwa [Nat.zero_add] at this⟩
/-- Two new variables that were written. -/
theorem two_new {w z1 z2 z3 z4 : World} {vb tb : Nat} {cs ds : Array Value} {t s : TypeId} (HVB : Hid (w.heap.size = vb)) (HTB : Hid (z1.heap.size = tb)) (HS1 : Hid (z1.heap.size = vb + 1)) (hbl1 : Below w.heap.size w z1) (hbl2 : Below z1.heap.size z1 z2) (hb3 : Blk z3 vb cs t) (hf3 : Fr (fun k => k = vb) z2 z3) (hb4 : Blk z4 tb ds s) (hf4 : Fr (fun k => k = tb) z3 z4) :
    Below w.heap.size w z4 ∧ Blk z4 vb cs t ∧ Blk z4 tb ds s := by
  have h1 := HVB.out
  have h2 := HTB.out
  have h3 := HS1.out
  exact ⟨below_fr (below_fr (hbl1.trans (Below.up hbl2 hbl1.size)) hf3 (by omega)) hf4 (by omega), hb3.fr hf4 (by omega), hb4⟩
/-- One new variable that was written. -/
theorem one_new {w z1 z2 : World} {vb : Nat} {cs : Array Value} {t : TypeId} (HVB : Hid (w.heap.size = vb)) (hbl1 : Below w.heap.size w z1) (hb2 : Blk z2 vb cs t) (hf2 : Fr (fun k => k = vb) z1 z2) :
    Below w.heap.size w z2 ∧ Blk z2 vb cs t := by
  have h1 := HVB.out
  exact ⟨below_fr hbl1 hf2 (by omega), hb2⟩

end Go.Proofs.Ytpbcpocheblbfaa
