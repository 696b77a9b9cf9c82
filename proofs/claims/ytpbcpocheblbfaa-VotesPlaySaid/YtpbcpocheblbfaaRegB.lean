/- A phased region: another condition put in the place of the first. -/
import Derived.Test.YtpbcpocheblbfaaReg
namespace Go.Proofs.Ytpbcpocheblbfaa
set_option linter.unusedVariables false
set_option linter.unusedSimpArgs false

section
variable {P : Program} {ops : Array Oper} {Q : Exit → Act → World → Prop} {md : Region.Mode} {S S' : World → Prop} {m m' : Nat}
theorem ready_lt2 {listed : Array Bool} {i : Nat} (h : i ∈ Region.ready md ops listed) : i < ops.size := by
  obtain ⟨_, oj, hoj, _⟩ := mem_ready.1 h
  exact (Array.getElem?_eq_some_iff.1 hoj).1
/-- A condition may be put in the place of another one that it implies. -/
theorem wpAnyP_re (S' : World → Prop) (m' : Nat) (hm : ops.size ≤ m') (hSS : ∀ w, S' w → S w) : ∀ (fuel : Nat) (listed : Array Bool) (a : Act) (w : World), S' w → wpAnyP P md ops Q S' m' fuel listed a w → wpAnyP P md ops Q S m fuel listed a w
  | 0, _, _, _, _, h => h
  | fuel + 1, listed, a, w, hs, h => ⟨h.1, fun i hi => wpOp_mono (fun a' w' h' => ⟨fun _ _ => hSS _ (h'.1 (Nat.lt_of_lt_of_le (ready_lt2 hi) hm) hs), wpAnyP_re S' m' hm hSS fuel _ a' w' (h'.1 (Nat.lt_of_lt_of_le (ready_lt2 hi) hm) hs) h'.2⟩) (h.2 i hi)⟩
end

end Go.Proofs.Ytpbcpocheblbfaa
