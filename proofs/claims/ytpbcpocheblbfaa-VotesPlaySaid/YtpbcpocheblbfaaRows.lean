/-
  No cell of these rows narrows 'for every input' (looked for: loops, veiled, ifaces, maps, wideKeys, modest, calm, conditions, laid).
  DERIVED. THE GIVEN ROWS OF THIS SEAT. 4 by the template 'for every input the law returns true; each argument reads behind the call as it read before'; 0 by the template 'total and deterministic' (their statements: YtpbcpocheblbfaaTotals.lean).
  GIVEN WITH THE SEED: the statements are not yours to turn. If you find one false, say at which input.
  Laid BY PROGRAM, IN A SANDBOX (cutbox-rows.mjs): the forced cells as the released guide's own fill.sh prints them over the translation d59e980b8d290106… (all of the seat's roots in one cut). By AI agents, Wed Nov 11 2026. No macro, syntax, notation, axiom, sorry.
-/
import Derived.Test.YtpbcpocheblbfaaChecked
import GoSem.Claim
import GoSem.ClaimJoined
import GoSem.ClaimMapViews
import Derived.JoinedTies
import Derived.KernelRfl
namespace Go.Proofs.Ytpbcpocheblbfaa
/- THE CELL 'sum', in the pinned program and in every row, IS THE sha256 OF THE DUMP (.gsa) THAT YtpbcpocheblbfaaProg.lean LOADS. Nothing in Lean hashes anything: it is a label: what it is worth is what the hold of that sum in a sandbox is worth. -/
noncomputable def Try.pinned : Pinned := { name := "ytpbcpocheblbfaa", sum := "d59e980b8d290106674e7bc02ef84679b9dfeb9131db17d52846b0813128ec90", checked := Try.checked }
namespace Rows
def none {H : Type} : Left H := { results := [], args := [] }

/-- 'raddlelaw17.VotesOnce': WHATEVER THE INPUT: true; the input reads as it did. -/
def votesOnceSpec : ChangeSpec := { name := "votesOnce", fn := fun _ => fun
  | [d1, d2, d3] => { results := [.lit (.bool true)], args := [d1, d2, d3] }
  | _ => none }
def votesOnceRow : OpenClaim := { program := "ytpbcpocheblbfaa", sum := "d59e980b8d290106674e7bc02ef84679b9dfeb9131db17d52846b0813128ec90", func := "raddle/raddlelaw17.VotesOnce", spec := "votesOnce", plainKeys := false, apart := false }
def VotesOnceSaid : Prop := votesOnceRow.holds Try.pinned (OpenSpec.ofChange votesOnceSpec)

/-- ITS FALSE NEIGHBOUR: 'it returns false'. Refute it at one input. -/
def votesOnceWrong : ChangeSpec := { name := "votesOnce", fn := fun _ => fun
  | [d1, d2, d3] => { results := [.lit (.bool false)], args := [d1, d2, d3] }
  | _ => none }
def VotesOnceWrongFalsely : Prop := votesOnceRow.holds Try.pinned (OpenSpec.ofChange votesOnceWrong)

/-- 'raddlelaw17.VotesOne': WHATEVER THE INPUT: true; the input reads as it did. -/
def votesOneSpec : ChangeSpec := { name := "votesOne", fn := fun _ => fun
  | [d1, d2, d3] => { results := [.lit (.bool true)], args := [d1, d2, d3] }
  | _ => none }
def votesOneRow : OpenClaim := { program := "ytpbcpocheblbfaa", sum := "d59e980b8d290106674e7bc02ef84679b9dfeb9131db17d52846b0813128ec90", func := "raddle/raddlelaw17.VotesOne", spec := "votesOne", unfollowed := true, recurses := true, plainKeys := false, apart := false }
def VotesOneSaid : Prop := votesOneRow.holds Try.pinned (OpenSpec.ofChange votesOneSpec)

/-- ITS FALSE NEIGHBOUR: 'it returns false'. Refute it at one input. -/
def votesOneWrong : ChangeSpec := { name := "votesOne", fn := fun _ => fun
  | [d1, d2, d3] => { results := [.lit (.bool false)], args := [d1, d2, d3] }
  | _ => none }
def VotesOneWrongFalsely : Prop := votesOneRow.holds Try.pinned (OpenSpec.ofChange votesOneWrong)

/-- 'raddlelaw17.VotesPlay': WHATEVER THE INPUT: true; the input reads as it did. -/
def votesPlaySpec : ChangeSpec := { name := "votesPlay", fn := fun _ => fun
  | [d1, d2, d3] => { results := [.lit (.bool true)], args := [d1, d2, d3] }
  | _ => none }
def votesPlayRow : OpenClaim := { program := "ytpbcpocheblbfaa", sum := "d59e980b8d290106674e7bc02ef84679b9dfeb9131db17d52846b0813128ec90", func := "raddle/raddlelaw17.VotesPlay", spec := "votesPlay", unfollowed := true, recurses := true, plainKeys := false, apart := false }
def VotesPlaySaid : Prop := votesPlayRow.holds Try.pinned (OpenSpec.ofChange votesPlaySpec)

/-- ITS FALSE NEIGHBOUR: 'it returns false'. Refute it at one input. -/
def votesPlayWrong : ChangeSpec := { name := "votesPlay", fn := fun _ => fun
  | [d1, d2, d3] => { results := [.lit (.bool false)], args := [d1, d2, d3] }
  | _ => none }
def VotesPlayWrongFalsely : Prop := votesPlayRow.holds Try.pinned (OpenSpec.ofChange votesPlayWrong)

/-- 'raddlelaw17.VotesNobody': WHATEVER THE INPUT: true; the input reads as it did. -/
def votesNobodySpec : ChangeSpec := { name := "votesNobody", fn := fun _ => fun
  | [d] => { results := [.lit (.bool true)], args := [d] }
  | _ => none }
def votesNobodyRow : OpenClaim := { program := "ytpbcpocheblbfaa", sum := "d59e980b8d290106674e7bc02ef84679b9dfeb9131db17d52846b0813128ec90", func := "raddle/raddlelaw17.VotesNobody", spec := "votesNobody", unfollowed := true, recurses := true, plainKeys := false, apart := false }
def VotesNobodySaid : Prop := votesNobodyRow.holds Try.pinned (OpenSpec.ofChange votesNobodySpec)

/-- ITS FALSE NEIGHBOUR: 'it returns false'. Refute it at one input. -/
def votesNobodyWrong : ChangeSpec := { name := "votesNobody", fn := fun _ => fun
  | [d] => { results := [.lit (.bool false)], args := [d] }
  | _ => none }
def VotesNobodyWrongFalsely : Prop := votesNobodyRow.holds Try.pinned (OpenSpec.ofChange votesNobodyWrong)

/- THE SECOND FORM. 'bulk': how many values and letters a reading holds, each counted each time it is reached (what is shared counts as often as it is met; a slice's spare places count too). A statement '..UptoSaid' is the law's where the arguments, and the package variables that the reading takes, are together of bulk at most 1048576: NARROWER than '..Said'. Prove '..Said' where nothing that the law and all that it calls make is longer than what came in: it says more and counts as full. Else prove '..UptoSaid'. A law counts once. -/
mutual
def uptoBulk {H : Type} : DataW H → Nat
  | .lit (.string bytes) => bytes.length + 1
  | .lit _ => 1
  | .nil => 1
  | .ptr d => uptoBulk d + 1
  | .slice elems spare => uptoBulkAll elems + uptoBulkAll spare + 1
  | .agg parts => uptoBulkAll parts + 1
  | .iface _ d => uptoBulk d + 1
  | .map entries => uptoBulkEntries entries + 1
  | .held _ => 1
def uptoBulkAll {H : Type} : List (DataW H) → Nat
  | [] => 0
  | d :: r => uptoBulk d + uptoBulkAll r
def uptoBulkEntries {H : Type} : List (Lit × DataW H) → Nat
  | [] => 0
  | x :: r => uptoBulkEntry x + uptoBulkEntries r
def uptoBulkEntry {H : Type} : Lit × DataW H → Nat
  | (.string bytes, d) => bytes.length + uptoBulk d + 1
  | (_, d) => uptoBulk d + 1
 end
def uptoSmall : (H : Type) → List (DataW H) → Bool := fun _ ds => decide (uptoBulkAll ds ≤ 1048576)
def OpenSpec.upto (s : _root_.Go.ChangeSpec) : _root_.Go.OpenSpec := { _root_.Go.OpenSpec.ofChange s with cond := some uptoSmall }

/-- 'raddlelaw17.VotesOnce', WHERE WHAT IT READS IS OF BULK AT MOST 1048576: true; the input reads as it did. -/
def votesOnceUptoRow : OpenClaim := { program := "ytpbcpocheblbfaa", sum := "d59e980b8d290106674e7bc02ef84679b9dfeb9131db17d52846b0813128ec90", func := "raddle/raddlelaw17.VotesOnce", spec := "votesOnce", plainKeys := false, apart := false, narrowed := true }
def VotesOnceUptoSaid : Prop := votesOnceUptoRow.holds Try.pinned (OpenSpec.upto votesOnceSpec)

/-- 'raddlelaw17.VotesOne', WHERE WHAT IT READS IS OF BULK AT MOST 1048576: true; the input reads as it did. -/
def votesOneUptoRow : OpenClaim := { program := "ytpbcpocheblbfaa", sum := "d59e980b8d290106674e7bc02ef84679b9dfeb9131db17d52846b0813128ec90", func := "raddle/raddlelaw17.VotesOne", spec := "votesOne", unfollowed := true, recurses := true, plainKeys := false, apart := false, narrowed := true }
def VotesOneUptoSaid : Prop := votesOneUptoRow.holds Try.pinned (OpenSpec.upto votesOneSpec)

/-- 'raddlelaw17.VotesPlay', WHERE WHAT IT READS IS OF BULK AT MOST 1048576: true; the input reads as it did. -/
def votesPlayUptoRow : OpenClaim := { program := "ytpbcpocheblbfaa", sum := "d59e980b8d290106674e7bc02ef84679b9dfeb9131db17d52846b0813128ec90", func := "raddle/raddlelaw17.VotesPlay", spec := "votesPlay", unfollowed := true, recurses := true, plainKeys := false, apart := false, narrowed := true }
def VotesPlayUptoSaid : Prop := votesPlayUptoRow.holds Try.pinned (OpenSpec.upto votesPlaySpec)

/-- 'raddlelaw17.VotesNobody', WHERE WHAT IT READS IS OF BULK AT MOST 1048576: true; the input reads as it did. -/
def votesNobodyUptoRow : OpenClaim := { program := "ytpbcpocheblbfaa", sum := "d59e980b8d290106674e7bc02ef84679b9dfeb9131db17d52846b0813128ec90", func := "raddle/raddlelaw17.VotesNobody", spec := "votesNobody", unfollowed := true, recurses := true, plainKeys := false, apart := false, narrowed := true }
def VotesNobodyUptoSaid : Prop := votesNobodyUptoRow.holds Try.pinned (OpenSpec.upto votesNobodySpec)

end Rows
end Go.Proofs.Ytpbcpocheblbfaa
