/-
  No cell of these rows narrows 'for every input' (looked for: loops, veiled, ifaces, maps, wideKeys, modest, calm, conditions, laid).
  DERIVED. THE GIVEN ROWS OF THIS SEAT. 13 by the template 'for every input the law returns true; each argument reads behind the call as it read before'; 0 by the template 'total and deterministic' (their statements: YtnkenkdglcmpdaaTotals.lean).
  GIVEN WITH THE SEED: the statements are not yours to turn. If you find one false, say at which input.
  Laid BY PROGRAM, IN A SANDBOX (cutbox-rows.mjs): the forced cells as the released guide's own fill.sh prints them over the translation f0d12870b1712735… (all of the seat's roots in one cut). By AI agents, Wed Nov 11 2026. No macro, syntax, notation, axiom, sorry.
-/
import Derived.Test.YtnkenkdglcmpdaaChecked
import GoSem.Claim
import GoSem.ClaimJoined
import GoSem.ClaimMapViews
import Derived.JoinedTies
import Derived.KernelRfl
namespace Go.Proofs.Ytnkenkdglcmpdaa
/- THE CELL 'sum', in the pinned program and in every row, IS THE sha256 OF THE DUMP (.gsa) THAT YtnkenkdglcmpdaaProg.lean LOADS. Nothing in Lean hashes anything: it is a label: what it is worth is what the hold of that sum in a sandbox is worth. -/
noncomputable def Try.pinned : Pinned := { name := "ytnkenkdglcmpdaa", sum := "f0d12870b1712735f65659bf622a2399d80f42e75ced1e8e34c16e5d2c1d3ab3", checked := Try.checked }
namespace Rows
def none {H : Type} : Left H := { results := [], args := [] }

/-- 'raddlelaw02.Crc24Cuts': WHATEVER THE INPUT: true; the input reads as it did. -/
def crc24CutsSpec : ChangeSpec := { name := "crc24Cuts", fn := fun _ => fun
  | [d1, d2] => { results := [.lit (.bool true)], args := [d1, d2] }
  | _ => none }
def crc24CutsRow : OpenClaim := { program := "ytnkenkdglcmpdaa", sum := "f0d12870b1712735f65659bf622a2399d80f42e75ced1e8e34c16e5d2c1d3ab3", func := "raddle/raddlelaw02.Crc24Cuts", spec := "crc24Cuts", unfollowed := true, recurses := true, apart := false }
def Crc24CutsSaid : Prop := crc24CutsRow.holds Try.pinned (OpenSpec.ofChange crc24CutsSpec)

/-- ITS FALSE NEIGHBOUR: 'it returns false'. Refute it at one input. -/
def crc24CutsWrong : ChangeSpec := { name := "crc24Cuts", fn := fun _ => fun
  | [d1, d2] => { results := [.lit (.bool false)], args := [d1, d2] }
  | _ => none }
def Crc24CutsWrongFalsely : Prop := crc24CutsRow.holds Try.pinned (OpenSpec.ofChange crc24CutsWrong)

/-- 'raddlelaw02.Crc24Bursts': WHATEVER THE INPUT: true; the input reads as it did. -/
def crc24BurstsSpec : ChangeSpec := { name := "crc24Bursts", fn := fun _ => fun
  | [d1, d2, d3] => { results := [.lit (.bool true)], args := [d1, d2, d3] }
  | _ => none }
def crc24BurstsRow : OpenClaim := { program := "ytnkenkdglcmpdaa", sum := "f0d12870b1712735f65659bf622a2399d80f42e75ced1e8e34c16e5d2c1d3ab3", func := "raddle/raddlelaw02.Crc24Bursts", spec := "crc24Bursts", unfollowed := true, recurses := true, apart := false }
def Crc24BurstsSaid : Prop := crc24BurstsRow.holds Try.pinned (OpenSpec.ofChange crc24BurstsSpec)

/-- ITS FALSE NEIGHBOUR: 'it returns false'. Refute it at one input. -/
def crc24BurstsWrong : ChangeSpec := { name := "crc24Bursts", fn := fun _ => fun
  | [d1, d2, d3] => { results := [.lit (.bool false)], args := [d1, d2, d3] }
  | _ => none }
def Crc24BurstsWrongFalsely : Prop := crc24BurstsRow.holds Try.pinned (OpenSpec.ofChange crc24BurstsWrong)

/-- 'raddlelaw02.Crc24Xors': WHATEVER THE INPUT: true; the input reads as it did. -/
def crc24XorsSpec : ChangeSpec := { name := "crc24Xors", fn := fun _ => fun
  | [d1, d2, d3] => { results := [.lit (.bool true)], args := [d1, d2, d3] }
  | _ => none }
def crc24XorsRow : OpenClaim := { program := "ytnkenkdglcmpdaa", sum := "f0d12870b1712735f65659bf622a2399d80f42e75ced1e8e34c16e5d2c1d3ab3", func := "raddle/raddlelaw02.Crc24Xors", spec := "crc24Xors", unfollowed := true, recurses := true, apart := false }
def Crc24XorsSaid : Prop := crc24XorsRow.holds Try.pinned (OpenSpec.ofChange crc24XorsSpec)

/-- ITS FALSE NEIGHBOUR: 'it returns false'. Refute it at one input. -/
def crc24XorsWrong : ChangeSpec := { name := "crc24Xors", fn := fun _ => fun
  | [d1, d2, d3] => { results := [.lit (.bool false)], args := [d1, d2, d3] }
  | _ => none }
def Crc24XorsWrongFalsely : Prop := crc24XorsRow.holds Try.pinned (OpenSpec.ofChange crc24XorsWrong)

/-- 'raddlelaw02.Crc24Sums': WHATEVER THE INPUT: true; the input reads as it did. -/
def crc24SumsSpec : ChangeSpec := { name := "crc24Sums", fn := fun _ => fun
  | [d1, d2] => { results := [.lit (.bool true)], args := [d1, d2] }
  | _ => none }
def crc24SumsRow : OpenClaim := { program := "ytnkenkdglcmpdaa", sum := "f0d12870b1712735f65659bf622a2399d80f42e75ced1e8e34c16e5d2c1d3ab3", func := "raddle/raddlelaw02.Crc24Sums", spec := "crc24Sums", unfollowed := true, recurses := true, apart := false }
def Crc24SumsSaid : Prop := crc24SumsRow.holds Try.pinned (OpenSpec.ofChange crc24SumsSpec)

/-- ITS FALSE NEIGHBOUR: 'it returns false'. Refute it at one input. -/
def crc24SumsWrong : ChangeSpec := { name := "crc24Sums", fn := fun _ => fun
  | [d1, d2] => { results := [.lit (.bool false)], args := [d1, d2] }
  | _ => none }
def Crc24SumsWrongFalsely : Prop := crc24SumsRow.holds Try.pinned (OpenSpec.ofChange crc24SumsWrong)

/-- 'raddlelaw15.TapeRefused': WHATEVER THE INPUT: true; the input reads as it did. -/
def tapeRefusedSpec : ChangeSpec := { name := "tapeRefused", fn := fun _ => fun
  | [d1, d2] => { results := [.lit (.bool true)], args := [d1, d2] }
  | _ => none }
def tapeRefusedRow : OpenClaim := { program := "ytnkenkdglcmpdaa", sum := "f0d12870b1712735f65659bf622a2399d80f42e75ced1e8e34c16e5d2c1d3ab3", func := "raddle/raddlelaw15.TapeRefused", spec := "tapeRefused", unfollowed := true, recurses := true, apart := false }
def TapeRefusedSaid : Prop := tapeRefusedRow.holds Try.pinned (OpenSpec.ofChange tapeRefusedSpec)

/-- ITS FALSE NEIGHBOUR: 'it returns false'. Refute it at one input. -/
def tapeRefusedWrong : ChangeSpec := { name := "tapeRefused", fn := fun _ => fun
  | [d1, d2] => { results := [.lit (.bool false)], args := [d1, d2] }
  | _ => none }
def TapeRefusedWrongFalsely : Prop := tapeRefusedRow.holds Try.pinned (OpenSpec.ofChange tapeRefusedWrong)

/-- 'raddlelaw15.TapeSure': WHATEVER THE INPUT: true; the input reads as it did. -/
def tapeSureSpec : ChangeSpec := { name := "tapeSure", fn := fun _ => fun
  | [d1, d2] => { results := [.lit (.bool true)], args := [d1, d2] }
  | _ => none }
def tapeSureRow : OpenClaim := { program := "ytnkenkdglcmpdaa", sum := "f0d12870b1712735f65659bf622a2399d80f42e75ced1e8e34c16e5d2c1d3ab3", func := "raddle/raddlelaw15.TapeSure", spec := "tapeSure", unfollowed := true, recurses := true, apart := false }
def TapeSureSaid : Prop := tapeSureRow.holds Try.pinned (OpenSpec.ofChange tapeSureSpec)

/-- ITS FALSE NEIGHBOUR: 'it returns false'. Refute it at one input. -/
def tapeSureWrong : ChangeSpec := { name := "tapeSure", fn := fun _ => fun
  | [d1, d2] => { results := [.lit (.bool false)], args := [d1, d2] }
  | _ => none }
def TapeSureWrongFalsely : Prop := tapeSureRow.holds Try.pinned (OpenSpec.ofChange tapeSureWrong)

/-- 'raddlelaw15.TapePlays': WHATEVER THE INPUT: true; the input reads as it did. -/
def tapePlaysSpec : ChangeSpec := { name := "tapePlays", fn := fun _ => fun
  | [d1, d2] => { results := [.lit (.bool true)], args := [d1, d2] }
  | _ => none }
def tapePlaysRow : OpenClaim := { program := "ytnkenkdglcmpdaa", sum := "f0d12870b1712735f65659bf622a2399d80f42e75ced1e8e34c16e5d2c1d3ab3", func := "raddle/raddlelaw15.TapePlays", spec := "tapePlays", unfollowed := true, recurses := true, apart := false }
def TapePlaysSaid : Prop := tapePlaysRow.holds Try.pinned (OpenSpec.ofChange tapePlaysSpec)

/-- ITS FALSE NEIGHBOUR: 'it returns false'. Refute it at one input. -/
def tapePlaysWrong : ChangeSpec := { name := "tapePlays", fn := fun _ => fun
  | [d1, d2] => { results := [.lit (.bool false)], args := [d1, d2] }
  | _ => none }
def TapePlaysWrongFalsely : Prop := tapePlaysRow.holds Try.pinned (OpenSpec.ofChange tapePlaysWrong)

/-- 'raddlelaw15.TapeNobody': WHATEVER THE INPUT: true; the input reads as it did. -/
def tapeNobodySpec : ChangeSpec := { name := "tapeNobody", fn := fun _ => fun
  | [d] => { results := [.lit (.bool true)], args := [d] }
  | _ => none }
def tapeNobodyRow : OpenClaim := { program := "ytnkenkdglcmpdaa", sum := "f0d12870b1712735f65659bf622a2399d80f42e75ced1e8e34c16e5d2c1d3ab3", func := "raddle/raddlelaw15.TapeNobody", spec := "tapeNobody", unfollowed := true, recurses := true, apart := false }
def TapeNobodySaid : Prop := tapeNobodyRow.holds Try.pinned (OpenSpec.ofChange tapeNobodySpec)

/-- ITS FALSE NEIGHBOUR: 'it returns false'. Refute it at one input. -/
def tapeNobodyWrong : ChangeSpec := { name := "tapeNobody", fn := fun _ => fun
  | [d] => { results := [.lit (.bool false)], args := [d] }
  | _ => none }
def TapeNobodyWrongFalsely : Prop := tapeNobodyRow.holds Try.pinned (OpenSpec.ofChange tapeNobodyWrong)

/-- 'raddlelaw16.JournalAgain': WHATEVER THE INPUT: true; the input reads as it did. -/
def journalAgainSpec : ChangeSpec := { name := "journalAgain", fn := fun _ => fun
  | [d1, d2] => { results := [.lit (.bool true)], args := [d1, d2] }
  | _ => none }
def journalAgainRow : OpenClaim := { program := "ytnkenkdglcmpdaa", sum := "f0d12870b1712735f65659bf622a2399d80f42e75ced1e8e34c16e5d2c1d3ab3", func := "raddle/raddlelaw16.JournalAgain", spec := "journalAgain", unfollowed := true, recurses := true, apart := false }
def JournalAgainSaid : Prop := journalAgainRow.holds Try.pinned (OpenSpec.ofChange journalAgainSpec)

/-- ITS FALSE NEIGHBOUR: 'it returns false'. Refute it at one input. -/
def journalAgainWrong : ChangeSpec := { name := "journalAgain", fn := fun _ => fun
  | [d1, d2] => { results := [.lit (.bool false)], args := [d1, d2] }
  | _ => none }
def JournalAgainWrongFalsely : Prop := journalAgainRow.holds Try.pinned (OpenSpec.ofChange journalAgainWrong)

/-- 'raddlelaw16.JournalNobody': WHATEVER THE INPUT: true; the input reads as it did. -/
def journalNobodySpec : ChangeSpec := { name := "journalNobody", fn := fun _ => fun
  | [d] => { results := [.lit (.bool true)], args := [d] }
  | _ => none }
def journalNobodyRow : OpenClaim := { program := "ytnkenkdglcmpdaa", sum := "f0d12870b1712735f65659bf622a2399d80f42e75ced1e8e34c16e5d2c1d3ab3", func := "raddle/raddlelaw16.JournalNobody", spec := "journalNobody", unfollowed := true, recurses := true, apart := false }
def JournalNobodySaid : Prop := journalNobodyRow.holds Try.pinned (OpenSpec.ofChange journalNobodySpec)

/-- ITS FALSE NEIGHBOUR: 'it returns false'. Refute it at one input. -/
def journalNobodyWrong : ChangeSpec := { name := "journalNobody", fn := fun _ => fun
  | [d] => { results := [.lit (.bool false)], args := [d] }
  | _ => none }
def JournalNobodyWrongFalsely : Prop := journalNobodyRow.holds Try.pinned (OpenSpec.ofChange journalNobodyWrong)

/-- 'raddlelaw16.JournalFrames': WHATEVER THE INPUT: true; the input reads as it did. -/
def journalFramesSpec : ChangeSpec := { name := "journalFrames", fn := fun _ => fun
  | [d1, d2, d3] => { results := [.lit (.bool true)], args := [d1, d2, d3] }
  | _ => none }
def journalFramesRow : OpenClaim := { program := "ytnkenkdglcmpdaa", sum := "f0d12870b1712735f65659bf622a2399d80f42e75ced1e8e34c16e5d2c1d3ab3", func := "raddle/raddlelaw16.JournalFrames", spec := "journalFrames", unfollowed := true, recurses := true, apart := false }
def JournalFramesSaid : Prop := journalFramesRow.holds Try.pinned (OpenSpec.ofChange journalFramesSpec)

/-- ITS FALSE NEIGHBOUR: 'it returns false'. Refute it at one input. -/
def journalFramesWrong : ChangeSpec := { name := "journalFrames", fn := fun _ => fun
  | [d1, d2, d3] => { results := [.lit (.bool false)], args := [d1, d2, d3] }
  | _ => none }
def JournalFramesWrongFalsely : Prop := journalFramesRow.holds Try.pinned (OpenSpec.ofChange journalFramesWrong)

/-- 'raddlelaw16.JournalKeeps': WHATEVER THE INPUT: true; the input reads as it did. -/
def journalKeepsSpec : ChangeSpec := { name := "journalKeeps", fn := fun _ => fun
  | [d1, d2, d3, d4] => { results := [.lit (.bool true)], args := [d1, d2, d3, d4] }
  | _ => none }
def journalKeepsRow : OpenClaim := { program := "ytnkenkdglcmpdaa", sum := "f0d12870b1712735f65659bf622a2399d80f42e75ced1e8e34c16e5d2c1d3ab3", func := "raddle/raddlelaw16.JournalKeeps", spec := "journalKeeps", unfollowed := true, recurses := true, apart := false }
def JournalKeepsSaid : Prop := journalKeepsRow.holds Try.pinned (OpenSpec.ofChange journalKeepsSpec)

/-- ITS FALSE NEIGHBOUR: 'it returns false'. Refute it at one input. -/
def journalKeepsWrong : ChangeSpec := { name := "journalKeeps", fn := fun _ => fun
  | [d1, d2, d3, d4] => { results := [.lit (.bool false)], args := [d1, d2, d3, d4] }
  | _ => none }
def JournalKeepsWrongFalsely : Prop := journalKeepsRow.holds Try.pinned (OpenSpec.ofChange journalKeepsWrong)

/-- 'raddlelaw16.JournalLays': WHATEVER THE INPUT: true; the input reads as it did. -/
def journalLaysSpec : ChangeSpec := { name := "journalLays", fn := fun _ => fun
  | [d1, d2, d3, d4, d5] => { results := [.lit (.bool true)], args := [d1, d2, d3, d4, d5] }
  | _ => none }
def journalLaysRow : OpenClaim := { program := "ytnkenkdglcmpdaa", sum := "f0d12870b1712735f65659bf622a2399d80f42e75ced1e8e34c16e5d2c1d3ab3", func := "raddle/raddlelaw16.JournalLays", spec := "journalLays", unfollowed := true, recurses := true, apart := false }
def JournalLaysSaid : Prop := journalLaysRow.holds Try.pinned (OpenSpec.ofChange journalLaysSpec)

/-- ITS FALSE NEIGHBOUR: 'it returns false'. Refute it at one input. -/
def journalLaysWrong : ChangeSpec := { name := "journalLays", fn := fun _ => fun
  | [d1, d2, d3, d4, d5] => { results := [.lit (.bool false)], args := [d1, d2, d3, d4, d5] }
  | _ => none }
def JournalLaysWrongFalsely : Prop := journalLaysRow.holds Try.pinned (OpenSpec.ofChange journalLaysWrong)

/- THE SECOND FORM. 'bulk': how many values and letters a reading holds, each counted each time it is reached (what is shared counts as often as it is met; a slice's spare places count too). A statement '..UptoSaid' is the law's where the arguments, and the package variables that the reading takes, are together of bulk at most 1048576: NARROWER than '..Said'. Prove '..Said' where nothing that the law and all that it calls make is longer than what came in: it says more and counts as full. Else prove '..UptoSaid'. A law counts once. -/
mutual
def uptoBulk {H : Type} : DataW H → Nat
  | .lit (.string bytes) => bytes.length + 1
  | .lit _ => 1
  | .nil => 1
  | .ptr d => uptoBulk d + 1
  | .slice elems spare => uptoBulkAll elems + uptoBulkAll spare + 1
  | .agg parts => uptoBulkAll parts + 1
  | .iface _ d => uptoBulk d + 1
  | .map entries => uptoBulkEntries entries + 1
  | .held _ => 1
def uptoBulkAll {H : Type} : List (DataW H) → Nat
  | [] => 0
  | d :: r => uptoBulk d + uptoBulkAll r
def uptoBulkEntries {H : Type} : List (Lit × DataW H) → Nat
  | [] => 0
  | x :: r => uptoBulkEntry x + uptoBulkEntries r
def uptoBulkEntry {H : Type} : Lit × DataW H → Nat
  | (.string bytes, d) => bytes.length + uptoBulk d + 1
  | (_, d) => uptoBulk d + 1
 end
def uptoSmall : (H : Type) → List (DataW H) → Bool := fun _ ds => decide (uptoBulkAll ds ≤ 1048576)
def OpenSpec.upto (s : _root_.Go.ChangeSpec) : _root_.Go.OpenSpec := { _root_.Go.OpenSpec.ofChange s with cond := some uptoSmall }

/-- 'raddlelaw02.Crc24Cuts', WHERE WHAT IT READS IS OF BULK AT MOST 1048576: true; the input reads as it did. -/
def crc24CutsUptoRow : OpenClaim := { program := "ytnkenkdglcmpdaa", sum := "f0d12870b1712735f65659bf622a2399d80f42e75ced1e8e34c16e5d2c1d3ab3", func := "raddle/raddlelaw02.Crc24Cuts", spec := "crc24Cuts", unfollowed := true, recurses := true, apart := false, narrowed := true }
def Crc24CutsUptoSaid : Prop := crc24CutsUptoRow.holds Try.pinned (OpenSpec.upto crc24CutsSpec)

/-- 'raddlelaw02.Crc24Bursts', WHERE WHAT IT READS IS OF BULK AT MOST 1048576: true; the input reads as it did. -/
def crc24BurstsUptoRow : OpenClaim := { program := "ytnkenkdglcmpdaa", sum := "f0d12870b1712735f65659bf622a2399d80f42e75ced1e8e34c16e5d2c1d3ab3", func := "raddle/raddlelaw02.Crc24Bursts", spec := "crc24Bursts", unfollowed := true, recurses := true, apart := false, narrowed := true }
def Crc24BurstsUptoSaid : Prop := crc24BurstsUptoRow.holds Try.pinned (OpenSpec.upto crc24BurstsSpec)

/-- 'raddlelaw02.Crc24Xors', WHERE WHAT IT READS IS OF BULK AT MOST 1048576: true; the input reads as it did. -/
def crc24XorsUptoRow : OpenClaim := { program := "ytnkenkdglcmpdaa", sum := "f0d12870b1712735f65659bf622a2399d80f42e75ced1e8e34c16e5d2c1d3ab3", func := "raddle/raddlelaw02.Crc24Xors", spec := "crc24Xors", unfollowed := true, recurses := true, apart := false, narrowed := true }
def Crc24XorsUptoSaid : Prop := crc24XorsUptoRow.holds Try.pinned (OpenSpec.upto crc24XorsSpec)

/-- 'raddlelaw02.Crc24Sums', WHERE WHAT IT READS IS OF BULK AT MOST 1048576: true; the input reads as it did. -/
def crc24SumsUptoRow : OpenClaim := { program := "ytnkenkdglcmpdaa", sum := "f0d12870b1712735f65659bf622a2399d80f42e75ced1e8e34c16e5d2c1d3ab3", func := "raddle/raddlelaw02.Crc24Sums", spec := "crc24Sums", unfollowed := true, recurses := true, apart := false, narrowed := true }
def Crc24SumsUptoSaid : Prop := crc24SumsUptoRow.holds Try.pinned (OpenSpec.upto crc24SumsSpec)

/-- 'raddlelaw15.TapeRefused', WHERE WHAT IT READS IS OF BULK AT MOST 1048576: true; the input reads as it did. -/
def tapeRefusedUptoRow : OpenClaim := { program := "ytnkenkdglcmpdaa", sum := "f0d12870b1712735f65659bf622a2399d80f42e75ced1e8e34c16e5d2c1d3ab3", func := "raddle/raddlelaw15.TapeRefused", spec := "tapeRefused", unfollowed := true, recurses := true, apart := false, narrowed := true }
def TapeRefusedUptoSaid : Prop := tapeRefusedUptoRow.holds Try.pinned (OpenSpec.upto tapeRefusedSpec)

/-- 'raddlelaw15.TapeSure', WHERE WHAT IT READS IS OF BULK AT MOST 1048576: true; the input reads as it did. -/
def tapeSureUptoRow : OpenClaim := { program := "ytnkenkdglcmpdaa", sum := "f0d12870b1712735f65659bf622a2399d80f42e75ced1e8e34c16e5d2c1d3ab3", func := "raddle/raddlelaw15.TapeSure", spec := "tapeSure", unfollowed := true, recurses := true, apart := false, narrowed := true }
def TapeSureUptoSaid : Prop := tapeSureUptoRow.holds Try.pinned (OpenSpec.upto tapeSureSpec)

/-- 'raddlelaw15.TapePlays', WHERE WHAT IT READS IS OF BULK AT MOST 1048576: true; the input reads as it did. -/
def tapePlaysUptoRow : OpenClaim := { program := "ytnkenkdglcmpdaa", sum := "f0d12870b1712735f65659bf622a2399d80f42e75ced1e8e34c16e5d2c1d3ab3", func := "raddle/raddlelaw15.TapePlays", spec := "tapePlays", unfollowed := true, recurses := true, apart := false, narrowed := true }
def TapePlaysUptoSaid : Prop := tapePlaysUptoRow.holds Try.pinned (OpenSpec.upto tapePlaysSpec)

/-- 'raddlelaw15.TapeNobody', WHERE WHAT IT READS IS OF BULK AT MOST 1048576: true; the input reads as it did. -/
def tapeNobodyUptoRow : OpenClaim := { program := "ytnkenkdglcmpdaa", sum := "f0d12870b1712735f65659bf622a2399d80f42e75ced1e8e34c16e5d2c1d3ab3", func := "raddle/raddlelaw15.TapeNobody", spec := "tapeNobody", unfollowed := true, recurses := true, apart := false, narrowed := true }
def TapeNobodyUptoSaid : Prop := tapeNobodyUptoRow.holds Try.pinned (OpenSpec.upto tapeNobodySpec)

/-- 'raddlelaw16.JournalAgain', WHERE WHAT IT READS IS OF BULK AT MOST 1048576: true; the input reads as it did. -/
def journalAgainUptoRow : OpenClaim := { program := "ytnkenkdglcmpdaa", sum := "f0d12870b1712735f65659bf622a2399d80f42e75ced1e8e34c16e5d2c1d3ab3", func := "raddle/raddlelaw16.JournalAgain", spec := "journalAgain", unfollowed := true, recurses := true, apart := false, narrowed := true }
def JournalAgainUptoSaid : Prop := journalAgainUptoRow.holds Try.pinned (OpenSpec.upto journalAgainSpec)

/-- 'raddlelaw16.JournalNobody', WHERE WHAT IT READS IS OF BULK AT MOST 1048576: true; the input reads as it did. -/
def journalNobodyUptoRow : OpenClaim := { program := "ytnkenkdglcmpdaa", sum := "f0d12870b1712735f65659bf622a2399d80f42e75ced1e8e34c16e5d2c1d3ab3", func := "raddle/raddlelaw16.JournalNobody", spec := "journalNobody", unfollowed := true, recurses := true, apart := false, narrowed := true }
def JournalNobodyUptoSaid : Prop := journalNobodyUptoRow.holds Try.pinned (OpenSpec.upto journalNobodySpec)

/-- 'raddlelaw16.JournalFrames', WHERE WHAT IT READS IS OF BULK AT MOST 1048576: true; the input reads as it did. -/
def journalFramesUptoRow : OpenClaim := { program := "ytnkenkdglcmpdaa", sum := "f0d12870b1712735f65659bf622a2399d80f42e75ced1e8e34c16e5d2c1d3ab3", func := "raddle/raddlelaw16.JournalFrames", spec := "journalFrames", unfollowed := true, recurses := true, apart := false, narrowed := true }
def JournalFramesUptoSaid : Prop := journalFramesUptoRow.holds Try.pinned (OpenSpec.upto journalFramesSpec)

/-- 'raddlelaw16.JournalKeeps', WHERE WHAT IT READS IS OF BULK AT MOST 1048576: true; the input reads as it did. -/
def journalKeepsUptoRow : OpenClaim := { program := "ytnkenkdglcmpdaa", sum := "f0d12870b1712735f65659bf622a2399d80f42e75ced1e8e34c16e5d2c1d3ab3", func := "raddle/raddlelaw16.JournalKeeps", spec := "journalKeeps", unfollowed := true, recurses := true, apart := false, narrowed := true }
def JournalKeepsUptoSaid : Prop := journalKeepsUptoRow.holds Try.pinned (OpenSpec.upto journalKeepsSpec)

/-- 'raddlelaw16.JournalLays', WHERE WHAT IT READS IS OF BULK AT MOST 1048576: true; the input reads as it did. -/
def journalLaysUptoRow : OpenClaim := { program := "ytnkenkdglcmpdaa", sum := "f0d12870b1712735f65659bf622a2399d80f42e75ced1e8e34c16e5d2c1d3ab3", func := "raddle/raddlelaw16.JournalLays", spec := "journalLays", unfollowed := true, recurses := true, apart := false, narrowed := true }
def JournalLaysUptoSaid : Prop := journalLaysUptoRow.holds Try.pinned (OpenSpec.upto journalLaysSpec)

end Rows
end Go.Proofs.Ytnkenkdglcmpdaa
