/-
  No cell of these rows narrows 'for every input' (looked for: loops, veiled, ifaces, maps, wideKeys, modest, calm, conditions, laid).
  DERIVED. THE GIVEN ROWS OF THIS SEAT. 10 by the template 'for every input the law returns true; each argument reads behind the call as it read before'; 0 by the template 'total and deterministic' (their statements: YtnnoeamcdbnbaaaTotals.lean).
  GIVEN WITH THE SEED: the statements are not yours to turn. If you find one false, say at which input.
  Laid BY PROGRAM, IN A SANDBOX (cutbox-rows.mjs): the forced cells as the released guide's own fill.sh prints them over the translation ec1df3142474fb64… (all of the seat's roots in one cut). By AI agents, Wed Nov 11 2026. No macro, syntax, notation, axiom, sorry.
-/
import Derived.Test.YtnnoeamcdbnbaaaChecked
import GoSem.Claim
import GoSem.ClaimJoined
import GoSem.ClaimMapViews
import Derived.JoinedTies
import Derived.KernelRfl
namespace Go.Proofs.Ytnnoeamcdbnbaaa
/- THE CELL 'sum', in the pinned program and in every row, IS THE sha256 OF THE DUMP (.gsa) THAT YtnnoeamcdbnbaaaProg.lean LOADS. Nothing in Lean hashes anything: it is a label: what it is worth is what the hold of that sum in a sandbox is worth. -/
noncomputable def Try.pinned : Pinned := { name := "ytnnoeamcdbnbaaa", sum := "ec1df3142474fb64dc570c02fe443ba0a989a4f398e1518261487fb99d4f9aa1", checked := Try.checked }
namespace Rows
def none {H : Type} : Left H := { results := [], args := [] }

/-- 'laws.FnExactCountWholeWays': WHATEVER THE INPUT: true; the input reads as it did. -/
def fnExactCountWholeWaysSpec : ChangeSpec := { name := "fnExactCountWholeWays", fn := fun _ => fun
  | [d1, d2] => { results := [.lit (.bool true)], args := [d1, d2] }
  | _ => none }
def fnExactCountWholeWaysRow : OpenClaim := { program := "ytnnoeamcdbnbaaa", sum := "ec1df3142474fb64dc570c02fe443ba0a989a4f398e1518261487fb99d4f9aa1", func := "loop.example/g01336/laws.FnExactCountWholeWays", spec := "fnExactCountWholeWays", apart := false }
def FnExactCountWholeWaysSaid : Prop := fnExactCountWholeWaysRow.holds Try.pinned (OpenSpec.ofChange fnExactCountWholeWaysSpec)

/-- ITS FALSE NEIGHBOUR: 'it returns false'. Refute it at one input. -/
def fnExactCountWholeWaysWrong : ChangeSpec := { name := "fnExactCountWholeWays", fn := fun _ => fun
  | [d1, d2] => { results := [.lit (.bool false)], args := [d1, d2] }
  | _ => none }
def FnExactCountWholeWaysWrongFalsely : Prop := fnExactCountWholeWaysRow.holds Try.pinned (OpenSpec.ofChange fnExactCountWholeWaysWrong)

/-- 'laws.FnExactAreWays': WHATEVER THE INPUT: true; the input reads as it did. -/
def fnExactAreWaysSpec : ChangeSpec := { name := "fnExactAreWays", fn := fun _ => fun
  | [d] => { results := [.lit (.bool true)], args := [d] }
  | _ => none }
def fnExactAreWaysRow : OpenClaim := { program := "ytnnoeamcdbnbaaa", sum := "ec1df3142474fb64dc570c02fe443ba0a989a4f398e1518261487fb99d4f9aa1", func := "loop.example/g01336/laws.FnExactAreWays", spec := "fnExactAreWays", inPlace := ["internal/bytealg.IndexByteString"], apart := false }
def FnExactAreWaysSaid : Prop := fnExactAreWaysRow.holds Try.pinned (OpenSpec.ofChange fnExactAreWaysSpec)

/-- ITS FALSE NEIGHBOUR: 'it returns false'. Refute it at one input. -/
def fnExactAreWaysWrong : ChangeSpec := { name := "fnExactAreWays", fn := fun _ => fun
  | [d] => { results := [.lit (.bool false)], args := [d] }
  | _ => none }
def FnExactAreWaysWrongFalsely : Prop := fnExactAreWaysRow.holds Try.pinned (OpenSpec.ofChange fnExactAreWaysWrong)

/-- 'laws.FnExactTurnsOfWord': WHATEVER THE INPUT: true; the input reads as it did. -/
def fnExactTurnsOfWordSpec : ChangeSpec := { name := "fnExactTurnsOfWord", fn := fun _ => fun
  | [d] => { results := [.lit (.bool true)], args := [d] }
  | _ => none }
def fnExactTurnsOfWordRow : OpenClaim := { program := "ytnnoeamcdbnbaaa", sum := "ec1df3142474fb64dc570c02fe443ba0a989a4f398e1518261487fb99d4f9aa1", func := "loop.example/g01336/laws.FnExactTurnsOfWord", spec := "fnExactTurnsOfWord", inPlace := ["internal/bytealg.IndexByteString"], apart := false }
def FnExactTurnsOfWordSaid : Prop := fnExactTurnsOfWordRow.holds Try.pinned (OpenSpec.ofChange fnExactTurnsOfWordSpec)

/-- ITS FALSE NEIGHBOUR: 'it returns false'. Refute it at one input. -/
def fnExactTurnsOfWordWrong : ChangeSpec := { name := "fnExactTurnsOfWord", fn := fun _ => fun
  | [d] => { results := [.lit (.bool false)], args := [d] }
  | _ => none }
def FnExactTurnsOfWordWrongFalsely : Prop := fnExactTurnsOfWordRow.holds Try.pinned (OpenSpec.ofChange fnExactTurnsOfWordWrong)

/-- 'laws.FnExactWaysText': WHATEVER THE INPUT: true; the input reads as it did. -/
def fnExactWaysTextSpec : ChangeSpec := { name := "fnExactWaysText", fn := fun _ => fun
  | [d] => { results := [.lit (.bool true)], args := [d] }
  | _ => none }
def fnExactWaysTextRow : OpenClaim := { program := "ytnnoeamcdbnbaaa", sum := "ec1df3142474fb64dc570c02fe443ba0a989a4f398e1518261487fb99d4f9aa1", func := "loop.example/g01336/laws.FnExactWaysText", spec := "fnExactWaysText", inPlace := ["internal/bytealg.IndexByteString"], apart := false }
def FnExactWaysTextSaid : Prop := fnExactWaysTextRow.holds Try.pinned (OpenSpec.ofChange fnExactWaysTextSpec)

/-- ITS FALSE NEIGHBOUR: 'it returns false'. Refute it at one input. -/
def fnExactWaysTextWrong : ChangeSpec := { name := "fnExactWaysText", fn := fun _ => fun
  | [d] => { results := [.lit (.bool false)], args := [d] }
  | _ => none }
def FnExactWaysTextWrongFalsely : Prop := fnExactWaysTextRow.holds Try.pinned (OpenSpec.ofChange fnExactWaysTextWrong)

/-- 'laws.FnExactHasRing': WHATEVER THE INPUT: true; the input reads as it did. -/
def fnExactHasRingSpec : ChangeSpec := { name := "fnExactHasRing", fn := fun _ => fun
  | [d] => { results := [.lit (.bool true)], args := [d] }
  | _ => none }
def fnExactHasRingRow : OpenClaim := { program := "ytnnoeamcdbnbaaa", sum := "ec1df3142474fb64dc570c02fe443ba0a989a4f398e1518261487fb99d4f9aa1", func := "loop.example/g01336/laws.FnExactHasRing", spec := "fnExactHasRing", inPlace := ["internal/bytealg.IndexByteString"], apart := false }
def FnExactHasRingSaid : Prop := fnExactHasRingRow.holds Try.pinned (OpenSpec.ofChange fnExactHasRingSpec)

/-- ITS FALSE NEIGHBOUR: 'it returns false'. Refute it at one input. -/
def fnExactHasRingWrong : ChangeSpec := { name := "fnExactHasRing", fn := fun _ => fun
  | [d] => { results := [.lit (.bool false)], args := [d] }
  | _ => none }
def FnExactHasRingWrongFalsely : Prop := fnExactHasRingRow.holds Try.pinned (OpenSpec.ofChange fnExactHasRingWrong)

/-- 'laws.FnExactRoundOfBlock': WHATEVER THE INPUT: true; the input reads as it did. -/
def fnExactRoundOfBlockSpec : ChangeSpec := { name := "fnExactRoundOfBlock", fn := fun _ => fun
  | [d1, d2, d3] => { results := [.lit (.bool true)], args := [d1, d2, d3] }
  | _ => none }
def fnExactRoundOfBlockRow : OpenClaim := { program := "ytnnoeamcdbnbaaa", sum := "ec1df3142474fb64dc570c02fe443ba0a989a4f398e1518261487fb99d4f9aa1", func := "loop.example/g01336/laws.FnExactRoundOfBlock", spec := "fnExactRoundOfBlock", inPlace := ["internal/bytealg.IndexByteString"], apart := false }
def FnExactRoundOfBlockSaid : Prop := fnExactRoundOfBlockRow.holds Try.pinned (OpenSpec.ofChange fnExactRoundOfBlockSpec)

/-- ITS FALSE NEIGHBOUR: 'it returns false'. Refute it at one input. -/
def fnExactRoundOfBlockWrong : ChangeSpec := { name := "fnExactRoundOfBlock", fn := fun _ => fun
  | [d1, d2, d3] => { results := [.lit (.bool false)], args := [d1, d2, d3] }
  | _ => none }
def FnExactRoundOfBlockWrongFalsely : Prop := fnExactRoundOfBlockRow.holds Try.pinned (OpenSpec.ofChange fnExactRoundOfBlockWrong)

/-- 'laws.FnExactBackWays': WHATEVER THE INPUT: true; the input reads as it did. -/
def fnExactBackWaysSpec : ChangeSpec := { name := "fnExactBackWays", fn := fun _ => fun
  | [d] => { results := [.lit (.bool true)], args := [d] }
  | _ => none }
def fnExactBackWaysRow : OpenClaim := { program := "ytnnoeamcdbnbaaa", sum := "ec1df3142474fb64dc570c02fe443ba0a989a4f398e1518261487fb99d4f9aa1", func := "loop.example/g01336/laws.FnExactBackWays", spec := "fnExactBackWays", inPlace := ["internal/bytealg.IndexByteString"], apart := false }
def FnExactBackWaysSaid : Prop := fnExactBackWaysRow.holds Try.pinned (OpenSpec.ofChange fnExactBackWaysSpec)

/-- ITS FALSE NEIGHBOUR: 'it returns false'. Refute it at one input. -/
def fnExactBackWaysWrong : ChangeSpec := { name := "fnExactBackWays", fn := fun _ => fun
  | [d] => { results := [.lit (.bool false)], args := [d] }
  | _ => none }
def FnExactBackWaysWrongFalsely : Prop := fnExactBackWaysRow.holds Try.pinned (OpenSpec.ofChange fnExactBackWaysWrong)

/-- 'laws.FnExactTurnWay': WHATEVER THE INPUT: true; the input reads as it did. -/
def fnExactTurnWaySpec : ChangeSpec := { name := "fnExactTurnWay", fn := fun _ => fun
  | [d1, d2] => { results := [.lit (.bool true)], args := [d1, d2] }
  | _ => none }
def fnExactTurnWayRow : OpenClaim := { program := "ytnnoeamcdbnbaaa", sum := "ec1df3142474fb64dc570c02fe443ba0a989a4f398e1518261487fb99d4f9aa1", func := "loop.example/g01336/laws.FnExactTurnWay", spec := "fnExactTurnWay", inPlace := ["internal/bytealg.IndexByteString"], apart := false }
def FnExactTurnWaySaid : Prop := fnExactTurnWayRow.holds Try.pinned (OpenSpec.ofChange fnExactTurnWaySpec)

/-- ITS FALSE NEIGHBOUR: 'it returns false'. Refute it at one input. -/
def fnExactTurnWayWrong : ChangeSpec := { name := "fnExactTurnWay", fn := fun _ => fun
  | [d1, d2] => { results := [.lit (.bool false)], args := [d1, d2] }
  | _ => none }
def FnExactTurnWayWrongFalsely : Prop := fnExactTurnWayRow.holds Try.pinned (OpenSpec.ofChange fnExactTurnWayWrong)

/-- 'laws.FnExactCountRounds': WHATEVER THE INPUT: true; the input reads as it did. -/
def fnExactCountRoundsSpec : ChangeSpec := { name := "fnExactCountRounds", fn := fun _ => fun
  | [d] => { results := [.lit (.bool true)], args := [d] }
  | _ => none }
def fnExactCountRoundsRow : OpenClaim := { program := "ytnnoeamcdbnbaaa", sum := "ec1df3142474fb64dc570c02fe443ba0a989a4f398e1518261487fb99d4f9aa1", func := "loop.example/g01336/laws.FnExactCountRounds", spec := "fnExactCountRounds", inPlace := ["internal/bytealg.IndexByteString"], apart := false }
def FnExactCountRoundsSaid : Prop := fnExactCountRoundsRow.holds Try.pinned (OpenSpec.ofChange fnExactCountRoundsSpec)

/-- ITS FALSE NEIGHBOUR: 'it returns false'. Refute it at one input. -/
def fnExactCountRoundsWrong : ChangeSpec := { name := "fnExactCountRounds", fn := fun _ => fun
  | [d] => { results := [.lit (.bool false)], args := [d] }
  | _ => none }
def FnExactCountRoundsWrongFalsely : Prop := fnExactCountRoundsRow.holds Try.pinned (OpenSpec.ofChange fnExactCountRoundsWrong)

/-- 'laws.FnExactParseWays': WHATEVER THE INPUT: true; the input reads as it did. -/
def fnExactParseWaysSpec : ChangeSpec := { name := "fnExactParseWays", fn := fun _ => fun
  | [d] => { results := [.lit (.bool true)], args := [d] }
  | _ => none }
def fnExactParseWaysRow : OpenClaim := { program := "ytnnoeamcdbnbaaa", sum := "ec1df3142474fb64dc570c02fe443ba0a989a4f398e1518261487fb99d4f9aa1", func := "loop.example/g01336/laws.FnExactParseWays", spec := "fnExactParseWays", inPlace := ["internal/bytealg.IndexByteString", "internal/bytealg.IndexString"], named := ["internal/bytealg.MaxLen"], apart := false }
def FnExactParseWaysSaid : Prop := fnExactParseWaysRow.holds Try.pinned (OpenSpec.ofChange fnExactParseWaysSpec)

/-- ITS FALSE NEIGHBOUR: 'it returns false'. Refute it at one input. -/
def fnExactParseWaysWrong : ChangeSpec := { name := "fnExactParseWays", fn := fun _ => fun
  | [d] => { results := [.lit (.bool false)], args := [d] }
  | _ => none }
def FnExactParseWaysWrongFalsely : Prop := fnExactParseWaysRow.holds Try.pinned (OpenSpec.ofChange fnExactParseWaysWrong)

/- THE SECOND FORM. 'bulk': how many values and letters a reading holds, each counted each time it is reached (what is shared counts as often as it is met; a slice's spare places count too). A statement '..UptoSaid' is the law's where the arguments, and the package variables that the reading takes, are together of bulk at most 1048576: NARROWER than '..Said'. Prove '..Said' where nothing that the law and all that it calls make is longer than what came in: it says more and counts as full. Else prove '..UptoSaid'. A law counts once. -/
mutual
def uptoBulk {H : Type} : DataW H → Nat
  | .lit (.string bytes) => bytes.length + 1
  | .lit _ => 1
  | .nil => 1
  | .ptr d => uptoBulk d + 1
  | .slice elems spare => uptoBulkAll elems + uptoBulkAll spare + 1
  | .agg parts => uptoBulkAll parts + 1
  | .iface _ d => uptoBulk d + 1
  | .map entries => uptoBulkEntries entries + 1
  | .held _ => 1
def uptoBulkAll {H : Type} : List (DataW H) → Nat
  | [] => 0
  | d :: r => uptoBulk d + uptoBulkAll r
def uptoBulkEntries {H : Type} : List (Lit × DataW H) → Nat
  | [] => 0
  | x :: r => uptoBulkEntry x + uptoBulkEntries r
def uptoBulkEntry {H : Type} : Lit × DataW H → Nat
  | (.string bytes, d) => bytes.length + uptoBulk d + 1
  | (_, d) => uptoBulk d + 1
 end
def uptoSmall : (H : Type) → List (DataW H) → Bool := fun _ ds => decide (uptoBulkAll ds ≤ 1048576)
def OpenSpec.upto (s : _root_.Go.ChangeSpec) : _root_.Go.OpenSpec := { _root_.Go.OpenSpec.ofChange s with cond := some uptoSmall }

/-- 'laws.FnExactCountWholeWays', WHERE WHAT IT READS IS OF BULK AT MOST 1048576: true; the input reads as it did. -/
def fnExactCountWholeWaysUptoRow : OpenClaim := { program := "ytnnoeamcdbnbaaa", sum := "ec1df3142474fb64dc570c02fe443ba0a989a4f398e1518261487fb99d4f9aa1", func := "loop.example/g01336/laws.FnExactCountWholeWays", spec := "fnExactCountWholeWays", apart := false, narrowed := true }
def FnExactCountWholeWaysUptoSaid : Prop := fnExactCountWholeWaysUptoRow.holds Try.pinned (OpenSpec.upto fnExactCountWholeWaysSpec)

/-- 'laws.FnExactAreWays', WHERE WHAT IT READS IS OF BULK AT MOST 1048576: true; the input reads as it did. -/
def fnExactAreWaysUptoRow : OpenClaim := { program := "ytnnoeamcdbnbaaa", sum := "ec1df3142474fb64dc570c02fe443ba0a989a4f398e1518261487fb99d4f9aa1", func := "loop.example/g01336/laws.FnExactAreWays", spec := "fnExactAreWays", inPlace := ["internal/bytealg.IndexByteString"], apart := false, narrowed := true }
def FnExactAreWaysUptoSaid : Prop := fnExactAreWaysUptoRow.holds Try.pinned (OpenSpec.upto fnExactAreWaysSpec)

/-- 'laws.FnExactTurnsOfWord', WHERE WHAT IT READS IS OF BULK AT MOST 1048576: true; the input reads as it did. -/
def fnExactTurnsOfWordUptoRow : OpenClaim := { program := "ytnnoeamcdbnbaaa", sum := "ec1df3142474fb64dc570c02fe443ba0a989a4f398e1518261487fb99d4f9aa1", func := "loop.example/g01336/laws.FnExactTurnsOfWord", spec := "fnExactTurnsOfWord", inPlace := ["internal/bytealg.IndexByteString"], apart := false, narrowed := true }
def FnExactTurnsOfWordUptoSaid : Prop := fnExactTurnsOfWordUptoRow.holds Try.pinned (OpenSpec.upto fnExactTurnsOfWordSpec)

/-- 'laws.FnExactWaysText', WHERE WHAT IT READS IS OF BULK AT MOST 1048576: true; the input reads as it did. -/
def fnExactWaysTextUptoRow : OpenClaim := { program := "ytnnoeamcdbnbaaa", sum := "ec1df3142474fb64dc570c02fe443ba0a989a4f398e1518261487fb99d4f9aa1", func := "loop.example/g01336/laws.FnExactWaysText", spec := "fnExactWaysText", inPlace := ["internal/bytealg.IndexByteString"], apart := false, narrowed := true }
def FnExactWaysTextUptoSaid : Prop := fnExactWaysTextUptoRow.holds Try.pinned (OpenSpec.upto fnExactWaysTextSpec)

/-- 'laws.FnExactHasRing', WHERE WHAT IT READS IS OF BULK AT MOST 1048576: true; the input reads as it did. -/
def fnExactHasRingUptoRow : OpenClaim := { program := "ytnnoeamcdbnbaaa", sum := "ec1df3142474fb64dc570c02fe443ba0a989a4f398e1518261487fb99d4f9aa1", func := "loop.example/g01336/laws.FnExactHasRing", spec := "fnExactHasRing", inPlace := ["internal/bytealg.IndexByteString"], apart := false, narrowed := true }
def FnExactHasRingUptoSaid : Prop := fnExactHasRingUptoRow.holds Try.pinned (OpenSpec.upto fnExactHasRingSpec)

/-- 'laws.FnExactRoundOfBlock', WHERE WHAT IT READS IS OF BULK AT MOST 1048576: true; the input reads as it did. -/
def fnExactRoundOfBlockUptoRow : OpenClaim := { program := "ytnnoeamcdbnbaaa", sum := "ec1df3142474fb64dc570c02fe443ba0a989a4f398e1518261487fb99d4f9aa1", func := "loop.example/g01336/laws.FnExactRoundOfBlock", spec := "fnExactRoundOfBlock", inPlace := ["internal/bytealg.IndexByteString"], apart := false, narrowed := true }
def FnExactRoundOfBlockUptoSaid : Prop := fnExactRoundOfBlockUptoRow.holds Try.pinned (OpenSpec.upto fnExactRoundOfBlockSpec)

/-- 'laws.FnExactBackWays', WHERE WHAT IT READS IS OF BULK AT MOST 1048576: true; the input reads as it did. -/
def fnExactBackWaysUptoRow : OpenClaim := { program := "ytnnoeamcdbnbaaa", sum := "ec1df3142474fb64dc570c02fe443ba0a989a4f398e1518261487fb99d4f9aa1", func := "loop.example/g01336/laws.FnExactBackWays", spec := "fnExactBackWays", inPlace := ["internal/bytealg.IndexByteString"], apart := false, narrowed := true }
def FnExactBackWaysUptoSaid : Prop := fnExactBackWaysUptoRow.holds Try.pinned (OpenSpec.upto fnExactBackWaysSpec)

/-- 'laws.FnExactTurnWay', WHERE WHAT IT READS IS OF BULK AT MOST 1048576: true; the input reads as it did. -/
def fnExactTurnWayUptoRow : OpenClaim := { program := "ytnnoeamcdbnbaaa", sum := "ec1df3142474fb64dc570c02fe443ba0a989a4f398e1518261487fb99d4f9aa1", func := "loop.example/g01336/laws.FnExactTurnWay", spec := "fnExactTurnWay", inPlace := ["internal/bytealg.IndexByteString"], apart := false, narrowed := true }
def FnExactTurnWayUptoSaid : Prop := fnExactTurnWayUptoRow.holds Try.pinned (OpenSpec.upto fnExactTurnWaySpec)

/-- 'laws.FnExactCountRounds', WHERE WHAT IT READS IS OF BULK AT MOST 1048576: true; the input reads as it did. -/
def fnExactCountRoundsUptoRow : OpenClaim := { program := "ytnnoeamcdbnbaaa", sum := "ec1df3142474fb64dc570c02fe443ba0a989a4f398e1518261487fb99d4f9aa1", func := "loop.example/g01336/laws.FnExactCountRounds", spec := "fnExactCountRounds", inPlace := ["internal/bytealg.IndexByteString"], apart := false, narrowed := true }
def FnExactCountRoundsUptoSaid : Prop := fnExactCountRoundsUptoRow.holds Try.pinned (OpenSpec.upto fnExactCountRoundsSpec)

/-- 'laws.FnExactParseWays', WHERE WHAT IT READS IS OF BULK AT MOST 1048576: true; the input reads as it did. -/
def fnExactParseWaysUptoRow : OpenClaim := { program := "ytnnoeamcdbnbaaa", sum := "ec1df3142474fb64dc570c02fe443ba0a989a4f398e1518261487fb99d4f9aa1", func := "loop.example/g01336/laws.FnExactParseWays", spec := "fnExactParseWays", inPlace := ["internal/bytealg.IndexByteString", "internal/bytealg.IndexString"], named := ["internal/bytealg.MaxLen"], apart := false, narrowed := true }
def FnExactParseWaysUptoSaid : Prop := fnExactParseWaysUptoRow.holds Try.pinned (OpenSpec.upto fnExactParseWaysSpec)

end Rows
end Go.Proofs.Ytnnoeamcdbnbaaa
