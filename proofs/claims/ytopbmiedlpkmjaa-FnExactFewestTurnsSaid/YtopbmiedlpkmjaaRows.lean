/-
  No cell of these rows narrows 'for every input' (looked for: loops, veiled, ifaces, maps, wideKeys, modest, calm, conditions, laid).
  DERIVED. THE GIVEN ROWS OF THIS SEAT. 10 by the template 'for every input the law returns true; each argument reads behind the call as it read before'; 0 by the template 'total and deterministic' (their statements: YtopbmiedlpkmjaaTotals.lean).
  GIVEN WITH THE SEED: the statements are not yours to turn. If you find one false, say at which input.
  Laid BY PROGRAM, IN A SANDBOX (cutbox-rows.mjs): the forced cells as the released guide's own fill.sh prints them over the translation f3f78cc3e6be2bb4… (all of the seat's roots in one cut). By AI agents, Wed Nov 11 2026. No macro, syntax, notation, axiom, sorry.
-/
import Derived.Test.YtopbmiedlpkmjaaChecked
import GoSem.Claim
import GoSem.ClaimJoined
import GoSem.ClaimMapViews
import Derived.JoinedTies
import Derived.KernelRfl
namespace Go.Proofs.Ytopbmiedlpkmjaa
/- THE CELL 'sum', in the pinned program and in every row, IS THE sha256 OF THE DUMP (.gsa) THAT YtopbmiedlpkmjaaProg.lean LOADS. Nothing in Lean hashes anything: it is a label: what it is worth is what the hold of that sum in a sandbox is worth. -/
noncomputable def Try.pinned : Pinned := { name := "ytopbmiedlpkmjaa", sum := "f3f78cc3e6be2bb4b7350519a8cb708cb3d7a71a3505c1269e6dd1c421e303ca", checked := Try.checked }
namespace Rows
def none {H : Type} : Left H := { results := [], args := [] }

/-- 'laws.FnExactIsWholeWays': WHATEVER THE INPUT: true; the input reads as it did. -/
def fnExactIsWholeWaysSpec : ChangeSpec := { name := "fnExactIsWholeWays", fn := fun _ => fun
  | [d] => { results := [.lit (.bool true)], args := [d] }
  | _ => none }
def fnExactIsWholeWaysRow : OpenClaim := { program := "ytopbmiedlpkmjaa", sum := "f3f78cc3e6be2bb4b7350519a8cb708cb3d7a71a3505c1269e6dd1c421e303ca", func := "loop.example/g01336/laws.FnExactIsWholeWays", spec := "fnExactIsWholeWays", inPlace := ["internal/bytealg.IndexByteString"], unfollowed := true, recurses := true, plainKeys := false, apart := false }
def FnExactIsWholeWaysSaid : Prop := fnExactIsWholeWaysRow.holds Try.pinned (OpenSpec.ofChange fnExactIsWholeWaysSpec)

/-- ITS FALSE NEIGHBOUR: 'it returns false'. Refute it at one input. -/
def fnExactIsWholeWaysWrong : ChangeSpec := { name := "fnExactIsWholeWays", fn := fun _ => fun
  | [d] => { results := [.lit (.bool false)], args := [d] }
  | _ => none }
def FnExactIsWholeWaysWrongFalsely : Prop := fnExactIsWholeWaysRow.holds Try.pinned (OpenSpec.ofChange fnExactIsWholeWaysWrong)

/-- 'laws.FnExactDriveWord': WHATEVER THE INPUT: true; the input reads as it did. -/
def fnExactDriveWordSpec : ChangeSpec := { name := "fnExactDriveWord", fn := fun _ => fun
  | [d1, d2, d3] => { results := [.lit (.bool true)], args := [d1, d2, d3] }
  | _ => none }
def fnExactDriveWordRow : OpenClaim := { program := "ytopbmiedlpkmjaa", sum := "f3f78cc3e6be2bb4b7350519a8cb708cb3d7a71a3505c1269e6dd1c421e303ca", func := "loop.example/g01336/laws.FnExactDriveWord", spec := "fnExactDriveWord", inPlace := ["internal/bytealg.IndexByteString"], unfollowed := true, recurses := true, plainKeys := false, apart := false }
def FnExactDriveWordSaid : Prop := fnExactDriveWordRow.holds Try.pinned (OpenSpec.ofChange fnExactDriveWordSpec)

/-- ITS FALSE NEIGHBOUR: 'it returns false'. Refute it at one input. -/
def fnExactDriveWordWrong : ChangeSpec := { name := "fnExactDriveWord", fn := fun _ => fun
  | [d1, d2, d3] => { results := [.lit (.bool false)], args := [d1, d2, d3] }
  | _ => none }
def FnExactDriveWordWrongFalsely : Prop := fnExactDriveWordRow.holds Try.pinned (OpenSpec.ofChange fnExactDriveWordWrong)

/-- 'laws.FnExactFewestTurns': WHATEVER THE INPUT: true; the input reads as it did. -/
def fnExactFewestTurnsSpec : ChangeSpec := { name := "fnExactFewestTurns", fn := fun _ => fun
  | [d1, d2, d3] => { results := [.lit (.bool true)], args := [d1, d2, d3] }
  | _ => none }
def fnExactFewestTurnsRow : OpenClaim := { program := "ytopbmiedlpkmjaa", sum := "f3f78cc3e6be2bb4b7350519a8cb708cb3d7a71a3505c1269e6dd1c421e303ca", func := "loop.example/g01336/laws.FnExactFewestTurns", spec := "fnExactFewestTurns", inPlace := ["internal/bytealg.IndexByteString"], unfollowed := true, recurses := true, plainKeys := false, apart := false }
def FnExactFewestTurnsSaid : Prop := fnExactFewestTurnsRow.holds Try.pinned (OpenSpec.ofChange fnExactFewestTurnsSpec)

/-- ITS FALSE NEIGHBOUR: 'it returns false'. Refute it at one input. -/
def fnExactFewestTurnsWrong : ChangeSpec := { name := "fnExactFewestTurns", fn := fun _ => fun
  | [d1, d2, d3] => { results := [.lit (.bool false)], args := [d1, d2, d3] }
  | _ => none }
def FnExactFewestTurnsWrongFalsely : Prop := fnExactFewestTurnsRow.holds Try.pinned (OpenSpec.ofChange fnExactFewestTurnsWrong)

/-- 'laws.FnExactDriveDistance': WHATEVER THE INPUT: true; the input reads as it did. -/
def fnExactDriveDistanceSpec : ChangeSpec := { name := "fnExactDriveDistance", fn := fun _ => fun
  | [d1, d2, d3] => { results := [.lit (.bool true)], args := [d1, d2, d3] }
  | _ => none }
def fnExactDriveDistanceRow : OpenClaim := { program := "ytopbmiedlpkmjaa", sum := "f3f78cc3e6be2bb4b7350519a8cb708cb3d7a71a3505c1269e6dd1c421e303ca", func := "loop.example/g01336/laws.FnExactDriveDistance", spec := "fnExactDriveDistance", inPlace := ["internal/bytealg.IndexByteString"], unfollowed := true, recurses := true, plainKeys := false, apart := false }
def FnExactDriveDistanceSaid : Prop := fnExactDriveDistanceRow.holds Try.pinned (OpenSpec.ofChange fnExactDriveDistanceSpec)

/-- ITS FALSE NEIGHBOUR: 'it returns false'. Refute it at one input. -/
def fnExactDriveDistanceWrong : ChangeSpec := { name := "fnExactDriveDistance", fn := fun _ => fun
  | [d1, d2, d3] => { results := [.lit (.bool false)], args := [d1, d2, d3] }
  | _ => none }
def FnExactDriveDistanceWrongFalsely : Prop := fnExactDriveDistanceRow.holds Try.pinned (OpenSpec.ofChange fnExactDriveDistanceWrong)

/-- 'laws.FnExactCanDrive': WHATEVER THE INPUT: true; the input reads as it did. -/
def fnExactCanDriveSpec : ChangeSpec := { name := "fnExactCanDrive", fn := fun _ => fun
  | [d1, d2, d3] => { results := [.lit (.bool true)], args := [d1, d2, d3] }
  | _ => none }
def fnExactCanDriveRow : OpenClaim := { program := "ytopbmiedlpkmjaa", sum := "f3f78cc3e6be2bb4b7350519a8cb708cb3d7a71a3505c1269e6dd1c421e303ca", func := "loop.example/g01336/laws.FnExactCanDrive", spec := "fnExactCanDrive", inPlace := ["internal/bytealg.IndexByteString", "internal/bytealg.IndexString"], unfollowed := true, recurses := true, named := ["internal/bytealg.MaxLen"], plainKeys := false, apart := false }
def FnExactCanDriveSaid : Prop := fnExactCanDriveRow.holds Try.pinned (OpenSpec.ofChange fnExactCanDriveSpec)

/-- ITS FALSE NEIGHBOUR: 'it returns false'. Refute it at one input. -/
def fnExactCanDriveWrong : ChangeSpec := { name := "fnExactCanDrive", fn := fun _ => fun
  | [d1, d2, d3] => { results := [.lit (.bool false)], args := [d1, d2, d3] }
  | _ => none }
def FnExactCanDriveWrongFalsely : Prop := fnExactCanDriveRow.holds Try.pinned (OpenSpec.ofChange fnExactCanDriveWrong)

/-- 'laws.FnExactThereAndBack': WHATEVER THE INPUT: true; the input reads as it did. -/
def fnExactThereAndBackSpec : ChangeSpec := { name := "fnExactThereAndBack", fn := fun _ => fun
  | [d1, d2, d3] => { results := [.lit (.bool true)], args := [d1, d2, d3] }
  | _ => none }
def fnExactThereAndBackRow : OpenClaim := { program := "ytopbmiedlpkmjaa", sum := "f3f78cc3e6be2bb4b7350519a8cb708cb3d7a71a3505c1269e6dd1c421e303ca", func := "loop.example/g01336/laws.FnExactThereAndBack", spec := "fnExactThereAndBack", inPlace := ["internal/bytealg.IndexByteString"], unfollowed := true, recurses := true, plainKeys := false, apart := false }
def FnExactThereAndBackSaid : Prop := fnExactThereAndBackRow.holds Try.pinned (OpenSpec.ofChange fnExactThereAndBackSpec)

/-- ITS FALSE NEIGHBOUR: 'it returns false'. Refute it at one input. -/
def fnExactThereAndBackWrong : ChangeSpec := { name := "fnExactThereAndBack", fn := fun _ => fun
  | [d1, d2, d3] => { results := [.lit (.bool false)], args := [d1, d2, d3] }
  | _ => none }
def FnExactThereAndBackWrongFalsely : Prop := fnExactThereAndBackRow.holds Try.pinned (OpenSpec.ofChange fnExactThereAndBackWrong)

/-- 'laws.FnExactLongestDrive': WHATEVER THE INPUT: true; the input reads as it did. -/
def fnExactLongestDriveSpec : ChangeSpec := { name := "fnExactLongestDrive", fn := fun _ => fun
  | [d] => { results := [.lit (.bool true)], args := [d] }
  | _ => none }
def fnExactLongestDriveRow : OpenClaim := { program := "ytopbmiedlpkmjaa", sum := "f3f78cc3e6be2bb4b7350519a8cb708cb3d7a71a3505c1269e6dd1c421e303ca", func := "loop.example/g01336/laws.FnExactLongestDrive", spec := "fnExactLongestDrive", inPlace := ["internal/bytealg.IndexByteString"], unfollowed := true, recurses := true, plainKeys := false, apart := false }
def FnExactLongestDriveSaid : Prop := fnExactLongestDriveRow.holds Try.pinned (OpenSpec.ofChange fnExactLongestDriveSpec)

/-- ITS FALSE NEIGHBOUR: 'it returns false'. Refute it at one input. -/
def fnExactLongestDriveWrong : ChangeSpec := { name := "fnExactLongestDrive", fn := fun _ => fun
  | [d] => { results := [.lit (.bool false)], args := [d] }
  | _ => none }
def FnExactLongestDriveWrongFalsely : Prop := fnExactLongestDriveRow.holds Try.pinned (OpenSpec.ofChange fnExactLongestDriveWrong)

/-- 'laws.FnExactDrivenFrom': WHATEVER THE INPUT: true; the input reads as it did. -/
def fnExactDrivenFromSpec : ChangeSpec := { name := "fnExactDrivenFrom", fn := fun _ => fun
  | [d1, d2] => { results := [.lit (.bool true)], args := [d1, d2] }
  | _ => none }
def fnExactDrivenFromRow : OpenClaim := { program := "ytopbmiedlpkmjaa", sum := "f3f78cc3e6be2bb4b7350519a8cb708cb3d7a71a3505c1269e6dd1c421e303ca", func := "loop.example/g01336/laws.FnExactDrivenFrom", spec := "fnExactDrivenFrom", inPlace := ["internal/bytealg.IndexByteString"], unfollowed := true, recurses := true, plainKeys := false, apart := false }
def FnExactDrivenFromSaid : Prop := fnExactDrivenFromRow.holds Try.pinned (OpenSpec.ofChange fnExactDrivenFromSpec)

/-- ITS FALSE NEIGHBOUR: 'it returns false'. Refute it at one input. -/
def fnExactDrivenFromWrong : ChangeSpec := { name := "fnExactDrivenFrom", fn := fun _ => fun
  | [d1, d2] => { results := [.lit (.bool false)], args := [d1, d2] }
  | _ => none }
def FnExactDrivenFromWrongFalsely : Prop := fnExactDrivenFromRow.holds Try.pinned (OpenSpec.ofChange fnExactDrivenFromWrong)

/-- 'laws.FnExactFirstDrive': WHATEVER THE INPUT: true; the input reads as it did. -/
def fnExactFirstDriveSpec : ChangeSpec := { name := "fnExactFirstDrive", fn := fun _ => fun
  | [d1, d2, d3] => { results := [.lit (.bool true)], args := [d1, d2, d3] }
  | _ => none }
def fnExactFirstDriveRow : OpenClaim := { program := "ytopbmiedlpkmjaa", sum := "f3f78cc3e6be2bb4b7350519a8cb708cb3d7a71a3505c1269e6dd1c421e303ca", func := "loop.example/g01336/laws.FnExactFirstDrive", spec := "fnExactFirstDrive", inPlace := ["internal/bytealg.IndexByteString"], unfollowed := true, recurses := true, plainKeys := false, apart := false }
def FnExactFirstDriveSaid : Prop := fnExactFirstDriveRow.holds Try.pinned (OpenSpec.ofChange fnExactFirstDriveSpec)

/-- ITS FALSE NEIGHBOUR: 'it returns false'. Refute it at one input. -/
def fnExactFirstDriveWrong : ChangeSpec := { name := "fnExactFirstDrive", fn := fun _ => fun
  | [d1, d2, d3] => { results := [.lit (.bool false)], args := [d1, d2, d3] }
  | _ => none }
def FnExactFirstDriveWrongFalsely : Prop := fnExactFirstDriveRow.holds Try.pinned (OpenSpec.ofChange fnExactFirstDriveWrong)

/-- 'laws.FnExactCountDrives': WHATEVER THE INPUT: true; the input reads as it did. -/
def fnExactCountDrivesSpec : ChangeSpec := { name := "fnExactCountDrives", fn := fun _ => fun
  | [d1, d2, d3] => { results := [.lit (.bool true)], args := [d1, d2, d3] }
  | _ => none }
def fnExactCountDrivesRow : OpenClaim := { program := "ytopbmiedlpkmjaa", sum := "f3f78cc3e6be2bb4b7350519a8cb708cb3d7a71a3505c1269e6dd1c421e303ca", func := "loop.example/g01336/laws.FnExactCountDrives", spec := "fnExactCountDrives", inPlace := ["internal/bytealg.IndexByteString"], unfollowed := true, recurses := true, plainKeys := false, apart := false }
def FnExactCountDrivesSaid : Prop := fnExactCountDrivesRow.holds Try.pinned (OpenSpec.ofChange fnExactCountDrivesSpec)

/-- ITS FALSE NEIGHBOUR: 'it returns false'. Refute it at one input. -/
def fnExactCountDrivesWrong : ChangeSpec := { name := "fnExactCountDrives", fn := fun _ => fun
  | [d1, d2, d3] => { results := [.lit (.bool false)], args := [d1, d2, d3] }
  | _ => none }
def FnExactCountDrivesWrongFalsely : Prop := fnExactCountDrivesRow.holds Try.pinned (OpenSpec.ofChange fnExactCountDrivesWrong)

/- THE SECOND FORM. 'bulk': how many values and letters a reading holds, each counted each time it is reached (what is shared counts as often as it is met; a slice's spare places count too). A statement '..UptoSaid' is the law's where the arguments, and the package variables that the reading takes, are together of bulk at most 1048576: NARROWER than '..Said'. Prove '..Said' where nothing that the law and all that it calls make is longer than what came in: it says more and counts as full. Else prove '..UptoSaid'. A law counts once. -/
mutual
def uptoBulk {H : Type} : DataW H → Nat
  | .lit (.string bytes) => bytes.length + 1
  | .lit _ => 1
  | .nil => 1
  | .ptr d => uptoBulk d + 1
  | .slice elems spare => uptoBulkAll elems + uptoBulkAll spare + 1
  | .agg parts => uptoBulkAll parts + 1
  | .iface _ d => uptoBulk d + 1
  | .map entries => uptoBulkEntries entries + 1
  | .held _ => 1
def uptoBulkAll {H : Type} : List (DataW H) → Nat
  | [] => 0
  | d :: r => uptoBulk d + uptoBulkAll r
def uptoBulkEntries {H : Type} : List (Lit × DataW H) → Nat
  | [] => 0
  | x :: r => uptoBulkEntry x + uptoBulkEntries r
def uptoBulkEntry {H : Type} : Lit × DataW H → Nat
  | (.string bytes, d) => bytes.length + uptoBulk d + 1
  | (_, d) => uptoBulk d + 1
 end
def uptoSmall : (H : Type) → List (DataW H) → Bool := fun _ ds => decide (uptoBulkAll ds ≤ 1048576)
def OpenSpec.upto (s : _root_.Go.ChangeSpec) : _root_.Go.OpenSpec := { _root_.Go.OpenSpec.ofChange s with cond := some uptoSmall }

/-- 'laws.FnExactIsWholeWays', WHERE WHAT IT READS IS OF BULK AT MOST 1048576: true; the input reads as it did. -/
def fnExactIsWholeWaysUptoRow : OpenClaim := { program := "ytopbmiedlpkmjaa", sum := "f3f78cc3e6be2bb4b7350519a8cb708cb3d7a71a3505c1269e6dd1c421e303ca", func := "loop.example/g01336/laws.FnExactIsWholeWays", spec := "fnExactIsWholeWays", inPlace := ["internal/bytealg.IndexByteString"], unfollowed := true, recurses := true, plainKeys := false, apart := false, narrowed := true }
def FnExactIsWholeWaysUptoSaid : Prop := fnExactIsWholeWaysUptoRow.holds Try.pinned (OpenSpec.upto fnExactIsWholeWaysSpec)

/-- 'laws.FnExactDriveWord', WHERE WHAT IT READS IS OF BULK AT MOST 1048576: true; the input reads as it did. -/
def fnExactDriveWordUptoRow : OpenClaim := { program := "ytopbmiedlpkmjaa", sum := "f3f78cc3e6be2bb4b7350519a8cb708cb3d7a71a3505c1269e6dd1c421e303ca", func := "loop.example/g01336/laws.FnExactDriveWord", spec := "fnExactDriveWord", inPlace := ["internal/bytealg.IndexByteString"], unfollowed := true, recurses := true, plainKeys := false, apart := false, narrowed := true }
def FnExactDriveWordUptoSaid : Prop := fnExactDriveWordUptoRow.holds Try.pinned (OpenSpec.upto fnExactDriveWordSpec)

/-- 'laws.FnExactFewestTurns', WHERE WHAT IT READS IS OF BULK AT MOST 1048576: true; the input reads as it did. -/
def fnExactFewestTurnsUptoRow : OpenClaim := { program := "ytopbmiedlpkmjaa", sum := "f3f78cc3e6be2bb4b7350519a8cb708cb3d7a71a3505c1269e6dd1c421e303ca", func := "loop.example/g01336/laws.FnExactFewestTurns", spec := "fnExactFewestTurns", inPlace := ["internal/bytealg.IndexByteString"], unfollowed := true, recurses := true, plainKeys := false, apart := false, narrowed := true }
def FnExactFewestTurnsUptoSaid : Prop := fnExactFewestTurnsUptoRow.holds Try.pinned (OpenSpec.upto fnExactFewestTurnsSpec)

/-- 'laws.FnExactDriveDistance', WHERE WHAT IT READS IS OF BULK AT MOST 1048576: true; the input reads as it did. -/
def fnExactDriveDistanceUptoRow : OpenClaim := { program := "ytopbmiedlpkmjaa", sum := "f3f78cc3e6be2bb4b7350519a8cb708cb3d7a71a3505c1269e6dd1c421e303ca", func := "loop.example/g01336/laws.FnExactDriveDistance", spec := "fnExactDriveDistance", inPlace := ["internal/bytealg.IndexByteString"], unfollowed := true, recurses := true, plainKeys := false, apart := false, narrowed := true }
def FnExactDriveDistanceUptoSaid : Prop := fnExactDriveDistanceUptoRow.holds Try.pinned (OpenSpec.upto fnExactDriveDistanceSpec)

/-- 'laws.FnExactCanDrive', WHERE WHAT IT READS IS OF BULK AT MOST 1048576: true; the input reads as it did. -/
def fnExactCanDriveUptoRow : OpenClaim := { program := "ytopbmiedlpkmjaa", sum := "f3f78cc3e6be2bb4b7350519a8cb708cb3d7a71a3505c1269e6dd1c421e303ca", func := "loop.example/g01336/laws.FnExactCanDrive", spec := "fnExactCanDrive", inPlace := ["internal/bytealg.IndexByteString", "internal/bytealg.IndexString"], unfollowed := true, recurses := true, named := ["internal/bytealg.MaxLen"], plainKeys := false, apart := false, narrowed := true }
def FnExactCanDriveUptoSaid : Prop := fnExactCanDriveUptoRow.holds Try.pinned (OpenSpec.upto fnExactCanDriveSpec)

/-- 'laws.FnExactThereAndBack', WHERE WHAT IT READS IS OF BULK AT MOST 1048576: true; the input reads as it did. -/
def fnExactThereAndBackUptoRow : OpenClaim := { program := "ytopbmiedlpkmjaa", sum := "f3f78cc3e6be2bb4b7350519a8cb708cb3d7a71a3505c1269e6dd1c421e303ca", func := "loop.example/g01336/laws.FnExactThereAndBack", spec := "fnExactThereAndBack", inPlace := ["internal/bytealg.IndexByteString"], unfollowed := true, recurses := true, plainKeys := false, apart := false, narrowed := true }
def FnExactThereAndBackUptoSaid : Prop := fnExactThereAndBackUptoRow.holds Try.pinned (OpenSpec.upto fnExactThereAndBackSpec)

/-- 'laws.FnExactLongestDrive', WHERE WHAT IT READS IS OF BULK AT MOST 1048576: true; the input reads as it did. -/
def fnExactLongestDriveUptoRow : OpenClaim := { program := "ytopbmiedlpkmjaa", sum := "f3f78cc3e6be2bb4b7350519a8cb708cb3d7a71a3505c1269e6dd1c421e303ca", func := "loop.example/g01336/laws.FnExactLongestDrive", spec := "fnExactLongestDrive", inPlace := ["internal/bytealg.IndexByteString"], unfollowed := true, recurses := true, plainKeys := false, apart := false, narrowed := true }
def FnExactLongestDriveUptoSaid : Prop := fnExactLongestDriveUptoRow.holds Try.pinned (OpenSpec.upto fnExactLongestDriveSpec)

/-- 'laws.FnExactDrivenFrom', WHERE WHAT IT READS IS OF BULK AT MOST 1048576: true; the input reads as it did. -/
def fnExactDrivenFromUptoRow : OpenClaim := { program := "ytopbmiedlpkmjaa", sum := "f3f78cc3e6be2bb4b7350519a8cb708cb3d7a71a3505c1269e6dd1c421e303ca", func := "loop.example/g01336/laws.FnExactDrivenFrom", spec := "fnExactDrivenFrom", inPlace := ["internal/bytealg.IndexByteString"], unfollowed := true, recurses := true, plainKeys := false, apart := false, narrowed := true }
def FnExactDrivenFromUptoSaid : Prop := fnExactDrivenFromUptoRow.holds Try.pinned (OpenSpec.upto fnExactDrivenFromSpec)

/-- 'laws.FnExactFirstDrive', WHERE WHAT IT READS IS OF BULK AT MOST 1048576: true; the input reads as it did. -/
def fnExactFirstDriveUptoRow : OpenClaim := { program := "ytopbmiedlpkmjaa", sum := "f3f78cc3e6be2bb4b7350519a8cb708cb3d7a71a3505c1269e6dd1c421e303ca", func := "loop.example/g01336/laws.FnExactFirstDrive", spec := "fnExactFirstDrive", inPlace := ["internal/bytealg.IndexByteString"], unfollowed := true, recurses := true, plainKeys := false, apart := false, narrowed := true }
def FnExactFirstDriveUptoSaid : Prop := fnExactFirstDriveUptoRow.holds Try.pinned (OpenSpec.upto fnExactFirstDriveSpec)

/-- 'laws.FnExactCountDrives', WHERE WHAT IT READS IS OF BULK AT MOST 1048576: true; the input reads as it did. -/
def fnExactCountDrivesUptoRow : OpenClaim := { program := "ytopbmiedlpkmjaa", sum := "f3f78cc3e6be2bb4b7350519a8cb708cb3d7a71a3505c1269e6dd1c421e303ca", func := "loop.example/g01336/laws.FnExactCountDrives", spec := "fnExactCountDrives", inPlace := ["internal/bytealg.IndexByteString"], unfollowed := true, recurses := true, plainKeys := false, apart := false, narrowed := true }
def FnExactCountDrivesUptoSaid : Prop := fnExactCountDrivesUptoRow.holds Try.pinned (OpenSpec.upto fnExactCountDrivesSpec)

end Rows
end Go.Proofs.Ytopbmiedlpkmjaa
