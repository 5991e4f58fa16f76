/-
  No cell of these rows narrows 'for every input' (looked for: loops, veiled, ifaces, maps, wideKeys, modest, calm, conditions, laid).
  DERIVED. THE GIVEN ROWS OF THIS SEAT. 5 by the template 'for every input the law returns true; each argument reads behind the call as it read before'; 0 by the template 'total and deterministic' (their statements: YtgpnnepagfnfgaaTotals.lean).
  GIVEN WITH THE SEED: the statements are not yours to turn. If you find one false, say at which input.
  Laid BY PROGRAM, IN A SANDBOX (cutbox-rows.mjs): the forced cells as the released guide's own fill.sh prints them over the translation 343f821c74738f99… (all of the seat's roots in one cut). By AI agents, Wed Nov 11 2026. No macro, syntax, notation, axiom, sorry.
-/
import Derived.Test.YtgpnnepagfnfgaaChecked
import GoSem.Claim
import GoSem.ClaimJoined
import GoSem.ClaimMapViews
import Derived.JoinedTies
import Derived.KernelRfl
namespace Go.Proofs.Ytgpnnepagfnfgaa
/- THE CELL 'sum', in the pinned program and in every row, IS THE sha256 OF THE DUMP (.gsa) THAT YtgpnnepagfnfgaaProg.lean LOADS. Nothing in Lean hashes anything: it is a label: what it is worth is what the hold of that sum in a sandbox is worth. -/
noncomputable def Try.pinned : Pinned := { name := "ytgpnnepagfnfgaa", sum := "343f821c74738f99eb0d03872d0e7091dfbbfae72f900e5515b2a3c334719eeb", checked := Try.checked }
namespace Rows
def none {H : Type} : Left H := { results := [], args := [] }

/-- 'laws.FnExactCenterHouses': WHATEVER THE INPUT: true; the input reads as it did. -/
def fnExactCenterHousesSpec : ChangeSpec := { name := "fnExactCenterHouses", fn := fun _ => fun
  | [d] => { results := [.lit (.bool true)], args := [d] }
  | _ => none }
def fnExactCenterHousesRow : OpenClaim := { program := "ytgpnnepagfnfgaa", sum := "343f821c74738f99eb0d03872d0e7091dfbbfae72f900e5515b2a3c334719eeb", func := "loop.example/g01336/laws.FnExactCenterHouses", spec := "fnExactCenterHouses", unfollowed := true, recurses := true, apart := false }
def FnExactCenterHousesSaid : Prop := fnExactCenterHousesRow.holds Try.pinned (OpenSpec.ofChange fnExactCenterHousesSpec)

/-- ITS FALSE NEIGHBOUR: 'it returns false'. Refute it at one input. -/
def fnExactCenterHousesWrong : ChangeSpec := { name := "fnExactCenterHouses", fn := fun _ => fun
  | [d] => { results := [.lit (.bool false)], args := [d] }
  | _ => none }
def FnExactCenterHousesWrongFalsely : Prop := fnExactCenterHousesRow.holds Try.pinned (OpenSpec.ofChange fnExactCenterHousesWrong)

/-- 'laws.FnExactBestHouses': WHATEVER THE INPUT: true; the input reads as it did. -/
def fnExactBestHousesSpec : ChangeSpec := { name := "fnExactBestHouses", fn := fun _ => fun
  | [d] => { results := [.lit (.bool true)], args := [d] }
  | _ => none }
def fnExactBestHousesRow : OpenClaim := { program := "ytgpnnepagfnfgaa", sum := "343f821c74738f99eb0d03872d0e7091dfbbfae72f900e5515b2a3c334719eeb", func := "loop.example/g01336/laws.FnExactBestHouses", spec := "fnExactBestHouses", unfollowed := true, recurses := true, apart := false }
def FnExactBestHousesSaid : Prop := fnExactBestHousesRow.holds Try.pinned (OpenSpec.ofChange fnExactBestHousesSpec)

/-- ITS FALSE NEIGHBOUR: 'it returns false'. Refute it at one input. -/
def fnExactBestHousesWrong : ChangeSpec := { name := "fnExactBestHouses", fn := fun _ => fun
  | [d] => { results := [.lit (.bool false)], args := [d] }
  | _ => none }
def FnExactBestHousesWrongFalsely : Prop := fnExactBestHousesRow.holds Try.pinned (OpenSpec.ofChange fnExactBestHousesWrong)

/-- 'laws.FnExactFirstBoxes': WHATEVER THE INPUT: true; the input reads as it did. -/
def fnExactFirstBoxesSpec : ChangeSpec := { name := "fnExactFirstBoxes", fn := fun _ => fun
  | [d1, d2] => { results := [.lit (.bool true)], args := [d1, d2] }
  | _ => none }
def fnExactFirstBoxesRow : OpenClaim := { program := "ytgpnnepagfnfgaa", sum := "343f821c74738f99eb0d03872d0e7091dfbbfae72f900e5515b2a3c334719eeb", func := "loop.example/g01336/laws.FnExactFirstBoxes", spec := "fnExactFirstBoxes", unfollowed := true, recurses := true, apart := false }
def FnExactFirstBoxesSaid : Prop := fnExactFirstBoxesRow.holds Try.pinned (OpenSpec.ofChange fnExactFirstBoxesSpec)

/-- ITS FALSE NEIGHBOUR: 'it returns false'. Refute it at one input. -/
def fnExactFirstBoxesWrong : ChangeSpec := { name := "fnExactFirstBoxes", fn := fun _ => fun
  | [d1, d2] => { results := [.lit (.bool false)], args := [d1, d2] }
  | _ => none }
def FnExactFirstBoxesWrongFalsely : Prop := fnExactFirstBoxesRow.holds Try.pinned (OpenSpec.ofChange fnExactFirstBoxesWrong)

/-- 'laws.FnExactLeastBoxesSum': WHATEVER THE INPUT: true; the input reads as it did. -/
def fnExactLeastBoxesSumSpec : ChangeSpec := { name := "fnExactLeastBoxesSum", fn := fun _ => fun
  | [d1, d2] => { results := [.lit (.bool true)], args := [d1, d2] }
  | _ => none }
def fnExactLeastBoxesSumRow : OpenClaim := { program := "ytgpnnepagfnfgaa", sum := "343f821c74738f99eb0d03872d0e7091dfbbfae72f900e5515b2a3c334719eeb", func := "loop.example/g01336/laws.FnExactLeastBoxesSum", spec := "fnExactLeastBoxesSum", unfollowed := true, recurses := true, apart := false }
def FnExactLeastBoxesSumSaid : Prop := fnExactLeastBoxesSumRow.holds Try.pinned (OpenSpec.ofChange fnExactLeastBoxesSumSpec)

/-- ITS FALSE NEIGHBOUR: 'it returns false'. Refute it at one input. -/
def fnExactLeastBoxesSumWrong : ChangeSpec := { name := "fnExactLeastBoxesSum", fn := fun _ => fun
  | [d1, d2] => { results := [.lit (.bool false)], args := [d1, d2] }
  | _ => none }
def FnExactLeastBoxesSumWrongFalsely : Prop := fnExactLeastBoxesSumRow.holds Try.pinned (OpenSpec.ofChange fnExactLeastBoxesSumWrong)

/-- 'laws.FnNoBetterBoxes': WHATEVER THE INPUT: true; the input reads as it did. -/
def fnNoBetterBoxesSpec : ChangeSpec := { name := "fnNoBetterBoxes", fn := fun _ => fun
  | [d1, d2] => { results := [.lit (.bool true)], args := [d1, d2] }
  | _ => none }
def fnNoBetterBoxesRow : OpenClaim := { program := "ytgpnnepagfnfgaa", sum := "343f821c74738f99eb0d03872d0e7091dfbbfae72f900e5515b2a3c334719eeb", func := "loop.example/g01336/laws.FnNoBetterBoxes", spec := "fnNoBetterBoxes", unfollowed := true, recurses := true, apart := false }
def FnNoBetterBoxesSaid : Prop := fnNoBetterBoxesRow.holds Try.pinned (OpenSpec.ofChange fnNoBetterBoxesSpec)

/-- ITS FALSE NEIGHBOUR: 'it returns false'. Refute it at one input. -/
def fnNoBetterBoxesWrong : ChangeSpec := { name := "fnNoBetterBoxes", fn := fun _ => fun
  | [d1, d2] => { results := [.lit (.bool false)], args := [d1, d2] }
  | _ => none }
def FnNoBetterBoxesWrongFalsely : Prop := fnNoBetterBoxesRow.holds Try.pinned (OpenSpec.ofChange fnNoBetterBoxesWrong)

/- THE SECOND FORM. 'bulk': how many values and letters a reading holds, each counted each time it is reached (what is shared counts as often as it is met; a slice's spare places count too). A statement '..UptoSaid' is the law's where the arguments, and the package variables that the reading takes, are together of bulk at most 1048576: NARROWER than '..Said'. Prove '..Said' where nothing that the law and all that it calls make is longer than what came in: it says more and counts as full. Else prove '..UptoSaid'. A law counts once. -/
mutual
def uptoBulk {H : Type} : DataW H → Nat
  | .lit (.string bytes) => bytes.length + 1
  | .lit _ => 1
  | .nil => 1
  | .ptr d => uptoBulk d + 1
  | .slice elems spare => uptoBulkAll elems + uptoBulkAll spare + 1
  | .agg parts => uptoBulkAll parts + 1
  | .iface _ d => uptoBulk d + 1
  | .map entries => uptoBulkEntries entries + 1
  | .held _ => 1
def uptoBulkAll {H : Type} : List (DataW H) → Nat
  | [] => 0
  | d :: r => uptoBulk d + uptoBulkAll r
def uptoBulkEntries {H : Type} : List (Lit × DataW H) → Nat
  | [] => 0
  | x :: r => uptoBulkEntry x + uptoBulkEntries r
def uptoBulkEntry {H : Type} : Lit × DataW H → Nat
  | (.string bytes, d) => bytes.length + uptoBulk d + 1
  | (_, d) => uptoBulk d + 1
 end
def uptoSmall : (H : Type) → List (DataW H) → Bool := fun _ ds => decide (uptoBulkAll ds ≤ 1048576)
def OpenSpec.upto (s : _root_.Go.ChangeSpec) : _root_.Go.OpenSpec := { _root_.Go.OpenSpec.ofChange s with cond := some uptoSmall }

/-- 'laws.FnExactCenterHouses', WHERE WHAT IT READS IS OF BULK AT MOST 1048576: true; the input reads as it did. -/
def fnExactCenterHousesUptoRow : OpenClaim := { program := "ytgpnnepagfnfgaa", sum := "343f821c74738f99eb0d03872d0e7091dfbbfae72f900e5515b2a3c334719eeb", func := "loop.example/g01336/laws.FnExactCenterHouses", spec := "fnExactCenterHouses", unfollowed := true, recurses := true, apart := false, narrowed := true }
def FnExactCenterHousesUptoSaid : Prop := fnExactCenterHousesUptoRow.holds Try.pinned (OpenSpec.upto fnExactCenterHousesSpec)

/-- 'laws.FnExactBestHouses', WHERE WHAT IT READS IS OF BULK AT MOST 1048576: true; the input reads as it did. -/
def fnExactBestHousesUptoRow : OpenClaim := { program := "ytgpnnepagfnfgaa", sum := "343f821c74738f99eb0d03872d0e7091dfbbfae72f900e5515b2a3c334719eeb", func := "loop.example/g01336/laws.FnExactBestHouses", spec := "fnExactBestHouses", unfollowed := true, recurses := true, apart := false, narrowed := true }
def FnExactBestHousesUptoSaid : Prop := fnExactBestHousesUptoRow.holds Try.pinned (OpenSpec.upto fnExactBestHousesSpec)

/-- 'laws.FnExactFirstBoxes', WHERE WHAT IT READS IS OF BULK AT MOST 1048576: true; the input reads as it did. -/
def fnExactFirstBoxesUptoRow : OpenClaim := { program := "ytgpnnepagfnfgaa", sum := "343f821c74738f99eb0d03872d0e7091dfbbfae72f900e5515b2a3c334719eeb", func := "loop.example/g01336/laws.FnExactFirstBoxes", spec := "fnExactFirstBoxes", unfollowed := true, recurses := true, apart := false, narrowed := true }
def FnExactFirstBoxesUptoSaid : Prop := fnExactFirstBoxesUptoRow.holds Try.pinned (OpenSpec.upto fnExactFirstBoxesSpec)

/-- 'laws.FnExactLeastBoxesSum', WHERE WHAT IT READS IS OF BULK AT MOST 1048576: true; the input reads as it did. -/
def fnExactLeastBoxesSumUptoRow : OpenClaim := { program := "ytgpnnepagfnfgaa", sum := "343f821c74738f99eb0d03872d0e7091dfbbfae72f900e5515b2a3c334719eeb", func := "loop.example/g01336/laws.FnExactLeastBoxesSum", spec := "fnExactLeastBoxesSum", unfollowed := true, recurses := true, apart := false, narrowed := true }
def FnExactLeastBoxesSumUptoSaid : Prop := fnExactLeastBoxesSumUptoRow.holds Try.pinned (OpenSpec.upto fnExactLeastBoxesSumSpec)

/-- 'laws.FnNoBetterBoxes', WHERE WHAT IT READS IS OF BULK AT MOST 1048576: true; the input reads as it did. -/
def fnNoBetterBoxesUptoRow : OpenClaim := { program := "ytgpnnepagfnfgaa", sum := "343f821c74738f99eb0d03872d0e7091dfbbfae72f900e5515b2a3c334719eeb", func := "loop.example/g01336/laws.FnNoBetterBoxes", spec := "fnNoBetterBoxes", unfollowed := true, recurses := true, apart := false, narrowed := true }
def FnNoBetterBoxesUptoSaid : Prop := fnNoBetterBoxesUptoRow.holds Try.pinned (OpenSpec.upto fnNoBetterBoxesSpec)

end Rows
end Go.Proofs.Ytgpnnepagfnfgaa
