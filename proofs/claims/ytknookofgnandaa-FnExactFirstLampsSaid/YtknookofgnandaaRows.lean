/-
  No cell of these rows narrows 'for every input' (looked for: loops, veiled, ifaces, maps, wideKeys, modest, calm, conditions, laid).
  DERIVED. THE GIVEN ROWS OF THIS SEAT. 5 by the template 'for every input the law returns true; each argument reads behind the call as it read before'; 0 by the template 'total and deterministic' (their statements: YtknookofgnandaaTotals.lean).
  GIVEN WITH THE SEED: the statements are not yours to turn. If you find one false, say at which input.
  Laid BY PROGRAM, IN A SANDBOX (cutbox-rows.mjs): the forced cells as the released guide's own fill.sh prints them over the translation a041d30ef945e62e… (all of the seat's roots in one cut). By AI agents, Wed Nov 11 2026. No macro, syntax, notation, axiom, sorry.
-/
import Derived.Test.YtknookofgnandaaChecked
import GoSem.Claim
import GoSem.ClaimJoined
import GoSem.ClaimMapViews
import Derived.JoinedTies
import Derived.KernelRfl
namespace Go.Proofs.Ytknookofgnandaa
/- THE CELL 'sum', in the pinned program and in every row, IS THE sha256 OF THE DUMP (.gsa) THAT YtknookofgnandaaProg.lean LOADS. Nothing in Lean hashes anything: it is a label: what it is worth is what the hold of that sum in a sandbox is worth. -/
noncomputable def Try.pinned : Pinned := { name := "ytknookofgnandaa", sum := "a041d30ef945e62e83c27dc72a0e25480f0559c3f702a698baf255ed03099427", checked := Try.checked }
namespace Rows
def none {H : Type} : Left H := { results := [], args := [] }

/-- 'laws.FnExactFirstPaint': WHATEVER THE INPUT: true; the input reads as it did. -/
def fnExactFirstPaintSpec : ChangeSpec := { name := "fnExactFirstPaint", fn := fun _ => fun
  | [d1, d2] => { results := [.lit (.bool true)], args := [d1, d2] }
  | _ => none }
def fnExactFirstPaintRow : OpenClaim := { program := "ytknookofgnandaa", sum := "a041d30ef945e62e83c27dc72a0e25480f0559c3f702a698baf255ed03099427", func := "loop.example/g01336/laws.FnExactFirstPaint", spec := "fnExactFirstPaint", unfollowed := true, recurses := true, plainKeys := false, apart := false }
def FnExactFirstPaintSaid : Prop := fnExactFirstPaintRow.holds Try.pinned (OpenSpec.ofChange fnExactFirstPaintSpec)

/-- ITS FALSE NEIGHBOUR: 'it returns false'. Refute it at one input. -/
def fnExactFirstPaintWrong : ChangeSpec := { name := "fnExactFirstPaint", fn := fun _ => fun
  | [d1, d2] => { results := [.lit (.bool false)], args := [d1, d2] }
  | _ => none }
def FnExactFirstPaintWrongFalsely : Prop := fnExactFirstPaintRow.holds Try.pinned (OpenSpec.ofChange fnExactFirstPaintWrong)

/-- 'laws.FnExactCountLamps': WHATEVER THE INPUT: true; the input reads as it did. -/
def fnExactCountLampsSpec : ChangeSpec := { name := "fnExactCountLamps", fn := fun _ => fun
  | [d1, d2] => { results := [.lit (.bool true)], args := [d1, d2] }
  | _ => none }
def fnExactCountLampsRow : OpenClaim := { program := "ytknookofgnandaa", sum := "a041d30ef945e62e83c27dc72a0e25480f0559c3f702a698baf255ed03099427", func := "loop.example/g01336/laws.FnExactCountLamps", spec := "fnExactCountLamps", unfollowed := true, recurses := true, plainKeys := false, apart := false }
def FnExactCountLampsSaid : Prop := fnExactCountLampsRow.holds Try.pinned (OpenSpec.ofChange fnExactCountLampsSpec)

/-- ITS FALSE NEIGHBOUR: 'it returns false'. Refute it at one input. -/
def fnExactCountLampsWrong : ChangeSpec := { name := "fnExactCountLamps", fn := fun _ => fun
  | [d1, d2] => { results := [.lit (.bool false)], args := [d1, d2] }
  | _ => none }
def FnExactCountLampsWrongFalsely : Prop := fnExactCountLampsRow.holds Try.pinned (OpenSpec.ofChange fnExactCountLampsWrong)

/-- 'laws.FnExactFewestLamps': WHATEVER THE INPUT: true; the input reads as it did. -/
def fnExactFewestLampsSpec : ChangeSpec := { name := "fnExactFewestLamps", fn := fun _ => fun
  | [d1, d2] => { results := [.lit (.bool true)], args := [d1, d2] }
  | _ => none }
def fnExactFewestLampsRow : OpenClaim := { program := "ytknookofgnandaa", sum := "a041d30ef945e62e83c27dc72a0e25480f0559c3f702a698baf255ed03099427", func := "loop.example/g01336/laws.FnExactFewestLamps", spec := "fnExactFewestLamps", unfollowed := true, recurses := true, plainKeys := false, apart := false }
def FnExactFewestLampsSaid : Prop := fnExactFewestLampsRow.holds Try.pinned (OpenSpec.ofChange fnExactFewestLampsSpec)

/-- ITS FALSE NEIGHBOUR: 'it returns false'. Refute it at one input. -/
def fnExactFewestLampsWrong : ChangeSpec := { name := "fnExactFewestLamps", fn := fun _ => fun
  | [d1, d2] => { results := [.lit (.bool false)], args := [d1, d2] }
  | _ => none }
def FnExactFewestLampsWrongFalsely : Prop := fnExactFewestLampsRow.holds Try.pinned (OpenSpec.ofChange fnExactFewestLampsWrong)

/-- 'laws.FnExactFirstLamps': WHATEVER THE INPUT: true; the input reads as it did. -/
def fnExactFirstLampsSpec : ChangeSpec := { name := "fnExactFirstLamps", fn := fun _ => fun
  | [d1, d2] => { results := [.lit (.bool true)], args := [d1, d2] }
  | _ => none }
def fnExactFirstLampsRow : OpenClaim := { program := "ytknookofgnandaa", sum := "a041d30ef945e62e83c27dc72a0e25480f0559c3f702a698baf255ed03099427", func := "loop.example/g01336/laws.FnExactFirstLamps", spec := "fnExactFirstLamps", unfollowed := true, recurses := true, plainKeys := false, apart := false }
def FnExactFirstLampsSaid : Prop := fnExactFirstLampsRow.holds Try.pinned (OpenSpec.ofChange fnExactFirstLampsSpec)

/-- ITS FALSE NEIGHBOUR: 'it returns false'. Refute it at one input. -/
def fnExactFirstLampsWrong : ChangeSpec := { name := "fnExactFirstLamps", fn := fun _ => fun
  | [d1, d2] => { results := [.lit (.bool false)], args := [d1, d2] }
  | _ => none }
def FnExactFirstLampsWrongFalsely : Prop := fnExactFirstLampsRow.holds Try.pinned (OpenSpec.ofChange fnExactFirstLampsWrong)

/-- 'laws.FnExactLitBy': WHATEVER THE INPUT: true; the input reads as it did. -/
def fnExactLitBySpec : ChangeSpec := { name := "fnExactLitBy", fn := fun _ => fun
  | [d1, d2, d3] => { results := [.lit (.bool true)], args := [d1, d2, d3] }
  | _ => none }
def fnExactLitByRow : OpenClaim := { program := "ytknookofgnandaa", sum := "a041d30ef945e62e83c27dc72a0e25480f0559c3f702a698baf255ed03099427", func := "loop.example/g01336/laws.FnExactLitBy", spec := "fnExactLitBy", inPlace := ["internal/abi.NoEscape", "internal/bytealg.MakeNoZero"], plainKeys := false, apart := false }
def FnExactLitBySaid : Prop := fnExactLitByRow.holds Try.pinned (OpenSpec.ofChange fnExactLitBySpec)

/-- ITS FALSE NEIGHBOUR: 'it returns false'. Refute it at one input. -/
def fnExactLitByWrong : ChangeSpec := { name := "fnExactLitBy", fn := fun _ => fun
  | [d1, d2, d3] => { results := [.lit (.bool false)], args := [d1, d2, d3] }
  | _ => none }
def FnExactLitByWrongFalsely : Prop := fnExactLitByRow.holds Try.pinned (OpenSpec.ofChange fnExactLitByWrong)

/- THE SECOND FORM. 'bulk': how many values and letters a reading holds, each counted each time it is reached (what is shared counts as often as it is met; a slice's spare places count too). A statement '..UptoSaid' is the law's where the arguments, and the package variables that the reading takes, are together of bulk at most 1048576: NARROWER than '..Said'. Prove '..Said' where nothing that the law and all that it calls make is longer than what came in: it says more and counts as full. Else prove '..UptoSaid'. A law counts once. -/
mutual
def uptoBulk {H : Type} : DataW H → Nat
  | .lit (.string bytes) => bytes.length + 1
  | .lit _ => 1
  | .nil => 1
  | .ptr d => uptoBulk d + 1
  | .slice elems spare => uptoBulkAll elems + uptoBulkAll spare + 1
  | .agg parts => uptoBulkAll parts + 1
  | .iface _ d => uptoBulk d + 1
  | .map entries => uptoBulkEntries entries + 1
  | .held _ => 1
def uptoBulkAll {H : Type} : List (DataW H) → Nat
  | [] => 0
  | d :: r => uptoBulk d + uptoBulkAll r
def uptoBulkEntries {H : Type} : List (Lit × DataW H) → Nat
  | [] => 0
  | x :: r => uptoBulkEntry x + uptoBulkEntries r
def uptoBulkEntry {H : Type} : Lit × DataW H → Nat
  | (.string bytes, d) => bytes.length + uptoBulk d + 1
  | (_, d) => uptoBulk d + 1
 end
def uptoSmall : (H : Type) → List (DataW H) → Bool := fun _ ds => decide (uptoBulkAll ds ≤ 1048576)
def OpenSpec.upto (s : _root_.Go.ChangeSpec) : _root_.Go.OpenSpec := { _root_.Go.OpenSpec.ofChange s with cond := some uptoSmall }

/-- 'laws.FnExactFirstPaint', WHERE WHAT IT READS IS OF BULK AT MOST 1048576: true; the input reads as it did. -/
def fnExactFirstPaintUptoRow : OpenClaim := { program := "ytknookofgnandaa", sum := "a041d30ef945e62e83c27dc72a0e25480f0559c3f702a698baf255ed03099427", func := "loop.example/g01336/laws.FnExactFirstPaint", spec := "fnExactFirstPaint", unfollowed := true, recurses := true, plainKeys := false, apart := false, narrowed := true }
def FnExactFirstPaintUptoSaid : Prop := fnExactFirstPaintUptoRow.holds Try.pinned (OpenSpec.upto fnExactFirstPaintSpec)

/-- 'laws.FnExactCountLamps', WHERE WHAT IT READS IS OF BULK AT MOST 1048576: true; the input reads as it did. -/
def fnExactCountLampsUptoRow : OpenClaim := { program := "ytknookofgnandaa", sum := "a041d30ef945e62e83c27dc72a0e25480f0559c3f702a698baf255ed03099427", func := "loop.example/g01336/laws.FnExactCountLamps", spec := "fnExactCountLamps", unfollowed := true, recurses := true, plainKeys := false, apart := false, narrowed := true }
def FnExactCountLampsUptoSaid : Prop := fnExactCountLampsUptoRow.holds Try.pinned (OpenSpec.upto fnExactCountLampsSpec)

/-- 'laws.FnExactFewestLamps', WHERE WHAT IT READS IS OF BULK AT MOST 1048576: true; the input reads as it did. -/
def fnExactFewestLampsUptoRow : OpenClaim := { program := "ytknookofgnandaa", sum := "a041d30ef945e62e83c27dc72a0e25480f0559c3f702a698baf255ed03099427", func := "loop.example/g01336/laws.FnExactFewestLamps", spec := "fnExactFewestLamps", unfollowed := true, recurses := true, plainKeys := false, apart := false, narrowed := true }
def FnExactFewestLampsUptoSaid : Prop := fnExactFewestLampsUptoRow.holds Try.pinned (OpenSpec.upto fnExactFewestLampsSpec)

/-- 'laws.FnExactFirstLamps', WHERE WHAT IT READS IS OF BULK AT MOST 1048576: true; the input reads as it did. -/
def fnExactFirstLampsUptoRow : OpenClaim := { program := "ytknookofgnandaa", sum := "a041d30ef945e62e83c27dc72a0e25480f0559c3f702a698baf255ed03099427", func := "loop.example/g01336/laws.FnExactFirstLamps", spec := "fnExactFirstLamps", unfollowed := true, recurses := true, plainKeys := false, apart := false, narrowed := true }
def FnExactFirstLampsUptoSaid : Prop := fnExactFirstLampsUptoRow.holds Try.pinned (OpenSpec.upto fnExactFirstLampsSpec)

/-- 'laws.FnExactLitBy', WHERE WHAT IT READS IS OF BULK AT MOST 1048576: true; the input reads as it did. -/
def fnExactLitByUptoRow : OpenClaim := { program := "ytknookofgnandaa", sum := "a041d30ef945e62e83c27dc72a0e25480f0559c3f702a698baf255ed03099427", func := "loop.example/g01336/laws.FnExactLitBy", spec := "fnExactLitBy", inPlace := ["internal/abi.NoEscape", "internal/bytealg.MakeNoZero"], plainKeys := false, apart := false, narrowed := true }
def FnExactLitByUptoSaid : Prop := fnExactLitByUptoRow.holds Try.pinned (OpenSpec.upto fnExactLitBySpec)

end Rows
end Go.Proofs.Ytknookofgnandaa
