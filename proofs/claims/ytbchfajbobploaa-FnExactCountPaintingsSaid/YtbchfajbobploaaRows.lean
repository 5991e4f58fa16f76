/-
  No cell of these rows narrows 'for every input' (looked for: loops, veiled, ifaces, maps, wideKeys, modest, calm, conditions, laid).
  DERIVED. THE GIVEN ROWS OF THIS SEAT. 12 by the template 'for every input the law returns true; each argument reads behind the call as it read before'; 0 by the template 'total and deterministic' (their statements: YtbchfajbobploaaTotals.lean).
  GIVEN WITH THE SEED: the statements are not yours to turn. If you find one false, say at which input.
  Laid BY PROGRAM, IN A SANDBOX (cutbox-rows.mjs): the forced cells as the released guide's own fill.sh prints them over the translation 480a96447fb66a26… (all of the seat's roots in one cut). By AI agents, Wed Nov 11 2026. No macro, syntax, notation, axiom, sorry.
-/
import Derived.Test.YtbchfajbobploaaChecked
import GoSem.Claim
import GoSem.ClaimJoined
import GoSem.ClaimMapViews
import Derived.JoinedTies
import Derived.KernelRfl
namespace Go.Proofs.Ytbchfajbobploaa
/- THE CELL 'sum', in the pinned program and in every row, IS THE sha256 OF THE DUMP (.gsa) THAT YtbchfajbobploaaProg.lean LOADS. Nothing in Lean hashes anything: it is a label: what it is worth is what the hold of that sum in a sandbox is worth. -/
noncomputable def Try.pinned : Pinned := { name := "ytbchfajbobploaa", sum := "480a96447fb66a2698b8486b3dbdbb41cc86793b73e47920a42f5ddee5a42192", checked := Try.checked }
namespace Rows
def none {H : Type} : Left H := { results := [], args := [] }

/-- 'laws.FnExactIsLitRow': WHATEVER THE INPUT: true; the input reads as it did. -/
def fnExactIsLitRowSpec : ChangeSpec := { name := "fnExactIsLitRow", fn := fun _ => fun
  | [d] => { results := [.lit (.bool true)], args := [d] }
  | _ => none }
def fnExactIsLitRowRow : OpenClaim := { program := "ytbchfajbobploaa", sum := "480a96447fb66a2698b8486b3dbdbb41cc86793b73e47920a42f5ddee5a42192", func := "loop.example/g01336/laws.FnExactIsLitRow", spec := "fnExactIsLitRow", apart := false }
def FnExactIsLitRowSaid : Prop := fnExactIsLitRowRow.holds Try.pinned (OpenSpec.ofChange fnExactIsLitRowSpec)

/-- ITS FALSE NEIGHBOUR: 'it returns false'. Refute it at one input. -/
def fnExactIsLitRowWrong : ChangeSpec := { name := "fnExactIsLitRow", fn := fun _ => fun
  | [d] => { results := [.lit (.bool false)], args := [d] }
  | _ => none }
def FnExactIsLitRowWrongFalsely : Prop := fnExactIsLitRowRow.holds Try.pinned (OpenSpec.ofChange fnExactIsLitRowWrong)

/-- 'laws.FnExactTurnRow': WHATEVER THE INPUT: true; the input reads as it did. -/
def fnExactTurnRowSpec : ChangeSpec := { name := "fnExactTurnRow", fn := fun _ => fun
  | [d1, d2] => { results := [.lit (.bool true)], args := [d1, d2] }
  | _ => none }
def fnExactTurnRowRow : OpenClaim := { program := "ytbchfajbobploaa", sum := "480a96447fb66a2698b8486b3dbdbb41cc86793b73e47920a42f5ddee5a42192", func := "loop.example/g01336/laws.FnExactTurnRow", spec := "fnExactTurnRow", apart := false }
def FnExactTurnRowSaid : Prop := fnExactTurnRowRow.holds Try.pinned (OpenSpec.ofChange fnExactTurnRowSpec)

/-- ITS FALSE NEIGHBOUR: 'it returns false'. Refute it at one input. -/
def fnExactTurnRowWrong : ChangeSpec := { name := "fnExactTurnRow", fn := fun _ => fun
  | [d1, d2] => { results := [.lit (.bool false)], args := [d1, d2] }
  | _ => none }
def FnExactTurnRowWrongFalsely : Prop := fnExactTurnRowRow.holds Try.pinned (OpenSpec.ofChange fnExactTurnRowWrong)

/-- 'laws.FnExactFewestGuards': WHATEVER THE INPUT: true; the input reads as it did. -/
def fnExactFewestGuardsSpec : ChangeSpec := { name := "fnExactFewestGuards", fn := fun _ => fun
  | [d1, d2] => { results := [.lit (.bool true)], args := [d1, d2] }
  | _ => none }
def fnExactFewestGuardsRow : OpenClaim := { program := "ytbchfajbobploaa", sum := "480a96447fb66a2698b8486b3dbdbb41cc86793b73e47920a42f5ddee5a42192", func := "loop.example/g01336/laws.FnExactFewestGuards", spec := "fnExactFewestGuards", apart := false }
def FnExactFewestGuardsSaid : Prop := fnExactFewestGuardsRow.holds Try.pinned (OpenSpec.ofChange fnExactFewestGuardsSpec)

/-- ITS FALSE NEIGHBOUR: 'it returns false'. Refute it at one input. -/
def fnExactFewestGuardsWrong : ChangeSpec := { name := "fnExactFewestGuards", fn := fun _ => fun
  | [d1, d2] => { results := [.lit (.bool false)], args := [d1, d2] }
  | _ => none }
def FnExactFewestGuardsWrongFalsely : Prop := fnExactFewestGuardsRow.holds Try.pinned (OpenSpec.ofChange fnExactFewestGuardsWrong)

/-- 'laws.FnExactCountLoots': WHATEVER THE INPUT: true; the input reads as it did. -/
def fnExactCountLootsSpec : ChangeSpec := { name := "fnExactCountLoots", fn := fun _ => fun
  | [d1, d2] => { results := [.lit (.bool true)], args := [d1, d2] }
  | _ => none }
def fnExactCountLootsRow : OpenClaim := { program := "ytbchfajbobploaa", sum := "480a96447fb66a2698b8486b3dbdbb41cc86793b73e47920a42f5ddee5a42192", func := "loop.example/g01336/laws.FnExactCountLoots", spec := "fnExactCountLoots", recurses := true, apart := false }
def FnExactCountLootsSaid : Prop := fnExactCountLootsRow.holds Try.pinned (OpenSpec.ofChange fnExactCountLootsSpec)

/-- ITS FALSE NEIGHBOUR: 'it returns false'. Refute it at one input. -/
def fnExactCountLootsWrong : ChangeSpec := { name := "fnExactCountLoots", fn := fun _ => fun
  | [d1, d2] => { results := [.lit (.bool false)], args := [d1, d2] }
  | _ => none }
def FnExactCountLootsWrongFalsely : Prop := fnExactCountLootsRow.holds Try.pinned (OpenSpec.ofChange fnExactCountLootsWrong)

/-- 'laws.FnExactIsPainted': WHATEVER THE INPUT: true; the input reads as it did. -/
def fnExactIsPaintedSpec : ChangeSpec := { name := "fnExactIsPainted", fn := fun _ => fun
  | [d1, d2] => { results := [.lit (.bool true)], args := [d1, d2] }
  | _ => none }
def fnExactIsPaintedRow : OpenClaim := { program := "ytbchfajbobploaa", sum := "480a96447fb66a2698b8486b3dbdbb41cc86793b73e47920a42f5ddee5a42192", func := "loop.example/g01336/laws.FnExactIsPainted", spec := "fnExactIsPainted", apart := false }
def FnExactIsPaintedSaid : Prop := fnExactIsPaintedRow.holds Try.pinned (OpenSpec.ofChange fnExactIsPaintedSpec)

/-- ITS FALSE NEIGHBOUR: 'it returns false'. Refute it at one input. -/
def fnExactIsPaintedWrong : ChangeSpec := { name := "fnExactIsPainted", fn := fun _ => fun
  | [d1, d2] => { results := [.lit (.bool false)], args := [d1, d2] }
  | _ => none }
def FnExactIsPaintedWrongFalsely : Prop := fnExactIsPaintedRow.holds Try.pinned (OpenSpec.ofChange fnExactIsPaintedWrong)

/-- 'laws.FnExactAreCosts': WHATEVER THE INPUT: true; the input reads as it did. -/
def fnExactAreCostsSpec : ChangeSpec := { name := "fnExactAreCosts", fn := fun _ => fun
  | [d] => { results := [.lit (.bool true)], args := [d] }
  | _ => none }
def fnExactAreCostsRow : OpenClaim := { program := "ytbchfajbobploaa", sum := "480a96447fb66a2698b8486b3dbdbb41cc86793b73e47920a42f5ddee5a42192", func := "loop.example/g01336/laws.FnExactAreCosts", spec := "fnExactAreCosts", unfollowed := true, recurses := true, apart := false }
def FnExactAreCostsSaid : Prop := fnExactAreCostsRow.holds Try.pinned (OpenSpec.ofChange fnExactAreCostsSpec)

/-- ITS FALSE NEIGHBOUR: 'it returns false'. Refute it at one input. -/
def fnExactAreCostsWrong : ChangeSpec := { name := "fnExactAreCosts", fn := fun _ => fun
  | [d] => { results := [.lit (.bool false)], args := [d] }
  | _ => none }
def FnExactAreCostsWrongFalsely : Prop := fnExactAreCostsRow.holds Try.pinned (OpenSpec.ofChange fnExactAreCostsWrong)

/-- 'laws.FnExactIsLoot': WHATEVER THE INPUT: true; the input reads as it did. -/
def fnExactIsLootSpec : ChangeSpec := { name := "fnExactIsLoot", fn := fun _ => fun
  | [d1, d2, d3] => { results := [.lit (.bool true)], args := [d1, d2, d3] }
  | _ => none }
def fnExactIsLootRow : OpenClaim := { program := "ytbchfajbobploaa", sum := "480a96447fb66a2698b8486b3dbdbb41cc86793b73e47920a42f5ddee5a42192", func := "loop.example/g01336/laws.FnExactIsLoot", spec := "fnExactIsLoot", apart := false }
def FnExactIsLootSaid : Prop := fnExactIsLootRow.holds Try.pinned (OpenSpec.ofChange fnExactIsLootSpec)

/-- ITS FALSE NEIGHBOUR: 'it returns false'. Refute it at one input. -/
def fnExactIsLootWrong : ChangeSpec := { name := "fnExactIsLoot", fn := fun _ => fun
  | [d1, d2, d3] => { results := [.lit (.bool false)], args := [d1, d2, d3] }
  | _ => none }
def FnExactIsLootWrongFalsely : Prop := fnExactIsLootRow.holds Try.pinned (OpenSpec.ofChange fnExactIsLootWrong)

/-- 'laws.FnExactBestLoot': WHATEVER THE INPUT: true; the input reads as it did. -/
def fnExactBestLootSpec : ChangeSpec := { name := "fnExactBestLoot", fn := fun _ => fun
  | [d1, d2] => { results := [.lit (.bool true)], args := [d1, d2] }
  | _ => none }
def fnExactBestLootRow : OpenClaim := { program := "ytbchfajbobploaa", sum := "480a96447fb66a2698b8486b3dbdbb41cc86793b73e47920a42f5ddee5a42192", func := "loop.example/g01336/laws.FnExactBestLoot", spec := "fnExactBestLoot", recurses := true, apart := false }
def FnExactBestLootSaid : Prop := fnExactBestLootRow.holds Try.pinned (OpenSpec.ofChange fnExactBestLootSpec)

/-- ITS FALSE NEIGHBOUR: 'it returns false'. Refute it at one input. -/
def fnExactBestLootWrong : ChangeSpec := { name := "fnExactBestLoot", fn := fun _ => fun
  | [d1, d2] => { results := [.lit (.bool false)], args := [d1, d2] }
  | _ => none }
def FnExactBestLootWrongFalsely : Prop := fnExactBestLootRow.holds Try.pinned (OpenSpec.ofChange fnExactBestLootWrong)

/-- 'laws.FnExactCountPaintings': WHATEVER THE INPUT: true; the input reads as it did. -/
def fnExactCountPaintingsSpec : ChangeSpec := { name := "fnExactCountPaintings", fn := fun _ => fun
  | [d1, d2, d3] => { results := [.lit (.bool true)], args := [d1, d2, d3] }
  | _ => none }
def fnExactCountPaintingsRow : OpenClaim := { program := "ytbchfajbobploaa", sum := "480a96447fb66a2698b8486b3dbdbb41cc86793b73e47920a42f5ddee5a42192", func := "loop.example/g01336/laws.FnExactCountPaintings", spec := "fnExactCountPaintings", apart := false }
def FnExactCountPaintingsSaid : Prop := fnExactCountPaintingsRow.holds Try.pinned (OpenSpec.ofChange fnExactCountPaintingsSpec)

/-- ITS FALSE NEIGHBOUR: 'it returns false'. Refute it at one input. -/
def fnExactCountPaintingsWrong : ChangeSpec := { name := "fnExactCountPaintings", fn := fun _ => fun
  | [d1, d2, d3] => { results := [.lit (.bool false)], args := [d1, d2, d3] }
  | _ => none }
def FnExactCountPaintingsWrongFalsely : Prop := fnExactCountPaintingsRow.holds Try.pinned (OpenSpec.ofChange fnExactCountPaintingsWrong)

/-- 'laws.FnExactFirstLoot': WHATEVER THE INPUT: true; the input reads as it did. -/
def fnExactFirstLootSpec : ChangeSpec := { name := "fnExactFirstLoot", fn := fun _ => fun
  | [d1, d2] => { results := [.lit (.bool true)], args := [d1, d2] }
  | _ => none }
def fnExactFirstLootRow : OpenClaim := { program := "ytbchfajbobploaa", sum := "480a96447fb66a2698b8486b3dbdbb41cc86793b73e47920a42f5ddee5a42192", func := "loop.example/g01336/laws.FnExactFirstLoot", spec := "fnExactFirstLoot", recurses := true, apart := false }
def FnExactFirstLootSaid : Prop := fnExactFirstLootRow.holds Try.pinned (OpenSpec.ofChange fnExactFirstLootSpec)

/-- ITS FALSE NEIGHBOUR: 'it returns false'. Refute it at one input. -/
def fnExactFirstLootWrong : ChangeSpec := { name := "fnExactFirstLoot", fn := fun _ => fun
  | [d1, d2] => { results := [.lit (.bool false)], args := [d1, d2] }
  | _ => none }
def FnExactFirstLootWrongFalsely : Prop := fnExactFirstLootRow.holds Try.pinned (OpenSpec.ofChange fnExactFirstLootWrong)

/-- 'laws.FnExactLeastPaint': WHATEVER THE INPUT: true; the input reads as it did. -/
def fnExactLeastPaintSpec : ChangeSpec := { name := "fnExactLeastPaint", fn := fun _ => fun
  | [d1, d2] => { results := [.lit (.bool true)], args := [d1, d2] }
  | _ => none }
def fnExactLeastPaintRow : OpenClaim := { program := "ytbchfajbobploaa", sum := "480a96447fb66a2698b8486b3dbdbb41cc86793b73e47920a42f5ddee5a42192", func := "loop.example/g01336/laws.FnExactLeastPaint", spec := "fnExactLeastPaint", unfollowed := true, recurses := true, apart := false }
def FnExactLeastPaintSaid : Prop := fnExactLeastPaintRow.holds Try.pinned (OpenSpec.ofChange fnExactLeastPaintSpec)

/-- ITS FALSE NEIGHBOUR: 'it returns false'. Refute it at one input. -/
def fnExactLeastPaintWrong : ChangeSpec := { name := "fnExactLeastPaint", fn := fun _ => fun
  | [d1, d2] => { results := [.lit (.bool false)], args := [d1, d2] }
  | _ => none }
def FnExactLeastPaintWrongFalsely : Prop := fnExactLeastPaintRow.holds Try.pinned (OpenSpec.ofChange fnExactLeastPaintWrong)

/-- 'laws.FnExactCountPaint': WHATEVER THE INPUT: true; the input reads as it did. -/
def fnExactCountPaintSpec : ChangeSpec := { name := "fnExactCountPaint", fn := fun _ => fun
  | [d1, d2] => { results := [.lit (.bool true)], args := [d1, d2] }
  | _ => none }
def fnExactCountPaintRow : OpenClaim := { program := "ytbchfajbobploaa", sum := "480a96447fb66a2698b8486b3dbdbb41cc86793b73e47920a42f5ddee5a42192", func := "loop.example/g01336/laws.FnExactCountPaint", spec := "fnExactCountPaint", unfollowed := true, recurses := true, apart := false }
def FnExactCountPaintSaid : Prop := fnExactCountPaintRow.holds Try.pinned (OpenSpec.ofChange fnExactCountPaintSpec)

/-- ITS FALSE NEIGHBOUR: 'it returns false'. Refute it at one input. -/
def fnExactCountPaintWrong : ChangeSpec := { name := "fnExactCountPaint", fn := fun _ => fun
  | [d1, d2] => { results := [.lit (.bool false)], args := [d1, d2] }
  | _ => none }
def FnExactCountPaintWrongFalsely : Prop := fnExactCountPaintRow.holds Try.pinned (OpenSpec.ofChange fnExactCountPaintWrong)

/- THE SECOND FORM. 'bulk': how many values and letters a reading holds, each counted each time it is reached (what is shared counts as often as it is met; a slice's spare places count too). A statement '..UptoSaid' is the law's where the arguments, and the package variables that the reading takes, are together of bulk at most 1048576: NARROWER than '..Said'. Prove '..Said' where nothing that the law and all that it calls make is longer than what came in: it says more and counts as full. Else prove '..UptoSaid'. A law counts once. -/
mutual
def uptoBulk {H : Type} : DataW H → Nat
  | .lit (.string bytes) => bytes.length + 1
  | .lit _ => 1
  | .nil => 1
  | .ptr d => uptoBulk d + 1
  | .slice elems spare => uptoBulkAll elems + uptoBulkAll spare + 1
  | .agg parts => uptoBulkAll parts + 1
  | .iface _ d => uptoBulk d + 1
  | .map entries => uptoBulkEntries entries + 1
  | .held _ => 1
def uptoBulkAll {H : Type} : List (DataW H) → Nat
  | [] => 0
  | d :: r => uptoBulk d + uptoBulkAll r
def uptoBulkEntries {H : Type} : List (Lit × DataW H) → Nat
  | [] => 0
  | x :: r => uptoBulkEntry x + uptoBulkEntries r
def uptoBulkEntry {H : Type} : Lit × DataW H → Nat
  | (.string bytes, d) => bytes.length + uptoBulk d + 1
  | (_, d) => uptoBulk d + 1
 end
def uptoSmall : (H : Type) → List (DataW H) → Bool := fun _ ds => decide (uptoBulkAll ds ≤ 1048576)
def OpenSpec.upto (s : _root_.Go.ChangeSpec) : _root_.Go.OpenSpec := { _root_.Go.OpenSpec.ofChange s with cond := some uptoSmall }

/-- 'laws.FnExactIsLitRow', WHERE WHAT IT READS IS OF BULK AT MOST 1048576: true; the input reads as it did. -/
def fnExactIsLitRowUptoRow : OpenClaim := { program := "ytbchfajbobploaa", sum := "480a96447fb66a2698b8486b3dbdbb41cc86793b73e47920a42f5ddee5a42192", func := "loop.example/g01336/laws.FnExactIsLitRow", spec := "fnExactIsLitRow", apart := false, narrowed := true }
def FnExactIsLitRowUptoSaid : Prop := fnExactIsLitRowUptoRow.holds Try.pinned (OpenSpec.upto fnExactIsLitRowSpec)

/-- 'laws.FnExactTurnRow', WHERE WHAT IT READS IS OF BULK AT MOST 1048576: true; the input reads as it did. -/
def fnExactTurnRowUptoRow : OpenClaim := { program := "ytbchfajbobploaa", sum := "480a96447fb66a2698b8486b3dbdbb41cc86793b73e47920a42f5ddee5a42192", func := "loop.example/g01336/laws.FnExactTurnRow", spec := "fnExactTurnRow", apart := false, narrowed := true }
def FnExactTurnRowUptoSaid : Prop := fnExactTurnRowUptoRow.holds Try.pinned (OpenSpec.upto fnExactTurnRowSpec)

/-- 'laws.FnExactFewestGuards', WHERE WHAT IT READS IS OF BULK AT MOST 1048576: true; the input reads as it did. -/
def fnExactFewestGuardsUptoRow : OpenClaim := { program := "ytbchfajbobploaa", sum := "480a96447fb66a2698b8486b3dbdbb41cc86793b73e47920a42f5ddee5a42192", func := "loop.example/g01336/laws.FnExactFewestGuards", spec := "fnExactFewestGuards", apart := false, narrowed := true }
def FnExactFewestGuardsUptoSaid : Prop := fnExactFewestGuardsUptoRow.holds Try.pinned (OpenSpec.upto fnExactFewestGuardsSpec)

/-- 'laws.FnExactCountLoots', WHERE WHAT IT READS IS OF BULK AT MOST 1048576: true; the input reads as it did. -/
def fnExactCountLootsUptoRow : OpenClaim := { program := "ytbchfajbobploaa", sum := "480a96447fb66a2698b8486b3dbdbb41cc86793b73e47920a42f5ddee5a42192", func := "loop.example/g01336/laws.FnExactCountLoots", spec := "fnExactCountLoots", recurses := true, apart := false, narrowed := true }
def FnExactCountLootsUptoSaid : Prop := fnExactCountLootsUptoRow.holds Try.pinned (OpenSpec.upto fnExactCountLootsSpec)

/-- 'laws.FnExactIsPainted', WHERE WHAT IT READS IS OF BULK AT MOST 1048576: true; the input reads as it did. -/
def fnExactIsPaintedUptoRow : OpenClaim := { program := "ytbchfajbobploaa", sum := "480a96447fb66a2698b8486b3dbdbb41cc86793b73e47920a42f5ddee5a42192", func := "loop.example/g01336/laws.FnExactIsPainted", spec := "fnExactIsPainted", apart := false, narrowed := true }
def FnExactIsPaintedUptoSaid : Prop := fnExactIsPaintedUptoRow.holds Try.pinned (OpenSpec.upto fnExactIsPaintedSpec)

/-- 'laws.FnExactAreCosts', WHERE WHAT IT READS IS OF BULK AT MOST 1048576: true; the input reads as it did. -/
def fnExactAreCostsUptoRow : OpenClaim := { program := "ytbchfajbobploaa", sum := "480a96447fb66a2698b8486b3dbdbb41cc86793b73e47920a42f5ddee5a42192", func := "loop.example/g01336/laws.FnExactAreCosts", spec := "fnExactAreCosts", unfollowed := true, recurses := true, apart := false, narrowed := true }
def FnExactAreCostsUptoSaid : Prop := fnExactAreCostsUptoRow.holds Try.pinned (OpenSpec.upto fnExactAreCostsSpec)

/-- 'laws.FnExactIsLoot', WHERE WHAT IT READS IS OF BULK AT MOST 1048576: true; the input reads as it did. -/
def fnExactIsLootUptoRow : OpenClaim := { program := "ytbchfajbobploaa", sum := "480a96447fb66a2698b8486b3dbdbb41cc86793b73e47920a42f5ddee5a42192", func := "loop.example/g01336/laws.FnExactIsLoot", spec := "fnExactIsLoot", apart := false, narrowed := true }
def FnExactIsLootUptoSaid : Prop := fnExactIsLootUptoRow.holds Try.pinned (OpenSpec.upto fnExactIsLootSpec)

/-- 'laws.FnExactBestLoot', WHERE WHAT IT READS IS OF BULK AT MOST 1048576: true; the input reads as it did. -/
def fnExactBestLootUptoRow : OpenClaim := { program := "ytbchfajbobploaa", sum := "480a96447fb66a2698b8486b3dbdbb41cc86793b73e47920a42f5ddee5a42192", func := "loop.example/g01336/laws.FnExactBestLoot", spec := "fnExactBestLoot", recurses := true, apart := false, narrowed := true }
def FnExactBestLootUptoSaid : Prop := fnExactBestLootUptoRow.holds Try.pinned (OpenSpec.upto fnExactBestLootSpec)

/-- 'laws.FnExactCountPaintings', WHERE WHAT IT READS IS OF BULK AT MOST 1048576: true; the input reads as it did. -/
def fnExactCountPaintingsUptoRow : OpenClaim := { program := "ytbchfajbobploaa", sum := "480a96447fb66a2698b8486b3dbdbb41cc86793b73e47920a42f5ddee5a42192", func := "loop.example/g01336/laws.FnExactCountPaintings", spec := "fnExactCountPaintings", apart := false, narrowed := true }
def FnExactCountPaintingsUptoSaid : Prop := fnExactCountPaintingsUptoRow.holds Try.pinned (OpenSpec.upto fnExactCountPaintingsSpec)

/-- 'laws.FnExactFirstLoot', WHERE WHAT IT READS IS OF BULK AT MOST 1048576: true; the input reads as it did. -/
def fnExactFirstLootUptoRow : OpenClaim := { program := "ytbchfajbobploaa", sum := "480a96447fb66a2698b8486b3dbdbb41cc86793b73e47920a42f5ddee5a42192", func := "loop.example/g01336/laws.FnExactFirstLoot", spec := "fnExactFirstLoot", recurses := true, apart := false, narrowed := true }
def FnExactFirstLootUptoSaid : Prop := fnExactFirstLootUptoRow.holds Try.pinned (OpenSpec.upto fnExactFirstLootSpec)

/-- 'laws.FnExactLeastPaint', WHERE WHAT IT READS IS OF BULK AT MOST 1048576: true; the input reads as it did. -/
def fnExactLeastPaintUptoRow : OpenClaim := { program := "ytbchfajbobploaa", sum := "480a96447fb66a2698b8486b3dbdbb41cc86793b73e47920a42f5ddee5a42192", func := "loop.example/g01336/laws.FnExactLeastPaint", spec := "fnExactLeastPaint", unfollowed := true, recurses := true, apart := false, narrowed := true }
def FnExactLeastPaintUptoSaid : Prop := fnExactLeastPaintUptoRow.holds Try.pinned (OpenSpec.upto fnExactLeastPaintSpec)

/-- 'laws.FnExactCountPaint', WHERE WHAT IT READS IS OF BULK AT MOST 1048576: true; the input reads as it did. -/
def fnExactCountPaintUptoRow : OpenClaim := { program := "ytbchfajbobploaa", sum := "480a96447fb66a2698b8486b3dbdbb41cc86793b73e47920a42f5ddee5a42192", func := "loop.example/g01336/laws.FnExactCountPaint", spec := "fnExactCountPaint", unfollowed := true, recurses := true, apart := false, narrowed := true }
def FnExactCountPaintUptoSaid : Prop := fnExactCountPaintUptoRow.holds Try.pinned (OpenSpec.upto fnExactCountPaintSpec)

end Rows
end Go.Proofs.Ytbchfajbobploaa
