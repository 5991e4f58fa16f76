-- The machine side, written by this repo's program mp.py; contracts marked as of this repo are this session's own.
import Derived.Test.YteldjmljidmffaaGreatDoorProg
import Derived.Below
import Derived.Deep.Draws
import Derived.Deep.AppendLies
import Derived.Maps.AppendAt
import Derived.OwnWalk
import Derived.Laws.BytesArg
import Derived.Laws.MakeOwn
import Derived.Laws.OwnMore
import Derived.Deep.OwnRows
import Derived.Tactics
import Derived.Lib.ConvBytes
import Derived.Laws.Slices
import Derived.WalkKit
import Derived.KernelRfl
import Derived.RowKit3
import Derived.Deep.LoopGhost
import Derived.Deep.QuietTactic
import Derived.BigQuiet
import Derived.WideLaws
import Derived.Deep.DeepCutAuto
import Derived.Deep.CutBlock
import Derived.Deep.RegionHeld3
import Derived.Laws.Rows
import Derived.Lib.AppendStr
import Derived.ArgAppend
import Derived.Laws.IdiomCopy
import Derived.OrdersHeld
import Derived.Laws.BitsLemmas
import Derived.RowKit
import Derived.Lib.AtoiErrMem
import Derived.Shelf.SlSorted.Search
import Derived.Shelf.Unicode.PredsPay
import Derived.StillTailTactics
import Derived.Test.YteldjmljidmffaaGreatDoorShelf
import Derived.Test.YteldjmljidmffaaGreatDoorWWords
import Derived.Test.YteldjmljidmffaaGreatDoorWLast
import Derived.Test.YteldjmljidmffaaGreatDoorWTab
import Derived.Test.YteldjmljidmffaaGreatDoorWFour
import Derived.Test.YteldjmljidmffaaGreatDoorWQPut
import Derived.Test.YteldjmljidmffaaGreatDoorWApart
import Derived.Test.YteldjmljidmffaaGreatDoorWArr
import Derived.Test.YteldjmljidmffaaGreatDoorWZeros
import Derived.Test.YteldjmljidmffaaGreatDoorWFoot
import Derived.Test.YteldjmljidmffaaGreatDoorWKept
import Derived.Test.YteldjmljidmffaaGreatDoorWShare
import Derived.Test.YteldjmljidmffaaGreatDoorWN
import Derived.Test.YteldjmljidmffaaGreatDoorWFootNe
import Derived.Test.YteldjmljidmffaaGreatDoorWAt
import Derived.Test.YteldjmljidmffaaGreatDoorWEqStruct
import Derived.Test.YteldjmljidmffaaGreatDoorWRepsOne
import Derived.Test.YteldjmljidmffaaGreatDoorWInv
import Derived.Test.YteldjmljidmffaaGreatDoorWInvWords
import Derived.Test.YteldjmljidmffaaGreatDoorWGuard
import Derived.Test.YteldjmljidmffaaGreatDoorWNEv
import Derived.Test.YteldjmljidmffaaGreatDoorWMore
namespace Go.Proofs.YteldjmljidmffaaGreatDoor.MX
open Go.RowKit Go.Proofs.YteldjmljidmffaaGreatDoorW.PrintWords Go.Proofs.YteldjmljidmffaaGreatDoorW.PrintLast Go.Proofs.YteldjmljidmffaaGreatDoorW.PrintMore
attribute [local go_sem] max2_int min2_int max_two min_two max_three min_three max_four min_four   -- for this text's walks alone
set_option linter.unusedVariables false
set_option linter.unusedSimpArgs false



def errW : Option Int → Value
  | none => .nilIface
  | some c => .iface 0 (.int .i64 c)
theorem errW_none : errW none = .nilIface := rfl
theorem errW_some (c : Int) : errW (some c) = .iface 0 (.int .i64 c) := rfl

theorem info3 : (Tryz.prog.info? 3).map (fun i => (i.zero, i.size, i.bytes)) = some (some (.int .i64 0), 1, 8) := by kernel_rfl
theorem info5 : (Tryz.prog.info? 5).map (fun i => (i.zero, i.size, i.bytes)) = some (some (.int .u8 0), 1, 1) := by kernel_rfl
theorem info9 : (Tryz.prog.info? 9).map (fun i => (i.zero, i.size, i.bytes)) = some (some (.string ⟨#[]⟩), 1, 16) := by kernel_rfl
-- the values' own types

end Go.Proofs.YteldjmljidmffaaGreatDoor.MX
