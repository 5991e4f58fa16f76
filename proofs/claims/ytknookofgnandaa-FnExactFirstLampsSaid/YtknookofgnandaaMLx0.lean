-- The machine side, written by this repo's program mp.py; contracts marked as of this repo are this session's own.
import Derived.Test.YtknookofgnandaaProg
import Derived.Below
import Derived.Deep.Draws
import Derived.Deep.AppendLies
import Derived.Maps.AppendAt
import Derived.OwnWalk
import Derived.Laws.BytesArg
import Derived.Laws.MakeOwn
import Derived.Laws.OwnMore
import Derived.Deep.OwnRows
import Derived.Tactics
import Derived.Lib.ConvBytes
import Derived.Laws.Slices
import Derived.WalkKit
import Derived.KernelRfl
import Derived.RowKit3
import Derived.Deep.LoopGhost
import Derived.Deep.QuietTactic
import Derived.BigQuiet
import Derived.WideLaws
import Derived.Deep.DeepCutAuto
import Derived.Deep.CutBlock
import Derived.Deep.RegionHeld3
import Derived.Laws.Rows
import Derived.Lib.AppendStr
import Derived.ArgAppend
import Derived.Laws.IdiomCopy
import Derived.OrdersHeld
import Derived.Laws.BitsLemmas
import Derived.RowKit
import Derived.DeepKeys4
import Derived.Laws.CopyOwn
import Derived.Lib.OthersKept
import Derived.Maps.OwnSet
import Derived.Maps.RangeWalk
import Derived.StillTailTactics
import Derived.Test.YtknookofgnandaaShelf
import Derived.Test.YtknookofgnandaaWWords
import Derived.Test.YtknookofgnandaaWLast
import Derived.Test.YtknookofgnandaaWTab
import Derived.Test.YtknookofgnandaaWFour
import Derived.Test.YtknookofgnandaaWQPut
import Derived.Test.YtknookofgnandaaWApart
import Derived.Test.YtknookofgnandaaWArr
import Derived.Test.YtknookofgnandaaWZeros
import Derived.Test.YtknookofgnandaaWFoot
import Derived.Test.YtknookofgnandaaWKept
import Derived.Test.YtknookofgnandaaWShare
import Derived.Test.YtknookofgnandaaWN
import Derived.Test.YtknookofgnandaaWFootNe
import Derived.Test.YtknookofgnandaaWAt
import Derived.Test.YtknookofgnandaaWEqStruct
import Derived.Test.YtknookofgnandaaWRepsOne
import Derived.Test.YtknookofgnandaaWInv
import Derived.Test.YtknookofgnandaaWInvWords
import Derived.Test.YtknookofgnandaaWGuard
import Derived.Test.YtknookofgnandaaWNEv
import Derived.Test.YtknookofgnandaaWMore
namespace Go.Proofs.Ytknookofgnandaa.ML
open Go.RowKit Go.Proofs.YtknookofgnandaaW.PrintWords Go.Proofs.YtknookofgnandaaW.PrintLast Go.Proofs.YtknookofgnandaaW.PrintMore
attribute [local go_sem] max2_int min2_int max_two min_two max_three min_three max_four min_four   -- for this text's walks alone
set_option linter.unusedVariables false
set_option linter.unusedSimpArgs false



def errW : Option Int → Value
  | none => .nilIface
  | some c => .iface 0 (.int .i64 c)
theorem errW_none : errW none = .nilIface := rfl
theorem errW_some (c : Int) : errW (some c) = .iface 0 (.int .i64 c) := rfl

theorem info3 : (Try.prog.info? 3).map (fun i => (i.zero, i.size, i.bytes)) = some (some (.int .i64 0), 1, 8) := by kernel_rfl
-- the values' own types

end Go.Proofs.Ytknookofgnandaa.ML
