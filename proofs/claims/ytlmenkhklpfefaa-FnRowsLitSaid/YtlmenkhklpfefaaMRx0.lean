-- The machine side, written by this repo's program mp.py; contracts marked as of this repo are this session's own.
import Derived.Test.YtlmenkhklpfefaaProg
import Derived.Below
import Derived.Deep.Draws
import Derived.Deep.AppendLies
import Derived.Maps.AppendAt
import Derived.OwnWalk
import Derived.Laws.BytesArg
import Derived.Laws.MakeOwn
import Derived.Laws.OwnMore
import Derived.Deep.OwnRows
import Derived.Tactics
import Derived.Lib.ConvBytes
import Derived.Laws.Slices
import Derived.WalkKit
import Derived.KernelRfl
import Derived.RowKit3
import Derived.Deep.LoopGhost
import Derived.Deep.QuietTactic
import Derived.BigQuiet
import Derived.WideLaws
import Derived.Deep.DeepCutAuto
import Derived.Deep.CutBlock
import Derived.Deep.RegionHeld3
import Derived.Laws.Rows
import Derived.Lib.AppendStr
import Derived.ArgAppend
import Derived.Laws.IdiomCopy
import Derived.OrdersHeld
import Derived.Laws.BitsLemmas
import Derived.RowKit
import Derived.DeepKeys4
import Derived.Laws.CopyOwn
import Derived.Lib.OthersKept
import Derived.Maps.OwnSet
import Derived.Maps.RangeWalk
import Derived.StillTailTactics
import Derived.Test.YtlmenkhklpfefaaShelf
import Derived.Test.YtlmenkhklpfefaaWWords
import Derived.Test.YtlmenkhklpfefaaWLast
import Derived.Test.YtlmenkhklpfefaaWTab
import Derived.Test.YtlmenkhklpfefaaWFour
import Derived.Test.YtlmenkhklpfefaaWQPut
import Derived.Test.YtlmenkhklpfefaaWApart
import Derived.Test.YtlmenkhklpfefaaWArr
import Derived.Test.YtlmenkhklpfefaaWZeros
import Derived.Test.YtlmenkhklpfefaaWFoot
import Derived.Test.YtlmenkhklpfefaaWKept
import Derived.Test.YtlmenkhklpfefaaWShare
import Derived.Test.YtlmenkhklpfefaaWN
import Derived.Test.YtlmenkhklpfefaaWFootNe
import Derived.Test.YtlmenkhklpfefaaWAt
import Derived.Test.YtlmenkhklpfefaaWEqStruct
import Derived.Test.YtlmenkhklpfefaaWRepsOne
import Derived.Test.YtlmenkhklpfefaaWInv
import Derived.Test.YtlmenkhklpfefaaWInvWords
import Derived.Test.YtlmenkhklpfefaaWGuard
import Derived.Test.YtlmenkhklpfefaaWNEv
import Derived.Test.YtlmenkhklpfefaaWMore
namespace Go.Proofs.Ytlmenkhklpfefaa.MR
open Go.RowKit Go.Proofs.YtlmenkhklpfefaaW.PrintWords Go.Proofs.YtlmenkhklpfefaaW.PrintLast Go.Proofs.YtlmenkhklpfefaaW.PrintMore
attribute [local go_sem] max2_int min2_int max_two min_two max_three min_three max_four min_four   -- for this text's walks alone
set_option linter.unusedVariables false
set_option linter.unusedSimpArgs false



def errW : Option Int → Value
  | none => .nilIface
  | some c => .iface 0 (.int .i64 c)
theorem errW_none : errW none = .nilIface := rfl
theorem errW_some (c : Int) : errW (some c) = .iface 0 (.int .i64 c) := rfl

theorem info3 : (Try.prog.info? 3).map (fun i => (i.zero, i.size, i.bytes)) = some (some (.int .i64 0), 1, 8) := by kernel_rfl
-- the values' own types

end Go.Proofs.Ytlmenkhklpfefaa.MR
