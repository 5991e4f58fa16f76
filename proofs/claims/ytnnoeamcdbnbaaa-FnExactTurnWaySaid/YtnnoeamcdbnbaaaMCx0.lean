-- The machine side, written by this repo's program mp.py; contracts marked as of this repo are this session's own.
import Derived.Test.YtnnoeamcdbnbaaaProg
import Derived.Below
import Derived.Deep.Draws
import Derived.Deep.AppendLies
import Derived.Maps.AppendAt
import Derived.OwnWalk
import Derived.Laws.BytesArg
import Derived.Laws.MakeOwn
import Derived.Laws.OwnMore
import Derived.Deep.OwnRows
import Derived.Tactics
import Derived.Lib.ConvBytes
import Derived.Laws.Slices
import Derived.WalkKit
import Derived.KernelRfl
import Derived.RowKit3
import Derived.Deep.LoopGhost
import Derived.Deep.QuietTactic
import Derived.BigQuiet
import Derived.WideLaws
import Derived.Deep.DeepCutAuto
import Derived.Deep.CutBlock
import Derived.Deep.RegionHeld3
import Derived.Laws.Rows
import Derived.Lib.AppendStr
import Derived.ArgAppend
import Derived.Laws.IdiomCopy
import Derived.OrdersHeld
import Derived.Laws.BitsLemmas
import Derived.RowKit
import Derived.Test.YtnnoeamcdbnbaaaShelf
import Derived.Test.YtnnoeamcdbnbaaaWWords
import Derived.Test.YtnnoeamcdbnbaaaWLast
import Derived.Test.YtnnoeamcdbnbaaaWTab
import Derived.Test.YtnnoeamcdbnbaaaWFour
import Derived.Test.YtnnoeamcdbnbaaaWQPut
import Derived.Test.YtnnoeamcdbnbaaaWApart
import Derived.Test.YtnnoeamcdbnbaaaWArr
import Derived.Test.YtnnoeamcdbnbaaaWZeros
import Derived.Test.YtnnoeamcdbnbaaaWFoot
import Derived.Test.YtnnoeamcdbnbaaaWKept
import Derived.Test.YtnnoeamcdbnbaaaWShare
import Derived.Test.YtnnoeamcdbnbaaaWN
import Derived.Test.YtnnoeamcdbnbaaaWFootNe
import Derived.Test.YtnnoeamcdbnbaaaWAt
import Derived.Test.YtnnoeamcdbnbaaaWEqStruct
import Derived.Test.YtnnoeamcdbnbaaaWRepsOne
import Derived.Test.YtnnoeamcdbnbaaaWInv
import Derived.Test.YtnnoeamcdbnbaaaWInvWords
import Derived.Test.YtnnoeamcdbnbaaaWGuard
import Derived.Test.YtnnoeamcdbnbaaaWNEv
import Derived.Test.YtnnoeamcdbnbaaaWMore
namespace Go.Proofs.Ytnnoeamcdbnbaaa.MC
open Go.RowKit Go.Proofs.YtnnoeamcdbnbaaaW.PrintWords Go.Proofs.YtnnoeamcdbnbaaaW.PrintLast Go.Proofs.YtnnoeamcdbnbaaaW.PrintMore
attribute [local go_sem] max2_int min2_int max_two min_two max_three min_three max_four min_four   -- for this text's walks alone
set_option linter.unusedVariables false
set_option linter.unusedSimpArgs false



def errW : Option Int → Value
  | none => .nilIface
  | some c => .iface 0 (.int .i64 c)
theorem errW_none : errW none = .nilIface := rfl
theorem errW_some (c : Int) : errW (some c) = .iface 0 (.int .i64 c) := rfl

-- the values' own types

end Go.Proofs.Ytnnoeamcdbnbaaa.MC
