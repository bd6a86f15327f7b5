/- What the values' own types are. Laid by wip/tools/pr.py out of what print.sh wrote for ConfMoves. -/
import Derived.Test.YtalbdmiakbbpfaaProg
import Derived.Below
import Derived.Deep.Draws
import Derived.Deep.AppendLies
import Derived.Maps.AppendAt
import Derived.OwnWalk
import Derived.Laws.BytesArg
import Derived.Laws.MakeOwn
import Derived.Laws.OwnMore
import Derived.Deep.OwnRows
import Derived.Tactics
import Derived.Lib.ConvBytes
import Derived.Laws.Slices
import Derived.WalkKit
import Derived.KernelRfl
import Derived.RowKit3
import Derived.Deep.LoopGhost
import Derived.Deep.QuietTactic
import Derived.BigQuiet
import Derived.WideLaws
import Derived.Deep.DeepCutAuto
import Derived.Deep.CutBlock
import Derived.Deep.RegionHeld3
import Derived.Laws.Rows
import Derived.Lib.AppendStr
import Derived.ArgAppend
import Derived.Laws.IdiomCopy
import Derived.OrdersHeld
import Derived.Laws.BitsLemmas
import Derived.RowKit
import Derived.Test.YtalbdmiakbbpfaaWWords
import Derived.Test.YtalbdmiakbbpfaaWLast
import Derived.Test.YtalbdmiakbbpfaaWTab
import Derived.Test.YtalbdmiakbbpfaaWFour
import Derived.Test.YtalbdmiakbbpfaaWQPut
import Derived.Test.YtalbdmiakbbpfaaWApart
import Derived.Test.YtalbdmiakbbpfaaWArr
import Derived.Test.YtalbdmiakbbpfaaWZeros
import Derived.Test.YtalbdmiakbbpfaaWFoot
import Derived.Test.YtalbdmiakbbpfaaWKept
import Derived.Test.YtalbdmiakbbpfaaWShare
import Derived.Test.YtalbdmiakbbpfaaWN
import Derived.Test.YtalbdmiakbbpfaaWFootNe
import Derived.Test.YtalbdmiakbbpfaaWAt
import Derived.Test.YtalbdmiakbbpfaaWEqStruct
import Derived.Test.YtalbdmiakbbpfaaWRepsOne
import Derived.Test.YtalbdmiakbbpfaaWInv
import Derived.Test.YtalbdmiakbbpfaaWInvWords
import Derived.Test.YtalbdmiakbbpfaaWGuard
import Derived.Test.YtalbdmiakbbpfaaWNEv
import Derived.Test.YtalbdmiakbbpfaaWMore
namespace Go.Proofs.Ytalbdmiakbbpfaa.Q
open Go.RowKit Go.Proofs.YtalbdmiakbbpfaaW.PrintWords Go.Proofs.YtalbdmiakbbpfaaW.PrintLast Go.Proofs.YtalbdmiakbbpfaaW.PrintMore
attribute [local go_sem] max2_int min2_int max_two min_two max_three min_three max_four min_four   -- for this text's walks alone
set_option linter.unusedVariables false
set_option linter.unusedSimpArgs false



def errW : Option Int → Value
  | none => .nilIface
  | some c => .iface 0 (.int .i64 c)
theorem errW_none : errW none = .nilIface := rfl
theorem errW_some (c : Int) : errW (some c) = .iface 0 (.int .i64 c) := rfl

-- the values' own types

end Go.Proofs.Ytalbdmiakbbpfaa.Q
