/- What the values' own types are. Laid by wip/tools/pr.py out of what print.sh wrote for WordPuts. -/
import Derived.Test.YtceaddpbebaldaaProg
import Derived.Below
import Derived.Deep.Draws
import Derived.Deep.AppendLies
import Derived.Maps.AppendAt
import Derived.OwnWalk
import Derived.Laws.BytesArg
import Derived.Laws.MakeOwn
import Derived.Laws.OwnMore
import Derived.Deep.OwnRows
import Derived.Tactics
import Derived.Lib.ConvBytes
import Derived.Laws.Slices
import Derived.WalkKit
import Derived.KernelRfl
import Derived.RowKit3
import Derived.Deep.LoopGhost
import Derived.Deep.QuietTactic
import Derived.BigQuiet
import Derived.WideLaws
import Derived.Deep.DeepCutAuto
import Derived.Deep.CutBlock
import Derived.Deep.RegionHeld3
import Derived.Laws.Rows
import Derived.Lib.AppendStr
import Derived.ArgAppend
import Derived.Laws.IdiomCopy
import Derived.OrdersHeld
import Derived.Laws.BitsLemmas
import Derived.RowKit
import Derived.Test.YtceaddpbebaldaaWWords
import Derived.Test.YtceaddpbebaldaaWLast
import Derived.Test.YtceaddpbebaldaaWTab
import Derived.Test.YtceaddpbebaldaaWFour
import Derived.Test.YtceaddpbebaldaaWQPut
import Derived.Test.YtceaddpbebaldaaWApart
import Derived.Test.YtceaddpbebaldaaWArr
import Derived.Test.YtceaddpbebaldaaWZeros
import Derived.Test.YtceaddpbebaldaaWFoot
import Derived.Test.YtceaddpbebaldaaWKept
import Derived.Test.YtceaddpbebaldaaWShare
import Derived.Test.YtceaddpbebaldaaWN
import Derived.Test.YtceaddpbebaldaaWFootNe
import Derived.Test.YtceaddpbebaldaaWAt
import Derived.Test.YtceaddpbebaldaaWEqStruct
import Derived.Test.YtceaddpbebaldaaWRepsOne
import Derived.Test.YtceaddpbebaldaaWInv
import Derived.Test.YtceaddpbebaldaaWInvWords
import Derived.Test.YtceaddpbebaldaaWGuard
import Derived.Test.YtceaddpbebaldaaWNEv
import Derived.Test.YtceaddpbebaldaaWMore
namespace Go.Proofs.Ytceaddpbebaldaa.B
open Go.RowKit Go.Proofs.YtceaddpbebaldaaW.PrintWords Go.Proofs.YtceaddpbebaldaaW.PrintLast Go.Proofs.YtceaddpbebaldaaW.PrintMore
attribute [local go_sem] max2_int min2_int max_two min_two max_three min_three max_four min_four   -- for this text's walks alone
set_option linter.unusedVariables false
set_option linter.unusedSimpArgs false



def errW : Option Int → Value
  | none => .nilIface
  | some c => .iface 0 (.int .i64 c)
theorem errW_none : errW none = .nilIface := rfl
theorem errW_some (c : Int) : errW (some c) = .iface 0 (.int .i64 c) := rfl

theorem info5 : (Try.prog.info? 5).map (fun i => (i.zero, i.size, i.bytes)) = some (some (.int .u8 0), 1, 1) := by kernel_rfl
-- the values' own types

end Go.Proofs.Ytceaddpbebaldaa.B
