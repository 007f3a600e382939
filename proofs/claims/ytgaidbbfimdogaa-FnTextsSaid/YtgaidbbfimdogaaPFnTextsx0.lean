-- Made by a program (the kit's print with additions of this session: wip/tools/patch_print.py, ext.py).
import Derived.Test.YtgaidbbfimdogaaProg
import Derived.Test.YtgaidbbfimdogaaShelf
import Derived.Test.YtgaidbbfimdogaaOpen
import Derived.Test.YtgaidbbfimdogaaMakeCap
import Derived.Below
import Derived.Deep.Draws
import Derived.Deep.AppendLies
import Derived.Maps.AppendAt
import Derived.OwnWalk
import Derived.Laws.BytesArg
import Derived.Laws.MakeOwn
import Derived.Laws.OwnMore
import Derived.Deep.OwnRows
import Derived.Tactics
import Derived.Lib.ConvBytes
import Derived.Laws.Slices
import Derived.WalkKit
import Derived.KernelRfl
import Derived.RowKit3
import Derived.Deep.LoopGhost
import Derived.Deep.QuietTactic
import Derived.BigQuiet
import Derived.WideLaws
import Derived.Deep.DeepCutAuto
import Derived.Deep.CutBlock
import Derived.Deep.RegionHeld3
import Derived.Laws.Rows
import Derived.Lib.AppendStr
import Derived.ArgAppend
import Derived.Laws.IdiomCopy
import Derived.OrdersHeld
import Derived.Laws.BitsLemmas
import Derived.RowKit
import Derived.Test.YtgaidbbfimdogaaWWords
import Derived.Test.YtgaidbbfimdogaaWLast
import Derived.Test.YtgaidbbfimdogaaWTab
import Derived.Test.YtgaidbbfimdogaaWFour
import Derived.Test.YtgaidbbfimdogaaWQPut
import Derived.Test.YtgaidbbfimdogaaWApart
import Derived.Test.YtgaidbbfimdogaaWArr
import Derived.Test.YtgaidbbfimdogaaWZeros
import Derived.Test.YtgaidbbfimdogaaWFoot
import Derived.Test.YtgaidbbfimdogaaWKept
import Derived.Test.YtgaidbbfimdogaaWShare
import Derived.Test.YtgaidbbfimdogaaWN
import Derived.Test.YtgaidbbfimdogaaWFootNe
import Derived.Test.YtgaidbbfimdogaaWAt
import Derived.Test.YtgaidbbfimdogaaWEqStruct
import Derived.Test.YtgaidbbfimdogaaWRepsOne
import Derived.Test.YtgaidbbfimdogaaWInv
import Derived.Test.YtgaidbbfimdogaaWInvWords
import Derived.Test.YtgaidbbfimdogaaWGuard
import Derived.Test.YtgaidbbfimdogaaWNEv
import Derived.Test.YtgaidbbfimdogaaWMore
namespace Go.Proofs.Ytgaidbbfimdogaa.PFnTexts
open Go.RowKit Go.Proofs.YtgaidbbfimdogaaW.PrintWords Go.Proofs.YtgaidbbfimdogaaW.PrintLast Go.Proofs.YtgaidbbfimdogaaW.PrintMore
attribute [local go_sem] max2_int min2_int max_two min_two max_three min_three max_four min_four   -- for this text's walks alone
set_option linter.unusedVariables false
set_option linter.unusedSimpArgs false



def errW : Option Int → Value
  | none => .nilIface
  | some c => .iface 0 (.int .i64 c)
theorem errW_none : errW none = .nilIface := rfl
theorem errW_some (c : Int) : errW (some c) = .iface 0 (.int .i64 c) := rfl

theorem info5 : (Try.prog.info? 5).map (fun i => (i.zero, i.size, i.bytes)) = some (some (.int .u8 0), 1, 1) := by kernel_rfl
-- the values' own types

end Go.Proofs.Ytgaidbbfimdogaa.PFnTexts
