-- Made by a program (the kit's print with additions of this session: wip/tools/patch_print.py, ext.py).
import Derived.Test.YtdcehjmipjikaaaProg
import Derived.Test.YtdcehjmipjikaaaShelf
import Derived.Test.YtdcehjmipjikaaaOpen
import Derived.Test.YtdcehjmipjikaaaMakeCap
import Derived.Below
import Derived.Deep.Draws
import Derived.Deep.AppendLies
import Derived.Maps.AppendAt
import Derived.OwnWalk
import Derived.Laws.BytesArg
import Derived.Laws.MakeOwn
import Derived.Laws.OwnMore
import Derived.Deep.OwnRows
import Derived.Tactics
import Derived.Lib.ConvBytes
import Derived.Laws.Slices
import Derived.WalkKit
import Derived.KernelRfl
import Derived.RowKit3
import Derived.Deep.LoopGhost
import Derived.Deep.QuietTactic
import Derived.BigQuiet
import Derived.WideLaws
import Derived.Deep.DeepCutAuto
import Derived.Deep.CutBlock
import Derived.Deep.RegionHeld3
import Derived.Laws.Rows
import Derived.Lib.AppendStr
import Derived.ArgAppend
import Derived.Laws.IdiomCopy
import Derived.OrdersHeld
import Derived.Laws.BitsLemmas
import Derived.RowKit
import Derived.Test.YtdcehjmipjikaaaWWords
import Derived.Test.YtdcehjmipjikaaaWLast
import Derived.Test.YtdcehjmipjikaaaWTab
import Derived.Test.YtdcehjmipjikaaaWFour
import Derived.Test.YtdcehjmipjikaaaWQPut
import Derived.Test.YtdcehjmipjikaaaWApart
import Derived.Test.YtdcehjmipjikaaaWArr
import Derived.Test.YtdcehjmipjikaaaWZeros
import Derived.Test.YtdcehjmipjikaaaWFoot
import Derived.Test.YtdcehjmipjikaaaWKept
import Derived.Test.YtdcehjmipjikaaaWShare
import Derived.Test.YtdcehjmipjikaaaWN
import Derived.Test.YtdcehjmipjikaaaWFootNe
import Derived.Test.YtdcehjmipjikaaaWAt
import Derived.Test.YtdcehjmipjikaaaWEqStruct
import Derived.Test.YtdcehjmipjikaaaWRepsOne
import Derived.Test.YtdcehjmipjikaaaWInv
import Derived.Test.YtdcehjmipjikaaaWInvWords
import Derived.Test.YtdcehjmipjikaaaWGuard
import Derived.Test.YtdcehjmipjikaaaWNEv
import Derived.Test.YtdcehjmipjikaaaWMore
namespace Go.Proofs.Ytdcehjmipjikaaa.PFnExactUnhex
open Go.RowKit Go.Proofs.YtdcehjmipjikaaaW.PrintWords Go.Proofs.YtdcehjmipjikaaaW.PrintLast Go.Proofs.YtdcehjmipjikaaaW.PrintMore
attribute [local go_sem] max2_int min2_int max_two min_two max_three min_three max_four min_four   -- for this text's walks alone
set_option linter.unusedVariables false
set_option linter.unusedSimpArgs false



def errW : Option Int → Value
  | none => .nilIface
  | some c => .iface 0 (.int .i64 c)
theorem errW_none : errW none = .nilIface := rfl
theorem errW_some (c : Int) : errW (some c) = .iface 0 (.int .i64 c) := rfl

theorem info5 : (Try.prog.info? 5).map (fun i => (i.zero, i.size, i.bytes)) = some (some (.int .u8 0), 1, 1) := by kernel_rfl
-- the values' own types

end Go.Proofs.Ytdcehjmipjikaaa.PFnExactUnhex
