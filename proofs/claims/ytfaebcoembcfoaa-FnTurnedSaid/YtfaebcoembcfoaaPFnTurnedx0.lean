-- Made by a program (the kit's print with additions of this session: wip/tools/patch_print.py, ext.py).
import Derived.Test.YtfaebcoembcfoaaProg
import Derived.Test.YtfaebcoembcfoaaShelf
import Derived.Test.YtfaebcoembcfoaaOpen
import Derived.Test.YtfaebcoembcfoaaShape
import Derived.Below
import Derived.Deep.Draws
import Derived.Deep.AppendLies
import Derived.Maps.AppendAt
import Derived.OwnWalk
import Derived.Laws.BytesArg
import Derived.Laws.MakeOwn
import Derived.Laws.OwnMore
import Derived.Deep.OwnRows
import Derived.Tactics
import Derived.Lib.ConvBytes
import Derived.Laws.Slices
import Derived.WalkKit
import Derived.KernelRfl
import Derived.RowKit3
import Derived.Deep.LoopGhost
import Derived.Deep.QuietTactic
import Derived.BigQuiet
import Derived.WideLaws
import Derived.Deep.DeepCutAuto
import Derived.Deep.CutBlock
import Derived.Deep.RegionHeld3
import Derived.Laws.Rows
import Derived.Lib.AppendStr
import Derived.ArgAppend
import Derived.Laws.IdiomCopy
import Derived.OrdersHeld
import Derived.Laws.BitsLemmas
import Derived.RowKit
import Derived.Test.YtfaebcoembcfoaaWWords
import Derived.Test.YtfaebcoembcfoaaWLast
import Derived.Test.YtfaebcoembcfoaaWTab
import Derived.Test.YtfaebcoembcfoaaWFour
import Derived.Test.YtfaebcoembcfoaaWQPut
import Derived.Test.YtfaebcoembcfoaaWApart
import Derived.Test.YtfaebcoembcfoaaWArr
import Derived.Test.YtfaebcoembcfoaaWZeros
import Derived.Test.YtfaebcoembcfoaaWFoot
import Derived.Test.YtfaebcoembcfoaaWKept
import Derived.Test.YtfaebcoembcfoaaWShare
import Derived.Test.YtfaebcoembcfoaaWN
import Derived.Test.YtfaebcoembcfoaaWFootNe
import Derived.Test.YtfaebcoembcfoaaWAt
import Derived.Test.YtfaebcoembcfoaaWEqStruct
import Derived.Test.YtfaebcoembcfoaaWRepsOne
import Derived.Test.YtfaebcoembcfoaaWInv
import Derived.Test.YtfaebcoembcfoaaWInvWords
import Derived.Test.YtfaebcoembcfoaaWGuard
import Derived.Test.YtfaebcoembcfoaaWNEv
import Derived.Test.YtfaebcoembcfoaaWMore
namespace Go.Proofs.Ytfaebcoembcfoaa.PFnTurned
open Go.RowKit Go.Proofs.YtfaebcoembcfoaaW.PrintWords Go.Proofs.YtfaebcoembcfoaaW.PrintLast Go.Proofs.YtfaebcoembcfoaaW.PrintMore
attribute [local go_sem] max2_int min2_int max_two min_two max_three min_three max_four min_four   -- for this text's walks alone
set_option linter.unusedVariables false
set_option linter.unusedSimpArgs false



def errW : Option Int → Value
  | none => .nilIface
  | some c => .iface 0 (.int .i64 c)
theorem errW_none : errW none = .nilIface := rfl
theorem errW_some (c : Int) : errW (some c) = .iface 0 (.int .i64 c) := rfl

theorem info3 : (Try.prog.info? 3).map (fun i => (i.zero, i.size, i.bytes)) = some (some (.int .i64 0), 1, 8) := by kernel_rfl
theorem info5 : (Try.prog.info? 5).map (fun i => (i.zero, i.size, i.bytes)) = some (some (.int .u8 0), 1, 1) := by kernel_rfl
-- the values' own types

end Go.Proofs.Ytfaebcoembcfoaa.PFnTurned
