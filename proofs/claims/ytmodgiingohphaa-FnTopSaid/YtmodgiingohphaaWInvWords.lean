-- Made by a program (words of the kit's print, without the theorems that this seat's texts do not come to: wip/tools/trim.py).
import Derived.Test.YtmodgiingohphaaWInv
import Derived.Test.YtmodgiingohphaaWFootNe
namespace Go.Proofs.YtmodgiingohphaaW.PrintWords
open Go.RowKit
end Go.Proofs.YtmodgiingohphaaW.PrintWords
namespace Go.Proofs.YtmodgiingohphaaW.PrintLast
section
variable {ops : Array Oper} {a : Act} {o og : Oper} {g : Nat} {t : Tmp} {u : Bool}
end
end Go.Proofs.YtmodgiingohphaaW.PrintLast
