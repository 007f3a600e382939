-- Made by a program (words of the kit's print, without the theorems that this seat's texts do not come to: wip/tools/trim.py).
import Derived.Test.YtedloekjpkgepaaWInv
import Derived.Test.YtedloekjpkgepaaWFootNe
namespace Go.Proofs.YtedloekjpkgepaaW.PrintWords
open Go.RowKit
end Go.Proofs.YtedloekjpkgepaaW.PrintWords
namespace Go.Proofs.YtedloekjpkgepaaW.PrintLast
section
variable {ops : Array Oper} {a : Act} {o og : Oper} {g : Nat} {t : Tmp} {u : Bool}
end
end Go.Proofs.YtedloekjpkgepaaW.PrintLast
