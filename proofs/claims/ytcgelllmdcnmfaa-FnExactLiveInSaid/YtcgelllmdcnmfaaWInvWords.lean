-- Made by a program (words of the kit's print, without the theorems that this seat's texts do not come to: wip/tools/trim.py).
import Derived.Test.YtcgelllmdcnmfaaWInv
import Derived.Test.YtcgelllmdcnmfaaWFootNe
namespace Go.Proofs.YtcgelllmdcnmfaaW.PrintWords
open Go.RowKit
end Go.Proofs.YtcgelllmdcnmfaaW.PrintWords
namespace Go.Proofs.YtcgelllmdcnmfaaW.PrintLast
section
variable {ops : Array Oper} {a : Act} {o og : Oper} {g : Nat} {t : Tmp} {u : Bool}
end
end Go.Proofs.YtcgelllmdcnmfaaW.PrintLast
