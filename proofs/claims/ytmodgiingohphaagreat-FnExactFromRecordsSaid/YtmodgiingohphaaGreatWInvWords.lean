-- Made by a program (words of the kit's print, without the theorems that this seat's texts do not come to: wip/tools/trim.py).
import Derived.Test.YtmodgiingohphaaGreatWInv
import Derived.Test.YtmodgiingohphaaGreatWFootNe
namespace Go.Proofs.YtmodgiingohphaaGreatW.PrintWords
open Go.RowKit
end Go.Proofs.YtmodgiingohphaaGreatW.PrintWords
namespace Go.Proofs.YtmodgiingohphaaGreatW.PrintLast
section
variable {ops : Array Oper} {a : Act} {o og : Oper} {g : Nat} {t : Tmp} {u : Bool}
end
end Go.Proofs.YtmodgiingohphaaGreatW.PrintLast
