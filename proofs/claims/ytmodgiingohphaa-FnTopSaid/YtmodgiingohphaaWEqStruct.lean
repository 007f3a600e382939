-- Made by a program (words of the kit's print, without the theorems that this seat's texts do not come to: wip/tools/trim.py).
import Derived.Test.YtmodgiingohphaaWWords
import Derived.Laws.StructEq
namespace Go.Proofs.YtmodgiingohphaaW.PrintWords
open Go.RowKit
section
variable {P : Program} {d : Nat} {xs ys : Array Value} {f : Field} {fs : List Field} {a b : Value} {r s : Bool} {w : World}
end
end Go.Proofs.YtmodgiingohphaaW.PrintWords
