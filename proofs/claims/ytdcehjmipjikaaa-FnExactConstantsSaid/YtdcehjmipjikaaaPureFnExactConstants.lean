/- The program's constants are those that the law names: the law answers true. No condition. -/
import Derived.Test.YtdcehjmipjikaaaPFnExactConstantsx1
import Derived.Test.YtdcehjmipjikaaaGen
namespace Go.Proofs.Ytdcehjmipjikaaa.Pure
open Go.RowKit Go.Proofs.Ytdcehjmipjikaaa.PFnExactConstants Go.Proofs.YtdcehjmipjikaaaW.PrintWords Go.Proofs.YtdcehjmipjikaaaW.PrintLast Go.Proofs.YtdcehjmipjikaaaG

theorem FnExactConstants : laws_FnExactConstants.Pure := rfl

end Go.Proofs.Ytdcehjmipjikaaa.Pure
