/- Every exported constant of the program has the value that the document states. No condition. -/
import Derived.Test.YtllakpcmghncoaaPFnExactConstantsx1
import Derived.Test.YtllakpcmghncoaaM
namespace Go.Proofs.Ytllakpcmghncoaa.PureFnExactConstants
open Go.RowKit Go.Proofs.Ytllakpcmghncoaa.PFnExactConstants Go.Proofs.YtllakpcmghncoaaW.PrintWords Go.Proofs.YtllakpcmghncoaaW.PrintLast Go.Proofs.YtllakpcmghncoaaW.PrintMore Go.Proofs.Ytllakpcmghncoaa.M
set_option linter.unusedVariables false
set_option linter.unusedSimpArgs false


theorem law : laws_FnExactConstants.Pure := rfl

end Go.Proofs.Ytllakpcmghncoaa.PureFnExactConstants
namespace Go.Proofs.Ytllakpcmghncoaa.Pure
theorem FnExactConstants : Go.Proofs.Ytllakpcmghncoaa.PFnExactConstants.laws_FnExactConstants.Pure := Go.Proofs.Ytllakpcmghncoaa.PureFnExactConstants.law
end Go.Proofs.Ytllakpcmghncoaa.Pure
