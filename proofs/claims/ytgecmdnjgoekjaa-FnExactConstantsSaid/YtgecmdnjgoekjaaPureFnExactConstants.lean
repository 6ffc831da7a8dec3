/- The law FnExactConstants returns true; no condition. -/
import Derived.Test.YtgecmdnjgoekjaaPFnExactConstantsx1
import Derived.Test.YtgecmdnjgoekjaaMth
set_option linter.unusedVariables false
set_option linter.unusedSimpArgs false
namespace Go.Proofs.Ytgecmdnjgoekjaa.Pure
open Go.RowKit Go.Proofs.Ytgecmdnjgoekjaa.Mth Go.Proofs.Ytgecmdnjgoekjaa.PFnExactConstants Go.Proofs.YtgecmdnjgoekjaaW.PrintWords Go.Proofs.YtgecmdnjgoekjaaW.PrintLast


theorem FnExactConstants : laws_FnExactConstants.Pure := rfl

end Go.Proofs.Ytgecmdnjgoekjaa.Pure
