/- The law FnExactAllPermutations returns true for every number (kinds as the row says); no condition of ours. -/
import Derived.Test.YtoajkfiighdjpaaQFnExactAllPermutationsx4
import Derived.Test.YtoajkfiighdjpaaMth
set_option linter.unusedVariables false
set_option linter.unusedSimpArgs false
namespace Go.Proofs.Ytoajkfiighdjpaa.Pure
open Go.RowKit Go.Proofs.Ytoajkfiighdjpaa.Mth Go.Proofs.Ytoajkfiighdjpaa.PFnExactAllPermutations Go.Proofs.YtoajkfiighdjpaaW.PrintWords Go.Proofs.YtoajkfiighdjpaaW.PrintLast


theorem FnExactAllPermutations : laws_FnExactAllPermutations.Pure := by
  intro a0 _
  rfl

end Go.Proofs.Ytoajkfiighdjpaa.Pure
