/- The law FnExactAllCombinations returns true for every two numbers (kinds as the row says); no condition of ours. -/
import Derived.Test.YtoajkfiighdjpaaQFnExactAllCombinationsx3
import Derived.Test.YtoajkfiighdjpaaMth
set_option linter.unusedVariables false
set_option linter.unusedSimpArgs false
namespace Go.Proofs.Ytoajkfiighdjpaa.Pure
open Go.RowKit Go.Proofs.Ytoajkfiighdjpaa.Mth Go.Proofs.Ytoajkfiighdjpaa.PFnExactAllCombinations Go.Proofs.YtoajkfiighdjpaaW.PrintWords Go.Proofs.YtoajkfiighdjpaaW.PrintLast


theorem FnExactAllCombinations : laws_FnExactAllCombinations.Pure := by
  intro a0 a1 _ _
  rfl

end Go.Proofs.Ytoajkfiighdjpaa.Pure
