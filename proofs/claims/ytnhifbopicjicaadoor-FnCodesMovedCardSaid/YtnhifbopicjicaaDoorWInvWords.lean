/- Words of the kit's print, less the theorems that this claim names nowhere: a printed text, cut by a program of this session. No condition. -/
import Derived.Test.YtnhifbopicjicaaDoorWInv
import Derived.Test.YtnhifbopicjicaaDoorWFootNe
namespace Go.Proofs.YtnhifbopicjicaaDoorW.PrintWords
open Go.RowKit
end Go.Proofs.YtnhifbopicjicaaDoorW.PrintWords
namespace Go.Proofs.YtnhifbopicjicaaDoorW.PrintLast
section
variable {ops : Array Oper} {a : Act} {o og : Oper} {g : Nat} {t : Tmp} {u : Bool}
end
end Go.Proofs.YtnhifbopicjicaaDoorW.PrintLast
