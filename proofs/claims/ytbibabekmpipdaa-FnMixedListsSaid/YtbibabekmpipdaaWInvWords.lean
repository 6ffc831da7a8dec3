/- Words of the kit's print, less the theorems that this claim names nowhere: a printed text, cut by a program of this session. No condition. -/
import Derived.Test.YtbibabekmpipdaaWInv
import Derived.Test.YtbibabekmpipdaaWFootNe
namespace Go.Proofs.YtbibabekmpipdaaW.PrintWords
open Go.RowKit
end Go.Proofs.YtbibabekmpipdaaW.PrintWords
namespace Go.Proofs.YtbibabekmpipdaaW.PrintLast
section
variable {ops : Array Oper} {a : Act} {o og : Oper} {g : Nat} {t : Tmp} {u : Bool}
end
end Go.Proofs.YtbibabekmpipdaaW.PrintLast
