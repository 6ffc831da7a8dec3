/- Words of the kit's print, less the theorems that this claim names nowhere: a printed text, cut by a program of this session. No condition. -/
import Derived.Test.YtnhifbopicjicaaDoorWTab
/-! ### 56. Four, five, six operations that may come up next, in any order -/
namespace Go.Proofs.YtnhifbopicjicaaDoorW.PrintLast
section
variable {P : Program} {ops : Array Oper} {Q : Exit → Act → World → Prop} {md : Region.Mode} {S : World → Prop} {ds : List Nat} {T : Bool × List (List Nat × List Nat)}
end
end Go.Proofs.YtnhifbopicjicaaDoorW.PrintLast
