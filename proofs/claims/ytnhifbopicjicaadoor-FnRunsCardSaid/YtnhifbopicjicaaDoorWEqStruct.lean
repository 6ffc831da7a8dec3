/- Words of the kit's print, less the theorems that this claim names nowhere: a printed text, cut by a program of this session. No condition. -/
import Derived.Test.YtnhifbopicjicaaDoorWWords
import Derived.Laws.StructEq
/-! ### 53. '==' of structs as_ one Bool -/
namespace Go.Proofs.YtnhifbopicjicaaDoorW.PrintWords
open Go.RowKit
section
variable {P : Program} {d : Nat} {xs ys : Array Value} {f : Field} {fs : List Field} {a b : Value} {r s : Bool} {w : World}
end
end Go.Proofs.YtnhifbopicjicaaDoorW.PrintWords
