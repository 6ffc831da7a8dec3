/- Words of the kit's print, less the theorems that this claim names nowhere: a printed text, cut by a program of this session. No condition. -/
import Derived.Test.YtnhifbopicjicaaDoorWN
/-! ### 52. A row that stays read whatever happens to a block (a set of blocks) doesn't lie there -/
namespace Go.Proofs.YtnhifbopicjicaaDoorW.PrintWords
open Go.RowKit
namespace Kd
section
variable {α : Type} {d : Kd α} {W : World} {g n : Nat} {S ok : Nat → Prop} {A : Option Addr} {ad : Addr} {xs : List α}
end
end Kd
end Go.Proofs.YtnhifbopicjicaaDoorW.PrintWords
