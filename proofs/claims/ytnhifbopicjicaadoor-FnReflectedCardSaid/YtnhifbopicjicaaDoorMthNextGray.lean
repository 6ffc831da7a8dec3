/- Plain facts on the next word of the reflected list. No condition. -/
import Derived.Test.YtnhifbopicjicaaDoorMthCode
set_option linter.unusedVariables false
set_option linter.unusedSimpArgs false
namespace Go.Proofs.YtnhifbopicjicaaDoor.Mth
open Go.RowKit Go.Proofs.YtnhifbopicjicaaDoorW.PrintWords Go.Proofs.YtnhifbopicjicaaDoorW.PrintLast

theorem next_table : ∀ r : Fin 1023, gray (r.1 + 1) = Go.bits .xor .i64 (gray r.1) (shl .i64 1 (Lib.ctz 64 (r.1 + 1) : Int)) ∧ bitOf ((gray r.1).toNat ^^^ (gray (r.1 + 1)).toNat) = (Lib.ctz 64 (r.1 + 1) : Int) := by decide +kernel
def nxR (n w : Int) : Int × Int × Bool := if isW n w = true then (if rkLoop 20 w 0 + 1 = 2 ^ n.toNat then (0, 0, false) else (gray ((rkLoop 20 w 0).toNat + 1), (Lib.ctz 64 ((rkLoop 20 w 0).toNat + 1) : Int), true)) else (0, 0, false)

end Go.Proofs.YtnhifbopicjicaaDoor.Mth
