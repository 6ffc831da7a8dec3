/- Plain facts on factorials. No condition. -/
import Derived.Test.YtnhifbopicjicaaMth
set_option linter.unusedVariables false
set_option linter.unusedSimpArgs false
namespace Go.Proofs.Ytnhifbopicjicaa.Mth
open Go.RowKit Go.Proofs.YtnhifbopicjicaaW.PrintWords Go.Proofs.YtnhifbopicjicaaW.PrintLast

def fact : Nat → Nat
  | 0 => 1
  | n + 1 => (n + 1) * fact n
theorem fact_pos (n : Nat) : 0 < fact n := by
  induction n with
  | zero => decide
  | succ n ih => exact Nat.mul_pos (by omega) ih
theorem fact_mono {n m : Nat} (h : n ≤ m) : fact n ≤ fact m := by
  induction m with
  | zero => have : n = 0 := by omega
            subst this; exact Nat.le_refl _
  | succ m ih =>
    by_cases e : n = m + 1
    · subst e; exact Nat.le_refl _
    · have h1 := ih (by omega)
      have h2 : fact m ≤ (m + 1) * fact m := Nat.le_mul_of_pos_left _ (by omega)
      exact Nat.le_trans h1 h2
theorem fact_12 {n : Nat} (h : n ≤ 12) : fact n ≤ 479001600 := fact_mono h

end Go.Proofs.Ytnhifbopicjicaa.Mth
