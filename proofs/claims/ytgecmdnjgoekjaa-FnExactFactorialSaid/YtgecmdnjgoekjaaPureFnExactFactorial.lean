/- The law FnExactFactorial returns true for every number; no condition of ours. -/
import Derived.Test.YtgecmdnjgoekjaaPFnExactFactorialx1
import Derived.Test.YtgecmdnjgoekjaaMth
import Derived.Test.YtgecmdnjgoekjaaMthFact
set_option linter.unusedVariables false
set_option linter.unusedSimpArgs false
namespace Go.Proofs.Ytgecmdnjgoekjaa.Pure
open Go.RowKit Go.Proofs.Ytgecmdnjgoekjaa.Mth Go.Proofs.Ytgecmdnjgoekjaa.PFnExactFactorial Go.Proofs.YtgecmdnjgoekjaaW.PrintWords Go.Proofs.YtgecmdnjgoekjaaW.PrintLast

theorem spec_l1In_eq (a b c : Int) : spec_l1In.f a b c = some (inR a b c) := in_ite a b c
theorem spec_raItems_eq (a : Int) : spec_raItems.f a = some (inR a 0 12) := by simp only [spec_raItems.f, spec_l1In_eq, Option.bind_some]
theorem spec_raFactorial_ev (n : Nat) (h : n ≤ 12) : Ev (fun k => spec_raFactorial.f k (n : Int)) (fact n : Int) := by
  have t : ∀ m : Fin 13, spec_raFactorial.f 20 ((m.1 : Nat) : Int) = some (fact m.1 : Int) := by decide +kernel
  exact Ev.of (spec_raFactorial.mono _) (t ⟨n, by omega⟩)
theorem impl_within_eq (a b c : Int) : impl_within.f a b c = some (inR a b c) := in_ite a b c
theorem impl_factorial_ev (n : Nat) (h : n ≤ 12) : Ev (fun k => impl_factorial.f k (n : Int)) (fact n : Int) := by
  have t : ∀ m : Fin 13, impl_factorial.f 20 ((m.1 : Nat) : Int) = some (fact m.1 : Int) := by decide +kernel
  exact Ev.of (impl_factorial.mono _) (t ⟨n, by omega⟩)
def factP (n : Int) : Int × Bool := if inR n 0 12 = true then ((fact n.toNat : Int), true) else (0, false)
theorem spec_Factorial_ev (n : Int) : Ev (fun k => spec_Factorial.f k n) (factP n) := by
  unfold spec_Factorial.f factP
  refine ev_bind0 (spec_raItems_eq _) ?_
  by_cases h : inR n 0 12 = true
  · have h' := inR_iff.1 h
    obtain ⟨m, rfl⟩ := Int.eq_ofNat_of_zero_le h'.1
    refine ev_pos h (ev_bind (spec_raFactorial_ev m (by omega)) (ev_some ?_))
    rw [if_pos h]; simp
  · exact ev_neg h (ev_some (by rw [if_neg h]))
theorem impl_Factorial_ev (n : Int) : Ev (fun k => impl_Factorial.f k n) (factP n) := by
  unfold impl_Factorial.f factP
  refine ev_bind0 (impl_within_eq _ _ _) ?_
  by_cases h : inR n 0 12 = true
  · have h' := inR_iff.1 h
    obtain ⟨m, rfl⟩ := Int.eq_ofNat_of_zero_le h'.1
    refine ev_pos h (ev_bind (impl_factorial_ev m (by omega)) (ev_some ?_))
    rw [if_pos h]; simp
  · exact ev_neg h (ev_some (by rw [if_neg h]))
theorem FnExactFactorial : laws_FnExactFactorial.Pure := by
  intro n hn
  apply ev_le
  unfold laws_FnExactFactorial.f
  have hs := spec_Factorial_ev n
  have hi := impl_Factorial_ev n
  repeat (first
      | exact ev_some rfl
      | refine ev_bind hs ?_
      | refine ev_bind hi ?_
      | refine ev_pos rfl ?_
      | refine ev_pos trivial ?_
      | refine ev_neg neq_self ?_
      | dsimp only
      | refine ev_neg (by omega) ?_)

end Go.Proofs.Ytgecmdnjgoekjaa.Pure
