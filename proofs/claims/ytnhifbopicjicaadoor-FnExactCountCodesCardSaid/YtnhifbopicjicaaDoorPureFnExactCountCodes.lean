/- The law FnExactCountCodes returns true for every number; no condition of ours. -/
import Derived.Test.YtnhifbopicjicaaDoorQFnExactCountCodesx3
import Derived.Test.YtnhifbopicjicaaDoorMth
set_option linter.unusedVariables false
set_option linter.unusedSimpArgs false
namespace Go.Proofs.YtnhifbopicjicaaDoor.Pure
open Go.RowKit Go.Proofs.YtnhifbopicjicaaDoor.Mth Go.Proofs.YtnhifbopicjicaaDoor.PFnExactCountCodes Go.Proofs.YtnhifbopicjicaaDoorW.PrintWords Go.Proofs.YtnhifbopicjicaaDoorW.PrintLast

theorem spec_l1In_eq (a b c : Int) : spec_l1In.f a b c = some (inR a b c) := in_ite a b c
theorem cc_table : ∀ n : Fin 3, spec_CountCodes.f 120 ((n.1 + 1 : Nat) : Int) = impl_CountCodes.f ((n.1 + 1 : Nat) : Int) := by decide +kernel
theorem cc_less : ∀ n : Fin 3, (cc_all (n.1 + 1) (2 ^ (n.1 + 1) - 1) 0 1 (0, 0)).2 ≤ (cc_all (n.1 + 1) (2 ^ (n.1 + 1) - 1) 0 1 (0, 0)).1 := by decide +kernel
theorem countCodes_both (n : Int) : ∃ r : Int × Int × Bool, impl_CountCodes.f n = some r ∧ Ev (fun k => spec_CountCodes.f k n) r ∧ r.2.1 ≤ r.1 := by
  by_cases h : 1 ≤ n ∧ n ≤ 3
  · obtain ⟨m, rfl⟩ : ∃ m : Nat, n = ((m + 1 : Nat) : Int) := ⟨(n - 1).toNat, by omega⟩
    have hm : m < 3 := by omega
    have h1 := cc_table ⟨m, hm⟩
    have h2 := cc_less ⟨m, hm⟩
    simp only at h1 h2
    unfold impl_CountCodes.f at h1 ⊢
    rw [if_pos h, Int.toNat_natCast] at h1 ⊢
    exact ⟨_, rfl, Ev.of (spec_CountCodes.mono _) h1, h2⟩
  · refine ⟨(0, 0, false), ?_, ?_, Int.le_refl _⟩
    · unfold impl_CountCodes.f
      exact if_neg h
    · unfold spec_CountCodes.f
      refine ev_bind0 (spec_l1In_eq _ _ _) (ev_neg ?_ (ev_some rfl))
      rw [inR_iff]; exact h
theorem FnExactCountCodes : laws_FnExactCountCodes.Pure := by
  intro n hn
  apply ev_le
  unfold laws_FnExactCountCodes.f
  obtain ⟨r, hi, hs, _⟩ := countCodes_both n
  refine ev_bind hs (ev_bind0 hi (ev_pos rfl (ev_pos rfl (ev_neg neq_self (ev_some rfl)))))

end Go.Proofs.YtnhifbopicjicaaDoor.Pure
