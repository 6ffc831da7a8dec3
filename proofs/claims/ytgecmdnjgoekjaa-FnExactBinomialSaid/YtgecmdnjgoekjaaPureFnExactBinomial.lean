/- The law FnExactBinomial returns true for all numbers; no condition of ours. -/
import Derived.Test.YtgecmdnjgoekjaaPFnExactBinomialx1
import Derived.Test.YtgecmdnjgoekjaaMth
import Derived.Test.YtgecmdnjgoekjaaMthComb
set_option linter.unusedVariables false
set_option linter.unusedSimpArgs false
namespace Go.Proofs.Ytgecmdnjgoekjaa.Pure
open Go.RowKit Go.Proofs.Ytgecmdnjgoekjaa.Mth Go.Proofs.Ytgecmdnjgoekjaa.PFnExactBinomial Go.Proofs.YtgecmdnjgoekjaaW.PrintWords Go.Proofs.YtgecmdnjgoekjaaW.PrintLast

theorem spec_l1In_eq (a b c : Int) : spec_l1In.f a b c = some (inR a b c) := in_ite a b c
theorem spec_raItems_eq (a : Int) : spec_raItems.f a = some (inR a 0 12) := by simp only [spec_raItems.f, spec_l1In_eq, Option.bind_some]
theorem spec_raBinomial_ev (n : Nat) (k : Nat) (h : n ≤ 60) (hk : k ≤ 1000000) : Ev (fun j => spec_raBinomial.f j (n : Int) (k : Int)) (C n k : Int) := by
  induction n generalizing k with
  | zero =>
    refine ev_shift ?_
    simp only [spec_raBinomial.f]
    cases k with
    | zero => exact ev_pos rfl (ev_some rfl)
    | succ k => exact ev_neg (by omega) (ev_pos rfl (ev_some rfl))
  | succ n ih =>
    refine ev_shift ?_
    simp only [spec_raBinomial.f]
    cases k with
    | zero => exact ev_pos rfl (ev_some (by rw [C_zero]; rfl))
    | succ k =>
      have e1 : wrap64 (((n + 1 : Nat) : Int) - 1) = (n : Int) := by rw [w64 (by omega) (by omega)]; omega
      have e2 : wrap64 (((k + 1 : Nat) : Int) - 1) = (k : Int) := by rw [w64 (by omega) (by omega)]; omega
      have b1 := Nat.le_trans (C_le n (k + 1)) (Nat.pow_le_pow_right (n := 2) (by omega) (show n ≤ 59 by omega))
      have b2 := Nat.le_trans (C_le n k) (Nat.pow_le_pow_right (n := 2) (by omega) (show n ≤ 59 by omega))
      rw [e1, e2]
      refine ev_neg (by omega) (ev_neg (by omega) (ev_bind (ih (k + 1) (by omega) hk) (ev_bind (ih k (by omega) (by omega)) (ev_some ?_))))
      rw [C_succ, w64 (by omega) (by omega)]; omega
theorem impl_within_eq (a b c : Int) : impl_within.f a b c = some (inR a b c) := in_ite a b c
theorem impl_binomial_ev (n : Nat) (k : Nat) (h : n ≤ 13) (hk : k ≤ 14) : Ev (fun j => impl_binomial.f j (n : Int) (k : Int)) (C n k : Int) := by
  have t : ∀ (a : Fin 14) (b : Fin 15), impl_binomial.f 20 ((a.1 : Nat) : Int) ((b.1 : Nat) : Int) = some (C a.1 b.1 : Int) := by decide +kernel
  exact Ev.of (impl_binomial.mono _ _) (t ⟨n, by omega⟩ ⟨k, by omega⟩)
def binP (n k : Int) : Int × Bool := if inR n 0 12 = true ∧ inR k 0 12 = true then ((C n.toNat k.toNat : Int), true) else (0, false)
theorem spec_Binomial_ev (n k : Int) : Ev (fun j => spec_Binomial.f j n k) (binP n k) := by
  unfold spec_Binomial.f binP
  refine ev_bind0 (spec_raItems_eq _) ?_
  by_cases h : inR n 0 12 = true
  · refine ev_pos h (ev_bind0 (spec_raItems_eq _) ?_)
    by_cases hk : inR k 0 12 = true
    · have h' := inR_iff.1 h
      have hk' := inR_iff.1 hk
      obtain ⟨m, rfl⟩ := Int.eq_ofNat_of_zero_le h'.1
      obtain ⟨i, rfl⟩ := Int.eq_ofNat_of_zero_le hk'.1
      refine ev_pos hk (ev_bind (spec_raBinomial_ev m i (by omega) (by omega)) (ev_some ?_))
      rw [if_pos ⟨h, hk⟩]; simp
    · exact ev_neg hk (ev_some (by rw [if_neg (fun c => hk c.2)]))
  · exact ev_neg h (ev_some (by rw [if_neg (fun c => h c.1)]))
theorem impl_Binomial_ev (n k : Int) : Ev (fun j => impl_Binomial.f j n k) (binP n k) := by
  unfold impl_Binomial.f binP
  refine ev_bind0 (impl_within_eq _ _ _) ?_
  by_cases h : inR n 0 12 = true
  · refine ev_pos h (ev_bind0 (impl_within_eq _ _ _) ?_)
    by_cases hk : inR k 0 12 = true
    · have h' := inR_iff.1 h
      have hk' := inR_iff.1 hk
      obtain ⟨m, rfl⟩ := Int.eq_ofNat_of_zero_le h'.1
      obtain ⟨i, rfl⟩ := Int.eq_ofNat_of_zero_le hk'.1
      refine ev_pos hk (ev_bind (impl_binomial_ev m i (by omega) (by omega)) (ev_some ?_))
      rw [if_pos ⟨h, hk⟩]; simp
    · exact ev_neg hk (ev_some (by rw [if_neg (fun c => hk c.2)]))
  · exact ev_neg h (ev_some (by rw [if_neg (fun c => h c.1)]))
theorem FnExactBinomial : laws_FnExactBinomial.Pure := by
  intro n k hn hk
  apply ev_le
  unfold laws_FnExactBinomial.f
  have hs := spec_Binomial_ev n k
  have hi := impl_Binomial_ev n k
  repeat (first
      | exact ev_some rfl
      | refine ev_bind hs ?_
      | refine ev_bind hi ?_
      | refine ev_pos rfl ?_
      | refine ev_pos trivial ?_
      | refine ev_neg neq_self ?_
      | dsimp only
      | refine ev_neg (by omega) ?_)

end Go.Proofs.Ytgecmdnjgoekjaa.Pure
