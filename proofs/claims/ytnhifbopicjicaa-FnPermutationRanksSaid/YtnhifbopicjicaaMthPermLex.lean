/- Plain facts on permutations with ranks: their order. No condition. -/
import Derived.Test.YtnhifbopicjicaaMthPermAt
import Derived.Test.YtnhifbopicjicaaMthDigL
set_option linter.unusedVariables false
set_option linter.unusedSimpArgs false
namespace Go.Proofs.Ytnhifbopicjicaa.Mth
open Go.RowKit Go.Proofs.YtnhifbopicjicaaW.PrintWords Go.Proofs.YtnhifbopicjicaaW.PrintLast

theorem atL_lex : ∀ (n : Nat) (l : List Int) (r r' : Nat), l.length = n → l.Pairwise (· < ·) → r < r' → r' < fact n → lexB (atL n l r) (atL n l r') = true
  | 0, l, r, r', _, _, h, h' => by simp [fact] at h'; omega
  | n + 1, l, r, r', hl, hs, h, h' => by
    have hq' : r' / fact n < l.length := by rw [hl]; exact fact_div h'
    have hq : r / fact n < l.length := by rw [hl]; exact fact_div (Nat.lt_trans h h')
    have hle : r / fact n ≤ r' / fact n := Nat.div_le_div_right (by omega)
    rw [atL, atL, getD_of_lt hq, getD_of_lt hq', lexB]
    by_cases e : r / fact n = r' / fact n
    · have hx : l[r / fact n] = l[r' / fact n] := by simp only [e]
      rw [if_pos hx]
      have hm : r % fact n < r' % fact n := by
        have h1 := Nat.div_add_mod r (fact n)
        have h2 := Nat.div_add_mod r' (fact n)
        rw [e] at h1; omega
      rw [e]
      exact atL_lex n _ _ _ (by rw [List.length_eraseIdx_of_lt hq', hl]; rfl) (hs.sublist (List.eraseIdx_sublist _ _)) hm (Nat.mod_lt _ (fact_pos n))
    · have hlt := (List.pairwise_iff_getElem.1 hs) _ _ hq hq' (by omega)
      rw [if_neg (by omega)]
      exact decide_eq_true hlt
theorem atL_isPerm {n r : Nat} (hn : n ≤ 12) (h : r < fact n) : isPermB (atL n (idL n) r) = true := by
  refine isPermB_iff.2 ⟨by rw [atL_length]; exact hn, ?_⟩
  rw [atL_length]
  exact atL_perm n (idL n) r (idL_length n) h

end Go.Proofs.Ytnhifbopicjicaa.Mth
