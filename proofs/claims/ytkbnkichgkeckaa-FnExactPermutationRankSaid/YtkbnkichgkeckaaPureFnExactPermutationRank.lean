/- The law FnExactPermutationRank returns true for every list (reach and kinds as the row says); no condition of ours. -/
import Derived.Test.YtkbnkichgkeckaaQFnExactPermutationRankx3
import Derived.Test.YtkbnkichgkeckaaMth
import Derived.Test.YtkbnkichgkeckaaMthFact
import Derived.Test.YtkbnkichgkeckaaMthPerm
import Derived.Test.YtkbnkichgkeckaaMthPermRank
set_option linter.unusedVariables false
set_option linter.unusedSimpArgs false
namespace Go.Proofs.Ytkbnkichgkeckaa.Pure
open Go.RowKit Go.Proofs.Ytkbnkichgkeckaa.Mth Go.Proofs.Ytkbnkichgkeckaa.PFnExactPermutationRank Go.Proofs.YtkbnkichgkeckaaW.PrintWords Go.Proofs.YtkbnkichgkeckaaW.PrintLast

theorem laws_toIntS_ev (l : List Int) (hl : l.length ≤ 1048576) : Ev (fun k => laws_toIntS.f k l) l := by
  unfold laws_toIntS.f
  refine ev_pos (by omega) (ev_pos (by omega) ?_)
  refine range_all (l := l) (by omega) (fun pre suf => Ev (fun k => laws_toIntS.l0 k l (pre ++ List.replicate suf.length 0) (pre.length : Int)) l) ?_ ?_
  · refine ev_shift ?_
    simp only [laws_toIntS.l0]
    exact ev_neg (by omega) (ev_some (by simp))
  · intro pre x suf h hx h1 h2 h3 ih
    refine ev_shift ?_
    simp only [laws_toIntS.l0, hx, h3, List.length_cons, List.replicate_succ, set_at]
    refine ev_pos h1 (ev_pos h2 (ev_pos (by simp; omega) ?_))
    simpa using ih
theorem laws_eqIntS_ev (l : List Int) (hl : l.length ≤ 9000000000000000000) : Ev (fun k => laws_eqIntS.f k l l) true := by
  unfold laws_eqIntS.f
  refine ev_pos rfl ?_
  refine range_all hl (fun pre suf => Ev (fun k => laws_eqIntS.l0 k l l (pre.length : Int)) true) ?_ ?_
  · refine ev_shift ?_
    simp only [laws_eqIntS.l0]
    exact ev_neg (by omega) (ev_some rfl)
  · intro pre x suf h hx h1 h2 h3 ih
    refine ev_shift ?_
    simp only [laws_eqIntS.l0, h3]
    exact ev_pos h1 (ev_pos h2 (ev_pos h1 (ev_pos (by trivial) ih)))
theorem spec_l1In_eq (a b c : Int) : spec_l1In.f a b c = some (inR a b c) := in_ite a b c
theorem spec_l1Has_ev (l : List Int) (x : Int) (hl : l.length ≤ 9000000000000000000) : Ev (fun k => spec_l1Has.f k l x) (l.contains x) := by
  refine range_all hl (fun pre suf => Ev (fun k => spec_l1Has.l0 k x l (l.length : Int) (pre.length : Int)) (suf.contains x)) ?_ ?_
  · refine ev_shift ?_
    simp only [spec_l1Has.l0]
    exact ev_neg (by omega) (ev_some rfl)
  · intro pre y suf h hx h1 h2 h3 ih
    refine ev_shift ?_
    simp only [spec_l1Has.l0, hx, h3]
    refine ev_pos h1 (ev_pos h2 (ev_pos h1 ?_))
    by_cases e : y = x
    · exact ev_pos e (ev_some (by simp [e]))
    · refine ev_neg e ?_
      have : (y :: suf).contains x = suf.contains x := by simp [Ne.symm e]
      rw [this]; exact ih
theorem spec_raPermutation_ev (l : List Int) (hl : l.length ≤ 9000000000000000000) : Ev (fun k => spec_raPermutation.f k l) (isPermB l) := by
  rw [← raPerm_eq]
  have key : ∀ suf pre, l = pre ++ suf → pre.length ≤ 12 → Ev (fun k => spec_raPermutation.l0 k l l (l.length : Int) (pre.length : Int)) (decide (l.length ≤ 12) && raPermF (l.length : Int) pre suf) := by
    refine range_ind hl (fun pre suf => pre.length ≤ 12 → Ev (fun k => spec_raPermutation.l0 k l l (l.length : Int) (pre.length : Int)) (decide (l.length ≤ 12) && raPermF (l.length : Int) pre suf)) ?_ ?_
    · intro hp
      refine ev_shift ?_
      simp only [spec_raPermutation.l0]
      exact ev_neg (by omega) (ev_some (by rw [decide_eq_true hp]; rfl))
    · intro pre x suf h hx h1 h2 h3 ih hp
      have htake : l.take (pre.length : Int).toNat = pre := by rw [h, Int.toNat_natCast, List.take_left' rfl]
      refine ev_shift ?_
      simp only [spec_raPermutation.l0, hx, h3, htake]
      rw [w64 (by omega) (by omega)]
      refine ev_pos h1 (ev_pos h2 (ev_pos h1 ?_))
      by_cases h12 : pre.length < 12
      · refine ev_neg (by omega) (ev_bind0 (spec_l1In_eq _ _ _) ?_)
        simp only [raPermF]
        cases hr : inR x 0 ((l.length : Int) - 1) with
        | false => exact ev_neg (by simp) (ev_some (by simp))
        | true =>
          refine ev_pos rfl (ev_pos (by omega) (ev_bind (spec_l1Has_ev pre x (by omega)) ?_))
          cases hc : pre.contains x with
          | true => exact ev_pos rfl (ev_some (by simp))
          | false =>
            refine ev_neg (by simp) ?_
            have := ih (by simp; omega)
            simpa using this
      · refine ev_pos (by omega) (ev_some ?_)
        rw [decide_eq_false (by omega)]; rfl
  exact key l [] rfl (by simp)
theorem spec_raFactorial_ev (n : Nat) (h : n ≤ 12) : Ev (fun k => spec_raFactorial.f k (n : Int)) (fact n : Int) := by
  have t : ∀ m : Fin 13, spec_raFactorial.f 20 ((m.1 : Nat) : Int) = some (fact m.1 : Int) := by decide +kernel
  exact Ev.of (spec_raFactorial.mono _) (t ⟨n, by omega⟩)
theorem spec_raRank_ev (l : List Int) (hl : l.length ≤ 12) : Ev (fun k => spec_raRank.f k l) (rankP l : Int) := by
  induction l with
  | nil =>
    refine ev_shift ?_
    simp only [spec_raRank.f]
    exact ev_pos rfl (ev_some (by rw [rankP_nil]; rfl))
  | cons x r ih =>
    simp only [List.length_cons] at hl
    have hrk := rankP_lt (x :: r)
    have hrk2 := rankP_lt r
    have hf := fact_12 (n := (x :: r).length) (by simp; omega)
    have hf2 := fact_12 (n := r.length) (by omega)
    have hcl := cntLt_le x r
    have hmul : cntLt x r * fact r.length ≤ 12 * 479001600 := Nat.mul_le_mul (by omega) hf2
    refine ev_shift ?_
    simp only [spec_raRank.f]
    refine ev_neg (by simp; omega) ?_
    have hr0 : rd (x :: r) 0 = x := rfl
    have key : ∀ suf pre, x :: r = pre ++ suf → ∀ c : Nat, c + cntLt x suf = cntLt x r → c ≤ 100 → Ev (fun k => spec_raRank.l0 k (x :: r) (c : Int) (x :: r) ((x :: r).length : Int) (pre.length : Int)) (rankP (x :: r) : Int) := by
      refine range_ind (by simp; omega) (fun pre suf => ∀ c : Nat, c + cntLt x suf = cntLt x r → c ≤ 100 → Ev (fun k => spec_raRank.l0 k (x :: r) (c : Int) (x :: r) ((x :: r).length : Int) (pre.length : Int)) (rankP (x :: r) : Int)) ?_ ?_
      · intro c hc hc2
        have hc3 : c = cntLt x r := by simpa [cntLt_nil, cntLt_cons] using hc
        subst hc3
        have e1 : wrap64 (((x :: r).length : Int) - 1) = (r.length : Int) := by rw [w64 (by simp only [List.length_cons]; omega) (by simp only [List.length_cons]; omega)]; simp
        refine ev_shift ?_
        simp only [spec_raRank.l0, e1]
        clear e1
        refine ev_neg (by omega) (ev_bind (spec_raFactorial_ev r.length (by omega)) (ev_pos (by simp only [List.length_cons]; omega) (ev_bind (ih (by omega)) (ev_some ?_))))
        have e2 : (cntLt x r : Int) * (fact r.length : Int) = ((cntLt x r * fact r.length : Nat) : Int) := by simp
        rw [e2, w64 (x := ((cntLt x r * fact r.length : Nat) : Int)) (by omega) (by omega), w64 (by omega) (by omega)]
        simp [rankP_nil, rankP_cons]
      · intro pre y suf h hx h1 h2 h3 ihl c hc hc2
        have hlen : (x :: r).length = pre.length + suf.length + 1 := by rw [h]; simp; omega
        have hcs := cntLt_le x suf
        simp only [List.length_cons] at hlen
        refine ev_shift ?_
        simp only [spec_raRank.l0, hx, h3, hr0]
        refine ev_pos h1 (ev_pos h2 (ev_pos h1 (ev_pos (by simp only [List.length_cons]; omega) ?_)))
        simp only [cntLt_cons] at hc
        by_cases hy : y < x
        · rw [if_pos hy] at hc
          refine ev_pos hy ?_
          have e3 : wrap64 ((c : Int) + 1) = ((c + 1 : Nat) : Int) := by rw [w64 (by omega) (by omega)]; omega
          rw [e3]; clear e3 h3
          exact ihl (c + 1) (by omega) (by omega)
        · rw [if_neg hy] at hc
          clear h3
          exact ev_neg hy (ihl c (by omega) hc2)
    exact key (x :: r) [] rfl 0 (by rw [cntLt_cons, if_neg (Int.lt_irrefl x)]; omega) (by omega)
theorem impl_factorial_ev (n : Nat) (h : n ≤ 12) : Ev (fun k => impl_factorial.f k (n : Int)) (fact n : Int) := by
  have t : ∀ m : Fin 13, impl_factorial.f 20 ((m.1 : Nat) : Int) = some (fact m.1 : Int) := by decide +kernel
  exact Ev.of (impl_factorial.mono _) (t ⟨n, by omega⟩)
theorem impl_permutationRank_l1 (l : List Int) (hl : l.length ≤ 12) (rank x : Int) (i : Nat) (ys : List Int) (hys : ys.length ≤ 12) (R : Int) (hk : ∀ c : Nat, c = cntLt x ys → Ev (fun k => (impl_factorial.f k (wrap64 (wrap64 ((l.length : Int) - (i : Int)) - 1))).bind fun t => impl_permutationRank.l0 k l (wrap64 (rank + wrap64 ((c : Int) * t))) l (l.length : Int) (wrap64 ((i : Int) + 1))) R) :
    ∀ suf pre, ys = pre ++ suf → ∀ c : Nat, c + cntLt x suf = cntLt x ys → c ≤ 100 → Ev (fun k => impl_permutationRank.l1 k l rank (i : Int) x (c : Int) l (l.length : Int) (i : Int) ys (ys.length : Int) (pre.length : Int)) R := by
  refine range_ind (by omega) (fun pre suf => ∀ c : Nat, c + cntLt x suf = cntLt x ys → c ≤ 100 → Ev (fun k => impl_permutationRank.l1 k l rank (i : Int) x (c : Int) l (l.length : Int) (i : Int) ys (ys.length : Int) (pre.length : Int)) R) ?_ ?_
  · intro c hc _
    refine ev_shift ?_
    simp only [impl_permutationRank.l1]
    exact ev_neg (by omega) (hk c (by simpa [cntLt_nil, cntLt_cons] using hc))
  · intro pre y suf h hx h1 h2 h3 ihl c hc hc2
    have hct := cntLt_le x ys
    refine ev_shift ?_
    simp only [impl_permutationRank.l1, hx, h3]
    refine ev_pos h1 (ev_pos h2 (ev_pos h1 ?_))
    simp only [cntLt_nil, cntLt_cons] at hc
    by_cases hy : y < x
    · rw [if_pos hy] at hc
      refine ev_pos hy ?_
      have e3 : wrap64 ((c : Int) + 1) = ((c + 1 : Nat) : Int) := by rw [w64 (by omega) (by omega)]; omega
      rw [e3]; clear e3 h3
      exact ihl (c + 1) (by omega) (by omega)
    · rw [if_neg hy] at hc
      clear h3
      exact ev_neg hy (ihl c (by omega) hc2)
theorem impl_permutationRank_ev (l : List Int) (hl : l.length ≤ 12) : Ev (fun k => impl_permutationRank.f k l) (rankP l : Int) := by
  have key : ∀ suf pre, l = pre ++ suf → ∀ rank : Nat, rank + rankP suf = rankP l → Ev (fun k => impl_permutationRank.l0 k l (rank : Int) l (l.length : Int) (pre.length : Int)) (rankP l : Int) := by
    refine range_ind (by omega) (fun pre suf => ∀ rank : Nat, rank + rankP suf = rankP l → Ev (fun k => impl_permutationRank.l0 k l (rank : Int) l (l.length : Int) (pre.length : Int)) (rankP l : Int)) ?_ ?_
    · intro rank hr
      refine ev_shift ?_
      simp only [impl_permutationRank.l0]
      exact ev_neg (by omega) (ev_some (by simp only [rankP_nil, rankP_cons] at hr; omega))
    · intro pre x suf h hx h1 h2 h3 ihl rank hr
      have hlen : l.length = pre.length + suf.length + 1 := by rw [h]; simp; omega
      have hlt := rankP_lt l
      have hf := fact_12 (n := l.length) hl
      have hf2 := fact_12 (n := suf.length) (by omega)
      have hcl := cntLt_le x suf
      have hmul : cntLt x suf * fact suf.length ≤ 12 * 479001600 := Nat.mul_le_mul (by omega) hf2
      have hdrop : l.drop ((pre ++ [x]).length : Int).toNat = suf := by
        rw [h, show pre ++ x :: suf = (pre ++ [x]) ++ suf by simp, Int.toNat_natCast, List.drop_left' rfl]
      refine ev_shift ?_
      simp only [impl_permutationRank.l0, hx, h3, hdrop]
      refine ev_pos h1 (ev_pos h2 (ev_pos h1 (ev_pos (by omega) (ev_pos (by simp; omega) ?_))))
      refine impl_permutationRank_l1 l hl (rank : Int) x pre.length suf (by omega) _ ?_ suf [] rfl 0 (by omega) (by omega)
      intro c hc
      subst hc
      have e1 : wrap64 (wrap64 ((l.length : Int) - (pre.length : Int)) - 1) = (suf.length : Int) := by
        rw [w64 (x := (l.length : Int) - (pre.length : Int)) (by omega) (by omega), w64 (by omega) (by omega)]; omega
      rw [e1, h3]
      refine ev_bind (impl_factorial_ev suf.length (by omega)) ?_
      have e2 : (cntLt x suf : Int) * (fact suf.length : Int) = ((cntLt x suf * fact suf.length : Nat) : Int) := by simp
      simp only [rankP_nil, rankP_cons] at hr
      have e4 : wrap64 ((rank : Int) + wrap64 ((cntLt x suf : Int) * (fact suf.length : Int))) = ((rank + cntLt x suf * fact suf.length : Nat) : Int) := by
        rw [e2, w64 (x := ((cntLt x suf * fact suf.length : Nat) : Int)) (by omega) (by omega), w64 (by omega) (by omega)]; omega
      rw [e4]
      exact ihl _ (by omega)
  exact key l [] rfl 0 (by omega)
theorem FnExactPermutationRank : laws_FnExactPermutationRank.Pure := by
  intro l hl1 hl2 hl
  apply ev_le
  unfold laws_FnExactPermutationRank.f
  by_cases hb : (l.length : Int) > 1048576
  · exact ev_pos hb (ev_some rfl)
  have hs : Ev (fun k => spec_PermutationRank.f k l) (rankPm l) := by
    unfold spec_PermutationRank.f rankPm
    refine ev_bind (spec_raPermutation_ev l (by omega)) ?_
    by_cases h : isPermB l = true
    · rw [if_pos h]; exact ev_pos h (ev_bind (spec_raRank_ev l (isPermB_iff.1 h).1) (ev_some rfl))
    · rw [if_neg h]; exact ev_neg h (ev_some rfl)
  have hi : Ev (fun k => impl_PermutationRank.f k l) (rankPm l) := by
    unfold impl_PermutationRank.f rankPm
    refine ev_bind0 (g := impl_IsPermutation.f l) rfl ?_
    by_cases h : isPermB l = true
    · rw [if_pos h]; exact ev_pos h (ev_bind (impl_permutationRank_ev l (isPermB_iff.1 h).1) (ev_some rfl))
    · rw [if_neg h]; exact ev_neg h (ev_some rfl)
  generalize rankPm l = p at hs hi
  obtain ⟨out, ok⟩ := p
  refine ev_neg hb ?_
  repeat (first
      | exact ev_some rfl
      | refine ev_bind (laws_toIntS_ev _ (by omega)) ?_
      | refine ev_bind (laws_eqIntS_ev _ (by omega)) ?_
      | refine ev_bind hs ?_
      | refine ev_bind hi ?_
      | refine ev_pos rfl ?_
      | refine ev_pos trivial ?_
      | refine ev_neg neq_self ?_
      | dsimp only
      | refine ev_neg (by omega) ?_
      | (refine ev_shift ?_; simp only [laws_FnExactPermutationRank.j0]))

end Go.Proofs.Ytkbnkichgkeckaa.Pure
