/- The law FnExactIsCombination returns true for every number and list (reach and kinds as the row says); no condition of ours. -/
import Derived.Test.YtgecmdnjgoekjaaPFnExactIsCombinationx2
import Derived.Test.YtgecmdnjgoekjaaMth
set_option linter.unusedVariables false
set_option linter.unusedSimpArgs false
namespace Go.Proofs.Ytgecmdnjgoekjaa.Pure
open Go.RowKit Go.Proofs.Ytgecmdnjgoekjaa.Mth Go.Proofs.Ytgecmdnjgoekjaa.PFnExactIsCombination Go.Proofs.YtgecmdnjgoekjaaW.PrintWords Go.Proofs.YtgecmdnjgoekjaaW.PrintLast

theorem laws_toIntS_ev (l : List Int) (hl : l.length ≤ 1048576) : Ev (fun k => laws_toIntS.f k l) l := by
  unfold laws_toIntS.f
  refine ev_pos (by omega) (ev_pos (by omega) ?_)
  refine range_all (l := l) (by omega) (fun pre suf => Ev (fun k => laws_toIntS.l0 k l (pre ++ List.replicate suf.length 0) (pre.length : Int)) l) ?_ ?_
  · refine ev_shift ?_
    simp only [laws_toIntS.l0]
    exact ev_neg (by omega) (ev_some (by simp))
  · intro pre x suf h hx h1 h2 h3 ih
    refine ev_shift ?_
    simp only [laws_toIntS.l0, hx, h3, List.length_cons, List.replicate_succ, set_at]
    refine ev_pos h1 (ev_pos h2 (ev_pos (by simp; omega) ?_))
    simpa using ih
theorem laws_eqIntS_ev (l : List Int) (hl : l.length ≤ 9000000000000000000) : Ev (fun k => laws_eqIntS.f k l l) true := by
  unfold laws_eqIntS.f
  refine ev_pos rfl ?_
  refine range_all hl (fun pre suf => Ev (fun k => laws_eqIntS.l0 k l l (pre.length : Int)) true) ?_ ?_
  · refine ev_shift ?_
    simp only [laws_eqIntS.l0]
    exact ev_neg (by omega) (ev_some rfl)
  · intro pre x suf h hx h1 h2 h3 ih
    refine ev_shift ?_
    simp only [laws_eqIntS.l0, h3]
    exact ev_pos h1 (ev_pos h2 (ev_pos h1 (ev_pos (by trivial) ih)))
theorem spec_l1In_eq (a b c : Int) : spec_l1In.f a b c = some (inR a b c) := in_ite a b c
theorem spec_raItems_eq (a : Int) : spec_raItems.f a = some (inR a 0 12) := by simp only [spec_raItems.f, spec_l1In_eq, Option.bind_some]
theorem spec_l1Rising_ev (l : List Int) (lo hi : Int) (hl : l.length ≤ 9000000000000000000) : Ev (fun k => spec_l1Rising.f k l lo hi) (allIn l lo hi && incr l) := by
  rw [← risF_none]
  have key : ∀ suf pre, l = pre ++ suf → ∀ o : Option Int, (∀ p, o = some p → ∃ q, pre = q ++ [p]) → (o = none → pre = []) → Ev (fun k => spec_l1Rising.l0 k l lo hi l (l.length : Int) (pre.length : Int)) (risF lo hi o suf) := by
    refine range_ind hl (fun pre suf => ∀ o : Option Int, (∀ p, o = some p → ∃ q, pre = q ++ [p]) → (o = none → pre = []) → Ev (fun k => spec_l1Rising.l0 k l lo hi l (l.length : Int) (pre.length : Int)) (risF lo hi o suf)) ?_ ?_
    · intro o _ _
      refine ev_shift ?_
      simp only [spec_l1Rising.l0]
      exact ev_neg (by omega) (ev_some (by cases o <;> rfl))
    · intro pre x suf h hx h1 h2 h3 ih o ho hn
      have ih' := ih (some x) (fun p hp => ⟨pre, by cases hp; rfl⟩) (fun e => by cases e)
      refine ev_shift ?_
      simp only [spec_l1Rising.l0, hx, h3, spec_l1In_eq, Option.bind_some]
      refine ev_pos h1 (ev_pos h2 (ev_pos h1 ?_))
      cases o with
      | none =>
        have := hn rfl
        subst this
        simp only [risF]
        cases inR x lo hi with
        | true => exact ev_pos rfl (ev_neg (by simp) ih')
        | false => exact ev_neg (by simp) (ev_some rfl)
      | some p =>
        obtain ⟨q, hq⟩ := ho p rfl
        have hp := rd_prev q p (x :: suf) (by rw [← hq]; rw [h] at hl; simp at hl ⊢; omega)
        rw [← hq, ← h] at hp
        have hql : pre.length = q.length + 1 := by rw [hq]; simp
        simp only [risF, hp.1, hp.2]
        cases inR x lo hi with
        | false => exact ev_neg (by simp) (ev_some rfl)
        | true =>
          refine ev_pos rfl (ev_pos (by omega) (ev_pos (by omega) (ev_pos (by omega) ?_)))
          by_cases hlt : p < x
          · refine ev_neg (by omega) ?_
            simp only [decide_eq_true hlt, Bool.true_and]
            exact ih'
          · refine ev_pos (by omega) ?_
            simp only [decide_eq_false hlt, Bool.false_and, Bool.and_false]
            exact ev_some rfl
  exact key l [] rfl none (fun p h => by cases h) (fun _ => rfl)
theorem spec_raCombination_ev (n : Int) (l : List Int) (hl : l.length ≤ 9000000000000000000) : Ev (fun k => spec_raCombination.f k n l) (isComb n l) := by
  unfold spec_raCombination.f
  refine ev_bind0 (spec_raItems_eq _) ?_
  by_cases hn : inR n 0 12 = true
  · have hn' := inR_iff.1 hn
    refine ev_pos hn ?_
    rw [w64 (by omega) (by omega)]
    by_cases hlen : (l.length : Int) ≤ n
    · refine ev_pos hlen (ev_bind (spec_l1Rising_ev l 0 (n - 1) hl) (ev_some ?_))
      simp only [isComb, hn, Bool.true_and]
    · refine ev_neg hlen (ev_some ?_)
      cases e : isComb n l with
      | false => rfl
      | true => exact absurd (isComb_len e) hlen
  · refine ev_neg hn (ev_some ?_)
    simp only [Bool.not_eq_true] at hn
    simp only [isComb, hn, Bool.false_and]
theorem impl_within_eq (a b c : Int) : impl_within.f a b c = some (inR a b c) := in_ite a b c
theorem impl_allWithin_ev (l : List Int) (lo hi : Int) (hl : l.length ≤ 9000000000000000000) : Ev (fun k => impl_allWithin.f k l lo hi) (allIn l lo hi) := by
  refine range_all hl (fun pre suf => Ev (fun k => impl_allWithin.l0 k lo hi l (l.length : Int) (pre.length : Int)) (allIn suf lo hi)) ?_ ?_
  · refine ev_shift ?_
    simp only [impl_allWithin.l0]
    exact ev_neg (by omega) (ev_some rfl)
  · intro pre x suf h hx h1 h2 h3 ih
    refine ev_shift ?_
    simp only [impl_allWithin.l0, hx, h3, impl_within_eq, Option.bind_some, allIn_cons]
    refine ev_pos h1 (ev_pos h2 (ev_pos h1 ?_))
    cases inR x lo hi with
    | true => exact ev_pos rfl ih
    | false => exact ev_neg (by simp) (ev_some rfl)
theorem impl_increasing_ev (l : List Int) (hl : l.length ≤ 9000000000000000000) : Ev (fun k => impl_increasing.f k l) (incr l) := by
  cases l with
  | nil =>
    unfold impl_increasing.f
    refine ev_shift ?_
    simp only [impl_increasing.l0]
    exact ev_neg (by simp) (ev_some rfl)
  | cons y r =>
    have key : ∀ suf pre, y :: r = pre ++ suf → ∀ q p, pre = q ++ [p] → Ev (fun k => impl_increasing.l0 k (y :: r) (pre.length : Int)) (incrF p suf) := by
      refine range_ind hl (fun pre suf => ∀ q p, pre = q ++ [p] → Ev (fun k => impl_increasing.l0 k (y :: r) (pre.length : Int)) (incrF p suf)) ?_ ?_
      · intro q p _
        refine ev_shift ?_
        simp only [impl_increasing.l0]
        exact ev_neg (by omega) (ev_some rfl)
      · intro pre x suf h hx h1 h2 h3 ih q p hq
        have hp := rd_prev q p (x :: suf) (by rw [← hq]; rw [h] at hl; simp at hl ⊢; omega)
        rw [← hq, ← h] at hp
        have hql : pre.length = q.length + 1 := by rw [hq]; simp
        refine ev_shift ?_
        simp only [impl_increasing.l0, hx, h3, hp.1, hp.2, incrF]
        refine ev_pos h1 (ev_pos (by omega) (ev_pos (by omega) (ev_pos h2 ?_)))
        by_cases hlt : p < x
        · refine ev_neg (by omega) ?_
          simp only [decide_eq_true hlt, Bool.true_and]
          exact ih pre x rfl
        · refine ev_pos (by omega) ?_
          simp only [decide_eq_false hlt, Bool.false_and]
          exact ev_some rfl
    exact key r [y] rfl [] y rfl
theorem impl_IsCombination_ev (n : Int) (l : List Int) (hl : l.length ≤ 9000000000000000000) : Ev (fun k => impl_IsCombination.f k n l) (isComb n l) := by
  unfold impl_IsCombination.f
  refine ev_bind0 (impl_within_eq _ _ _) ?_
  by_cases hn : inR n 0 12 = true
  · have hn' := inR_iff.1 hn
    refine ev_pos hn ?_
    rw [w64 (by omega) (by omega)]
    refine ev_bind (impl_allWithin_ev l 0 (n - 1) hl) ?_
    simp only [isComb, hn, Bool.true_and]
    cases allIn l 0 (n - 1) with
    | false => exact ev_neg (by simp) (ev_some rfl)
    | true => exact ev_pos rfl (ev_bind (impl_increasing_ev l hl) (ev_some rfl))
  · refine ev_neg hn (ev_some ?_)
    simp only [Bool.not_eq_true] at hn
    simp only [isComb, hn, Bool.false_and]
theorem FnExactIsCombination : laws_FnExactIsCombination.Pure := by
  intro n l hn hl1 hl2 hl
  apply ev_le
  unfold laws_FnExactIsCombination.f
  by_cases hb : (l.length : Int) > 1048576
  · exact ev_pos hb (ev_some rfl)
  have hs : Ev (fun k => spec_IsCombination.f k n l) (isComb n l) := by
    unfold spec_IsCombination.f
    exact ev_bind (spec_raCombination_ev n l (by omega)) (ev_some rfl)
  refine ev_neg hb ?_
  repeat (first
      | exact ev_some rfl
      | refine ev_bind (laws_toIntS_ev _ (by omega)) ?_
      | refine ev_bind (laws_eqIntS_ev _ (by omega)) ?_
      | refine ev_bind hs ?_
      | refine ev_bind (impl_IsCombination_ev n l (by omega)) ?_
      | refine ev_pos rfl ?_
      | refine ev_pos trivial ?_
      | refine ev_neg neq_self ?_
      | dsimp only
      | refine ev_neg (by omega) ?_)

end Go.Proofs.Ytgecmdnjgoekjaa.Pure
