/- The law FnExactIsPermutation returns true for every list (reach and kinds as the row says); no condition of ours. -/
import Derived.Test.YtkbnkichgkeckaaQFnExactIsPermutationx2
import Derived.Test.YtkbnkichgkeckaaMth
import Derived.Test.YtkbnkichgkeckaaMthPerm
set_option linter.unusedVariables false
set_option linter.unusedSimpArgs false
namespace Go.Proofs.Ytkbnkichgkeckaa.Pure
open Go.RowKit Go.Proofs.Ytkbnkichgkeckaa.Mth Go.Proofs.Ytkbnkichgkeckaa.PFnExactIsPermutation Go.Proofs.YtkbnkichgkeckaaW.PrintWords Go.Proofs.YtkbnkichgkeckaaW.PrintLast

theorem laws_toIntS_ev (l : List Int) (hl : l.length ≤ 1048576) : Ev (fun k => laws_toIntS.f k l) l := by
  unfold laws_toIntS.f
  refine ev_pos (by omega) (ev_pos (by omega) ?_)
  refine range_all (l := l) (by omega) (fun pre suf => Ev (fun k => laws_toIntS.l0 k l (pre ++ List.replicate suf.length 0) (pre.length : Int)) l) ?_ ?_
  · refine ev_shift ?_
    simp only [laws_toIntS.l0]
    exact ev_neg (by omega) (ev_some (by simp))
  · intro pre x suf h hx h1 h2 h3 ih
    refine ev_shift ?_
    simp only [laws_toIntS.l0, hx, h3, List.length_cons, List.replicate_succ, set_at]
    refine ev_pos h1 (ev_pos h2 (ev_pos (by simp; omega) ?_))
    simpa using ih
theorem laws_eqIntS_ev (l : List Int) (hl : l.length ≤ 9000000000000000000) : Ev (fun k => laws_eqIntS.f k l l) true := by
  unfold laws_eqIntS.f
  refine ev_pos rfl ?_
  refine range_all hl (fun pre suf => Ev (fun k => laws_eqIntS.l0 k l l (pre.length : Int)) true) ?_ ?_
  · refine ev_shift ?_
    simp only [laws_eqIntS.l0]
    exact ev_neg (by omega) (ev_some rfl)
  · intro pre x suf h hx h1 h2 h3 ih
    refine ev_shift ?_
    simp only [laws_eqIntS.l0, h3]
    exact ev_pos h1 (ev_pos h2 (ev_pos h1 (ev_pos (by trivial) ih)))
theorem spec_l1In_eq (a b c : Int) : spec_l1In.f a b c = some (inR a b c) := in_ite a b c
theorem spec_l1Has_ev (l : List Int) (x : Int) (hl : l.length ≤ 9000000000000000000) : Ev (fun k => spec_l1Has.f k l x) (l.contains x) := by
  refine range_all hl (fun pre suf => Ev (fun k => spec_l1Has.l0 k x l (l.length : Int) (pre.length : Int)) (suf.contains x)) ?_ ?_
  · refine ev_shift ?_
    simp only [spec_l1Has.l0]
    exact ev_neg (by omega) (ev_some rfl)
  · intro pre y suf h hx h1 h2 h3 ih
    refine ev_shift ?_
    simp only [spec_l1Has.l0, hx, h3]
    refine ev_pos h1 (ev_pos h2 (ev_pos h1 ?_))
    by_cases e : y = x
    · exact ev_pos e (ev_some (by simp [e]))
    · refine ev_neg e ?_
      have : (y :: suf).contains x = suf.contains x := by simp [Ne.symm e]
      rw [this]; exact ih
theorem spec_raPermutation_ev (l : List Int) (hl : l.length ≤ 9000000000000000000) : Ev (fun k => spec_raPermutation.f k l) (isPermB l) := by
  rw [← raPerm_eq]
  have key : ∀ suf pre, l = pre ++ suf → pre.length ≤ 12 → Ev (fun k => spec_raPermutation.l0 k l l (l.length : Int) (pre.length : Int)) (decide (l.length ≤ 12) && raPermF (l.length : Int) pre suf) := by
    refine range_ind hl (fun pre suf => pre.length ≤ 12 → Ev (fun k => spec_raPermutation.l0 k l l (l.length : Int) (pre.length : Int)) (decide (l.length ≤ 12) && raPermF (l.length : Int) pre suf)) ?_ ?_
    · intro hp
      refine ev_shift ?_
      simp only [spec_raPermutation.l0]
      exact ev_neg (by omega) (ev_some (by rw [decide_eq_true hp]; rfl))
    · intro pre x suf h hx h1 h2 h3 ih hp
      have htake : l.take (pre.length : Int).toNat = pre := by rw [h, Int.toNat_natCast, List.take_left' rfl]
      refine ev_shift ?_
      simp only [spec_raPermutation.l0, hx, h3, htake]
      rw [w64 (by omega) (by omega)]
      refine ev_pos h1 (ev_pos h2 (ev_pos h1 ?_))
      by_cases h12 : pre.length < 12
      · refine ev_neg (by omega) (ev_bind0 (spec_l1In_eq _ _ _) ?_)
        simp only [raPermF]
        cases hr : inR x 0 ((l.length : Int) - 1) with
        | false => exact ev_neg (by simp) (ev_some (by simp))
        | true =>
          refine ev_pos rfl (ev_pos (by omega) (ev_bind (spec_l1Has_ev pre x (by omega)) ?_))
          cases hc : pre.contains x with
          | true => exact ev_pos rfl (ev_some (by simp))
          | false =>
            refine ev_neg (by simp) ?_
            have := ih (by simp; omega)
            simpa using this
      · refine ev_pos (by omega) (ev_some ?_)
        rw [decide_eq_false (by omega)]; rfl
  exact key l [] rfl (by simp)
theorem FnExactIsPermutation : laws_FnExactIsPermutation.Pure := by
  intro l hl1 hl2 hl
  apply ev_le
  unfold laws_FnExactIsPermutation.f
  by_cases hb : (l.length : Int) > 1048576
  · exact ev_pos hb (ev_some rfl)
  have hs : Ev (fun k => spec_IsPermutation.f k l) (isPermB l) := by
    unfold spec_IsPermutation.f
    exact ev_bind (spec_raPermutation_ev l (by omega)) (ev_some rfl)
  have hi : Ev (fun _ => impl_IsPermutation.f l) (isPermB l) := ev_eq rfl
  refine ev_neg hb ?_
  repeat (first
      | exact ev_some rfl
      | refine ev_bind (laws_toIntS_ev _ (by omega)) ?_
      | refine ev_bind (laws_eqIntS_ev _ (by omega)) ?_
      | refine ev_bind hs ?_
      | refine ev_bind hi ?_
      | refine ev_pos rfl ?_
      | refine ev_pos trivial ?_
      | refine ev_neg neq_self ?_
      | dsimp only
      | refine ev_neg (by omega) ?_)

end Go.Proofs.Ytkbnkichgkeckaa.Pure
