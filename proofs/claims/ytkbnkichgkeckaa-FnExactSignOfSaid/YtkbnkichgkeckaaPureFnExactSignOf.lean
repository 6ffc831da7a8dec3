/- The law FnExactSignOf returns true for every list (reach and kinds as the row says); no condition of ours. -/
import Derived.Test.YtkbnkichgkeckaaQFnExactSignOfx3
import Derived.Test.YtkbnkichgkeckaaMth
import Derived.Test.YtkbnkichgkeckaaMthPerm
import Derived.Test.YtkbnkichgkeckaaMthPermRank
set_option linter.unusedVariables false
set_option linter.unusedSimpArgs false
namespace Go.Proofs.Ytkbnkichgkeckaa.Pure
open Go.RowKit Go.Proofs.Ytkbnkichgkeckaa.Mth Go.Proofs.Ytkbnkichgkeckaa.PFnExactSignOf Go.Proofs.YtkbnkichgkeckaaW.PrintWords Go.Proofs.YtkbnkichgkeckaaW.PrintLast

theorem laws_toIntS_ev (l : List Int) (hl : l.length ≤ 1048576) : Ev (fun k => laws_toIntS.f k l) l := by
  unfold laws_toIntS.f
  refine ev_pos (by omega) (ev_pos (by omega) ?_)
  refine range_all (l := l) (by omega) (fun pre suf => Ev (fun k => laws_toIntS.l0 k l (pre ++ List.replicate suf.length 0) (pre.length : Int)) l) ?_ ?_
  · refine ev_shift ?_
    simp only [laws_toIntS.l0]
    exact ev_neg (by omega) (ev_some (by simp))
  · intro pre x suf h hx h1 h2 h3 ih
    refine ev_shift ?_
    simp only [laws_toIntS.l0, hx, h3, List.length_cons, List.replicate_succ, set_at]
    refine ev_pos h1 (ev_pos h2 (ev_pos (by simp; omega) ?_))
    simpa using ih
theorem laws_eqIntS_ev (l : List Int) (hl : l.length ≤ 9000000000000000000) : Ev (fun k => laws_eqIntS.f k l l) true := by
  unfold laws_eqIntS.f
  refine ev_pos rfl ?_
  refine range_all hl (fun pre suf => Ev (fun k => laws_eqIntS.l0 k l l (pre.length : Int)) true) ?_ ?_
  · refine ev_shift ?_
    simp only [laws_eqIntS.l0]
    exact ev_neg (by omega) (ev_some rfl)
  · intro pre x suf h hx h1 h2 h3 ih
    refine ev_shift ?_
    simp only [laws_eqIntS.l0, h3]
    exact ev_pos h1 (ev_pos h2 (ev_pos h1 (ev_pos (by trivial) ih)))
theorem spec_raInversions_l1 (l : List Int) (hl : l.length ≤ 12) (out : List Int) (x : Int) (i : Nat) (ys : List Int) (hys : ys.length ≤ 12) (ho : out.length ≤ 12) (R : List Int)
    (hk : Ev (fun k => spec_raInversions.l0 k l (out ++ [(cntGt x ys : Int)]) l (l.length : Int) (wrap64 ((i : Int) + 1))) R) :
    ∀ suf pre, ys = pre ++ suf → ∀ c : Nat, c + cntGt x suf = cntGt x ys → c ≤ 100 → Ev (fun k => spec_raInversions.l1 k l out x (c : Int) l (l.length : Int) (i : Int) ys (ys.length : Int) (pre.length : Int)) R := by
  refine range_ind (by omega) (fun pre suf => ∀ c : Nat, c + cntGt x suf = cntGt x ys → c ≤ 100 → Ev (fun k => spec_raInversions.l1 k l out x (c : Int) l (l.length : Int) (i : Int) ys (ys.length : Int) (pre.length : Int)) R) ?_ ?_
  · intro c hc _
    refine ev_shift ?_
    simp only [spec_raInversions.l1]
    have : c = cntGt x ys := by simpa [cntGt_nil, cntGt_cons] using hc
    subst this
    exact ev_neg (by omega) (ev_pos (by omega) hk)
  · intro pre y suf h hx h1 h2 h3 ihl c hc hc2
    have hct := cntGt_le x ys
    refine ev_shift ?_
    simp only [spec_raInversions.l1, hx, h3]
    refine ev_pos h1 (ev_pos h2 (ev_pos h1 ?_))
    simp only [cntGt_nil, cntGt_cons] at hc
    by_cases hy : y > x
    · rw [if_pos hy] at hc
      refine ev_pos hy ?_
      have e3 : wrap64 ((c : Int) + 1) = ((c + 1 : Nat) : Int) := by rw [w64 (by omega) (by omega)]; omega
      rw [e3]; clear e3 h3
      exact ihl (c + 1) (by omega) (by omega)
    · rw [if_neg hy] at hc
      clear h3
      exact ev_neg hy (ihl c (by omega) hc2)
theorem spec_raInversions_ev (l : List Int) (hl : l.length ≤ 12) : Ev (fun k => spec_raInversions.f k l) (invF [] l) := by
  have key : ∀ suf pre, l = pre ++ suf → ∀ out : List Int, out.length = pre.length → Ev (fun k => spec_raInversions.l0 k l out l (l.length : Int) (pre.length : Int)) (out ++ invF pre suf) := by
    refine range_ind (by omega) (fun pre suf => ∀ out : List Int, out.length = pre.length → Ev (fun k => spec_raInversions.l0 k l out l (l.length : Int) (pre.length : Int)) (out ++ invF pre suf)) ?_ ?_
    · intro out _
      refine ev_shift ?_
      simp only [spec_raInversions.l0]
      exact ev_neg (by omega) (ev_some (by simp [invF]))
    · intro pre x suf h hx h1 h2 h3 ihl out ho
      have hlen : l.length = pre.length + suf.length + 1 := by rw [h]; simp; omega
      have htake : l.take (pre.length : Int).toNat = pre := by rw [h, Int.toNat_natCast, List.take_left' rfl]
      refine ev_shift ?_
      simp only [spec_raInversions.l0, hx, htake]
      refine ev_pos h1 (ev_pos h2 (ev_pos h1 (ev_pos (by omega) ?_)))
      refine spec_raInversions_l1 l hl out x pre.length pre (by omega) (by omega) _ ?_ pre [] rfl 0 (by omega) (by omega)
      rw [h3]
      have := ihl (out ++ [(cntGt x pre : Int)]) (by simp [ho])
      simpa [invF] using this
  have := key l [] rfl [] rfl
  simpa [spec_raInversions.f] using this
theorem impl_inversions_l1 (l : List Int) (hl : l.length ≤ 12) (out : List Int) (x : Int) (i : Nat) (ys : List Int) (hys : ys.length ≤ 12) (ho : out.length ≤ 12) (R : List Int)
    (hk : Ev (fun k => impl_inversions.l0 k l (out ++ [(cntGt x ys : Int)]) l (l.length : Int) (wrap64 ((i : Int) + 1))) R) :
    ∀ suf pre, ys = pre ++ suf → ∀ c : Nat, c + cntGt x suf = cntGt x ys → c ≤ 100 → Ev (fun k => impl_inversions.l1 k l out x (c : Int) l (l.length : Int) (i : Int) ys (ys.length : Int) (pre.length : Int)) R := by
  refine range_ind (by omega) (fun pre suf => ∀ c : Nat, c + cntGt x suf = cntGt x ys → c ≤ 100 → Ev (fun k => impl_inversions.l1 k l out x (c : Int) l (l.length : Int) (i : Int) ys (ys.length : Int) (pre.length : Int)) R) ?_ ?_
  · intro c hc _
    refine ev_shift ?_
    simp only [impl_inversions.l1]
    have : c = cntGt x ys := by simpa [cntGt_nil, cntGt_cons] using hc
    subst this
    exact ev_neg (by omega) (ev_pos (by omega) hk)
  · intro pre y suf h hx h1 h2 h3 ihl c hc hc2
    have hct := cntGt_le x ys
    refine ev_shift ?_
    simp only [impl_inversions.l1, hx, h3]
    refine ev_pos h1 (ev_pos h2 (ev_pos h1 ?_))
    simp only [cntGt_nil, cntGt_cons] at hc
    by_cases hy : y > x
    · rw [if_pos hy] at hc
      refine ev_pos hy ?_
      have e3 : wrap64 ((c : Int) + 1) = ((c + 1 : Nat) : Int) := by rw [w64 (by omega) (by omega)]; omega
      rw [e3]; clear e3 h3
      exact ihl (c + 1) (by omega) (by omega)
    · rw [if_neg hy] at hc
      clear h3
      exact ev_neg hy (ihl c (by omega) hc2)
theorem impl_inversions_ev (l : List Int) (hl : l.length ≤ 12) : Ev (fun k => impl_inversions.f k l) (invF [] l) := by
  have key : ∀ suf pre, l = pre ++ suf → ∀ out : List Int, out.length = pre.length → Ev (fun k => impl_inversions.l0 k l out l (l.length : Int) (pre.length : Int)) (out ++ invF pre suf) := by
    refine range_ind (by omega) (fun pre suf => ∀ out : List Int, out.length = pre.length → Ev (fun k => impl_inversions.l0 k l out l (l.length : Int) (pre.length : Int)) (out ++ invF pre suf)) ?_ ?_
    · intro out _
      refine ev_shift ?_
      simp only [impl_inversions.l0]
      exact ev_neg (by omega) (ev_some (by simp [invF]))
    · intro pre x suf h hx h1 h2 h3 ihl out ho
      have hlen : l.length = pre.length + suf.length + 1 := by rw [h]; simp; omega
      have htake : l.take (pre.length : Int).toNat = pre := by rw [h, Int.toNat_natCast, List.take_left' rfl]
      refine ev_shift ?_
      simp only [impl_inversions.l0, hx, htake]
      refine ev_pos h1 (ev_pos h2 (ev_pos h1 (ev_pos (by omega) ?_)))
      refine impl_inversions_l1 l hl out x pre.length pre (by omega) (by omega) _ ?_ pre [] rfl 0 (by omega) (by omega)
      rw [h3]
      have := ihl (out ++ [(cntGt x pre : Int)]) (by simp [ho])
      simpa [invF] using this
  have := key l [] rfl [] rfl
  simpa [impl_inversions.f] using this
theorem spec_l1In_eq (a b c : Int) : spec_l1In.f a b c = some (inR a b c) := in_ite a b c
theorem spec_l1Has_ev (l : List Int) (x : Int) (hl : l.length ≤ 9000000000000000000) : Ev (fun k => spec_l1Has.f k l x) (l.contains x) := by
  refine range_all hl (fun pre suf => Ev (fun k => spec_l1Has.l0 k x l (l.length : Int) (pre.length : Int)) (suf.contains x)) ?_ ?_
  · refine ev_shift ?_
    simp only [spec_l1Has.l0]
    exact ev_neg (by omega) (ev_some rfl)
  · intro pre y suf h hx h1 h2 h3 ih
    refine ev_shift ?_
    simp only [spec_l1Has.l0, hx, h3]
    refine ev_pos h1 (ev_pos h2 (ev_pos h1 ?_))
    by_cases e : y = x
    · exact ev_pos e (ev_some (by simp [e]))
    · refine ev_neg e ?_
      have : (y :: suf).contains x = suf.contains x := by simp [Ne.symm e]
      rw [this]; exact ih
theorem spec_raPermutation_ev (l : List Int) (hl : l.length ≤ 9000000000000000000) : Ev (fun k => spec_raPermutation.f k l) (isPermB l) := by
  rw [← raPerm_eq]
  have key : ∀ suf pre, l = pre ++ suf → pre.length ≤ 12 → Ev (fun k => spec_raPermutation.l0 k l l (l.length : Int) (pre.length : Int)) (decide (l.length ≤ 12) && raPermF (l.length : Int) pre suf) := by
    refine range_ind hl (fun pre suf => pre.length ≤ 12 → Ev (fun k => spec_raPermutation.l0 k l l (l.length : Int) (pre.length : Int)) (decide (l.length ≤ 12) && raPermF (l.length : Int) pre suf)) ?_ ?_
    · intro hp
      refine ev_shift ?_
      simp only [spec_raPermutation.l0]
      exact ev_neg (by omega) (ev_some (by rw [decide_eq_true hp]; rfl))
    · intro pre x suf h hx h1 h2 h3 ih hp
      have htake : l.take (pre.length : Int).toNat = pre := by rw [h, Int.toNat_natCast, List.take_left' rfl]
      refine ev_shift ?_
      simp only [spec_raPermutation.l0, hx, h3, htake]
      rw [w64 (by omega) (by omega)]
      refine ev_pos h1 (ev_pos h2 (ev_pos h1 ?_))
      by_cases h12 : pre.length < 12
      · refine ev_neg (by omega) (ev_bind0 (spec_l1In_eq _ _ _) ?_)
        simp only [raPermF]
        cases hr : inR x 0 ((l.length : Int) - 1) with
        | false => exact ev_neg (by simp) (ev_some (by simp))
        | true =>
          refine ev_pos rfl (ev_pos (by omega) (ev_bind (spec_l1Has_ev pre x (by omega)) ?_))
          cases hc : pre.contains x with
          | true => exact ev_pos rfl (ev_some (by simp))
          | false =>
            refine ev_neg (by simp) ?_
            have := ih (by simp; omega)
            simpa using this
      · refine ev_pos (by omega) (ev_some ?_)
        rw [decide_eq_false (by omega)]; rfl
  exact key l [] rfl (by simp)
theorem spec_raSign_ev (l : List Int) (hl : l.length ≤ 12) : Ev (fun k => spec_raSign.f k l) (if sumZ (invF [] l) % 2 = 1 then -1 else 1) := by
  unfold spec_raSign.f
  refine ev_bind (spec_raInversions_ev l hl) ?_
  obtain ⟨ys, hys⟩ : ∃ ys, ys = invF [] l := ⟨_, rfl⟩
  have hyl : ys.length ≤ 12 := by rw [hys, invF_length]; exact hl
  have hyr : ∀ c ∈ ys, 0 ≤ c ∧ c ≤ 12 := fun c hc => by rw [hys] at hc; have := invF_range l [] c hc; simp at this; omega
  rw [← hys]
  have hs := sumZ_range ys 12 hyr
  have key : ∀ suf pre, ys = pre ++ suf → ∀ acc : Int, 0 ≤ acc → acc + sumZ suf = sumZ ys → Ev (fun k => spec_raSign.l0 k acc ys (ys.length : Int) (pre.length : Int)) (if sumZ ys % 2 = 1 then -1 else 1) := by
    refine range_ind (by omega) (fun pre suf => ∀ acc : Int, 0 ≤ acc → acc + sumZ suf = sumZ ys → Ev (fun k => spec_raSign.l0 k acc ys (ys.length : Int) (pre.length : Int)) (if sumZ ys % 2 = 1 then -1 else 1)) ?_ ?_
    · intro acc h0 ha
      simp only [sumZ] at ha
      refine ev_shift ?_
      simp only [spec_raSign.l0]
      rw [Int.tmod_eq_emod_of_nonneg h0]
      refine ev_neg (by omega) ?_
      have : acc = sumZ ys := by omega
      rw [this]
      by_cases h2 : sumZ ys % 2 = 1
      · simp only [if_pos h2]; exact ev_some rfl
      · simp only [if_neg h2]; exact ev_some rfl
    · intro pre x suf h hx h1 h2 h3 ihl acc h0 ha
      simp only [sumZ] at ha
      have hx0 := hyr x (by rw [h]; simp)
      have hs2 := sumZ_range suf 12 (fun c hc => hyr c (by rw [h]; simp [hc]))
      have hsl : suf.length ≤ 12 := by rw [h] at hyl; simp at hyl; omega
      refine ev_shift ?_
      simp only [spec_raSign.l0, hx, h3]
      rw [w64 (by omega) (by omega)]
      exact ev_pos h1 (ev_pos h2 (ev_pos h1 (ihl (acc + x) (by omega) (by omega))))
  exact key ys [] rfl 0 (by omega) (by omega)
theorem impl_sign_ev (l : List Int) (hl : l.length ≤ 12) : Ev (fun k => impl_sign.f k l) (if sumZ (invF [] l) % 2 = 1 then -1 else 1) := by
  unfold impl_sign.f
  refine ev_bind (impl_inversions_ev l hl) ?_
  obtain ⟨ys, hys⟩ : ∃ ys, ys = invF [] l := ⟨_, rfl⟩
  have hyl : ys.length ≤ 12 := by rw [hys, invF_length]; exact hl
  have hyr : ∀ c ∈ ys, 0 ≤ c ∧ c ≤ 12 := fun c hc => by rw [hys] at hc; have := invF_range l [] c hc; simp at this; omega
  rw [← hys]
  have hs := sumZ_range ys 12 hyr
  have key : ∀ suf pre, ys = pre ++ suf → ∀ acc : Int, 0 ≤ acc → acc + sumZ suf = sumZ ys → Ev (fun k => impl_sign.l0 k acc ys (ys.length : Int) (pre.length : Int)) (if sumZ ys % 2 = 1 then -1 else 1) := by
    refine range_ind (by omega) (fun pre suf => ∀ acc : Int, 0 ≤ acc → acc + sumZ suf = sumZ ys → Ev (fun k => impl_sign.l0 k acc ys (ys.length : Int) (pre.length : Int)) (if sumZ ys % 2 = 1 then -1 else 1)) ?_ ?_
    · intro acc h0 ha
      simp only [sumZ] at ha
      refine ev_shift ?_
      simp only [impl_sign.l0]
      rw [Int.tmod_eq_emod_of_nonneg h0, w64 (x := 2 * (acc % 2)) (by omega) (by omega), w64 (x := 1 - 2 * (acc % 2)) (by omega) (by omega)]
      refine ev_neg (by omega) (ev_some ?_)
      have : acc = sumZ ys := by omega
      rw [this]
      by_cases h2 : sumZ ys % 2 = 1
      · rw [if_pos h2, h2]; rfl
      · rw [if_neg h2, show sumZ ys % 2 = 0 by omega]; rfl
    · intro pre x suf h hx h1 h2 h3 ihl acc h0 ha
      simp only [sumZ] at ha
      have hx0 := hyr x (by rw [h]; simp)
      have hs2 := sumZ_range suf 12 (fun c hc => hyr c (by rw [h]; simp [hc]))
      have hsl : suf.length ≤ 12 := by rw [h] at hyl; simp at hyl; omega
      refine ev_shift ?_
      simp only [impl_sign.l0, hx, h3]
      rw [w64 (by omega) (by omega)]
      exact ev_pos h1 (ev_pos h2 (ev_pos h1 (ihl (acc + x) (by omega) (by omega))))
  exact key ys [] rfl 0 (by omega) (by omega)
theorem FnExactSignOf : laws_FnExactSignOf.Pure := by
  intro l hl1 hl2 hl
  apply ev_le
  unfold laws_FnExactSignOf.f
  by_cases hb : (l.length : Int) > 1048576
  · exact ev_pos hb (ev_some rfl)
  have hs : Ev (fun k => spec_SignOf.f k l) (signPm l) := by
    unfold spec_SignOf.f signPm
    refine ev_bind (spec_raPermutation_ev l (by omega)) ?_
    by_cases h : isPermB l = true
    · rw [if_pos h]; exact ev_pos h (ev_bind (spec_raSign_ev l (isPermB_iff.1 h).1) (ev_some rfl))
    · rw [if_neg h]; exact ev_neg h (ev_some rfl)
  have hi : Ev (fun k => impl_SignOf.f k l) (signPm l) := by
    unfold impl_SignOf.f signPm
    refine ev_bind0 (g := impl_IsPermutation.f l) rfl ?_
    by_cases h : isPermB l = true
    · rw [if_pos h]; exact ev_pos h (ev_bind (impl_sign_ev l (isPermB_iff.1 h).1) (ev_some rfl))
    · rw [if_neg h]; exact ev_neg h (ev_some rfl)
  generalize signPm l = p at hs hi
  obtain ⟨out, ok⟩ := p
  refine ev_neg hb ?_
  repeat (first
      | exact ev_some rfl
      | refine ev_bind (laws_toIntS_ev _ (by omega)) ?_
      | refine ev_bind (laws_eqIntS_ev _ (by omega)) ?_
      | refine ev_bind hs ?_
      | refine ev_bind hi ?_
      | refine ev_pos rfl ?_
      | refine ev_pos trivial ?_
      | refine ev_neg neq_self ?_
      | dsimp only
      | refine ev_neg (by omega) ?_
      | (refine ev_shift ?_; simp only [laws_FnExactSignOf.j0]))

end Go.Proofs.Ytkbnkichgkeckaa.Pure
