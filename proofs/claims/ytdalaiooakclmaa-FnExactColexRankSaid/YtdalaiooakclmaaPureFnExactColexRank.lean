/- The law FnExactColexRank returns true for every list (reach and kinds as the row says); no condition of ours. -/
import Derived.Test.YtdalaiooakclmaaPFnExactColexRankx3
import Derived.Test.YtdalaiooakclmaaMth
import Derived.Test.YtdalaiooakclmaaMthComb
import Derived.Test.YtdalaiooakclmaaMthPlace
set_option linter.unusedVariables false
set_option linter.unusedSimpArgs false
namespace Go.Proofs.Ytdalaiooakclmaa.Pure
open Go.RowKit Go.Proofs.Ytdalaiooakclmaa.Mth Go.Proofs.Ytdalaiooakclmaa.PFnExactColexRank Go.Proofs.YtdalaiooakclmaaW.PrintWords Go.Proofs.YtdalaiooakclmaaW.PrintLast

theorem laws_toIntS_ev (l : List Int) (hl : l.length ≤ 1048576) : Ev (fun k => laws_toIntS.f k l) l := by
  unfold laws_toIntS.f
  refine ev_pos (by omega) (ev_pos (by omega) ?_)
  refine range_all (l := l) (by omega) (fun pre suf => Ev (fun k => laws_toIntS.l0 k l (pre ++ List.replicate suf.length 0) (pre.length : Int)) l) ?_ ?_
  · refine ev_shift ?_
    simp only [laws_toIntS.l0]
    exact ev_neg (by omega) (ev_some (by simp))
  · intro pre x suf h hx h1 h2 h3 ih
    refine ev_shift ?_
    simp only [laws_toIntS.l0, hx, h3, List.length_cons, List.replicate_succ, set_at]
    refine ev_pos h1 (ev_pos h2 (ev_pos (by simp; omega) ?_))
    simpa using ih
theorem laws_eqIntS_ev (l : List Int) (hl : l.length ≤ 9000000000000000000) : Ev (fun k => laws_eqIntS.f k l l) true := by
  unfold laws_eqIntS.f
  refine ev_pos rfl ?_
  refine range_all hl (fun pre suf => Ev (fun k => laws_eqIntS.l0 k l l (pre.length : Int)) true) ?_ ?_
  · refine ev_shift ?_
    simp only [laws_eqIntS.l0]
    exact ev_neg (by omega) (ev_some rfl)
  · intro pre x suf h hx h1 h2 h3 ih
    refine ev_shift ?_
    simp only [laws_eqIntS.l0, h3]
    exact ev_pos h1 (ev_pos h2 (ev_pos h1 (ev_pos (by trivial) ih)))
theorem spec_l1In_eq (a b c : Int) : spec_l1In.f a b c = some (inR a b c) := in_ite a b c
theorem spec_raItems_eq (a : Int) : spec_raItems.f a = some (inR a 0 12) := by simp only [spec_raItems.f, spec_l1In_eq, Option.bind_some]
theorem spec_l1Rising_ev (l : List Int) (lo hi : Int) (hl : l.length ≤ 9000000000000000000) : Ev (fun k => spec_l1Rising.f k l lo hi) (allIn l lo hi && incr l) := by
  rw [← risF_none]
  have key : ∀ suf pre, l = pre ++ suf → ∀ o : Option Int, (∀ p, o = some p → ∃ q, pre = q ++ [p]) → (o = none → pre = []) → Ev (fun k => spec_l1Rising.l0 k l lo hi l (l.length : Int) (pre.length : Int)) (risF lo hi o suf) := by
    refine range_ind hl (fun pre suf => ∀ o : Option Int, (∀ p, o = some p → ∃ q, pre = q ++ [p]) → (o = none → pre = []) → Ev (fun k => spec_l1Rising.l0 k l lo hi l (l.length : Int) (pre.length : Int)) (risF lo hi o suf)) ?_ ?_
    · intro o _ _
      refine ev_shift ?_
      simp only [spec_l1Rising.l0]
      exact ev_neg (by omega) (ev_some (by cases o <;> rfl))
    · intro pre x suf h hx h1 h2 h3 ih o ho hn
      have ih' := ih (some x) (fun p hp => ⟨pre, by cases hp; rfl⟩) (fun e => by cases e)
      refine ev_shift ?_
      simp only [spec_l1Rising.l0, hx, h3, spec_l1In_eq, Option.bind_some]
      refine ev_pos h1 (ev_pos h2 (ev_pos h1 ?_))
      cases o with
      | none =>
        have := hn rfl
        subst this
        simp only [risF]
        cases inR x lo hi with
        | true => exact ev_pos rfl (ev_neg (by simp) ih')
        | false => exact ev_neg (by simp) (ev_some rfl)
      | some p =>
        obtain ⟨q, hq⟩ := ho p rfl
        have hp := rd_prev q p (x :: suf) (by rw [← hq]; rw [h] at hl; simp at hl ⊢; omega)
        rw [← hq, ← h] at hp
        have hql : pre.length = q.length + 1 := by rw [hq]; simp
        simp only [risF, hp.1, hp.2]
        cases inR x lo hi with
        | false => exact ev_neg (by simp) (ev_some rfl)
        | true =>
          refine ev_pos rfl (ev_pos (by omega) (ev_pos (by omega) (ev_pos (by omega) ?_)))
          by_cases hlt : p < x
          · refine ev_neg (by omega) ?_
            simp only [decide_eq_true hlt, Bool.true_and]
            exact ih'
          · refine ev_pos (by omega) ?_
            simp only [decide_eq_false hlt, Bool.false_and, Bool.and_false]
            exact ev_some rfl
  exact key l [] rfl none (fun p h => by cases h) (fun _ => rfl)
theorem spec_raCombination_ev (n : Int) (l : List Int) (hl : l.length ≤ 9000000000000000000) : Ev (fun k => spec_raCombination.f k n l) (isComb n l) := by
  unfold spec_raCombination.f
  refine ev_bind0 (spec_raItems_eq _) ?_
  by_cases hn : inR n 0 12 = true
  · have hn' := inR_iff.1 hn
    refine ev_pos hn ?_
    rw [w64 (by omega) (by omega)]
    by_cases hlen : (l.length : Int) ≤ n
    · refine ev_pos hlen (ev_bind (spec_l1Rising_ev l 0 (n - 1) hl) (ev_some ?_))
      simp only [isComb, hn, Bool.true_and]
    · refine ev_neg hlen (ev_some ?_)
      cases e : isComb n l with
      | false => rfl
      | true => exact absurd (isComb_len e) hlen
  · refine ev_neg hn (ev_some ?_)
    simp only [Bool.not_eq_true] at hn
    simp only [isComb, hn, Bool.false_and]
theorem spec_l1Own_eq (l : List Int) (h : l.length < 17592186044416) : spec_l1Own.f l = some l := by
  simp only [spec_l1Own.f, Option.bind_some, List.length_nil, Nat.zero_add, List.nil_append]
  rw [if_pos h]
theorem spec_raColex_ev (n : Nat) (hn : n ≤ 12) : ∀ k : Nat, k ≤ 12 → Ev (fun j => spec_raColex.f j (n : Int) (k : Int)) (colL n k) := by
  induction n with
  | zero =>
    intro k hk
    refine ev_shift ?_
    simp only [spec_raColex.f]
    cases k with
    | zero => exact ev_pos rfl (ev_some rfl)
    | succ k => exact ev_neg (by omega) (ev_pos rfl (ev_some rfl))
  | succ n ih =>
    intro k hk
    refine ev_shift ?_
    simp only [spec_raColex.f]
    cases k with
    | zero => exact ev_pos rfl (ev_some rfl)
    | succ k =>
      have e1 : wrap64 (((n + 1 : Nat) : Int) - 1) = (n : Int) := by rw [w64 (by omega) (by omega)]; omega
      have e2 : wrap64 (((k + 1 : Nat) : Int) - 1) = (k : Int) := by rw [w64 (by omega) (by omega)]; omega
      rw [e1, e2]
      refine ev_neg (by omega) (ev_neg (by omega) (ev_bind (ih (by omega) (k + 1) (by omega)) (ev_bind (ih (by omega) k (by omega)) ?_)))
      rw [colL_succ]
      have hl := colL_length n k
      have hl' := colL_length n (k + 1)
      have b := C_12 k (n := n) (by omega)
      have b' := C_12 (k + 1) (n := n) (by omega)
      have key : ∀ suf pre, colL n k = pre ++ suf → ∀ out : List (List Int), out.length + suf.length ≤ 100000 → Ev (fun j => spec_raColex.l0 j ((n + 1 : Nat) : Int) out (colL n k) ((colL n k).length : Int) (pre.length : Int)) (out ++ suf.map (fun r => r ++ [(n : Int)])) := by
        refine rangeL_ind (by omega) (fun pre suf => ∀ out : List (List Int), out.length + suf.length ≤ 100000 → Ev (fun j => spec_raColex.l0 j ((n + 1 : Nat) : Int) out (colL n k) ((colL n k).length : Int) (pre.length : Int)) (out ++ suf.map (fun r => r ++ [(n : Int)]))) ?_ ?_
        · intro out _
          refine ev_shift ?_
          simp only [spec_raColex.l0]
          exact ev_neg (by omega) (ev_some (by simp))
        · intro pre r suf h hx h1 h2 h3 ih out ho
          simp only [List.length_cons] at ho
          have hr : r.length = k := colL_mem_length (n := n) (by rw [h]; simp)
          have e : rd_L1 (colL n k) (pre.length : Int) = r := hx
          refine ev_shift ?_
          simp only [spec_raColex.l0, e, h3, e1, spec_l1Own_eq r (by omega), Option.bind_some]
          refine ev_pos h1 (ev_pos h2 (ev_pos h1 (ev_pos (by omega) (ev_pos (by omega) ?_))))
          have := ih (out ++ [r ++ [(n : Int)]]) (by simp; omega)
          simpa using this
      exact key _ [] rfl _ (by omega)
theorem spec_l1Same_ev (a b : List Int) (hl : a.length ≤ 9000000000000000000) : Ev (fun k => spec_l1Same.f k a b) (decide (a = b)) := by
  unfold spec_l1Same.f
  by_cases hlen : (a.length : Int) = (b.length : Int)
  · refine ev_pos hlen ?_
    have key : ∀ suf pre, a = pre ++ suf → ∀ s : List Int, b = pre ++ s → Ev (fun k => spec_l1Same.l0 k a b (a.length : Int) (pre.length : Int)) (decide (suf = s)) := by
      refine range_ind hl (fun pre suf => ∀ s : List Int, b = pre ++ s → Ev (fun k => spec_l1Same.l0 k a b (a.length : Int) (pre.length : Int)) (decide (suf = s))) ?_ ?_
      · intro s hs
        have : s = [] := by
          have := congrArg List.length hs
          rw [List.length_append] at this
          exact List.length_eq_zero_iff.1 (by omega)
        subst this
        refine ev_shift ?_
        simp only [spec_l1Same.l0]
        exact ev_neg (by omega) (ev_some rfl)
      · intro pre x suf hh hx h1 h2 h3 ih s hs
        cases s with
        | nil =>
          have e1 := congrArg List.length hs
          have e2 := congrArg List.length hh
          simp at e1 e2
          omega
        | cons y s =>
          have hrb : rd b (pre.length : Int) = y := by rw [hs]; exact rd_at _ _ _
          refine ev_shift ?_
          simp only [spec_l1Same.l0, hx, h3, hrb]
          refine ev_pos h1 (ev_pos h2 (ev_pos h1 (ev_pos (by omega) ?_)))
          by_cases e : x = y
          · subst e
            refine ev_pos rfl ?_
            have := ih s (by simp [hs])
            have e2 : decide (x :: suf = x :: s) = decide (suf = s) := by simp
            rw [e2]; exact this
          · refine ev_neg e (ev_some ?_)
            rw [eq_comm, decide_eq_false_iff_not]
            intro c; exact e (List.cons.inj c).1
    exact key a [] rfl b rfl
  · refine ev_neg hlen (ev_some ?_)
    rw [eq_comm, decide_eq_false_iff_not]
    intro c; subst c; exact hlen rfl
theorem spec_raPlace_ev (A : List (List Int)) (l : List Int) (hA : A.length ≤ 1000000) (hr : ∀ r ∈ A, r.length ≤ 1000000) : Ev (fun k => spec_raPlace.f k A l) (placeI A l) := by
  have key : ∀ suf pre, A = pre ++ suf → plc pre l = pre.length → Ev (fun k => spec_raPlace.l0 k l A (A.length : Int) (pre.length : Int)) (placeI A l) := by
    refine rangeL_ind (by omega) (fun pre suf => plc pre l = pre.length → Ev (fun k => spec_raPlace.l0 k l A (A.length : Int) (pre.length : Int)) (placeI A l)) ?_ ?_
    · intro hp
      refine ev_shift ?_
      simp only [spec_raPlace.l0]
      refine ev_neg (by omega) (ev_some ?_)
      unfold placeI
      rw [if_neg (by omega)]
    · intro pre r suf hh hx h1 h2 h3 ih hp
      have e : rd_L1 A (pre.length : Int) = r := hx
      refine ev_shift ?_
      simp only [spec_raPlace.l0, e, h3]
      refine ev_pos h1 (ev_pos h2 (ev_pos h1 (ev_bind (spec_l1Same_ev r l (by have := hr r (by rw [hh]; simp); omega)) ?_)))
      by_cases er : r = l
      · refine ev_pos (by simp [er]) (ev_some ?_)
        have hpl : plc A l = pre.length := by rw [hh, plc_append, if_neg (by omega)]; simp [plc, er]
        unfold placeI
        rw [hpl, if_pos (by omega)]
      · refine ev_neg (by simp [er]) (ih ?_)
        rw [plc_append, if_neg (by omega)]
        simp [plc, er]
  exact key A [] rfl rfl
theorem impl_within_eq (a b c : Int) : impl_within.f a b c = some (inR a b c) := in_ite a b c
theorem impl_allWithin_ev (l : List Int) (lo hi : Int) (hl : l.length ≤ 9000000000000000000) : Ev (fun k => impl_allWithin.f k l lo hi) (allIn l lo hi) := by
  refine range_all hl (fun pre suf => Ev (fun k => impl_allWithin.l0 k lo hi l (l.length : Int) (pre.length : Int)) (allIn suf lo hi)) ?_ ?_
  · refine ev_shift ?_
    simp only [impl_allWithin.l0]
    exact ev_neg (by omega) (ev_some rfl)
  · intro pre x suf h hx h1 h2 h3 ih
    refine ev_shift ?_
    simp only [impl_allWithin.l0, hx, h3, impl_within_eq, Option.bind_some, allIn_cons]
    refine ev_pos h1 (ev_pos h2 (ev_pos h1 ?_))
    cases inR x lo hi with
    | true => exact ev_pos rfl ih
    | false => exact ev_neg (by simp) (ev_some rfl)
theorem impl_increasing_ev (l : List Int) (hl : l.length ≤ 9000000000000000000) : Ev (fun k => impl_increasing.f k l) (incr l) := by
  cases l with
  | nil =>
    unfold impl_increasing.f
    refine ev_shift ?_
    simp only [impl_increasing.l0]
    exact ev_neg (by simp) (ev_some rfl)
  | cons y r =>
    have key : ∀ suf pre, y :: r = pre ++ suf → ∀ q p, pre = q ++ [p] → Ev (fun k => impl_increasing.l0 k (y :: r) (pre.length : Int)) (incrF p suf) := by
      refine range_ind hl (fun pre suf => ∀ q p, pre = q ++ [p] → Ev (fun k => impl_increasing.l0 k (y :: r) (pre.length : Int)) (incrF p suf)) ?_ ?_
      · intro q p _
        refine ev_shift ?_
        simp only [impl_increasing.l0]
        exact ev_neg (by omega) (ev_some rfl)
      · intro pre x suf h hx h1 h2 h3 ih q p hq
        have hp := rd_prev q p (x :: suf) (by rw [← hq]; rw [h] at hl; simp at hl ⊢; omega)
        rw [← hq, ← h] at hp
        have hql : pre.length = q.length + 1 := by rw [hq]; simp
        refine ev_shift ?_
        simp only [impl_increasing.l0, hx, h3, hp.1, hp.2, incrF]
        refine ev_pos h1 (ev_pos (by omega) (ev_pos (by omega) (ev_pos h2 ?_)))
        by_cases hlt : p < x
        · refine ev_neg (by omega) ?_
          simp only [decide_eq_true hlt, Bool.true_and]
          exact ih pre x rfl
        · refine ev_pos (by omega) ?_
          simp only [decide_eq_false hlt, Bool.false_and]
          exact ev_some rfl
    exact key r [y] rfl [] y rfl
theorem impl_IsCombination_ev (n : Int) (l : List Int) (hl : l.length ≤ 9000000000000000000) : Ev (fun k => impl_IsCombination.f k n l) (isComb n l) := by
  unfold impl_IsCombination.f
  refine ev_bind0 (impl_within_eq _ _ _) ?_
  by_cases hn : inR n 0 12 = true
  · have hn' := inR_iff.1 hn
    refine ev_pos hn ?_
    rw [w64 (by omega) (by omega)]
    refine ev_bind (impl_allWithin_ev l 0 (n - 1) hl) ?_
    simp only [isComb, hn, Bool.true_and]
    cases allIn l 0 (n - 1) with
    | false => exact ev_neg (by simp) (ev_some rfl)
    | true => exact ev_pos rfl (ev_bind (impl_increasing_ev l hl) (ev_some rfl))
  · refine ev_neg hn (ev_some ?_)
    simp only [Bool.not_eq_true] at hn
    simp only [isComb, hn, Bool.false_and]
theorem impl_binomial_ev (n : Nat) (k : Nat) (h : n ≤ 13) (hk : k ≤ 14) : Ev (fun j => impl_binomial.f j (n : Int) (k : Int)) (C n k : Int) := by
  have t : ∀ (a : Fin 14) (b : Fin 15), impl_binomial.f 20 ((a.1 : Nat) : Int) ((b.1 : Nat) : Int) = some (C a.1 b.1 : Int) := by decide +kernel
  exact Ev.of (impl_binomial.mono _ _) (t ⟨n, by omega⟩ ⟨k, by omega⟩)
theorem impl_colexRank_ev (l : List Int) (hc : ∀ x ∈ l, 0 ≤ x ∧ x < 12) (hl : l.length ≤ 12) : Ev (fun k => impl_colexRank.f k l) (crk 0 l : Int) := by
  have key : ∀ suf pre, l = pre ++ suf → ∀ acc : Nat, acc + 4096 * suf.length ≤ 1000000 → Ev (fun k => impl_colexRank.l0 k (acc : Int) l (l.length : Int) (pre.length : Int)) ((acc + crk pre.length suf : Nat) : Int) := by
    refine range_ind (by omega) (fun pre suf => ∀ acc : Nat, acc + 4096 * suf.length ≤ 1000000 → Ev (fun k => impl_colexRank.l0 k (acc : Int) l (l.length : Int) (pre.length : Int)) ((acc + crk pre.length suf : Nat) : Int)) ?_ ?_
    · intro acc _
      refine ev_shift ?_
      simp only [impl_colexRank.l0]
      exact ev_neg (by omega) (ev_some (by simp [crk]))
    · intro pre x suf hh hx h1 h2 h3 ih acc ha
      have hx0 := hc x (by rw [hh]; simp)
      obtain ⟨y, rfl⟩ := Int.eq_ofNat_of_zero_le hx0.1
      simp only [List.length_cons] at ha
      have b := C_12 (pre.length + 1) (n := y) (by omega)
      have e : ((pre ++ [(y : Int)]).length : Int) = ((pre.length + 1 : Nat) : Int) := by simp
      refine ev_shift ?_
      simp only [impl_colexRank.l0, hx, h3]
      refine ev_pos h1 (ev_pos h2 (ev_pos h1 (ev_bind (by rw [e]; exact impl_binomial_ev y (pre.length + 1) (by omega) (by omega)) ?_)))
      have e4 : wrap64 ((acc : Int) + (C y (pre.length + 1) : Int)) = ((acc + C y (pre.length + 1) : Nat) : Int) := by rw [w64 (by omega) (by omega)]; omega
      rw [e4]
      have := ih (acc + C y (pre.length + 1)) (by omega)
      rw [show (pre ++ [(y : Int)]).length = pre.length + 1 by simp] at this ⊢
      simp only [crk, Int.toNat_natCast]
      rw [← Nat.add_assoc]
      exact this
  have := key l [] rfl 0 (by omega)
  simpa [impl_colexRank.f] using this
theorem spec_ColexRank_ev (l : List Int) (hl : l.length ≤ 9000000000000000000) : Ev (fun k => spec_ColexRank.f k l) (rankX l) := by
  unfold spec_ColexRank.f rankX
  refine ev_bind (spec_raCombination_ev 12 l hl) ?_
  by_cases h : isComb 12 l = true
  · rw [if_pos h]
    have hlen := isComb_len h
    refine ev_pos h (ev_bind (spec_raColex_ev 12 (by omega) l.length (by omega)) (ev_bind (spec_raPlace_ev _ l (by rw [colL_length]; have := C_12 l.length (n := 12) (by omega); omega) (fun r hr => by rw [colL_mem_length hr]; omega)) (ev_some ?_)))
    rw [placeI_colL h]
  · rw [if_neg h]
    exact ev_neg h (ev_some rfl)
theorem impl_ColexRank_ev (l : List Int) (hl : l.length ≤ 9000000000000000000) : Ev (fun k => impl_ColexRank.f k l) (rankX l) := by
  unfold impl_ColexRank.f rankX
  refine ev_bind (impl_IsCombination_ev 12 l hl) ?_
  by_cases h : isComb 12 l = true
  · rw [if_pos h]
    have hlen := isComb_len h
    exact ev_pos h (ev_bind (impl_colexRank_ev l (cmb_range (cmb_of_isComb h)) (by omega)) (ev_some rfl))
  · rw [if_neg h]
    exact ev_neg h (ev_some rfl)
theorem FnExactColexRank : laws_FnExactColexRank.Pure := by
  intro l hl1 hl2 hl
  apply ev_le
  unfold laws_FnExactColexRank.f
  by_cases hb : (l.length : Int) > 1048576
  · exact ev_pos hb (ev_some rfl)
  have hs := spec_ColexRank_ev l (by omega)
  have hi := impl_ColexRank_ev l (by omega)
  generalize rankX l = p at hs hi
  obtain ⟨out, ok⟩ := p
  refine ev_neg hb ?_
  repeat (first
      | exact ev_some rfl
      | refine ev_bind (laws_toIntS_ev _ (by omega)) ?_
      | refine ev_bind (laws_eqIntS_ev _ (by omega)) ?_
      | refine ev_bind hs ?_
      | refine ev_bind hi ?_
      | refine ev_pos rfl ?_
      | refine ev_pos trivial ?_
      | refine ev_neg neq_self ?_
      | dsimp only
      | refine ev_neg (by omega) ?_
      | (refine ev_shift ?_; simp only [laws_FnExactColexRank.j0]))

end Go.Proofs.Ytdalaiooakclmaa.Pure
