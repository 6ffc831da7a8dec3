/- The law FnExactCombinationRank returns true for every number and list (reach and kinds as the row says); no condition of ours. -/
import Derived.Test.YtdalaiooakclmaaPFnExactCombinationRankx3
import Derived.Test.YtdalaiooakclmaaMth
import Derived.Test.YtdalaiooakclmaaMthComb
import Derived.Test.YtdalaiooakclmaaMthPlace
set_option linter.unusedVariables false
set_option linter.unusedSimpArgs false
namespace Go.Proofs.Ytdalaiooakclmaa.Pure
open Go.RowKit Go.Proofs.Ytdalaiooakclmaa.Mth Go.Proofs.Ytdalaiooakclmaa.PFnExactCombinationRank Go.Proofs.YtdalaiooakclmaaW.PrintWords Go.Proofs.YtdalaiooakclmaaW.PrintLast

theorem laws_toIntS_ev (l : List Int) (hl : l.length ≤ 1048576) : Ev (fun k => laws_toIntS.f k l) l := by
  unfold laws_toIntS.f
  refine ev_pos (by omega) (ev_pos (by omega) ?_)
  refine range_all (l := l) (by omega) (fun pre suf => Ev (fun k => laws_toIntS.l0 k l (pre ++ List.replicate suf.length 0) (pre.length : Int)) l) ?_ ?_
  · refine ev_shift ?_
    simp only [laws_toIntS.l0]
    exact ev_neg (by omega) (ev_some (by simp))
  · intro pre x suf h hx h1 h2 h3 ih
    refine ev_shift ?_
    simp only [laws_toIntS.l0, hx, h3, List.length_cons, List.replicate_succ, set_at]
    refine ev_pos h1 (ev_pos h2 (ev_pos (by simp; omega) ?_))
    simpa using ih
theorem laws_eqIntS_ev (l : List Int) (hl : l.length ≤ 9000000000000000000) : Ev (fun k => laws_eqIntS.f k l l) true := by
  unfold laws_eqIntS.f
  refine ev_pos rfl ?_
  refine range_all hl (fun pre suf => Ev (fun k => laws_eqIntS.l0 k l l (pre.length : Int)) true) ?_ ?_
  · refine ev_shift ?_
    simp only [laws_eqIntS.l0]
    exact ev_neg (by omega) (ev_some rfl)
  · intro pre x suf h hx h1 h2 h3 ih
    refine ev_shift ?_
    simp only [laws_eqIntS.l0, h3]
    exact ev_pos h1 (ev_pos h2 (ev_pos h1 (ev_pos (by trivial) ih)))
theorem spec_l1In_eq (a b c : Int) : spec_l1In.f a b c = some (inR a b c) := in_ite a b c
theorem spec_raItems_eq (a : Int) : spec_raItems.f a = some (inR a 0 12) := by simp only [spec_raItems.f, spec_l1In_eq, Option.bind_some]
theorem spec_l1Rising_ev (l : List Int) (lo hi : Int) (hl : l.length ≤ 9000000000000000000) : Ev (fun k => spec_l1Rising.f k l lo hi) (allIn l lo hi && incr l) := by
  rw [← risF_none]
  have key : ∀ suf pre, l = pre ++ suf → ∀ o : Option Int, (∀ p, o = some p → ∃ q, pre = q ++ [p]) → (o = none → pre = []) → Ev (fun k => spec_l1Rising.l0 k l lo hi l (l.length : Int) (pre.length : Int)) (risF lo hi o suf) := by
    refine range_ind hl (fun pre suf => ∀ o : Option Int, (∀ p, o = some p → ∃ q, pre = q ++ [p]) → (o = none → pre = []) → Ev (fun k => spec_l1Rising.l0 k l lo hi l (l.length : Int) (pre.length : Int)) (risF lo hi o suf)) ?_ ?_
    · intro o _ _
      refine ev_shift ?_
      simp only [spec_l1Rising.l0]
      exact ev_neg (by omega) (ev_some (by cases o <;> rfl))
    · intro pre x suf h hx h1 h2 h3 ih o ho hn
      have ih' := ih (some x) (fun p hp => ⟨pre, by cases hp; rfl⟩) (fun e => by cases e)
      refine ev_shift ?_
      simp only [spec_l1Rising.l0, hx, h3, spec_l1In_eq, Option.bind_some]
      refine ev_pos h1 (ev_pos h2 (ev_pos h1 ?_))
      cases o with
      | none =>
        have := hn rfl
        subst this
        simp only [risF]
        cases inR x lo hi with
        | true => exact ev_pos rfl (ev_neg (by simp) ih')
        | false => exact ev_neg (by simp) (ev_some rfl)
      | some p =>
        obtain ⟨q, hq⟩ := ho p rfl
        have hp := rd_prev q p (x :: suf) (by rw [← hq]; rw [h] at hl; simp at hl ⊢; omega)
        rw [← hq, ← h] at hp
        have hql : pre.length = q.length + 1 := by rw [hq]; simp
        simp only [risF, hp.1, hp.2]
        cases inR x lo hi with
        | false => exact ev_neg (by simp) (ev_some rfl)
        | true =>
          refine ev_pos rfl (ev_pos (by omega) (ev_pos (by omega) (ev_pos (by omega) ?_)))
          by_cases hlt : p < x
          · refine ev_neg (by omega) ?_
            simp only [decide_eq_true hlt, Bool.true_and]
            exact ih'
          · refine ev_pos (by omega) ?_
            simp only [decide_eq_false hlt, Bool.false_and, Bool.and_false]
            exact ev_some rfl
  exact key l [] rfl none (fun p h => by cases h) (fun _ => rfl)
theorem spec_raCombination_ev (n : Int) (l : List Int) (hl : l.length ≤ 9000000000000000000) : Ev (fun k => spec_raCombination.f k n l) (isComb n l) := by
  unfold spec_raCombination.f
  refine ev_bind0 (spec_raItems_eq _) ?_
  by_cases hn : inR n 0 12 = true
  · have hn' := inR_iff.1 hn
    refine ev_pos hn ?_
    rw [w64 (by omega) (by omega)]
    by_cases hlen : (l.length : Int) ≤ n
    · refine ev_pos hlen (ev_bind (spec_l1Rising_ev l 0 (n - 1) hl) (ev_some ?_))
      simp only [isComb, hn, Bool.true_and]
    · refine ev_neg hlen (ev_some ?_)
      cases e : isComb n l with
      | false => rfl
      | true => exact absurd (isComb_len e) hlen
  · refine ev_neg hn (ev_some ?_)
    simp only [Bool.not_eq_true] at hn
    simp only [isComb, hn, Bool.false_and]
theorem spec_raAll_l1 (n kk x : Int) (t : List (List Int)) (ht : ∀ r ∈ t, r.length ≤ 12) (htl : t.length ≤ 100000) (R : List (List Int)) : ∀ suf pre, t = pre ++ suf → ∀ out : List (List Int), out.length + suf.length ≤ 100000 →
    Ev (fun k => spec_raAll.l0 k n kk (out ++ suf.map (fun r => x :: r)) (wrap64 (x + 1))) R → Ev (fun k => spec_raAll.l1 k n kk out x t (t.length : Int) (pre.length : Int)) R := by
  refine rangeL_ind (by omega) (fun pre suf => ∀ out : List (List Int), out.length + suf.length ≤ 100000 →
    Ev (fun k => spec_raAll.l0 k n kk (out ++ suf.map (fun r => x :: r)) (wrap64 (x + 1))) R → Ev (fun k => spec_raAll.l1 k n kk out x t (t.length : Int) (pre.length : Int)) R) ?_ ?_
  · intro out _ h
    refine ev_shift ?_
    simp only [spec_raAll.l1]
    refine ev_neg (by omega) ?_
    simpa using h
  · intro pre r suf h hx h1 h2 h3 ih out ho hk
    simp only [List.length_cons] at ho
    have hr : r.length ≤ 12 := ht r (by rw [h]; simp)
    have e : rd_L1 t (pre.length : Int) = r := hx
    refine ev_shift ?_
    simp only [spec_raAll.l1, e, h3, Option.bind_some, List.length_singleton, List.singleton_append]
    refine ev_pos h1 (ev_pos h2 (ev_pos h1 (ev_pos (by omega) (ev_pos (by omega) ?_))))
    refine ih _ (by simp; omega) ?_
    simpa using hk
theorem spec_raAll_ev (j : Nat) (hj : j ≤ 12) : ∀ m f : Nat, f + m ≤ 12 → Ev (fun k => spec_raAll.f k ((f + m : Nat) : Int) (j : Int) (f : Int)) (lexL f m j) := by
  induction j with
  | zero =>
    intro m f _
    refine ev_shift ?_
    simp only [spec_raAll.f]
    exact ev_pos rfl (ev_some (by rw [lexL_zero]))
  | succ j ih =>
    intro m f hm
    refine ev_shift ?_
    simp only [spec_raAll.f]
    refine ev_neg (by omega) ?_
    have e2 : wrap64 (((j + 1 : Nat) : Int) - 1) = (j : Int) := by rw [w64 (by omega) (by omega)]; omega
    have key : ∀ (d f : Nat) (out : List (List Int)), f + d ≤ 12 → out.length + C d (j + 1) ≤ 100000 → Ev (fun k => spec_raAll.l0 k ((f + d : Nat) : Int) ((j + 1 : Nat) : Int) out (f : Int)) (out ++ lexL f d (j + 1)) := by
      intro d
      induction d with
      | zero =>
        intro f out _ _
        refine ev_shift ?_
        simp only [spec_raAll.l0]
        exact ev_neg (by omega) (ev_some (by rw [lexL_none, List.append_nil]))
      | succ d ihd =>
        intro f out hf ho
        rw [C_succ] at ho
        have e1 : wrap64 ((f : Int) + 1) = ((f + 1 : Nat) : Int) := by rw [w64 (by omega) (by omega)]; omega
        have e3 : ((f + (d + 1) : Nat) : Int) = ((f + 1 + d : Nat) : Int) := by omega
        have hl := lexL_length (f + 1) d j
        refine ev_shift ?_
        simp only [spec_raAll.l0]
        rw [e1, e2]
        refine ev_pos (by omega) (ev_bind (by rw [e3]; exact ih (by omega) d (f + 1) (by omega)) ?_)
        refine spec_raAll_l1 _ _ _ (lexL (f + 1) d j) (fun r hr => by rw [lexL_mem_length hr]; omega) (by rw [hl]; have := C_12 j (n := d) (by omega); omega) _ (lexL (f + 1) d j) [] rfl out (by rw [hl]; omega) ?_
        rw [e1, e3, lexL_succ, ← List.append_assoc]
        exact ihd (f + 1) _ (by omega) (by simp [hl]; omega)
    have := key m f [] hm (by have := C_12 (j + 1) (n := m) (by omega); simp; omega)
    simpa using this
theorem spec_l1Same_ev (a b : List Int) (hl : a.length ≤ 9000000000000000000) : Ev (fun k => spec_l1Same.f k a b) (decide (a = b)) := by
  unfold spec_l1Same.f
  by_cases hlen : (a.length : Int) = (b.length : Int)
  · refine ev_pos hlen ?_
    have key : ∀ suf pre, a = pre ++ suf → ∀ s : List Int, b = pre ++ s → Ev (fun k => spec_l1Same.l0 k a b (a.length : Int) (pre.length : Int)) (decide (suf = s)) := by
      refine range_ind hl (fun pre suf => ∀ s : List Int, b = pre ++ s → Ev (fun k => spec_l1Same.l0 k a b (a.length : Int) (pre.length : Int)) (decide (suf = s))) ?_ ?_
      · intro s hs
        have : s = [] := by
          have := congrArg List.length hs
          rw [List.length_append] at this
          exact List.length_eq_zero_iff.1 (by omega)
        subst this
        refine ev_shift ?_
        simp only [spec_l1Same.l0]
        exact ev_neg (by omega) (ev_some rfl)
      · intro pre x suf hh hx h1 h2 h3 ih s hs
        cases s with
        | nil =>
          have e1 := congrArg List.length hs
          have e2 := congrArg List.length hh
          simp at e1 e2
          omega
        | cons y s =>
          have hrb : rd b (pre.length : Int) = y := by rw [hs]; exact rd_at _ _ _
          refine ev_shift ?_
          simp only [spec_l1Same.l0, hx, h3, hrb]
          refine ev_pos h1 (ev_pos h2 (ev_pos h1 (ev_pos (by omega) ?_)))
          by_cases e : x = y
          · subst e
            refine ev_pos rfl ?_
            have := ih s (by simp [hs])
            have e2 : decide (x :: suf = x :: s) = decide (suf = s) := by simp
            rw [e2]; exact this
          · refine ev_neg e (ev_some ?_)
            rw [eq_comm, decide_eq_false_iff_not]
            intro c; exact e (List.cons.inj c).1
    exact key a [] rfl b rfl
  · refine ev_neg hlen (ev_some ?_)
    rw [eq_comm, decide_eq_false_iff_not]
    intro c; subst c; exact hlen rfl
theorem spec_raPlace_ev (A : List (List Int)) (l : List Int) (hA : A.length ≤ 1000000) (hr : ∀ r ∈ A, r.length ≤ 1000000) : Ev (fun k => spec_raPlace.f k A l) (placeI A l) := by
  have key : ∀ suf pre, A = pre ++ suf → plc pre l = pre.length → Ev (fun k => spec_raPlace.l0 k l A (A.length : Int) (pre.length : Int)) (placeI A l) := by
    refine rangeL_ind (by omega) (fun pre suf => plc pre l = pre.length → Ev (fun k => spec_raPlace.l0 k l A (A.length : Int) (pre.length : Int)) (placeI A l)) ?_ ?_
    · intro hp
      refine ev_shift ?_
      simp only [spec_raPlace.l0]
      refine ev_neg (by omega) (ev_some ?_)
      unfold placeI
      rw [if_neg (by omega)]
    · intro pre r suf hh hx h1 h2 h3 ih hp
      have e : rd_L1 A (pre.length : Int) = r := hx
      refine ev_shift ?_
      simp only [spec_raPlace.l0, e, h3]
      refine ev_pos h1 (ev_pos h2 (ev_pos h1 (ev_bind (spec_l1Same_ev r l (by have := hr r (by rw [hh]; simp); omega)) ?_)))
      by_cases er : r = l
      · refine ev_pos (by simp [er]) (ev_some ?_)
        have hpl : plc A l = pre.length := by rw [hh, plc_append, if_neg (by omega)]; simp [plc, er]
        unfold placeI
        rw [hpl, if_pos (by omega)]
      · refine ev_neg (by simp [er]) (ih ?_)
        rw [plc_append, if_neg (by omega)]
        simp [plc, er]
  exact key A [] rfl rfl
theorem impl_within_eq (a b c : Int) : impl_within.f a b c = some (inR a b c) := in_ite a b c
theorem impl_allWithin_ev (l : List Int) (lo hi : Int) (hl : l.length ≤ 9000000000000000000) : Ev (fun k => impl_allWithin.f k l lo hi) (allIn l lo hi) := by
  refine range_all hl (fun pre suf => Ev (fun k => impl_allWithin.l0 k lo hi l (l.length : Int) (pre.length : Int)) (allIn suf lo hi)) ?_ ?_
  · refine ev_shift ?_
    simp only [impl_allWithin.l0]
    exact ev_neg (by omega) (ev_some rfl)
  · intro pre x suf h hx h1 h2 h3 ih
    refine ev_shift ?_
    simp only [impl_allWithin.l0, hx, h3, impl_within_eq, Option.bind_some, allIn_cons]
    refine ev_pos h1 (ev_pos h2 (ev_pos h1 ?_))
    cases inR x lo hi with
    | true => exact ev_pos rfl ih
    | false => exact ev_neg (by simp) (ev_some rfl)
theorem impl_increasing_ev (l : List Int) (hl : l.length ≤ 9000000000000000000) : Ev (fun k => impl_increasing.f k l) (incr l) := by
  cases l with
  | nil =>
    unfold impl_increasing.f
    refine ev_shift ?_
    simp only [impl_increasing.l0]
    exact ev_neg (by simp) (ev_some rfl)
  | cons y r =>
    have key : ∀ suf pre, y :: r = pre ++ suf → ∀ q p, pre = q ++ [p] → Ev (fun k => impl_increasing.l0 k (y :: r) (pre.length : Int)) (incrF p suf) := by
      refine range_ind hl (fun pre suf => ∀ q p, pre = q ++ [p] → Ev (fun k => impl_increasing.l0 k (y :: r) (pre.length : Int)) (incrF p suf)) ?_ ?_
      · intro q p _
        refine ev_shift ?_
        simp only [impl_increasing.l0]
        exact ev_neg (by omega) (ev_some rfl)
      · intro pre x suf h hx h1 h2 h3 ih q p hq
        have hp := rd_prev q p (x :: suf) (by rw [← hq]; rw [h] at hl; simp at hl ⊢; omega)
        rw [← hq, ← h] at hp
        have hql : pre.length = q.length + 1 := by rw [hq]; simp
        refine ev_shift ?_
        simp only [impl_increasing.l0, hx, h3, hp.1, hp.2, incrF]
        refine ev_pos h1 (ev_pos (by omega) (ev_pos (by omega) (ev_pos h2 ?_)))
        by_cases hlt : p < x
        · refine ev_neg (by omega) ?_
          simp only [decide_eq_true hlt, Bool.true_and]
          exact ih pre x rfl
        · refine ev_pos (by omega) ?_
          simp only [decide_eq_false hlt, Bool.false_and]
          exact ev_some rfl
    exact key r [y] rfl [] y rfl
theorem impl_IsCombination_ev (n : Int) (l : List Int) (hl : l.length ≤ 9000000000000000000) : Ev (fun k => impl_IsCombination.f k n l) (isComb n l) := by
  unfold impl_IsCombination.f
  refine ev_bind0 (impl_within_eq _ _ _) ?_
  by_cases hn : inR n 0 12 = true
  · have hn' := inR_iff.1 hn
    refine ev_pos hn ?_
    rw [w64 (by omega) (by omega)]
    refine ev_bind (impl_allWithin_ev l 0 (n - 1) hl) ?_
    simp only [isComb, hn, Bool.true_and]
    cases allIn l 0 (n - 1) with
    | false => exact ev_neg (by simp) (ev_some rfl)
    | true => exact ev_pos rfl (ev_bind (impl_increasing_ev l hl) (ev_some rfl))
  · refine ev_neg hn (ev_some ?_)
    simp only [Bool.not_eq_true] at hn
    simp only [isComb, hn, Bool.false_and]
theorem impl_binomial_ev (n : Nat) (k : Nat) (h : n ≤ 13) (hk : k ≤ 14) : Ev (fun j => impl_binomial.f j (n : Int) (k : Int)) (C n k : Int) := by
  have t : ∀ (a : Fin 14) (b : Fin 15), impl_binomial.f 20 ((a.1 : Nat) : Int) ((b.1 : Nat) : Int) = some (C a.1 b.1 : Int) := by decide +kernel
  exact Ev.of (impl_binomial.mono _ _) (t ⟨n, by omega⟩ ⟨k, by omega⟩)
attribute [local irreducible] C rankL in
theorem impl_combinationRank_l1 (n : Nat) (l : List Int) (hn : n ≤ 12) (x : Int) (i : Nat) (suf : List Int) (hi : l.length = i + suf.length + 1) (hsl : suf.length ≤ 12) (R : Int)  :
    ∀ m f rank : Nat, f + m = n → Cmb (f : Int) (n : Int) (x :: suf) → rank + C m (suf.length + 1) ≤ 5000 →
    (∀ m' f' rank' : Nat, f' + m' = n → (f' : Int) = x + 1 → rank' + C m' suf.length ≤ 5000 → rank + rankL f m (x :: suf) = rank' + rankL f' m' suf → Ev (fun k => impl_combinationRank.l0 k (n : Int) l (rank' : Int) (f' : Int) l (l.length : Int) (wrap64 ((i : Int) + 1))) R) →
    Ev (fun k => impl_combinationRank.l1 k (n : Int) l (rank : Int) (f : Int) (i : Int) x l (l.length : Int) (i : Int)) R := by
  intro m
  induction m with
  | zero => intro f rank hf hc _ _; obtain ⟨a, b, _⟩ := hc; omega
  | succ m ih =>
    intro f rank hf hc hb hk
    obtain ⟨a, b, c⟩ := hc
    have e1 : wrap64 ((f : Int) + 1) = ((f + 1 : Nat) : Int) := by rw [w64 (by omega) (by omega)]; omega
    have e2 : wrap64 (wrap64 ((n : Int) - (f : Int)) - 1) = (m : Int) := by rw [w64 (x := (n : Int) - (f : Int)) (by omega) (by omega), w64 (by omega) (by omega)]; omega
    have e3 : wrap64 (wrap64 ((l.length : Int) - (i : Int)) - 1) = (suf.length : Int) := by rw [w64 (x := (l.length : Int) - (i : Int)) (by omega) (by omega), w64 (by omega) (by omega)]; omega
    rw [C_succ] at hb
    refine ev_shift ?_
    simp only [impl_combinationRank.l1, e1, e2, e3]
    clear e1 e2 e3
    by_cases hx : (f : Int) < x
    · refine ev_pos hx (ev_bind (impl_binomial_ev m suf.length (by omega) (by omega)) ?_)
      have e4 : wrap64 ((rank : Int) + (C m suf.length : Int)) = ((rank + C m suf.length : Nat) : Int) := by rw [w64 (by omega) (by omega)]; omega
      rw [e4]
      clear e4
      refine ih (f + 1) (rank + C m suf.length) (by omega) (cmb_mk (by omega) b c) (by omega) ?_
      intro m' f' rank' h1 h2 h3 h4
      refine hk m' f' rank' h1 h2 h3 ?_
      rw [← h4, rankL_succ, if_neg (by omega)]; omega
    · refine ev_neg hx ?_
      have hxf : x = (f : Int) := by omega
      refine hk m (f + 1) rank (by omega) (by omega) (by omega) ?_
      rw [rankL_succ, if_pos hxf]
attribute [local irreducible] C rankL in
theorem impl_combinationRank_ev (n : Nat) (l : List Int) (hn : n ≤ 12) (hc : Cmb 0 (n : Int) l) (hl : l.length ≤ 12) : Ev (fun k => impl_combinationRank.f k (n : Int) l) (rankL 0 n l : Int) := by
  have key : ∀ suf pre, l = pre ++ suf → ∀ m f rank : Nat, f + m = n → Cmb (f : Int) (n : Int) suf → rank + C m suf.length ≤ 5000 → Ev (fun k => impl_combinationRank.l0 k (n : Int) l (rank : Int) (f : Int) l (l.length : Int) (pre.length : Int)) ((rank + rankL f m suf : Nat) : Int) := by
    refine range_ind (by omega) (fun pre suf => ∀ m f rank : Nat, f + m = n → Cmb (f : Int) (n : Int) suf → rank + C m suf.length ≤ 5000 → Ev (fun k => impl_combinationRank.l0 k (n : Int) l (rank : Int) (f : Int) l (l.length : Int) (pre.length : Int)) ((rank + rankL f m suf : Nat) : Int)) ?_ ?_
    · intro m f rank _ _ _
      refine ev_shift ?_
      simp only [impl_combinationRank.l0]
      exact ev_neg (by omega) (ev_some (by rw [rankL_nil]; simp))
    · intro pre x suf hh hx h1 h2 h3 ih m f rank hf hcm hb
      have hlen : l.length = pre.length + suf.length + 1 := by rw [hh]; simp; omega
      refine ev_shift ?_
      simp only [impl_combinationRank.l0, hx]
      refine ev_pos h1 (ev_pos h2 (ev_pos h1 ?_))
      refine impl_combinationRank_l1 n l hn x pre.length suf hlen (by omega) _ m f rank hf hcm hb ?_
      intro m' f' rank' g1 g2 g3 g4
      rw [h3, g4]
      refine ih m' f' rank' g1 ?_ g3
      obtain ⟨_, _, c⟩ := hcm
      rw [g2]; exact c
  have := key l [] rfl n 0 0 (by omega) hc (by have := C_12 l.length (n := n) (by omega); omega)
  simpa [impl_combinationRank.f] using this
theorem spec_CombinationRank_ev (n : Int) (l : List Int) (hl : l.length ≤ 9000000000000000000) : Ev (fun k => spec_CombinationRank.f k n l) (rankC n l) := by
  unfold spec_CombinationRank.f rankC
  refine ev_bind (spec_raCombination_ev n l hl) ?_
  by_cases h : isComb n l = true
  · rw [if_pos h]
    have h' := isComb_iff.1 h
    have hlen := isComb_len h
    obtain ⟨m, rfl⟩ := Int.eq_ofNat_of_zero_le h'.1.1
    have ha := spec_raAll_ev l.length (by omega) m 0 (by omega)
    rw [Nat.zero_add] at ha
    refine ev_pos h (ev_bind ha (ev_bind (spec_raPlace_ev _ l (by rw [lexL_length]; have := C_12 l.length (n := m) (by omega); omega) (fun r hr => by rw [lexL_mem_length hr]; omega)) (ev_some ?_)))
    rw [placeI_lexL h, Int.toNat_natCast]
  · rw [if_neg h]
    exact ev_neg h (ev_some rfl)
theorem impl_CombinationRank_ev (n : Int) (l : List Int) (hl : l.length ≤ 9000000000000000000) : Ev (fun k => impl_CombinationRank.f k n l) (rankC n l) := by
  unfold impl_CombinationRank.f rankC
  refine ev_bind (impl_IsCombination_ev n l hl) ?_
  by_cases h : isComb n l = true
  · rw [if_pos h]
    have h' := isComb_iff.1 h
    have hlen := isComb_len h
    obtain ⟨m, rfl⟩ := Int.eq_ofNat_of_zero_le h'.1.1
    refine ev_pos h (ev_bind (impl_combinationRank_ev m l (by omega) (cmb_of_isComb h) (by omega)) (ev_some ?_))
    rw [Int.toNat_natCast]
  · rw [if_neg h]
    exact ev_neg h (ev_some rfl)
theorem FnExactCombinationRank : laws_FnExactCombinationRank.Pure := by
  intro n l hn hl1 hl2 hl
  apply ev_le
  unfold laws_FnExactCombinationRank.f
  by_cases hb : (l.length : Int) > 1048576
  · exact ev_pos hb (ev_some rfl)
  have hs := spec_CombinationRank_ev n l (by omega)
  have hi := impl_CombinationRank_ev n l (by omega)
  generalize rankC n l = p at hs hi
  obtain ⟨out, ok⟩ := p
  refine ev_neg hb ?_
  repeat (first
      | exact ev_some rfl
      | refine ev_bind (laws_toIntS_ev _ (by omega)) ?_
      | refine ev_bind (laws_eqIntS_ev _ (by omega)) ?_
      | refine ev_bind hs ?_
      | refine ev_bind hi ?_
      | refine ev_pos rfl ?_
      | refine ev_pos trivial ?_
      | refine ev_neg neq_self ?_
      | dsimp only
      | refine ev_neg (by omega) ?_
      | (refine ev_shift ?_; simp only [laws_FnExactCombinationRank.j0]))

end Go.Proofs.Ytdalaiooakclmaa.Pure
