/- The law FnExactNextPermutation returns true for every list (reach and kinds as the row says); no condition of ours. -/
import Derived.Test.YtnhifbopicjicaaQFnExactNextPermutationx5
import Derived.Test.YtnhifbopicjicaaMth
import Derived.Test.YtnhifbopicjicaaMthFact
import Derived.Test.YtnhifbopicjicaaMthPerm
import Derived.Test.YtnhifbopicjicaaMthPermAt
import Derived.Test.YtnhifbopicjicaaMthPermRank
set_option linter.unusedVariables false
set_option linter.unusedSimpArgs false
namespace Go.Proofs.Ytnhifbopicjicaa.Pure
open Go.RowKit Go.Proofs.Ytnhifbopicjicaa.Mth Go.Proofs.Ytnhifbopicjicaa.PFnExactNextPermutation Go.Proofs.YtnhifbopicjicaaW.PrintWords Go.Proofs.YtnhifbopicjicaaW.PrintLast

theorem laws_toIntS_ev (l : List Int) (hl : l.length ≤ 1048576) : Ev (fun k => laws_toIntS.f k l) l := by
  unfold laws_toIntS.f
  refine ev_pos (by omega) (ev_pos (by omega) ?_)
  refine range_all (l := l) (by omega) (fun pre suf => Ev (fun k => laws_toIntS.l0 k l (pre ++ List.replicate suf.length 0) (pre.length : Int)) l) ?_ ?_
  · refine ev_shift ?_
    simp only [laws_toIntS.l0]
    exact ev_neg (by omega) (ev_some (by simp))
  · intro pre x suf h hx h1 h2 h3 ih
    refine ev_shift ?_
    simp only [laws_toIntS.l0, hx, h3, List.length_cons, List.replicate_succ, set_at]
    refine ev_pos h1 (ev_pos h2 (ev_pos (by simp; omega) ?_))
    simpa using ih
theorem laws_eqIntS_ev (l : List Int) (hl : l.length ≤ 9000000000000000000) : Ev (fun k => laws_eqIntS.f k l l) true := by
  unfold laws_eqIntS.f
  refine ev_pos rfl ?_
  refine range_all hl (fun pre suf => Ev (fun k => laws_eqIntS.l0 k l l (pre.length : Int)) true) ?_ ?_
  · refine ev_shift ?_
    simp only [laws_eqIntS.l0]
    exact ev_neg (by omega) (ev_some rfl)
  · intro pre x suf h hx h1 h2 h3 ih
    refine ev_shift ?_
    simp only [laws_eqIntS.l0, h3]
    exact ev_pos h1 (ev_pos h2 (ev_pos h1 (ev_pos (by trivial) ih)))
theorem laws_markIntS_ev (l : List Int) (m : Int) (h0 : 0 ≤ m) (h1 : m ≤ 1000000000000000000) (hl : l.length ≤ 1000000000000000000) : Ev (fun k => laws_markIntS.f k l m) (m + (l.length : Int), marks l.length m) := by
  have key : (fun (pre suf : List Int) => l.length = pre.length + suf.length → Ev (fun k => laws_markIntS.l0 k (marks pre.length m ++ suf) (m + (pre.length : Int)) (pre.length : Int)) (m + (l.length : Int), marks l.length m)) [] l := by
    refine range_all (l := l) (by omega) (fun pre suf => l.length = pre.length + suf.length → Ev (fun k => laws_markIntS.l0 k (marks pre.length m ++ suf) (m + (pre.length : Int)) (pre.length : Int)) (m + (l.length : Int), marks l.length m)) ?_ ?_
    · intro _
      refine ev_shift ?_
      simp only [laws_markIntS.l0]
      exact ev_neg (by simp [marks_length]) (ev_some (by simp))
    · intro pre x suf h hx h1 h2 h3 ih hlen
      simp only [List.length_cons] at hlen
      refine ev_shift ?_
      have e : (marks pre.length m ++ x :: suf).set (pre.length : Int).toNat (m + (pre.length : Int)) = marks (pre ++ [x]).length m ++ suf := by
        have := set_at (marks pre.length m) x (m + (pre.length : Int)) suf
        rw [marks_length] at this
        rw [this, List.length_append, List.length_singleton, marks_snoc]; simp
      simp only [laws_markIntS.l0, h3, e]
      refine ev_pos (by simp [marks_length]; omega) (ev_pos h2 ?_)
      rw [w64 (by omega) (by omega)]
      have := ih (by simp; omega)
      simp only [List.length_append, List.length_singleton] at this ⊢
      rw [show m + (pre.length : Int) + 1 = m + ((pre.length + 1 : Nat) : Int) by omega]
      exact this
  have := key (by simp)
  unfold laws_markIntS.f
  simpa [marks] using this
theorem laws_heldIntS_ev (n : Nat) (m : Int) (h0 : 0 ≤ m) (h1 : m ≤ 1000000000000000000) (hl : n ≤ 1000000000000000000) : Ev (fun k => laws_heldIntS.f k (marks n m) m) (m + (n : Int)) := by
  have key : (fun (pre suf : List Int) => n = pre.length + suf.length → Ev (fun k => laws_heldIntS.l0 k (marks n m) (m + (pre.length : Int)) (pre.length : Int)) (m + (n : Int))) [] (marks n m) := by
    refine range_all (l := marks n m) (by rw [marks_length]; omega) (fun pre suf => n = pre.length + suf.length → Ev (fun k => laws_heldIntS.l0 k (marks n m) (m + (pre.length : Int)) (pre.length : Int)) (m + (n : Int))) ?_ ?_
    · intro _
      refine ev_shift ?_
      simp only [laws_heldIntS.l0, marks_length]
      exact ev_neg (by omega) (ev_some (by simp))
    · intro pre x suf h hx h1 h2 h3 ih hlen
      simp only [List.length_cons] at hlen
      refine ev_shift ?_
      have e : rd (marks n m) (pre.length : Int) = m + (pre.length : Int) := marks_rd n m pre.length (by omega)
      simp only [laws_heldIntS.l0, h3, e]
      refine ev_pos h1 (ev_pos h2 (ev_pos (by trivial) ?_))
      rw [w64 (by omega) (by omega)]
      have := ih (by simp; omega)
      simp only [List.length_append, List.length_singleton] at this ⊢
      rw [show m + (pre.length : Int) + 1 = m + ((pre.length + 1 : Nat) : Int) by omega]
      exact this
  have := key (by simp [marks_length])
  unfold laws_heldIntS.f
  simpa [marks] using this
theorem impl_factorial_ev (n : Nat) (h : n ≤ 12) : Ev (fun k => impl_factorial.f k (n : Int)) (fact n : Int) := by
  have t : ∀ m : Fin 13, impl_factorial.f 20 ((m.1 : Nat) : Int) = some (fact m.1 : Int) := by decide +kernel
  exact Ev.of (impl_factorial.mono _) (t ⟨n, by omega⟩)
theorem impl_identity_ev (n : Nat) (h : n ≤ 12) : Ev (fun k => impl_identity.f k (n : Int)) (idL n) := by
  have t : ∀ m : Fin 13, impl_identity.f 20 ((m.1 : Nat) : Int) = some (idL m.1) := by decide +kernel
  exact Ev.of (impl_identity.mono _) (t ⟨n, by omega⟩)
theorem slices_Delete_one (l : List Int) (q : Nat) (h : q < l.length) (hl : l.length ≤ 9000000000000000000) : slices_Delete_int_int.f l (q : Int) (wrap64 ((q : Int) + 1)) = some (l.eraseIdx q) := by
  rw [w64 (by omega) (by omega)]
  unfold slices_Delete_int_int.f
  have e : ((q : Int) + 1).toNat = q + 1 := by omega
  rw [if_pos ⟨by omega, by omega, by omega⟩, List.eraseIdx_eq_take_drop_succ, e, Int.toNat_natCast]
theorem div_cast (r f : Nat) (hr : r ≤ 4000000000) : wrap64 (Int.tdiv (r : Int) (f : Int)) = ((r / f : Nat) : Int) := by
  have h := Nat.div_le_self r f
  rw [← Int.ofNat_tdiv]
  generalize r / f = q at h
  exact w64 (by omega) (by omega)
theorem mod_cast_ (r f : Nat) : Int.tmod (r : Int) (f : Int) = ((r % f : Nat) : Int) := by rw [← Int.ofNat_tmod]
theorem impl_permutationAt_l0_ev : ∀ (m : Nat) (r : Nat) (left out : List Int), m ≤ 12 → left.length = m → r < fact m → out.length + m ≤ 100 → Ev (fun k => impl_permutationAt.l0 k (r : Int) left out ((m : Int) - 1)) (out ++ atL m left r) := by
  intro m
  induction m with
  | zero =>
    intro r left out _ _ _ _
    refine ev_shift ?_
    simp only [impl_permutationAt.l0]
    exact ev_neg (by omega) (ev_some (by simp [atL]))
  | succ m ih =>
    intro r left out hm hl hr ho
    have hq : r / fact m < m + 1 := fact_div hr
    have hpos := fact_pos m
    have hf12 := fact_12 (n := m + 1) hm
    have hmod := Nat.mod_lt r hpos
    have e1 : (((m + 1 : Nat) : Int) - 1) = (m : Int) := by omega
    have e2 : wrap64 ((m : Int) - 1) = (m : Int) - 1 := w64 (by omega) (by omega)
    have ed := div_cast r (fact m) (by omega)
    have em := mod_cast_ r (fact m)
    refine ev_shift ?_
    simp only [impl_permutationAt.l0, e1]
    refine ev_pos (by omega) (ev_bind (impl_factorial_ev m (by omega)) (ev_neg (by omega) (ev_bind (impl_factorial_ev m (by omega)) (ev_neg (by omega) ?_))))
    rw [ed, em, atL]
    generalize r / fact m = q at hq
    refine ev_pos (by omega) (ev_pos (by omega) (ev_pos (by omega) (ev_bind0 (slices_Delete_one left _ (by omega) (by omega)) ?_)))
    rw [rd_nat, e2]
    have := ih (r % fact m) (left.eraseIdx q) (out ++ [left.getD q 0]) (by omega) (by rw [List.length_eraseIdx_of_lt (by omega), hl]; rfl) hmod (by simp; omega)
    rw [List.append_assoc] at this
    exact this
theorem impl_permutationAt_ev (n r : Nat) (hn : n ≤ 12) (hr : r < fact n) : Ev (fun k => impl_permutationAt.f k (n : Int) (r : Int)) (atL n (idL n) r) := by
  unfold impl_permutationAt.f
  refine ev_bind (impl_identity_ev n hn) ?_
  rw [w64 (by omega) (by omega)]
  exact impl_permutationAt_l0_ev n r (idL n) [] hn (idL_length n) hr (by simp; omega)
theorem spec_raFactorial_ev (n : Nat) (h : n ≤ 12) : Ev (fun k => spec_raFactorial.f k (n : Int)) (fact n : Int) := by
  have t : ∀ m : Fin 13, spec_raFactorial.f 20 ((m.1 : Nat) : Int) = some (fact m.1 : Int) := by decide +kernel
  exact Ev.of (spec_raFactorial.mono _) (t ⟨n, by omega⟩)
theorem spec_raUpTo_ev (n : Nat) (h : n ≤ 12) : Ev (fun k => spec_raUpTo.f k (n : Int)) (idL n) := by
  have t : ∀ m : Fin 13, spec_raUpTo.f 20 ((m.1 : Nat) : Int) = some (idL m.1) := by decide +kernel
  exact Ev.of (spec_raUpTo.mono _) (t ⟨n, by omega⟩)
theorem spec_l1Own_eq (l : List Int) (h : l.length < 17592186044416) : spec_l1Own.f l = some l := by
  simp only [spec_l1Own.f, Option.bind_some, List.length_nil, Nat.zero_add, List.nil_append]
  rw [if_pos h]
theorem spec_raWithout_eq (l : List Int) (q : Nat) (h : q < l.length) (hl : l.length ≤ 1000000) : spec_raWithout.f l (q : Int) = some (l.eraseIdx q) := by
  have e : ((q : Int) + 1).toNat = q + 1 := by omega
  have e1 : wrap64 ((q : Int) + 1) = (q : Int) + 1 := w64 (by omega) (by omega)
  have h1 : (0 : Int) ≤ (q : Int) := by omega
  have h2 : (q : Int) ≤ (l.length : Int) := by omega
  have h3 : (l.take (q : Int).toNat).length < 17592186044416 := by rw [List.length_take]; omega
  have h4 : (0 : Int) ≤ (q : Int) + 1 := by omega
  have h5 : (q : Int) + 1 ≤ (l.length : Int) := by omega
  have h6 : (l.take (q : Int).toNat).length + (l.drop ((q : Int) + 1).toNat).length < 17592186044416 := by rw [List.length_take, List.length_drop]; omega
  have e0 := spec_l1Own_eq (l.take (q : Int).toNat) h3
  simp only [spec_raWithout.f, e1]
  rw [if_pos h1, if_pos h2, e0, Option.bind_some, if_pos h4, if_pos h5, if_pos h6, List.eraseIdx_eq_take_drop_succ, e, Int.toNat_natCast]
theorem spec_raAt_ev : ∀ (m : Nat) (r : Nat) (items : List Int), m ≤ 12 → items.length = m → r < fact m → Ev (fun k => spec_raAt.f k items (r : Int)) (atL m items r) := by
  intro m
  induction m with
  | zero =>
    intro r items _ hl _
    refine ev_shift ?_
    simp only [spec_raAt.f]
    exact ev_pos (by omega) (ev_some (by simp [atL]))
  | succ m ih =>
    intro r items hm hl hr
    have hq : r / fact m < m + 1 := fact_div hr
    have hpos := fact_pos m
    have hf12 := fact_12 (n := m + 1) hm
    have hmod := Nat.mod_lt r hpos
    have e1 : wrap64 ((items.length : Int) - 1) = (m : Int) := by rw [w64 (by omega) (by omega)]; omega
    have ed := div_cast r (fact m) (by omega)
    have em := mod_cast_ r (fact m)
    refine ev_shift ?_
    simp only [spec_raAt.f, e1]
    refine ev_neg (by omega) (ev_bind (spec_raFactorial_ev m (by omega)) (ev_neg (by omega) ?_))
    rw [ed, em, atL]
    generalize r / fact m = q at hq
    refine ev_pos (by omega) (ev_pos (by omega) (ev_bind0 rfl (ev_bind0 (spec_raWithout_eq items _ (by omega) (by omega)) ?_)))
    refine ev_bind (ih (r % fact m) (items.eraseIdx q) (by omega) (by rw [List.length_eraseIdx_of_lt (by omega), hl]; rfl) hmod) (ev_pos (by simp only [List.length_cons, List.length_nil, atL_length]; omega) (ev_some ?_))
    rw [rd_nat]; rfl

theorem spec_l1In_eq (a b c : Int) : spec_l1In.f a b c = some (inR a b c) := in_ite a b c
theorem spec_raItems_eq (a : Int) : spec_raItems.f a = some (inR a 0 12) := by simp only [spec_raItems.f, spec_l1In_eq, Option.bind_some]
theorem atPm_nat (n r : Int) (h : inR n 0 12 = true ∧ inR r 0 ((fact n.toNat : Int) - 1) = true) : ∃ m q : Nat, n = (m : Int) ∧ r = (q : Int) ∧ m ≤ 12 ∧ q < fact m := by
  have h1 := inR_iff.1 h.1
  have h2 := inR_iff.1 h.2
  obtain ⟨m, rfl⟩ := Int.eq_ofNat_of_zero_le h1.1
  obtain ⟨q, rfl⟩ := Int.eq_ofNat_of_zero_le h2.1
  simp only [Int.toNat_natCast] at h2
  exact ⟨m, q, rfl, rfl, by omega, by omega⟩
theorem spec_PermutationAt_ev (n r : Int) : Ev (fun k => spec_PermutationAt.f k n r) (atPm n r) := by
  unfold spec_PermutationAt.f atPm
  refine ev_bind0 (spec_raItems_eq _) ?_
  by_cases h : inR n 0 12 = true
  · have h' := inR_iff.1 h
    obtain ⟨m, rfl⟩ := Int.eq_ofNat_of_zero_le h'.1
    have hf := fact_12 (n := m) (by omega)
    refine ev_pos h (ev_bind (spec_raFactorial_ev m (by omega)) (ev_bind0 (spec_l1In_eq _ _ _) ?_))
    rw [w64 (by omega) (by omega)]
    refine ev_shift ?_
    simp only [spec_PermutationAt.j0]
    by_cases hr : inR r 0 ((fact m : Int) - 1) = true
    · have hr' := inR_iff.1 hr
      obtain ⟨q, rfl⟩ := Int.eq_ofNat_of_zero_le hr'.1
      refine ev_neg (by rw [hr]; simp) (ev_bind (spec_raUpTo_ev m (by omega)) (ev_bind (spec_raAt_ev m q _ (by omega) (idL_length m) (by omega)) (ev_some ?_)))
      rw [if_pos ⟨h, by simpa using hr⟩]; simp
    · simp only [Bool.not_eq_true] at hr
      exact ev_pos (by rw [hr]; rfl) (ev_some (by rw [if_neg (fun c => by have := c.2; simp only [Int.toNat_natCast] at this; rw [hr] at this; cases this)]))
  · refine ev_neg h (ev_shift ?_)
    simp only [spec_PermutationAt.j0]
    exact ev_pos (by trivial) (ev_some (by rw [if_neg (fun c => h c.1)]))
theorem impl_permutationRank_l1 (l : List Int) (hl : l.length ≤ 12) (rank x : Int) (i : Nat) (ys : List Int) (hys : ys.length ≤ 12) (R : Int) (hk : ∀ c : Nat, c = cntLt x ys → Ev (fun k => (impl_factorial.f k (wrap64 (wrap64 ((l.length : Int) - (i : Int)) - 1))).bind fun t => impl_permutationRank.l0 k l (wrap64 (rank + wrap64 ((c : Int) * t))) l (l.length : Int) (wrap64 ((i : Int) + 1))) R) :
    ∀ suf pre, ys = pre ++ suf → ∀ c : Nat, c + cntLt x suf = cntLt x ys → c ≤ 100 → Ev (fun k => impl_permutationRank.l1 k l rank (i : Int) x (c : Int) l (l.length : Int) (i : Int) ys (ys.length : Int) (pre.length : Int)) R := by
  refine range_ind (by omega) (fun pre suf => ∀ c : Nat, c + cntLt x suf = cntLt x ys → c ≤ 100 → Ev (fun k => impl_permutationRank.l1 k l rank (i : Int) x (c : Int) l (l.length : Int) (i : Int) ys (ys.length : Int) (pre.length : Int)) R) ?_ ?_
  · intro c hc _
    refine ev_shift ?_
    simp only [impl_permutationRank.l1]
    exact ev_neg (by omega) (hk c (by simpa [cntLt_nil, cntLt_cons] using hc))
  · intro pre y suf h hx h1 h2 h3 ihl c hc hc2
    have hct := cntLt_le x ys
    refine ev_shift ?_
    simp only [impl_permutationRank.l1, hx, h3]
    refine ev_pos h1 (ev_pos h2 (ev_pos h1 ?_))
    simp only [cntLt_nil, cntLt_cons] at hc
    by_cases hy : y < x
    · rw [if_pos hy] at hc
      refine ev_pos hy ?_
      have e3 : wrap64 ((c : Int) + 1) = ((c + 1 : Nat) : Int) := by rw [w64 (by omega) (by omega)]; omega
      rw [e3]; clear e3 h3
      exact ihl (c + 1) (by omega) (by omega)
    · rw [if_neg hy] at hc
      clear h3
      exact ev_neg hy (ihl c (by omega) hc2)
theorem impl_permutationRank_ev (l : List Int) (hl : l.length ≤ 12) : Ev (fun k => impl_permutationRank.f k l) (rankP l : Int) := by
  have key : ∀ suf pre, l = pre ++ suf → ∀ rank : Nat, rank + rankP suf = rankP l → Ev (fun k => impl_permutationRank.l0 k l (rank : Int) l (l.length : Int) (pre.length : Int)) (rankP l : Int) := by
    refine range_ind (by omega) (fun pre suf => ∀ rank : Nat, rank + rankP suf = rankP l → Ev (fun k => impl_permutationRank.l0 k l (rank : Int) l (l.length : Int) (pre.length : Int)) (rankP l : Int)) ?_ ?_
    · intro rank hr
      refine ev_shift ?_
      simp only [impl_permutationRank.l0]
      exact ev_neg (by omega) (ev_some (by simp only [rankP_nil, rankP_cons] at hr; omega))
    · intro pre x suf h hx h1 h2 h3 ihl rank hr
      have hlen : l.length = pre.length + suf.length + 1 := by rw [h]; simp; omega
      have hlt := rankP_lt l
      have hf := fact_12 (n := l.length) hl
      have hf2 := fact_12 (n := suf.length) (by omega)
      have hcl := cntLt_le x suf
      have hmul : cntLt x suf * fact suf.length ≤ 12 * 479001600 := Nat.mul_le_mul (by omega) hf2
      have hdrop : l.drop ((pre ++ [x]).length : Int).toNat = suf := by
        rw [h, show pre ++ x :: suf = (pre ++ [x]) ++ suf by simp, Int.toNat_natCast, List.drop_left' rfl]
      refine ev_shift ?_
      simp only [impl_permutationRank.l0, hx, h3, hdrop]
      refine ev_pos h1 (ev_pos h2 (ev_pos h1 (ev_pos (by omega) (ev_pos (by simp; omega) ?_))))
      refine impl_permutationRank_l1 l hl (rank : Int) x pre.length suf (by omega) _ ?_ suf [] rfl 0 (by omega) (by omega)
      intro c hc
      subst hc
      have e1 : wrap64 (wrap64 ((l.length : Int) - (pre.length : Int)) - 1) = (suf.length : Int) := by
        rw [w64 (x := (l.length : Int) - (pre.length : Int)) (by omega) (by omega), w64 (by omega) (by omega)]; omega
      rw [e1, h3]
      refine ev_bind (impl_factorial_ev suf.length (by omega)) ?_
      have e2 : (cntLt x suf : Int) * (fact suf.length : Int) = ((cntLt x suf * fact suf.length : Nat) : Int) := by simp
      simp only [rankP_nil, rankP_cons] at hr
      have e4 : wrap64 ((rank : Int) + wrap64 ((cntLt x suf : Int) * (fact suf.length : Int))) = ((rank + cntLt x suf * fact suf.length : Nat) : Int) := by
        rw [e2, w64 (x := ((cntLt x suf * fact suf.length : Nat) : Int)) (by omega) (by omega), w64 (by omega) (by omega)]; omega
      rw [e4]
      exact ihl _ (by omega)
  exact key l [] rfl 0 (by omega)
theorem spec_raRank_ev (l : List Int) (hl : l.length ≤ 12) : Ev (fun k => spec_raRank.f k l) (rankP l : Int) := by
  induction l with
  | nil =>
    refine ev_shift ?_
    simp only [spec_raRank.f]
    exact ev_pos rfl (ev_some (by rw [rankP_nil]; rfl))
  | cons x r ih =>
    simp only [List.length_cons] at hl
    have hrk := rankP_lt (x :: r)
    have hrk2 := rankP_lt r
    have hf := fact_12 (n := (x :: r).length) (by simp; omega)
    have hf2 := fact_12 (n := r.length) (by omega)
    have hcl := cntLt_le x r
    have hmul : cntLt x r * fact r.length ≤ 12 * 479001600 := Nat.mul_le_mul (by omega) hf2
    refine ev_shift ?_
    simp only [spec_raRank.f]
    refine ev_neg (by simp; omega) ?_
    have hr0 : rd (x :: r) 0 = x := rfl
    have key : ∀ suf pre, x :: r = pre ++ suf → ∀ c : Nat, c + cntLt x suf = cntLt x r → c ≤ 100 → Ev (fun k => spec_raRank.l0 k (x :: r) (c : Int) (x :: r) ((x :: r).length : Int) (pre.length : Int)) (rankP (x :: r) : Int) := by
      refine range_ind (by simp; omega) (fun pre suf => ∀ c : Nat, c + cntLt x suf = cntLt x r → c ≤ 100 → Ev (fun k => spec_raRank.l0 k (x :: r) (c : Int) (x :: r) ((x :: r).length : Int) (pre.length : Int)) (rankP (x :: r) : Int)) ?_ ?_
      · intro c hc hc2
        have hc3 : c = cntLt x r := by simpa [cntLt_nil, cntLt_cons] using hc
        subst hc3
        have e1 : wrap64 (((x :: r).length : Int) - 1) = (r.length : Int) := by rw [w64 (by simp only [List.length_cons]; omega) (by simp only [List.length_cons]; omega)]; simp
        refine ev_shift ?_
        simp only [spec_raRank.l0, e1]
        clear e1
        refine ev_neg (by omega) (ev_bind (spec_raFactorial_ev r.length (by omega)) (ev_pos (by simp only [List.length_cons]; omega) (ev_bind (ih (by omega)) (ev_some ?_))))
        have e2 : (cntLt x r : Int) * (fact r.length : Int) = ((cntLt x r * fact r.length : Nat) : Int) := by simp
        rw [e2, w64 (x := ((cntLt x r * fact r.length : Nat) : Int)) (by omega) (by omega), w64 (by omega) (by omega)]
        simp [rankP_nil, rankP_cons]
      · intro pre y suf h hx h1 h2 h3 ihl c hc hc2
        have hlen : (x :: r).length = pre.length + suf.length + 1 := by rw [h]; simp; omega
        have hcs := cntLt_le x suf
        simp only [List.length_cons] at hlen
        refine ev_shift ?_
        simp only [spec_raRank.l0, hx, h3, hr0]
        refine ev_pos h1 (ev_pos h2 (ev_pos h1 (ev_pos (by simp only [List.length_cons]; omega) ?_)))
        simp only [cntLt_cons] at hc
        by_cases hy : y < x
        · rw [if_pos hy] at hc
          refine ev_pos hy ?_
          have e3 : wrap64 ((c : Int) + 1) = ((c + 1 : Nat) : Int) := by rw [w64 (by omega) (by omega)]; omega
          rw [e3]; clear e3 h3
          exact ihl (c + 1) (by omega) (by omega)
        · rw [if_neg hy] at hc
          clear h3
          exact ev_neg hy (ihl c (by omega) hc2)
    exact key (x :: r) [] rfl 0 (by rw [cntLt_cons, if_neg (Int.lt_irrefl x)]; omega) (by omega)
theorem spec_l1Has_ev (l : List Int) (x : Int) (hl : l.length ≤ 9000000000000000000) : Ev (fun k => spec_l1Has.f k l x) (l.contains x) := by
  refine range_all hl (fun pre suf => Ev (fun k => spec_l1Has.l0 k x l (l.length : Int) (pre.length : Int)) (suf.contains x)) ?_ ?_
  · refine ev_shift ?_
    simp only [spec_l1Has.l0]
    exact ev_neg (by omega) (ev_some rfl)
  · intro pre y suf h hx h1 h2 h3 ih
    refine ev_shift ?_
    simp only [spec_l1Has.l0, hx, h3]
    refine ev_pos h1 (ev_pos h2 (ev_pos h1 ?_))
    by_cases e : y = x
    · exact ev_pos e (ev_some (by simp [e]))
    · refine ev_neg e ?_
      have : (y :: suf).contains x = suf.contains x := by simp [Ne.symm e]
      rw [this]; exact ih
theorem spec_raPermutation_ev (l : List Int) (hl : l.length ≤ 9000000000000000000) : Ev (fun k => spec_raPermutation.f k l) (isPermB l) := by
  rw [← raPerm_eq]
  have key : ∀ suf pre, l = pre ++ suf → pre.length ≤ 12 → Ev (fun k => spec_raPermutation.l0 k l l (l.length : Int) (pre.length : Int)) (decide (l.length ≤ 12) && raPermF (l.length : Int) pre suf) := by
    refine range_ind hl (fun pre suf => pre.length ≤ 12 → Ev (fun k => spec_raPermutation.l0 k l l (l.length : Int) (pre.length : Int)) (decide (l.length ≤ 12) && raPermF (l.length : Int) pre suf)) ?_ ?_
    · intro hp
      refine ev_shift ?_
      simp only [spec_raPermutation.l0]
      exact ev_neg (by omega) (ev_some (by rw [decide_eq_true hp]; rfl))
    · intro pre x suf h hx h1 h2 h3 ih hp
      have htake : l.take (pre.length : Int).toNat = pre := by rw [h, Int.toNat_natCast, List.take_left' rfl]
      refine ev_shift ?_
      simp only [spec_raPermutation.l0, hx, h3, htake]
      rw [w64 (by omega) (by omega)]
      refine ev_pos h1 (ev_pos h2 (ev_pos h1 ?_))
      by_cases h12 : pre.length < 12
      · refine ev_neg (by omega) (ev_bind0 (spec_l1In_eq _ _ _) ?_)
        simp only [raPermF]
        cases hr : inR x 0 ((l.length : Int) - 1) with
        | false => exact ev_neg (by simp) (ev_some (by simp))
        | true =>
          refine ev_pos rfl (ev_pos (by omega) (ev_bind (spec_l1Has_ev pre x (by omega)) ?_))
          cases hc : pre.contains x with
          | true => exact ev_pos rfl (ev_some (by simp))
          | false =>
            refine ev_neg (by simp) ?_
            have := ih (by simp; omega)
            simpa using this
      · refine ev_pos (by omega) (ev_some ?_)
        rw [decide_eq_false (by omega)]; rfl
  exact key l [] rfl (by simp)
theorem impl_NextPermutation_ev (l : List Int) (hl : l.length ≤ 9000000000000000000) : Ev (fun k => impl_NextPermutation.f k l) (nextPm l) := by
  unfold impl_NextPermutation.f nextPm
  refine ev_bind0 (g := impl_IsPermutation.f l) rfl ?_
  by_cases h : isPermB l = true
  · rw [if_pos h]
    have h12 := (isPermB_iff.1 h).1
    have hlt := rankP_lt l
    have hf := fact_12 h12
    refine ev_pos h (ev_bind (impl_permutationRank_ev l h12) (ev_bind (impl_factorial_ev _ h12) ?_))
    rw [w64 (by omega) (by omega)]
    refine ev_shift ?_
    simp only [impl_NextPermutation.j0]
    by_cases he : (rankP l : Int) + 1 = (fact l.length : Int)
    · refine ev_pos (by rw [he]; simp) (ev_some ?_)
      unfold atPm
      rw [if_neg (fun c => by have := inR_iff.1 c.2; simp only [Int.toNat_natCast] at this; omega)]
    · refine ev_neg (by simp [he]) (ev_bind (impl_permutationRank_ev l h12) ?_)
      rw [w64 (by omega) (by omega), show (rankP l : Int) + 1 = ((rankP l + 1 : Nat) : Int) by omega]
      refine ev_bind (impl_permutationAt_ev l.length (rankP l + 1) h12 (by omega)) (ev_some ?_)
      unfold atPm
      rw [if_pos ⟨inR_iff.2 ⟨by omega, by omega⟩, inR_iff.2 ⟨by omega, by simp only [Int.toNat_natCast]; omega⟩⟩]
      simp
  · rw [if_neg h]
    refine ev_neg h (ev_shift ?_)
    simp only [impl_NextPermutation.j0]
    exact ev_pos (by trivial) (ev_some rfl)
theorem spec_PermutationRank_ev (l : List Int) (hl : l.length ≤ 9000000000000000000) : Ev (fun k => spec_PermutationRank.f k l) (rankPm l) := by
  unfold spec_PermutationRank.f rankPm
  refine ev_bind (spec_raPermutation_ev l hl) ?_
  by_cases h : isPermB l = true
  · rw [if_pos h]; exact ev_pos h (ev_bind (spec_raRank_ev l (isPermB_iff.1 h).1) (ev_some rfl))
  · rw [if_neg h]; exact ev_neg h (ev_some rfl)
theorem spec_NextPermutation_ev (l : List Int) (hl : l.length ≤ 9000000000000000000) : Ev (fun k => spec_NextPermutation.f k l) (nextPm l) := by
  unfold spec_NextPermutation.f nextPm
  refine ev_bind (spec_PermutationRank_ev l hl) ?_
  unfold rankPm
  by_cases h : isPermB l = true
  · rw [if_pos h, if_pos h]
    have h12 := (isPermB_iff.1 h).1
    have hlt := rankP_lt l
    have hf := fact_12 h12
    refine ev_pos rfl ?_
    dsimp only
    rw [w64 (by omega) (by omega)]
    exact ev_bind (spec_PermutationAt_ev _ _) (ev_some rfl)
  · rw [if_neg h, if_neg h]; exact ev_neg (by simp) (ev_some rfl)
theorem FnExactNextPermutation : laws_FnExactNextPermutation.Pure := by
  intro l hl1 hl2 hl
  apply ev_le
  unfold laws_FnExactNextPermutation.f
  by_cases hb : (l.length : Int) > 1048576
  · exact ev_pos hb (ev_some rfl)
  have hs := spec_NextPermutation_ev l (by omega)
  have hi := impl_NextPermutation_ev l (by omega)
  have hlen := nextPm_len l
  generalize nextPm l = p at hs hi hlen
  obtain ⟨out, ok⟩ := p
  simp only at hlen
  refine ev_neg hb ?_
  repeat (first
      | exact ev_some rfl
      | refine ev_bind (laws_toIntS_ev _ (by omega)) ?_
      | refine ev_bind (laws_eqIntS_ev _ (by omega)) ?_
      | refine ev_bind (laws_markIntS_ev _ _ (by omega) (by omega) (by omega)) ?_
      | refine ev_bind (laws_heldIntS_ev _ _ (by omega) (by omega) (by omega)) ?_
      | refine ev_bind hs ?_
      | refine ev_bind hi ?_
      | refine ev_pos rfl ?_
      | refine ev_pos trivial ?_
      | refine ev_neg neq_self ?_
      | dsimp only
      | refine ev_neg (by omega) ?_
      | (refine ev_shift ?_; simp only [laws_FnExactNextPermutation.j0, laws_FnExactNextPermutation.j1, laws_FnExactNextPermutation.j2]))

end Go.Proofs.Ytnhifbopicjicaa.Pure
