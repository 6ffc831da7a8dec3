/- What the law's functions compute, and that the calls come to just that: turned from a printed text. No condition. -/
import Derived.Test.YtoajkfiighdjpaaQFnExactAllPermutationsx0
import Derived.Test.YtoajkfiighdjpaaQFnExactAllPermutationsx1
import Derived.Test.YtoajkfiighdjpaaQFnExactAllPermutationsx2
import Derived.Test.YtoajkfiighdjpaaQFnExactAllPermutationsx3
namespace Go.Proofs.Ytoajkfiighdjpaa.PFnExactAllPermutations
open Go.RowKit Go.Proofs.YtoajkfiighdjpaaW.PrintWords Go.Proofs.YtoajkfiighdjpaaW.PrintLast Go.Proofs.YtoajkfiighdjpaaW.PrintMore
attribute [local go_sem] max2_int min2_int max_two min_two max_three min_three max_four min_four   -- for this text's walks alone
set_option linter.unusedVariables false
set_option linter.unusedSimpArgs false

section
open Go.Proofs.Ytoajkfiighdjpaa.Mth
theorem spec_raFactorial_ev (n : Nat) (h : n ≤ 12) : Ev (fun k => spec_raFactorial.f k (n : Int)) (fact n : Int) := by
  have t : ∀ m : Fin 13, spec_raFactorial.f 20 ((m.1 : Nat) : Int) = some (fact m.1 : Int) := by decide +kernel
  exact Ev.of (spec_raFactorial.mono _) (t ⟨n, by omega⟩)
theorem spec_raUpTo_ev (n : Nat) (h : n ≤ 12) : Ev (fun k => spec_raUpTo.f k (n : Int)) (idL n) := by
  have t : ∀ m : Fin 13, spec_raUpTo.f 20 ((m.1 : Nat) : Int) = some (idL m.1) := by decide +kernel
  exact Ev.of (spec_raUpTo.mono _) (t ⟨n, by omega⟩)
theorem spec_l1Own_eq (l : List Int) (h : l.length < 17592186044416) : spec_l1Own.f l = some l := by
  simp only [spec_l1Own.f, Option.bind_some, List.length_nil, Nat.zero_add, List.nil_append]
  rw [if_pos h]
theorem spec_raWithout_eq (l : List Int) (q : Nat) (h : q < l.length) (hl : l.length ≤ 1000000) : spec_raWithout.f l (q : Int) = some (l.eraseIdx q) := by
  have e : ((q : Int) + 1).toNat = q + 1 := by omega
  have e1 : wrap64 ((q : Int) + 1) = (q : Int) + 1 := w64 (by omega) (by omega)
  have h1 : (0 : Int) ≤ (q : Int) := by omega
  have h2 : (q : Int) ≤ (l.length : Int) := by omega
  have h3 : (l.take (q : Int).toNat).length < 17592186044416 := by rw [List.length_take]; omega
  have h4 : (0 : Int) ≤ (q : Int) + 1 := by omega
  have h5 : (q : Int) + 1 ≤ (l.length : Int) := by omega
  have h6 : (l.take (q : Int).toNat).length + (l.drop ((q : Int) + 1).toNat).length < 17592186044416 := by rw [List.length_take, List.length_drop]; omega
  have e0 := spec_l1Own_eq (l.take (q : Int).toNat) h3
  simp only [spec_raWithout.f, e1]
  rw [if_pos h1, if_pos h2, e0, Option.bind_some, if_pos h4, if_pos h5, if_pos h6, List.eraseIdx_eq_take_drop_succ, e, Int.toNat_natCast]
theorem div_cast (r f : Nat) (hr : r ≤ 4000000000) : wrap64 (Int.tdiv (r : Int) (f : Int)) = ((r / f : Nat) : Int) := by
  have h := Nat.div_le_self r f
  rw [← Int.ofNat_tdiv]
  generalize r / f = q at h
  exact w64 (by omega) (by omega)
theorem mod_cast_ (r f : Nat) : Int.tmod (r : Int) (f : Int) = ((r % f : Nat) : Int) := by rw [← Int.ofNat_tmod]
theorem spec_raAt_ev : ∀ (m : Nat) (r : Nat) (items : List Int), m ≤ 12 → items.length = m → r < fact m → Ev (fun k => spec_raAt.f k items (r : Int)) (atL m items r) := by
  intro m
  induction m with
  | zero =>
    intro r items _ hl _
    refine ev_shift ?_
    simp only [spec_raAt.f]
    exact ev_pos (by omega) (ev_some (by simp [atL]))
  | succ m ih =>
    intro r items hm hl hr
    have hq : r / fact m < m + 1 := fact_div hr
    have hpos := fact_pos m
    have hf12 := fact_12 (n := m + 1) hm
    have hmod := Nat.mod_lt r hpos
    have e1 : wrap64 ((items.length : Int) - 1) = (m : Int) := by rw [w64 (by omega) (by omega)]; omega
    have ed := div_cast r (fact m) (by omega)
    have em := mod_cast_ r (fact m)
    refine ev_shift ?_
    simp only [spec_raAt.f, e1]
    refine ev_neg (by omega) (ev_bind (spec_raFactorial_ev m (by omega)) (ev_neg (by omega) ?_))
    rw [ed, em, atL]
    generalize r / fact m = q at hq
    refine ev_pos (by omega) (ev_pos (by omega) (ev_bind0 rfl (ev_bind0 (spec_raWithout_eq items _ (by omega) (by omega)) ?_)))
    refine ev_bind (ih (r % fact m) (items.eraseIdx q) (by omega) (by rw [List.length_eraseIdx_of_lt (by omega), hl]; rfl) hmod) (ev_pos (by simp only [List.length_cons, List.length_nil, atL_length]; omega) (ev_some ?_))
    rw [rd_nat]; rfl
theorem impl_factorial_ev (n : Nat) (h : n ≤ 12) : Ev (fun k => impl_factorial.f k (n : Int)) (fact n : Int) := by
  have t : ∀ m : Fin 13, impl_factorial.f 20 ((m.1 : Nat) : Int) = some (fact m.1 : Int) := by decide +kernel
  exact Ev.of (impl_factorial.mono _) (t ⟨n, by omega⟩)
theorem impl_identity_ev (n : Nat) (h : n ≤ 12) : Ev (fun k => impl_identity.f k (n : Int)) (idL n) := by
  have t : ∀ m : Fin 13, impl_identity.f 20 ((m.1 : Nat) : Int) = some (idL m.1) := by decide +kernel
  exact Ev.of (impl_identity.mono _) (t ⟨n, by omega⟩)
theorem slices_Delete_one (l : List Int) (q : Nat) (h : q < l.length) (hl : l.length ≤ 9000000000000000000) : slices_Delete_int_int.f l (q : Int) (wrap64 ((q : Int) + 1)) = some (l.eraseIdx q) := by
  rw [w64 (by omega) (by omega)]
  unfold slices_Delete_int_int.f
  have e : ((q : Int) + 1).toNat = q + 1 := by omega
  rw [if_pos ⟨by omega, by omega, by omega⟩, List.eraseIdx_eq_take_drop_succ, e, Int.toNat_natCast]
theorem impl_permutationAt_l0_ev : ∀ (m : Nat) (r : Nat) (left out : List Int), m ≤ 12 → left.length = m → r < fact m → out.length + m ≤ 100 → Ev (fun k => impl_permutationAt.l0 k (r : Int) left out ((m : Int) - 1)) (out ++ atL m left r) := by
  intro m
  induction m with
  | zero =>
    intro r left out _ _ _ _
    refine ev_shift ?_
    simp only [impl_permutationAt.l0]
    exact ev_neg (by omega) (ev_some (by simp [atL]))
  | succ m ih =>
    intro r left out hm hl hr ho
    have hq : r / fact m < m + 1 := fact_div hr
    have hpos := fact_pos m
    have hf12 := fact_12 (n := m + 1) hm
    have hmod := Nat.mod_lt r hpos
    have e1 : (((m + 1 : Nat) : Int) - 1) = (m : Int) := by omega
    have e2 : wrap64 ((m : Int) - 1) = (m : Int) - 1 := w64 (by omega) (by omega)
    have ed := div_cast r (fact m) (by omega)
    have em := mod_cast_ r (fact m)
    refine ev_shift ?_
    simp only [impl_permutationAt.l0, e1]
    refine ev_pos (by omega) (ev_bind (impl_factorial_ev m (by omega)) (ev_neg (by omega) (ev_bind (impl_factorial_ev m (by omega)) (ev_neg (by omega) ?_))))
    rw [ed, em, atL]
    generalize r / fact m = q at hq
    refine ev_pos (by omega) (ev_pos (by omega) (ev_pos (by omega) (ev_bind0 (slices_Delete_one left _ (by omega) (by omega)) ?_)))
    rw [rd_nat, e2]
    have := ih (r % fact m) (left.eraseIdx q) (out ++ [left.getD q 0]) (by omega) (by rw [List.length_eraseIdx_of_lt (by omega), hl]; rfl) hmod (by simp; omega)
    rw [List.append_assoc] at this
    exact this
theorem impl_permutationAt_ev (n r : Nat) (hn : n ≤ 12) (hr : r < fact n) : Ev (fun k => impl_permutationAt.f k (n : Int) (r : Int)) (atL n (idL n) r) := by
  unfold impl_permutationAt.f
  refine ev_bind (impl_identity_ev n hn) ?_
  rw [w64 (by omega) (by omega)]
  exact impl_permutationAt_l0_ev n r (idL n) [] hn (idL_length n) hr (by simp; omega)
theorem impl_within_eq (a b c : Int) : impl_within.f a b c = some (inR a b c) := in_ite a b c
theorem spec_l1In_eq (a b c : Int) : spec_l1In.f a b c = some (inR a b c) := in_ite a b c
theorem ordersL_take (n r : Nat) (h : r < fact n) : (ordersL n).take (r + 1) = (ordersL n).take r ++ [atL n (idL n) r] := by
  rw [List.take_add_one]
  congr 1
  simp [ordersL, h]
theorem ordersL_length (n : Nat) : (ordersL n).length = fact n := by simp [ordersL]
theorem spec_raOrders_ev (n : Nat) (hn : n ≤ 6) : Ev (fun k => spec_raOrders.f k (n : Int)) (ordersL n) := by
  have hf : fact n ≤ 720 := fact_mono hn
  have key : ∀ (d r : Nat), r + d = fact n → Ev (fun k => spec_raOrders.l0 k (n : Int) ((ordersL n).take r) (r : Int)) (ordersL n) := by
    intro d
    induction d with
    | zero =>
      intro r hr
      refine ev_shift ?_
      simp only [spec_raOrders.l0]
      exact ev_bind (spec_raFactorial_ev n (by omega)) (ev_neg (by omega) (ev_some (by rw [List.take_of_length_le]; rw [ordersL_length]; omega)))
    | succ d ih =>
      intro r hr
      have e1 : wrap64 ((r : Int) + 1) = ((r + 1 : Nat) : Int) := by rw [w64 (by omega) (by omega)]; omega
      have h3 := ih (r + 1) (by omega)
      rw [ordersL_take n r (by omega)] at h3
      refine ev_shift ?_
      simp only [spec_raOrders.l0, e1]
      exact ev_bind (spec_raFactorial_ev n (by omega)) (ev_pos (by omega) (ev_bind (spec_raUpTo_ev n (by omega)) (ev_bind (spec_raAt_ev n r _ (by omega) (idL_length n) (by omega)) (ev_pos (by rw [List.length_take]; omega) h3))))
  exact key (fact n) 0 (by omega)
theorem impl_allPermutations_ev (n : Nat) (hn : n ≤ 6) : Ev (fun k => impl_allPermutations.f k (n : Int)) (ordersL n) := by
  have hf : fact n ≤ 720 := fact_mono hn
  unfold impl_allPermutations.f
  refine ev_bind (impl_factorial_ev n (by omega)) ?_
  have key : ∀ (d r : Nat), r + d = fact n → Ev (fun k => impl_allPermutations.l0 k (n : Int) ((ordersL n).take r) (fact n : Int) (r : Int)) (ordersL n) := by
    intro d
    induction d with
    | zero =>
      intro r hr
      refine ev_shift ?_
      simp only [impl_allPermutations.l0]
      exact ev_neg (by omega) (ev_some (by rw [List.take_of_length_le]; rw [ordersL_length]; omega))
    | succ d ih =>
      intro r hr
      have e1 : wrap64 ((r : Int) + 1) = ((r + 1 : Nat) : Int) := by rw [w64 (by omega) (by omega)]; omega
      have h3 := ih (r + 1) (by omega)
      rw [ordersL_take n r (by omega)] at h3
      refine ev_shift ?_
      simp only [impl_allPermutations.l0, e1]
      exact ev_pos (by omega) (ev_bind (impl_permutationAt_ev n r (by omega) (by omega)) (ev_pos (by rw [List.length_take]; omega) h3))
  exact key (fact n) 0 (by omega)
theorem allPm_nat {n : Int} (h : inR n 0 6 = true) : ∃ m : Nat, n = (m : Int) ∧ m ≤ 6 := by
  have h1 := inR_iff.1 h
  obtain ⟨m, rfl⟩ := Int.eq_ofNat_of_zero_le h1.1
  exact ⟨m, rfl, by omega⟩
theorem spec_AllPermutations_ev (n : Int) : Ev (fun k => spec_AllPermutations.f k n) (allPm n) := by
  unfold spec_AllPermutations.f allPm
  refine ev_bind0 (spec_l1In_eq _ _ _) ?_
  by_cases h : inR n 0 6 = true
  · rw [if_pos h]
    obtain ⟨m, rfl, hm⟩ := allPm_nat h
    exact ev_pos h (ev_bind (spec_raOrders_ev m hm) (ev_some (by simp)))
  · rw [if_neg h]; exact ev_neg h (ev_some rfl)
theorem impl_AllPermutations_ev (n : Int) : Ev (fun k => impl_AllPermutations.f k n) (allPm n) := by
  unfold impl_AllPermutations.f allPm
  refine ev_bind0 (impl_within_eq _ _ _) ?_
  by_cases h : inR n 0 6 = true
  · rw [if_pos h]
    obtain ⟨m, rfl, hm⟩ := allPm_nat h
    exact ev_pos h (ev_bind (impl_allPermutations_ev m hm) (ev_some (by simp)))
  · rw [if_neg h]; exact ev_neg h (ev_some rfl)
theorem laws_eqIntS_ev (l : List Int) (hl : l.length ≤ 9000000000000000000) : Ev (fun k => laws_eqIntS.f k l l) true := by
  unfold laws_eqIntS.f
  refine ev_pos rfl ?_
  refine range_all hl (fun pre suf => Ev (fun k => laws_eqIntS.l0 k l l (pre.length : Int)) true) ?_ ?_
  · refine ev_shift ?_
    simp only [laws_eqIntS.l0]
    exact ev_neg (by omega) (ev_some rfl)
  · intro pre x suf h hx h1 h2 h3 ih
    refine ev_shift ?_
    simp only [laws_eqIntS.l0, h3]
    exact ev_pos h1 (ev_pos h2 (ev_pos h1 (ev_pos (by trivial) ih)))
theorem laws_eqIntSS_ev (l : List (List Int)) (hl : l.length ≤ 9000000000000000000) (hr : ∀ x ∈ l, x.length ≤ 9000000000000000000) : Ev (fun k => laws_eqIntSS.f k l l) true := by
  unfold laws_eqIntSS.f
  refine ev_pos rfl ?_
  refine rangeL_ind hl (fun pre suf => Ev (fun k => laws_eqIntSS.l0 k l l (pre.length : Int)) true) ?_ ?_ l [] rfl
  · refine ev_shift ?_
    simp only [laws_eqIntSS.l0]
    exact ev_neg (by omega) (ev_some rfl)
  · intro pre x suf h hx h1 h2 h3 ih
    have e : rd_L1 l (pre.length : Int) = x := hx
    refine ev_shift ?_
    simp only [laws_eqIntSS.l0, h3, e]
    exact ev_pos h1 (ev_pos h2 (ev_pos h1 (ev_bind (laws_eqIntS_ev x (hr x (by rw [h]; simp))) (ev_pos rfl ih))))
theorem laws_markIntS_ev (l : List Int) (m : Int) (h0 : 0 ≤ m) (h1 : m ≤ 1000000000000000000) (hl : l.length ≤ 1000000000000000000) : Ev (fun k => laws_markIntS.f k l m) (m + (l.length : Int), marks l.length m) := by
  have key : (fun (pre suf : List Int) => l.length = pre.length + suf.length → Ev (fun k => laws_markIntS.l0 k (marks pre.length m ++ suf) (m + (pre.length : Int)) (pre.length : Int)) (m + (l.length : Int), marks l.length m)) [] l := by
    refine range_all (l := l) (by omega) (fun pre suf => l.length = pre.length + suf.length → Ev (fun k => laws_markIntS.l0 k (marks pre.length m ++ suf) (m + (pre.length : Int)) (pre.length : Int)) (m + (l.length : Int), marks l.length m)) ?_ ?_
    · intro _
      refine ev_shift ?_
      simp only [laws_markIntS.l0]
      exact ev_neg (by simp [marks_length]) (ev_some (by simp))
    · intro pre x suf h hx h1 h2 h3 ih hlen
      simp only [List.length_cons] at hlen
      refine ev_shift ?_
      have e : (marks pre.length m ++ x :: suf).set (pre.length : Int).toNat (m + (pre.length : Int)) = marks (pre ++ [x]).length m ++ suf := by
        have := set_at (marks pre.length m) x (m + (pre.length : Int)) suf
        rw [marks_length] at this
        rw [this, List.length_append, List.length_singleton, marks_snoc]; simp
      simp only [laws_markIntS.l0, h3, e]
      refine ev_pos (by simp [marks_length]; omega) (ev_pos h2 ?_)
      rw [w64 (by omega) (by omega)]
      have := ih (by simp; omega)
      simp only [List.length_append, List.length_singleton] at this ⊢
      rw [show m + (pre.length : Int) + 1 = m + ((pre.length + 1 : Nat) : Int) by omega]
      exact this
  have := key (by simp)
  unfold laws_markIntS.f
  simpa [marks] using this
theorem laws_markIntSS_ev (l : List (List Int)) (m : Int) (h0 : 0 ≤ m) (h1 : m ≤ 1000000000000000) (hl : l.length ≤ 1000000000000000) (ht : totL l ≤ 1000000000000000) : Ev (fun k => laws_markIntSS.f k l m) (m + (totL l : Int), marksL m l) := by
  have key : ∀ suf pre, l = pre ++ suf → Ev (fun k => laws_markIntSS.l0 k (marksL m pre ++ suf) (m + (totL pre : Int)) (pre.length : Int)) (m + (totL l : Int), marksL m l) := by
    refine rangeL_ind (by omega) (fun pre suf => Ev (fun k => laws_markIntSS.l0 k (marksL m pre ++ suf) (m + (totL pre : Int)) (pre.length : Int)) (m + (totL l : Int), marksL m l)) ?_ ?_
    · refine ev_shift ?_
      simp only [laws_markIntSS.l0]
      exact ev_neg (by simp [marksL_length]) (ev_some (by simp))
    · intro pre x suf h hx g1 g2 g3 ih
      have htl : totL l = totL pre + (x.length + totL suf) := by rw [h, totL_append]; rfl
      have ep : ((marksL m pre).length : Int) = (pre.length : Int) := by rw [marksL_length]
      have e1 : (marksL m pre ++ x :: suf).getD ((pre.length : Int)).toNat [] = x := by rw [← ep]; exact rowget_at _ _ _
      have e2 : (marksL m pre ++ x :: suf).set ((pre.length : Int)).toNat (marks x.length (m + (totL pre : Int))) = marksL m (pre ++ [x]) ++ suf := by
        rw [← ep, rowset_at, marksL_snoc]; simp
      refine ev_shift ?_
      simp only [laws_markIntSS.l0, e1, g3]
      refine ev_pos (by simp [marksL_length]; omega) (ev_pos g2 (ev_bind (laws_markIntS_ev x _ (by omega) (by omega) (by omega)) ?_))
      dsimp only
      rw [e2, show m + (totL pre : Int) + (x.length : Int) = m + (totL (pre ++ [x]) : Int) by rw [totL_append]; simp [totL]; omega]
      exact ih
  have := key l [] rfl
  unfold laws_markIntSS.f
  simpa [marksL, totL] using this
theorem laws_heldIntS_ev (n : Nat) (m : Int) (h0 : 0 ≤ m) (h1 : m ≤ 1000000000000000000) (hl : n ≤ 1000000000000000000) : Ev (fun k => laws_heldIntS.f k (marks n m) m) (m + (n : Int)) := by
  have key : (fun (pre suf : List Int) => n = pre.length + suf.length → Ev (fun k => laws_heldIntS.l0 k (marks n m) (m + (pre.length : Int)) (pre.length : Int)) (m + (n : Int))) [] (marks n m) := by
    refine range_all (l := marks n m) (by rw [marks_length]; omega) (fun pre suf => n = pre.length + suf.length → Ev (fun k => laws_heldIntS.l0 k (marks n m) (m + (pre.length : Int)) (pre.length : Int)) (m + (n : Int))) ?_ ?_
    · intro _
      refine ev_shift ?_
      simp only [laws_heldIntS.l0, marks_length]
      exact ev_neg (by omega) (ev_some (by simp))
    · intro pre x suf h hx h1 h2 h3 ih hlen
      simp only [List.length_cons] at hlen
      refine ev_shift ?_
      have e : rd (marks n m) (pre.length : Int) = m + (pre.length : Int) := marks_rd n m pre.length (by omega)
      simp only [laws_heldIntS.l0, h3, e]
      refine ev_pos h1 (ev_pos h2 (ev_pos (by trivial) ?_))
      rw [w64 (by omega) (by omega)]
      have := ih (by simp; omega)
      simp only [List.length_append, List.length_singleton] at this ⊢
      rw [show m + (pre.length : Int) + 1 = m + ((pre.length + 1 : Nat) : Int) by omega]
      exact this
  have := key (by simp [marks_length])
  unfold laws_heldIntS.f
  simpa [marks] using this
theorem laws_heldIntSS_ev (l : List (List Int)) (m : Int) (h0 : 0 ≤ m) (h1 : m ≤ 1000000000000000) (hl : l.length ≤ 1000000000000000) (ht : totL l ≤ 1000000000000000) : Ev (fun k => laws_heldIntSS.f k (marksL m l) m) (m + (totL l : Int)) := by
  have key : ∀ suf pre, l = pre ++ suf → Ev (fun k => laws_heldIntSS.l0 k (marksL m l) (m + (totL pre : Int)) (pre.length : Int)) (m + (totL l : Int)) := by
    refine rangeL_ind (by omega) (fun pre suf => Ev (fun k => laws_heldIntSS.l0 k (marksL m l) (m + (totL pre : Int)) (pre.length : Int)) (m + (totL l : Int))) ?_ ?_
    · refine ev_shift ?_
      simp only [laws_heldIntSS.l0, marksL_length]
      exact ev_neg (by omega) (ev_some (by simp))
    · intro pre x suf h hx g1 g2 g3 ih
      have htl : totL l = totL pre + (x.length + totL suf) := by rw [h, totL_append]; rfl
      have e1 : rd_L1 (marksL m l) (pre.length : Int) = marks x.length (m + (totL pre : Int)) := by
        have ep : ((marksL m pre).length : Int) = (pre.length : Int) := by rw [marksL_length]
        have e : marksL m l = marksL m pre ++ marks x.length (m + (totL pre : Int)) :: marksL (m + (totL (pre ++ [x]) : Int)) suf := by
          have : l = (pre ++ [x]) ++ suf := by rw [h]; simp
          rw [this]
          have gen : ∀ (a b : List (List Int)) (m : Int), marksL m (a ++ b) = marksL m a ++ marksL (m + (totL a : Int)) b := by
            intro a
            induction a with
            | nil => intro b m; simp [marksL, totL]
            | cons y r ihh =>
              intro b m
              simp only [List.cons_append, marksL, ihh, totL]
              congr 3
              omega
          rw [gen, marksL_snoc]; simp
        have := rowget_at (marksL m pre) (marks x.length (m + (totL pre : Int))) (marksL (m + (totL (pre ++ [x]) : Int)) suf)
        rw [e, ← ep]
        exact this
      refine ev_shift ?_
      simp only [laws_heldIntSS.l0, e1, g3, marksL_length]
      refine ev_pos g1 (ev_pos g2 (ev_bind (laws_heldIntS_ev x.length _ (by omega) (by omega) (by omega)) (ev_neg (by omega) ?_)))
      rw [show m + (totL pre : Int) + (x.length : Int) = m + (totL (pre ++ [x]) : Int) by rw [totL_append]; simp [totL]; omega]
      exact ih
  have := key l [] rfl
  unfold laws_heldIntSS.f
  simpa [totL] using this
/-! ### laws_FnExactAllPermutations: function 6, by hand -/
def laws_FnExactAllPermutations.f (a0 : Int) : Option (Bool) := some true
set_option maxHeartbeats 4000000 in
theorem laws_FnExactAllPermutations.calls (a0 : Int) (r : Bool) (w : World) (h : laws_FnExactAllPermutations.f a0 = some r) :
    Calls Try.prog 6 #[.int .i64 a0] w fun e w' => e = .returned (.bool r) ∧ Below w.heap.size w w' := by
  obtain rfl := Option.some.inj h
  clear h
  have hlen : (allPm a0).1.length ≤ 4096 ∧ ∀ x ∈ (allPm a0).1, x.length ≤ 12 := allPm_len a0
  obtain ⟨k1, e1⟩ := Ev.rounds (spec_AllPermutations_ev a0)
  obtain ⟨k2, e2⟩ := Ev.rounds (impl_AllPermutations_ev a0)
  generalize allPm a0 = p at hlen e1 e2
  obtain ⟨L, ok⟩ := p
  simp only at hlen
  have ht := totL_le L 12 hlen.2
  obtain ⟨k3, e3⟩ := Ev.rounds (laws_eqIntSS_ev L (by omega) (fun x hx => by have := hlen.2 x hx; omega))
  obtain ⟨k4, e4⟩ := Ev.rounds (laws_markIntSS_ev L 1 (by omega) (by omega) (by omega) (by omega))
  obtain ⟨k5, e5⟩ := Ev.rounds (laws_heldIntSS_ev L 1 (by omega) (by omega) (by omega) (by omega))
  obtain ⟨T, hT⟩ : ∃ T : Int, T = 1 + (totL L : Int) := ⟨_, rfl⟩
  rw [← hT] at e4 e5
  have t0 : decide (T < 0) = false := decide_eq_false (by omega)
  obtain ⟨M, hM⟩ : ∃ M, M = marksL 1 L := ⟨_, rfl⟩
  rw [← hM] at e4 e5
  have E1 := Aside0.mk e1
  have E2 := Aside0.mk e2
  have E3 := Aside0.mk e3
  have E4 := Aside0.mk e4
  have E5 := Aside0.mk e5
  clear e1 e2 e3 e4 e5 hT hM hlen ht
  have ob : (ok != ok) = false := by cases ok <;> rfl
  go_enter Try.func6, Try.ntmps6
  go_wp2_with (first | (go_at_call 22; with_reducible refine (spec_AllPermutations.calls k1 a0 L ok _ E1.out).mono ?_; rintro e w1 ⟨v0, rfl, hS, hb⟩))
  obtain ⟨A0, c0, rfl⟩ := Kd.R_slice (Kd.S_R hS)
  have HS0 := Aside0.mk (Kd.S_old hS (Below.refl _ _))
  have HB1 := Aside0.mk hb
  clear hS hb
  go_wp2_with (first | (go_at_call 23; with_reducible refine (impl_AllPermutations.calls k2 a0 L ok _ E2.out).mono ?_; rintro e w2 ⟨v1, rfl, hS, hb⟩))
  obtain ⟨A1, c1, rfl⟩ := Kd.R_slice (Kd.S_R hS)
  have n0_ := Aside0.mk (Kd.S_below HS0.out hb)
  have HS1 := Aside0.mk (Kd.S_mono (ok' := fun k => w1.heap.size ≤ k) (Kd.S_bound hS) (fun k hk => hk.2.1))
  have HB2 := Aside0.mk hb
  clear hS hb HS0
  have HS0 := n0_
  clear n0_
  go_wp2_with (first | (go_at_call 11; with_reducible refine (laws_eqIntSS.calls k3 A1 c1 L A0 c0 L true _ (Kd.R_reads' (Kd.S_R HS1.out)).2.2 (Kd.R_reads' (Kd.S_R HS1.out)).2.1 (Kd.R_reads' (Kd.S_R HS0.out)).2.2 (Kd.R_reads' (Kd.S_R HS0.out)).2.1 E3.out).mono ?_; rintro e w' ⟨rfl, ⟨nd, rfl⟩⟩))
  go_wp2_with (first | (go_at_call 12; refine (laws_markIntSS.calls k4 (fun k => w1.heap.size ≤ k) _ L 1 T M w1 _ (pw_below_drewN HB2.out nd) (Kd.S_drewN HS1.out nd) E4.out).mono ?_; rintro e w4 ⟨rfl, hS, hb, hk⟩))
  have n0_ := Aside0.mk (Kd.S_kept (Kd.S_drewN HS0.out nd) hk (fun k h1 h2 => by have := h1.2; omega))
  have n1_ := Aside0.mk hS
  have HB4 := Aside0.mk hb
  have hml := (Kd.R_reads' (Kd.S_R hS)).1
  clear hS hb hk HS0 HS1
  have HS0 := n0_
  have HS1 := n1_
  clear n0_ n1_
  rw [hml] at HS1
  have HML := Aside0.mk hml
  clear hml
  go_wp2_with (first | (go_at_call 13; refine calls_of_args (args' := #[.slice A1 M.length c1, .int .i64 1]) (by rw [← HML.out]) ?_; with_reducible refine (laws_heldIntSS.calls k5 A1 c1 M 1 T _ (Kd.R_reads' (Kd.S_R HS1.out)).2.2 (Kd.R_reads' (Kd.S_R HS1.out)).2.1 E5.out).mono ?_; rintro e w' ⟨rfl, ⟨nd5, rfl⟩⟩))
  go_wp2_with (first | (go_at_call 23; with_reducible refine (impl_AllPermutations.calls k2 a0 L ok _ E2.out).mono ?_; rintro e w6 ⟨v2, rfl, hS, hb⟩))
  obtain ⟨A2, c2, rfl⟩ := Kd.R_slice (Kd.S_R hS)
  have n0_ := Aside0.mk (Kd.S_below (Kd.S_drewN HS0.out nd5) hb)
  have n1_ := Aside0.mk (Kd.S_below (Kd.S_drewN HS1.out nd5) hb)
  have HS2 := Aside0.mk hS
  have HB6 := Aside0.mk hb
  clear hS hb HS0 HS1
  have HS0 := n0_
  have HS1 := n1_
  clear n0_ n1_
  go_wp2_with (first | (go_at_call 11; with_reducible refine (laws_eqIntSS.calls k3 A2 c2 L A0 c0 L true _ (Kd.R_reads' (Kd.S_R HS2.out)).2.2 (Kd.R_reads' (Kd.S_R HS2.out)).2.1 (Kd.R_reads' (Kd.S_R HS0.out)).2.2 (Kd.R_reads' (Kd.S_R HS0.out)).2.1 E3.out).mono ?_; rintro e w' ⟨rfl, ⟨nd7, rfl⟩⟩))
  go_wp2_with (first | (go_at_call 13; refine calls_of_args (args' := #[.slice A1 M.length c1, .int .i64 1]) (by rw [← HML.out]) ?_; with_reducible refine (laws_heldIntSS.calls k5 A1 c1 M 1 T _ (Kd.C_drewN (Kd.R_reads' (Kd.S_R HS1.out)).2.2 nd7) (Kd.R_reads' (Kd.S_R HS1.out)).2.1 E5.out).mono ?_; rintro e w' ⟨rfl, ⟨nd8, rfl⟩⟩))
  go_ret
  refine ⟨rfl, ?_⟩
  refine pw_below_drewN ?_ _
  refine below_step (pw_below_drewN ?_ _) HB6.out
  exact below_step HB1.out HB4.out
end

/-- THE ONE PURE STATEMENT of laws_FnExactAllPermutations: yours. -/
def laws_FnExactAllPermutations.Pure : Prop := ∀ (a0 : Int), (Lit.int .i64 a0).wf = true → laws_FnExactAllPermutations.f a0 = some true
theorem laws_FnExactAllPermutations.walk (P : laws_FnExactAllPermutations.Pure) (a0 : Int) (w : World) (w0 : (Lit.int .i64 a0).wf = true) :
    Calls Try.prog 6 #[.int .i64 a0] w fun e w' => e = .returned (.bool true) ∧ Below w.heap.size w w' := by
  have h := P a0 w0
  refine (laws_FnExactAllPermutations.calls a0 true w h).mono ?_
  rintro e w' ⟨rfl, hd⟩
  exact ⟨rfl, hd⟩

end Go.Proofs.Ytoajkfiighdjpaa.PFnExactAllPermutations
