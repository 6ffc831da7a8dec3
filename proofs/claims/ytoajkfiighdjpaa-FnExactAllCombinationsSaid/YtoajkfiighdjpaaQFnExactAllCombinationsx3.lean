/- What the law's functions compute, and that the calls come to just that: turned from a printed text. No condition. -/
import Derived.Test.YtoajkfiighdjpaaQFnExactAllCombinationsx0
import Derived.Test.YtoajkfiighdjpaaQFnExactAllCombinationsx1
import Derived.Test.YtoajkfiighdjpaaQFnExactAllCombinationsx2
namespace Go.Proofs.Ytoajkfiighdjpaa.PFnExactAllCombinations
open Go.RowKit Go.Proofs.YtoajkfiighdjpaaW.PrintWords Go.Proofs.YtoajkfiighdjpaaW.PrintLast Go.Proofs.YtoajkfiighdjpaaW.PrintMore
attribute [local go_sem] max2_int min2_int max_two min_two max_three min_three max_four min_four   -- for this text's walks alone
set_option linter.unusedVariables false
set_option linter.unusedSimpArgs false

section
open Go.Proofs.Ytoajkfiighdjpaa.Mth
theorem spec_l1In_eq (a b c : Int) : spec_l1In.f a b c = some (inR a b c) := in_ite a b c
theorem spec_raItems_eq (a : Int) : spec_raItems.f a = some (inR a 0 12) := by simp only [spec_raItems.f, spec_l1In_eq, Option.bind_some]
theorem spec_raAll_l1 (n kk x : Int) (t : List (List Int)) (ht : ∀ r ∈ t, r.length ≤ 12) (htl : t.length ≤ 100000) (R : List (List Int)) : ∀ suf pre, t = pre ++ suf → ∀ out : List (List Int), out.length + suf.length ≤ 100000 →
    Ev (fun k => spec_raAll.l0 k n kk (out ++ suf.map (fun r => x :: r)) (wrap64 (x + 1))) R → Ev (fun k => spec_raAll.l1 k n kk out x t (t.length : Int) (pre.length : Int)) R := by
  refine rangeL_ind (by omega) (fun pre suf => ∀ out : List (List Int), out.length + suf.length ≤ 100000 →
    Ev (fun k => spec_raAll.l0 k n kk (out ++ suf.map (fun r => x :: r)) (wrap64 (x + 1))) R → Ev (fun k => spec_raAll.l1 k n kk out x t (t.length : Int) (pre.length : Int)) R) ?_ ?_
  · intro out _ h
    refine ev_shift ?_
    simp only [spec_raAll.l1]
    refine ev_neg (by omega) ?_
    simpa using h
  · intro pre r suf h hx h1 h2 h3 ih out ho hk
    simp only [List.length_cons] at ho
    have hr : r.length ≤ 12 := ht r (by rw [h]; simp)
    have e : rd_L1 t (pre.length : Int) = r := hx
    refine ev_shift ?_
    simp only [spec_raAll.l1, e, h3, Option.bind_some, List.length_singleton, List.singleton_append]
    refine ev_pos h1 (ev_pos h2 (ev_pos h1 (ev_pos (by omega) (ev_pos (by omega) ?_))))
    refine ih _ (by simp; omega) ?_
    simpa using hk
theorem spec_raAll_ev (j : Nat) (hj : j ≤ 12) : ∀ m f : Nat, f + m ≤ 12 → Ev (fun k => spec_raAll.f k ((f + m : Nat) : Int) (j : Int) (f : Int)) (lexL f m j) := by
  induction j with
  | zero =>
    intro m f _
    refine ev_shift ?_
    simp only [spec_raAll.f]
    exact ev_pos rfl (ev_some (by rw [lexL_zero]))
  | succ j ih =>
    intro m f hm
    refine ev_shift ?_
    simp only [spec_raAll.f]
    refine ev_neg (by omega) ?_
    have e2 : wrap64 (((j + 1 : Nat) : Int) - 1) = (j : Int) := by rw [w64 (by omega) (by omega)]; omega
    have key : ∀ (d f : Nat) (out : List (List Int)), f + d ≤ 12 → out.length + C d (j + 1) ≤ 100000 → Ev (fun k => spec_raAll.l0 k ((f + d : Nat) : Int) ((j + 1 : Nat) : Int) out (f : Int)) (out ++ lexL f d (j + 1)) := by
      intro d
      induction d with
      | zero =>
        intro f out _ _
        refine ev_shift ?_
        simp only [spec_raAll.l0]
        exact ev_neg (by omega) (ev_some (by rw [lexL_none, List.append_nil]))
      | succ d ihd =>
        intro f out hf ho
        rw [C_succ] at ho
        have e1 : wrap64 ((f : Int) + 1) = ((f + 1 : Nat) : Int) := by rw [w64 (by omega) (by omega)]; omega
        have e3 : ((f + (d + 1) : Nat) : Int) = ((f + 1 + d : Nat) : Int) := by omega
        have hl := lexL_length (f + 1) d j
        refine ev_shift ?_
        simp only [spec_raAll.l0]
        rw [e1, e2]
        refine ev_pos (by omega) (ev_bind (by rw [e3]; exact ih (by omega) d (f + 1) (by omega)) ?_)
        refine spec_raAll_l1 _ _ _ (lexL (f + 1) d j) (fun r hr => by rw [lexL_mem_length hr]; omega) (by rw [hl]; have := C_12 j (n := d) (by omega); omega) _ (lexL (f + 1) d j) [] rfl out (by rw [hl]; omega) ?_
        rw [e1, e3, lexL_succ, ← List.append_assoc]
        exact ihd (f + 1) _ (by omega) (by simp [hl]; omega)
    have := key m f [] hm (by have := C_12 (j + 1) (n := m) (by omega); simp; omega)
    simpa using this
theorem impl_within_eq (a b c : Int) : impl_within.f a b c = some (inR a b c) := in_ite a b c
theorem impl_binomial_ev (n : Nat) (k : Nat) (h : n ≤ 13) (hk : k ≤ 14) : Ev (fun j => impl_binomial.f j (n : Int) (k : Int)) (C n k : Int) := by
  have t : ∀ (a : Fin 14) (b : Fin 15), impl_binomial.f 20 ((a.1 : Nat) : Int) ((b.1 : Nat) : Int) = some (C a.1 b.1 : Int) := by decide +kernel
  exact Ev.of (impl_binomial.mono _ _) (t ⟨n, by omega⟩ ⟨k, by omega⟩)
theorem impl_combinationAt_l0 (m : Nat) : ∀ (f j r : Nat) (out : List Int), f + m ≤ 12 → out.length + j ≤ 12 → r < C m j →
    Ev (fun k => impl_combinationAt.l0 k ((f + m : Nat) : Int) ((out.length + j : Nat) : Int) (r : Int) out (f : Int)) (out ++ unrankL f m j r) := by
  induction m with
  | zero =>
    intro f j r out hf ho hr
    refine ev_shift ?_
    simp only [impl_combinationAt.l0]
    cases j with
    | zero => exact ev_neg (by omega) (ev_some (by rw [unrankL_zero, List.append_nil]))
    | succ j => exact absurd hr (by simp [C])
  | succ m ih =>
    intro f j r out hf ho hr
    refine ev_shift ?_
    simp only [impl_combinationAt.l0]
    cases j with
    | zero => exact ev_neg (by omega) (ev_some (by rw [unrankL_zero, List.append_nil]))
    | succ j =>
      have e1 : wrap64 (wrap64 (((f + (m + 1) : Nat) : Int) - (f : Int)) - 1) = (m : Int) := by
        rw [w64 (x := ((f + (m + 1) : Nat) : Int) - (f : Int)) (by omega) (by omega), w64 (by omega) (by omega)]; omega
      have e2 : wrap64 (wrap64 (((out.length + (j + 1) : Nat) : Int) - (out.length : Int)) - 1) = (j : Int) := by
        rw [w64 (x := ((out.length + (j + 1) : Nat) : Int) - (out.length : Int)) (by omega) (by omega), w64 (by omega) (by omega)]; omega
      have e3 : wrap64 ((f : Int) + 1) = ((f + 1 : Nat) : Int) := by rw [w64 (by omega) (by omega)]; omega
      have e4 : ((f + (m + 1) : Nat) : Int) = ((f + 1 + m : Nat) : Int) := by omega
      have b := C_12 j (n := m) (by omega)
      have b' := C_12 (j + 1) (n := m) (by omega)
      rw [e1, e2, e3, unrankL_succ]
      rw [C_succ] at hr
      refine ev_pos (by omega) (ev_bind (impl_binomial_ev m j (by omega) (by omega)) ?_)
      by_cases h : r < C m j
      · rw [if_pos h]
        refine ev_pos (by omega) (ev_pos (by omega) ?_)
        have := ih (f + 1) j r (out ++ [(f : Int)]) (by omega) (by simp; omega) h
        rw [List.append_assoc, List.singleton_append] at this
        rw [e4]
        have e5 : (out ++ [(f : Int)]).length + j = out.length + (j + 1) := by simp; omega
        rw [e5] at this
        exact this
      · rw [if_neg h]
        refine ev_neg (by omega) ?_
        have e6 : wrap64 ((r : Int) - (C m j : Int)) = ((r - C m j : Nat) : Int) := by rw [w64 (by omega) (by omega)]; omega
        rw [e6, e4]
        exact ih (f + 1) (j + 1) (r - C m j) out (by omega) (by omega) (by omega)
theorem impl_combinationAt_ev (n j r : Nat) (hn : n ≤ 12) (hj : j ≤ 12) (hr : r < C n j) : Ev (fun k => impl_combinationAt.f k (n : Int) (j : Int) (r : Int)) (unrankL 0 n j r) := by
  have := impl_combinationAt_l0 n 0 j r [] (by omega) (by simp; omega) hr
  simpa [impl_combinationAt.f] using this
theorem spec_AllCombinations_ev (n k : Int) : Ev (fun j => spec_AllCombinations.f j n k) (allC n k) := by
  unfold spec_AllCombinations.f allC
  refine ev_bind0 (spec_raItems_eq _) ?_
  by_cases h : inR n 0 12 = true
  · refine ev_pos h (ev_bind0 (spec_raItems_eq _) ?_)
    by_cases hk : inR k 0 12 = true
    · have h' := inR_iff.1 h
      have hk' := inR_iff.1 hk
      obtain ⟨m, rfl⟩ := Int.eq_ofNat_of_zero_le h'.1
      obtain ⟨i, rfl⟩ := Int.eq_ofNat_of_zero_le hk'.1
      have := spec_raAll_ev i (by omega) m 0 (by omega)
      rw [Nat.zero_add] at this
      refine ev_pos hk (ev_bind this (ev_some ?_))
      rw [if_pos ⟨h, hk⟩]; simp
    · exact ev_neg hk (ev_some (by rw [if_neg (fun c => hk c.2)]))
  · exact ev_neg h (ev_some (by rw [if_neg (fun c => h c.1)]))
theorem impl_allCombinations_ev (n k : Nat) (hn : n ≤ 12) (hk : k ≤ 12) : Ev (fun j => impl_allCombinations.f j (n : Int) (k : Int)) (lexL 0 n k) := by
  unfold impl_allCombinations.f
  have hC := C_12 k (n := n) hn
  refine ev_bind (impl_binomial_ev n k (by omega) (by omega)) ?_
  have key : ∀ (d r : Nat), r + d = C n k → Ev (fun j => impl_allCombinations.l0 j (n : Int) (k : Int) ((lexL 0 n k).take r) (C n k : Int) (r : Int)) (lexL 0 n k) := by
    intro d
    induction d with
    | zero =>
      intro r hr
      refine ev_shift ?_
      simp only [impl_allCombinations.l0]
      exact ev_neg (by omega) (ev_some (by rw [List.take_of_length_le]; rw [lexL_length]; omega))
    | succ d ih =>
      intro r hr
      have hlt : r < C n k := by omega
      have hkn : k ≤ n := by
        rcases Nat.lt_or_ge n k with h | h
        · rw [C_gt h] at hlt; omega
        · exact h
      have e1 : wrap64 ((r : Int) + 1) = ((r + 1 : Nat) : Int) := by rw [w64 (by omega) (by omega)]; omega
      have e2 : (lexL 0 n k).take (r + 1) = (lexL 0 n k).take r ++ [unrankL 0 n k r] := by
        rw [List.take_add_one, lexL_at 0 n k r hlt]; rfl
      have h3 := ih (r + 1) (by omega)
      rw [e2] at h3
      refine ev_shift ?_
      simp only [impl_allCombinations.l0, e1]
      exact ev_pos (by omega) (ev_bind (impl_combinationAt_ev n k r (by omega) (by omega) hlt) (ev_pos (by rw [List.length_take]; omega) h3))
  exact key (C n k) 0 (by omega)
theorem impl_AllCombinations_ev (n k : Int) : Ev (fun j => impl_AllCombinations.f j n k) (allC n k) := by
  unfold impl_AllCombinations.f allC
  refine ev_bind0 (impl_within_eq _ _ _) ?_
  by_cases h : inR n 0 12 = true
  · refine ev_pos h (ev_bind0 (impl_within_eq _ _ _) ?_)
    by_cases hk : inR k 0 12 = true
    · have h' := inR_iff.1 h
      have hk' := inR_iff.1 hk
      obtain ⟨m, rfl⟩ := Int.eq_ofNat_of_zero_le h'.1
      obtain ⟨i, rfl⟩ := Int.eq_ofNat_of_zero_le hk'.1
      refine ev_pos hk (ev_bind (impl_allCombinations_ev m i (by omega) (by omega)) (ev_some ?_))
      rw [if_pos ⟨h, hk⟩]; simp
    · exact ev_neg hk (ev_some (by rw [if_neg (fun c => hk c.2)]))
  · exact ev_neg h (ev_some (by rw [if_neg (fun c => h c.1)]))
theorem laws_eqIntS_ev (l : List Int) (hl : l.length ≤ 9000000000000000000) : Ev (fun k => laws_eqIntS.f k l l) true := by
  unfold laws_eqIntS.f
  refine ev_pos rfl ?_
  refine range_all hl (fun pre suf => Ev (fun k => laws_eqIntS.l0 k l l (pre.length : Int)) true) ?_ ?_
  · refine ev_shift ?_
    simp only [laws_eqIntS.l0]
    exact ev_neg (by omega) (ev_some rfl)
  · intro pre x suf h hx h1 h2 h3 ih
    refine ev_shift ?_
    simp only [laws_eqIntS.l0, h3]
    exact ev_pos h1 (ev_pos h2 (ev_pos h1 (ev_pos (by trivial) ih)))
theorem laws_eqIntSS_ev (l : List (List Int)) (hl : l.length ≤ 9000000000000000000) (hr : ∀ x ∈ l, x.length ≤ 9000000000000000000) : Ev (fun k => laws_eqIntSS.f k l l) true := by
  unfold laws_eqIntSS.f
  refine ev_pos rfl ?_
  refine rangeL_ind hl (fun pre suf => Ev (fun k => laws_eqIntSS.l0 k l l (pre.length : Int)) true) ?_ ?_ l [] rfl
  · refine ev_shift ?_
    simp only [laws_eqIntSS.l0]
    exact ev_neg (by omega) (ev_some rfl)
  · intro pre x suf h hx h1 h2 h3 ih
    have e : rd_L1 l (pre.length : Int) = x := hx
    refine ev_shift ?_
    simp only [laws_eqIntSS.l0, h3, e]
    exact ev_pos h1 (ev_pos h2 (ev_pos h1 (ev_bind (laws_eqIntS_ev x (hr x (by rw [h]; simp))) (ev_pos rfl ih))))
theorem laws_markIntS_ev (l : List Int) (m : Int) (h0 : 0 ≤ m) (h1 : m ≤ 1000000000000000000) (hl : l.length ≤ 1000000000000000000) : Ev (fun k => laws_markIntS.f k l m) (m + (l.length : Int), marks l.length m) := by
  have key : (fun (pre suf : List Int) => l.length = pre.length + suf.length → Ev (fun k => laws_markIntS.l0 k (marks pre.length m ++ suf) (m + (pre.length : Int)) (pre.length : Int)) (m + (l.length : Int), marks l.length m)) [] l := by
    refine range_all (l := l) (by omega) (fun pre suf => l.length = pre.length + suf.length → Ev (fun k => laws_markIntS.l0 k (marks pre.length m ++ suf) (m + (pre.length : Int)) (pre.length : Int)) (m + (l.length : Int), marks l.length m)) ?_ ?_
    · intro _
      refine ev_shift ?_
      simp only [laws_markIntS.l0]
      exact ev_neg (by simp [marks_length]) (ev_some (by simp))
    · intro pre x suf h hx h1 h2 h3 ih hlen
      simp only [List.length_cons] at hlen
      refine ev_shift ?_
      have e : (marks pre.length m ++ x :: suf).set (pre.length : Int).toNat (m + (pre.length : Int)) = marks (pre ++ [x]).length m ++ suf := by
        have := set_at (marks pre.length m) x (m + (pre.length : Int)) suf
        rw [marks_length] at this
        rw [this, List.length_append, List.length_singleton, marks_snoc]; simp
      simp only [laws_markIntS.l0, h3, e]
      refine ev_pos (by simp [marks_length]; omega) (ev_pos h2 ?_)
      rw [w64 (by omega) (by omega)]
      have := ih (by simp; omega)
      simp only [List.length_append, List.length_singleton] at this ⊢
      rw [show m + (pre.length : Int) + 1 = m + ((pre.length + 1 : Nat) : Int) by omega]
      exact this
  have := key (by simp)
  unfold laws_markIntS.f
  simpa [marks] using this
theorem laws_markIntSS_ev (l : List (List Int)) (m : Int) (h0 : 0 ≤ m) (h1 : m ≤ 1000000000000000) (hl : l.length ≤ 1000000000000000) (ht : totL l ≤ 1000000000000000) : Ev (fun k => laws_markIntSS.f k l m) (m + (totL l : Int), marksL m l) := by
  have key : ∀ suf pre, l = pre ++ suf → Ev (fun k => laws_markIntSS.l0 k (marksL m pre ++ suf) (m + (totL pre : Int)) (pre.length : Int)) (m + (totL l : Int), marksL m l) := by
    refine rangeL_ind (by omega) (fun pre suf => Ev (fun k => laws_markIntSS.l0 k (marksL m pre ++ suf) (m + (totL pre : Int)) (pre.length : Int)) (m + (totL l : Int), marksL m l)) ?_ ?_
    · refine ev_shift ?_
      simp only [laws_markIntSS.l0]
      exact ev_neg (by simp [marksL_length]) (ev_some (by simp))
    · intro pre x suf h hx g1 g2 g3 ih
      have htl : totL l = totL pre + (x.length + totL suf) := by rw [h, totL_append]; rfl
      have ep : ((marksL m pre).length : Int) = (pre.length : Int) := by rw [marksL_length]
      have e1 : (marksL m pre ++ x :: suf).getD ((pre.length : Int)).toNat [] = x := by rw [← ep]; exact rowget_at _ _ _
      have e2 : (marksL m pre ++ x :: suf).set ((pre.length : Int)).toNat (marks x.length (m + (totL pre : Int))) = marksL m (pre ++ [x]) ++ suf := by
        rw [← ep, rowset_at, marksL_snoc]; simp
      refine ev_shift ?_
      simp only [laws_markIntSS.l0, e1, g3]
      refine ev_pos (by simp [marksL_length]; omega) (ev_pos g2 (ev_bind (laws_markIntS_ev x _ (by omega) (by omega) (by omega)) ?_))
      dsimp only
      rw [e2, show m + (totL pre : Int) + (x.length : Int) = m + (totL (pre ++ [x]) : Int) by rw [totL_append]; simp [totL]; omega]
      exact ih
  have := key l [] rfl
  unfold laws_markIntSS.f
  simpa [marksL, totL] using this
theorem laws_heldIntS_ev (n : Nat) (m : Int) (h0 : 0 ≤ m) (h1 : m ≤ 1000000000000000000) (hl : n ≤ 1000000000000000000) : Ev (fun k => laws_heldIntS.f k (marks n m) m) (m + (n : Int)) := by
  have key : (fun (pre suf : List Int) => n = pre.length + suf.length → Ev (fun k => laws_heldIntS.l0 k (marks n m) (m + (pre.length : Int)) (pre.length : Int)) (m + (n : Int))) [] (marks n m) := by
    refine range_all (l := marks n m) (by rw [marks_length]; omega) (fun pre suf => n = pre.length + suf.length → Ev (fun k => laws_heldIntS.l0 k (marks n m) (m + (pre.length : Int)) (pre.length : Int)) (m + (n : Int))) ?_ ?_
    · intro _
      refine ev_shift ?_
      simp only [laws_heldIntS.l0, marks_length]
      exact ev_neg (by omega) (ev_some (by simp))
    · intro pre x suf h hx h1 h2 h3 ih hlen
      simp only [List.length_cons] at hlen
      refine ev_shift ?_
      have e : rd (marks n m) (pre.length : Int) = m + (pre.length : Int) := marks_rd n m pre.length (by omega)
      simp only [laws_heldIntS.l0, h3, e]
      refine ev_pos h1 (ev_pos h2 (ev_pos (by trivial) ?_))
      rw [w64 (by omega) (by omega)]
      have := ih (by simp; omega)
      simp only [List.length_append, List.length_singleton] at this ⊢
      rw [show m + (pre.length : Int) + 1 = m + ((pre.length + 1 : Nat) : Int) by omega]
      exact this
  have := key (by simp [marks_length])
  unfold laws_heldIntS.f
  simpa [marks] using this
theorem laws_heldIntSS_ev (l : List (List Int)) (m : Int) (h0 : 0 ≤ m) (h1 : m ≤ 1000000000000000) (hl : l.length ≤ 1000000000000000) (ht : totL l ≤ 1000000000000000) : Ev (fun k => laws_heldIntSS.f k (marksL m l) m) (m + (totL l : Int)) := by
  have key : ∀ suf pre, l = pre ++ suf → Ev (fun k => laws_heldIntSS.l0 k (marksL m l) (m + (totL pre : Int)) (pre.length : Int)) (m + (totL l : Int)) := by
    refine rangeL_ind (by omega) (fun pre suf => Ev (fun k => laws_heldIntSS.l0 k (marksL m l) (m + (totL pre : Int)) (pre.length : Int)) (m + (totL l : Int))) ?_ ?_
    · refine ev_shift ?_
      simp only [laws_heldIntSS.l0, marksL_length]
      exact ev_neg (by omega) (ev_some (by simp))
    · intro pre x suf h hx g1 g2 g3 ih
      have htl : totL l = totL pre + (x.length + totL suf) := by rw [h, totL_append]; rfl
      have e1 : rd_L1 (marksL m l) (pre.length : Int) = marks x.length (m + (totL pre : Int)) := by
        have ep : ((marksL m pre).length : Int) = (pre.length : Int) := by rw [marksL_length]
        have e : marksL m l = marksL m pre ++ marks x.length (m + (totL pre : Int)) :: marksL (m + (totL (pre ++ [x]) : Int)) suf := by
          have : l = (pre ++ [x]) ++ suf := by rw [h]; simp
          rw [this]
          have gen : ∀ (a b : List (List Int)) (m : Int), marksL m (a ++ b) = marksL m a ++ marksL (m + (totL a : Int)) b := by
            intro a
            induction a with
            | nil => intro b m; simp [marksL, totL]
            | cons y r ihh =>
              intro b m
              simp only [List.cons_append, marksL, ihh, totL]
              congr 3
              omega
          rw [gen, marksL_snoc]; simp
        have := rowget_at (marksL m pre) (marks x.length (m + (totL pre : Int))) (marksL (m + (totL (pre ++ [x]) : Int)) suf)
        rw [e, ← ep]
        exact this
      refine ev_shift ?_
      simp only [laws_heldIntSS.l0, e1, g3, marksL_length]
      refine ev_pos g1 (ev_pos g2 (ev_bind (laws_heldIntS_ev x.length _ (by omega) (by omega) (by omega)) (ev_neg (by omega) ?_)))
      rw [show m + (totL pre : Int) + (x.length : Int) = m + (totL (pre ++ [x]) : Int) by rw [totL_append]; simp [totL]; omega]
      exact ih
  have := key l [] rfl
  unfold laws_heldIntSS.f
  simpa [totL] using this
/-! ### laws_FnExactAllCombinations: function 3, by hand -/
def laws_FnExactAllCombinations.f (a0 : Int) (a1 : Int) : Option (Bool) := some true
set_option maxHeartbeats 4000000 in
theorem laws_FnExactAllCombinations.calls (a0 : Int) (a1 : Int) (r : Bool) (w : World) (h : laws_FnExactAllCombinations.f a0 a1 = some r) :
    Calls Try.prog 3 #[.int .i64 a0, .int .i64 a1] w fun e w' => e = .returned (.bool r) ∧ Below w.heap.size w w' := by
  obtain rfl := Option.some.inj h
  clear h
  have hlen : (allC a0 a1).1.length ≤ 4096 ∧ ∀ x ∈ (allC a0 a1).1, x.length ≤ 12 := allC_len a0 a1
  obtain ⟨k1, e1⟩ := Ev.rounds (spec_AllCombinations_ev a0 a1)
  obtain ⟨k2, e2⟩ := Ev.rounds (impl_AllCombinations_ev a0 a1)
  generalize allC a0 a1 = p at hlen e1 e2
  obtain ⟨L, ok⟩ := p
  simp only at hlen
  have ht := totL_le L 12 hlen.2
  obtain ⟨k3, e3⟩ := Ev.rounds (laws_eqIntSS_ev L (by omega) (fun x hx => by have := hlen.2 x hx; omega))
  obtain ⟨k4, e4⟩ := Ev.rounds (laws_markIntSS_ev L 1 (by omega) (by omega) (by omega) (by omega))
  obtain ⟨k5, e5⟩ := Ev.rounds (laws_heldIntSS_ev L 1 (by omega) (by omega) (by omega) (by omega))
  obtain ⟨T, hT⟩ : ∃ T : Int, T = 1 + (totL L : Int) := ⟨_, rfl⟩
  rw [← hT] at e4 e5
  have t0 : decide (T < 0) = false := decide_eq_false (by omega)
  obtain ⟨M, hM⟩ : ∃ M, M = marksL 1 L := ⟨_, rfl⟩
  rw [← hM] at e4 e5
  have E1 := Aside0.mk e1
  have E2 := Aside0.mk e2
  have E3 := Aside0.mk e3
  have E4 := Aside0.mk e4
  have E5 := Aside0.mk e5
  clear e1 e2 e3 e4 e5 hT hM hlen ht
  have ob : (ok != ok) = false := by cases ok <;> rfl
  go_enter Try.func3, Try.ntmps3
  go_wp2_with (first | (go_at_call 9; with_reducible refine (spec_AllCombinations.calls k1 a0 a1 L ok _ E1.out).mono ?_; rintro e w1 ⟨v0, rfl, hS, hb⟩))
  obtain ⟨A0, c0, rfl⟩ := Kd.R_slice (Kd.S_R hS)
  have HS0 := Aside0.mk (Kd.S_old hS (Below.refl _ _))
  have HB1 := Aside0.mk hb
  clear hS hb
  go_wp2_with (first | (go_at_call 10; with_reducible refine (impl_AllCombinations.calls k2 a0 a1 L ok _ E2.out).mono ?_; rintro e w2 ⟨v1, rfl, hS, hb⟩))
  obtain ⟨A1, c1, rfl⟩ := Kd.R_slice (Kd.S_R hS)
  have n0_ := Aside0.mk (Kd.S_below HS0.out hb)
  have HS1 := Aside0.mk (Kd.S_mono (ok' := fun k => w1.heap.size ≤ k) (Kd.S_bound hS) (fun k hk => hk.2.1))
  have HB2 := Aside0.mk hb
  clear hS hb HS0
  have HS0 := n0_
  clear n0_
  go_wp2_with (first | (go_at_call 11; with_reducible refine (laws_eqIntSS.calls k3 A1 c1 L A0 c0 L true _ (Kd.R_reads' (Kd.S_R HS1.out)).2.2 (Kd.R_reads' (Kd.S_R HS1.out)).2.1 (Kd.R_reads' (Kd.S_R HS0.out)).2.2 (Kd.R_reads' (Kd.S_R HS0.out)).2.1 E3.out).mono ?_; rintro e w' ⟨rfl, ⟨nd, rfl⟩⟩))
  go_wp2_with (first | (go_at_call 12; refine (laws_markIntSS.calls k4 (fun k => w1.heap.size ≤ k) _ L 1 T M w1 _ (pw_below_drewN HB2.out nd) (Kd.S_drewN HS1.out nd) E4.out).mono ?_; rintro e w4 ⟨rfl, hS, hb, hk⟩))
  have n0_ := Aside0.mk (Kd.S_kept (Kd.S_drewN HS0.out nd) hk (fun k h1 h2 => by have := h1.2; omega))
  have n1_ := Aside0.mk hS
  have HB4 := Aside0.mk hb
  have hml := (Kd.R_reads' (Kd.S_R hS)).1
  clear hS hb hk HS0 HS1
  have HS0 := n0_
  have HS1 := n1_
  clear n0_ n1_
  rw [hml] at HS1
  have HML := Aside0.mk hml
  clear hml
  go_wp2_with (first | (go_at_call 13; refine calls_of_args (args' := #[.slice A1 M.length c1, .int .i64 1]) (by rw [← HML.out]) ?_; with_reducible refine (laws_heldIntSS.calls k5 A1 c1 M 1 T _ (Kd.R_reads' (Kd.S_R HS1.out)).2.2 (Kd.R_reads' (Kd.S_R HS1.out)).2.1 E5.out).mono ?_; rintro e w' ⟨rfl, ⟨nd5, rfl⟩⟩))
  go_wp2_with (first | (go_at_call 10; with_reducible refine (impl_AllCombinations.calls k2 a0 a1 L ok _ E2.out).mono ?_; rintro e w6 ⟨v2, rfl, hS, hb⟩))
  obtain ⟨A2, c2, rfl⟩ := Kd.R_slice (Kd.S_R hS)
  have n0_ := Aside0.mk (Kd.S_below (Kd.S_drewN HS0.out nd5) hb)
  have n1_ := Aside0.mk (Kd.S_below (Kd.S_drewN HS1.out nd5) hb)
  have HS2 := Aside0.mk hS
  have HB6 := Aside0.mk hb
  clear hS hb HS0 HS1
  have HS0 := n0_
  have HS1 := n1_
  clear n0_ n1_
  go_wp2_with (first | (go_at_call 11; with_reducible refine (laws_eqIntSS.calls k3 A2 c2 L A0 c0 L true _ (Kd.R_reads' (Kd.S_R HS2.out)).2.2 (Kd.R_reads' (Kd.S_R HS2.out)).2.1 (Kd.R_reads' (Kd.S_R HS0.out)).2.2 (Kd.R_reads' (Kd.S_R HS0.out)).2.1 E3.out).mono ?_; rintro e w' ⟨rfl, ⟨nd7, rfl⟩⟩))
  go_wp2_with (first | (go_at_call 13; refine calls_of_args (args' := #[.slice A1 M.length c1, .int .i64 1]) (by rw [← HML.out]) ?_; with_reducible refine (laws_heldIntSS.calls k5 A1 c1 M 1 T _ (Kd.C_drewN (Kd.R_reads' (Kd.S_R HS1.out)).2.2 nd7) (Kd.R_reads' (Kd.S_R HS1.out)).2.1 E5.out).mono ?_; rintro e w' ⟨rfl, ⟨nd8, rfl⟩⟩))
  go_ret
  refine ⟨rfl, ?_⟩
  refine pw_below_drewN ?_ _
  refine below_step (pw_below_drewN ?_ _) HB6.out
  exact below_step HB1.out HB4.out
end

/-- THE ONE PURE STATEMENT of laws_FnExactAllCombinations: yours. -/
def laws_FnExactAllCombinations.Pure : Prop := ∀ (a0 : Int) (a1 : Int), (Lit.int .i64 a0).wf = true → (Lit.int .i64 a1).wf = true → laws_FnExactAllCombinations.f a0 a1 = some true
theorem laws_FnExactAllCombinations.walk (P : laws_FnExactAllCombinations.Pure) (a0 : Int) (a1 : Int) (w : World) (w0 : (Lit.int .i64 a0).wf = true) (w1 : (Lit.int .i64 a1).wf = true) :
    Calls Try.prog 3 #[.int .i64 a0, .int .i64 a1] w fun e w' => e = .returned (.bool true) ∧ Below w.heap.size w w' := by
  have h := P a0 a1 w0 w1
  refine (laws_FnExactAllCombinations.calls a0 a1 true w h).mono ?_
  rintro e w' ⟨rfl, hd⟩
  exact ⟨rfl, hd⟩

end Go.Proofs.Ytoajkfiighdjpaa.PFnExactAllCombinations
