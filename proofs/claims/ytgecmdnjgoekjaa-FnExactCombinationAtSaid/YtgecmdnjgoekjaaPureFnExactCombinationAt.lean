/- The law FnExactCombinationAt returns true for all numbers; no condition of ours. -/
import Derived.Test.YtgecmdnjgoekjaaPFnExactCombinationAtx2
import Derived.Test.YtgecmdnjgoekjaaMth
import Derived.Test.YtgecmdnjgoekjaaMthComb
set_option linter.unusedVariables false
set_option linter.unusedSimpArgs false
namespace Go.Proofs.Ytgecmdnjgoekjaa.Pure
open Go.RowKit Go.Proofs.Ytgecmdnjgoekjaa.Mth Go.Proofs.Ytgecmdnjgoekjaa.PFnExactCombinationAt Go.Proofs.YtgecmdnjgoekjaaW.PrintWords Go.Proofs.YtgecmdnjgoekjaaW.PrintLast

theorem laws_eqIntS_ev (l : List Int) (hl : l.length ≤ 9000000000000000000) : Ev (fun k => laws_eqIntS.f k l l) true := by
  unfold laws_eqIntS.f
  refine ev_pos rfl ?_
  refine range_all hl (fun pre suf => Ev (fun k => laws_eqIntS.l0 k l l (pre.length : Int)) true) ?_ ?_
  · refine ev_shift ?_
    simp only [laws_eqIntS.l0]
    exact ev_neg (by omega) (ev_some rfl)
  · intro pre x suf h hx h1 h2 h3 ih
    refine ev_shift ?_
    simp only [laws_eqIntS.l0, h3]
    exact ev_pos h1 (ev_pos h2 (ev_pos h1 (ev_pos (by trivial) ih)))
theorem laws_markIntS_ev (l : List Int) (m : Int) (h0 : 0 ≤ m) (h1 : m ≤ 1000000000000000000) (hl : l.length ≤ 1000000000000000000) : Ev (fun k => laws_markIntS.f k l m) (m + (l.length : Int), marks l.length m) := by
  have key : (fun (pre suf : List Int) => l.length = pre.length + suf.length → Ev (fun k => laws_markIntS.l0 k (marks pre.length m ++ suf) (m + (pre.length : Int)) (pre.length : Int)) (m + (l.length : Int), marks l.length m)) [] l := by
    refine range_all (l := l) (by omega) (fun pre suf => l.length = pre.length + suf.length → Ev (fun k => laws_markIntS.l0 k (marks pre.length m ++ suf) (m + (pre.length : Int)) (pre.length : Int)) (m + (l.length : Int), marks l.length m)) ?_ ?_
    · intro _
      refine ev_shift ?_
      simp only [laws_markIntS.l0]
      exact ev_neg (by simp [marks_length]) (ev_some (by simp))
    · intro pre x suf h hx h1 h2 h3 ih hlen
      simp only [List.length_cons] at hlen
      refine ev_shift ?_
      have e : (marks pre.length m ++ x :: suf).set (pre.length : Int).toNat (m + (pre.length : Int)) = marks (pre ++ [x]).length m ++ suf := by
        have := set_at (marks pre.length m) x (m + (pre.length : Int)) suf
        rw [marks_length] at this
        rw [this, List.length_append, List.length_singleton, marks_snoc]; simp
      simp only [laws_markIntS.l0, h3, e]
      refine ev_pos (by simp [marks_length]; omega) (ev_pos h2 ?_)
      rw [w64 (by omega) (by omega)]
      have := ih (by simp; omega)
      simp only [List.length_append, List.length_singleton] at this ⊢
      rw [show m + (pre.length : Int) + 1 = m + ((pre.length + 1 : Nat) : Int) by omega]
      exact this
  have := key (by simp)
  unfold laws_markIntS.f
  simpa [marks] using this
theorem laws_heldIntS_ev (n : Nat) (m : Int) (h0 : 0 ≤ m) (h1 : m ≤ 1000000000000000000) (hl : n ≤ 1000000000000000000) : Ev (fun k => laws_heldIntS.f k (marks n m) m) (m + (n : Int)) := by
  have key : (fun (pre suf : List Int) => n = pre.length + suf.length → Ev (fun k => laws_heldIntS.l0 k (marks n m) (m + (pre.length : Int)) (pre.length : Int)) (m + (n : Int))) [] (marks n m) := by
    refine range_all (l := marks n m) (by rw [marks_length]; omega) (fun pre suf => n = pre.length + suf.length → Ev (fun k => laws_heldIntS.l0 k (marks n m) (m + (pre.length : Int)) (pre.length : Int)) (m + (n : Int))) ?_ ?_
    · intro _
      refine ev_shift ?_
      simp only [laws_heldIntS.l0, marks_length]
      exact ev_neg (by omega) (ev_some (by simp))
    · intro pre x suf h hx h1 h2 h3 ih hlen
      simp only [List.length_cons] at hlen
      refine ev_shift ?_
      have e : rd (marks n m) (pre.length : Int) = m + (pre.length : Int) := marks_rd n m pre.length (by omega)
      simp only [laws_heldIntS.l0, h3, e]
      refine ev_pos h1 (ev_pos h2 (ev_pos (by trivial) ?_))
      rw [w64 (by omega) (by omega)]
      have := ih (by simp; omega)
      simp only [List.length_append, List.length_singleton] at this ⊢
      rw [show m + (pre.length : Int) + 1 = m + ((pre.length + 1 : Nat) : Int) by omega]
      exact this
  have := key (by simp [marks_length])
  unfold laws_heldIntS.f
  simpa [marks] using this
theorem spec_l1In_eq (a b c : Int) : spec_l1In.f a b c = some (inR a b c) := in_ite a b c
theorem spec_raItems_eq (a : Int) : spec_raItems.f a = some (inR a 0 12) := by simp only [spec_raItems.f, spec_l1In_eq, Option.bind_some]
theorem spec_l1Own_eq (l : List Int) (h : l.length < 17592186044416) : spec_l1Own.f l = some l := by
  simp only [spec_l1Own.f, Option.bind_some, List.length_nil, Nat.zero_add, List.nil_append]
  rw [if_pos h]
theorem spec_raOf_eq (l : List (List Int)) (i : Int) (h : l.length ≤ 1000000) (hr : ∀ r ∈ l, r.length ≤ 1000000) : spec_raOf.f l i = some (ofL l i) := by
  simp only [spec_raOf.f, spec_l1In_eq, Option.bind_some]
  rw [w64 (by omega) (by omega)]
  unfold ofL
  by_cases hi : inR i 0 ((l.length : Int) - 1) = true
  · have hi' := inR_iff.1 hi
    rw [if_pos hi, if_pos hi, if_pos hi'.1, if_pos (by omega)]
    have e : rd_L1 l i = rdL l i := rfl
    have hm : rdL l i ∈ l := by
      unfold rdL
      rw [List.getD_eq_getElem?_getD, List.getElem?_eq_getElem (by omega)]
      exact List.getElem_mem _
    rw [e, spec_l1Own_eq _ (by have := hr _ hm; omega), Option.bind_some]
  · rw [if_neg hi, if_neg hi]
theorem spec_raAll_l1 (n kk x : Int) (t : List (List Int)) (ht : ∀ r ∈ t, r.length ≤ 12) (htl : t.length ≤ 100000) (R : List (List Int)) : ∀ suf pre, t = pre ++ suf → ∀ out : List (List Int), out.length + suf.length ≤ 100000 →
    Ev (fun k => spec_raAll.l0 k n kk (out ++ suf.map (fun r => x :: r)) (wrap64 (x + 1))) R → Ev (fun k => spec_raAll.l1 k n kk out x t (t.length : Int) (pre.length : Int)) R := by
  refine rangeL_ind (by omega) (fun pre suf => ∀ out : List (List Int), out.length + suf.length ≤ 100000 →
    Ev (fun k => spec_raAll.l0 k n kk (out ++ suf.map (fun r => x :: r)) (wrap64 (x + 1))) R → Ev (fun k => spec_raAll.l1 k n kk out x t (t.length : Int) (pre.length : Int)) R) ?_ ?_
  · intro out _ h
    refine ev_shift ?_
    simp only [spec_raAll.l1]
    refine ev_neg (by omega) ?_
    simpa using h
  · intro pre r suf h hx h1 h2 h3 ih out ho hk
    simp only [List.length_cons] at ho
    have hr : r.length ≤ 12 := ht r (by rw [h]; simp)
    have e : rd_L1 t (pre.length : Int) = r := hx
    refine ev_shift ?_
    simp only [spec_raAll.l1, e, h3, Option.bind_some, List.length_singleton, List.singleton_append]
    refine ev_pos h1 (ev_pos h2 (ev_pos h1 (ev_pos (by omega) (ev_pos (by omega) ?_))))
    refine ih _ (by simp; omega) ?_
    simpa using hk
theorem spec_raAll_ev (j : Nat) (hj : j ≤ 12) : ∀ m f : Nat, f + m ≤ 12 → Ev (fun k => spec_raAll.f k ((f + m : Nat) : Int) (j : Int) (f : Int)) (lexL f m j) := by
  induction j with
  | zero =>
    intro m f _
    refine ev_shift ?_
    simp only [spec_raAll.f]
    exact ev_pos rfl (ev_some (by rw [lexL_zero]))
  | succ j ih =>
    intro m f hm
    refine ev_shift ?_
    simp only [spec_raAll.f]
    refine ev_neg (by omega) ?_
    have e2 : wrap64 (((j + 1 : Nat) : Int) - 1) = (j : Int) := by rw [w64 (by omega) (by omega)]; omega
    have key : ∀ (d f : Nat) (out : List (List Int)), f + d ≤ 12 → out.length + C d (j + 1) ≤ 100000 → Ev (fun k => spec_raAll.l0 k ((f + d : Nat) : Int) ((j + 1 : Nat) : Int) out (f : Int)) (out ++ lexL f d (j + 1)) := by
      intro d
      induction d with
      | zero =>
        intro f out _ _
        refine ev_shift ?_
        simp only [spec_raAll.l0]
        exact ev_neg (by omega) (ev_some (by rw [lexL_none, List.append_nil]))
      | succ d ihd =>
        intro f out hf ho
        rw [C_succ] at ho
        have e1 : wrap64 ((f : Int) + 1) = ((f + 1 : Nat) : Int) := by rw [w64 (by omega) (by omega)]; omega
        have e3 : ((f + (d + 1) : Nat) : Int) = ((f + 1 + d : Nat) : Int) := by omega
        have hl := lexL_length (f + 1) d j
        refine ev_shift ?_
        simp only [spec_raAll.l0]
        rw [e1, e2]
        refine ev_pos (by omega) (ev_bind (by rw [e3]; exact ih (by omega) d (f + 1) (by omega)) ?_)
        refine spec_raAll_l1 _ _ _ (lexL (f + 1) d j) (fun r hr => by rw [lexL_mem_length hr]; omega) (by rw [hl]; have := C_12 j (n := d) (by omega); omega) _ (lexL (f + 1) d j) [] rfl out (by rw [hl]; omega) ?_
        rw [e1, e3, lexL_succ, ← List.append_assoc]
        exact ihd (f + 1) _ (by omega) (by simp [hl]; omega)
    have := key m f [] hm (by have := C_12 (j + 1) (n := m) (by omega); simp; omega)
    simpa using this
theorem impl_within_eq (a b c : Int) : impl_within.f a b c = some (inR a b c) := in_ite a b c
theorem impl_binomial_ev (n : Nat) (k : Nat) (h : n ≤ 13) (hk : k ≤ 14) : Ev (fun j => impl_binomial.f j (n : Int) (k : Int)) (C n k : Int) := by
  have t : ∀ (a : Fin 14) (b : Fin 15), impl_binomial.f 20 ((a.1 : Nat) : Int) ((b.1 : Nat) : Int) = some (C a.1 b.1 : Int) := by decide +kernel
  exact Ev.of (impl_binomial.mono _ _) (t ⟨n, by omega⟩ ⟨k, by omega⟩)
def isRk (n k r : Int) : Bool := decide ((0 ≤ n ∧ n ≤ 12) ∧ (0 ≤ k ∧ k ≤ n) ∧ 0 ≤ r ∧ r < (C n.toNat k.toNat : Int))
theorem impl_isRank_ev (n k r : Int) : Ev (fun j => impl_isRank.f j n k r) (isRk n k r) := by
  unfold impl_isRank.f isRk
  refine ev_bind0 (impl_within_eq _ _ _) ?_
  by_cases h : inR n 0 12 = true
  · have h' := inR_iff.1 h
    refine ev_pos h (ev_bind0 (impl_within_eq _ _ _) ?_)
    by_cases hk : inR k 0 n = true
    · have hk' := inR_iff.1 hk
      obtain ⟨m, rfl⟩ := Int.eq_ofNat_of_zero_le h'.1
      obtain ⟨i, rfl⟩ := Int.eq_ofNat_of_zero_le hk'.1
      refine ev_pos hk (ev_bind (impl_binomial_ev m i (by omega) (by omega)) (ev_bind0 (impl_within_eq _ _ _) (ev_some ?_)))
      have b := C_12 i (n := m) (by omega)
      rw [w64 (by omega) (by omega)]
      simp only [Int.toNat_natCast]
      unfold inR
      rw [← Bool.decide_and]
      exact decide_eq_decide.2 ⟨fun a => ⟨h', hk', by omega, by omega⟩, fun a => ⟨by omega, by omega⟩⟩
    · exact ev_neg hk (ev_some (by rw [eq_comm, decide_eq_false_iff_not]; intro c; exact hk (inR_iff.2 c.2.1)))
  · exact ev_neg h (ev_some (by rw [eq_comm, decide_eq_false_iff_not]; intro c; exact h (inR_iff.2 c.1)))
theorem isRk_iff {n k r : Int} : isRk n k r = true ↔ (0 ≤ n ∧ n ≤ 12) ∧ (0 ≤ k ∧ k ≤ n) ∧ 0 ≤ r ∧ r < (C n.toNat k.toNat : Int) := by simp [isRk]
theorem impl_combinationAt_l0 (m : Nat) : ∀ (f j r : Nat) (out : List Int), f + m ≤ 12 → out.length + j ≤ 12 → r < C m j →
    Ev (fun k => impl_combinationAt.l0 k ((f + m : Nat) : Int) ((out.length + j : Nat) : Int) (r : Int) out (f : Int)) (out ++ unrankL f m j r) := by
  induction m with
  | zero =>
    intro f j r out hf ho hr
    refine ev_shift ?_
    simp only [impl_combinationAt.l0]
    cases j with
    | zero => exact ev_neg (by omega) (ev_some (by rw [unrankL_zero, List.append_nil]))
    | succ j => exact absurd hr (by simp [C])
  | succ m ih =>
    intro f j r out hf ho hr
    refine ev_shift ?_
    simp only [impl_combinationAt.l0]
    cases j with
    | zero => exact ev_neg (by omega) (ev_some (by rw [unrankL_zero, List.append_nil]))
    | succ j =>
      have e1 : wrap64 (wrap64 (((f + (m + 1) : Nat) : Int) - (f : Int)) - 1) = (m : Int) := by
        rw [w64 (x := ((f + (m + 1) : Nat) : Int) - (f : Int)) (by omega) (by omega), w64 (by omega) (by omega)]; omega
      have e2 : wrap64 (wrap64 (((out.length + (j + 1) : Nat) : Int) - (out.length : Int)) - 1) = (j : Int) := by
        rw [w64 (x := ((out.length + (j + 1) : Nat) : Int) - (out.length : Int)) (by omega) (by omega), w64 (by omega) (by omega)]; omega
      have e3 : wrap64 ((f : Int) + 1) = ((f + 1 : Nat) : Int) := by rw [w64 (by omega) (by omega)]; omega
      have e4 : ((f + (m + 1) : Nat) : Int) = ((f + 1 + m : Nat) : Int) := by omega
      have b := C_12 j (n := m) (by omega)
      have b' := C_12 (j + 1) (n := m) (by omega)
      rw [e1, e2, e3, unrankL_succ]
      rw [C_succ] at hr
      refine ev_pos (by omega) (ev_bind (impl_binomial_ev m j (by omega) (by omega)) ?_)
      by_cases h : r < C m j
      · rw [if_pos h]
        refine ev_pos (by omega) (ev_pos (by omega) ?_)
        have := ih (f + 1) j r (out ++ [(f : Int)]) (by omega) (by simp; omega) h
        rw [List.append_assoc, List.singleton_append] at this
        rw [e4]
        have e5 : (out ++ [(f : Int)]).length + j = out.length + (j + 1) := by simp; omega
        rw [e5] at this
        exact this
      · rw [if_neg h]
        refine ev_neg (by omega) ?_
        have e6 : wrap64 ((r : Int) - (C m j : Int)) = ((r - C m j : Nat) : Int) := by rw [w64 (by omega) (by omega)]; omega
        rw [e6, e4]
        exact ih (f + 1) (j + 1) (r - C m j) out (by omega) (by omega) (by omega)
theorem impl_combinationAt_ev (n j r : Nat) (hn : n ≤ 12) (hj : j ≤ 12) (hr : r < C n j) : Ev (fun k => impl_combinationAt.f k (n : Int) (j : Int) (r : Int)) (unrankL 0 n j r) := by
  have := impl_combinationAt_l0 n 0 j r [] (by omega) (by simp; omega) hr
  simpa [impl_combinationAt.f] using this
def combAt (n k r : Int) : List Int × Bool := if isRk n k r = true then (unrankL 0 n.toNat k.toNat r.toNat, true) else ([], false)
theorem combAt_len (n k r : Int) : (combAt n k r).1.length ≤ 12 := by
  unfold combAt
  by_cases h : isRk n k r = true
  · rw [if_pos h]
    have h' := isRk_iff.1 h
    obtain ⟨m, rfl⟩ := Int.eq_ofNat_of_zero_le h'.1.1
    obtain ⟨i, rfl⟩ := Int.eq_ofNat_of_zero_le h'.2.1.1
    obtain ⟨q, rfl⟩ := Int.eq_ofNat_of_zero_le h'.2.2.1
    simp only [Int.toNat_natCast] at h' ⊢
    rw [unrankL_length _ _ _ _ (by omega)]; omega
  · rw [if_neg h]; exact Nat.zero_le _
theorem ofL_lexL (n k : Nat) (hn : n ≤ 12) (r : Int) : ofL (lexL 0 n k) r = combAt (n : Int) (k : Int) r := by
  unfold combAt
  by_cases h : isRk (n : Int) (k : Int) r = true
  · rw [if_pos h]
    have h' := isRk_iff.1 h
    obtain ⟨q, rfl⟩ := Int.eq_ofNat_of_zero_le h'.2.2.1
    simp only [Int.toNat_natCast] at h' ⊢
    exact ofL_some (lexL_at _ _ _ _ (by omega))
  · rw [if_neg h]
    refine ofL_none ?_
    rw [lexL_length]
    rw [isRk_iff] at h
    simp only [Int.toNat_natCast] at h
    by_cases hkn : k ≤ n
    · omega
    · rw [C_gt (by omega)]; omega
theorem spec_CombinationAt_ev (n k r : Int) : Ev (fun j => spec_CombinationAt.f j n k r) (combAt n k r) := by
  have bad : ¬ (inR n 0 12 = true ∧ inR k 0 12 = true) → Ev (fun j => spec_CombinationAt.j0 j n k r true) (combAt n k r) := by
    intro h
    refine ev_shift ?_
    simp only [spec_CombinationAt.j0]
    refine ev_pos (by trivial) (ev_some ?_)
    unfold combAt
    rw [if_neg]
    intro c
    have c' := isRk_iff.1 c
    exact h ⟨inR_iff.2 c'.1, inR_iff.2 ⟨by omega, by omega⟩⟩
  unfold spec_CombinationAt.f
  refine ev_bind0 (spec_raItems_eq _) ?_
  by_cases h : inR n 0 12 = true
  · refine ev_pos h (ev_bind0 (spec_raItems_eq _) ?_)
    by_cases hk : inR k 0 12 = true
    · have h' := inR_iff.1 h
      have hk' := inR_iff.1 hk
      obtain ⟨m, rfl⟩ := Int.eq_ofNat_of_zero_le h'.1
      obtain ⟨i, rfl⟩ := Int.eq_ofNat_of_zero_le hk'.1
      rw [hk]
      refine ev_shift ?_
      simp only [spec_CombinationAt.j0]
      refine ev_neg (by simp) ?_
      have ha := spec_raAll_ev i (by omega) m 0 (by omega)
      rw [Nat.zero_add] at ha
      refine ev_bind ha (ev_bind0 (spec_raOf_eq _ _ (by rw [lexL_length]; have := C_12 i (n := m) (by omega); omega) (fun r hr => by rw [lexL_mem_length hr]; omega)) (ev_some ?_))
      exact ofL_lexL m i (by omega) r
    · simp only [Bool.not_eq_true] at hk
      rw [hk]
      exact bad (fun c => by rw [hk] at c; exact absurd c.2 (by simp))
  · exact ev_neg h (bad (fun c => h c.1))
theorem impl_CombinationAt_ev (n k r : Int) : Ev (fun j => impl_CombinationAt.f j n k r) (combAt n k r) := by
  unfold impl_CombinationAt.f combAt
  refine ev_bind (impl_isRank_ev _ _ _) ?_
  by_cases h : isRk n k r = true
  · have h' := isRk_iff.1 h
    obtain ⟨m, rfl⟩ := Int.eq_ofNat_of_zero_le h'.1.1
    obtain ⟨i, rfl⟩ := Int.eq_ofNat_of_zero_le h'.2.1.1
    obtain ⟨q, rfl⟩ := Int.eq_ofNat_of_zero_le h'.2.2.1
    rw [if_pos h]
    simp only [Int.toNat_natCast] at h' ⊢
    exact ev_pos h (ev_bind (impl_combinationAt_ev m i q (by omega) (by omega) (by omega)) (ev_some rfl))
  · exact ev_neg h (ev_some (by rw [if_neg h]))
theorem FnExactCombinationAt : laws_FnExactCombinationAt.Pure := by
  intro n k r hn hk hr
  apply ev_le
  unfold laws_FnExactCombinationAt.f
  have hs := spec_CombinationAt_ev n k r
  have hi := impl_CombinationAt_ev n k r
  have hlen := combAt_len n k r
  generalize combAt n k r = p at hs hi hlen
  obtain ⟨out, ok⟩ := p
  simp only at hlen
  repeat (first
      | exact ev_some rfl
      | refine ev_bind (laws_eqIntS_ev _ (by omega)) ?_
      | refine ev_bind (laws_markIntS_ev _ _ (by omega) (by omega) (by omega)) ?_
      | refine ev_bind (laws_heldIntS_ev _ _ (by omega) (by omega) (by omega)) ?_
      | refine ev_bind hs ?_
      | refine ev_bind hi ?_
      | refine ev_pos rfl ?_
      | refine ev_pos trivial ?_
      | refine ev_neg neq_self ?_
      | dsimp only
      | refine ev_neg (by omega) ?_
      | (refine ev_shift ?_; simp only [laws_FnExactCombinationAt.j0, laws_FnExactCombinationAt.j1]))

end Go.Proofs.Ytgecmdnjgoekjaa.Pure
