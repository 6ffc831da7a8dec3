/- The law FnExactFromInversions returns true for every list (reach and kinds as the row says); no condition of ours. -/
import Derived.Test.YtoajkfiighdjpaaQFnExactFromInversionsx4
import Derived.Test.YtoajkfiighdjpaaMth
import Derived.Test.YtoajkfiighdjpaaMthPerm
import Derived.Test.YtoajkfiighdjpaaMthPermAt
set_option linter.unusedVariables false
set_option linter.unusedSimpArgs false
namespace Go.Proofs.Ytoajkfiighdjpaa.Pure
open Go.RowKit Go.Proofs.Ytoajkfiighdjpaa.Mth Go.Proofs.Ytoajkfiighdjpaa.PFnExactFromInversions Go.Proofs.YtoajkfiighdjpaaW.PrintWords Go.Proofs.YtoajkfiighdjpaaW.PrintLast

theorem laws_toIntS_ev (l : List Int) (hl : l.length ≤ 1048576) : Ev (fun k => laws_toIntS.f k l) l := by
  unfold laws_toIntS.f
  refine ev_pos (by omega) (ev_pos (by omega) ?_)
  refine range_all (l := l) (by omega) (fun pre suf => Ev (fun k => laws_toIntS.l0 k l (pre ++ List.replicate suf.length 0) (pre.length : Int)) l) ?_ ?_
  · refine ev_shift ?_
    simp only [laws_toIntS.l0]
    exact ev_neg (by omega) (ev_some (by simp))
  · intro pre x suf h hx h1 h2 h3 ih
    refine ev_shift ?_
    simp only [laws_toIntS.l0, hx, h3, List.length_cons, List.replicate_succ, set_at]
    refine ev_pos h1 (ev_pos h2 (ev_pos (by simp; omega) ?_))
    simpa using ih
theorem laws_eqIntS_ev (l : List Int) (hl : l.length ≤ 9000000000000000000) : Ev (fun k => laws_eqIntS.f k l l) true := by
  unfold laws_eqIntS.f
  refine ev_pos rfl ?_
  refine range_all hl (fun pre suf => Ev (fun k => laws_eqIntS.l0 k l l (pre.length : Int)) true) ?_ ?_
  · refine ev_shift ?_
    simp only [laws_eqIntS.l0]
    exact ev_neg (by omega) (ev_some rfl)
  · intro pre x suf h hx h1 h2 h3 ih
    refine ev_shift ?_
    simp only [laws_eqIntS.l0, h3]
    exact ev_pos h1 (ev_pos h2 (ev_pos h1 (ev_pos (by trivial) ih)))
theorem laws_markIntS_ev (l : List Int) (m : Int) (h0 : 0 ≤ m) (h1 : m ≤ 1000000000000000000) (hl : l.length ≤ 1000000000000000000) : Ev (fun k => laws_markIntS.f k l m) (m + (l.length : Int), marks l.length m) := by
  have key : (fun (pre suf : List Int) => l.length = pre.length + suf.length → Ev (fun k => laws_markIntS.l0 k (marks pre.length m ++ suf) (m + (pre.length : Int)) (pre.length : Int)) (m + (l.length : Int), marks l.length m)) [] l := by
    refine range_all (l := l) (by omega) (fun pre suf => l.length = pre.length + suf.length → Ev (fun k => laws_markIntS.l0 k (marks pre.length m ++ suf) (m + (pre.length : Int)) (pre.length : Int)) (m + (l.length : Int), marks l.length m)) ?_ ?_
    · intro _
      refine ev_shift ?_
      simp only [laws_markIntS.l0]
      exact ev_neg (by simp [marks_length]) (ev_some (by simp))
    · intro pre x suf h hx h1 h2 h3 ih hlen
      simp only [List.length_cons] at hlen
      refine ev_shift ?_
      have e : (marks pre.length m ++ x :: suf).set (pre.length : Int).toNat (m + (pre.length : Int)) = marks (pre ++ [x]).length m ++ suf := by
        have := set_at (marks pre.length m) x (m + (pre.length : Int)) suf
        rw [marks_length] at this
        rw [this, List.length_append, List.length_singleton, marks_snoc]; simp
      simp only [laws_markIntS.l0, h3, e]
      refine ev_pos (by simp [marks_length]; omega) (ev_pos h2 ?_)
      rw [w64 (by omega) (by omega)]
      have := ih (by simp; omega)
      simp only [List.length_append, List.length_singleton] at this ⊢
      rw [show m + (pre.length : Int) + 1 = m + ((pre.length + 1 : Nat) : Int) by omega]
      exact this
  have := key (by simp)
  unfold laws_markIntS.f
  simpa [marks] using this
theorem laws_heldIntS_ev (n : Nat) (m : Int) (h0 : 0 ≤ m) (h1 : m ≤ 1000000000000000000) (hl : n ≤ 1000000000000000000) : Ev (fun k => laws_heldIntS.f k (marks n m) m) (m + (n : Int)) := by
  have key : (fun (pre suf : List Int) => n = pre.length + suf.length → Ev (fun k => laws_heldIntS.l0 k (marks n m) (m + (pre.length : Int)) (pre.length : Int)) (m + (n : Int))) [] (marks n m) := by
    refine range_all (l := marks n m) (by rw [marks_length]; omega) (fun pre suf => n = pre.length + suf.length → Ev (fun k => laws_heldIntS.l0 k (marks n m) (m + (pre.length : Int)) (pre.length : Int)) (m + (n : Int))) ?_ ?_
    · intro _
      refine ev_shift ?_
      simp only [laws_heldIntS.l0, marks_length]
      exact ev_neg (by omega) (ev_some (by simp))
    · intro pre x suf h hx h1 h2 h3 ih hlen
      simp only [List.length_cons] at hlen
      refine ev_shift ?_
      have e : rd (marks n m) (pre.length : Int) = m + (pre.length : Int) := marks_rd n m pre.length (by omega)
      simp only [laws_heldIntS.l0, h3, e]
      refine ev_pos h1 (ev_pos h2 (ev_pos (by trivial) ?_))
      rw [w64 (by omega) (by omega)]
      have := ih (by simp; omega)
      simp only [List.length_append, List.length_singleton] at this ⊢
      rw [show m + (pre.length : Int) + 1 = m + ((pre.length + 1 : Nat) : Int) by omega]
      exact this
  have := key (by simp [marks_length])
  unfold laws_heldIntS.f
  simpa [marks] using this
theorem impl_identity_ev (n : Nat) (h : n ≤ 12) : Ev (fun k => impl_identity.f k (n : Int)) (idL n) := by
  have t : ∀ m : Fin 13, impl_identity.f 20 ((m.1 : Nat) : Int) = some (idL m.1) := by decide +kernel
  exact Ev.of (impl_identity.mono _) (t ⟨n, by omega⟩)
theorem slices_Delete_one (l : List Int) (q : Nat) (h : q < l.length) (hl : l.length ≤ 9000000000000000000) : slices_Delete_int_int.f l (q : Int) (wrap64 ((q : Int) + 1)) = some (l.eraseIdx q) := by
  rw [w64 (by omega) (by omega)]
  unfold slices_Delete_int_int.f
  have e : ((q : Int) + 1).toNat = q + 1 := by omega
  rw [if_pos ⟨by omega, by omega, by omega⟩, List.eraseIdx_eq_take_drop_succ, e, Int.toNat_natCast]
theorem impl_within_eq (a b c : Int) : impl_within.f a b c = some (inR a b c) := in_ite a b c
theorem spec_raUpTo_ev (n : Nat) (h : n ≤ 12) : Ev (fun k => spec_raUpTo.f k (n : Int)) (idL n) := by
  have t : ∀ m : Fin 13, spec_raUpTo.f 20 ((m.1 : Nat) : Int) = some (idL m.1) := by decide +kernel
  exact Ev.of (spec_raUpTo.mono _) (t ⟨n, by omega⟩)
theorem spec_l1Own_eq (l : List Int) (h : l.length < 17592186044416) : spec_l1Own.f l = some l := by
  simp only [spec_l1Own.f, Option.bind_some, List.length_nil, Nat.zero_add, List.nil_append]
  rw [if_pos h]
theorem spec_raWithout_eq (l : List Int) (q : Nat) (h : q < l.length) (hl : l.length ≤ 1000000) : spec_raWithout.f l (q : Int) = some (l.eraseIdx q) := by
  have e : ((q : Int) + 1).toNat = q + 1 := by omega
  have e1 : wrap64 ((q : Int) + 1) = (q : Int) + 1 := w64 (by omega) (by omega)
  have h1 : (0 : Int) ≤ (q : Int) := by omega
  have h2 : (q : Int) ≤ (l.length : Int) := by omega
  have h3 : (l.take (q : Int).toNat).length < 17592186044416 := by rw [List.length_take]; omega
  have h4 : (0 : Int) ≤ (q : Int) + 1 := by omega
  have h5 : (q : Int) + 1 ≤ (l.length : Int) := by omega
  have h6 : (l.take (q : Int).toNat).length + (l.drop ((q : Int) + 1).toNat).length < 17592186044416 := by rw [List.length_take, List.length_drop]; omega
  have e0 := spec_l1Own_eq (l.take (q : Int).toNat) h3
  simp only [spec_raWithout.f, e1]
  rw [if_pos h1, if_pos h2, e0, Option.bind_some, if_pos h4, if_pos h5, if_pos h6, List.eraseIdx_eq_take_drop_succ, e, Int.toNat_natCast]
theorem spec_l1In_eq (a b c : Int) : spec_l1In.f a b c = some (inR a b c) := in_ite a b c
theorem spec_raItems_eq (a : Int) : spec_raItems.f a = some (inR a 0 12) := by simp only [spec_raItems.f, spec_l1In_eq, Option.bind_some]
theorem set_drop (l : List Int) (m : Nat) (x : Int) (h : m < l.length) : (l.set m x).drop m = x :: l.drop (m + 1) := by
  rw [List.drop_eq_getElem_cons (by simpa using h)]
  simp [List.drop_set]
theorem impl_FromInversions_l1_ev (cs : List Int) (hn : cs.length ≤ 12) (hc : ∀ j, j < cs.length → 0 ≤ cs.getD j 0 ∧ cs.getD j 0 ≤ (j : Int)) : ∀ (m : Nat) (left out : List Int), m ≤ cs.length → left.length = m → out.length = cs.length →
    Ev (fun k => impl_FromInversions.l1 k cs left out ((m : Int) - 1)) (frL m left cs ++ out.drop m, true) := by
  intro m
  induction m with
  | zero =>
    intro left out _ _ _
    refine ev_shift ?_
    simp only [impl_FromInversions.l1]
    exact ev_neg (by omega) (ev_some (by simp [frL]))
  | succ m ih =>
    intro left out hm hl ho
    have hcm := hc m (by omega)
    have e1 : (((m + 1 : Nat) : Int) - 1) = (m : Int) := by omega
    have e2 : wrap64 ((m : Int) - 1) = (m : Int) - 1 := w64 (by omega) (by omega)
    have e3 : wrap64 ((m : Int) - cs.getD m 0) = ((m - (cs.getD m 0).toNat : Nat) : Int) := by rw [w64 (by omega) (by omega)]; omega
    refine ev_shift ?_
    simp only [impl_FromInversions.l1, e1, rd_nat, e2, e3]
    rw [frL]
    obtain ⟨q, hq⟩ : ∃ q, q = m - (cs.getD m 0).toNat := ⟨_, rfl⟩
    have hql : q < left.length := by omega
    rw [← hq]
    clear e1 e2 e3
    refine ev_pos (by omega) (ev_pos (by omega) (ev_pos (by omega) (ev_pos (by omega) (ev_pos (by omega) (ev_pos (by omega) (ev_bind0 (slices_Delete_one left q hql (by omega)) ?_))))))
    have := ih (left.eraseIdx q) (out.set m (left.getD q 0)) (by omega) (by rw [List.length_eraseIdx_of_lt hql, hl]; rfl) (by simpa using ho)
    rw [set_drop out m _ (by omega)] at this
    rw [List.append_assoc]
    exact this
theorem impl_FromInversions_ev (cs : List Int) (hl : cs.length ≤ 9000000000000000000) : Ev (fun k => impl_FromInversions.f k cs) (frPm cs) := by
  unfold impl_FromInversions.f frPm
  by_cases hlen : (cs.length : Int) > 12
  · exact ev_pos hlen (ev_some (by rw [if_neg (fun c => by omega)]))
  refine ev_neg hlen ?_
  have key : ∀ suf pre, cs = pre ++ suf → cntOk 0 cs = cntOk pre.length suf → Ev (fun k => impl_FromInversions.l0 k cs (cs.length : Int) cs (cs.length : Int) (pre.length : Int)) (if cs.length ≤ 12 ∧ cntOk 0 cs = true then (frL cs.length (idL cs.length) cs, true) else ([], false)) := by
    refine range_ind hl (fun pre suf => cntOk 0 cs = cntOk pre.length suf → Ev (fun k => impl_FromInversions.l0 k cs (cs.length : Int) cs (cs.length : Int) (pre.length : Int)) (if cs.length ≤ 12 ∧ cntOk 0 cs = true then (frL cs.length (idL cs.length) cs, true) else ([], false))) ?_ ?_
    · intro hc
      have hc' : cntOk 0 cs = true := hc
      have h2 := cntOk_iff.1 hc'
      rw [if_pos ⟨by omega, hc'⟩]
      refine ev_shift ?_
      simp only [impl_FromInversions.l0]
      refine ev_neg (by omega) (ev_bind (impl_identity_ev _ (by omega)) (ev_pos (by omega) (ev_pos (by omega) ?_)))
      rw [w64 (by omega) (by omega), Int.toNat_natCast]
      have := impl_FromInversions_l1_ev cs (by omega) (fun j hj => by have := h2 j hj; omega) cs.length (idL cs.length) (List.replicate cs.length 0) (Nat.le_refl _) (idL_length _) (by simp)
      simpa using this
    · intro pre x suf h hx h1 h2 h3 ih hc
      refine ev_shift ?_
      simp only [impl_FromInversions.l0, hx, h3]
      refine ev_pos h1 (ev_pos h2 (ev_pos h1 (ev_bind0 (impl_within_eq _ _ _) ?_)))
      simp only [cntOk] at hc
      cases hr : inR x 0 (pre.length : Int) with
      | false =>
        rw [hr, Bool.false_and] at hc
        refine ev_neg (by simp) (ev_some ?_)
        rw [if_neg (fun c => by rw [hc] at c; cases c.2)]
      | true =>
        rw [hr, Bool.true_and] at hc
        exact ev_pos rfl (ih (by rw [hc]; simp))
  exact key cs [] rfl rfl
theorem spec_FromInversions_l0_ev (cs : List Int) (hn : cs.length ≤ 12) : ∀ (m : Nat) (items out : List Int), m ≤ cs.length → items.length = m → out.length + m ≤ 12 →
    Ev (fun k => spec_FromInversions.l0 k cs items out ((m : Int) - 1)) (if okTo m cs = true then (frL m items cs ++ out, true) else ([], false)) := by
  intro m
  induction m with
  | zero =>
    intro items out _ _ _
    refine ev_shift ?_
    simp only [spec_FromInversions.l0]
    exact ev_neg (by omega) (ev_some (by simp [frL, okTo]))
  | succ m ih =>
    intro items out hm hl ho
    have e1 : (((m + 1 : Nat) : Int) - 1) = (m : Int) := by omega
    have e2 : wrap64 ((m : Int) - 1) = (m : Int) - 1 := w64 (by omega) (by omega)
    have e0 : wrap64 ((items.length : Int) - 1) = (m : Int) := by rw [w64 (by omega) (by omega)]; omega
    refine ev_shift ?_
    simp only [spec_FromInversions.l0, e1, rd_nat, e2, e0]
    refine ev_pos (by omega) (ev_pos (by omega) (ev_pos (by omega) (ev_bind0 (spec_l1In_eq _ _ _) ?_)))
    by_cases hr : inR (cs.getD m 0) 0 (m : Int) = true
    case neg =>
      simp only [Bool.not_eq_true] at hr
      have eo : okTo (m + 1) cs = false := by rw [okTo, hr, Bool.false_and]
      refine ev_neg (by rw [hr]; simp) (ev_some ?_)
      rw [eo]; rfl
    case pos =>
      have hcm := inR_iff.1 hr
      have e3 : wrap64 ((m : Int) - cs.getD m 0) = ((m - (cs.getD m 0).toNat : Nat) : Int) := by rw [w64 (by omega) (by omega)]; omega
      refine ev_pos hr ?_
      have eo : okTo (m + 1) cs = okTo m cs := by rw [okTo, hr, Bool.true_and]
      rw [e3, frL, eo]
      obtain ⟨q, hq⟩ : ∃ q, q = m - (cs.getD m 0).toNat := ⟨_, rfl⟩
      have hql : q < items.length := by omega
      rw [← hq, rd_nat]
      clear e1 e2 e3 e0
      refine ev_pos (by omega) (ev_pos (by omega) (ev_bind0 rfl (ev_pos (by simp only [List.length_cons, List.length_nil]; omega) (ev_bind0 (spec_raWithout_eq items q hql (by omega)) ?_))))
      have := ih (items.eraseIdx q) ([items.getD q 0] ++ out) (by omega) (by rw [List.length_eraseIdx_of_lt hql, hl]; rfl) (by simp; omega)
      rw [List.append_assoc]
      exact this
theorem spec_FromInversions_ev (cs : List Int) (hl : cs.length ≤ 9000000000000000000) : Ev (fun k => spec_FromInversions.f k cs) (frPm cs) := by
  unfold spec_FromInversions.f frPm
  refine ev_bind0 (spec_raItems_eq _) ?_
  by_cases h : inR (cs.length : Int) 0 12 = true
  · have h' := inR_iff.1 h
    have h12 : cs.length ≤ 12 := by omega
    refine ev_pos h (ev_bind (spec_raUpTo_ev _ h12) ?_)
    rw [w64 (by omega) (by omega)]
    have := spec_FromInversions_l0_ev cs (by omega) cs.length (idL cs.length) [] (Nat.le_refl _) (idL_length _) (by simpa using h12)
    rw [okTo_cntOk, List.append_nil] at this
    by_cases hc : cntOk 0 cs = true
    · rw [if_pos hc] at this; rw [if_pos ⟨h12, hc⟩]; exact this
    · rw [if_neg hc] at this; rw [if_neg (fun c => hc c.2)]; exact this
  · refine ev_neg h (ev_some ?_)
    rw [if_neg (fun c => h (inR_iff.2 ⟨by omega, by omega⟩))]
theorem FnExactFromInversions : laws_FnExactFromInversions.Pure := by
  intro l hl1 hl2 hl
  apply ev_le
  unfold laws_FnExactFromInversions.f
  by_cases hb : (l.length : Int) > 1048576
  · exact ev_pos hb (ev_some rfl)
  have hs := spec_FromInversions_ev l (by omega)
  have hi := impl_FromInversions_ev l (by omega)
  have hlen := frPm_len l
  generalize frPm l = p at hs hi hlen
  obtain ⟨out, ok⟩ := p
  simp only at hlen
  refine ev_neg hb ?_
  repeat (first
      | exact ev_some rfl
      | refine ev_bind (laws_toIntS_ev _ (by omega)) ?_
      | refine ev_bind (laws_eqIntS_ev _ (by omega)) ?_
      | refine ev_bind (laws_markIntS_ev _ _ (by omega) (by omega) (by omega)) ?_
      | refine ev_bind (laws_heldIntS_ev _ _ (by omega) (by omega) (by omega)) ?_
      | refine ev_bind hs ?_
      | refine ev_bind hi ?_
      | refine ev_pos rfl ?_
      | refine ev_pos trivial ?_
      | refine ev_neg neq_self ?_
      | dsimp only
      | refine ev_neg (by omega) ?_
      | (refine ev_shift ?_; simp only [laws_FnExactFromInversions.j0, laws_FnExactFromInversions.j1, laws_FnExactFromInversions.j2]))

end Go.Proofs.Ytoajkfiighdjpaa.Pure
