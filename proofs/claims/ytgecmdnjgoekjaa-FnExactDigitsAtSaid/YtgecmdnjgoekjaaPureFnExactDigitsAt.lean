/- The law FnExactDigitsAt returns true for every list and number (reach and kinds as the row says); no condition of ours. -/
import Derived.Test.YtgecmdnjgoekjaaPFnExactDigitsAtx3
import Derived.Test.YtgecmdnjgoekjaaMth
import Derived.Test.YtgecmdnjgoekjaaMthDigits
set_option linter.unusedVariables false
set_option linter.unusedSimpArgs false
namespace Go.Proofs.Ytgecmdnjgoekjaa.Pure
open Go.RowKit Go.Proofs.Ytgecmdnjgoekjaa.Mth Go.Proofs.Ytgecmdnjgoekjaa.PFnExactDigitsAt Go.Proofs.YtgecmdnjgoekjaaW.PrintWords Go.Proofs.YtgecmdnjgoekjaaW.PrintLast

theorem laws_toIntS_ev (l : List Int) (hl : l.length ≤ 1048576) : Ev (fun k => laws_toIntS.f k l) l := by
  unfold laws_toIntS.f
  refine ev_pos (by omega) (ev_pos (by omega) ?_)
  refine range_all (l := l) (by omega) (fun pre suf => Ev (fun k => laws_toIntS.l0 k l (pre ++ List.replicate suf.length 0) (pre.length : Int)) l) ?_ ?_
  · refine ev_shift ?_
    simp only [laws_toIntS.l0]
    exact ev_neg (by omega) (ev_some (by simp))
  · intro pre x suf h hx h1 h2 h3 ih
    refine ev_shift ?_
    simp only [laws_toIntS.l0, hx, h3, List.length_cons, List.replicate_succ, set_at]
    refine ev_pos h1 (ev_pos h2 (ev_pos (by simp; omega) ?_))
    simpa using ih
theorem laws_eqIntS_ev (l : List Int) (hl : l.length ≤ 9000000000000000000) : Ev (fun k => laws_eqIntS.f k l l) true := by
  unfold laws_eqIntS.f
  refine ev_pos rfl ?_
  refine range_all hl (fun pre suf => Ev (fun k => laws_eqIntS.l0 k l l (pre.length : Int)) true) ?_ ?_
  · refine ev_shift ?_
    simp only [laws_eqIntS.l0]
    exact ev_neg (by omega) (ev_some rfl)
  · intro pre x suf h hx h1 h2 h3 ih
    refine ev_shift ?_
    simp only [laws_eqIntS.l0, h3]
    exact ev_pos h1 (ev_pos h2 (ev_pos h1 (ev_pos (by trivial) ih)))
theorem laws_markIntS_ev (l : List Int) (m : Int) (h0 : 0 ≤ m) (h1 : m ≤ 1000000000000000000) (hl : l.length ≤ 1000000000000000000) : Ev (fun k => laws_markIntS.f k l m) (m + (l.length : Int), marks l.length m) := by
  have key : (fun (pre suf : List Int) => l.length = pre.length + suf.length → Ev (fun k => laws_markIntS.l0 k (marks pre.length m ++ suf) (m + (pre.length : Int)) (pre.length : Int)) (m + (l.length : Int), marks l.length m)) [] l := by
    refine range_all (l := l) (by omega) (fun pre suf => l.length = pre.length + suf.length → Ev (fun k => laws_markIntS.l0 k (marks pre.length m ++ suf) (m + (pre.length : Int)) (pre.length : Int)) (m + (l.length : Int), marks l.length m)) ?_ ?_
    · intro _
      refine ev_shift ?_
      simp only [laws_markIntS.l0]
      exact ev_neg (by simp [marks_length]) (ev_some (by simp))
    · intro pre x suf h hx h1 h2 h3 ih hlen
      simp only [List.length_cons] at hlen
      refine ev_shift ?_
      have e : (marks pre.length m ++ x :: suf).set (pre.length : Int).toNat (m + (pre.length : Int)) = marks (pre ++ [x]).length m ++ suf := by
        have := set_at (marks pre.length m) x (m + (pre.length : Int)) suf
        rw [marks_length] at this
        rw [this, List.length_append, List.length_singleton, marks_snoc]; simp
      simp only [laws_markIntS.l0, h3, e]
      refine ev_pos (by simp [marks_length]; omega) (ev_pos h2 ?_)
      rw [w64 (by omega) (by omega)]
      have := ih (by simp; omega)
      simp only [List.length_append, List.length_singleton] at this ⊢
      rw [show m + (pre.length : Int) + 1 = m + ((pre.length + 1 : Nat) : Int) by omega]
      exact this
  have := key (by simp)
  unfold laws_markIntS.f
  simpa [marks] using this
theorem laws_heldIntS_ev (n : Nat) (m : Int) (h0 : 0 ≤ m) (h1 : m ≤ 1000000000000000000) (hl : n ≤ 1000000000000000000) : Ev (fun k => laws_heldIntS.f k (marks n m) m) (m + (n : Int)) := by
  have key : (fun (pre suf : List Int) => n = pre.length + suf.length → Ev (fun k => laws_heldIntS.l0 k (marks n m) (m + (pre.length : Int)) (pre.length : Int)) (m + (n : Int))) [] (marks n m) := by
    refine range_all (l := marks n m) (by rw [marks_length]; omega) (fun pre suf => n = pre.length + suf.length → Ev (fun k => laws_heldIntS.l0 k (marks n m) (m + (pre.length : Int)) (pre.length : Int)) (m + (n : Int))) ?_ ?_
    · intro _
      refine ev_shift ?_
      simp only [laws_heldIntS.l0, marks_length]
      exact ev_neg (by omega) (ev_some (by simp))
    · intro pre x suf h hx h1 h2 h3 ih hlen
      simp only [List.length_cons] at hlen
      refine ev_shift ?_
      have e : rd (marks n m) (pre.length : Int) = m + (pre.length : Int) := marks_rd n m pre.length (by omega)
      simp only [laws_heldIntS.l0, h3, e]
      refine ev_pos h1 (ev_pos h2 (ev_pos (by trivial) ?_))
      rw [w64 (by omega) (by omega)]
      have := ih (by simp; omega)
      simp only [List.length_append, List.length_singleton] at this ⊢
      rw [show m + (pre.length : Int) + 1 = m + ((pre.length + 1 : Nat) : Int) by omega]
      exact this
  have := key (by simp [marks_length])
  unfold laws_heldIntS.f
  simpa [marks] using this
theorem impl_within_eq (a b c : Int) : impl_within.f a b c = some (inR a b c) := in_ite a b c
theorem impl_allWithin_ev (l : List Int) (lo hi : Int) (hl : l.length ≤ 9000000000000000000) : Ev (fun k => impl_allWithin.f k l lo hi) (allIn l lo hi) := by
  refine range_all hl (fun pre suf => Ev (fun k => impl_allWithin.l0 k lo hi l (l.length : Int) (pre.length : Int)) (allIn suf lo hi)) ?_ ?_
  · refine ev_shift ?_
    simp only [impl_allWithin.l0]
    exact ev_neg (by omega) (ev_some rfl)
  · intro pre x suf h hx h1 h2 h3 ih
    refine ev_shift ?_
    simp only [impl_allWithin.l0, hx, h3, impl_within_eq, Option.bind_some, allIn_cons]
    refine ev_pos h1 (ev_pos h2 (ev_pos h1 ?_))
    cases inR x lo hi with
    | true => exact ev_pos rfl ih
    | false => exact ev_neg (by simp) (ev_some rfl)
theorem impl_size_F (l : List Int) (h : allIn l 2 12 = true) (hl : l.length ≤ 9000000000000000000) : Ev (fun k => impl_size.f k l) (sizeF 1 l) := by
  have hge := allIn_iff.1 h
  have key : ∀ suf pre, l = pre ++ suf → ∀ acc : Int, 1 ≤ acc → acc ≤ 1000001 → Ev (fun k => impl_size.l0 k acc l (l.length : Int) (pre.length : Int)) (sizeF acc suf) := by
    refine range_ind hl (fun pre suf => ∀ acc : Int, 1 ≤ acc → acc ≤ 1000001 → Ev (fun k => impl_size.l0 k acc l (l.length : Int) (pre.length : Int)) (sizeF acc suf)) ?_ ?_
    · intro acc _ _
      refine ev_shift ?_
      simp only [impl_size.l0]
      exact ev_neg (by omega) (ev_some rfl)
    · intro pre x suf hh hx h1 h2 h3 ih acc a0 a1
      have hx0 := hge x (by rw [hh]; simp)
      have hm := acc_mul a0 a1 hx0.1 hx0.2
      refine ev_shift ?_
      simp only [impl_size.l0, hx, h3]
      rw [w64 (by omega) (by omega)]
      refine ev_pos h1 (ev_pos h2 (ev_pos h1 ?_))
      simp only [sizeF]
      refine ih _ ?_ ?_
      · unfold mn; split <;> omega
      · unfold mn; split <;> omega
  exact key l [] rfl 1 (by omega) (by omega)
theorem impl_size_ev (l : List Int) (h : areB l = true) : Ev (fun k => impl_size.f k l) (prod l) := by
  have h' := areB_iff.1 h
  have := impl_size_F l h'.2.1 (by omega)
  rw [sizeF_eq h'.2.1 1 (by omega) (by omega), Int.one_mul, if_pos h'.2.2] at this
  exact this
theorem impl_areBases_ev (l : List Int) (hl : l.length ≤ 9000000000000000000) : Ev (fun k => impl_areBases.f k l) (areB l) := by
  unfold impl_areBases.f areB
  by_cases hlen : (l.length : Int) ≤ 12
  · refine ev_pos hlen (ev_bind (impl_allWithin_ev l 2 12 hl) ?_)
    cases ha : allIn l 2 12 with
    | false => exact ev_neg (by simp) (ev_some (by simp))
    | true =>
      refine ev_pos rfl (ev_bind (impl_size_F l ha hl) (ev_some ?_))
      rw [sizeF_eq ha 1 (by omega) (by omega), Int.one_mul]
      rw [decide_eq_true hlen, Bool.true_and, Bool.true_and]
      by_cases hp : prod l ≤ 1000000
      · rw [if_pos hp]
      · rw [if_neg hp, decide_eq_false hp]; decide
  · exact ev_neg hlen (ev_some (by rw [decide_eq_false hlen]; rfl))
theorem spec_l1In_eq (a b c : Int) : spec_l1In.f a b c = some (inR a b c) := in_ite a b c
theorem spec_l1All_ev (l : List Int) (lo hi : Int) (hl : l.length ≤ 9000000000000000000) : Ev (fun k => spec_l1All.f k l lo hi) (allIn l lo hi) := by
  refine range_all hl (fun pre suf => Ev (fun k => spec_l1All.l0 k lo hi l (l.length : Int) (pre.length : Int)) (allIn suf lo hi)) ?_ ?_
  · refine ev_shift ?_
    simp only [spec_l1All.l0]
    exact ev_neg (by omega) (ev_some rfl)
  · intro pre x suf h hx h1 h2 h3 ih
    refine ev_shift ?_
    simp only [spec_l1All.l0, hx, h3, spec_l1In_eq, Option.bind_some, allIn_cons]
    refine ev_pos h1 (ev_pos h2 (ev_pos h1 ?_))
    cases inR x lo hi with
    | true => exact ev_pos rfl ih
    | false => exact ev_neg (by simp) (ev_some rfl)
theorem spec_raProduct_F (l : List Int) (h : allIn l 2 12 = true) (hl : l.length ≤ 9000000000000000000) : Ev (fun k => spec_raProduct.f k l) (prF 1 l) := by
  have hge := allIn_iff.1 h
  have key : ∀ suf pre, l = pre ++ suf → ∀ acc : Int, 1 ≤ acc → acc ≤ 1000000 → Ev (fun k => spec_raProduct.l0 k acc l (l.length : Int) (pre.length : Int)) (prF acc suf) := by
    refine range_ind hl (fun pre suf => ∀ acc : Int, 1 ≤ acc → acc ≤ 1000000 → Ev (fun k => spec_raProduct.l0 k acc l (l.length : Int) (pre.length : Int)) (prF acc suf)) ?_ ?_
    · intro acc _ _
      refine ev_shift ?_
      simp only [spec_raProduct.l0]
      exact ev_neg (by omega) (ev_some rfl)
    · intro pre x suf hh hx h1 h2 h3 ih acc a0 a1
      have hx0 := hge x (by rw [hh]; simp)
      have hm := acc_mul a0 (by omega) hx0.1 hx0.2
      refine ev_shift ?_
      simp only [spec_raProduct.l0, hx, h3]
      rw [w64 (by omega) (by omega)]
      refine ev_pos h1 (ev_pos h2 (ev_pos h1 ?_))
      simp only [prF]
      by_cases hc : acc * x > 1000000
      · rw [if_pos hc]; exact ev_pos hc (ev_some rfl)
      · rw [if_neg hc]; exact ev_neg hc (ih _ (by omega) (by omega))
  exact key l [] rfl 1 (by omega) (by omega)
theorem spec_raProduct_ev (l : List Int) (h : areB l = true) : Ev (fun k => spec_raProduct.f k l) (prod l) := by
  have h' := areB_iff.1 h
  have := spec_raProduct_F l h'.2.1 (by omega)
  rw [(prF_eq h'.2.1 1 (by omega) (by omega)).1 (by rw [Int.one_mul]; exact h'.2.2), Int.one_mul] at this
  exact this
theorem spec_raBases_ev (l : List Int) (hl : l.length ≤ 9000000000000000000) : Ev (fun k => spec_raBases.f k l) (areB l) := by
  unfold spec_raBases.f areB
  by_cases hlen : (l.length : Int) ≤ 12
  · refine ev_pos hlen (ev_bind (spec_l1All_ev l 2 12 hl) ?_)
    cases ha : allIn l 2 12 with
    | false => exact ev_neg (by simp) (ev_some (by simp))
    | true =>
      refine ev_pos rfl (ev_bind (spec_raProduct_F l ha hl) (ev_some ?_))
      obtain ⟨g1, g2⟩ := prF_eq ha 1 (by omega) (by omega)
      rw [Int.one_mul] at g1 g2
      rw [decide_eq_true hlen, Bool.true_and, Bool.true_and]
      by_cases hp : prod l ≤ 1000000
      · rw [g1 hp]
      · have := g2 hp
        rw [decide_eq_false hp, decide_eq_false (by omega)]
  · exact ev_neg hlen (ev_some (by rw [decide_eq_false hlen]; rfl))
theorem spec_raDigits_l0 (bs : List Int) (hb : areB bs = true) (j : Nat) : ∀ (r : Int) (out : List Int), j ≤ bs.length → out.length = bs.length → Ev (fun k => spec_raDigits.l0 k bs r out ((j : Int) - 1)) (dgo bs j r out) := by
  have hb' := areB_iff.1 hb
  induction j with
  | zero =>
    intro r out _ _
    refine ev_shift ?_
    simp only [spec_raDigits.l0]
    exact ev_neg (by omega) (ev_some rfl)
  | succ j ih =>
    intro r out hj ho
    have e : (((j + 1 : Nat) : Int) - 1) = (j : Int) := by omega
    have hm := allIn_iff.1 hb'.2.1 _ (rd_mem (l := bs) (j := j) (by omega))
    refine ev_shift ?_
    simp only [spec_raDigits.l0, e]
    refine ev_pos (by omega) (ev_pos (by omega) (ev_pos (by omega) (ev_neg (by omega) (ev_pos (by omega) ?_))))
    rw [w64 (x := (j : Int) - 1) (by omega) (by omega), Int.toNat_natCast]
    exact ih _ _ (by omega) (by simp [ho])
theorem spec_raDigits_ev (bs : List Int) (r : Int) (hb : areB bs = true) : Ev (fun k => spec_raDigits.f k bs r) (dgo bs bs.length r (List.replicate bs.length 0)) := by
  have hb' := areB_iff.1 hb
  unfold spec_raDigits.f
  refine ev_pos (by omega) (ev_pos (by omega) ?_)
  rw [w64 (by omega) (by omega), Int.toNat_natCast]
  exact spec_raDigits_l0 bs hb bs.length r _ (Nat.le_refl _) (by simp)
theorem impl_DigitsAt_l0 (bs : List Int) (hb : areB bs = true) (j : Nat) : ∀ (r : Int) (out : List Int), j ≤ bs.length → out.length = bs.length → Ev (fun k => impl_DigitsAt.l0 k bs r out ((j : Int) - 1)) (dgo bs j r out, true) := by
  have hb' := areB_iff.1 hb
  induction j with
  | zero =>
    intro r out _ _
    refine ev_shift ?_
    simp only [impl_DigitsAt.l0]
    exact ev_neg (by omega) (ev_some rfl)
  | succ j ih =>
    intro r out hj ho
    have e : (((j + 1 : Nat) : Int) - 1) = (j : Int) := by omega
    have hm := allIn_iff.1 hb'.2.1 _ (rd_mem (l := bs) (j := j) (by omega))
    refine ev_shift ?_
    simp only [impl_DigitsAt.l0, e]
    refine ev_pos (by omega) (ev_pos (by omega) (ev_pos (by omega) (ev_neg (by omega) (ev_pos (by omega) ?_))))
    rw [w64 (x := (j : Int) - 1) (by omega) (by omega), Int.toNat_natCast]
    exact ih _ _ (by omega) (by simp [ho])
theorem spec_DigitsAt_ev (bs : List Int) (r : Int) (hl : bs.length ≤ 9000000000000000000) : Ev (fun k => spec_DigitsAt.f k bs r) (digsAt bs r) := by
  unfold spec_DigitsAt.f digsAt
  refine ev_bind (spec_raBases_ev bs hl) ?_
  by_cases hb : areB bs = true
  · have hb' := areB_iff.1 hb
    have hp := prod_pos hb'.2.1
    refine ev_pos hb (ev_bind (spec_raProduct_ev bs hb) ?_)
    rw [w64 (by omega) (by omega)]
    refine ev_bind0 (spec_l1In_eq _ _ _) ?_
    by_cases h : inR r 0 (prod bs - 1) = true
    · rw [if_pos ⟨hb, h⟩]
      exact ev_pos h (ev_bind (spec_raDigits_ev bs r hb) (ev_some rfl))
    · rw [if_neg (fun c => h c.2)]
      exact ev_neg h (ev_some rfl)
  · rw [if_neg (fun c => hb c.1)]
    exact ev_neg hb (ev_some rfl)
theorem impl_DigitsAt_ev (bs : List Int) (r : Int) (hl : bs.length ≤ 9000000000000000000) : Ev (fun k => impl_DigitsAt.f k bs r) (digsAt bs r) := by
  have bad : Ev (fun k => impl_DigitsAt.j0 k bs r true) ([], false) := by
    refine ev_shift ?_
    simp only [impl_DigitsAt.j0]
    exact ev_pos (by trivial) (ev_some rfl)
  unfold impl_DigitsAt.f digsAt
  refine ev_bind (impl_areBases_ev bs hl) ?_
  by_cases hb : areB bs = true
  · have hb' := areB_iff.1 hb
    have hp := prod_pos hb'.2.1
    refine ev_pos hb (ev_bind (impl_size_ev bs hb) ?_)
    rw [w64 (by omega) (by omega)]
    refine ev_bind0 (impl_within_eq _ _ _) ?_
    by_cases h : inR r 0 (prod bs - 1) = true
    · rw [if_pos ⟨hb, h⟩, h]
      refine ev_shift ?_
      simp only [impl_DigitsAt.j0]
      refine ev_neg (by simp) (ev_pos (by omega) (ev_pos (by omega) ?_))
      rw [w64 (by omega) (by omega), Int.toNat_natCast]
      exact impl_DigitsAt_l0 bs hb bs.length r _ (Nat.le_refl _) (by simp)
    · rw [if_neg (fun c => h c.2)]
      simp only [Bool.not_eq_true] at h
      rw [h]
      exact bad
  · rw [if_neg (fun c => hb c.1)]
    exact ev_neg hb bad
theorem FnExactDigitsAt : laws_FnExactDigitsAt.Pure := by
  intro bs r hl1 hl2 hl hr
  apply ev_le
  unfold laws_FnExactDigitsAt.f
  by_cases hb : (bs.length : Int) > 1048576
  · exact ev_pos hb (ev_some rfl)
  have hs := spec_DigitsAt_ev bs r (by omega)
  have hi := impl_DigitsAt_ev bs r (by omega)
  have hlen := digsAt_len bs r
  generalize digsAt bs r = p at hs hi hlen
  obtain ⟨out, ok⟩ := p
  simp only at hlen
  refine ev_neg hb ?_
  repeat (first
      | exact ev_some rfl
      | refine ev_bind (laws_toIntS_ev _ (by omega)) ?_
      | refine ev_bind (laws_eqIntS_ev _ (by omega)) ?_
      | refine ev_bind (laws_markIntS_ev _ _ (by omega) (by omega) (by omega)) ?_
      | refine ev_bind (laws_heldIntS_ev _ _ (by omega) (by omega) (by omega)) ?_
      | refine ev_bind hs ?_
      | refine ev_bind hi ?_
      | refine ev_pos rfl ?_
      | refine ev_pos trivial ?_
      | refine ev_neg neq_self ?_
      | dsimp only
      | refine ev_neg (by omega) ?_
      | (refine ev_shift ?_; simp only [laws_FnExactDigitsAt.j0, laws_FnExactDigitsAt.j1, laws_FnExactDigitsAt.j2]))

end Go.Proofs.Ytgecmdnjgoekjaa.Pure
