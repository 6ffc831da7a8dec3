/- The law FnExactMixedAt returns true for every list and number (reach and kinds as the row says); no condition of ours. -/
import Derived.Test.YtdalaiooakclmaaQFnExactMixedAtx3
import Derived.Test.YtdalaiooakclmaaMth
import Derived.Test.YtdalaiooakclmaaMthDigits
set_option linter.unusedVariables false
set_option linter.unusedSimpArgs false
namespace Go.Proofs.Ytdalaiooakclmaa.Pure
open Go.RowKit Go.Proofs.Ytdalaiooakclmaa.Mth Go.Proofs.Ytdalaiooakclmaa.PFnExactMixedAt Go.Proofs.YtdalaiooakclmaaW.PrintWords Go.Proofs.YtdalaiooakclmaaW.PrintLast

theorem laws_toIntS_ev (l : List Int) (hl : l.length ≤ 1048576) : Ev (fun k => laws_toIntS.f k l) l := by
  unfold laws_toIntS.f
  refine ev_pos (by omega) (ev_pos (by omega) ?_)
  refine range_all (l := l) (by omega) (fun pre suf => Ev (fun k => laws_toIntS.l0 k l (pre ++ List.replicate suf.length 0) (pre.length : Int)) l) ?_ ?_
  · refine ev_shift ?_
    simp only [laws_toIntS.l0]
    exact ev_neg (by omega) (ev_some (by simp))
  · intro pre x suf h hx h1 h2 h3 ih
    refine ev_shift ?_
    simp only [laws_toIntS.l0, hx, h3, List.length_cons, List.replicate_succ, set_at]
    refine ev_pos h1 (ev_pos h2 (ev_pos (by simp; omega) ?_))
    simpa using ih
theorem laws_eqIntS_ev (l : List Int) (hl : l.length ≤ 9000000000000000000) : Ev (fun k => laws_eqIntS.f k l l) true := by
  unfold laws_eqIntS.f
  refine ev_pos rfl ?_
  refine range_all hl (fun pre suf => Ev (fun k => laws_eqIntS.l0 k l l (pre.length : Int)) true) ?_ ?_
  · refine ev_shift ?_
    simp only [laws_eqIntS.l0]
    exact ev_neg (by omega) (ev_some rfl)
  · intro pre x suf h hx h1 h2 h3 ih
    refine ev_shift ?_
    simp only [laws_eqIntS.l0, h3]
    exact ev_pos h1 (ev_pos h2 (ev_pos h1 (ev_pos (by trivial) ih)))
theorem laws_markIntS_ev (l : List Int) (m : Int) (h0 : 0 ≤ m) (h1 : m ≤ 1000000000000000000) (hl : l.length ≤ 1000000000000000000) : Ev (fun k => laws_markIntS.f k l m) (m + (l.length : Int), marks l.length m) := by
  have key : (fun (pre suf : List Int) => l.length = pre.length + suf.length → Ev (fun k => laws_markIntS.l0 k (marks pre.length m ++ suf) (m + (pre.length : Int)) (pre.length : Int)) (m + (l.length : Int), marks l.length m)) [] l := by
    refine range_all (l := l) (by omega) (fun pre suf => l.length = pre.length + suf.length → Ev (fun k => laws_markIntS.l0 k (marks pre.length m ++ suf) (m + (pre.length : Int)) (pre.length : Int)) (m + (l.length : Int), marks l.length m)) ?_ ?_
    · intro _
      refine ev_shift ?_
      simp only [laws_markIntS.l0]
      exact ev_neg (by simp [marks_length]) (ev_some (by simp))
    · intro pre x suf h hx h1 h2 h3 ih hlen
      simp only [List.length_cons] at hlen
      refine ev_shift ?_
      have e : (marks pre.length m ++ x :: suf).set (pre.length : Int).toNat (m + (pre.length : Int)) = marks (pre ++ [x]).length m ++ suf := by
        have := set_at (marks pre.length m) x (m + (pre.length : Int)) suf
        rw [marks_length] at this
        rw [this, List.length_append, List.length_singleton, marks_snoc]; simp
      simp only [laws_markIntS.l0, h3, e]
      refine ev_pos (by simp [marks_length]; omega) (ev_pos h2 ?_)
      rw [w64 (by omega) (by omega)]
      have := ih (by simp; omega)
      simp only [List.length_append, List.length_singleton] at this ⊢
      rw [show m + (pre.length : Int) + 1 = m + ((pre.length + 1 : Nat) : Int) by omega]
      exact this
  have := key (by simp)
  unfold laws_markIntS.f
  simpa [marks] using this
theorem laws_heldIntS_ev (n : Nat) (m : Int) (h0 : 0 ≤ m) (h1 : m ≤ 1000000000000000000) (hl : n ≤ 1000000000000000000) : Ev (fun k => laws_heldIntS.f k (marks n m) m) (m + (n : Int)) := by
  have key : (fun (pre suf : List Int) => n = pre.length + suf.length → Ev (fun k => laws_heldIntS.l0 k (marks n m) (m + (pre.length : Int)) (pre.length : Int)) (m + (n : Int))) [] (marks n m) := by
    refine range_all (l := marks n m) (by rw [marks_length]; omega) (fun pre suf => n = pre.length + suf.length → Ev (fun k => laws_heldIntS.l0 k (marks n m) (m + (pre.length : Int)) (pre.length : Int)) (m + (n : Int))) ?_ ?_
    · intro _
      refine ev_shift ?_
      simp only [laws_heldIntS.l0, marks_length]
      exact ev_neg (by omega) (ev_some (by simp))
    · intro pre x suf h hx h1 h2 h3 ih hlen
      simp only [List.length_cons] at hlen
      refine ev_shift ?_
      have e : rd (marks n m) (pre.length : Int) = m + (pre.length : Int) := marks_rd n m pre.length (by omega)
      simp only [laws_heldIntS.l0, h3, e]
      refine ev_pos h1 (ev_pos h2 (ev_pos (by trivial) ?_))
      rw [w64 (by omega) (by omega)]
      have := ih (by simp; omega)
      simp only [List.length_append, List.length_singleton] at this ⊢
      rw [show m + (pre.length : Int) + 1 = m + ((pre.length + 1 : Nat) : Int) by omega]
      exact this
  have := key (by simp [marks_length])
  unfold laws_heldIntS.f
  simpa [marks] using this
theorem impl_within_eq (a b c : Int) : impl_within.f a b c = some (inR a b c) := in_ite a b c
theorem impl_allWithin_ev (l : List Int) (lo hi : Int) (hl : l.length ≤ 9000000000000000000) : Ev (fun k => impl_allWithin.f k l lo hi) (allIn l lo hi) := by
  refine range_all hl (fun pre suf => Ev (fun k => impl_allWithin.l0 k lo hi l (l.length : Int) (pre.length : Int)) (allIn suf lo hi)) ?_ ?_
  · refine ev_shift ?_
    simp only [impl_allWithin.l0]
    exact ev_neg (by omega) (ev_some rfl)
  · intro pre x suf h hx h1 h2 h3 ih
    refine ev_shift ?_
    simp only [impl_allWithin.l0, hx, h3, impl_within_eq, Option.bind_some, allIn_cons]
    refine ev_pos h1 (ev_pos h2 (ev_pos h1 ?_))
    cases inR x lo hi with
    | true => exact ev_pos rfl ih
    | false => exact ev_neg (by simp) (ev_some rfl)
theorem impl_size_F (l : List Int) (h : allIn l 2 12 = true) (hl : l.length ≤ 9000000000000000000) : Ev (fun k => impl_size.f k l) (sizeF 1 l) := by
  have hge := allIn_iff.1 h
  have key : ∀ suf pre, l = pre ++ suf → ∀ acc : Int, 1 ≤ acc → acc ≤ 1000001 → Ev (fun k => impl_size.l0 k acc l (l.length : Int) (pre.length : Int)) (sizeF acc suf) := by
    refine range_ind hl (fun pre suf => ∀ acc : Int, 1 ≤ acc → acc ≤ 1000001 → Ev (fun k => impl_size.l0 k acc l (l.length : Int) (pre.length : Int)) (sizeF acc suf)) ?_ ?_
    · intro acc _ _
      refine ev_shift ?_
      simp only [impl_size.l0]
      exact ev_neg (by omega) (ev_some rfl)
    · intro pre x suf hh hx h1 h2 h3 ih acc a0 a1
      have hx0 := hge x (by rw [hh]; simp)
      have hm := acc_mul a0 a1 hx0.1 hx0.2
      refine ev_shift ?_
      simp only [impl_size.l0, hx, h3]
      rw [w64 (by omega) (by omega)]
      refine ev_pos h1 (ev_pos h2 (ev_pos h1 ?_))
      simp only [sizeF]
      refine ih _ ?_ ?_
      · unfold mn; split <;> omega
      · unfold mn; split <;> omega
  exact key l [] rfl 1 (by omega) (by omega)
theorem impl_size_ev (l : List Int) (h : areB l = true) : Ev (fun k => impl_size.f k l) (prod l) := by
  have h' := areB_iff.1 h
  have := impl_size_F l h'.2.1 (by omega)
  rw [sizeF_eq h'.2.1 1 (by omega) (by omega), Int.one_mul, if_pos h'.2.2] at this
  exact this
theorem impl_areBases_ev (l : List Int) (hl : l.length ≤ 9000000000000000000) : Ev (fun k => impl_areBases.f k l) (areB l) := by
  unfold impl_areBases.f areB
  by_cases hlen : (l.length : Int) ≤ 12
  · refine ev_pos hlen (ev_bind (impl_allWithin_ev l 2 12 hl) ?_)
    cases ha : allIn l 2 12 with
    | false => exact ev_neg (by simp) (ev_some (by simp))
    | true =>
      refine ev_pos rfl (ev_bind (impl_size_F l ha hl) (ev_some ?_))
      rw [sizeF_eq ha 1 (by omega) (by omega), Int.one_mul]
      rw [decide_eq_true hlen, Bool.true_and, Bool.true_and]
      by_cases hp : prod l ≤ 1000000
      · rw [if_pos hp]
      · rw [if_neg hp, decide_eq_false hp]; decide
  · exact ev_neg hlen (ev_some (by rw [decide_eq_false hlen]; rfl))
theorem spec_l1In_eq (a b c : Int) : spec_l1In.f a b c = some (inR a b c) := in_ite a b c
theorem spec_l1All_ev (l : List Int) (lo hi : Int) (hl : l.length ≤ 9000000000000000000) : Ev (fun k => spec_l1All.f k l lo hi) (allIn l lo hi) := by
  refine range_all hl (fun pre suf => Ev (fun k => spec_l1All.l0 k lo hi l (l.length : Int) (pre.length : Int)) (allIn suf lo hi)) ?_ ?_
  · refine ev_shift ?_
    simp only [spec_l1All.l0]
    exact ev_neg (by omega) (ev_some rfl)
  · intro pre x suf h hx h1 h2 h3 ih
    refine ev_shift ?_
    simp only [spec_l1All.l0, hx, h3, spec_l1In_eq, Option.bind_some, allIn_cons]
    refine ev_pos h1 (ev_pos h2 (ev_pos h1 ?_))
    cases inR x lo hi with
    | true => exact ev_pos rfl ih
    | false => exact ev_neg (by simp) (ev_some rfl)
theorem spec_raProduct_F (l : List Int) (h : allIn l 2 12 = true) (hl : l.length ≤ 9000000000000000000) : Ev (fun k => spec_raProduct.f k l) (prF 1 l) := by
  have hge := allIn_iff.1 h
  have key : ∀ suf pre, l = pre ++ suf → ∀ acc : Int, 1 ≤ acc → acc ≤ 1000000 → Ev (fun k => spec_raProduct.l0 k acc l (l.length : Int) (pre.length : Int)) (prF acc suf) := by
    refine range_ind hl (fun pre suf => ∀ acc : Int, 1 ≤ acc → acc ≤ 1000000 → Ev (fun k => spec_raProduct.l0 k acc l (l.length : Int) (pre.length : Int)) (prF acc suf)) ?_ ?_
    · intro acc _ _
      refine ev_shift ?_
      simp only [spec_raProduct.l0]
      exact ev_neg (by omega) (ev_some rfl)
    · intro pre x suf hh hx h1 h2 h3 ih acc a0 a1
      have hx0 := hge x (by rw [hh]; simp)
      have hm := acc_mul a0 (by omega) hx0.1 hx0.2
      refine ev_shift ?_
      simp only [spec_raProduct.l0, hx, h3]
      rw [w64 (by omega) (by omega)]
      refine ev_pos h1 (ev_pos h2 (ev_pos h1 ?_))
      simp only [prF]
      by_cases hc : acc * x > 1000000
      · rw [if_pos hc]; exact ev_pos hc (ev_some rfl)
      · rw [if_neg hc]; exact ev_neg hc (ih _ (by omega) (by omega))
  exact key l [] rfl 1 (by omega) (by omega)
theorem spec_raProduct_ev (l : List Int) (h : areB l = true) : Ev (fun k => spec_raProduct.f k l) (prod l) := by
  have h' := areB_iff.1 h
  have := spec_raProduct_F l h'.2.1 (by omega)
  rw [(prF_eq h'.2.1 1 (by omega) (by omega)).1 (by rw [Int.one_mul]; exact h'.2.2), Int.one_mul] at this
  exact this
theorem spec_raBases_ev (l : List Int) (hl : l.length ≤ 9000000000000000000) : Ev (fun k => spec_raBases.f k l) (areB l) := by
  unfold spec_raBases.f areB
  by_cases hlen : (l.length : Int) ≤ 12
  · refine ev_pos hlen (ev_bind (spec_l1All_ev l 2 12 hl) ?_)
    cases ha : allIn l 2 12 with
    | false => exact ev_neg (by simp) (ev_some (by simp))
    | true =>
      refine ev_pos rfl (ev_bind (spec_raProduct_F l ha hl) (ev_some ?_))
      obtain ⟨g1, g2⟩ := prF_eq ha 1 (by omega) (by omega)
      rw [Int.one_mul] at g1 g2
      rw [decide_eq_true hlen, Bool.true_and, Bool.true_and]
      by_cases hp : prod l ≤ 1000000
      · rw [g1 hp]
      · have := g2 hp
        rw [decide_eq_false hp, decide_eq_false (by omega)]
  · exact ev_neg hlen (ev_some (by rw [decide_eq_false hlen]; rfl))
theorem spec_gcMixed_ev (bs : List Int) : ∀ r : Int, areB bs = true → 0 ≤ r → r < prod bs → Ev (fun k => spec_gcMixed.f k bs r) (mixL bs r) := by
  induction bs with
  | nil =>
    intro r _ _ _
    refine ev_shift ?_
    simp only [spec_gcMixed.f]
    exact ev_pos rfl (ev_some rfl)
  | cons b bs ih =>
    intro r hb h0 h1
    obtain ⟨hb1, hp1, hp2, hp3, hb2⟩ := areB_head hb
    have hlen := (areB_iff.1 hb).1
    simp only [List.length_cons] at hlen
    have hm := mod_range (r := r) hp1
    have hd := div_range hp1 h0 (show r < b * prod bs from h1)
    refine ev_shift ?_
    simp only [spec_gcMixed.f, List.drop_succ_cons, List.drop_zero, List.length_cons]
    refine ev_neg (by omega) (ev_pos (by omega) (ev_bind (spec_raProduct_ev bs hb2) (ev_neg (by omega) ?_)))
    rw [Int.tdiv_eq_ediv_of_nonneg h0, Int.tmod_eq_emod_of_nonneg h0]
    rw [w64 (x := r / prod bs) (by omega) (by omega), Int.tmod_eq_emod_of_nonneg hd.1]
    have hml : ∀ q : Int, (mixL bs q).length = bs.length := mixL_length bs
    by_cases hodd : r / prod bs % 2 = 1
    · refine ev_pos hodd ?_
      simp only [Option.bind_some]
      rw [w64 (x := prod bs - 1) (by omega) (by omega), w64 (by omega) (by omega)]
      refine ev_bind (ih _ hb2 (by omega) (by omega)) (ev_pos (by simp [hml]; omega) (ev_some ?_))
      simp only [mixL, if_pos hodd]; rfl
    · refine ev_neg hodd ?_
      simp only [Option.bind_some]
      refine ev_bind (ih _ hb2 (by omega) (by omega)) (ev_pos (by simp [hml]; omega) (ev_some ?_))
      simp only [mixL, if_neg hodd]; rfl
theorem impl_mixedAt_ev (bs : List Int) (r : Int) (hb : areB bs = true) (h0 : 0 ≤ r) (h1 : r < prod bs) : Ev (fun k => impl_mixedAt.f k bs r) (mixL bs r) := by
  have hlen := (areB_iff.1 hb).1
  have key : ∀ suf pre, bs = pre ++ suf → ∀ (r : Int) (out : List Int), 0 ≤ r → r < prod suf → out.length = pre.length → Ev (fun k => impl_mixedAt.l0 k bs r out bs (bs.length : Int) (pre.length : Int)) (out ++ mixL suf r) := by
    refine range_ind (by omega) (fun pre suf => ∀ (r : Int) (out : List Int), 0 ≤ r → r < prod suf → out.length = pre.length → Ev (fun k => impl_mixedAt.l0 k bs r out bs (bs.length : Int) (pre.length : Int)) (out ++ mixL suf r)) ?_ ?_
    · intro r out _ _ _
      refine ev_shift ?_
      simp only [impl_mixedAt.l0]
      exact ev_neg (by omega) (ev_some (by simp [mixL]))
    · intro pre b suf hh hx a1 a2 a3 ih r out h0 h1 ho
      have hd0 := areB_drop hb pre.length
      rw [hh, List.drop_left' rfl] at hd0
      obtain ⟨hb1, hp1, hp2, hp3, hb2⟩ := areB_head hd0
      have hm := mod_range (r := r) hp1
      have hd := div_range hp1 h0 (show r < b * prod suf from h1)
      have hdrop : bs.drop ((pre ++ [b]).length : Int).toNat = suf := by
        rw [hh, show pre ++ b :: suf = (pre ++ [b]) ++ suf by simp, Int.toNat_natCast, List.drop_left' rfl]
      have hbl : bs.length = pre.length + suf.length + 1 := by rw [hh]; simp; omega
      refine ev_shift ?_
      simp only [impl_mixedAt.l0, hx, a3, hdrop]
      refine ev_pos a1 (ev_pos a2 (ev_pos a1 (ev_pos (by omega) (ev_pos (by simp; omega) (ev_bind (impl_size_ev suf hb2) (ev_neg (by omega) ?_))))))
      rw [Int.tdiv_eq_ediv_of_nonneg h0, Int.tmod_eq_emod_of_nonneg h0]
      rw [w64 (x := r / prod suf) (by omega) (by omega), Int.tmod_eq_emod_of_nonneg hd.1, w64 (x := b - 1) (by omega) (by omega)]
      have emn : mn (r / prod suf) (b - 1) = r / prod suf := by unfold mn; rw [if_neg (by omega)]
      rw [emn]
      by_cases hodd : r / prod suf % 2 = 1
      · refine ev_pos hodd (ev_pos (by omega) ?_)
        rw [w64 (x := prod suf - 1) (by omega) (by omega), w64 (by omega) (by omega)]
        have := ih (prod suf - 1 - r % prod suf) (out ++ [r / prod suf]) (by omega) (by omega) (by simp [ho])
        simp only [mixL, if_pos hodd]
        simpa using this
      · refine ev_neg hodd (ev_pos (by omega) ?_)
        have := ih (r % prod suf) (out ++ [r / prod suf]) (by omega) (by omega) (by simp [ho])
        simp only [mixL, if_neg hodd]
        simpa using this
  exact key bs [] rfl r [] h0 h1 rfl
theorem spec_MixedAt_ev (bs : List Int) (r : Int) (hl : bs.length ≤ 9000000000000000000) : Ev (fun k => spec_MixedAt.f k bs r) (mixAt bs r) := by
  unfold spec_MixedAt.f mixAt
  refine ev_bind (spec_raBases_ev bs hl) ?_
  by_cases hb : areB bs = true
  · have hb' := areB_iff.1 hb
    have hp := prod_pos hb'.2.1
    refine ev_pos hb (ev_bind (spec_raProduct_ev bs hb) ?_)
    rw [w64 (by omega) (by omega)]
    refine ev_bind0 (spec_l1In_eq _ _ _) ?_
    by_cases h : inR r 0 (prod bs - 1) = true
    · rw [if_pos ⟨hb, h⟩]
      have h' := inR_iff.1 h
      exact ev_pos h (ev_bind (spec_gcMixed_ev bs r hb h'.1 (by omega)) (ev_some rfl))
    · rw [if_neg (fun c => h c.2)]
      exact ev_neg h (ev_some rfl)
  · rw [if_neg (fun c => hb c.1)]
    exact ev_neg hb (ev_some rfl)
theorem impl_MixedAt_ev (bs : List Int) (r : Int) (hl : bs.length ≤ 9000000000000000000) : Ev (fun k => impl_MixedAt.f k bs r) (mixAt bs r) := by
  unfold impl_MixedAt.f mixAt
  refine ev_bind (impl_areBases_ev bs hl) ?_
  by_cases hb : areB bs = true
  · have hb' := areB_iff.1 hb
    have hp := prod_pos hb'.2.1
    refine ev_pos hb (ev_bind (impl_size_ev bs hb) ?_)
    rw [w64 (by omega) (by omega)]
    refine ev_bind0 (impl_within_eq _ _ _) ?_
    by_cases h : inR r 0 (prod bs - 1) = true
    · rw [if_pos ⟨hb, h⟩]
      have h' := inR_iff.1 h
      exact ev_pos h (ev_bind (impl_mixedAt_ev bs r hb h'.1 (by omega)) (ev_some rfl))
    · rw [if_neg (fun c => h c.2)]
      exact ev_neg h (ev_some rfl)
  · rw [if_neg (fun c => hb c.1)]
    exact ev_neg hb (ev_some rfl)
theorem FnExactMixedAt : laws_FnExactMixedAt.Pure := by
  intro bs r hl1 hl2 hl hr
  apply ev_le
  unfold laws_FnExactMixedAt.f
  by_cases hb : (bs.length : Int) > 1048576
  · exact ev_pos hb (ev_some rfl)
  have hs := spec_MixedAt_ev bs r (by omega)
  have hi := impl_MixedAt_ev bs r (by omega)
  have hlen := mixAt_len bs r
  generalize mixAt bs r = p at hs hi hlen
  obtain ⟨out, ok⟩ := p
  simp only at hlen
  refine ev_neg hb ?_
  repeat (first
      | exact ev_some rfl
      | refine ev_bind (laws_toIntS_ev _ (by omega)) ?_
      | refine ev_bind (laws_eqIntS_ev _ (by omega)) ?_
      | refine ev_bind (laws_markIntS_ev _ _ (by omega) (by omega) (by omega)) ?_
      | refine ev_bind (laws_heldIntS_ev _ _ (by omega) (by omega) (by omega)) ?_
      | refine ev_bind hs ?_
      | refine ev_bind hi ?_
      | refine ev_pos rfl ?_
      | refine ev_pos trivial ?_
      | refine ev_neg neq_self ?_
      | dsimp only
      | refine ev_neg (by omega) ?_
      | (refine ev_shift ?_; simp only [laws_FnExactMixedAt.j0, laws_FnExactMixedAt.j1, laws_FnExactMixedAt.j2]))

end Go.Proofs.Ytdalaiooakclmaa.Pure
