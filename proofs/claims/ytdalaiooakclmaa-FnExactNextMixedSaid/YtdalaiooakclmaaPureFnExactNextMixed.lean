/- The law FnExactNextMixed returns true for all lists (reach and kinds as the row says); no condition of ours. -/
import Derived.Test.YtdalaiooakclmaaQFnExactNextMixedx6
import Derived.Test.YtdalaiooakclmaaMth
import Derived.Test.YtdalaiooakclmaaMthDigits
set_option linter.unusedVariables false
set_option linter.unusedSimpArgs false
namespace Go.Proofs.Ytdalaiooakclmaa.Pure
open Go.RowKit Go.Proofs.Ytdalaiooakclmaa.Mth Go.Proofs.Ytdalaiooakclmaa.PFnExactNextMixed Go.Proofs.YtdalaiooakclmaaW.PrintWords Go.Proofs.YtdalaiooakclmaaW.PrintLast

theorem laws_toIntS_ev (l : List Int) (hl : l.length ≤ 1048576) : Ev (fun k => laws_toIntS.f k l) l := by
  unfold laws_toIntS.f
  refine ev_pos (by omega) (ev_pos (by omega) ?_)
  refine range_all (l := l) (by omega) (fun pre suf => Ev (fun k => laws_toIntS.l0 k l (pre ++ List.replicate suf.length 0) (pre.length : Int)) l) ?_ ?_
  · refine ev_shift ?_
    simp only [laws_toIntS.l0]
    exact ev_neg (by omega) (ev_some (by simp))
  · intro pre x suf h hx h1 h2 h3 ih
    refine ev_shift ?_
    simp only [laws_toIntS.l0, hx, h3, List.length_cons, List.replicate_succ, set_at]
    refine ev_pos h1 (ev_pos h2 (ev_pos (by simp; omega) ?_))
    simpa using ih
theorem laws_eqIntS_ev (l : List Int) (hl : l.length ≤ 9000000000000000000) : Ev (fun k => laws_eqIntS.f k l l) true := by
  unfold laws_eqIntS.f
  refine ev_pos rfl ?_
  refine range_all hl (fun pre suf => Ev (fun k => laws_eqIntS.l0 k l l (pre.length : Int)) true) ?_ ?_
  · refine ev_shift ?_
    simp only [laws_eqIntS.l0]
    exact ev_neg (by omega) (ev_some rfl)
  · intro pre x suf h hx h1 h2 h3 ih
    refine ev_shift ?_
    simp only [laws_eqIntS.l0, h3]
    exact ev_pos h1 (ev_pos h2 (ev_pos h1 (ev_pos (by trivial) ih)))
theorem laws_markIntS_ev (l : List Int) (m : Int) (h0 : 0 ≤ m) (h1 : m ≤ 1000000000000000000) (hl : l.length ≤ 1000000000000000000) : Ev (fun k => laws_markIntS.f k l m) (m + (l.length : Int), marks l.length m) := by
  have key : (fun (pre suf : List Int) => l.length = pre.length + suf.length → Ev (fun k => laws_markIntS.l0 k (marks pre.length m ++ suf) (m + (pre.length : Int)) (pre.length : Int)) (m + (l.length : Int), marks l.length m)) [] l := by
    refine range_all (l := l) (by omega) (fun pre suf => l.length = pre.length + suf.length → Ev (fun k => laws_markIntS.l0 k (marks pre.length m ++ suf) (m + (pre.length : Int)) (pre.length : Int)) (m + (l.length : Int), marks l.length m)) ?_ ?_
    · intro _
      refine ev_shift ?_
      simp only [laws_markIntS.l0]
      exact ev_neg (by simp [marks_length]) (ev_some (by simp))
    · intro pre x suf h hx h1 h2 h3 ih hlen
      simp only [List.length_cons] at hlen
      refine ev_shift ?_
      have e : (marks pre.length m ++ x :: suf).set (pre.length : Int).toNat (m + (pre.length : Int)) = marks (pre ++ [x]).length m ++ suf := by
        have := set_at (marks pre.length m) x (m + (pre.length : Int)) suf
        rw [marks_length] at this
        rw [this, List.length_append, List.length_singleton, marks_snoc]; simp
      simp only [laws_markIntS.l0, h3, e]
      refine ev_pos (by simp [marks_length]; omega) (ev_pos h2 ?_)
      rw [w64 (by omega) (by omega)]
      have := ih (by simp; omega)
      simp only [List.length_append, List.length_singleton] at this ⊢
      rw [show m + (pre.length : Int) + 1 = m + ((pre.length + 1 : Nat) : Int) by omega]
      exact this
  have := key (by simp)
  unfold laws_markIntS.f
  simpa [marks] using this
theorem laws_heldIntS_ev (n : Nat) (m : Int) (h0 : 0 ≤ m) (h1 : m ≤ 1000000000000000000) (hl : n ≤ 1000000000000000000) : Ev (fun k => laws_heldIntS.f k (marks n m) m) (m + (n : Int)) := by
  have key : (fun (pre suf : List Int) => n = pre.length + suf.length → Ev (fun k => laws_heldIntS.l0 k (marks n m) (m + (pre.length : Int)) (pre.length : Int)) (m + (n : Int))) [] (marks n m) := by
    refine range_all (l := marks n m) (by rw [marks_length]; omega) (fun pre suf => n = pre.length + suf.length → Ev (fun k => laws_heldIntS.l0 k (marks n m) (m + (pre.length : Int)) (pre.length : Int)) (m + (n : Int))) ?_ ?_
    · intro _
      refine ev_shift ?_
      simp only [laws_heldIntS.l0, marks_length]
      exact ev_neg (by omega) (ev_some (by simp))
    · intro pre x suf h hx h1 h2 h3 ih hlen
      simp only [List.length_cons] at hlen
      refine ev_shift ?_
      have e : rd (marks n m) (pre.length : Int) = m + (pre.length : Int) := marks_rd n m pre.length (by omega)
      simp only [laws_heldIntS.l0, h3, e]
      refine ev_pos h1 (ev_pos h2 (ev_pos (by trivial) ?_))
      rw [w64 (by omega) (by omega)]
      have := ih (by simp; omega)
      simp only [List.length_append, List.length_singleton] at this ⊢
      rw [show m + (pre.length : Int) + 1 = m + ((pre.length + 1 : Nat) : Int) by omega]
      exact this
  have := key (by simp [marks_length])
  unfold laws_heldIntS.f
  simpa [marks] using this
theorem impl_within_eq (a b c : Int) : impl_within.f a b c = some (inR a b c) := in_ite a b c
theorem impl_allWithin_ev (l : List Int) (lo hi : Int) (hl : l.length ≤ 9000000000000000000) : Ev (fun k => impl_allWithin.f k l lo hi) (allIn l lo hi) := by
  refine range_all hl (fun pre suf => Ev (fun k => impl_allWithin.l0 k lo hi l (l.length : Int) (pre.length : Int)) (allIn suf lo hi)) ?_ ?_
  · refine ev_shift ?_
    simp only [impl_allWithin.l0]
    exact ev_neg (by omega) (ev_some rfl)
  · intro pre x suf h hx h1 h2 h3 ih
    refine ev_shift ?_
    simp only [impl_allWithin.l0, hx, h3, impl_within_eq, Option.bind_some, allIn_cons]
    refine ev_pos h1 (ev_pos h2 (ev_pos h1 ?_))
    cases inR x lo hi with
    | true => exact ev_pos rfl ih
    | false => exact ev_neg (by simp) (ev_some rfl)
theorem impl_size_F (l : List Int) (h : allIn l 2 12 = true) (hl : l.length ≤ 9000000000000000000) : Ev (fun k => impl_size.f k l) (sizeF 1 l) := by
  have hge := allIn_iff.1 h
  have key : ∀ suf pre, l = pre ++ suf → ∀ acc : Int, 1 ≤ acc → acc ≤ 1000001 → Ev (fun k => impl_size.l0 k acc l (l.length : Int) (pre.length : Int)) (sizeF acc suf) := by
    refine range_ind hl (fun pre suf => ∀ acc : Int, 1 ≤ acc → acc ≤ 1000001 → Ev (fun k => impl_size.l0 k acc l (l.length : Int) (pre.length : Int)) (sizeF acc suf)) ?_ ?_
    · intro acc _ _
      refine ev_shift ?_
      simp only [impl_size.l0]
      exact ev_neg (by omega) (ev_some rfl)
    · intro pre x suf hh hx h1 h2 h3 ih acc a0 a1
      have hx0 := hge x (by rw [hh]; simp)
      have hm := acc_mul a0 a1 hx0.1 hx0.2
      refine ev_shift ?_
      simp only [impl_size.l0, hx, h3]
      rw [w64 (by omega) (by omega)]
      refine ev_pos h1 (ev_pos h2 (ev_pos h1 ?_))
      simp only [sizeF]
      refine ih _ ?_ ?_
      · unfold mn; split <;> omega
      · unfold mn; split <;> omega
  exact key l [] rfl 1 (by omega) (by omega)
theorem impl_size_ev (l : List Int) (h : areB l = true) : Ev (fun k => impl_size.f k l) (prod l) := by
  have h' := areB_iff.1 h
  have := impl_size_F l h'.2.1 (by omega)
  rw [sizeF_eq h'.2.1 1 (by omega) (by omega), Int.one_mul, if_pos h'.2.2] at this
  exact this
theorem impl_areBases_ev (l : List Int) (hl : l.length ≤ 9000000000000000000) : Ev (fun k => impl_areBases.f k l) (areB l) := by
  unfold impl_areBases.f areB
  by_cases hlen : (l.length : Int) ≤ 12
  · refine ev_pos hlen (ev_bind (impl_allWithin_ev l 2 12 hl) ?_)
    cases ha : allIn l 2 12 with
    | false => exact ev_neg (by simp) (ev_some (by simp))
    | true =>
      refine ev_pos rfl (ev_bind (impl_size_F l ha hl) (ev_some ?_))
      rw [sizeF_eq ha 1 (by omega) (by omega), Int.one_mul]
      rw [decide_eq_true hlen, Bool.true_and, Bool.true_and]
      by_cases hp : prod l ≤ 1000000
      · rw [if_pos hp]
      · rw [if_neg hp, decide_eq_false hp]; decide
  · exact ev_neg hlen (ev_some (by rw [decide_eq_false hlen]; rfl))
theorem spec_l1In_eq (a b c : Int) : spec_l1In.f a b c = some (inR a b c) := in_ite a b c
theorem spec_l1All_ev (l : List Int) (lo hi : Int) (hl : l.length ≤ 9000000000000000000) : Ev (fun k => spec_l1All.f k l lo hi) (allIn l lo hi) := by
  refine range_all hl (fun pre suf => Ev (fun k => spec_l1All.l0 k lo hi l (l.length : Int) (pre.length : Int)) (allIn suf lo hi)) ?_ ?_
  · refine ev_shift ?_
    simp only [spec_l1All.l0]
    exact ev_neg (by omega) (ev_some rfl)
  · intro pre x suf h hx h1 h2 h3 ih
    refine ev_shift ?_
    simp only [spec_l1All.l0, hx, h3, spec_l1In_eq, Option.bind_some, allIn_cons]
    refine ev_pos h1 (ev_pos h2 (ev_pos h1 ?_))
    cases inR x lo hi with
    | true => exact ev_pos rfl ih
    | false => exact ev_neg (by simp) (ev_some rfl)
theorem spec_raProduct_F (l : List Int) (h : allIn l 2 12 = true) (hl : l.length ≤ 9000000000000000000) : Ev (fun k => spec_raProduct.f k l) (prF 1 l) := by
  have hge := allIn_iff.1 h
  have key : ∀ suf pre, l = pre ++ suf → ∀ acc : Int, 1 ≤ acc → acc ≤ 1000000 → Ev (fun k => spec_raProduct.l0 k acc l (l.length : Int) (pre.length : Int)) (prF acc suf) := by
    refine range_ind hl (fun pre suf => ∀ acc : Int, 1 ≤ acc → acc ≤ 1000000 → Ev (fun k => spec_raProduct.l0 k acc l (l.length : Int) (pre.length : Int)) (prF acc suf)) ?_ ?_
    · intro acc _ _
      refine ev_shift ?_
      simp only [spec_raProduct.l0]
      exact ev_neg (by omega) (ev_some rfl)
    · intro pre x suf hh hx h1 h2 h3 ih acc a0 a1
      have hx0 := hge x (by rw [hh]; simp)
      have hm := acc_mul a0 (by omega) hx0.1 hx0.2
      refine ev_shift ?_
      simp only [spec_raProduct.l0, hx, h3]
      rw [w64 (by omega) (by omega)]
      refine ev_pos h1 (ev_pos h2 (ev_pos h1 ?_))
      simp only [prF]
      by_cases hc : acc * x > 1000000
      · rw [if_pos hc]; exact ev_pos hc (ev_some rfl)
      · rw [if_neg hc]; exact ev_neg hc (ih _ (by omega) (by omega))
  exact key l [] rfl 1 (by omega) (by omega)
theorem spec_raProduct_ev (l : List Int) (h : areB l = true) : Ev (fun k => spec_raProduct.f k l) (prod l) := by
  have h' := areB_iff.1 h
  have := spec_raProduct_F l h'.2.1 (by omega)
  rw [(prF_eq h'.2.1 1 (by omega) (by omega)).1 (by rw [Int.one_mul]; exact h'.2.2), Int.one_mul] at this
  exact this
theorem spec_raBases_ev (l : List Int) (hl : l.length ≤ 9000000000000000000) : Ev (fun k => spec_raBases.f k l) (areB l) := by
  unfold spec_raBases.f areB
  by_cases hlen : (l.length : Int) ≤ 12
  · refine ev_pos hlen (ev_bind (spec_l1All_ev l 2 12 hl) ?_)
    cases ha : allIn l 2 12 with
    | false => exact ev_neg (by simp) (ev_some (by simp))
    | true =>
      refine ev_pos rfl (ev_bind (spec_raProduct_F l ha hl) (ev_some ?_))
      obtain ⟨g1, g2⟩ := prF_eq ha 1 (by omega) (by omega)
      rw [Int.one_mul] at g1 g2
      rw [decide_eq_true hlen, Bool.true_and, Bool.true_and]
      by_cases hp : prod l ≤ 1000000
      · rw [g1 hp]
      · have := g2 hp
        rw [decide_eq_false hp, decide_eq_false (by omega)]
  · exact ev_neg hlen (ev_some (by rw [decide_eq_false hlen]; rfl))
theorem spec_gcMixed_ev (bs : List Int) : ∀ r : Int, areB bs = true → 0 ≤ r → r < prod bs → Ev (fun k => spec_gcMixed.f k bs r) (mixL bs r) := by
  induction bs with
  | nil =>
    intro r _ _ _
    refine ev_shift ?_
    simp only [spec_gcMixed.f]
    exact ev_pos rfl (ev_some rfl)
  | cons b bs ih =>
    intro r hb h0 h1
    obtain ⟨hb1, hp1, hp2, hp3, hb2⟩ := areB_head hb
    have hlen := (areB_iff.1 hb).1
    simp only [List.length_cons] at hlen
    have hm := mod_range (r := r) hp1
    have hd := div_range hp1 h0 (show r < b * prod bs from h1)
    refine ev_shift ?_
    simp only [spec_gcMixed.f, List.drop_succ_cons, List.drop_zero, List.length_cons]
    refine ev_neg (by omega) (ev_pos (by omega) (ev_bind (spec_raProduct_ev bs hb2) (ev_neg (by omega) ?_)))
    rw [Int.tdiv_eq_ediv_of_nonneg h0, Int.tmod_eq_emod_of_nonneg h0]
    rw [w64 (x := r / prod bs) (by omega) (by omega), Int.tmod_eq_emod_of_nonneg hd.1]
    have hml : ∀ q : Int, (mixL bs q).length = bs.length := mixL_length bs
    by_cases hodd : r / prod bs % 2 = 1
    · refine ev_pos hodd ?_
      simp only [Option.bind_some]
      rw [w64 (x := prod bs - 1) (by omega) (by omega), w64 (by omega) (by omega)]
      refine ev_bind (ih _ hb2 (by omega) (by omega)) (ev_pos (by simp [hml]; omega) (ev_some ?_))
      simp only [mixL, if_pos hodd]; rfl
    · refine ev_neg hodd ?_
      simp only [Option.bind_some]
      refine ev_bind (ih _ hb2 (by omega) (by omega)) (ev_pos (by simp [hml]; omega) (ev_some ?_))
      simp only [mixL, if_neg hodd]; rfl
theorem impl_mixedAt_ev (bs : List Int) (r : Int) (hb : areB bs = true) (h0 : 0 ≤ r) (h1 : r < prod bs) : Ev (fun k => impl_mixedAt.f k bs r) (mixL bs r) := by
  have hlen := (areB_iff.1 hb).1
  have key : ∀ suf pre, bs = pre ++ suf → ∀ (r : Int) (out : List Int), 0 ≤ r → r < prod suf → out.length = pre.length → Ev (fun k => impl_mixedAt.l0 k bs r out bs (bs.length : Int) (pre.length : Int)) (out ++ mixL suf r) := by
    refine range_ind (by omega) (fun pre suf => ∀ (r : Int) (out : List Int), 0 ≤ r → r < prod suf → out.length = pre.length → Ev (fun k => impl_mixedAt.l0 k bs r out bs (bs.length : Int) (pre.length : Int)) (out ++ mixL suf r)) ?_ ?_
    · intro r out _ _ _
      refine ev_shift ?_
      simp only [impl_mixedAt.l0]
      exact ev_neg (by omega) (ev_some (by simp [mixL]))
    · intro pre b suf hh hx a1 a2 a3 ih r out h0 h1 ho
      have hd0 := areB_drop hb pre.length
      rw [hh, List.drop_left' rfl] at hd0
      obtain ⟨hb1, hp1, hp2, hp3, hb2⟩ := areB_head hd0
      have hm := mod_range (r := r) hp1
      have hd := div_range hp1 h0 (show r < b * prod suf from h1)
      have hdrop : bs.drop ((pre ++ [b]).length : Int).toNat = suf := by
        rw [hh, show pre ++ b :: suf = (pre ++ [b]) ++ suf by simp, Int.toNat_natCast, List.drop_left' rfl]
      have hbl : bs.length = pre.length + suf.length + 1 := by rw [hh]; simp; omega
      refine ev_shift ?_
      simp only [impl_mixedAt.l0, hx, a3, hdrop]
      refine ev_pos a1 (ev_pos a2 (ev_pos a1 (ev_pos (by omega) (ev_pos (by simp; omega) (ev_bind (impl_size_ev suf hb2) (ev_neg (by omega) ?_))))))
      rw [Int.tdiv_eq_ediv_of_nonneg h0, Int.tmod_eq_emod_of_nonneg h0]
      rw [w64 (x := r / prod suf) (by omega) (by omega), Int.tmod_eq_emod_of_nonneg hd.1, w64 (x := b - 1) (by omega) (by omega)]
      have emn : mn (r / prod suf) (b - 1) = r / prod suf := by unfold mn; rw [if_neg (by omega)]
      rw [emn]
      by_cases hodd : r / prod suf % 2 = 1
      · refine ev_pos hodd (ev_pos (by omega) ?_)
        rw [w64 (x := prod suf - 1) (by omega) (by omega), w64 (by omega) (by omega)]
        have := ih (prod suf - 1 - r % prod suf) (out ++ [r / prod suf]) (by omega) (by omega) (by simp [ho])
        simp only [mixL, if_pos hodd]
        simpa using this
      · refine ev_neg hodd (ev_pos (by omega) ?_)
        have := ih (r % prod suf) (out ++ [r / prod suf]) (by omega) (by omega) (by simp [ho])
        simp only [mixL, if_neg hodd]
        simpa using this
  exact key bs [] rfl r [] h0 h1 rfl
theorem impl_areDigits_ev (bs ds : List Int) (hb : ∀ b ∈ bs, (Lit.int .i64 (b - 1)).wf = true) (hl : ds.length ≤ 9000000000000000000) : Ev (fun k => impl_areDigits.f k bs ds) (digs bs ds) := by
  have key : ∀ suf pre, ds = pre ++ suf → ∀ p s : List Int, bs = p ++ s → p.length = pre.length → Ev (fun k => impl_areDigits.l0 k bs ds ds (ds.length : Int) (pre.length : Int)) (digs s suf) := by
    refine range_ind hl (fun pre suf => ∀ p s : List Int, bs = p ++ s → p.length = pre.length → Ev (fun k => impl_areDigits.l0 k bs ds ds (ds.length : Int) (pre.length : Int)) (digs s suf)) ?_ ?_
    · intro p s hps hpl
      refine ev_shift ?_
      simp only [impl_areDigits.l0]
      refine ev_neg (by omega) (ev_some ?_)
      cases s with
      | nil => simp at hps; subst hps; simp [digs, hpl]
      | cons b s => simp [digs, hps]; omega
    · intro pre x suf hh hx h1 h2 h3 ih p s hps hpl
      refine ev_shift ?_
      simp only [impl_areDigits.l0, hx, h3]
      refine ev_pos h1 (ev_pos h2 (ev_pos h1 ?_))
      cases s with
      | nil =>
        simp at hps; subst hps
        exact ev_pos (by omega) (ev_some rfl)
      | cons b s =>
        have hbl : bs.length = p.length + s.length + 1 := by rw [hps]; simp; omega
        have hrb : rd bs (pre.length : Int) = b := by rw [hps, ← hpl]; exact rd_at _ _ _
        have hbw := wf_range (hb b (by rw [hps]; simp))
        refine ev_neg (by omega) (ev_pos (by omega) ?_)
        rw [hrb, w64 (by omega) (by omega)]
        refine ev_bind0 (impl_within_eq _ _ _) ?_
        simp only [digs]
        cases inR x 0 (b - 1) with
        | false => exact ev_neg (by simp) (ev_some rfl)
        | true => exact ev_pos rfl (ih (p ++ [b]) s (by simp [hps]) (by simp [hpl]))
  exact key ds [] rfl [] bs rfl rfl
theorem spec_raAreDigits_ev (bs ds : List Int) (hb : ∀ b ∈ bs, (Lit.int .i64 (b - 1)).wf = true) (hl : ds.length ≤ 9000000000000000000) : Ev (fun k => spec_raAreDigits.f k bs ds) (digs bs ds) := by
  unfold spec_raAreDigits.f
  by_cases hlen : (ds.length : Int) = (bs.length : Int)
  · refine ev_pos hlen ?_
    have key : ∀ suf pre, ds = pre ++ suf → ∀ p s : List Int, bs = p ++ s → p.length = pre.length → s.length = suf.length → Ev (fun k => spec_raAreDigits.l0 k bs ds (ds.length : Int) (pre.length : Int)) (digs s suf) := by
      refine range_ind hl (fun pre suf => ∀ p s : List Int, bs = p ++ s → p.length = pre.length → s.length = suf.length → Ev (fun k => spec_raAreDigits.l0 k bs ds (ds.length : Int) (pre.length : Int)) (digs s suf)) ?_ ?_
      · intro p s hps hpl hsl
        refine ev_shift ?_
        simp only [spec_raAreDigits.l0]
        refine ev_neg (by omega) (ev_some ?_)
        cases s with
        | nil => rfl
        | cons b s => simp at hsl
      · intro pre x suf hh hx h1 h2 h3 ih p s hps hpl hsl
        cases s with
        | nil => simp at hsl
        | cons b s =>
          have hbl : bs.length = p.length + s.length + 1 := by rw [hps]; simp; omega
          have hrb : rd bs (pre.length : Int) = b := by rw [hps, ← hpl]; exact rd_at _ _ _
          have hbw := wf_range (hb b (by rw [hps]; simp))
          refine ev_shift ?_
          simp only [spec_raAreDigits.l0, hx, h3, hrb]
          rw [w64 (by omega) (by omega)]
          refine ev_pos h1 (ev_pos h2 (ev_pos h1 (ev_pos (by omega) (ev_bind0 (spec_l1In_eq _ _ _) ?_))))
          simp only [digs]
          cases inR x 0 (b - 1) with
          | false => exact ev_neg (by simp) (ev_some rfl)
          | true => exact ev_pos rfl (ih (p ++ [b]) s (by simp [hps]) (by simp [hpl]) (by simpa using hsl))
    exact key ds [] rfl [] bs rfl rfl (by omega)
  · refine ev_neg hlen (ev_some ?_)
    cases e : digs bs ds with
    | false => rfl
    | true => exact absurd (congrArg Int.ofNat (digs_length e)) hlen
theorem bases_wf {bs : List Int} (h : areB bs = true) : ∀ b ∈ bs, (Lit.int .i64 (b - 1)).wf = true := by
  intro b hb
  have := allIn_iff.1 (areB_iff.1 h).2.1 b hb
  simp only [Lit.wf, Bool.and_eq_true, decide_eq_true_eq]
  have e0 : IntKind.min .i64 = -9223372036854775808 := by decide
  have e1 : IntKind.max .i64 = 9223372036854775807 := by decide
  omega
theorem spec_gcMixedRank_ev (bs : List Int) : ∀ ds : List Int, areB bs = true → digs bs ds = true → Ev (fun k => spec_gcMixedRank.f k bs ds) (mixR bs ds) := by
  induction bs with
  | nil =>
    intro ds _ hd
    cases ds with
    | cons d ds => simp [digs] at hd
    | nil =>
      refine ev_shift ?_
      simp only [spec_gcMixedRank.f]
      exact ev_pos rfl (ev_some rfl)
  | cons b bs ih =>
    intro ds hb hd
    cases ds with
    | nil => simp [digs] at hd
    | cons d ds =>
      obtain ⟨hb1, hp1, hp2, hp3, hb2⟩ := areB_head hb
      have hr := mixR_range hb hd
      simp only [digs, Bool.and_eq_true, inR_iff] at hd
      have hr2 := mixR_range hb2 hd.2
      have h0 : 0 ≤ d * prod bs := Int.mul_nonneg (by omega) (by omega)
      have h1 : (d + 1) * prod bs ≤ b * prod bs := Int.mul_le_mul_of_nonneg_right (by omega) (by omega)
      rw [Int.add_mul, Int.one_mul] at h1
      have hrd : rd (d :: ds) 0 = d := rfl
      refine ev_shift ?_
      simp only [spec_gcMixedRank.f, List.drop_succ_cons, List.drop_zero, List.length_cons, hrd]
      rw [Int.tmod_eq_emod_of_nonneg hd.1.1]
      refine ev_neg (by omega) (ev_pos (by omega) (ev_bind (spec_raProduct_ev bs hb2) (ev_pos (by omega) (ev_bind (ih ds hb2 hd.2) (ev_pos (by omega) ?_)))))
      rw [w64 (x := d * prod bs) (by omega) (by omega), w64 (x := prod bs - 1) (by omega) (by omega), w64 (x := prod bs - 1 - mixR bs ds) (by omega) (by omega), w64 (x := d * prod bs + (prod bs - 1 - mixR bs ds)) (by omega) (by omega), w64 (x := d * prod bs + mixR bs ds) (by omega) (by omega)]
      by_cases hodd : d % 2 = 1
      · exact ev_pos hodd (ev_some (by simp only [mixR, if_pos hodd]))
      · exact ev_neg hodd (ev_some (by simp only [mixR, if_neg hodd]))
theorem impl_mixedRank_ev (bs : List Int) : ∀ ds : List Int, areB bs = true → digs bs ds = true → Ev (fun k => impl_mixedRank.f k bs ds) (mixR bs ds) := by
  induction bs with
  | nil =>
    intro ds _ hd
    cases ds with
    | cons d ds => simp [digs] at hd
    | nil =>
      refine ev_shift ?_
      simp only [impl_mixedRank.f]
      exact ev_pos rfl (ev_some rfl)
  | cons b bs ih =>
    intro ds hb hd
    cases ds with
    | nil => simp [digs] at hd
    | cons d ds =>
      obtain ⟨hb1, hp1, hp2, hp3, hb2⟩ := areB_head hb
      have hr := mixR_range hb hd
      simp only [digs, Bool.and_eq_true, inR_iff] at hd
      have hr2 := mixR_range hb2 hd.2
      have h0 : 0 ≤ d * prod bs := Int.mul_nonneg (by omega) (by omega)
      have h1 : (d + 1) * prod bs ≤ b * prod bs := Int.mul_le_mul_of_nonneg_right (by omega) (by omega)
      rw [Int.add_mul, Int.one_mul] at h1
      have hrd : rd (d :: ds) 0 = d := rfl
      refine ev_shift ?_
      simp only [impl_mixedRank.f, List.drop_succ_cons, List.drop_zero, List.length_cons, hrd]
      rw [Int.tmod_eq_emod_of_nonneg hd.1.1]
      refine ev_neg (by omega) (ev_pos (by omega) (ev_bind (impl_size_ev bs hb2) (ev_pos (by omega) (ev_bind (ih ds hb2 hd.2) (ev_pos (by omega) ?_)))))
      rw [w64 (x := d * prod bs) (by omega) (by omega), w64 (x := prod bs - 1) (by omega) (by omega), w64 (x := prod bs - 1 - mixR bs ds) (by omega) (by omega), w64 (x := d * prod bs + (prod bs - 1 - mixR bs ds)) (by omega) (by omega), w64 (x := d * prod bs + mixR bs ds) (by omega) (by omega)]
      by_cases hodd : d % 2 = 1
      · exact ev_pos hodd (ev_some (by simp only [mixR, if_pos hodd]))
      · exact ev_neg hodd (ev_some (by simp only [mixR, if_neg hodd]))
theorem spec_MixedRank_ev (bs ds : List Int) (hl1 : bs.length ≤ 9000000000000000000) (hl2 : ds.length ≤ 9000000000000000000) : Ev (fun k => spec_MixedRank.f k bs ds) (mixRk bs ds) := by
  unfold spec_MixedRank.f mixRk
  refine ev_bind (spec_raBases_ev bs hl1) ?_
  by_cases hb : areB bs = true
  · refine ev_pos hb (ev_bind (spec_raAreDigits_ev bs ds (bases_wf hb) hl2) ?_)
    by_cases hd : digs bs ds = true
    · rw [if_pos ⟨hb, hd⟩]
      exact ev_pos hd (ev_bind (spec_gcMixedRank_ev bs ds hb hd) (ev_some rfl))
    · rw [if_neg (fun c => hd c.2)]
      exact ev_neg hd (ev_some rfl)
  · rw [if_neg (fun c => hb c.1)]
    exact ev_neg hb (ev_some rfl)
theorem impl_MixedRank_ev (bs ds : List Int) (hl1 : bs.length ≤ 9000000000000000000) (hl2 : ds.length ≤ 9000000000000000000) : Ev (fun k => impl_MixedRank.f k bs ds) (mixRk bs ds) := by
  unfold impl_MixedRank.f mixRk
  refine ev_bind (impl_areBases_ev bs hl1) ?_
  by_cases hb : areB bs = true
  · refine ev_pos hb (ev_bind (impl_areDigits_ev bs ds (bases_wf hb) hl2) ?_)
    by_cases hd : digs bs ds = true
    · rw [if_pos ⟨hb, hd⟩]
      exact ev_pos hd (ev_bind (impl_mixedRank_ev bs ds hb hd) (ev_some rfl))
    · rw [if_neg (fun c => hd c.2)]
      exact ev_neg hd (ev_some rfl)
  · rw [if_neg (fun c => hb c.1)]
    exact ev_neg hb (ev_some rfl)
theorem spec_l1Abs_one (a : Int) (h : a = 1 ∨ a = -1) : spec_l1Abs.f a = some 1 := by
  rcases h with rfl | rfl <;> decide +kernel
theorem spec_gcStep_same (a b : List Int) (hl : a.length ≤ 9000000000000000000) : ∀ suf pre, a = pre ++ suf → ∀ q s : List Int, b = q ++ s → q.length = pre.length → suf = s → ∀ at_ : Int, Ev (fun k => spec_gcStep.l0 k b at_ a (a.length : Int) (pre.length : Int)) at_ := by
  refine range_ind hl (fun pre suf => ∀ q s : List Int, b = q ++ s → q.length = pre.length → suf = s → ∀ at_ : Int, Ev (fun k => spec_gcStep.l0 k b at_ a (a.length : Int) (pre.length : Int)) at_) ?_ ?_
  · intro q s hq hql hs at_
    refine ev_shift ?_
    simp only [spec_gcStep.l0]
    exact ev_neg (by omega) (ev_some rfl)
  · intro pre x suf hh hx h1 h2 h3 ih q s hq hql hs at_
    subst hs
    have hrb : rd b (pre.length : Int) = x := by rw [hq, ← hql]; exact rd_at _ _ _
    have hbl : b.length = q.length + suf.length + 1 := by rw [hq]; simp; omega
    refine ev_shift ?_
    simp only [spec_gcStep.l0, hx, h3, hrb]
    exact ev_pos h1 (ev_pos h2 (ev_pos h1 (ev_pos (by omega) (ev_pos (by trivial) (ih (q ++ [x]) suf (by simp [hq]) (by simp [hql]) rfl at_)))))
theorem spec_gcStep_ev (a b : List Int) (j : Nat) (h : stepAt a b j) (hl : a.length ≤ 9000000000000000000) : Ev (fun k => spec_gcStep.f k a b) (j : Int) := by
  have key : ∀ suf pre, a = pre ++ suf → ∀ (q s : List Int) (j : Nat), b = q ++ s → q.length = pre.length → stepAt suf s j → Ev (fun k => spec_gcStep.l0 k b (-1) a (a.length : Int) (pre.length : Int)) ((pre.length : Int) + (j : Int)) := by
    refine range_ind hl (fun pre suf => ∀ (q s : List Int) (j : Nat), b = q ++ s → q.length = pre.length → stepAt suf s j → Ev (fun k => spec_gcStep.l0 k b (-1) a (a.length : Int) (pre.length : Int)) ((pre.length : Int) + (j : Int))) ?_ ?_
    · intro q s j _ _ hs
      simp [stepAt] at hs
    · intro pre x suf hh hx h1 h2 h3 ih q s j hq hql hs
      cases s with
      | nil => cases j <;> simp [stepAt] at hs
      | cons y s =>
        have hrb : rd b (pre.length : Int) = y := by rw [hq, ← hql]; exact rd_at _ _ _
        have hbl : b.length = q.length + s.length + 1 := by rw [hq]; simp; omega
        refine ev_shift ?_
        simp only [spec_gcStep.l0, hx, h3, hrb]
        refine ev_pos h1 (ev_pos h2 (ev_pos h1 (ev_pos (by omega) ?_)))
        cases j with
        | zero =>
          simp only [stepAt] at hs
          refine ev_neg (by omega) (ev_neg (by omega) ?_)
          rw [w64 (x := x - y) (by omega) (by omega)]
          refine ev_bind0 (spec_l1Abs_one (x - y) (by omega)) (ev_pos (by trivial) ?_)
          have := spec_gcStep_same a b hl suf (pre ++ [x]) (by simp [hh]) (q ++ [y]) s (by simp [hq]) (by simp [hql]) hs.2 (pre.length : Int)
          simpa using this
        | succ j =>
          simp only [stepAt] at hs
          refine ev_pos hs.1 ?_
          have := ih (q ++ [y]) s j (by simp [hq]) (by simp [hql]) hs.2
          have e : ((pre ++ [x]).length : Int) + (j : Int) = (pre.length : Int) + ((j + 1 : Nat) : Int) := by simp; omega
          rw [e] at this
          exact this
  have := key a [] rfl [] b j rfl rfl h
  simpa [spec_gcStep.f] using this
theorem impl_NextMixed_l0 (ds out : List Int) (j : Nat) (h : stepAt out ds j) (hl : out.length ≤ 9000000000000000000) : Ev (fun k => impl_NextMixed.l0 k ds out out (out.length : Int) 0) (out, (j : Int), true) := by
  have key : ∀ suf pre, out = pre ++ suf → ∀ (q s : List Int) (j : Nat), ds = q ++ s → q.length = pre.length → stepAt suf s j → Ev (fun k => impl_NextMixed.l0 k ds out out (out.length : Int) (pre.length : Int)) (out, (pre.length : Int) + (j : Int), true) := by
    refine range_ind hl (fun pre suf => ∀ (q s : List Int) (j : Nat), ds = q ++ s → q.length = pre.length → stepAt suf s j → Ev (fun k => impl_NextMixed.l0 k ds out out (out.length : Int) (pre.length : Int)) (out, (pre.length : Int) + (j : Int), true)) ?_ ?_
    · intro q s j _ _ hs
      simp [stepAt] at hs
    · intro pre x suf hh hx h1 h2 h3 ih q s j hq hql hs
      cases s with
      | nil => cases j <;> simp [stepAt] at hs
      | cons y s =>
        have hrb : rd ds (pre.length : Int) = y := by rw [hq, ← hql]; exact rd_at _ _ _
        have hbl : ds.length = q.length + s.length + 1 := by rw [hq]; simp; omega
        refine ev_shift ?_
        simp only [impl_NextMixed.l0, hx, h3, hrb]
        refine ev_pos h1 (ev_pos h2 (ev_pos h1 (ev_pos (by omega) ?_)))
        cases j with
        | zero =>
          simp only [stepAt] at hs
          exact ev_neg (by omega) (ev_some (by simp))
        | succ j =>
          simp only [stepAt] at hs
          refine ev_pos hs.1 ?_
          have := ih (q ++ [y]) s j (by simp [hq]) (by simp [hql]) hs.2
          have e : ((pre ++ [x]).length : Int) + (j : Int) = (pre.length : Int) + ((j + 1 : Nat) : Int) := by simp; omega
          rw [e] at this
          exact this
  have := key out [] rfl [] ds j rfl rfl h
  simpa using this
theorem NextMixed_both (bs ds : List Int) (hl1 : bs.length ≤ 9000000000000000000) (hl2 : ds.length ≤ 9000000000000000000) : ∃ p : List Int × Int × Bool, p.1.length ≤ 12 ∧ Ev (fun k => spec_NextMixed.f k bs ds) p ∧ Ev (fun k => impl_NextMixed.f k bs ds) p := by
  have s_bad : ∀ r : Int, Ev (fun k => spec_NextMixed.j0 k bs ds r true) ([], 0, false) := by
    intro r
    refine ev_shift ?_
    simp only [spec_NextMixed.j0]
    exact ev_pos (by trivial) (ev_some rfl)
  have i_bad : ∀ r : Int, Ev (fun k => impl_NextMixed.j0 k bs ds r true) ([], 0, false) := by
    intro r
    refine ev_shift ?_
    simp only [impl_NextMixed.j0]
    exact ev_pos (by trivial) (ev_some rfl)
  have hs := spec_MixedRank_ev bs ds hl1 hl2
  have hi := impl_MixedRank_ev bs ds hl1 hl2
  by_cases h : areB bs = true ∧ digs bs ds = true
  · obtain ⟨hb, hd⟩ := h
    have hb' := areB_iff.1 hb
    have hr := mixR_range hb hd
    have e : mixRk bs ds = (mixR bs ds, true) := by unfold mixRk; rw [if_pos ⟨hb, hd⟩]
    rw [e] at hs hi
    have hw : wrap64 (mixR bs ds + 1) = mixR bs ds + 1 := w64 (by omega) (by omega)
    by_cases hlast : mixR bs ds + 1 = prod bs
    · have hlw : (wrap64 (mixR bs ds + 1) == prod bs) = true := by rw [hw, hlast]; exact beq_self_eq_true _
      refine ⟨([], 0, false), Nat.zero_le _, ?_, ?_⟩
      · unfold spec_NextMixed.f
        refine ev_bind hs (ev_pos (by trivial) (ev_bind (spec_raProduct_ev bs hb) ?_))
        simp only [hlw]
        exact s_bad _
      · unfold impl_NextMixed.f
        refine ev_bind hi (ev_pos (by trivial) (ev_bind (impl_size_ev bs hb) ?_))
        simp only [hlw]
        exact i_bad _
    · obtain ⟨j, hj⟩ := mixL_step hb (mixR bs ds) hr.1 (by omega)
      rw [mixL_mixR hb hd] at hj
      have hne : ((mixR bs ds + 1) == prod bs) = false := by simpa using hlast
      have hml := mixL_length bs (mixR bs ds + 1)
      refine ⟨(mixL bs (mixR bs ds + 1), (j : Int), true), by rw [hml]; omega, ?_, ?_⟩
      · unfold spec_NextMixed.f
        refine ev_bind hs (ev_pos (by trivial) (ev_bind (spec_raProduct_ev bs hb) ?_))
        simp only [hw, hne]
        refine ev_shift ?_
        simp only [spec_NextMixed.j0, hw]
        exact ev_neg (by simp) (ev_bind (spec_gcMixed_ev bs _ hb (by omega) (by omega)) (ev_bind (spec_gcStep_ev ds _ j hj hl2) (ev_some rfl)))
      · unfold impl_NextMixed.f
        refine ev_bind hi (ev_pos (by trivial) (ev_bind (impl_size_ev bs hb) ?_))
        simp only [hw, hne]
        refine ev_shift ?_
        simp only [impl_NextMixed.j0, hw]
        exact ev_neg (by simp) (ev_bind (impl_mixedAt_ev bs _ hb (by omega) (by omega)) (impl_NextMixed_l0 ds _ j (stepAt_symm hj) (by omega)))
  · have e : mixRk bs ds = (0, false) := by unfold mixRk; rw [if_neg h]
    rw [e] at hs hi
    refine ⟨([], 0, false), Nat.zero_le _, ?_, ?_⟩
    · unfold spec_NextMixed.f
      exact ev_bind hs (ev_neg (by simp) (s_bad _))
    · unfold impl_NextMixed.f
      exact ev_bind hi (ev_neg (by simp) (i_bad _))
theorem FnExactNextMixed : laws_FnExactNextMixed.Pure := by
  intro bs ds hl1 hl2 hl hd1 hd2 hd
  apply ev_le
  unfold laws_FnExactNextMixed.f
  by_cases hb : (bs.length : Int) > 1048576
  · exact ev_pos hb (ev_some rfl)
  refine ev_neg hb ?_
  by_cases hb2 : (ds.length : Int) > 1048576
  · exact ev_pos hb2 (ev_some rfl)
  refine ev_neg hb2 ?_
  obtain ⟨⟨out, at_, ok⟩, hlen, hs, hi⟩ := NextMixed_both bs ds (by omega) (by omega)
  simp only at hlen
  repeat (first
      | exact ev_some rfl
      | refine ev_bind (laws_toIntS_ev _ (by omega)) ?_
      | refine ev_bind (laws_eqIntS_ev _ (by omega)) ?_
      | refine ev_bind (laws_markIntS_ev _ _ (by omega) (by omega) (by omega)) ?_
      | refine ev_bind (laws_heldIntS_ev _ _ (by omega) (by omega) (by omega)) ?_
      | refine ev_bind hs ?_
      | refine ev_bind hi ?_
      | refine ev_pos rfl ?_
      | refine ev_pos trivial ?_
      | refine ev_neg neq_self ?_
      | dsimp only
      | refine ev_neg (by omega) ?_
      | (refine ev_shift ?_; simp only [laws_FnExactNextMixed.j0, laws_FnExactNextMixed.j1, laws_FnExactNextMixed.j2]))

end Go.Proofs.Ytdalaiooakclmaa.Pure
