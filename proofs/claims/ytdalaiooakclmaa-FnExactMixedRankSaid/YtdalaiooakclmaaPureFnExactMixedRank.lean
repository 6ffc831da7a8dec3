/- The law FnExactMixedRank returns true for all lists (reach and kinds as the row says); no condition of ours. -/
import Derived.Test.YtdalaiooakclmaaQFnExactMixedRankx3
import Derived.Test.YtdalaiooakclmaaMth
import Derived.Test.YtdalaiooakclmaaMthDigits
set_option linter.unusedVariables false
set_option linter.unusedSimpArgs false
namespace Go.Proofs.Ytdalaiooakclmaa.Pure
open Go.RowKit Go.Proofs.Ytdalaiooakclmaa.Mth Go.Proofs.Ytdalaiooakclmaa.PFnExactMixedRank Go.Proofs.YtdalaiooakclmaaW.PrintWords Go.Proofs.YtdalaiooakclmaaW.PrintLast

theorem laws_toIntS_ev (l : List Int) (hl : l.length ≤ 1048576) : Ev (fun k => laws_toIntS.f k l) l := by
  unfold laws_toIntS.f
  refine ev_pos (by omega) (ev_pos (by omega) ?_)
  refine range_all (l := l) (by omega) (fun pre suf => Ev (fun k => laws_toIntS.l0 k l (pre ++ List.replicate suf.length 0) (pre.length : Int)) l) ?_ ?_
  · refine ev_shift ?_
    simp only [laws_toIntS.l0]
    exact ev_neg (by omega) (ev_some (by simp))
  · intro pre x suf h hx h1 h2 h3 ih
    refine ev_shift ?_
    simp only [laws_toIntS.l0, hx, h3, List.length_cons, List.replicate_succ, set_at]
    refine ev_pos h1 (ev_pos h2 (ev_pos (by simp; omega) ?_))
    simpa using ih
theorem laws_eqIntS_ev (l : List Int) (hl : l.length ≤ 9000000000000000000) : Ev (fun k => laws_eqIntS.f k l l) true := by
  unfold laws_eqIntS.f
  refine ev_pos rfl ?_
  refine range_all hl (fun pre suf => Ev (fun k => laws_eqIntS.l0 k l l (pre.length : Int)) true) ?_ ?_
  · refine ev_shift ?_
    simp only [laws_eqIntS.l0]
    exact ev_neg (by omega) (ev_some rfl)
  · intro pre x suf h hx h1 h2 h3 ih
    refine ev_shift ?_
    simp only [laws_eqIntS.l0, h3]
    exact ev_pos h1 (ev_pos h2 (ev_pos h1 (ev_pos (by trivial) ih)))
theorem impl_within_eq (a b c : Int) : impl_within.f a b c = some (inR a b c) := in_ite a b c
theorem impl_allWithin_ev (l : List Int) (lo hi : Int) (hl : l.length ≤ 9000000000000000000) : Ev (fun k => impl_allWithin.f k l lo hi) (allIn l lo hi) := by
  refine range_all hl (fun pre suf => Ev (fun k => impl_allWithin.l0 k lo hi l (l.length : Int) (pre.length : Int)) (allIn suf lo hi)) ?_ ?_
  · refine ev_shift ?_
    simp only [impl_allWithin.l0]
    exact ev_neg (by omega) (ev_some rfl)
  · intro pre x suf h hx h1 h2 h3 ih
    refine ev_shift ?_
    simp only [impl_allWithin.l0, hx, h3, impl_within_eq, Option.bind_some, allIn_cons]
    refine ev_pos h1 (ev_pos h2 (ev_pos h1 ?_))
    cases inR x lo hi with
    | true => exact ev_pos rfl ih
    | false => exact ev_neg (by simp) (ev_some rfl)
theorem impl_size_F (l : List Int) (h : allIn l 2 12 = true) (hl : l.length ≤ 9000000000000000000) : Ev (fun k => impl_size.f k l) (sizeF 1 l) := by
  have hge := allIn_iff.1 h
  have key : ∀ suf pre, l = pre ++ suf → ∀ acc : Int, 1 ≤ acc → acc ≤ 1000001 → Ev (fun k => impl_size.l0 k acc l (l.length : Int) (pre.length : Int)) (sizeF acc suf) := by
    refine range_ind hl (fun pre suf => ∀ acc : Int, 1 ≤ acc → acc ≤ 1000001 → Ev (fun k => impl_size.l0 k acc l (l.length : Int) (pre.length : Int)) (sizeF acc suf)) ?_ ?_
    · intro acc _ _
      refine ev_shift ?_
      simp only [impl_size.l0]
      exact ev_neg (by omega) (ev_some rfl)
    · intro pre x suf hh hx h1 h2 h3 ih acc a0 a1
      have hx0 := hge x (by rw [hh]; simp)
      have hm := acc_mul a0 a1 hx0.1 hx0.2
      refine ev_shift ?_
      simp only [impl_size.l0, hx, h3]
      rw [w64 (by omega) (by omega)]
      refine ev_pos h1 (ev_pos h2 (ev_pos h1 ?_))
      simp only [sizeF]
      refine ih _ ?_ ?_
      · unfold mn; split <;> omega
      · unfold mn; split <;> omega
  exact key l [] rfl 1 (by omega) (by omega)
theorem impl_size_ev (l : List Int) (h : areB l = true) : Ev (fun k => impl_size.f k l) (prod l) := by
  have h' := areB_iff.1 h
  have := impl_size_F l h'.2.1 (by omega)
  rw [sizeF_eq h'.2.1 1 (by omega) (by omega), Int.one_mul, if_pos h'.2.2] at this
  exact this
theorem impl_areBases_ev (l : List Int) (hl : l.length ≤ 9000000000000000000) : Ev (fun k => impl_areBases.f k l) (areB l) := by
  unfold impl_areBases.f areB
  by_cases hlen : (l.length : Int) ≤ 12
  · refine ev_pos hlen (ev_bind (impl_allWithin_ev l 2 12 hl) ?_)
    cases ha : allIn l 2 12 with
    | false => exact ev_neg (by simp) (ev_some (by simp))
    | true =>
      refine ev_pos rfl (ev_bind (impl_size_F l ha hl) (ev_some ?_))
      rw [sizeF_eq ha 1 (by omega) (by omega), Int.one_mul]
      rw [decide_eq_true hlen, Bool.true_and, Bool.true_and]
      by_cases hp : prod l ≤ 1000000
      · rw [if_pos hp]
      · rw [if_neg hp, decide_eq_false hp]; decide
  · exact ev_neg hlen (ev_some (by rw [decide_eq_false hlen]; rfl))
theorem spec_l1In_eq (a b c : Int) : spec_l1In.f a b c = some (inR a b c) := in_ite a b c
theorem spec_l1All_ev (l : List Int) (lo hi : Int) (hl : l.length ≤ 9000000000000000000) : Ev (fun k => spec_l1All.f k l lo hi) (allIn l lo hi) := by
  refine range_all hl (fun pre suf => Ev (fun k => spec_l1All.l0 k lo hi l (l.length : Int) (pre.length : Int)) (allIn suf lo hi)) ?_ ?_
  · refine ev_shift ?_
    simp only [spec_l1All.l0]
    exact ev_neg (by omega) (ev_some rfl)
  · intro pre x suf h hx h1 h2 h3 ih
    refine ev_shift ?_
    simp only [spec_l1All.l0, hx, h3, spec_l1In_eq, Option.bind_some, allIn_cons]
    refine ev_pos h1 (ev_pos h2 (ev_pos h1 ?_))
    cases inR x lo hi with
    | true => exact ev_pos rfl ih
    | false => exact ev_neg (by simp) (ev_some rfl)
theorem spec_raProduct_F (l : List Int) (h : allIn l 2 12 = true) (hl : l.length ≤ 9000000000000000000) : Ev (fun k => spec_raProduct.f k l) (prF 1 l) := by
  have hge := allIn_iff.1 h
  have key : ∀ suf pre, l = pre ++ suf → ∀ acc : Int, 1 ≤ acc → acc ≤ 1000000 → Ev (fun k => spec_raProduct.l0 k acc l (l.length : Int) (pre.length : Int)) (prF acc suf) := by
    refine range_ind hl (fun pre suf => ∀ acc : Int, 1 ≤ acc → acc ≤ 1000000 → Ev (fun k => spec_raProduct.l0 k acc l (l.length : Int) (pre.length : Int)) (prF acc suf)) ?_ ?_
    · intro acc _ _
      refine ev_shift ?_
      simp only [spec_raProduct.l0]
      exact ev_neg (by omega) (ev_some rfl)
    · intro pre x suf hh hx h1 h2 h3 ih acc a0 a1
      have hx0 := hge x (by rw [hh]; simp)
      have hm := acc_mul a0 (by omega) hx0.1 hx0.2
      refine ev_shift ?_
      simp only [spec_raProduct.l0, hx, h3]
      rw [w64 (by omega) (by omega)]
      refine ev_pos h1 (ev_pos h2 (ev_pos h1 ?_))
      simp only [prF]
      by_cases hc : acc * x > 1000000
      · rw [if_pos hc]; exact ev_pos hc (ev_some rfl)
      · rw [if_neg hc]; exact ev_neg hc (ih _ (by omega) (by omega))
  exact key l [] rfl 1 (by omega) (by omega)
theorem spec_raProduct_ev (l : List Int) (h : areB l = true) : Ev (fun k => spec_raProduct.f k l) (prod l) := by
  have h' := areB_iff.1 h
  have := spec_raProduct_F l h'.2.1 (by omega)
  rw [(prF_eq h'.2.1 1 (by omega) (by omega)).1 (by rw [Int.one_mul]; exact h'.2.2), Int.one_mul] at this
  exact this
theorem spec_raBases_ev (l : List Int) (hl : l.length ≤ 9000000000000000000) : Ev (fun k => spec_raBases.f k l) (areB l) := by
  unfold spec_raBases.f areB
  by_cases hlen : (l.length : Int) ≤ 12
  · refine ev_pos hlen (ev_bind (spec_l1All_ev l 2 12 hl) ?_)
    cases ha : allIn l 2 12 with
    | false => exact ev_neg (by simp) (ev_some (by simp))
    | true =>
      refine ev_pos rfl (ev_bind (spec_raProduct_F l ha hl) (ev_some ?_))
      obtain ⟨g1, g2⟩ := prF_eq ha 1 (by omega) (by omega)
      rw [Int.one_mul] at g1 g2
      rw [decide_eq_true hlen, Bool.true_and, Bool.true_and]
      by_cases hp : prod l ≤ 1000000
      · rw [g1 hp]
      · have := g2 hp
        rw [decide_eq_false hp, decide_eq_false (by omega)]
  · exact ev_neg hlen (ev_some (by rw [decide_eq_false hlen]; rfl))
theorem impl_areDigits_ev (bs ds : List Int) (hb : ∀ b ∈ bs, (Lit.int .i64 (b - 1)).wf = true) (hl : ds.length ≤ 9000000000000000000) : Ev (fun k => impl_areDigits.f k bs ds) (digs bs ds) := by
  have key : ∀ suf pre, ds = pre ++ suf → ∀ p s : List Int, bs = p ++ s → p.length = pre.length → Ev (fun k => impl_areDigits.l0 k bs ds ds (ds.length : Int) (pre.length : Int)) (digs s suf) := by
    refine range_ind hl (fun pre suf => ∀ p s : List Int, bs = p ++ s → p.length = pre.length → Ev (fun k => impl_areDigits.l0 k bs ds ds (ds.length : Int) (pre.length : Int)) (digs s suf)) ?_ ?_
    · intro p s hps hpl
      refine ev_shift ?_
      simp only [impl_areDigits.l0]
      refine ev_neg (by omega) (ev_some ?_)
      cases s with
      | nil => simp at hps; subst hps; simp [digs, hpl]
      | cons b s => simp [digs, hps]; omega
    · intro pre x suf hh hx h1 h2 h3 ih p s hps hpl
      refine ev_shift ?_
      simp only [impl_areDigits.l0, hx, h3]
      refine ev_pos h1 (ev_pos h2 (ev_pos h1 ?_))
      cases s with
      | nil =>
        simp at hps; subst hps
        exact ev_pos (by omega) (ev_some rfl)
      | cons b s =>
        have hbl : bs.length = p.length + s.length + 1 := by rw [hps]; simp; omega
        have hrb : rd bs (pre.length : Int) = b := by rw [hps, ← hpl]; exact rd_at _ _ _
        have hbw := wf_range (hb b (by rw [hps]; simp))
        refine ev_neg (by omega) (ev_pos (by omega) ?_)
        rw [hrb, w64 (by omega) (by omega)]
        refine ev_bind0 (impl_within_eq _ _ _) ?_
        simp only [digs]
        cases inR x 0 (b - 1) with
        | false => exact ev_neg (by simp) (ev_some rfl)
        | true => exact ev_pos rfl (ih (p ++ [b]) s (by simp [hps]) (by simp [hpl]))
  exact key ds [] rfl [] bs rfl rfl
theorem spec_raAreDigits_ev (bs ds : List Int) (hb : ∀ b ∈ bs, (Lit.int .i64 (b - 1)).wf = true) (hl : ds.length ≤ 9000000000000000000) : Ev (fun k => spec_raAreDigits.f k bs ds) (digs bs ds) := by
  unfold spec_raAreDigits.f
  by_cases hlen : (ds.length : Int) = (bs.length : Int)
  · refine ev_pos hlen ?_
    have key : ∀ suf pre, ds = pre ++ suf → ∀ p s : List Int, bs = p ++ s → p.length = pre.length → s.length = suf.length → Ev (fun k => spec_raAreDigits.l0 k bs ds (ds.length : Int) (pre.length : Int)) (digs s suf) := by
      refine range_ind hl (fun pre suf => ∀ p s : List Int, bs = p ++ s → p.length = pre.length → s.length = suf.length → Ev (fun k => spec_raAreDigits.l0 k bs ds (ds.length : Int) (pre.length : Int)) (digs s suf)) ?_ ?_
      · intro p s hps hpl hsl
        refine ev_shift ?_
        simp only [spec_raAreDigits.l0]
        refine ev_neg (by omega) (ev_some ?_)
        cases s with
        | nil => rfl
        | cons b s => simp at hsl
      · intro pre x suf hh hx h1 h2 h3 ih p s hps hpl hsl
        cases s with
        | nil => simp at hsl
        | cons b s =>
          have hbl : bs.length = p.length + s.length + 1 := by rw [hps]; simp; omega
          have hrb : rd bs (pre.length : Int) = b := by rw [hps, ← hpl]; exact rd_at _ _ _
          have hbw := wf_range (hb b (by rw [hps]; simp))
          refine ev_shift ?_
          simp only [spec_raAreDigits.l0, hx, h3, hrb]
          rw [w64 (by omega) (by omega)]
          refine ev_pos h1 (ev_pos h2 (ev_pos h1 (ev_pos (by omega) (ev_bind0 (spec_l1In_eq _ _ _) ?_))))
          simp only [digs]
          cases inR x 0 (b - 1) with
          | false => exact ev_neg (by simp) (ev_some rfl)
          | true => exact ev_pos rfl (ih (p ++ [b]) s (by simp [hps]) (by simp [hpl]) (by simpa using hsl))
    exact key ds [] rfl [] bs rfl rfl (by omega)
  · refine ev_neg hlen (ev_some ?_)
    cases e : digs bs ds with
    | false => rfl
    | true => exact absurd (congrArg Int.ofNat (digs_length e)) hlen
theorem bases_wf {bs : List Int} (h : areB bs = true) : ∀ b ∈ bs, (Lit.int .i64 (b - 1)).wf = true := by
  intro b hb
  have := allIn_iff.1 (areB_iff.1 h).2.1 b hb
  simp only [Lit.wf, Bool.and_eq_true, decide_eq_true_eq]
  have e0 : IntKind.min .i64 = -9223372036854775808 := by decide
  have e1 : IntKind.max .i64 = 9223372036854775807 := by decide
  omega
theorem spec_gcMixedRank_ev (bs : List Int) : ∀ ds : List Int, areB bs = true → digs bs ds = true → Ev (fun k => spec_gcMixedRank.f k bs ds) (mixR bs ds) := by
  induction bs with
  | nil =>
    intro ds _ hd
    cases ds with
    | cons d ds => simp [digs] at hd
    | nil =>
      refine ev_shift ?_
      simp only [spec_gcMixedRank.f]
      exact ev_pos rfl (ev_some rfl)
  | cons b bs ih =>
    intro ds hb hd
    cases ds with
    | nil => simp [digs] at hd
    | cons d ds =>
      obtain ⟨hb1, hp1, hp2, hp3, hb2⟩ := areB_head hb
      have hr := mixR_range hb hd
      simp only [digs, Bool.and_eq_true, inR_iff] at hd
      have hr2 := mixR_range hb2 hd.2
      have h0 : 0 ≤ d * prod bs := Int.mul_nonneg (by omega) (by omega)
      have h1 : (d + 1) * prod bs ≤ b * prod bs := Int.mul_le_mul_of_nonneg_right (by omega) (by omega)
      rw [Int.add_mul, Int.one_mul] at h1
      have hrd : rd (d :: ds) 0 = d := rfl
      refine ev_shift ?_
      simp only [spec_gcMixedRank.f, List.drop_succ_cons, List.drop_zero, List.length_cons, hrd]
      rw [Int.tmod_eq_emod_of_nonneg hd.1.1]
      refine ev_neg (by omega) (ev_pos (by omega) (ev_bind (spec_raProduct_ev bs hb2) (ev_pos (by omega) (ev_bind (ih ds hb2 hd.2) (ev_pos (by omega) ?_)))))
      rw [w64 (x := d * prod bs) (by omega) (by omega), w64 (x := prod bs - 1) (by omega) (by omega), w64 (x := prod bs - 1 - mixR bs ds) (by omega) (by omega), w64 (x := d * prod bs + (prod bs - 1 - mixR bs ds)) (by omega) (by omega), w64 (x := d * prod bs + mixR bs ds) (by omega) (by omega)]
      by_cases hodd : d % 2 = 1
      · exact ev_pos hodd (ev_some (by simp only [mixR, if_pos hodd]))
      · exact ev_neg hodd (ev_some (by simp only [mixR, if_neg hodd]))
theorem impl_mixedRank_ev (bs : List Int) : ∀ ds : List Int, areB bs = true → digs bs ds = true → Ev (fun k => impl_mixedRank.f k bs ds) (mixR bs ds) := by
  induction bs with
  | nil =>
    intro ds _ hd
    cases ds with
    | cons d ds => simp [digs] at hd
    | nil =>
      refine ev_shift ?_
      simp only [impl_mixedRank.f]
      exact ev_pos rfl (ev_some rfl)
  | cons b bs ih =>
    intro ds hb hd
    cases ds with
    | nil => simp [digs] at hd
    | cons d ds =>
      obtain ⟨hb1, hp1, hp2, hp3, hb2⟩ := areB_head hb
      have hr := mixR_range hb hd
      simp only [digs, Bool.and_eq_true, inR_iff] at hd
      have hr2 := mixR_range hb2 hd.2
      have h0 : 0 ≤ d * prod bs := Int.mul_nonneg (by omega) (by omega)
      have h1 : (d + 1) * prod bs ≤ b * prod bs := Int.mul_le_mul_of_nonneg_right (by omega) (by omega)
      rw [Int.add_mul, Int.one_mul] at h1
      have hrd : rd (d :: ds) 0 = d := rfl
      refine ev_shift ?_
      simp only [impl_mixedRank.f, List.drop_succ_cons, List.drop_zero, List.length_cons, hrd]
      rw [Int.tmod_eq_emod_of_nonneg hd.1.1]
      refine ev_neg (by omega) (ev_pos (by omega) (ev_bind (impl_size_ev bs hb2) (ev_pos (by omega) (ev_bind (ih ds hb2 hd.2) (ev_pos (by omega) ?_)))))
      rw [w64 (x := d * prod bs) (by omega) (by omega), w64 (x := prod bs - 1) (by omega) (by omega), w64 (x := prod bs - 1 - mixR bs ds) (by omega) (by omega), w64 (x := d * prod bs + (prod bs - 1 - mixR bs ds)) (by omega) (by omega), w64 (x := d * prod bs + mixR bs ds) (by omega) (by omega)]
      by_cases hodd : d % 2 = 1
      · exact ev_pos hodd (ev_some (by simp only [mixR, if_pos hodd]))
      · exact ev_neg hodd (ev_some (by simp only [mixR, if_neg hodd]))
theorem spec_MixedRank_ev (bs ds : List Int) (hl1 : bs.length ≤ 9000000000000000000) (hl2 : ds.length ≤ 9000000000000000000) : Ev (fun k => spec_MixedRank.f k bs ds) (mixRk bs ds) := by
  unfold spec_MixedRank.f mixRk
  refine ev_bind (spec_raBases_ev bs hl1) ?_
  by_cases hb : areB bs = true
  · refine ev_pos hb (ev_bind (spec_raAreDigits_ev bs ds (bases_wf hb) hl2) ?_)
    by_cases hd : digs bs ds = true
    · rw [if_pos ⟨hb, hd⟩]
      exact ev_pos hd (ev_bind (spec_gcMixedRank_ev bs ds hb hd) (ev_some rfl))
    · rw [if_neg (fun c => hd c.2)]
      exact ev_neg hd (ev_some rfl)
  · rw [if_neg (fun c => hb c.1)]
    exact ev_neg hb (ev_some rfl)
theorem impl_MixedRank_ev (bs ds : List Int) (hl1 : bs.length ≤ 9000000000000000000) (hl2 : ds.length ≤ 9000000000000000000) : Ev (fun k => impl_MixedRank.f k bs ds) (mixRk bs ds) := by
  unfold impl_MixedRank.f mixRk
  refine ev_bind (impl_areBases_ev bs hl1) ?_
  by_cases hb : areB bs = true
  · refine ev_pos hb (ev_bind (impl_areDigits_ev bs ds (bases_wf hb) hl2) ?_)
    by_cases hd : digs bs ds = true
    · rw [if_pos ⟨hb, hd⟩]
      exact ev_pos hd (ev_bind (impl_mixedRank_ev bs ds hb hd) (ev_some rfl))
    · rw [if_neg (fun c => hd c.2)]
      exact ev_neg hd (ev_some rfl)
  · rw [if_neg (fun c => hb c.1)]
    exact ev_neg hb (ev_some rfl)
theorem FnExactMixedRank : laws_FnExactMixedRank.Pure := by
  intro bs ds hl1 hl2 hl hd1 hd2 hd
  apply ev_le
  unfold laws_FnExactMixedRank.f
  by_cases hb : (bs.length : Int) > 1048576
  · exact ev_pos hb (ev_some rfl)
  refine ev_neg hb ?_
  by_cases hb2 : (ds.length : Int) > 1048576
  · exact ev_pos hb2 (ev_some rfl)
  refine ev_neg hb2 ?_
  have hs := spec_MixedRank_ev bs ds (by omega) (by omega)
  have hi := impl_MixedRank_ev bs ds (by omega) (by omega)
  generalize mixRk bs ds = p at hs hi
  obtain ⟨out, ok⟩ := p
  repeat (first
      | exact ev_some rfl
      | refine ev_bind (laws_toIntS_ev _ (by omega)) ?_
      | refine ev_bind (laws_eqIntS_ev _ (by omega)) ?_
      | refine ev_bind hs ?_
      | refine ev_bind hi ?_
      | refine ev_pos rfl ?_
      | refine ev_pos trivial ?_
      | refine ev_neg neq_self ?_
      | dsimp only
      | refine ev_neg (by omega) ?_
      | (refine ev_shift ?_; simp only [laws_FnExactMixedRank.j0]))

end Go.Proofs.Ytdalaiooakclmaa.Pure
