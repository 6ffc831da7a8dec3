/- The law FnExactIsMixedList returns true for every list and every list of lists (reach and kinds as the row says); no condition of ours. -/
import Derived.Test.YtjkfihbfihlmiaaQFnExactIsMixedListx6
import Derived.Test.YtjkfihbfihlmiaaMth
import Derived.Test.YtjkfihbfihlmiaaMthDigits
import Derived.Test.YtjkfihbfihlmiaaMthMixList
set_option linter.unusedVariables false
set_option linter.unusedSimpArgs false
namespace Go.Proofs.Ytjkfihbfihlmiaa.Pure
open Go.RowKit Go.Proofs.Ytjkfihbfihlmiaa.Mth Go.Proofs.Ytjkfihbfihlmiaa.PFnExactIsMixedList Go.Proofs.YtjkfihbfihlmiaaW.PrintWords Go.Proofs.YtjkfihbfihlmiaaW.PrintLast

theorem laws_toIntS_ev (l : List Int) (hl : l.length ≤ 1048576) : Ev (fun k => laws_toIntS.f k l) l := by
  unfold laws_toIntS.f
  refine ev_pos (by omega) (ev_pos (by omega) ?_)
  refine range_all (l := l) (by omega) (fun pre suf => Ev (fun k => laws_toIntS.l0 k l (pre ++ List.replicate suf.length 0) (pre.length : Int)) l) ?_ ?_
  · refine ev_shift ?_
    simp only [laws_toIntS.l0]
    exact ev_neg (by omega) (ev_some (by simp))
  · intro pre x suf h hx h1 h2 h3 ih
    refine ev_shift ?_
    simp only [laws_toIntS.l0, hx, h3, List.length_cons, List.replicate_succ, set_at]
    refine ev_pos h1 (ev_pos h2 (ev_pos (by simp; omega) ?_))
    simpa using ih
theorem laws_eqIntS_ev (l : List Int) (hl : l.length ≤ 9000000000000000000) : Ev (fun k => laws_eqIntS.f k l l) true := by
  unfold laws_eqIntS.f
  refine ev_pos rfl ?_
  refine range_all hl (fun pre suf => Ev (fun k => laws_eqIntS.l0 k l l (pre.length : Int)) true) ?_ ?_
  · refine ev_shift ?_
    simp only [laws_eqIntS.l0]
    exact ev_neg (by omega) (ev_some rfl)
  · intro pre x suf h hx h1 h2 h3 ih
    refine ev_shift ?_
    simp only [laws_eqIntS.l0, h3]
    exact ev_pos h1 (ev_pos h2 (ev_pos h1 (ev_pos (by trivial) ih)))
theorem laws_eqIntSS_ev (l : List (List Int)) (hl : l.length ≤ 9000000000000000000) (hr : ∀ x ∈ l, x.length ≤ 9000000000000000000) : Ev (fun k => laws_eqIntSS.f k l l) true := by
  unfold laws_eqIntSS.f
  refine ev_pos rfl ?_
  refine rangeL_ind hl (fun pre suf => Ev (fun k => laws_eqIntSS.l0 k l l (pre.length : Int)) true) ?_ ?_ l [] rfl
  · refine ev_shift ?_
    simp only [laws_eqIntSS.l0]
    exact ev_neg (by omega) (ev_some rfl)
  · intro pre x suf h hx h1 h2 h3 ih
    have e : rd_L1 l (pre.length : Int) = x := hx
    refine ev_shift ?_
    simp only [laws_eqIntSS.l0, h3, e]
    exact ev_pos h1 (ev_pos h2 (ev_pos h1 (ev_bind (laws_eqIntS_ev x (hr x (by rw [h]; simp))) (ev_pos rfl ih))))
theorem laws_szIntSS_ev (ls : List (List Int)) (hl : ls.length ≤ 9223372036854775807) (hr : ∀ x ∈ ls, x.length ≤ 9223372036854775807) : ∃ t : Int, Ev (fun k => laws_szIntSS.f k ls 1048576) t ∧ (t < 0 ∨ (0 ≤ t ∧ ls.length ≤ 1048576 ∧ ∀ x ∈ ls, x.length ≤ 1048576)) := by
  unfold laws_szIntSS.f
  rw [w64 (x := 1048576 - (ls.length : Int)) (by omega) (by omega)]
  by_cases h0 : (1048576 : Int) - (ls.length : Int) < 0
  · exact ⟨-1, ev_pos h0 (ev_some rfl), .inl (by decide)⟩
  · have key : ∀ suf pre, ls = pre ++ suf → ∀ a : Int, 0 ≤ a → a ≤ 1048576 → (∀ x ∈ pre, x.length ≤ 1048576) → ∃ t : Int, Ev (fun k => laws_szIntSS.l0 k ls a (pre.length : Int)) t ∧ (t < 0 ∨ (0 ≤ t ∧ ∀ x ∈ ls, x.length ≤ 1048576)) := by
      refine rangeL_ind (by omega) (fun pre suf => ∀ a : Int, 0 ≤ a → a ≤ 1048576 → (∀ x ∈ pre, x.length ≤ 1048576) → ∃ t : Int, Ev (fun k => laws_szIntSS.l0 k ls a (pre.length : Int)) t ∧ (t < 0 ∨ (0 ≤ t ∧ ∀ x ∈ ls, x.length ≤ 1048576))) ?_ ?_
      · intro a h1 h2 h3
        refine ⟨a, ev_shift ?_, .inr ⟨h1, h3⟩⟩
        simp only [laws_szIntSS.l0]
        exact ev_neg (by omega) (ev_some rfl)
      · intro pre x suf hh hx g1 g2 g3 ih a h1 h2 h3
        have e : rd_L1 ls (pre.length : Int) = x := hx
        have hxl := hr x (by rw [hh]; simp)
        by_cases c : a - (x.length : Int) < 0
        · refine ⟨-1, ev_shift ?_, .inl (by decide)⟩
          simp only [laws_szIntSS.l0, e]
          refine ev_pos g1 (ev_pos g2 (ev_bind0 (a := -1) ?_ (ev_pos (by decide) (ev_some rfl))))
          unfold laws_szIntS.f
          rw [w64 (by omega) (by omega), if_pos c]
        · obtain ⟨t, h4, h5⟩ := ih (a - (x.length : Int)) (by omega) (by omega) (fun y hy => by
            rcases List.mem_append.1 hy with hy | hy
            · exact h3 y hy
            · simp only [List.mem_singleton] at hy; subst hy; omega)
          refine ⟨t, ev_shift ?_, h5⟩
          simp only [laws_szIntSS.l0, e, g3]
          refine ev_pos g1 (ev_pos g2 (ev_bind0 (a := a - (x.length : Int)) ?_ (ev_neg (by omega) h4)))
          unfold laws_szIntS.f
          rw [w64 (by omega) (by omega), if_neg c]
    obtain ⟨t, h1, h2⟩ := key ls [] rfl (1048576 - (ls.length : Int)) (by omega) (by omega) (by simp)
    refine ⟨t, ev_neg h0 h1, ?_⟩
    rcases h2 with h2 | h2
    · exact .inl h2
    · exact .inr ⟨h2.1, by omega, h2.2⟩
theorem laws_toIntSS_id (ls : List (List Int)) (hl : ls.length ≤ 1048576) (hr : ∀ x ∈ ls, x.length ≤ 1048576) : Ev (fun k => laws_toIntSS.f k ls) ls := by
  unfold laws_toIntSS.f
  refine ev_pos (by omega) (ev_pos (by rw [Int.toNat_natCast]; omega) ?_)
  rw [Int.toNat_natCast]
  refine rangeL_ind (l := ls) (by omega) (fun pre suf => Ev (fun k => laws_toIntSS.l0 k ls (pre ++ List.replicate suf.length []) (pre.length : Int)) ls) ?_ ?_ ls [] rfl
  · refine ev_shift ?_
    simp only [laws_toIntSS.l0]
    exact ev_neg (by omega) (ev_some (by simp))
  · intro pre x suf hh hx g1 g2 g3 ih
    have e : rd_L1 ls (pre.length : Int) = x := hx
    have hxl := hr x (by rw [hh]; simp)
    refine ev_shift ?_
    simp only [laws_toIntSS.l0, e, g3]
    refine ev_pos g1 (ev_pos g2 (ev_bind (laws_toIntS_ev x (by omega)) (ev_pos (by simp; omega) ?_)))
    have es : (pre ++ List.replicate (x :: suf).length []).set ((pre.length : Int)).toNat x = (pre ++ [x]) ++ List.replicate suf.length [] := by
      simp [List.replicate_succ]
    rw [es]
    exact ih
theorem impl_within_eq (a b c : Int) : impl_within.f a b c = some (inR a b c) := in_ite a b c
theorem impl_allWithin_ev (l : List Int) (lo hi : Int) (hl : l.length ≤ 9000000000000000000) : Ev (fun k => impl_allWithin.f k l lo hi) (allIn l lo hi) := by
  refine range_all hl (fun pre suf => Ev (fun k => impl_allWithin.l0 k lo hi l (l.length : Int) (pre.length : Int)) (allIn suf lo hi)) ?_ ?_
  · refine ev_shift ?_
    simp only [impl_allWithin.l0]
    exact ev_neg (by omega) (ev_some rfl)
  · intro pre x suf h hx h1 h2 h3 ih
    refine ev_shift ?_
    simp only [impl_allWithin.l0, hx, h3, impl_within_eq, Option.bind_some, allIn_cons]
    refine ev_pos h1 (ev_pos h2 (ev_pos h1 ?_))
    cases inR x lo hi with
    | true => exact ev_pos rfl ih
    | false => exact ev_neg (by simp) (ev_some rfl)
theorem impl_size_F (l : List Int) (h : allIn l 2 12 = true) (hl : l.length ≤ 9000000000000000000) : Ev (fun k => impl_size.f k l) (sizeF 1 l) := by
  have hge := allIn_iff.1 h
  have key : ∀ suf pre, l = pre ++ suf → ∀ acc : Int, 1 ≤ acc → acc ≤ 1000001 → Ev (fun k => impl_size.l0 k acc l (l.length : Int) (pre.length : Int)) (sizeF acc suf) := by
    refine range_ind hl (fun pre suf => ∀ acc : Int, 1 ≤ acc → acc ≤ 1000001 → Ev (fun k => impl_size.l0 k acc l (l.length : Int) (pre.length : Int)) (sizeF acc suf)) ?_ ?_
    · intro acc _ _
      refine ev_shift ?_
      simp only [impl_size.l0]
      exact ev_neg (by omega) (ev_some rfl)
    · intro pre x suf hh hx h1 h2 h3 ih acc a0 a1
      have hx0 := hge x (by rw [hh]; simp)
      have hm := acc_mul a0 a1 hx0.1 hx0.2
      refine ev_shift ?_
      simp only [impl_size.l0, hx, h3]
      rw [w64 (by omega) (by omega)]
      refine ev_pos h1 (ev_pos h2 (ev_pos h1 ?_))
      simp only [sizeF]
      refine ih _ ?_ ?_
      · unfold mn; split <;> omega
      · unfold mn; split <;> omega
  exact key l [] rfl 1 (by omega) (by omega)
theorem impl_size_ev (l : List Int) (h : areB l = true) : Ev (fun k => impl_size.f k l) (prod l) := by
  have h' := areB_iff.1 h
  have := impl_size_F l h'.2.1 (by omega)
  rw [sizeF_eq h'.2.1 1 (by omega) (by omega), Int.one_mul, if_pos h'.2.2] at this
  exact this
theorem impl_areBases_ev (l : List Int) (hl : l.length ≤ 9000000000000000000) : Ev (fun k => impl_areBases.f k l) (areB l) := by
  unfold impl_areBases.f areB
  by_cases hlen : (l.length : Int) ≤ 12
  · refine ev_pos hlen (ev_bind (impl_allWithin_ev l 2 12 hl) ?_)
    cases ha : allIn l 2 12 with
    | false => exact ev_neg (by simp) (ev_some (by simp))
    | true =>
      refine ev_pos rfl (ev_bind (impl_size_F l ha hl) (ev_some ?_))
      rw [sizeF_eq ha 1 (by omega) (by omega), Int.one_mul]
      rw [decide_eq_true hlen, Bool.true_and, Bool.true_and]
      by_cases hp : prod l ≤ 1000000
      · rw [if_pos hp]
      · rw [if_neg hp, decide_eq_false hp]; decide
  · exact ev_neg hlen (ev_some (by rw [decide_eq_false hlen]; rfl))
theorem spec_l1In_eq (a b c : Int) : spec_l1In.f a b c = some (inR a b c) := in_ite a b c
theorem spec_l1All_ev (l : List Int) (lo hi : Int) (hl : l.length ≤ 9000000000000000000) : Ev (fun k => spec_l1All.f k l lo hi) (allIn l lo hi) := by
  refine range_all hl (fun pre suf => Ev (fun k => spec_l1All.l0 k lo hi l (l.length : Int) (pre.length : Int)) (allIn suf lo hi)) ?_ ?_
  · refine ev_shift ?_
    simp only [spec_l1All.l0]
    exact ev_neg (by omega) (ev_some rfl)
  · intro pre x suf h hx h1 h2 h3 ih
    refine ev_shift ?_
    simp only [spec_l1All.l0, hx, h3, spec_l1In_eq, Option.bind_some, allIn_cons]
    refine ev_pos h1 (ev_pos h2 (ev_pos h1 ?_))
    cases inR x lo hi with
    | true => exact ev_pos rfl ih
    | false => exact ev_neg (by simp) (ev_some rfl)
theorem spec_raProduct_F (l : List Int) (h : allIn l 2 12 = true) (hl : l.length ≤ 9000000000000000000) : Ev (fun k => spec_raProduct.f k l) (prF 1 l) := by
  have hge := allIn_iff.1 h
  have key : ∀ suf pre, l = pre ++ suf → ∀ acc : Int, 1 ≤ acc → acc ≤ 1000000 → Ev (fun k => spec_raProduct.l0 k acc l (l.length : Int) (pre.length : Int)) (prF acc suf) := by
    refine range_ind hl (fun pre suf => ∀ acc : Int, 1 ≤ acc → acc ≤ 1000000 → Ev (fun k => spec_raProduct.l0 k acc l (l.length : Int) (pre.length : Int)) (prF acc suf)) ?_ ?_
    · intro acc _ _
      refine ev_shift ?_
      simp only [spec_raProduct.l0]
      exact ev_neg (by omega) (ev_some rfl)
    · intro pre x suf hh hx h1 h2 h3 ih acc a0 a1
      have hx0 := hge x (by rw [hh]; simp)
      have hm := acc_mul a0 (by omega) hx0.1 hx0.2
      refine ev_shift ?_
      simp only [spec_raProduct.l0, hx, h3]
      rw [w64 (by omega) (by omega)]
      refine ev_pos h1 (ev_pos h2 (ev_pos h1 ?_))
      simp only [prF]
      by_cases hc : acc * x > 1000000
      · rw [if_pos hc]; exact ev_pos hc (ev_some rfl)
      · rw [if_neg hc]; exact ev_neg hc (ih _ (by omega) (by omega))
  exact key l [] rfl 1 (by omega) (by omega)
theorem spec_raProduct_ev (l : List Int) (h : areB l = true) : Ev (fun k => spec_raProduct.f k l) (prod l) := by
  have h' := areB_iff.1 h
  have := spec_raProduct_F l h'.2.1 (by omega)
  rw [(prF_eq h'.2.1 1 (by omega) (by omega)).1 (by rw [Int.one_mul]; exact h'.2.2), Int.one_mul] at this
  exact this
theorem spec_raBases_ev (l : List Int) (hl : l.length ≤ 9000000000000000000) : Ev (fun k => spec_raBases.f k l) (areB l) := by
  unfold spec_raBases.f areB
  by_cases hlen : (l.length : Int) ≤ 12
  · refine ev_pos hlen (ev_bind (spec_l1All_ev l 2 12 hl) ?_)
    cases ha : allIn l 2 12 with
    | false => exact ev_neg (by simp) (ev_some (by simp))
    | true =>
      refine ev_pos rfl (ev_bind (spec_raProduct_F l ha hl) (ev_some ?_))
      obtain ⟨g1, g2⟩ := prF_eq ha 1 (by omega) (by omega)
      rw [Int.one_mul] at g1 g2
      rw [decide_eq_true hlen, Bool.true_and, Bool.true_and]
      by_cases hp : prod l ≤ 1000000
      · rw [g1 hp]
      · have := g2 hp
        rw [decide_eq_false hp, decide_eq_false (by omega)]
  · exact ev_neg hlen (ev_some (by rw [decide_eq_false hlen]; rfl))
theorem impl_areDigits_ev (bs ds : List Int) (hb : ∀ b ∈ bs, (Lit.int .i64 (b - 1)).wf = true) (hl : ds.length ≤ 9000000000000000000) : Ev (fun k => impl_areDigits.f k bs ds) (digs bs ds) := by
  have key : ∀ suf pre, ds = pre ++ suf → ∀ p s : List Int, bs = p ++ s → p.length = pre.length → Ev (fun k => impl_areDigits.l0 k bs ds ds (ds.length : Int) (pre.length : Int)) (digs s suf) := by
    refine range_ind hl (fun pre suf => ∀ p s : List Int, bs = p ++ s → p.length = pre.length → Ev (fun k => impl_areDigits.l0 k bs ds ds (ds.length : Int) (pre.length : Int)) (digs s suf)) ?_ ?_
    · intro p s hps hpl
      refine ev_shift ?_
      simp only [impl_areDigits.l0]
      refine ev_neg (by omega) (ev_some ?_)
      cases s with
      | nil => simp at hps; subst hps; simp [digs, hpl]
      | cons b s => simp [digs, hps]; omega
    · intro pre x suf hh hx h1 h2 h3 ih p s hps hpl
      refine ev_shift ?_
      simp only [impl_areDigits.l0, hx, h3]
      refine ev_pos h1 (ev_pos h2 (ev_pos h1 ?_))
      cases s with
      | nil =>
        simp at hps; subst hps
        exact ev_pos (by omega) (ev_some rfl)
      | cons b s =>
        have hbl : bs.length = p.length + s.length + 1 := by rw [hps]; simp; omega
        have hrb : rd bs (pre.length : Int) = b := by rw [hps, ← hpl]; exact rd_at _ _ _
        have hbw := wf_range (hb b (by rw [hps]; simp))
        refine ev_neg (by omega) (ev_pos (by omega) ?_)
        rw [hrb, w64 (by omega) (by omega)]
        refine ev_bind0 (impl_within_eq _ _ _) ?_
        simp only [digs]
        cases inR x 0 (b - 1) with
        | false => exact ev_neg (by simp) (ev_some rfl)
        | true => exact ev_pos rfl (ih (p ++ [b]) s (by simp [hps]) (by simp [hpl]))
  exact key ds [] rfl [] bs rfl rfl
theorem spec_raAreDigits_ev (bs ds : List Int) (hb : ∀ b ∈ bs, (Lit.int .i64 (b - 1)).wf = true) (hl : ds.length ≤ 9000000000000000000) : Ev (fun k => spec_raAreDigits.f k bs ds) (digs bs ds) := by
  unfold spec_raAreDigits.f
  by_cases hlen : (ds.length : Int) = (bs.length : Int)
  · refine ev_pos hlen ?_
    have key : ∀ suf pre, ds = pre ++ suf → ∀ p s : List Int, bs = p ++ s → p.length = pre.length → s.length = suf.length → Ev (fun k => spec_raAreDigits.l0 k bs ds (ds.length : Int) (pre.length : Int)) (digs s suf) := by
      refine range_ind hl (fun pre suf => ∀ p s : List Int, bs = p ++ s → p.length = pre.length → s.length = suf.length → Ev (fun k => spec_raAreDigits.l0 k bs ds (ds.length : Int) (pre.length : Int)) (digs s suf)) ?_ ?_
      · intro p s hps hpl hsl
        refine ev_shift ?_
        simp only [spec_raAreDigits.l0]
        refine ev_neg (by omega) (ev_some ?_)
        cases s with
        | nil => rfl
        | cons b s => simp at hsl
      · intro pre x suf hh hx h1 h2 h3 ih p s hps hpl hsl
        cases s with
        | nil => simp at hsl
        | cons b s =>
          have hbl : bs.length = p.length + s.length + 1 := by rw [hps]; simp; omega
          have hrb : rd bs (pre.length : Int) = b := by rw [hps, ← hpl]; exact rd_at _ _ _
          have hbw := wf_range (hb b (by rw [hps]; simp))
          refine ev_shift ?_
          simp only [spec_raAreDigits.l0, hx, h3, hrb]
          rw [w64 (by omega) (by omega)]
          refine ev_pos h1 (ev_pos h2 (ev_pos h1 (ev_pos (by omega) (ev_bind0 (spec_l1In_eq _ _ _) ?_))))
          simp only [digs]
          cases inR x 0 (b - 1) with
          | false => exact ev_neg (by simp) (ev_some rfl)
          | true => exact ev_pos rfl (ih (p ++ [b]) s (by simp [hps]) (by simp [hpl]) (by simpa using hsl))
    exact key ds [] rfl [] bs rfl rfl (by omega)
  · refine ev_neg hlen (ev_some ?_)
    cases e : digs bs ds with
    | false => rfl
    | true => exact absurd (congrArg Int.ofNat (digs_length e)) hlen
theorem bases_wf {bs : List Int} (h : areB bs = true) : ∀ b ∈ bs, (Lit.int .i64 (b - 1)).wf = true := by
  intro b hb
  have := allIn_iff.1 (areB_iff.1 h).2.1 b hb
  simp only [Lit.wf, Bool.and_eq_true, decide_eq_true_eq]
  have e0 : IntKind.min .i64 = -9223372036854775808 := by decide
  have e1 : IntKind.max .i64 = 9223372036854775807 := by decide
  omega
theorem spec_raNumber_ev (bs ds : List Int) (hd : digs bs ds = true) (hl : ds.length ≤ 9000000000000000000) : Ev (fun k => spec_raNumber.f k bs ds) (rkgo 0 bs ds) := by
  have hlen := digs_length hd
  have key : ∀ suf pre, ds = pre ++ suf → ∀ (r : Int) (p s : List Int), bs = p ++ s → p.length = pre.length → s.length = suf.length → Ev (fun k => spec_raNumber.l0 k bs r ds (ds.length : Int) (pre.length : Int)) (rkgo r s suf) := by
    refine range_ind hl (fun pre suf => ∀ (r : Int) (p s : List Int), bs = p ++ s → p.length = pre.length → s.length = suf.length → Ev (fun k => spec_raNumber.l0 k bs r ds (ds.length : Int) (pre.length : Int)) (rkgo r s suf)) ?_ ?_
    · intro r p s hps hpl hsl
      refine ev_shift ?_
      simp only [spec_raNumber.l0]
      exact ev_neg (by omega) (ev_some (by cases s <;> rfl))
    · intro pre x suf hh hx h1 h2 h3 ih r p s hps hpl hsl
      cases s with
      | nil => simp at hsl
      | cons b s =>
        have hrb : rd bs (pre.length : Int) = b := by rw [hps, ← hpl]; exact rd_at _ _ _
        refine ev_shift ?_
        simp only [spec_raNumber.l0, hx, h3, hrb]
        exact ev_pos h1 (ev_pos h2 (ev_pos h1 (ev_pos (by omega) (ih _ (p ++ [b]) s (by simp [hps]) (by simp [hpl]) (by simpa using hsl)))))
  exact key ds [] rfl 0 [] bs rfl rfl hlen.symm
theorem spec_l1Most_eq (a b : Int) : spec_l1Most.f a b = some (if a > b then a else b) := by
  unfold spec_l1Most.f
  split <;> rfl
theorem chg_comm (a : List Int) : ∀ b : List Int, chg a b = chg b a := by
  induction a with
  | nil => intro b; cases b <;> rfl
  | cons x a ih =>
    intro b
    cases b with
    | nil => rfl
    | cons y b =>
      simp only [chg, ih b]
      have : adZ x y = adZ y x := by unfold adZ; split <;> split <;> omega
      rw [this]
theorem dig_small : ∀ {bs ds : List Int}, allIn bs 2 12 = true → digs bs ds = true → ∀ y ∈ ds, 0 ≤ y ∧ y ≤ 11 := by
  intro bs
  induction bs with
  | nil => intro ds _ h y hy; cases ds with
    | nil => simp at hy
    | cons d ds => simp [digs] at h
  | cons b bs ih =>
    intro ds hb h y hy
    cases ds with
    | nil => simp at hy
    | cons d ds =>
      simp only [digs, Bool.and_eq_true, inR_iff] at h
      simp only [allIn_cons, Bool.and_eq_true, inR_iff] at hb
      rcases List.mem_cons.1 hy with rfl | hy
      · omega
      · exact ih hb.2 h.2 y hy
theorem spec_l1Abs_ad (x y : Int) (hx : 0 ≤ x ∧ x ≤ 11) (hy : 0 ≤ y ∧ y ≤ 11) : spec_l1Abs.f (wrap64 (x - y)) = some (adZ x y) := by
  unfold spec_l1Abs.f spec_l1Most.f adZ
  rw [w64 (x := x - y) (by omega) (by omega), w64 (x := -(x - y)) (by omega) (by omega)]
  split <;> split <;> simp only [Option.bind_some, Option.some.injEq] <;> omega
theorem spec_gcStep_F (a b : List Int) (hl : a.length = b.length) (h12 : a.length ≤ 2000000) (ha : ∀ y ∈ a, 0 ≤ y ∧ y ≤ 11) (hb : ∀ y ∈ b, 0 ≤ y ∧ y ≤ 11) : Ev (fun k => spec_gcStep.f k a b) (gsF (-1) 0 a b) := by
  unfold spec_gcStep.f
  have key : ∀ suf pre, a = pre ++ suf → ∀ (q s : List Int) (p : Int), b = q ++ s → q.length = pre.length → s.length = suf.length → Ev (fun k => spec_gcStep.l0 k b p a (a.length : Int) (pre.length : Int)) (gsF p (pre.length : Int) suf s) := by
    refine range_ind (by omega) (fun pre suf => ∀ (q s : List Int) (p : Int), b = q ++ s → q.length = pre.length → s.length = suf.length → Ev (fun k => spec_gcStep.l0 k b p a (a.length : Int) (pre.length : Int)) (gsF p (pre.length : Int) suf s)) ?_ ?_
    · intro q s p h1 h2 h3
      refine ev_shift ?_
      simp only [spec_gcStep.l0]
      refine ev_neg (by omega) (ev_some ?_)
      cases s <;> rfl
    · intro pre x suf hh hx g1 g2 g3 ih q s p h1 h2 h3
      cases s with
      | nil => simp at h3
      | cons y s =>
        have hy : rd b (pre.length : Int) = y := by rw [h1, ← h2]; exact rd_at _ _ _
        have hlb : (pre.length : Int) < (b.length : Int) := by rw [h1]; simp; omega
        have el : ((pre ++ [x]).length : Int) = (pre.length : Int) + 1 := by simp
        have hxr := ha x (by rw [hh]; simp)
        have hyr := hb y (by rw [h1]; simp)
        have hn := fun p' => ih (q ++ [y]) s p' (by simp [h1]) (by simp [h2]) (by simpa using h3)
        refine ev_shift ?_
        simp only [spec_gcStep.l0, hx, g3, hy]
        simp only [gsF]
        rw [el] at hn ⊢
        refine ev_pos g1 (ev_pos g2 (ev_pos g1 (ev_pos hlb ?_)))
        by_cases e : x = y
        · rw [if_pos e]
          exact ev_pos e (hn p)
        · rw [if_neg e]
          refine ev_neg e ?_
          by_cases hp : p ≥ 0
          · rw [if_pos (.inl hp)]
            exact ev_pos hp (ev_some rfl)
          · refine ev_neg hp (ev_bind0 (spec_l1Abs_ad x y hxr hyr) ?_)
            by_cases h5 : adZ x y = 1
            · rw [if_neg (by omega)]
              exact ev_pos h5 (hn _)
            · rw [if_pos (.inr h5)]
              exact ev_neg h5 (ev_some rfl)
  exact key a [] rfl [] b (-1) rfl rfl hl.symm
def seenL (N : Nat) (R : List Int) : List Bool := (List.range N).map fun j : Nat => R.contains (j : Int)
theorem seenL_len (N : Nat) (R : List Int) : (seenL N R).length = N := by simp [seenL]
theorem seenL_set {N : Nat} {R : List Int} {r : Int} (h0 : 0 ≤ r) (h1 : r < (N : Int)) : (seenL N R).set r.toNat true = seenL N (r :: R) := by
  unfold seenL
  apply List.ext_getElem
  · simp
  · intro i h2 h3
    simp only [List.length_set, List.length_map, List.length_range] at h2
    rw [List.getElem_set, List.getElem_map, List.getElem_map, List.getElem_range]
    by_cases e : r.toNat = i
    · rw [if_pos e]
      have : r = (i : Int) := by omega
      simp [this]
    · rw [if_neg e]
      have : (i : Int) ≠ r := by omega
      simp [this]
theorem spec_IsMixedList_l1 {N : Nat} {R : List Int} (hN : N ≤ 1000000) : ∀ (c i : Nat) (d : Bool), i + c = N → (d = true ↔ ∀ j : Nat, i ≤ j → j < N → (j : Int) ∈ R) → Ev (fun k => spec_IsMixedList.l1 k (seenL N R) (N : Int) (i : Int)) (d, true) := by
  intro c
  induction c with
  | zero =>
    intro i d hi hd
    refine ev_shift ?_
    simp only [spec_IsMixedList.l1]
    refine ev_neg (by omega) (ev_some ?_)
    rw [hd.2 (fun j h1 h2 => by omega)]
  | succ c ih =>
    intro i d hi hd
    have e1 : wrap64 ((i : Int) + 1) = ((i + 1 : Nat) : Int) := by rw [w64 (by omega) (by omega)]; omega
    have er : rdOf false (seenL N R) (i : Int) = R.contains (i : Int) := by
      unfold rdOf seenL
      rw [Int.toNat_natCast, List.getD_eq_getElem?_getD, List.getElem?_map, List.getElem?_range (by omega)]
      rfl
    refine ev_shift ?_
    simp only [spec_IsMixedList.l1, e1, er, seenL_len]
    refine ev_pos (by omega) (ev_pos (by omega) (ev_pos (by omega) ?_))
    by_cases h : R.contains (i : Int) = true
    · refine ev_pos h (ih (i + 1) d (by omega) ?_)
      rw [hd]
      constructor
      · intro h1 j h2 h3; exact h1 j (by omega) h3
      · intro h1 j h2 h3
        by_cases e : i = j
        · subst e; simpa using h
        · exact h1 j (by omega) h3
    · refine ev_neg h (ev_some ?_)
      cases d with
      | false => rfl
      | true => exact absurd (by simpa using hd.1 rfl i (Nat.le_refl _) (by omega)) h
theorem spec_IsMixedList_l0 {bs : List Int} (hb : areB bs = true) {ls : List (List Int)} (hN : (ls.length : Int) ≤ 1100) (hp : (ls.length : Int) = prod bs) (hr : ∀ l ∈ ls, l.length ≤ 2000000) :
    ∀ suf pre, ls = pre ++ suf → ∀ (pv : Option (List Int)) (R : List Int), (pre = [] ∧ pv = none ∨ ∃ q p, pre = q ++ [p] ∧ pv = some p ∧ digs bs p = true) →
      Ev (fun k => spec_IsMixedList.l0 k bs ls (seenL ls.length R) ls (ls.length : Int) (pre.length : Int)) (okT bs pv suf && decide (∀ j : Nat, j < ls.length → (j : Int) ∈ R ∨ (j : Int) ∈ suf.map (digR bs)), true) := by
  refine rangeL_ind (by omega) (fun pre suf => ∀ (pv : Option (List Int)) (R : List Int), (pre = [] ∧ pv = none ∨ ∃ q p, pre = q ++ [p] ∧ pv = some p ∧ digs bs p = true) →
      Ev (fun k => spec_IsMixedList.l0 k bs ls (seenL ls.length R) ls (ls.length : Int) (pre.length : Int)) (okT bs pv suf && decide (∀ j : Nat, j < ls.length → (j : Int) ∈ R ∨ (j : Int) ∈ suf.map (digR bs)), true)) ?_ ?_
  · intro pv R _
    refine ev_shift ?_
    simp only [spec_IsMixedList.l0, seenL_len]
    refine ev_neg (by omega) ?_
    simp only [okT, Bool.true_and, List.map_nil, List.not_mem_nil, or_false]
    exact spec_IsMixedList_l1 (N := ls.length) (R := R) (by omega) ls.length 0 _ (by omega) (by
      rw [decide_eq_true_eq]
      exact ⟨fun h j _ hj => h j hj, fun h j hj => h j (Nat.zero_le _) hj⟩)
  · intro pre x suf hh hx g1 g2 g3 ih pv R hpv
    have e : rd_L1 ls (pre.length : Int) = x := hx
    have hxl := hr x (by rw [hh]; simp)
    refine ev_shift ?_
    simp only [spec_IsMixedList.l0, e, g3, seenL_len]
    refine ev_pos g1 (ev_pos g2 (ev_pos g1 (ev_bind (spec_raAreDigits_ev bs x (bases_wf hb) (by omega)) ?_)))
    cases hd : digs bs x with
    | false =>
      refine ev_neg (by decide) (ev_some ?_)
      simp [okT, hd]
    | true =>
      refine ev_pos rfl ?_
      have hrk : rkgo 0 bs x = digR bs x := by
        have h1 := rkOf_eq hb hd
        unfold rkOf at h1
        rw [if_pos ⟨hb, hd⟩] at h1
        exact congrArg Prod.fst h1
      have hrg := digR_range hb hd
      have hnum := spec_raNumber_ev bs x hd (by omega)
      rw [hrk] at hnum
      have hgo : nextB pv x = true → Ev (fun k => (spec_raNumber.f k bs x).bind fun t => (if 0 ≤ t then (if t < (ls.length : Int) then (spec_IsMixedList.l0 k bs ls ((seenL ls.length R).set (t : Int).toNat true) ls (ls.length : Int) ((pre ++ [x]).length : Int)) else (none)) else (none))) (okT bs pv (x :: suf) && decide (∀ j : Nat, j < ls.length → (j : Int) ∈ R ∨ (j : Int) ∈ (x :: suf).map (digR bs)), true) := by
        intro hnx
        refine ev_bind hnum (ev_pos hrg.1 (ev_pos (by omega) ?_))
        rw [seenL_set hrg.1 (by omega)]
        have := ih (some x) (digR bs x :: R) (.inr ⟨pre, x, rfl, rfl, hd⟩)
        have e2 : (∀ j : Nat, j < ls.length → (j : Int) ∈ R ∨ (j : Int) ∈ (x :: suf).map (digR bs)) ↔ (∀ j : Nat, j < ls.length → (j : Int) ∈ digR bs x :: R ∨ (j : Int) ∈ suf.map (digR bs)) := by
          simp only [List.map_cons, List.mem_cons]
          constructor
          · intro h j hj
            rcases h j hj with h | h | h
            · exact .inl (.inr h)
            · exact .inl (.inl h)
            · exact .inr h
          · intro h j hj
            rcases h j hj with (h | h) | h
            · exact .inr (.inl h)
            · exact .inl h
            · exact .inr (.inr h)
        simp only [okT, hd, hnx, Bool.true_and]
        rw [decide_eq_decide.2 e2]
        exact this
      rcases hpv with ⟨rfl, rfl⟩ | ⟨q, p, rfl, rfl, hpd⟩
      · exact ev_neg (by simp) (hgo rfl)
      · have hql : ((q ++ [p]).length : Int) = (q.length : Int) + 1 := by simp
        have hlen : ls.length = q.length + 1 + (suf.length + 1) := by rw [hh]; simp; omega
        have hw : wrap64 (((q ++ [p]).length : Int) - 1) = (q.length : Int) := by rw [hql, w64 (by omega) (by omega)]; omega
        have e3 : rd_L1 ls (q.length : Int) = p := by
          have h1 := rdL_at q p (x :: suf)
          have h2 : ls = q ++ p :: (x :: suf) := by rw [hh]; simp
          rw [← h2] at h1
          exact h1
        have hpx : p.length = x.length := by rw [digs_length hpd, digs_length hd]
        have ha := (areB_iff.1 hb).2.1
        rw [hw, e3]
        refine ev_pos (by rw [hql]; omega) (ev_pos (by omega) (ev_pos (by omega) (ev_bind (spec_gcStep_F p x hpx (by omega) (dig_small ha hpd) (dig_small ha hd)) ?_)))
        have hg := gsF_one (a := p) (b := x) (i := 0) hpx (Int.le_refl _)
        by_cases c : chg x p = 1
        · refine ev_neg (by have := hg.2 (by rw [chg_comm]; exact c); omega) (hgo ?_)
          simp only [nextB, decide_eq_true_eq]; exact c
        · refine ev_pos (by
            have : ¬ 0 ≤ gsF (-1) 0 p x := fun h => c (by rw [chg_comm]; exact hg.1 h)
            omega) (ev_some ?_)
          have : nextB (some p) x = false := by simp only [nextB, decide_eq_false_iff_not]; exact c
          simp [okT, this]
theorem spec_IsMixedList_ev (bs : List Int) (ls : List (List Int)) (hl : bs.length ≤ 9000000000000000000) (hr : ∀ l ∈ ls, l.length ≤ 2000000) : Ev (fun k => spec_IsMixedList.f k bs ls) (imP bs ls) := by
  unfold spec_IsMixedList.f
  refine ev_bind (spec_raBases_ev bs hl) ?_
  unfold imP
  cases hb : areB bs with
  | false =>
    rw [if_neg (by simp)]
    refine ev_neg (by decide) (ev_shift ?_)
    simp only [spec_IsMixedList.j0]
    exact ev_pos trivial (ev_some rfl)
  | true =>
    refine ev_pos rfl (ev_shift ?_)
    simp only [spec_IsMixedList.j0]
    by_cases hL : (ls.length : Int) ≤ 1100
    · rw [if_pos ⟨trivial, hL⟩, decide_eq_false (show ¬ (ls.length : Int) > 1100 by omega)]
      refine ev_neg (by decide) (ev_bind (spec_raProduct_ev bs hb) ?_)
      by_cases hp : (ls.length : Int) = prod bs
      · rw [if_pos hp]
        refine ev_pos hp (ev_pos (by omega) (ev_pos (by rw [Int.toNat_natCast]; omega) ?_))
        have e0 : List.replicate ((ls.length : Int)).toNat false = seenL ls.length [] := by
          rw [Int.toNat_natCast]
          unfold seenL
          apply List.ext_getElem
          · simp
          · intro i h1 h2
            simp
        rw [e0, ok_same hb hp]
        have := spec_IsMixedList_l0 hb hL hp hr ls [] rfl none [] (.inl ⟨rfl, rfl⟩)
        simp only [List.not_mem_nil, false_or] at this
        exact this
      · rw [if_neg hp]
        exact ev_neg hp (ev_some rfl)
    · rw [if_neg (fun c => hL c.2), decide_eq_true (show (ls.length : Int) > 1100 by omega)]
      exact ev_pos rfl (ev_some rfl)
theorem FnExactIsMixedList (l0 : List Int) (l1 : List (List Int)) (h0 : l0.length ≤ maxLen) (h1 : l1.length ≤ maxLen) (h2 : ∀ x ∈ l1, x.length ≤ maxLen) : ∃ k, laws_FnExactIsMixedList.f k l0 l1 = some true := by
  have hm : maxLen ≤ 9223372036854775807 := by unfold maxLen; omega
  apply ev_le
  unfold laws_FnExactIsMixedList.f
  by_cases hb : (l0.length : Int) > 1048576
  · exact ev_pos hb (ev_some rfl)
  obtain ⟨t, ht, hc⟩ := laws_szIntSS_ev l1 (by omega) (fun x hx => by have := h2 x hx; omega)
  refine ev_neg hb (ev_bind ht ?_)
  rcases hc with hc | ⟨hc, hl1, hl2⟩
  · exact ev_pos hc (ev_some rfl)
  · have h3 := laws_toIntS_ev l0 (by omega)
    have h4 := laws_toIntSS_id l1 hl1 hl2
    have hs := spec_IsMixedList_ev l0 l1 (by omega) (fun x hx => by have := hl2 x hx; omega)
    have hi : impl_IsMixedList.f l0 l1 = some (imP l0 l1) := by
      unfold impl_IsMixedList.f
      exact if_pos ⟨by omega, by omega, fun x hx => by have := hl2 x hx; omega⟩
    refine ev_neg (by omega) (ev_bind h3 (ev_bind h4 (ev_bind hs (ev_bind h3 (ev_bind h4 (ev_bind0 hi (ev_neg neq_self ?_)))))))
    rw [bne_self_eq_false]
    refine ev_shift ?_
    simp only [laws_FnExactIsMixedList.j0]
    exact ev_neg (by decide) (ev_bind h3 (ev_bind (laws_eqIntS_ev l0 (by omega)) (ev_pos rfl (ev_bind h4 (ev_bind (laws_eqIntSS_ev l1 (by omega) (fun x hx => by have := hl2 x hx; omega)) (ev_pos rfl (ev_some rfl)))))))

end Go.Proofs.Ytjkfihbfihlmiaa.Pure
