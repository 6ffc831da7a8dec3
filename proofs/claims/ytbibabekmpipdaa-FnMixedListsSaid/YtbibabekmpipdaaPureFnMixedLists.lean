/- The law FnMixedLists returns true for every two lists of bytes (reach as the row says); no condition of ours. -/
import Derived.Test.YtbibabekmpipdaaQFnMixedListsx12
import Derived.Test.YtbibabekmpipdaaMth
import Derived.Test.YtbibabekmpipdaaMthDigits
import Derived.Test.YtbibabekmpipdaaMthGray
import Derived.Test.YtbibabekmpipdaaMthMixList
set_option linter.unusedVariables false
set_option linter.unusedSimpArgs false
namespace Go.Proofs.Ytbibabekmpipdaa.Pure
open Go.RowKit Go.Proofs.Ytbibabekmpipdaa.Mth Go.Proofs.Ytbibabekmpipdaa.PFnMixedLists Go.Proofs.YtbibabekmpipdaaW.PrintWords Go.Proofs.YtbibabekmpipdaaW.PrintLast

theorem wrapU (n : Int) : IntKind.u64.wrap n = n % 18446744073709551616 := by simp [IntKind.wrap, IntKind.bits, IntKind.signed]
def wfB (c : List Int) : Prop := c.length ≤ 1048576 ∧ ∀ x ∈ c, 0 ≤ x ∧ x ≤ 255
theorem wfB_of {c : List Int} (h0 : c.length ≤ 1048576) (h : ∀ x ∈ c, (Lit.int .u8 x).wf = true) : wfB c := by
  refine ⟨h0, fun x hx => ?_⟩
  have := h x hx
  simp only [Lit.wf, Bool.and_eq_true, decide_eq_true_eq] at this
  have e0 : IntKind.min .u8 = 0 := by decide
  have e1 : IntKind.max .u8 = 255 := by decide
  omega
theorem byte_of (x : Int) : 0 ≤ wrap64 (Go.bits .and .u64 ((IntKind.u64.wrap x) / 1099511627776) 255) ∧ wrap64 (Go.bits .and .u64 ((IntKind.u64.wrap x) / 1099511627776) 255) ≤ 255 := by
  have h1 : 0 ≤ IntKind.u64.wrap x / 1099511627776 ∧ IntKind.u64.wrap x / 1099511627776 < 2 ^ 24 := by rw [wrapU]; omega
  have h2 := Go.bits_mask .u64 24 (by decide) (fun n a b => by rw [wrapU]; omega) 8 (by decide) _ h1.1 h1.2
  have h3 : Go.bits .and .u64 ((IntKind.u64.wrap x) / 1099511627776) 255 = (IntKind.u64.wrap x) / 1099511627776 % 2 ^ 8 := h2
  rw [h3, w64 (by omega) (by omega)]
  omega
theorem dr_next {c : List Int} (hc : wfB c) {a : Int} (s : Int) (h0 : 0 ≤ a) (h1 : a ≤ 4000000000000000000) : ∃ r s', spec_l1Cur_next.f c a s = some (r, a + 1, s') ∧ 0 ≤ r ∧ r ≤ 255 := by
  have hl := hc.1
  unfold spec_l1Cur_next.f
  have e : wrap64 (a + 1) = a + 1 := w64 (by omega) (by omega)
  rw [e]
  by_cases h : a < (c.length : Int)
  · rw [if_pos h, if_pos h0, if_pos (by omega)]
    obtain ⟨n, rfl⟩ := Int.eq_ofNat_of_zero_le h0
    have hm := hc.2 _ (rd_mem (l := c) (j := n) (by omega))
    exact ⟨_, _, rfl, by rw [w64 (by omega) (by omega)]; omega, by rw [w64 (by omega) (by omega)]; omega⟩
  · rw [if_neg h, if_neg (by omega)]
    exact ⟨_, _, rfl, (byte_of _).1, (byte_of _).2⟩
theorem dr_pick {c : List Int} (hc : wfB c) {a : Int} (s n : Int) (h0 : 0 ≤ a) (h1 : a ≤ 3999999999999999999) : ∃ r a' s', spec_l1Cur_pick.f c a s n = some (r, a', s') ∧ a ≤ a' ∧ a' ≤ a + 2 ∧ 0 ≤ r ∧ (n ≤ 1 → r = 0) ∧ (1 < n → r < n) := by
  unfold spec_l1Cur_pick.f
  by_cases hn : n ≤ 1
  · rw [if_pos hn]
    exact ⟨0, a, s, rfl, by omega, by omega, by omega, fun _ => rfl, fun h => by omega⟩
  · rw [if_neg hn]
    obtain ⟨x, s1, e1, x0, x1⟩ := dr_next hc s h0 (by omega)
    rw [e1]
    simp only [Option.bind_some]
    by_cases hb : n > 200
    · rw [if_pos hb]
      obtain ⟨y, s2, e2, y0, y1⟩ := dr_next hc s1 (a := a + 1) (by omega) (by omega)
      rw [e2]
      simp only [Option.bind_some]
      rw [if_neg (by omega), w64 (x := x * 256) (by omega) (by omega), w64 (by omega) (by omega)]
      rw [Int.tmod_eq_emod_of_nonneg (by omega)]
      have g0 := Int.emod_nonneg (x * 256 + y) (b := n) (by omega)
      have g1 := Int.emod_lt_of_pos (x * 256 + y) (b := n) (by omega)
      exact ⟨_, _, _, rfl, by omega, by omega, g0, fun h => by omega, fun _ => g1⟩
    · rw [if_neg hb, if_neg (by omega)]
      rw [Int.tmod_eq_emod_of_nonneg (by omega)]
      have g0 := Int.emod_nonneg x (b := n) (by omega)
      have g1 := Int.emod_lt_of_pos x (b := n) (by omega)
      exact ⟨_, _, _, rfl, by omega, by omega, g0, fun h => by omega, fun _ => g1⟩
theorem laws_big_eq (c m : List Int) (hc : ∀ x ∈ c, (Lit.int .u8 x).wf = true) (hm : ∀ x ∈ m, (Lit.int .u8 x).wf = true) (hl : c.length ≤ 9000000000000000000) : laws_big.f c m = some true ∨ (laws_big.f c m = some false ∧ wfB c ∧ wfB m) := by
  unfold laws_big.f
  by_cases h : (c.length : Int) > 1048576
  · exact .inl (if_pos h)
  · rw [if_neg h, w64 (by omega) (by omega)]
    by_cases h2 : (m.length : Int) > 1048576 - (c.length : Int)
    · rw [decide_eq_true h2]; exact .inl rfl
    · rw [decide_eq_false h2]; exact .inr ⟨rfl, wfB_of (by omega) hc, wfB_of (by omega) hm⟩
theorem dr_among {c : List Int} (hc : wfB c) {a : Int} (s : Int) (l : List Int) (hl : 0 < l.length) (h0 : 0 ≤ a) (h1 : a ≤ 3999999999999999999) : ∃ r a' s', spec_l1Cur_among.f c a s l = some (r, a', s') ∧ a ≤ a' ∧ a' ≤ a + 2 ∧ r ∈ l := by
  unfold spec_l1Cur_among.f
  obtain ⟨r, a', s', e, h2, h3, h4, h5, h6⟩ := dr_pick hc s (l.length : Int) h0 h1
  rw [e]
  simp only [Option.bind_some]
  have hr : r < (l.length : Int) := by
    by_cases h : (l.length : Int) ≤ 1
    · have := h5 h; omega
    · exact h6 (by omega)
  rw [if_pos h4, if_pos hr]
  obtain ⟨n, rfl⟩ := Int.eq_ofNat_of_zero_le h4
  exact ⟨_, _, _, rfl, h2, h3, rd_mem (by omega)⟩
theorem dr_bases_l1 (c : List Int) (n : Nat) : ∀ (l : List Int) (a s : Int), l.length + n ≤ 100 → n ≤ 50 → ∃ l', Ev (fun k => spec_l1Cur_bases.l1 k l (n : Int) c a s) (l', a, s) ∧ l'.length ≤ 100 ∧ (∀ x ∈ l', x ∈ l ∨ (-3 ≤ x ∧ x ≤ 13)) := by
  induction n with
  | zero =>
    intro l a s h _
    refine ⟨l, ev_shift ?_, by omega, fun x hx => .inl hx⟩
    simp only [spec_l1Cur_bases.l1]
    exact ev_neg (by omega) (ev_some rfl)
  | succ n ih =>
    intro l a s h h'
    obtain ⟨l', g1, g2, g3⟩ := ih (l ++ [12]) a s (by simp; omega) (by omega)
    refine ⟨l', ev_shift ?_, g2, fun x hx => ?_⟩
    · simp only [spec_l1Cur_bases.l1]
      rw [show wrap64 (((n + 1 : Nat) : Int) - 1) = (n : Int) by rw [w64 (by omega) (by omega)]; omega]
      exact ev_pos (by omega) (ev_pos (by omega) g1)
    · rcases g3 x hx with h2 | h2
      · rcases List.mem_append.1 h2 with h3 | h3
        · exact .inl h3
        · simp only [List.mem_singleton] at h3; exact .inr (by omega)
      · exact .inr h2
theorem dr_bases_l2 (c : List Int) (n : Nat) : ∀ (l : List Int) (a s : Int), l.length + n ≤ 100 → n ≤ 50 → ∃ l', Ev (fun k => spec_l1Cur_bases.l2 k l (n : Int) c a s) (l', a, s) ∧ l'.length ≤ 100 ∧ (∀ x ∈ l', x ∈ l ∨ (-3 ≤ x ∧ x ≤ 13)) := by
  induction n with
  | zero =>
    intro l a s h _
    refine ⟨l, ev_shift ?_, by omega, fun x hx => .inl hx⟩
    simp only [spec_l1Cur_bases.l2]
    exact ev_neg (by omega) (ev_some rfl)
  | succ n ih =>
    intro l a s h h'
    obtain ⟨l', g1, g2, g3⟩ := ih (l ++ [2]) a s (by simp; omega) (by omega)
    refine ⟨l', ev_shift ?_, g2, fun x hx => ?_⟩
    · simp only [spec_l1Cur_bases.l2]
      rw [show wrap64 (((n + 1 : Nat) : Int) - 1) = (n : Int) by rw [w64 (by omega) (by omega)]; omega]
      exact ev_pos (by omega) (ev_pos (by omega) g1)
    · rcases g3 x hx with h2 | h2
      · rcases List.mem_append.1 h2 with h3 | h3
        · exact .inl h3
        · simp only [List.mem_singleton] at h3; exact .inr (by omega)
      · exact .inr h2
theorem dr_bases_l0 {c : List Int} (hc : wfB c) (n : Nat) : ∀ (l : List Int) (a s : Int), l.length + n ≤ 40 → (∀ x ∈ l, -3 ≤ x ∧ x ≤ 13) → 0 ≤ a → a + 2 * (n : Int) ≤ 3999999999999998900 → ∃ l' a' s', Ev (fun k => spec_l1Cur_bases.l0 k l (n : Int) c a s) (l', a', s') ∧ a ≤ a' ∧ a' ≤ a + 2 * (n : Int) + 6 ∧ l'.length ≤ 100 ∧ (∀ x ∈ l', -3 ≤ x ∧ x ≤ 13) := by
  induction n with
  | zero =>
    intro l a s h hl h0 h1
    obtain ⟨x, a1, s1, e1, u2, u3, u4, u5, u6⟩ := dr_pick hc s 20 h0 (by omega)
    by_cases c0 : x = 0
    · obtain ⟨r, a2, s2, e2, g2, g3, g4⟩ := dr_among hc s1 [0, 1, -3, 12, 13] (by decide) (a := a1) (by omega) (by omega)
      refine ⟨l ++ [r], a2, s2, ev_shift ?_, by omega, by omega, by simp; omega, ?_⟩
      · simp only [spec_l1Cur_bases.l0]
        exact ev_neg (by omega) (ev_bind0 e1 (ev_pos c0 (ev_bind0 e2 (ev_pos (by omega) (ev_some rfl)))))
      · intro y hy
        rcases List.mem_append.1 hy with h3 | h3
        · exact hl y h3
        · simp only [List.mem_singleton] at h3
          simp only [List.mem_cons, List.not_mem_nil, or_false] at g4
          omega
    by_cases c1 : x = 1
    · obtain ⟨r, a2, s2, e2, g2, g3, g4, g5, g6⟩ := dr_pick hc s1 3 (a := a1) (by omega) (by omega)
      have := g6 (by decide)
      obtain ⟨m, rfl⟩ := Int.eq_ofNat_of_zero_le g4
      obtain ⟨l', k1, k2, k3⟩ := dr_bases_l1 c (5 + m) l a2 s2 (by omega) (by omega)
      refine ⟨l', a2, s2, ev_shift ?_, by omega, by omega, by omega, ?_⟩
      · simp only [spec_l1Cur_bases.l0]
        refine ev_neg (by omega) (ev_bind0 e1 (ev_neg c0 (ev_pos c1 (ev_bind0 e2 ?_))))
        dsimp only
        rw [show wrap64 (5 + (m : Int)) = ((5 + m : Nat) : Int) by rw [w64 (by omega) (by omega)]; omega]
        exact k1
      · intro y hy
        rcases k3 y hy with h3 | h3
        · exact hl y h3
        · exact h3
    by_cases c2 : x = 2
    · obtain ⟨r, a2, s2, e2, g2, g3, g4, g5, g6⟩ := dr_pick hc s1 2 (a := a1) (by omega) (by omega)
      have := g6 (by decide)
      obtain ⟨m, rfl⟩ := Int.eq_ofNat_of_zero_le g4
      obtain ⟨l', k1, k2, k3⟩ := dr_bases_l2 c (12 + m) [] a2 s2 (by simp; omega) (by omega)
      refine ⟨l', a2, s2, ev_shift ?_, by omega, by omega, by omega, ?_⟩
      · simp only [spec_l1Cur_bases.l0]
        refine ev_neg (by omega) (ev_bind0 e1 (ev_neg c0 (ev_neg c1 (ev_pos c2 (ev_bind0 e2 ?_)))))
        dsimp only
        rw [show wrap64 (12 + (m : Int)) = ((12 + m : Nat) : Int) by rw [w64 (by omega) (by omega)]; omega]
        exact k1
      · intro y hy
        rcases k3 y hy with h3 | h3
        · simp at h3
        · exact h3
    · refine ⟨l, a1, s1, ev_shift ?_, by omega, by omega, by omega, hl⟩
      simp only [spec_l1Cur_bases.l0]
      exact ev_neg (by omega) (ev_bind0 e1 (ev_neg c0 (ev_neg c1 (ev_neg c2 (ev_some rfl)))))
  | succ n ih =>
    intro l a s h hl h0 h1
    obtain ⟨x, a1, s1, e1, u2, u3, u4, u5, u6⟩ := dr_pick hc s 4 h0 (by omega)
    have := u6 (by decide)
    obtain ⟨l', a', s', k1, k2, k3, k4, k5⟩ := ih (l ++ [2 + x]) a1 s1 (by simp; omega) (by
      intro y hy
      rcases List.mem_append.1 hy with h3 | h3
      · exact hl y h3
      · simp only [List.mem_singleton] at h3; omega) (by omega) (by omega)
    refine ⟨l', a', s', ev_shift ?_, by omega, by omega, k4, k5⟩
    simp only [spec_l1Cur_bases.l0]
    refine ev_pos (by omega) (ev_bind0 e1 (ev_pos (by omega) ?_))
    dsimp only
    rw [show wrap64 (((n + 1 : Nat) : Int) - 1) = (n : Int) by rw [w64 (by omega) (by omega)]; omega, w64 (x := 2 + x) (by omega) (by omega)]
    exact k1
theorem dr_bases {c : List Int} (hc : wfB c) (m : Int) (hm0 : 0 ≤ m) (hm : m ≤ 20) (a s : Int) (h0 : 0 ≤ a) (h1 : a ≤ 3999999999999990000) : ∃ l' a' s', Ev (fun k => spec_l1Cur_bases.f k c a s m) (l', a', s') ∧ a ≤ a' ∧ a' ≤ a + 60 ∧ l'.length ≤ 100 ∧ (∀ x ∈ l', -3 ≤ x ∧ x ≤ 13) := by
  unfold spec_l1Cur_bases.f
  rw [w64 (by omega) (by omega)]
  obtain ⟨x, a1, s1, e1, u2, u3, u4, u5, u6⟩ := dr_pick hc s (m + 1) h0 (by omega)
  have hx : x ≤ 20 := by
    by_cases h : m + 1 ≤ 1
    · have := u5 h; omega
    · have := u6 (by omega); omega
  obtain ⟨n, rfl⟩ := Int.eq_ofNat_of_zero_le u4
  obtain ⟨l', a', s', k1, k2, k3, k4, k5⟩ := dr_bases_l0 hc n [] a1 s1 (by simp; omega) (by simp) (by omega) (by omega)
  exact ⟨l', a', s', ev_bind0 e1 k1, by omega, by omega, k4, k5⟩
theorem spec_l1In_eq (a b c : Int) : spec_l1In.f a b c = some (inR a b c) := in_ite a b c
theorem spec_l1All_ev (l : List Int) (lo hi : Int) (hl : l.length ≤ 9000000000000000000) : Ev (fun k => spec_l1All.f k l lo hi) (allIn l lo hi) := by
  refine range_all hl (fun pre suf => Ev (fun k => spec_l1All.l0 k lo hi l (l.length : Int) (pre.length : Int)) (allIn suf lo hi)) ?_ ?_
  · refine ev_shift ?_
    simp only [spec_l1All.l0]
    exact ev_neg (by omega) (ev_some rfl)
  · intro pre x suf h hx h1 h2 h3 ih
    refine ev_shift ?_
    simp only [spec_l1All.l0, hx, h3, spec_l1In_eq, Option.bind_some, allIn_cons]
    refine ev_pos h1 (ev_pos h2 (ev_pos h1 ?_))
    cases inR x lo hi with
    | true => exact ev_pos rfl ih
    | false => exact ev_neg (by simp) (ev_some rfl)
theorem spec_raProduct_F (l : List Int) (h : allIn l 2 12 = true) (hl : l.length ≤ 9000000000000000000) : Ev (fun k => spec_raProduct.f k l) (prF 1 l) := by
  have hge := allIn_iff.1 h
  have key : ∀ suf pre, l = pre ++ suf → ∀ acc : Int, 1 ≤ acc → acc ≤ 1000000 → Ev (fun k => spec_raProduct.l0 k acc l (l.length : Int) (pre.length : Int)) (prF acc suf) := by
    refine range_ind hl (fun pre suf => ∀ acc : Int, 1 ≤ acc → acc ≤ 1000000 → Ev (fun k => spec_raProduct.l0 k acc l (l.length : Int) (pre.length : Int)) (prF acc suf)) ?_ ?_
    · intro acc _ _
      refine ev_shift ?_
      simp only [spec_raProduct.l0]
      exact ev_neg (by omega) (ev_some rfl)
    · intro pre x suf hh hx h1 h2 h3 ih acc a0 a1
      have hx0 := hge x (by rw [hh]; simp)
      have hm := acc_mul a0 (by omega) hx0.1 hx0.2
      refine ev_shift ?_
      simp only [spec_raProduct.l0, hx, h3]
      rw [w64 (by omega) (by omega)]
      refine ev_pos h1 (ev_pos h2 (ev_pos h1 ?_))
      simp only [prF]
      by_cases hc : acc * x > 1000000
      · rw [if_pos hc]; exact ev_pos hc (ev_some rfl)
      · rw [if_neg hc]; exact ev_neg hc (ih _ (by omega) (by omega))
  exact key l [] rfl 1 (by omega) (by omega)
theorem spec_raProduct_ev (l : List Int) (h : areB l = true) : Ev (fun k => spec_raProduct.f k l) (prod l) := by
  have h' := areB_iff.1 h
  have := spec_raProduct_F l h'.2.1 (by omega)
  rw [(prF_eq h'.2.1 1 (by omega) (by omega)).1 (by rw [Int.one_mul]; exact h'.2.2), Int.one_mul] at this
  exact this
theorem spec_raBases_ev (l : List Int) (hl : l.length ≤ 9000000000000000000) : Ev (fun k => spec_raBases.f k l) (areB l) := by
  unfold spec_raBases.f areB
  by_cases hlen : (l.length : Int) ≤ 12
  · refine ev_pos hlen (ev_bind (spec_l1All_ev l 2 12 hl) ?_)
    cases ha : allIn l 2 12 with
    | false => exact ev_neg (by simp) (ev_some (by simp))
    | true =>
      refine ev_pos rfl (ev_bind (spec_raProduct_F l ha hl) (ev_some ?_))
      obtain ⟨g1, g2⟩ := prF_eq ha 1 (by omega) (by omega)
      rw [Int.one_mul] at g1 g2
      rw [decide_eq_true hlen, Bool.true_and, Bool.true_and]
      by_cases hp : prod l ≤ 1000000
      · rw [g1 hp]
      · have := g2 hp
        rw [decide_eq_false hp, decide_eq_false (by omega)]
  · exact ev_neg hlen (ev_some (by rw [decide_eq_false hlen]; rfl))
theorem impl_within_eq (a b c : Int) : impl_within.f a b c = some (inR a b c) := in_ite a b c
theorem impl_allWithin_ev (l : List Int) (lo hi : Int) (hl : l.length ≤ 9000000000000000000) : Ev (fun k => impl_allWithin.f k l lo hi) (allIn l lo hi) := by
  refine range_all hl (fun pre suf => Ev (fun k => impl_allWithin.l0 k lo hi l (l.length : Int) (pre.length : Int)) (allIn suf lo hi)) ?_ ?_
  · refine ev_shift ?_
    simp only [impl_allWithin.l0]
    exact ev_neg (by omega) (ev_some rfl)
  · intro pre x suf h hx h1 h2 h3 ih
    refine ev_shift ?_
    simp only [impl_allWithin.l0, hx, h3, impl_within_eq, Option.bind_some, allIn_cons]
    refine ev_pos h1 (ev_pos h2 (ev_pos h1 ?_))
    cases inR x lo hi with
    | true => exact ev_pos rfl ih
    | false => exact ev_neg (by simp) (ev_some rfl)
theorem impl_size_F (l : List Int) (h : allIn l 2 12 = true) (hl : l.length ≤ 9000000000000000000) : Ev (fun k => impl_size.f k l) (sizeF 1 l) := by
  have hge := allIn_iff.1 h
  have key : ∀ suf pre, l = pre ++ suf → ∀ acc : Int, 1 ≤ acc → acc ≤ 1000001 → Ev (fun k => impl_size.l0 k acc l (l.length : Int) (pre.length : Int)) (sizeF acc suf) := by
    refine range_ind hl (fun pre suf => ∀ acc : Int, 1 ≤ acc → acc ≤ 1000001 → Ev (fun k => impl_size.l0 k acc l (l.length : Int) (pre.length : Int)) (sizeF acc suf)) ?_ ?_
    · intro acc _ _
      refine ev_shift ?_
      simp only [impl_size.l0]
      exact ev_neg (by omega) (ev_some rfl)
    · intro pre x suf hh hx h1 h2 h3 ih acc a0 a1
      have hx0 := hge x (by rw [hh]; simp)
      have hm := acc_mul a0 a1 hx0.1 hx0.2
      refine ev_shift ?_
      simp only [impl_size.l0, hx, h3]
      rw [w64 (by omega) (by omega)]
      refine ev_pos h1 (ev_pos h2 (ev_pos h1 ?_))
      simp only [sizeF]
      refine ih _ ?_ ?_
      · unfold mn; split <;> omega
      · unfold mn; split <;> omega
  exact key l [] rfl 1 (by omega) (by omega)
theorem impl_size_ev (l : List Int) (h : areB l = true) : Ev (fun k => impl_size.f k l) (prod l) := by
  have h' := areB_iff.1 h
  have := impl_size_F l h'.2.1 (by omega)
  rw [sizeF_eq h'.2.1 1 (by omega) (by omega), Int.one_mul, if_pos h'.2.2] at this
  exact this
theorem impl_areBases_ev (l : List Int) (hl : l.length ≤ 9000000000000000000) : Ev (fun k => impl_areBases.f k l) (areB l) := by
  unfold impl_areBases.f areB
  by_cases hlen : (l.length : Int) ≤ 12
  · refine ev_pos hlen (ev_bind (impl_allWithin_ev l 2 12 hl) ?_)
    cases ha : allIn l 2 12 with
    | false => exact ev_neg (by simp) (ev_some (by simp))
    | true =>
      refine ev_pos rfl (ev_bind (impl_size_F l ha hl) (ev_some ?_))
      rw [sizeF_eq ha 1 (by omega) (by omega), Int.one_mul]
      rw [decide_eq_true hlen, Bool.true_and, Bool.true_and]
      by_cases hp : prod l ≤ 1000000
      · rw [if_pos hp]
      · rw [if_neg hp, decide_eq_false hp]; decide
  · exact ev_neg hlen (ev_some (by rw [decide_eq_false hlen]; rfl))
theorem spec_gcMixed_ev (bs : List Int) : ∀ r : Int, areB bs = true → 0 ≤ r → r < prod bs → Ev (fun k => spec_gcMixed.f k bs r) (mixL bs r) := by
  induction bs with
  | nil =>
    intro r _ _ _
    refine ev_shift ?_
    simp only [spec_gcMixed.f]
    exact ev_pos rfl (ev_some rfl)
  | cons b bs ih =>
    intro r hb h0 h1
    obtain ⟨hb1, hp1, hp2, hp3, hb2⟩ := areB_head hb
    have hlen := (areB_iff.1 hb).1
    simp only [List.length_cons] at hlen
    have hm := mod_range (r := r) hp1
    have hd := div_range hp1 h0 (show r < b * prod bs from h1)
    refine ev_shift ?_
    simp only [spec_gcMixed.f, List.drop_succ_cons, List.drop_zero, List.length_cons]
    refine ev_neg (by omega) (ev_pos (by omega) (ev_bind (spec_raProduct_ev bs hb2) (ev_neg (by omega) ?_)))
    rw [Int.tdiv_eq_ediv_of_nonneg h0, Int.tmod_eq_emod_of_nonneg h0]
    rw [w64 (x := r / prod bs) (by omega) (by omega), Int.tmod_eq_emod_of_nonneg hd.1]
    have hml : ∀ q : Int, (mixL bs q).length = bs.length := mixL_length bs
    by_cases hodd : r / prod bs % 2 = 1
    · refine ev_pos hodd ?_
      simp only [Option.bind_some]
      rw [w64 (x := prod bs - 1) (by omega) (by omega), w64 (by omega) (by omega)]
      refine ev_bind (ih _ hb2 (by omega) (by omega)) (ev_pos (by simp [hml]; omega) (ev_some ?_))
      simp only [mixL, if_pos hodd]; rfl
    · refine ev_neg hodd ?_
      simp only [Option.bind_some]
      refine ev_bind (ih _ hb2 (by omega) (by omega)) (ev_pos (by simp [hml]; omega) (ev_some ?_))
      simp only [mixL, if_neg hodd]; rfl
theorem impl_mixedAt_ev (bs : List Int) (r : Int) (hb : areB bs = true) (h0 : 0 ≤ r) (h1 : r < prod bs) : Ev (fun k => impl_mixedAt.f k bs r) (mixL bs r) := by
  have hlen := (areB_iff.1 hb).1
  have key : ∀ suf pre, bs = pre ++ suf → ∀ (r : Int) (out : List Int), 0 ≤ r → r < prod suf → out.length = pre.length → Ev (fun k => impl_mixedAt.l0 k bs r out bs (bs.length : Int) (pre.length : Int)) (out ++ mixL suf r) := by
    refine range_ind (by omega) (fun pre suf => ∀ (r : Int) (out : List Int), 0 ≤ r → r < prod suf → out.length = pre.length → Ev (fun k => impl_mixedAt.l0 k bs r out bs (bs.length : Int) (pre.length : Int)) (out ++ mixL suf r)) ?_ ?_
    · intro r out _ _ _
      refine ev_shift ?_
      simp only [impl_mixedAt.l0]
      exact ev_neg (by omega) (ev_some (by simp [mixL]))
    · intro pre b suf hh hx a1 a2 a3 ih r out h0 h1 ho
      have hd0 := areB_drop hb pre.length
      rw [hh, List.drop_left' rfl] at hd0
      obtain ⟨hb1, hp1, hp2, hp3, hb2⟩ := areB_head hd0
      have hm := mod_range (r := r) hp1
      have hd := div_range hp1 h0 (show r < b * prod suf from h1)
      have hdrop : bs.drop ((pre ++ [b]).length : Int).toNat = suf := by
        rw [hh, show pre ++ b :: suf = (pre ++ [b]) ++ suf by simp, Int.toNat_natCast, List.drop_left' rfl]
      have hbl : bs.length = pre.length + suf.length + 1 := by rw [hh]; simp; omega
      refine ev_shift ?_
      simp only [impl_mixedAt.l0, hx, a3, hdrop]
      refine ev_pos a1 (ev_pos a2 (ev_pos a1 (ev_pos (by omega) (ev_pos (by simp; omega) (ev_bind (impl_size_ev suf hb2) (ev_neg (by omega) ?_))))))
      rw [Int.tdiv_eq_ediv_of_nonneg h0, Int.tmod_eq_emod_of_nonneg h0]
      rw [w64 (x := r / prod suf) (by omega) (by omega), Int.tmod_eq_emod_of_nonneg hd.1, w64 (x := b - 1) (by omega) (by omega)]
      have emn : mn (r / prod suf) (b - 1) = r / prod suf := by unfold mn; rw [if_neg (by omega)]
      rw [emn]
      by_cases hodd : r / prod suf % 2 = 1
      · refine ev_pos hodd (ev_pos (by omega) ?_)
        rw [w64 (x := prod suf - 1) (by omega) (by omega), w64 (by omega) (by omega)]
        have := ih (prod suf - 1 - r % prod suf) (out ++ [r / prod suf]) (by omega) (by omega) (by simp [ho])
        simp only [mixL, if_pos hodd]
        simpa using this
      · refine ev_neg hodd (ev_pos (by omega) ?_)
        have := ih (r % prod suf) (out ++ [r / prod suf]) (by omega) (by omega) (by simp [ho])
        simp only [mixL, if_neg hodd]
        simpa using this
  exact key bs [] rfl r [] h0 h1 rfl
theorem dr_zeros (bs : List Int) (hb : areB bs = true) : ∃ d, Ev (fun k => spec_raDigits.f k bs 0) d ∧ d.length = bs.length := by
  have hb' := areB_iff.1 hb
  have ha := allIn_iff.1 hb'.2.1
  unfold spec_raDigits.f
  have key : ∀ c : Nat, c ≤ bs.length → ∀ (x : Int) (out : List Int), 0 ≤ x → x ≤ 1000000 → out.length = bs.length → ∃ d, Ev (fun k => spec_raDigits.l0 k bs x out ((c : Int) - 1)) d ∧ d.length = bs.length := by
    intro c
    induction c with
    | zero =>
      intro _ x out _ _ ho
      refine ⟨out, ev_shift ?_, ho⟩
      simp only [spec_raDigits.l0]
      exact ev_neg (by decide) (ev_some rfl)
    | succ c ih =>
      intro hc x out hx0 hx1 ho
      have e1 : ((c + 1 : Nat) : Int) - 1 = (c : Int) := by omega
      have e2 : wrap64 ((c : Int) - 1) = (c : Int) - 1 := w64 (by omega) (by omega)
      have hm := ha _ (rd_mem (l := bs) (j := c) (by omega))
      have hq : 0 ≤ Int.tdiv x (rd bs (c : Int)) ∧ Int.tdiv x (rd bs (c : Int)) ≤ 1000000 := by
        rw [Int.tdiv_eq_ediv_of_nonneg hx0]
        exact ⟨Int.ediv_nonneg hx0 (by omega), Int.le_trans (Int.ediv_le_self _ hx0) hx1⟩
      obtain ⟨d, h1, h2⟩ := ih (by omega) (Int.tdiv x (rd bs (c : Int))) (out.set ((c : Int)).toNat (Int.tmod x (rd bs (c : Int)))) hq.1 hq.2 (by simp [ho])
      refine ⟨d, ev_shift ?_, h2⟩
      rw [e1]
      simp only [spec_raDigits.l0, e2]
      rw [w64 (by omega) (by omega)]
      exact ev_pos (by omega) (ev_pos (by omega) (ev_pos (by omega) (ev_neg (by omega) (ev_pos (by omega) h1))))
  obtain ⟨d, h1, h2⟩ := key bs.length (Nat.le_refl _) 0 (List.replicate bs.length 0) (by omega) (by omega) (by simp)
  refine ⟨d, ev_pos (by omega) (ev_pos (by rw [Int.toNat_natCast]; omega) ?_), h2⟩
  rw [Int.toNat_natCast, w64 (by omega) (by omega)]
  exact h1
theorem dml_get {L : List (List Int)} {i : Int} (h0 : 0 ≤ i) (h1 : i < (L.length : Int)) : rd_L2 L i ∈ L := by
  obtain ⟨n, rfl⟩ := Int.eq_ofNat_of_zero_le h0
  have hn : n < L.length := by omega
  have : rd_L2 L (n : Int) = L.getD n [] := by simp [rd_L2]
  rw [this, List.getD_eq_getElem?_getD, List.getElem?_eq_getElem hn]
  exact List.getElem_mem _
theorem dml_set {L : List (List Int)} {b : List Int} {n : Nat} (h : L.length ≤ 300 ∧ ∀ l ∈ L, l.length ≤ 13) (hb : b.length ≤ 13) : (L.set n b).length ≤ 300 ∧ ∀ l ∈ L.set n b, l.length ≤ 13 := by
  refine ⟨by simp [h.1], fun l hl => ?_⟩
  rcases List.mem_or_eq_of_mem_set hl with hl | rfl
  · exact h.2 l hl
  · exact hb
theorem dml_j5 {c : List Int} (hc : wfB c) (bs : List Int) (L : List (List Int)) (q a s : Int) (h0 : 0 ≤ a) (h1 : a ≤ 3000) (hL : L.length ≤ 300) (hr : ∀ l ∈ L, l.length ≤ 12) (fl : Bool) (hfl : fl = true → L.length > 0) :
    ∃ ls, Ev (fun k => spec_DrawIsMixedList.j5 k bs L q fl c a s) (bs, ls) ∧ ls.length ≤ 300 ∧ ∀ l ∈ ls, l.length ≤ 13 := by
  have hg : L.length ≤ 300 ∧ ∀ l ∈ L, l.length ≤ 13 := ⟨hL, fun l hl => by have := hr l hl; omega⟩
  cases fl with
  | true =>
    have hp := hfl rfl
    obtain ⟨i, a3, s3, e3, w1, w2, w3, w4, w5⟩ := dr_pick hc s (L.length : Int) (a := a) h0 (by omega)
    have hm := hr _ (dml_get (L := L) (i := 0) (by omega) (by omega))
    have hi : i < (L.length : Int) := by
      by_cases h : (L.length : Int) ≤ 1
      · have := w4 h; omega
      · exact w5 (by omega)
    refine ⟨L.set i.toNat ([0] ++ rd_L2 L 0), ev_shift ?_, dml_set hg (by simp only [List.length_append, List.length_cons, List.length_nil]; omega)⟩
    simp only [spec_DrawIsMixedList.j5]
    exact ev_pos trivial (ev_bind0 e3 (ev_bind0 rfl (ev_pos (by omega) (ev_pos (by simp only [List.length_cons, List.length_nil]; omega) (ev_pos w3 (ev_pos hi (ev_some rfl)))))))
  | false =>
    by_cases h3 : q = 3
    · by_cases hl : (L.length : Int) > 1
      · have hw : wrap64 ((L.length : Int) - 1) = (L.length : Int) - 1 := w64 (by omega) (by omega)
        have hm0 := hg.2 _ (dml_get (L := L) (i := 0) (by omega) (by omega))
        have hm1 := hg.2 _ (dml_get (L := L) (i := (L.length : Int) - 1) (by omega) (by omega))
        refine ⟨_, ev_shift ?_, dml_set (L := L.set (0 : Int).toNat (rd_L2 L ((L.length : Int) - 1))) (n := ((L.length : Int) - 1).toNat) (dml_set hg hm1) hm0⟩
        simp only [spec_DrawIsMixedList.j5, hw]
        exact ev_neg (by decide) (ev_pos h3 (ev_pos hl (ev_pos (by omega) (ev_pos (by omega) (ev_pos (by omega) (ev_some rfl))))))
      · refine ⟨L, ev_shift ?_, hg⟩
        simp only [spec_DrawIsMixedList.j5]
        exact ev_neg (by decide) (ev_pos h3 (ev_neg hl (ev_some rfl)))
    · refine ⟨L, ev_shift ?_, hg⟩
      simp only [spec_DrawIsMixedList.j5]
      exact ev_neg (by decide) (ev_neg h3 (ev_some rfl))
theorem dml_j4 {c : List Int} (hc : wfB c) (bs : List Int) (L : List (List Int)) (q a s : Int) (h0 : 0 ≤ a) (h1 : a ≤ 3000) (hL : L.length ≤ 300) (hr : ∀ l ∈ L, l.length ≤ 12) (fl : Bool) (hfl : fl = true → L.length > 0) :
    ∃ ls, Ev (fun k => spec_DrawIsMixedList.j4 k bs L q fl c a s) (bs, ls) ∧ ls.length ≤ 300 ∧ ∀ l ∈ ls, l.length ≤ 13 := by
  cases fl with
  | true =>
    have hp := hfl rfl
    refine ⟨L.drop 1, ev_shift ?_, by simp only [List.length_drop]; omega, fun l hl => by have := hr l (List.mem_of_mem_drop hl); omega⟩
    simp only [spec_DrawIsMixedList.j4]
    have hcut : cut_first.f L = some (L.drop 1) := by unfold cut_first.f; exact if_pos hp
    exact ev_pos trivial (ev_bind0 hcut (ev_some rfl))
  | false =>
    by_cases h2 : q = 2
    · obtain ⟨ls, e, f⟩ := dml_j5 hc bs L q a s h0 h1 hL hr (decide ((L.length : Int) > 0)) (fun h => by have := of_decide_eq_true h; omega)
      refine ⟨ls, ev_shift ?_, f⟩
      simp only [spec_DrawIsMixedList.j4]
      exact ev_neg (by decide) (ev_pos h2 e)
    · obtain ⟨ls, e, f⟩ := dml_j5 hc bs L q a s h0 h1 hL hr false (fun h => by cases h)
      refine ⟨ls, ev_shift ?_, f⟩
      simp only [spec_DrawIsMixedList.j4]
      exact ev_neg (by decide) (ev_neg h2 e)
theorem dml_j3 {c : List Int} (hc : wfB c) (bs : List Int) (L : List (List Int)) (q a s : Int) (h0 : 0 ≤ a) (h1 : a ≤ 2000) (hL : L.length ≤ 300) (hr : ∀ l ∈ L, l.length ≤ 12) (hb : L.length > 0 → areB bs = true) (fl : Bool) (hfl : fl = true → L.length > 0) :
    ∃ ls, Ev (fun k => spec_DrawIsMixedList.j3 k bs L q fl c a s) (bs, ls) ∧ ls.length ≤ 300 ∧ ∀ l ∈ ls, l.length ≤ 13 := by
  have hg : L.length ≤ 300 ∧ ∀ l ∈ L, l.length ≤ 13 := ⟨hL, fun l hl => by have := hr l hl; omega⟩
  cases fl with
  | true =>
    have hp := hfl rfl
    obtain ⟨i, a3, s3, e3, w1, w2, w3, w4, w5⟩ := dr_pick hc s (L.length : Int) (a := a) h0 (by omega)
    obtain ⟨d, d1, d2⟩ := dr_zeros bs (hb hp)
    have hbl := (areB_iff.1 (hb hp)).1
    have hi : i < (L.length : Int) := by
      by_cases h : (L.length : Int) ≤ 1
      · have := w4 h; omega
      · exact w5 (by omega)
    refine ⟨L.set i.toNat d, ev_shift ?_, dml_set hg (by omega)⟩
    simp only [spec_DrawIsMixedList.j3]
    exact ev_pos trivial (ev_bind0 e3 (ev_bind d1 (ev_pos w3 (ev_pos hi (ev_some rfl)))))
  | false =>
    by_cases h2 : q = 1
    · obtain ⟨ls, e, f⟩ := dml_j4 hc bs L q a s h0 (by omega) hL hr (decide ((L.length : Int) > 0)) (fun h => by have := of_decide_eq_true h; omega)
      refine ⟨ls, ev_shift ?_, f⟩
      simp only [spec_DrawIsMixedList.j3]
      exact ev_neg (by decide) (ev_pos h2 e)
    · obtain ⟨ls, e, f⟩ := dml_j4 hc bs L q a s h0 (by omega) hL hr false (fun h => by cases h)
      refine ⟨ls, ev_shift ?_, f⟩
      simp only [spec_DrawIsMixedList.j3]
      exact ev_neg (by decide) (ev_neg h2 e)
theorem dml_j2 {c : List Int} (hc : wfB c) (bs : List Int) (L : List (List Int)) (a s : Int) (h0 : 0 ≤ a) (h1 : a ≤ 1000) (hL : L.length ≤ 300) (hr : ∀ l ∈ L, l.length ≤ 12) (hb : L.length > 0 → areB bs = true) :
    ∃ ls, Ev (fun k => spec_DrawIsMixedList.j2 k bs L c a s) (bs, ls) ∧ ls.length ≤ 300 ∧ ∀ l ∈ ls, l.length ≤ 13 := by
  obtain ⟨q, a2, s2, e2, v1, v2, v3, v4, v5⟩ := dr_pick hc s 8 (a := a) h0 (by omega)
  by_cases h2 : q = 0
  · obtain ⟨ls, e, f⟩ := dml_j3 hc bs L q a2 s2 (by omega) (by omega) hL hr hb (decide ((L.length : Int) > 0)) (fun h => by have := of_decide_eq_true h; omega)
    refine ⟨ls, ev_shift ?_, f⟩
    simp only [spec_DrawIsMixedList.j2]
    exact ev_bind0 e2 (ev_pos h2 e)
  · obtain ⟨ls, e, f⟩ := dml_j3 hc bs L q a2 s2 (by omega) (by omega) hL hr hb false (fun h => by cases h)
    refine ⟨ls, ev_shift ?_, f⟩
    simp only [spec_DrawIsMixedList.j2]
    exact ev_bind0 e2 (ev_neg h2 e)
theorem dml_l0 {c : List Int} (hc : wfB c) {bs : List Int} (hb : areB bs = true) (hp : prod bs ≤ 300) (a s : Int) (h0 : 0 ≤ a) (h1 : a ≤ 1000) : ∀ (n m : Nat) (L : List (List Int)), (m : Int) + n = prod bs → L.length = m → (∀ l ∈ L, l.length ≤ 12) →
    ∃ ls, Ev (fun k => spec_DrawIsMixedList.l0 k bs L (m : Int) c a s) (bs, ls) ∧ ls.length ≤ 300 ∧ ∀ l ∈ ls, l.length ≤ 13 := by
  intro n
  induction n with
  | zero =>
    intro m L hm hl hr
    obtain ⟨ls, e, f⟩ := dml_j2 hc bs L a s h0 h1 (by omega) hr (fun _ => hb)
    refine ⟨ls, ev_shift ?_, f⟩
    simp only [spec_DrawIsMixedList.l0]
    exact ev_bind (spec_raProduct_ev bs hb) (ev_neg (by omega) e)
  | succ n ih =>
    intro m L hm hl hr
    have hbl := (areB_iff.1 hb).1
    obtain ⟨ls, e, f⟩ := ih (m + 1) (L ++ [mixL bs (m : Int)]) (by omega) (by simp [hl]) (fun l h => by
      rcases List.mem_append.1 h with h | h
      · exact hr l h
      · rw [List.mem_singleton.1 h, mixL_length]; omega)
    refine ⟨ls, ev_shift ?_, f⟩
    simp only [spec_DrawIsMixedList.l0]
    rw [show ((m + 1 : Nat) : Int) = wrap64 ((m : Int) + 1) from by rw [w64 (by omega) (by omega)]; omega] at e
    exact ev_bind (spec_raProduct_ev bs hb) (ev_pos (by omega) (ev_bind (spec_gcMixed_ev bs (m : Int) hb (by omega) (by omega)) (ev_pos (by omega) e)))
theorem dml_j0 {c : List Int} (hc : wfB c) (bs : List Int) (a s : Int) (h0 : 0 ≤ a) (h1 : a ≤ 1000) (fl : Bool) (hfl : fl = true → areB bs = true ∧ prod bs ≤ 300) :
    ∃ ls, Ev (fun k => spec_DrawIsMixedList.j0 k bs ([] : List (List Int)) fl c a s) (bs, ls) ∧ ls.length ≤ 300 ∧ ∀ l ∈ ls, l.length ≤ 13 := by
  cases fl with
  | true =>
    have h := hfl rfl
    have hp := (areB_iff.1 h.1).2.2
    have hpos := prod_pos (areB_iff.1 h.1).2.1
    obtain ⟨ls, e, f⟩ := dml_l0 hc h.1 h.2 a s h0 h1 (prod bs).toNat 0 [] (by omega) rfl (fun l hl => by cases hl)
    refine ⟨ls, ev_shift ?_, f⟩
    simp only [spec_DrawIsMixedList.j0]
    exact ev_pos trivial e
  | false =>
    obtain ⟨ls, e, f⟩ := dml_j2 hc bs [] a s h0 h1 (by simp) (fun l hl => by cases hl) (fun h => by simp at h)
    refine ⟨ls, ev_shift ?_, f⟩
    simp only [spec_DrawIsMixedList.j0]
    exact ev_neg (by decide) e
theorem dr_IsMixedList {c : List Int} (hc : wfB c) : ∃ bs ls, Ev (fun k => spec_DrawIsMixedList.f k c) (bs, ls) ∧ bs.length ≤ 100 ∧ ls.length ≤ 300 ∧ ∀ l ∈ ls, l.length ≤ 13 := by
  unfold spec_DrawIsMixedList.f
  obtain ⟨bs, a1, s1, e1, u1, u2, u3, u4⟩ := dr_bases hc 3 (by decide) (by decide) 0 0 (by decide) (by decide)
  by_cases hb : areB bs = true
  · obtain ⟨ls, e, f⟩ := dml_j0 hc bs a1 s1 (by omega) (by omega) (decide (prod bs ≤ 300)) (fun h => ⟨hb, of_decide_eq_true h⟩)
    exact ⟨bs, ls, ev_bind e1 (ev_bind (spec_raBases_ev bs (by omega)) (ev_pos hb (ev_bind (spec_raProduct_ev bs hb) e))), u3, f⟩
  · obtain ⟨ls, e, f⟩ := dml_j0 hc bs a1 s1 (by omega) (by omega) false (fun h => by cases h)
    exact ⟨bs, ls, ev_bind e1 (ev_bind (spec_raBases_ev bs (by omega)) (ev_neg hb e)), u3, f⟩
theorem w64r (x : Int) : -9223372036854775808 ≤ wrap64 x ∧ wrap64 x ≤ 9223372036854775807 := by unfold wrap64; omega
theorem dr_rank {c : List Int} (hc : wfB c) {a : Int} (s n : Int) (hn : -9223372036854775808 ≤ n) (hn1 : n ≤ 9223372036854775807) (h0 : 0 ≤ a) (h1 : a ≤ 3999999999999999000) : ∃ r a' s', spec_l1Cur_rank.f c a s n = some (r, a', s') ∧ a ≤ a' ∧ a' ≤ a + 8 ∧ -9223372036854775808 ≤ r ∧ r ≤ 9223372036854775807 := by
  unfold spec_l1Cur_rank.f
  obtain ⟨x, a1, s1, e1, u2, u3, u4, u5, u6⟩ := dr_pick hc s 12 h0 (by omega)
  rw [e1]
  simp only [Option.bind_some]
  by_cases c0 : x = 0
  · rw [if_pos c0]
    obtain ⟨r, a2, s2, e2, g2, g3, g4⟩ := dr_among hc s1 [-1, n, wrap64 (n + 1), 4611686018427387904] (by simp) (a := a1) (by omega) (by omega)
    rw [e2]
    have hw := w64r (n + 1)
    generalize hq : wrap64 (n + 1) = q at g4 hw e2; clear hq
    simp only [List.mem_cons, List.not_mem_nil, or_false] at g4
    exact ⟨_, _, _, rfl, by dsimp only; omega, by dsimp only; omega, by dsimp only; omega, by dsimp only; omega⟩
  rw [if_neg c0]
  by_cases c1 : x = 1
  · rw [if_pos c1]
    have hw := w64r (n - 1)
    exact ⟨_, _, _, rfl, by omega, by omega, by omega, by omega⟩
  rw [if_neg c1]
  by_cases c2 : x = 2
  · rw [if_pos c2]
    exact ⟨_, _, _, rfl, by omega, by omega, by omega, by omega⟩
  rw [if_neg c2]
  by_cases c3 : n < 2
  · rw [if_pos c3]
    exact ⟨_, _, _, rfl, by omega, by omega, by omega, by omega⟩
  rw [if_neg c3]
  obtain ⟨y, a2, s2, e2, v2, v3, v4, v5, v6⟩ := dr_pick hc s1 60000 (a := a1) (by omega) (by omega)
  rw [e2]
  simp only [Option.bind_some]
  obtain ⟨z, a3, s3, e3, w2, w3, w4, w5, w6⟩ := dr_pick hc s2 60000 (a := a2) (by omega) (by omega)
  rw [e3]
  simp only [Option.bind_some]
  have := v6 (by decide); have := w6 (by decide)
  rw [if_neg (by omega), w64 (x := y * 60000) (by omega) (by omega), w64 (by omega) (by omega), Int.tmod_eq_emod_of_nonneg (by omega)]
  have g0 := Int.emod_nonneg (y * 60000 + z) (b := n) (by omega)
  have g1 := Int.emod_lt_of_pos (y * 60000 + z) (b := n) (by omega)
  exact ⟨_, _, _, rfl, by omega, by omega, by omega, by omega⟩
theorem dr_product (l : List Int) (hl : l.length ≤ 9000000000000000000) : ∃ p, Ev (fun k => spec_raProduct.f k l) p ∧ -9223372036854775808 ≤ p ∧ p ≤ 9223372036854775807 := by
  have key : ∀ suf pre, l = pre ++ suf → ∀ acc : Int, (-9223372036854775808 ≤ acc ∧ acc ≤ 9223372036854775807) → ∃ p, Ev (fun k => spec_raProduct.l0 k acc l (l.length : Int) (pre.length : Int)) p ∧ -9223372036854775808 ≤ p ∧ p ≤ 9223372036854775807 := by
    refine range_ind hl (fun pre suf => ∀ acc : Int, (-9223372036854775808 ≤ acc ∧ acc ≤ 9223372036854775807) → ∃ p, Ev (fun k => spec_raProduct.l0 k acc l (l.length : Int) (pre.length : Int)) p ∧ -9223372036854775808 ≤ p ∧ p ≤ 9223372036854775807) ?_ ?_
    · intro acc ha
      refine ⟨acc, ev_shift ?_, ha⟩
      simp only [spec_raProduct.l0]
      exact ev_neg (by omega) (ev_some rfl)
    · intro pre x suf hh hx h1 h2 h3 ih acc ha
      have hw := w64r (acc * x)
      by_cases hc : wrap64 (acc * x) > 1000000
      · refine ⟨_, ev_shift ?_, hw⟩
        simp only [spec_raProduct.l0, hx, h3]
        exact ev_pos h1 (ev_pos h2 (ev_pos h1 (ev_pos hc (ev_some rfl))))
      · obtain ⟨p, g1, g2⟩ := ih _ hw
        refine ⟨p, ev_shift ?_, g2⟩
        simp only [spec_raProduct.l0, hx, h3]
        exact ev_pos h1 (ev_pos h2 (ev_pos h1 (ev_neg hc g1)))
  exact key l [] rfl 1 (by omega)
theorem dr_DigitsAt {c : List Int} (hc : wfB c) : ∃ bs r, Ev (fun k => spec_DrawDigitsAt.f k c) (bs, r) ∧ bs.length ≤ 100 ∧ -9223372036854775808 ≤ r ∧ r ≤ 9223372036854775807 := by
  unfold spec_DrawDigitsAt.f
  obtain ⟨bs, a1, s1, e1, u1, u2, u3, u4⟩ := dr_bases hc 5 (by decide) (by decide) 0 0 (by decide) (by decide)
  obtain ⟨p, e2, v1, v2⟩ := dr_product bs (by omega)
  obtain ⟨r, a2, s2, e3, w1, w2, w3, w4⟩ := dr_rank hc s1 p v1 v2 (a := a1) (by omega) (by omega)
  exact ⟨bs, r, ev_bind e1 (ev_bind e2 (ev_bind0 e3 (ev_some rfl))), by omega, w3, w4⟩
theorem dr_one {c : List Int} (hc : wfB c) {a : Int} (s n : Int) (h0 : 0 ≤ a) (h1 : a ≤ 3999999999999999999) : ∃ r a' s', spec_l1Cur_one.f c a s n = some (r, a', s') ∧ a ≤ a' ∧ a' ≤ a + 2 := by
  unfold spec_l1Cur_one.f
  obtain ⟨r, a', s', e, h2, h3, _⟩ := dr_pick hc s n h0 h1
  rw [e]
  exact ⟨_, _, _, rfl, h2, h3⟩
theorem spec_l1Most_eq (a b : Int) : spec_l1Most.f a b = some (if a > b then a else b) := by
  unfold spec_l1Most.f
  split <;> rfl
theorem dr_RankOfDigits_j2 {c : List Int} (hc : wfB c) (bs ds : List Int) (b : Bool) (a s : Int) (h0 : 0 ≤ a) (h1 : a ≤ 3999999999999999000) (hb : b = true → 0 < ds.length) : ∃ ds', Ev (fun k => spec_DrawRankOfDigits.j2 k bs ds b c a s) (bs, ds') ∧ ds'.length = ds.length := by
  cases b
  · refine ⟨ds, ev_shift ?_, rfl⟩
    simp only [spec_DrawRankOfDigits.j2]
    exact ev_neg Bool.false_ne_true (ev_some rfl)
  · have hp := hb rfl
    obtain ⟨x, a1, s1, e1, u2, u3, u4, u5, u6⟩ := dr_pick hc s (ds.length : Int) h0 (by omega)
    obtain ⟨y, a2, s2, e2, v2, v3, v4⟩ := dr_among hc s1 [-1, 12, 2] (by decide) (a := a1) (by omega) (by omega)
    have hx : x < (ds.length : Int) := by
      by_cases h : (ds.length : Int) ≤ 1
      · have := u5 h; omega
      · exact u6 (by omega)
    refine ⟨ds.set x.toNat y, ev_shift ?_, by simp⟩
    simp only [spec_DrawRankOfDigits.j2]
    exact ev_pos (by trivial) (ev_bind0 e1 (ev_bind0 e2 (ev_pos u4 (ev_pos hx (ev_some rfl)))))
theorem dr_RankOfDigits_j1 {c : List Int} (hc : wfB c) (bs ds : List Int) (a s : Int) (h0 : 0 ≤ a) (h1 : a ≤ 3999999999999998000) : ∃ ds', Ev (fun k => spec_DrawRankOfDigits.j1 k bs ds c a s) (bs, ds') ∧ ds'.length = ds.length := by
  by_cases h : (ds.length : Int) > 0
  · obtain ⟨x, a1, s1, e1, u2, u3⟩ := dr_one hc s 12 h0 (by omega)
    obtain ⟨ds', g1, g2⟩ := dr_RankOfDigits_j2 hc bs ds x a1 s1 (by omega) (by omega) (fun _ => by omega)
    refine ⟨ds', ev_shift ?_, g2⟩
    simp only [spec_DrawRankOfDigits.j1]
    exact ev_pos h (ev_bind0 e1 g1)
  · obtain ⟨ds', g1, g2⟩ := dr_RankOfDigits_j2 hc bs ds false a s (by omega) (by omega) (fun h => by cases h)
    refine ⟨ds', ev_shift ?_, g2⟩
    simp only [spec_DrawRankOfDigits.j1]
    exact ev_neg h g1
theorem dr_RankOfDigits {c : List Int} (hc : wfB c) : ∃ bs ds, Ev (fun k => spec_DrawRankOfDigits.f k c) (bs, ds) ∧ bs.length ≤ 100 ∧ ds.length ≤ 200 := by
  unfold spec_DrawRankOfDigits.f
  obtain ⟨bs, a1, s1, e1, u1, u2, u3, u4⟩ := dr_bases hc 5 (by decide) (by decide) 0 0 (by decide) (by decide)
  have key : ∀ suf pre, bs = pre ++ suf → ∀ (ds : List Int) (a s : Int), ds.length = pre.length → 0 ≤ a → a ≤ 1000 + 2 * (pre.length : Int) → ∃ ds', Ev (fun k => spec_DrawRankOfDigits.l0 k bs ds bs (bs.length : Int) (pre.length : Int) c a s) (bs, ds') ∧ ds'.length ≤ 200 := by
    refine range_ind (by omega) (fun pre suf => ∀ (ds : List Int) (a s : Int), ds.length = pre.length → 0 ≤ a → a ≤ 1000 + 2 * (pre.length : Int) → ∃ ds', Ev (fun k => spec_DrawRankOfDigits.l0 k bs ds bs (bs.length : Int) (pre.length : Int) c a s) (bs, ds') ∧ ds'.length ≤ 200) ?_ ?_
    · intro ds a s hd h0 h1
      obtain ⟨x, a2, s2, e2, v2, v3⟩ := dr_one hc s 12 h0 (by omega)
      cases x
      · obtain ⟨ds', g1, g2⟩ := dr_RankOfDigits_j1 hc bs ds a2 s2 (by omega) (by omega)
        refine ⟨ds', ev_shift ?_, by omega⟩
        simp only [spec_DrawRankOfDigits.l0]
        exact ev_neg (by omega) (ev_bind0 e2 (ev_neg Bool.false_ne_true g1))
      · obtain ⟨ds', g1, g2⟩ := dr_RankOfDigits_j1 hc bs (ds ++ [0]) a2 s2 (by omega) (by omega)
        simp only [List.length_append, List.length_singleton] at g2
        refine ⟨ds', ev_shift ?_, by omega⟩
        simp only [spec_DrawRankOfDigits.l0]
        exact ev_neg (by omega) (ev_bind0 e2 (ev_pos (by trivial) (ev_pos (by omega) g1)))
    · intro pre x suf hh hx h1 h2 h3 ih ds a s hd h0 ha
      obtain ⟨y, a2, s2, e2, v2, v3, v4, v5, v6⟩ := dr_pick hc s (if (1 : Int) > x then 1 else x) h0 (by omega)
      obtain ⟨ds', g1, g2⟩ := ih (ds ++ [y]) a2 s2 (by simp [hd]) (by omega) (by simp only [List.length_append, List.length_singleton]; omega)
      refine ⟨ds', ev_shift ?_, g2⟩
      simp only [spec_DrawRankOfDigits.l0, hx, h3]
      exact ev_pos h1 (ev_pos h2 (ev_pos h1 (ev_bind0 (spec_l1Most_eq _ _) (ev_bind0 e2 (ev_pos (by omega) g1)))))
  obtain ⟨ds', g1, g2⟩ := key bs [] rfl [] a1 s1 rfl (by omega) (by simp only [List.length_nil]; omega)
  exact ⟨bs, ds', ev_bind e1 g1, u3, g2⟩
theorem spec_MixedAt_ev (bs : List Int) (r : Int) (hl : bs.length ≤ 9000000000000000000) : Ev (fun k => spec_MixedAt.f k bs r) (mixAt bs r) := by
  unfold spec_MixedAt.f mixAt
  refine ev_bind (spec_raBases_ev bs hl) ?_
  by_cases hb : areB bs = true
  · have hb' := areB_iff.1 hb
    have hp := prod_pos hb'.2.1
    refine ev_pos hb (ev_bind (spec_raProduct_ev bs hb) ?_)
    rw [w64 (by omega) (by omega)]
    refine ev_bind0 (spec_l1In_eq _ _ _) ?_
    by_cases h : inR r 0 (prod bs - 1) = true
    · rw [if_pos ⟨hb, h⟩]
      have h' := inR_iff.1 h
      exact ev_pos h (ev_bind (spec_gcMixed_ev bs r hb h'.1 (by omega)) (ev_some rfl))
    · rw [if_neg (fun c => h c.2)]
      exact ev_neg h (ev_some rfl)
  · rw [if_neg (fun c => hb c.1)]
    exact ev_neg hb (ev_some rfl)
theorem impl_MixedAt_ev (bs : List Int) (r : Int) (hl : bs.length ≤ 9000000000000000000) : Ev (fun k => impl_MixedAt.f k bs r) (mixAt bs r) := by
  unfold impl_MixedAt.f mixAt
  refine ev_bind (impl_areBases_ev bs hl) ?_
  by_cases hb : areB bs = true
  · have hb' := areB_iff.1 hb
    have hp := prod_pos hb'.2.1
    refine ev_pos hb (ev_bind (impl_size_ev bs hb) ?_)
    rw [w64 (by omega) (by omega)]
    refine ev_bind0 (impl_within_eq _ _ _) ?_
    by_cases h : inR r 0 (prod bs - 1) = true
    · rw [if_pos ⟨hb, h⟩]
      have h' := inR_iff.1 h
      exact ev_pos h (ev_bind (impl_mixedAt_ev bs r hb h'.1 (by omega)) (ev_some rfl))
    · rw [if_neg (fun c => h c.2)]
      exact ev_neg h (ev_some rfl)
  · rw [if_neg (fun c => hb c.1)]
    exact ev_neg hb (ev_some rfl)
theorem impl_areDigits_ev (bs ds : List Int) (hb : ∀ b ∈ bs, (Lit.int .i64 (b - 1)).wf = true) (hl : ds.length ≤ 9000000000000000000) : Ev (fun k => impl_areDigits.f k bs ds) (digs bs ds) := by
  have key : ∀ suf pre, ds = pre ++ suf → ∀ p s : List Int, bs = p ++ s → p.length = pre.length → Ev (fun k => impl_areDigits.l0 k bs ds ds (ds.length : Int) (pre.length : Int)) (digs s suf) := by
    refine range_ind hl (fun pre suf => ∀ p s : List Int, bs = p ++ s → p.length = pre.length → Ev (fun k => impl_areDigits.l0 k bs ds ds (ds.length : Int) (pre.length : Int)) (digs s suf)) ?_ ?_
    · intro p s hps hpl
      refine ev_shift ?_
      simp only [impl_areDigits.l0]
      refine ev_neg (by omega) (ev_some ?_)
      cases s with
      | nil => simp at hps; subst hps; simp [digs, hpl]
      | cons b s => simp [digs, hps]; omega
    · intro pre x suf hh hx h1 h2 h3 ih p s hps hpl
      refine ev_shift ?_
      simp only [impl_areDigits.l0, hx, h3]
      refine ev_pos h1 (ev_pos h2 (ev_pos h1 ?_))
      cases s with
      | nil =>
        simp at hps; subst hps
        exact ev_pos (by omega) (ev_some rfl)
      | cons b s =>
        have hbl : bs.length = p.length + s.length + 1 := by rw [hps]; simp; omega
        have hrb : rd bs (pre.length : Int) = b := by rw [hps, ← hpl]; exact rd_at _ _ _
        have hbw := wf_range (hb b (by rw [hps]; simp))
        refine ev_neg (by omega) (ev_pos (by omega) ?_)
        rw [hrb, w64 (by omega) (by omega)]
        refine ev_bind0 (impl_within_eq _ _ _) ?_
        simp only [digs]
        cases inR x 0 (b - 1) with
        | false => exact ev_neg (by simp) (ev_some rfl)
        | true => exact ev_pos rfl (ih (p ++ [b]) s (by simp [hps]) (by simp [hpl]))
  exact key ds [] rfl [] bs rfl rfl
theorem spec_raAreDigits_ev (bs ds : List Int) (hb : ∀ b ∈ bs, (Lit.int .i64 (b - 1)).wf = true) (hl : ds.length ≤ 9000000000000000000) : Ev (fun k => spec_raAreDigits.f k bs ds) (digs bs ds) := by
  unfold spec_raAreDigits.f
  by_cases hlen : (ds.length : Int) = (bs.length : Int)
  · refine ev_pos hlen ?_
    have key : ∀ suf pre, ds = pre ++ suf → ∀ p s : List Int, bs = p ++ s → p.length = pre.length → s.length = suf.length → Ev (fun k => spec_raAreDigits.l0 k bs ds (ds.length : Int) (pre.length : Int)) (digs s suf) := by
      refine range_ind hl (fun pre suf => ∀ p s : List Int, bs = p ++ s → p.length = pre.length → s.length = suf.length → Ev (fun k => spec_raAreDigits.l0 k bs ds (ds.length : Int) (pre.length : Int)) (digs s suf)) ?_ ?_
      · intro p s hps hpl hsl
        refine ev_shift ?_
        simp only [spec_raAreDigits.l0]
        refine ev_neg (by omega) (ev_some ?_)
        cases s with
        | nil => rfl
        | cons b s => simp at hsl
      · intro pre x suf hh hx h1 h2 h3 ih p s hps hpl hsl
        cases s with
        | nil => simp at hsl
        | cons b s =>
          have hbl : bs.length = p.length + s.length + 1 := by rw [hps]; simp; omega
          have hrb : rd bs (pre.length : Int) = b := by rw [hps, ← hpl]; exact rd_at _ _ _
          have hbw := wf_range (hb b (by rw [hps]; simp))
          refine ev_shift ?_
          simp only [spec_raAreDigits.l0, hx, h3, hrb]
          rw [w64 (by omega) (by omega)]
          refine ev_pos h1 (ev_pos h2 (ev_pos h1 (ev_pos (by omega) (ev_bind0 (spec_l1In_eq _ _ _) ?_))))
          simp only [digs]
          cases inR x 0 (b - 1) with
          | false => exact ev_neg (by simp) (ev_some rfl)
          | true => exact ev_pos rfl (ih (p ++ [b]) s (by simp [hps]) (by simp [hpl]) (by simpa using hsl))
    exact key ds [] rfl [] bs rfl rfl (by omega)
  · refine ev_neg hlen (ev_some ?_)
    cases e : digs bs ds with
    | false => rfl
    | true => exact absurd (congrArg Int.ofNat (digs_length e)) hlen
theorem bases_wf {bs : List Int} (h : areB bs = true) : ∀ b ∈ bs, (Lit.int .i64 (b - 1)).wf = true := by
  intro b hb
  have := allIn_iff.1 (areB_iff.1 h).2.1 b hb
  simp only [Lit.wf, Bool.and_eq_true, decide_eq_true_eq]
  have e0 : IntKind.min .i64 = -9223372036854775808 := by decide
  have e1 : IntKind.max .i64 = 9223372036854775807 := by decide
  omega
theorem spec_gcMixedRank_ev (bs : List Int) : ∀ ds : List Int, areB bs = true → digs bs ds = true → Ev (fun k => spec_gcMixedRank.f k bs ds) (mixR bs ds) := by
  induction bs with
  | nil =>
    intro ds _ hd
    cases ds with
    | cons d ds => simp [digs] at hd
    | nil =>
      refine ev_shift ?_
      simp only [spec_gcMixedRank.f]
      exact ev_pos rfl (ev_some rfl)
  | cons b bs ih =>
    intro ds hb hd
    cases ds with
    | nil => simp [digs] at hd
    | cons d ds =>
      obtain ⟨hb1, hp1, hp2, hp3, hb2⟩ := areB_head hb
      have hr := mixR_range hb hd
      simp only [digs, Bool.and_eq_true, inR_iff] at hd
      have hr2 := mixR_range hb2 hd.2
      have h0 : 0 ≤ d * prod bs := Int.mul_nonneg (by omega) (by omega)
      have h1 : (d + 1) * prod bs ≤ b * prod bs := Int.mul_le_mul_of_nonneg_right (by omega) (by omega)
      rw [Int.add_mul, Int.one_mul] at h1
      have hrd : rd (d :: ds) 0 = d := rfl
      refine ev_shift ?_
      simp only [spec_gcMixedRank.f, List.drop_succ_cons, List.drop_zero, List.length_cons, hrd]
      rw [Int.tmod_eq_emod_of_nonneg hd.1.1]
      refine ev_neg (by omega) (ev_pos (by omega) (ev_bind (spec_raProduct_ev bs hb2) (ev_pos (by omega) (ev_bind (ih ds hb2 hd.2) (ev_pos (by omega) ?_)))))
      rw [w64 (x := d * prod bs) (by omega) (by omega), w64 (x := prod bs - 1) (by omega) (by omega), w64 (x := prod bs - 1 - mixR bs ds) (by omega) (by omega), w64 (x := d * prod bs + (prod bs - 1 - mixR bs ds)) (by omega) (by omega), w64 (x := d * prod bs + mixR bs ds) (by omega) (by omega)]
      by_cases hodd : d % 2 = 1
      · exact ev_pos hodd (ev_some (by simp only [mixR, if_pos hodd]))
      · exact ev_neg hodd (ev_some (by simp only [mixR, if_neg hodd]))
theorem impl_mixedRank_ev (bs : List Int) : ∀ ds : List Int, areB bs = true → digs bs ds = true → Ev (fun k => impl_mixedRank.f k bs ds) (mixR bs ds) := by
  induction bs with
  | nil =>
    intro ds _ hd
    cases ds with
    | cons d ds => simp [digs] at hd
    | nil =>
      refine ev_shift ?_
      simp only [impl_mixedRank.f]
      exact ev_pos rfl (ev_some rfl)
  | cons b bs ih =>
    intro ds hb hd
    cases ds with
    | nil => simp [digs] at hd
    | cons d ds =>
      obtain ⟨hb1, hp1, hp2, hp3, hb2⟩ := areB_head hb
      have hr := mixR_range hb hd
      simp only [digs, Bool.and_eq_true, inR_iff] at hd
      have hr2 := mixR_range hb2 hd.2
      have h0 : 0 ≤ d * prod bs := Int.mul_nonneg (by omega) (by omega)
      have h1 : (d + 1) * prod bs ≤ b * prod bs := Int.mul_le_mul_of_nonneg_right (by omega) (by omega)
      rw [Int.add_mul, Int.one_mul] at h1
      have hrd : rd (d :: ds) 0 = d := rfl
      refine ev_shift ?_
      simp only [impl_mixedRank.f, List.drop_succ_cons, List.drop_zero, List.length_cons, hrd]
      rw [Int.tmod_eq_emod_of_nonneg hd.1.1]
      refine ev_neg (by omega) (ev_pos (by omega) (ev_bind (impl_size_ev bs hb2) (ev_pos (by omega) (ev_bind (ih ds hb2 hd.2) (ev_pos (by omega) ?_)))))
      rw [w64 (x := d * prod bs) (by omega) (by omega), w64 (x := prod bs - 1) (by omega) (by omega), w64 (x := prod bs - 1 - mixR bs ds) (by omega) (by omega), w64 (x := d * prod bs + (prod bs - 1 - mixR bs ds)) (by omega) (by omega), w64 (x := d * prod bs + mixR bs ds) (by omega) (by omega)]
      by_cases hodd : d % 2 = 1
      · exact ev_pos hodd (ev_some (by simp only [mixR, if_pos hodd]))
      · exact ev_neg hodd (ev_some (by simp only [mixR, if_neg hodd]))
theorem spec_MixedRank_ev (bs ds : List Int) (hl1 : bs.length ≤ 9000000000000000000) (hl2 : ds.length ≤ 9000000000000000000) : Ev (fun k => spec_MixedRank.f k bs ds) (mixRk bs ds) := by
  unfold spec_MixedRank.f mixRk
  refine ev_bind (spec_raBases_ev bs hl1) ?_
  by_cases hb : areB bs = true
  · refine ev_pos hb (ev_bind (spec_raAreDigits_ev bs ds (bases_wf hb) hl2) ?_)
    by_cases hd : digs bs ds = true
    · rw [if_pos ⟨hb, hd⟩]
      exact ev_pos hd (ev_bind (spec_gcMixedRank_ev bs ds hb hd) (ev_some rfl))
    · rw [if_neg (fun c => hd c.2)]
      exact ev_neg hd (ev_some rfl)
  · rw [if_neg (fun c => hb c.1)]
    exact ev_neg hb (ev_some rfl)
theorem impl_MixedRank_ev (bs ds : List Int) (hl1 : bs.length ≤ 9000000000000000000) (hl2 : ds.length ≤ 9000000000000000000) : Ev (fun k => impl_MixedRank.f k bs ds) (mixRk bs ds) := by
  unfold impl_MixedRank.f mixRk
  refine ev_bind (impl_areBases_ev bs hl1) ?_
  by_cases hb : areB bs = true
  · refine ev_pos hb (ev_bind (impl_areDigits_ev bs ds (bases_wf hb) hl2) ?_)
    by_cases hd : digs bs ds = true
    · rw [if_pos ⟨hb, hd⟩]
      exact ev_pos hd (ev_bind (impl_mixedRank_ev bs ds hb hd) (ev_some rfl))
    · rw [if_neg (fun c => hd c.2)]
      exact ev_neg hd (ev_some rfl)
  · rw [if_neg (fun c => hb c.1)]
    exact ev_neg hb (ev_some rfl)
theorem spec_l1Abs_one (a : Int) (h : a = 1 ∨ a = -1) : spec_l1Abs.f a = some 1 := by
  rcases h with rfl | rfl <;> decide +kernel
theorem spec_gcStep_same (a b : List Int) (hl : a.length ≤ 9000000000000000000) : ∀ suf pre, a = pre ++ suf → ∀ q s : List Int, b = q ++ s → q.length = pre.length → suf = s → ∀ at_ : Int, Ev (fun k => spec_gcStep.l0 k b at_ a (a.length : Int) (pre.length : Int)) at_ := by
  refine range_ind hl (fun pre suf => ∀ q s : List Int, b = q ++ s → q.length = pre.length → suf = s → ∀ at_ : Int, Ev (fun k => spec_gcStep.l0 k b at_ a (a.length : Int) (pre.length : Int)) at_) ?_ ?_
  · intro q s hq hql hs at_
    refine ev_shift ?_
    simp only [spec_gcStep.l0]
    exact ev_neg (by omega) (ev_some rfl)
  · intro pre x suf hh hx h1 h2 h3 ih q s hq hql hs at_
    subst hs
    have hrb : rd b (pre.length : Int) = x := by rw [hq, ← hql]; exact rd_at _ _ _
    have hbl : b.length = q.length + suf.length + 1 := by rw [hq]; simp; omega
    refine ev_shift ?_
    simp only [spec_gcStep.l0, hx, h3, hrb]
    exact ev_pos h1 (ev_pos h2 (ev_pos h1 (ev_pos (by omega) (ev_pos (by trivial) (ih (q ++ [x]) suf (by simp [hq]) (by simp [hql]) rfl at_)))))
theorem spec_gcStep_ev (a b : List Int) (j : Nat) (h : stepAt a b j) (hl : a.length ≤ 9000000000000000000) : Ev (fun k => spec_gcStep.f k a b) (j : Int) := by
  have key : ∀ suf pre, a = pre ++ suf → ∀ (q s : List Int) (j : Nat), b = q ++ s → q.length = pre.length → stepAt suf s j → Ev (fun k => spec_gcStep.l0 k b (-1) a (a.length : Int) (pre.length : Int)) ((pre.length : Int) + (j : Int)) := by
    refine range_ind hl (fun pre suf => ∀ (q s : List Int) (j : Nat), b = q ++ s → q.length = pre.length → stepAt suf s j → Ev (fun k => spec_gcStep.l0 k b (-1) a (a.length : Int) (pre.length : Int)) ((pre.length : Int) + (j : Int))) ?_ ?_
    · intro q s j _ _ hs
      simp [stepAt] at hs
    · intro pre x suf hh hx h1 h2 h3 ih q s j hq hql hs
      cases s with
      | nil => cases j <;> simp [stepAt] at hs
      | cons y s =>
        have hrb : rd b (pre.length : Int) = y := by rw [hq, ← hql]; exact rd_at _ _ _
        have hbl : b.length = q.length + s.length + 1 := by rw [hq]; simp; omega
        refine ev_shift ?_
        simp only [spec_gcStep.l0, hx, h3, hrb]
        refine ev_pos h1 (ev_pos h2 (ev_pos h1 (ev_pos (by omega) ?_)))
        cases j with
        | zero =>
          simp only [stepAt] at hs
          refine ev_neg (by omega) (ev_neg (by omega) ?_)
          rw [w64 (x := x - y) (by omega) (by omega)]
          refine ev_bind0 (spec_l1Abs_one (x - y) (by omega)) (ev_pos (by trivial) ?_)
          have := spec_gcStep_same a b hl suf (pre ++ [x]) (by simp [hh]) (q ++ [y]) s (by simp [hq]) (by simp [hql]) hs.2 (pre.length : Int)
          simpa using this
        | succ j =>
          simp only [stepAt] at hs
          refine ev_pos hs.1 ?_
          have := ih (q ++ [y]) s j (by simp [hq]) (by simp [hql]) hs.2
          have e : ((pre ++ [x]).length : Int) + (j : Int) = (pre.length : Int) + ((j + 1 : Nat) : Int) := by simp; omega
          rw [e] at this
          exact this
  have := key a [] rfl [] b j rfl rfl h
  simpa [spec_gcStep.f] using this
theorem impl_NextMixed_l0 (ds out : List Int) (j : Nat) (h : stepAt out ds j) (hl : out.length ≤ 9000000000000000000) : Ev (fun k => impl_NextMixed.l0 k ds out out (out.length : Int) 0) (out, (j : Int), true) := by
  have key : ∀ suf pre, out = pre ++ suf → ∀ (q s : List Int) (j : Nat), ds = q ++ s → q.length = pre.length → stepAt suf s j → Ev (fun k => impl_NextMixed.l0 k ds out out (out.length : Int) (pre.length : Int)) (out, (pre.length : Int) + (j : Int), true) := by
    refine range_ind hl (fun pre suf => ∀ (q s : List Int) (j : Nat), ds = q ++ s → q.length = pre.length → stepAt suf s j → Ev (fun k => impl_NextMixed.l0 k ds out out (out.length : Int) (pre.length : Int)) (out, (pre.length : Int) + (j : Int), true)) ?_ ?_
    · intro q s j _ _ hs
      simp [stepAt] at hs
    · intro pre x suf hh hx h1 h2 h3 ih q s j hq hql hs
      cases s with
      | nil => cases j <;> simp [stepAt] at hs
      | cons y s =>
        have hrb : rd ds (pre.length : Int) = y := by rw [hq, ← hql]; exact rd_at _ _ _
        have hbl : ds.length = q.length + s.length + 1 := by rw [hq]; simp; omega
        refine ev_shift ?_
        simp only [impl_NextMixed.l0, hx, h3, hrb]
        refine ev_pos h1 (ev_pos h2 (ev_pos h1 (ev_pos (by omega) ?_)))
        cases j with
        | zero =>
          simp only [stepAt] at hs
          exact ev_neg (by omega) (ev_some (by simp))
        | succ j =>
          simp only [stepAt] at hs
          refine ev_pos hs.1 ?_
          have := ih (q ++ [y]) s j (by simp [hq]) (by simp [hql]) hs.2
          have e : ((pre ++ [x]).length : Int) + (j : Int) = (pre.length : Int) + ((j + 1 : Nat) : Int) := by simp; omega
          rw [e] at this
          exact this
  have := key out [] rfl [] ds j rfl rfl h
  simpa using this
theorem NextMixed_both (bs ds : List Int) (hl1 : bs.length ≤ 9000000000000000000) (hl2 : ds.length ≤ 9000000000000000000) : ∃ p : List Int × Int × Bool, p.1.length ≤ 12 ∧ Ev (fun k => spec_NextMixed.f k bs ds) p ∧ Ev (fun k => impl_NextMixed.f k bs ds) p := by
  have s_bad : ∀ r : Int, Ev (fun k => spec_NextMixed.j0 k bs ds r true) ([], 0, false) := by
    intro r
    refine ev_shift ?_
    simp only [spec_NextMixed.j0]
    exact ev_pos (by trivial) (ev_some rfl)
  have i_bad : ∀ r : Int, Ev (fun k => impl_NextMixed.j0 k bs ds r true) ([], 0, false) := by
    intro r
    refine ev_shift ?_
    simp only [impl_NextMixed.j0]
    exact ev_pos (by trivial) (ev_some rfl)
  have hs := spec_MixedRank_ev bs ds hl1 hl2
  have hi := impl_MixedRank_ev bs ds hl1 hl2
  by_cases h : areB bs = true ∧ digs bs ds = true
  · obtain ⟨hb, hd⟩ := h
    have hb' := areB_iff.1 hb
    have hr := mixR_range hb hd
    have e : mixRk bs ds = (mixR bs ds, true) := by unfold mixRk; rw [if_pos ⟨hb, hd⟩]
    rw [e] at hs hi
    have hw : wrap64 (mixR bs ds + 1) = mixR bs ds + 1 := w64 (by omega) (by omega)
    by_cases hlast : mixR bs ds + 1 = prod bs
    · have hlw : (wrap64 (mixR bs ds + 1) == prod bs) = true := by rw [hw, hlast]; exact beq_self_eq_true _
      refine ⟨([], 0, false), Nat.zero_le _, ?_, ?_⟩
      · unfold spec_NextMixed.f
        refine ev_bind hs (ev_pos (by trivial) (ev_bind (spec_raProduct_ev bs hb) ?_))
        simp only [hlw]
        exact s_bad _
      · unfold impl_NextMixed.f
        refine ev_bind hi (ev_pos (by trivial) (ev_bind (impl_size_ev bs hb) ?_))
        simp only [hlw]
        exact i_bad _
    · obtain ⟨j, hj⟩ := mixL_step hb (mixR bs ds) hr.1 (by omega)
      rw [mixL_mixR hb hd] at hj
      have hne : ((mixR bs ds + 1) == prod bs) = false := by simpa using hlast
      have hml := mixL_length bs (mixR bs ds + 1)
      refine ⟨(mixL bs (mixR bs ds + 1), (j : Int), true), by rw [hml]; omega, ?_, ?_⟩
      · unfold spec_NextMixed.f
        refine ev_bind hs (ev_pos (by trivial) (ev_bind (spec_raProduct_ev bs hb) ?_))
        simp only [hw, hne]
        refine ev_shift ?_
        simp only [spec_NextMixed.j0, hw]
        exact ev_neg (by simp) (ev_bind (spec_gcMixed_ev bs _ hb (by omega) (by omega)) (ev_bind (spec_gcStep_ev ds _ j hj hl2) (ev_some rfl)))
      · unfold impl_NextMixed.f
        refine ev_bind hi (ev_pos (by trivial) (ev_bind (impl_size_ev bs hb) ?_))
        simp only [hw, hne]
        refine ev_shift ?_
        simp only [impl_NextMixed.j0, hw]
        exact ev_neg (by simp) (ev_bind (impl_mixedAt_ev bs _ hb (by omega) (by omega)) (impl_NextMixed_l0 ds _ j (stepAt_symm hj) (by omega)))
  · have e : mixRk bs ds = (0, false) := by unfold mixRk; rw [if_neg h]
    rw [e] at hs hi
    refine ⟨([], 0, false), Nat.zero_le _, ?_, ?_⟩
    · unfold spec_NextMixed.f
      exact ev_bind hs (ev_neg (by simp) (s_bad _))
    · unfold impl_NextMixed.f
      exact ev_bind hi (ev_neg (by simp) (i_bad _))



theorem impl_isBits_eq (a : Int) : impl_isBits.f a = some (inR a 1 10) := by simp only [impl_isBits.f, impl_within_eq, Option.bind_some]
theorem impl_isWord_eq (n w : Int) : impl_isWord.f n w = some (isW n w) := by
  simp only [impl_isWord.f, impl_isBits_eq, impl_within_eq, Option.bind_some, isW, top]
  by_cases h : inR n 1 10 = true
  · have := inR_iff.1 h
    rw [if_pos h, if_pos (by omega), h, Bool.true_and]
  · simp only [Bool.not_eq_true] at h
    simp [h]
theorem impl_ReflectedAt_eq (n r : Int) : impl_ReflectedAt.f n r = some (refAt n r) := by
  unfold impl_ReflectedAt.f refAt
  rw [impl_isWord_eq, Option.bind_some]
  by_cases h : isW n r = true
  · rw [if_pos h, if_pos h]
  · rw [if_neg h, if_neg h]
theorem spec_raNumber_ev (bs ds : List Int) (hd : digs bs ds = true) (hl : ds.length ≤ 9000000000000000000) : Ev (fun k => spec_raNumber.f k bs ds) (rkgo 0 bs ds) := by
  have hlen := digs_length hd
  have key : ∀ suf pre, ds = pre ++ suf → ∀ (r : Int) (p s : List Int), bs = p ++ s → p.length = pre.length → s.length = suf.length → Ev (fun k => spec_raNumber.l0 k bs r ds (ds.length : Int) (pre.length : Int)) (rkgo r s suf) := by
    refine range_ind hl (fun pre suf => ∀ (r : Int) (p s : List Int), bs = p ++ s → p.length = pre.length → s.length = suf.length → Ev (fun k => spec_raNumber.l0 k bs r ds (ds.length : Int) (pre.length : Int)) (rkgo r s suf)) ?_ ?_
    · intro r p s hps hpl hsl
      refine ev_shift ?_
      simp only [spec_raNumber.l0]
      exact ev_neg (by omega) (ev_some (by cases s <;> rfl))
    · intro pre x suf hh hx h1 h2 h3 ih r p s hps hpl hsl
      cases s with
      | nil => simp at hsl
      | cons b s =>
        have hrb : rd bs (pre.length : Int) = b := by rw [hps, ← hpl]; exact rd_at _ _ _
        refine ev_shift ?_
        simp only [spec_raNumber.l0, hx, h3, hrb]
        exact ev_pos h1 (ev_pos h2 (ev_pos h1 (ev_pos (by omega) (ih _ (p ++ [b]) s (by simp [hps]) (by simp [hpl]) (by simpa using hsl)))))
  exact key ds [] rfl 0 [] bs rfl rfl hlen.symm
theorem chg_comm (a : List Int) : ∀ b : List Int, chg a b = chg b a := by
  induction a with
  | nil => intro b; cases b <;> rfl
  | cons x a ih =>
    intro b
    cases b with
    | nil => rfl
    | cons y b =>
      simp only [chg, ih b]
      have : adZ x y = adZ y x := by unfold adZ; split <;> split <;> omega
      rw [this]
theorem dig_small : ∀ {bs ds : List Int}, allIn bs 2 12 = true → digs bs ds = true → ∀ y ∈ ds, 0 ≤ y ∧ y ≤ 11 := by
  intro bs
  induction bs with
  | nil => intro ds _ h y hy; cases ds with
    | nil => simp at hy
    | cons d ds => simp [digs] at h
  | cons b bs ih =>
    intro ds hb h y hy
    cases ds with
    | nil => simp at hy
    | cons d ds =>
      simp only [digs, Bool.and_eq_true, inR_iff] at h
      simp only [allIn_cons, Bool.and_eq_true, inR_iff] at hb
      rcases List.mem_cons.1 hy with rfl | hy
      · omega
      · exact ih hb.2 h.2 y hy
theorem spec_l1Abs_ad (x y : Int) (hx : 0 ≤ x ∧ x ≤ 11) (hy : 0 ≤ y ∧ y ≤ 11) : spec_l1Abs.f (wrap64 (x - y)) = some (adZ x y) := by
  unfold spec_l1Abs.f spec_l1Most.f adZ
  rw [w64 (x := x - y) (by omega) (by omega), w64 (x := -(x - y)) (by omega) (by omega)]
  split <;> split <;> simp only [Option.bind_some, Option.some.injEq] <;> omega
theorem spec_gcStep_F (a b : List Int) (hl : a.length = b.length) (h12 : a.length ≤ 2000000) (ha : ∀ y ∈ a, 0 ≤ y ∧ y ≤ 11) (hb : ∀ y ∈ b, 0 ≤ y ∧ y ≤ 11) : Ev (fun k => spec_gcStep.f k a b) (gsF (-1) 0 a b) := by
  unfold spec_gcStep.f
  have key : ∀ suf pre, a = pre ++ suf → ∀ (q s : List Int) (p : Int), b = q ++ s → q.length = pre.length → s.length = suf.length → Ev (fun k => spec_gcStep.l0 k b p a (a.length : Int) (pre.length : Int)) (gsF p (pre.length : Int) suf s) := by
    refine range_ind (by omega) (fun pre suf => ∀ (q s : List Int) (p : Int), b = q ++ s → q.length = pre.length → s.length = suf.length → Ev (fun k => spec_gcStep.l0 k b p a (a.length : Int) (pre.length : Int)) (gsF p (pre.length : Int) suf s)) ?_ ?_
    · intro q s p h1 h2 h3
      refine ev_shift ?_
      simp only [spec_gcStep.l0]
      refine ev_neg (by omega) (ev_some ?_)
      cases s <;> rfl
    · intro pre x suf hh hx g1 g2 g3 ih q s p h1 h2 h3
      cases s with
      | nil => simp at h3
      | cons y s =>
        have hy : rd b (pre.length : Int) = y := by rw [h1, ← h2]; exact rd_at _ _ _
        have hlb : (pre.length : Int) < (b.length : Int) := by rw [h1]; simp; omega
        have el : ((pre ++ [x]).length : Int) = (pre.length : Int) + 1 := by simp
        have hxr := ha x (by rw [hh]; simp)
        have hyr := hb y (by rw [h1]; simp)
        have hn := fun p' => ih (q ++ [y]) s p' (by simp [h1]) (by simp [h2]) (by simpa using h3)
        refine ev_shift ?_
        simp only [spec_gcStep.l0, hx, g3, hy]
        simp only [gsF]
        rw [el] at hn ⊢
        refine ev_pos g1 (ev_pos g2 (ev_pos g1 (ev_pos hlb ?_)))
        by_cases e : x = y
        · rw [if_pos e]
          exact ev_pos e (hn p)
        · rw [if_neg e]
          refine ev_neg e ?_
          by_cases hp : p ≥ 0
          · rw [if_pos (.inl hp)]
            exact ev_pos hp (ev_some rfl)
          · refine ev_neg hp (ev_bind0 (spec_l1Abs_ad x y hxr hyr) ?_)
            by_cases h5 : adZ x y = 1
            · rw [if_neg (by omega)]
              exact ev_pos h5 (hn _)
            · rw [if_pos (.inr h5)]
              exact ev_neg h5 (ev_some rfl)
  exact key a [] rfl [] b (-1) rfl rfl hl.symm
def seenL (N : Nat) (R : List Int) : List Bool := (List.range N).map fun j : Nat => R.contains (j : Int)
theorem seenL_len (N : Nat) (R : List Int) : (seenL N R).length = N := by simp [seenL]
theorem seenL_set {N : Nat} {R : List Int} {r : Int} (h0 : 0 ≤ r) (h1 : r < (N : Int)) : (seenL N R).set r.toNat true = seenL N (r :: R) := by
  unfold seenL
  apply List.ext_getElem
  · simp
  · intro i h2 h3
    simp only [List.length_set, List.length_map, List.length_range] at h2
    rw [List.getElem_set, List.getElem_map, List.getElem_map, List.getElem_range]
    by_cases e : r.toNat = i
    · rw [if_pos e]
      have : r = (i : Int) := by omega
      simp [this]
    · rw [if_neg e]
      have : (i : Int) ≠ r := by omega
      simp [this]
theorem spec_IsMixedList_l1 {N : Nat} {R : List Int} (hN : N ≤ 1000000) : ∀ (c i : Nat) (d : Bool), i + c = N → (d = true ↔ ∀ j : Nat, i ≤ j → j < N → (j : Int) ∈ R) → Ev (fun k => spec_IsMixedList.l1 k (seenL N R) (N : Int) (i : Int)) (d, true) := by
  intro c
  induction c with
  | zero =>
    intro i d hi hd
    refine ev_shift ?_
    simp only [spec_IsMixedList.l1]
    refine ev_neg (by omega) (ev_some ?_)
    rw [hd.2 (fun j h1 h2 => by omega)]
  | succ c ih =>
    intro i d hi hd
    have e1 : wrap64 ((i : Int) + 1) = ((i + 1 : Nat) : Int) := by rw [w64 (by omega) (by omega)]; omega
    have er : rdOf false (seenL N R) (i : Int) = R.contains (i : Int) := by
      unfold rdOf seenL
      rw [Int.toNat_natCast, List.getD_eq_getElem?_getD, List.getElem?_map, List.getElem?_range (by omega)]
      rfl
    refine ev_shift ?_
    simp only [spec_IsMixedList.l1, e1, er, seenL_len]
    refine ev_pos (by omega) (ev_pos (by omega) (ev_pos (by omega) ?_))
    by_cases h : R.contains (i : Int) = true
    · refine ev_pos h (ih (i + 1) d (by omega) ?_)
      rw [hd]
      constructor
      · intro h1 j h2 h3; exact h1 j (by omega) h3
      · intro h1 j h2 h3
        by_cases e : i = j
        · subst e; simpa using h
        · exact h1 j (by omega) h3
    · refine ev_neg h (ev_some ?_)
      cases d with
      | false => rfl
      | true => exact absurd (by simpa using hd.1 rfl i (Nat.le_refl _) (by omega)) h
theorem spec_IsMixedList_l0 {bs : List Int} (hb : areB bs = true) {ls : List (List Int)} (hN : (ls.length : Int) ≤ 1100) (hp : (ls.length : Int) = prod bs) (hr : ∀ l ∈ ls, l.length ≤ 2000000) :
    ∀ suf pre, ls = pre ++ suf → ∀ (pv : Option (List Int)) (R : List Int), (pre = [] ∧ pv = none ∨ ∃ q p, pre = q ++ [p] ∧ pv = some p ∧ digs bs p = true) →
      Ev (fun k => spec_IsMixedList.l0 k bs ls (seenL ls.length R) ls (ls.length : Int) (pre.length : Int)) (okT bs pv suf && decide (∀ j : Nat, j < ls.length → (j : Int) ∈ R ∨ (j : Int) ∈ suf.map (digR bs)), true) := by
  refine rangeL_ind (by omega) (fun pre suf => ∀ (pv : Option (List Int)) (R : List Int), (pre = [] ∧ pv = none ∨ ∃ q p, pre = q ++ [p] ∧ pv = some p ∧ digs bs p = true) →
      Ev (fun k => spec_IsMixedList.l0 k bs ls (seenL ls.length R) ls (ls.length : Int) (pre.length : Int)) (okT bs pv suf && decide (∀ j : Nat, j < ls.length → (j : Int) ∈ R ∨ (j : Int) ∈ suf.map (digR bs)), true)) ?_ ?_
  · intro pv R _
    refine ev_shift ?_
    simp only [spec_IsMixedList.l0, seenL_len]
    refine ev_neg (by omega) ?_
    simp only [okT, Bool.true_and, List.map_nil, List.not_mem_nil, or_false]
    exact spec_IsMixedList_l1 (N := ls.length) (R := R) (by omega) ls.length 0 _ (by omega) (by
      rw [decide_eq_true_eq]
      exact ⟨fun h j _ hj => h j hj, fun h j hj => h j (Nat.zero_le _) hj⟩)
  · intro pre x suf hh hx g1 g2 g3 ih pv R hpv
    have e : rd_L2 ls (pre.length : Int) = x := hx
    have hxl := hr x (by rw [hh]; simp)
    refine ev_shift ?_
    simp only [spec_IsMixedList.l0, e, g3, seenL_len]
    refine ev_pos g1 (ev_pos g2 (ev_pos g1 (ev_bind (spec_raAreDigits_ev bs x (bases_wf hb) (by omega)) ?_)))
    cases hd : digs bs x with
    | false =>
      refine ev_neg (by decide) (ev_some ?_)
      simp [okT, hd]
    | true =>
      refine ev_pos rfl ?_
      have hrk : rkgo 0 bs x = digR bs x := by
        have h1 := rkOf_eq hb hd
        unfold rkOf at h1
        rw [if_pos ⟨hb, hd⟩] at h1
        exact congrArg Prod.fst h1
      have hrg := digR_range hb hd
      have hnum := spec_raNumber_ev bs x hd (by omega)
      rw [hrk] at hnum
      have hgo : nextB pv x = true → Ev (fun k => (spec_raNumber.f k bs x).bind fun t => (if 0 ≤ t then (if t < (ls.length : Int) then (spec_IsMixedList.l0 k bs ls ((seenL ls.length R).set (t : Int).toNat true) ls (ls.length : Int) ((pre ++ [x]).length : Int)) else (none)) else (none))) (okT bs pv (x :: suf) && decide (∀ j : Nat, j < ls.length → (j : Int) ∈ R ∨ (j : Int) ∈ (x :: suf).map (digR bs)), true) := by
        intro hnx
        refine ev_bind hnum (ev_pos hrg.1 (ev_pos (by omega) ?_))
        rw [seenL_set hrg.1 (by omega)]
        have := ih (some x) (digR bs x :: R) (.inr ⟨pre, x, rfl, rfl, hd⟩)
        have e2 : (∀ j : Nat, j < ls.length → (j : Int) ∈ R ∨ (j : Int) ∈ (x :: suf).map (digR bs)) ↔ (∀ j : Nat, j < ls.length → (j : Int) ∈ digR bs x :: R ∨ (j : Int) ∈ suf.map (digR bs)) := by
          simp only [List.map_cons, List.mem_cons]
          constructor
          · intro h j hj
            rcases h j hj with h | h | h
            · exact .inl (.inr h)
            · exact .inl (.inl h)
            · exact .inr h
          · intro h j hj
            rcases h j hj with (h | h) | h
            · exact .inr (.inl h)
            · exact .inl h
            · exact .inr (.inr h)
        simp only [okT, hd, hnx, Bool.true_and]
        rw [decide_eq_decide.2 e2]
        exact this
      rcases hpv with ⟨rfl, rfl⟩ | ⟨q, p, rfl, rfl, hpd⟩
      · exact ev_neg (by simp) (hgo rfl)
      · have hql : ((q ++ [p]).length : Int) = (q.length : Int) + 1 := by simp
        have hlen : ls.length = q.length + 1 + (suf.length + 1) := by rw [hh]; simp; omega
        have hw : wrap64 (((q ++ [p]).length : Int) - 1) = (q.length : Int) := by rw [hql, w64 (by omega) (by omega)]; omega
        have e3 : rd_L2 ls (q.length : Int) = p := by
          have h1 := rdL_at q p (x :: suf)
          have h2 : ls = q ++ p :: (x :: suf) := by rw [hh]; simp
          rw [← h2] at h1
          exact h1
        have hpx : p.length = x.length := by rw [digs_length hpd, digs_length hd]
        have ha := (areB_iff.1 hb).2.1
        rw [hw, e3]
        refine ev_pos (by rw [hql]; omega) (ev_pos (by omega) (ev_pos (by omega) (ev_bind (spec_gcStep_F p x hpx (by omega) (dig_small ha hpd) (dig_small ha hd)) ?_)))
        have hg := gsF_one (a := p) (b := x) (i := 0) hpx (Int.le_refl _)
        by_cases c : chg x p = 1
        · refine ev_neg (by have := hg.2 (by rw [chg_comm]; exact c); omega) (hgo ?_)
          simp only [nextB, decide_eq_true_eq]; exact c
        · refine ev_pos (by
            have : ¬ 0 ≤ gsF (-1) 0 p x := fun h => c (by rw [chg_comm]; exact hg.1 h)
            omega) (ev_some ?_)
          have : nextB (some p) x = false := by simp only [nextB, decide_eq_false_iff_not]; exact c
          simp [okT, this]
theorem spec_IsMixedList_ev (bs : List Int) (ls : List (List Int)) (hl : bs.length ≤ 9000000000000000000) (hr : ∀ l ∈ ls, l.length ≤ 2000000) : Ev (fun k => spec_IsMixedList.f k bs ls) (imP bs ls) := by
  unfold spec_IsMixedList.f
  refine ev_bind (spec_raBases_ev bs hl) ?_
  unfold imP
  cases hb : areB bs with
  | false =>
    rw [if_neg (by simp)]
    refine ev_neg (by decide) (ev_shift ?_)
    simp only [spec_IsMixedList.j0]
    exact ev_pos trivial (ev_some rfl)
  | true =>
    refine ev_pos rfl (ev_shift ?_)
    simp only [spec_IsMixedList.j0]
    by_cases hL : (ls.length : Int) ≤ 1100
    · rw [if_pos ⟨trivial, hL⟩, decide_eq_false (show ¬ (ls.length : Int) > 1100 by omega)]
      refine ev_neg (by decide) (ev_bind (spec_raProduct_ev bs hb) ?_)
      by_cases hp : (ls.length : Int) = prod bs
      · rw [if_pos hp]
        refine ev_pos hp (ev_pos (by omega) (ev_pos (by rw [Int.toNat_natCast]; omega) ?_))
        have e0 : List.replicate ((ls.length : Int)).toNat false = seenL ls.length [] := by
          rw [Int.toNat_natCast]
          unfold seenL
          apply List.ext_getElem
          · simp
          · intro i h1 h2
            simp
        rw [e0, ok_same hb hp]
        have := spec_IsMixedList_l0 hb hL hp hr ls [] rfl none [] (.inl ⟨rfl, rfl⟩)
        simp only [List.not_mem_nil, false_or] at this
        exact this
      · rw [if_neg hp]
        exact ev_neg hp (ev_some rfl)
    · rw [if_neg (fun c => hL c.2), decide_eq_true (show (ls.length : Int) > 1100 by omega)]
      exact ev_pos rfl (ev_some rfl)
theorem laws_uSame_ev (l : List Int) (hl : l.length ≤ 9000000000000000000) : Ev (fun k => laws_uSame.f k l l) true := by
  unfold laws_uSame.f
  refine ev_pos rfl ?_
  refine range_all hl (fun pre suf => Ev (fun k => laws_uSame.l0 k l l (l.length : Int) (pre.length : Int)) true) ?_ ?_
  · refine ev_shift ?_
    simp only [laws_uSame.l0]
    exact ev_neg (by omega) (ev_some rfl)
  · intro pre x suf h hx h1 h2 h3 ih
    refine ev_shift ?_
    simp only [laws_uSame.l0, h3]
    exact ev_pos h1 (ev_pos h2 (ev_pos h1 (ev_pos h1 (ev_pos (by trivial) ih))))
theorem stepAt_len {a b : List Int} {j : Nat} (h : stepAt a b j) : a.length = b.length := by
  induction j generalizing a b with
  | zero =>
    cases a with
    | nil => simp [stepAt] at h
    | cons x a => cases b with
      | nil => simp [stepAt] at h
      | cons y b => simp [h.2]
  | succ j ih =>
    cases a with
    | nil => simp [stepAt] at h
    | cons x a => cases b with
      | nil => simp [stepAt] at h
      | cons y b => simp [ih h.2]
theorem stepAt_rd {a b : List Int} {j : Nat} (h : stepAt a b j) : ∀ i : Nat, i < a.length → (i = j → rd b (i : Int) - rd a (i : Int) = 1 ∨ rd b (i : Int) - rd a (i : Int) = -1) ∧ (i ≠ j → rd b (i : Int) - rd a (i : Int) = 0) := by
  induction j generalizing a b with
  | zero =>
    cases a with
    | nil => simp [stepAt] at h
    | cons x a => cases b with
      | nil => simp [stepAt] at h
      | cons y b =>
        intro i hi
        simp only [stepAt] at h
        cases i with
        | zero => simp only [rd_nat, List.getD_cons_zero]; omega
        | succ i => simp only [rd_nat, List.getD_cons_succ, h.2]; omega
  | succ j ih =>
    cases a with
    | nil => simp [stepAt] at h
    | cons x a => cases b with
      | nil => simp [stepAt] at h
      | cons y b =>
        intro i hi
        simp only [stepAt] at h
        cases i with
        | zero => simp only [rd_nat, List.getD_cons_zero]; omega
        | succ i =>
          have := ih h.2 i (by simpa using hi)
          simp only [rd_nat, List.getD_cons_succ] at this ⊢
          omega
theorem impl_NextMixed_last {bs ds : List Int} (hb : areB bs = true) (hd : digs bs ds = true) (hl1 : bs.length ≤ 9000000000000000000) (hl2 : ds.length ≤ 9000000000000000000) (hlast : mixR bs ds + 1 = prod bs) : Ev (fun k => impl_NextMixed.f k bs ds) ([], 0, false) := by
  have hi := impl_MixedRank_ev bs ds hl1 hl2
  have hr := mixR_range hb hd
  have hb' := areB_iff.1 hb
  rw [show mixRk bs ds = (mixR bs ds, true) by unfold mixRk; rw [if_pos ⟨hb, hd⟩]] at hi
  have hlw : (wrap64 (mixR bs ds + 1) == prod bs) = true := by rw [w64 (by omega) (by omega), hlast]; exact beq_self_eq_true _
  unfold impl_NextMixed.f
  refine ev_bind hi (ev_pos (by trivial) (ev_bind (impl_size_ev bs hb) ?_))
  simp only [hlw]
  refine ev_shift ?_
  simp only [impl_NextMixed.j0]
  exact ev_pos (by trivial) (ev_some rfl)
theorem impl_NextMixed_on {bs ds : List Int} (hb : areB bs = true) (hd : digs bs ds = true) (hl1 : bs.length ≤ 9000000000000000000) (hl2 : ds.length ≤ 9000000000000000000) (hlast : mixR bs ds + 1 ≠ prod bs) : ∃ j : Nat, stepAt ds (mixL bs (mixR bs ds + 1)) j ∧ Ev (fun k => impl_NextMixed.f k bs ds) (mixL bs (mixR bs ds + 1), (j : Int), true) := by
  have hi := impl_MixedRank_ev bs ds hl1 hl2
  have hr := mixR_range hb hd
  have hb' := areB_iff.1 hb
  rw [show mixRk bs ds = (mixR bs ds, true) by unfold mixRk; rw [if_pos ⟨hb, hd⟩]] at hi
  have hw : wrap64 (mixR bs ds + 1) = mixR bs ds + 1 := w64 (by omega) (by omega)
  obtain ⟨j, hj⟩ := mixL_step hb (mixR bs ds) hr.1 (by omega)
  rw [mixL_mixR hb hd] at hj
  have hne : ((mixR bs ds + 1) == prod bs) = false := by simpa using hlast
  have hml := mixL_length bs (mixR bs ds + 1)
  refine ⟨j, hj, ?_⟩
  unfold impl_NextMixed.f
  refine ev_bind hi (ev_pos (by trivial) (ev_bind (impl_size_ev bs hb) ?_))
  simp only [hw, hne]
  refine ev_shift ?_
  simp only [impl_NextMixed.j0, hw]
  exact ev_neg (by simp) (ev_bind (impl_mixedAt_ev bs _ hb (by omega) (by omega)) (impl_NextMixed_l0 ds _ j (stepAt_symm hj) (by omega)))
def wF : Int → List Int → Int
  | a, [] => a
  | a, d :: r => wF (wrap64 (wrap64 (2 * a) + d)) r
theorem wF_table : ∀ n : Fin 11, ((List.range (2 ^ n.1)).all fun r => decide (wF 0 (mixL (List.replicate n.1 2) (r : Int)) = Go.bits .xor .i64 (r : Int) ((r : Int) / 2)) && decide (prod (List.replicate n.1 2) = 2 ^ n.1)) = true := by decide +kernel
theorem all_two {l : List Int} (h : (l.all fun b => b == 2) = true) : l = List.replicate l.length 2 := by
  apply List.eq_replicate_iff.2
  exact ⟨rfl, fun b hb => by simpa using List.all_eq_true.1 h b hb⟩
theorem top_two : ∀ n : Fin 11, top (n.1 : Int) + 1 = ((2 ^ n.1 : Nat) : Int) := by decide +kernel
theorem laws_FnMixedLists_j6 {m : List Int} (hm : wfB m) : Ev (fun k => laws_FnMixedLists.j6 k m) true := by
  obtain ⟨bs, ls, e1, u1, u2, u3⟩ := dr_IsMixedList hm
  obtain ⟨ps, qs, e2, v1, v2⟩ := dr_RankOfDigits hm
  obtain ⟨p, p1, p2, p3⟩ := NextMixed_both ps qs (by omega) (by omega)
  have hi : impl_IsMixedList.f bs ls = some (imP bs ls) := by
    unfold impl_IsMixedList.f
    exact if_pos ⟨by omega, by omega, fun l hl => by have := u3 l hl; omega⟩
  have e3 : Ev (fun k => spec_DrawNextMixed.f k m) (ps, qs) := by
    unfold spec_DrawNextMixed.f
    exact ev_bind e2 (ev_some rfl)
  refine ev_shift ?_
  simp only [laws_FnMixedLists.j6]
  exact ev_bind e1 (ev_bind0 hi (ev_bind (spec_IsMixedList_ev bs ls (by omega) (fun l hl => by have := u3 l hl; omega)) (ev_bind e3 (ev_bind p3 (ev_bind p2 (ev_pos (by simp) (ev_pos (by simp) (ev_pos (by simp) (ev_bind (laws_uSame_ev p.1 (by omega)) (ev_pos rfl (ev_some (by simp))))))))))))
theorem laws_FnMixedLists_j3 {m bs : List Int} {r : Int} (hm : wfB m) (hb : areB bs = true) (h0 : 0 ≤ r) (h1 : r < prod bs) : Ev (fun k => laws_FnMixedLists.j3 k m bs r (mixL bs r)) true := by
  have hb' := areB_iff.1 hb
  have hdl := mixL_length bs r
  have key : ∀ suf pre, bs = pre ++ suf → ∀ (fl : Bool) (w : Int) (q s : List Int), mixL bs r = q ++ s → q.length = pre.length → s.length = suf.length → ((fl && suf.all fun b => b == 2) = true → refAt (bs.length : Int) r = (wF w s, true)) → Ev (fun k => laws_FnMixedLists.l1 k m bs r (mixL bs r) fl w bs (bs.length : Int) (pre.length : Int)) true := by
    refine range_ind (by omega) (fun pre suf => ∀ (fl : Bool) (w : Int) (q s : List Int), mixL bs r = q ++ s → q.length = pre.length → s.length = suf.length → ((fl && suf.all fun b => b == 2) = true → refAt (bs.length : Int) r = (wF w s, true)) → Ev (fun k => laws_FnMixedLists.l1 k m bs r (mixL bs r) fl w bs (bs.length : Int) (pre.length : Int)) true) ?_ ?_
    · intro fl w q s h2 h3 h4 h5
      have hs : s = [] := List.length_eq_zero_iff.1 (by simpa using h4)
      subst hs
      refine ev_shift ?_
      simp only [laws_FnMixedLists.l1]
      refine ev_neg (by omega) ?_
      cases fl with
      | false => exact ev_neg (by decide) (laws_FnMixedLists_j6 hm)
      | true =>
        have h6 := h5 rfl
        simp only [wF] at h6
        refine ev_pos rfl (ev_bind0 (impl_ReflectedAt_eq _ _) ?_)
        rw [h6]
        exact ev_pos rfl (ev_pos rfl (laws_FnMixedLists_j6 hm))
    · intro pre x suf hh hx g1 g2 g3 ih fl w q s h2 h3 h4 h5
      cases s with
      | nil => simp at h4
      | cons d s =>
        have hdr : rd (mixL bs r) (pre.length : Int) = d := by rw [h2, ← h3]; exact rd_at _ _ _
        have hlt : (pre.length : Int) < ((mixL bs r).length : Int) := by rw [hdl]; exact g1
        refine ev_shift ?_
        simp only [laws_FnMixedLists.l1, hx, g3, hdr]
        refine ev_pos g1 (ev_pos g2 (ev_pos g1 ?_))
        cases fl with
        | true =>
          refine ev_pos rfl (ev_pos hlt (ih (x == 2) _ (q ++ [d]) s (by simp [h2]) (by simp [h3]) (by simpa using h4) (fun h6 => ?_)))
          have := h5 (by rw [Bool.true_and, List.all_cons]; exact h6)
          simp only [wF] at this
          exact this
        | false =>
          exact ev_neg (by decide) (ev_pos hlt (ih false _ (q ++ [d]) s (by simp [h2]) (by simp [h3]) (by simpa using h4) (fun h6 => by simp at h6)))
  have hj4 : ∀ fl : Bool, (fl = true → 0 < bs.length ∧ bs.length ≤ 10) → Ev (fun k => laws_FnMixedLists.j4 k m bs r (mixL bs r) fl) true := by
    intro fl hfl
    refine ev_shift ?_
    simp only [laws_FnMixedLists.j4]
    refine key bs [] rfl fl 0 [] (mixL bs r) rfl rfl hdl (fun h => ?_)
    simp only [Bool.and_eq_true] at h
    have h2 := hfl h.1
    have h3 := all_two h.2
    have ht := wF_table ⟨bs.length, by omega⟩
    simp only [List.all_eq_true, List.mem_range, Bool.and_eq_true, decide_eq_true_eq] at ht
    rw [← h3] at ht
    have hp := (ht 0 (Nat.two_pow_pos _)).2
    have htop := top_two ⟨bs.length, by omega⟩
    simp only at htop
    have hcast : ((2 ^ bs.length : Nat) : Int) = 2 ^ bs.length := by simp
    obtain ⟨n, rfl⟩ := Int.eq_ofNat_of_zero_le h0
    have hn : n < 2 ^ bs.length := by
      have : (n : Int) < ((2 ^ bs.length : Nat) : Int) := by rw [hcast, ← hp]; exact h1
      exact_mod_cast this
    have he := (ht n hn).1
    unfold refAt
    rw [if_pos (isW_iff.2 ⟨⟨by omega, by omega⟩, by omega, by omega⟩), he]
  refine ev_shift ?_
  simp only [laws_FnMixedLists.j3]
  by_cases hl : (bs.length : Int) > 0
  · exact ev_pos hl (hj4 _ (fun h => by simp only [decide_eq_true_eq] at h; omega))
  · exact ev_neg hl (hj4 _ (fun h => by cases h))
theorem FnMixedLists : laws_FnMixedLists.Pure := by
  intro c m hc1 hc2 hc3 hm1 hm2 hm3
  have hc : c.length ≤ 1000000000000000 := by omega
  apply ev_le
  unfold laws_FnMixedLists.f
  rcases laws_big_eq c m hc3 hm3 (by omega) with hb | ⟨hb, wc, wm⟩
  · exact ev_bind0 hb (ev_pos rfl (ev_some rfl))
  · refine ev_bind0 hb (ev_neg (by decide) ?_)
    obtain ⟨bs, r, ed, hl, hr0, hr1⟩ := dr_DigitsAt wc
    have ed2 : Ev (fun k => spec_DrawMixedAt.f k c) (bs, r) := by
      unfold spec_DrawMixedAt.f
      exact ev_bind ed (ev_some rfl)
    have hlen := mixAt_len bs r
    refine ev_bind ed2 (ev_bind (impl_MixedAt_ev bs r (by omega)) (ev_bind (spec_MixedAt_ev bs r (by omega)) (ev_neg neq_self (ev_bind (laws_uSame_ev _ (by omega)) (ev_shift ?_)))))
    simp only [laws_FnMixedLists.j0, Bool.not_true]
    refine ev_neg (by decide) ?_
    by_cases h : areB bs = true ∧ inR r 0 (prod bs - 1) = true
    · have hB := h.1
      have hB' := areB_iff.1 hB
      have hin := inR_iff.1 h.2
      have hd := mixL_digs hB r hin.1 (by omega)
      have hmr := mixR_mixL hB r hin.1 (by omega)
      have hdl := mixL_length bs r
      have e0 : mixAt bs r = (mixL bs r, true) := by unfold mixAt; rw [if_pos h]
      have e1 : mixRk bs (mixL bs r) = (r, true) := by unfold mixRk; rw [if_pos ⟨hB, hd⟩, hmr]
      have hw : wrap64 (r + 1) = r + 1 := w64 (by omega) (by omega)
      have hrk := impl_MixedRank_ev bs (mixL bs r) (by omega) (by omega)
      rw [e1] at hrk
      rw [e0, hw]
      refine ev_pos rfl (ev_bind hrk ?_)
      by_cases hlast : r + 1 = prod bs
      · have e2 : mixAt bs (r + 1) = ([], false) := by unfold mixAt; rw [if_neg]; rw [inR_iff]; omega
        have hat := impl_MixedAt_ev bs (r + 1) (by omega)
        rw [e2] at hat
        refine ev_bind (impl_NextMixed_last (bs := bs) (ds := mixL bs r) hB hd (by omega) (by omega) (by rw [hmr]; exact hlast)) (ev_bind hat (ev_pos rfl (ev_pos rfl (ev_neg neq_self (ev_bind (laws_uSame_ev [] (by simp)) (ev_shift ?_))))))
        simp only [laws_FnMixedLists.j1, Bool.not_true]
        exact ev_neg (by decide) (ev_neg (by decide) (laws_FnMixedLists_j3 wm hB hin.1 (by omega)))
      · obtain ⟨j, hj, hnx⟩ := impl_NextMixed_on hB hd (by omega) (by omega) (by rw [hmr]; exact hlast)
        rw [hmr] at hj hnx
        have e2 : mixAt bs (r + 1) = (mixL bs (r + 1), true) := by unfold mixAt; rw [if_pos ⟨hB, inR_iff.2 ⟨by omega, by omega⟩⟩]
        have hat := impl_MixedAt_ev bs (r + 1) (by omega)
        rw [e2] at hat
        have hsl := stepAt_len hj
        refine ev_bind hnx (ev_bind hat (ev_pos rfl (ev_pos rfl (ev_neg neq_self (ev_bind (laws_uSame_ev (mixL bs (r + 1)) (by omega)) (ev_shift ?_))))))
        simp only [laws_FnMixedLists.j1, Bool.not_true]
        refine ev_neg (by decide) (ev_pos trivial ?_)
        refine range_all (l := mixL bs r) (by omega) (fun pre suf => Ev (fun k => laws_FnMixedLists.l0 k m bs r (mixL bs r) (mixL bs (r + 1)) (j : Int) (mixL bs r) ((mixL bs r).length : Int) (pre.length : Int)) true) ?_ ?_
        · refine ev_shift ?_
          simp only [laws_FnMixedLists.l0]
          exact ev_neg (by omega) (laws_FnMixedLists_j3 wm hB hin.1 (by omega))
        · intro pre x suf hh hx g1 g2 g3 ih
          have hst := stepAt_rd hj pre.length (by omega)
          rw [hx] at hst
          refine ev_shift ?_
          simp only [laws_FnMixedLists.l0, hx, g3]
          refine ev_pos g1 (ev_pos g2 (ev_pos g1 (ev_pos (by omega) ?_)))
          by_cases hij : pre.length = j
          · refine ev_pos (by omega) ?_
            rcases hst.1 hij with h5 | h5
            · rw [h5, w64 (x := 1) (by omega) (by omega)]
              exact ev_pos rfl ih
            · rw [h5, w64 (x := -1) (by omega) (by omega)]
              exact ev_neg (by decide) (ev_pos rfl ih)
          · refine ev_neg (by omega) ?_
            rw [hst.2 hij, w64 (x := 0) (by omega) (by omega)]
            exact ev_pos rfl ih
    · have e0 : mixAt bs r = ([], false) := by unfold mixAt; rw [if_neg h]
      rw [e0]
      exact ev_neg (by decide) (laws_FnMixedLists_j6 wm)

end Go.Proofs.Ytbibabekmpipdaa.Pure
