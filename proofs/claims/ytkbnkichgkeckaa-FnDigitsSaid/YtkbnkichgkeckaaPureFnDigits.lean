/- The law FnDigits returns true for every two lists of bytes (reach as the row says); no condition of ours. -/
import Derived.Test.YtkbnkichgkeckaaQFnDigitsx5
import Derived.Test.YtkbnkichgkeckaaMth
import Derived.Test.YtkbnkichgkeckaaMthDigL
import Derived.Test.YtkbnkichgkeckaaMthDigits
set_option linter.unusedVariables false
set_option linter.unusedSimpArgs false
namespace Go.Proofs.Ytkbnkichgkeckaa.Pure
open Go.RowKit Go.Proofs.Ytkbnkichgkeckaa.Mth Go.Proofs.Ytkbnkichgkeckaa.PFnDigits Go.Proofs.YtkbnkichgkeckaaW.PrintWords Go.Proofs.YtkbnkichgkeckaaW.PrintLast

theorem wrapU (n : Int) : IntKind.u64.wrap n = n % 18446744073709551616 := by simp [IntKind.wrap, IntKind.bits, IntKind.signed]
def wfB (c : List Int) : Prop := c.length ≤ 1048576 ∧ ∀ x ∈ c, 0 ≤ x ∧ x ≤ 255
theorem wfB_of {c : List Int} (h0 : c.length ≤ 1048576) (h : ∀ x ∈ c, (Lit.int .u8 x).wf = true) : wfB c := by
  refine ⟨h0, fun x hx => ?_⟩
  have := h x hx
  simp only [Lit.wf, Bool.and_eq_true, decide_eq_true_eq] at this
  have e0 : IntKind.min .u8 = 0 := by decide
  have e1 : IntKind.max .u8 = 255 := by decide
  omega
theorem byte_of (x : Int) : 0 ≤ wrap64 (Go.bits .and .u64 ((IntKind.u64.wrap x) / 1099511627776) 255) ∧ wrap64 (Go.bits .and .u64 ((IntKind.u64.wrap x) / 1099511627776) 255) ≤ 255 := by
  have h1 : 0 ≤ IntKind.u64.wrap x / 1099511627776 ∧ IntKind.u64.wrap x / 1099511627776 < 2 ^ 24 := by rw [wrapU]; omega
  have h2 := Go.bits_mask .u64 24 (by decide) (fun n a b => by rw [wrapU]; omega) 8 (by decide) _ h1.1 h1.2
  have h3 : Go.bits .and .u64 ((IntKind.u64.wrap x) / 1099511627776) 255 = (IntKind.u64.wrap x) / 1099511627776 % 2 ^ 8 := h2
  rw [h3, w64 (by omega) (by omega)]
  omega
theorem dr_next {c : List Int} (hc : wfB c) {a : Int} (s : Int) (h0 : 0 ≤ a) (h1 : a ≤ 4000000000000000000) : ∃ r s', spec_l1Cur_next.f c a s = some (r, a + 1, s') ∧ 0 ≤ r ∧ r ≤ 255 := by
  have hl := hc.1
  unfold spec_l1Cur_next.f
  have e : wrap64 (a + 1) = a + 1 := w64 (by omega) (by omega)
  rw [e]
  by_cases h : a < (c.length : Int)
  · rw [if_pos h, if_pos h0, if_pos (by omega)]
    obtain ⟨n, rfl⟩ := Int.eq_ofNat_of_zero_le h0
    have hm := hc.2 _ (rd_mem (l := c) (j := n) (by omega))
    exact ⟨_, _, rfl, by rw [w64 (by omega) (by omega)]; omega, by rw [w64 (by omega) (by omega)]; omega⟩
  · rw [if_neg h, if_neg (by omega)]
    exact ⟨_, _, rfl, (byte_of _).1, (byte_of _).2⟩
theorem dr_pick {c : List Int} (hc : wfB c) {a : Int} (s n : Int) (h0 : 0 ≤ a) (h1 : a ≤ 3999999999999999999) : ∃ r a' s', spec_l1Cur_pick.f c a s n = some (r, a', s') ∧ a ≤ a' ∧ a' ≤ a + 2 ∧ 0 ≤ r ∧ (n ≤ 1 → r = 0) ∧ (1 < n → r < n) := by
  unfold spec_l1Cur_pick.f
  by_cases hn : n ≤ 1
  · rw [if_pos hn]
    exact ⟨0, a, s, rfl, by omega, by omega, by omega, fun _ => rfl, fun h => by omega⟩
  · rw [if_neg hn]
    obtain ⟨x, s1, e1, x0, x1⟩ := dr_next hc s h0 (by omega)
    rw [e1]
    simp only [Option.bind_some]
    by_cases hb : n > 200
    · rw [if_pos hb]
      obtain ⟨y, s2, e2, y0, y1⟩ := dr_next hc s1 (a := a + 1) (by omega) (by omega)
      rw [e2]
      simp only [Option.bind_some]
      rw [if_neg (by omega), w64 (x := x * 256) (by omega) (by omega), w64 (by omega) (by omega)]
      rw [Int.tmod_eq_emod_of_nonneg (by omega)]
      have g0 := Int.emod_nonneg (x * 256 + y) (b := n) (by omega)
      have g1 := Int.emod_lt_of_pos (x * 256 + y) (b := n) (by omega)
      exact ⟨_, _, _, rfl, by omega, by omega, g0, fun h => by omega, fun _ => g1⟩
    · rw [if_neg hb, if_neg (by omega)]
      rw [Int.tmod_eq_emod_of_nonneg (by omega)]
      have g0 := Int.emod_nonneg x (b := n) (by omega)
      have g1 := Int.emod_lt_of_pos x (b := n) (by omega)
      exact ⟨_, _, _, rfl, by omega, by omega, g0, fun h => by omega, fun _ => g1⟩
theorem laws_big_eq (c m : List Int) (hc : ∀ x ∈ c, (Lit.int .u8 x).wf = true) (hm : ∀ x ∈ m, (Lit.int .u8 x).wf = true) (hl : c.length ≤ 9000000000000000000) : laws_big.f c m = some true ∨ (laws_big.f c m = some false ∧ wfB c ∧ wfB m) := by
  unfold laws_big.f
  by_cases h : (c.length : Int) > 1048576
  · exact .inl (if_pos h)
  · rw [if_neg h, w64 (by omega) (by omega)]
    by_cases h2 : (m.length : Int) > 1048576 - (c.length : Int)
    · rw [decide_eq_true h2]; exact .inl rfl
    · rw [decide_eq_false h2]; exact .inr ⟨rfl, wfB_of (by omega) hc, wfB_of (by omega) hm⟩
theorem dr_among {c : List Int} (hc : wfB c) {a : Int} (s : Int) (l : List Int) (hl : 0 < l.length) (h0 : 0 ≤ a) (h1 : a ≤ 3999999999999999999) : ∃ r a' s', spec_l1Cur_among.f c a s l = some (r, a', s') ∧ a ≤ a' ∧ a' ≤ a + 2 ∧ r ∈ l := by
  unfold spec_l1Cur_among.f
  obtain ⟨r, a', s', e, h2, h3, h4, h5, h6⟩ := dr_pick hc s (l.length : Int) h0 h1
  rw [e]
  simp only [Option.bind_some]
  have hr : r < (l.length : Int) := by
    by_cases h : (l.length : Int) ≤ 1
    · have := h5 h; omega
    · exact h6 (by omega)
  rw [if_pos h4, if_pos hr]
  obtain ⟨n, rfl⟩ := Int.eq_ofNat_of_zero_le h4
  exact ⟨_, _, _, rfl, h2, h3, rd_mem (by omega)⟩
theorem dr_bases_l1 (c : List Int) (n : Nat) : ∀ (l : List Int) (a s : Int), l.length + n ≤ 100 → n ≤ 50 → ∃ l', Ev (fun k => spec_l1Cur_bases.l1 k l (n : Int) c a s) (l', a, s) ∧ l'.length ≤ 100 ∧ (∀ x ∈ l', x ∈ l ∨ (-3 ≤ x ∧ x ≤ 13)) := by
  induction n with
  | zero =>
    intro l a s h _
    refine ⟨l, ev_shift ?_, by omega, fun x hx => .inl hx⟩
    simp only [spec_l1Cur_bases.l1]
    exact ev_neg (by omega) (ev_some rfl)
  | succ n ih =>
    intro l a s h h'
    obtain ⟨l', g1, g2, g3⟩ := ih (l ++ [12]) a s (by simp; omega) (by omega)
    refine ⟨l', ev_shift ?_, g2, fun x hx => ?_⟩
    · simp only [spec_l1Cur_bases.l1]
      rw [show wrap64 (((n + 1 : Nat) : Int) - 1) = (n : Int) by rw [w64 (by omega) (by omega)]; omega]
      exact ev_pos (by omega) (ev_pos (by omega) g1)
    · rcases g3 x hx with h2 | h2
      · rcases List.mem_append.1 h2 with h3 | h3
        · exact .inl h3
        · simp only [List.mem_singleton] at h3; exact .inr (by omega)
      · exact .inr h2
theorem dr_bases_l2 (c : List Int) (n : Nat) : ∀ (l : List Int) (a s : Int), l.length + n ≤ 100 → n ≤ 50 → ∃ l', Ev (fun k => spec_l1Cur_bases.l2 k l (n : Int) c a s) (l', a, s) ∧ l'.length ≤ 100 ∧ (∀ x ∈ l', x ∈ l ∨ (-3 ≤ x ∧ x ≤ 13)) := by
  induction n with
  | zero =>
    intro l a s h _
    refine ⟨l, ev_shift ?_, by omega, fun x hx => .inl hx⟩
    simp only [spec_l1Cur_bases.l2]
    exact ev_neg (by omega) (ev_some rfl)
  | succ n ih =>
    intro l a s h h'
    obtain ⟨l', g1, g2, g3⟩ := ih (l ++ [2]) a s (by simp; omega) (by omega)
    refine ⟨l', ev_shift ?_, g2, fun x hx => ?_⟩
    · simp only [spec_l1Cur_bases.l2]
      rw [show wrap64 (((n + 1 : Nat) : Int) - 1) = (n : Int) by rw [w64 (by omega) (by omega)]; omega]
      exact ev_pos (by omega) (ev_pos (by omega) g1)
    · rcases g3 x hx with h2 | h2
      · rcases List.mem_append.1 h2 with h3 | h3
        · exact .inl h3
        · simp only [List.mem_singleton] at h3; exact .inr (by omega)
      · exact .inr h2
theorem dr_bases_l0 {c : List Int} (hc : wfB c) (n : Nat) : ∀ (l : List Int) (a s : Int), l.length + n ≤ 40 → (∀ x ∈ l, -3 ≤ x ∧ x ≤ 13) → 0 ≤ a → a + 2 * (n : Int) ≤ 3999999999999998900 → ∃ l' a' s', Ev (fun k => spec_l1Cur_bases.l0 k l (n : Int) c a s) (l', a', s') ∧ a ≤ a' ∧ a' ≤ a + 2 * (n : Int) + 6 ∧ l'.length ≤ 100 ∧ (∀ x ∈ l', -3 ≤ x ∧ x ≤ 13) := by
  induction n with
  | zero =>
    intro l a s h hl h0 h1
    obtain ⟨x, a1, s1, e1, u2, u3, u4, u5, u6⟩ := dr_pick hc s 20 h0 (by omega)
    by_cases c0 : x = 0
    · obtain ⟨r, a2, s2, e2, g2, g3, g4⟩ := dr_among hc s1 [0, 1, -3, 12, 13] (by decide) (a := a1) (by omega) (by omega)
      refine ⟨l ++ [r], a2, s2, ev_shift ?_, by omega, by omega, by simp; omega, ?_⟩
      · simp only [spec_l1Cur_bases.l0]
        exact ev_neg (by omega) (ev_bind0 e1 (ev_pos c0 (ev_bind0 e2 (ev_pos (by omega) (ev_some rfl)))))
      · intro y hy
        rcases List.mem_append.1 hy with h3 | h3
        · exact hl y h3
        · simp only [List.mem_singleton] at h3
          simp only [List.mem_cons, List.not_mem_nil, or_false] at g4
          omega
    by_cases c1 : x = 1
    · obtain ⟨r, a2, s2, e2, g2, g3, g4, g5, g6⟩ := dr_pick hc s1 3 (a := a1) (by omega) (by omega)
      have := g6 (by decide)
      obtain ⟨m, rfl⟩ := Int.eq_ofNat_of_zero_le g4
      obtain ⟨l', k1, k2, k3⟩ := dr_bases_l1 c (5 + m) l a2 s2 (by omega) (by omega)
      refine ⟨l', a2, s2, ev_shift ?_, by omega, by omega, by omega, ?_⟩
      · simp only [spec_l1Cur_bases.l0]
        refine ev_neg (by omega) (ev_bind0 e1 (ev_neg c0 (ev_pos c1 (ev_bind0 e2 ?_))))
        dsimp only
        rw [show wrap64 (5 + (m : Int)) = ((5 + m : Nat) : Int) by rw [w64 (by omega) (by omega)]; omega]
        exact k1
      · intro y hy
        rcases k3 y hy with h3 | h3
        · exact hl y h3
        · exact h3
    by_cases c2 : x = 2
    · obtain ⟨r, a2, s2, e2, g2, g3, g4, g5, g6⟩ := dr_pick hc s1 2 (a := a1) (by omega) (by omega)
      have := g6 (by decide)
      obtain ⟨m, rfl⟩ := Int.eq_ofNat_of_zero_le g4
      obtain ⟨l', k1, k2, k3⟩ := dr_bases_l2 c (12 + m) [] a2 s2 (by simp; omega) (by omega)
      refine ⟨l', a2, s2, ev_shift ?_, by omega, by omega, by omega, ?_⟩
      · simp only [spec_l1Cur_bases.l0]
        refine ev_neg (by omega) (ev_bind0 e1 (ev_neg c0 (ev_neg c1 (ev_pos c2 (ev_bind0 e2 ?_)))))
        dsimp only
        rw [show wrap64 (12 + (m : Int)) = ((12 + m : Nat) : Int) by rw [w64 (by omega) (by omega)]; omega]
        exact k1
      · intro y hy
        rcases k3 y hy with h3 | h3
        · simp at h3
        · exact h3
    · refine ⟨l, a1, s1, ev_shift ?_, by omega, by omega, by omega, hl⟩
      simp only [spec_l1Cur_bases.l0]
      exact ev_neg (by omega) (ev_bind0 e1 (ev_neg c0 (ev_neg c1 (ev_neg c2 (ev_some rfl)))))
  | succ n ih =>
    intro l a s h hl h0 h1
    obtain ⟨x, a1, s1, e1, u2, u3, u4, u5, u6⟩ := dr_pick hc s 4 h0 (by omega)
    have := u6 (by decide)
    obtain ⟨l', a', s', k1, k2, k3, k4, k5⟩ := ih (l ++ [2 + x]) a1 s1 (by simp; omega) (by
      intro y hy
      rcases List.mem_append.1 hy with h3 | h3
      · exact hl y h3
      · simp only [List.mem_singleton] at h3; omega) (by omega) (by omega)
    refine ⟨l', a', s', ev_shift ?_, by omega, by omega, k4, k5⟩
    simp only [spec_l1Cur_bases.l0]
    refine ev_pos (by omega) (ev_bind0 e1 (ev_pos (by omega) ?_))
    dsimp only
    rw [show wrap64 (((n + 1 : Nat) : Int) - 1) = (n : Int) by rw [w64 (by omega) (by omega)]; omega, w64 (x := 2 + x) (by omega) (by omega)]
    exact k1
theorem dr_bases {c : List Int} (hc : wfB c) (m : Int) (hm0 : 0 ≤ m) (hm : m ≤ 20) (a s : Int) (h0 : 0 ≤ a) (h1 : a ≤ 3999999999999990000) : ∃ l' a' s', Ev (fun k => spec_l1Cur_bases.f k c a s m) (l', a', s') ∧ a ≤ a' ∧ a' ≤ a + 60 ∧ l'.length ≤ 100 ∧ (∀ x ∈ l', -3 ≤ x ∧ x ≤ 13) := by
  unfold spec_l1Cur_bases.f
  rw [w64 (by omega) (by omega)]
  obtain ⟨x, a1, s1, e1, u2, u3, u4, u5, u6⟩ := dr_pick hc s (m + 1) h0 (by omega)
  have hx : x ≤ 20 := by
    by_cases h : m + 1 ≤ 1
    · have := u5 h; omega
    · have := u6 (by omega); omega
  obtain ⟨n, rfl⟩ := Int.eq_ofNat_of_zero_le u4
  obtain ⟨l', a', s', k1, k2, k3, k4, k5⟩ := dr_bases_l0 hc n [] a1 s1 (by simp; omega) (by simp) (by omega) (by omega)
  exact ⟨l', a', s', ev_bind0 e1 k1, by omega, by omega, k4, k5⟩
theorem w64r (x : Int) : -9223372036854775808 ≤ wrap64 x ∧ wrap64 x ≤ 9223372036854775807 := by unfold wrap64; omega
theorem dr_rank {c : List Int} (hc : wfB c) {a : Int} (s n : Int) (hn : -9223372036854775808 ≤ n) (hn1 : n ≤ 9223372036854775807) (h0 : 0 ≤ a) (h1 : a ≤ 3999999999999999000) : ∃ r a' s', spec_l1Cur_rank.f c a s n = some (r, a', s') ∧ a ≤ a' ∧ a' ≤ a + 8 ∧ -9223372036854775808 ≤ r ∧ r ≤ 9223372036854775807 := by
  unfold spec_l1Cur_rank.f
  obtain ⟨x, a1, s1, e1, u2, u3, u4, u5, u6⟩ := dr_pick hc s 12 h0 (by omega)
  rw [e1]
  simp only [Option.bind_some]
  by_cases c0 : x = 0
  · rw [if_pos c0]
    obtain ⟨r, a2, s2, e2, g2, g3, g4⟩ := dr_among hc s1 [-1, n, wrap64 (n + 1), 4611686018427387904] (by simp) (a := a1) (by omega) (by omega)
    rw [e2]
    have hw := w64r (n + 1)
    generalize hq : wrap64 (n + 1) = q at g4 hw e2; clear hq
    simp only [List.mem_cons, List.not_mem_nil, or_false] at g4
    exact ⟨_, _, _, rfl, by dsimp only; omega, by dsimp only; omega, by dsimp only; omega, by dsimp only; omega⟩
  rw [if_neg c0]
  by_cases c1 : x = 1
  · rw [if_pos c1]
    have hw := w64r (n - 1)
    exact ⟨_, _, _, rfl, by omega, by omega, by omega, by omega⟩
  rw [if_neg c1]
  by_cases c2 : x = 2
  · rw [if_pos c2]
    exact ⟨_, _, _, rfl, by omega, by omega, by omega, by omega⟩
  rw [if_neg c2]
  by_cases c3 : n < 2
  · rw [if_pos c3]
    exact ⟨_, _, _, rfl, by omega, by omega, by omega, by omega⟩
  rw [if_neg c3]
  obtain ⟨y, a2, s2, e2, v2, v3, v4, v5, v6⟩ := dr_pick hc s1 60000 (a := a1) (by omega) (by omega)
  rw [e2]
  simp only [Option.bind_some]
  obtain ⟨z, a3, s3, e3, w2, w3, w4, w5, w6⟩ := dr_pick hc s2 60000 (a := a2) (by omega) (by omega)
  rw [e3]
  simp only [Option.bind_some]
  have := v6 (by decide); have := w6 (by decide)
  rw [if_neg (by omega), w64 (x := y * 60000) (by omega) (by omega), w64 (by omega) (by omega), Int.tmod_eq_emod_of_nonneg (by omega)]
  have g0 := Int.emod_nonneg (y * 60000 + z) (b := n) (by omega)
  have g1 := Int.emod_lt_of_pos (y * 60000 + z) (b := n) (by omega)
  exact ⟨_, _, _, rfl, by omega, by omega, by omega, by omega⟩
theorem spec_raProduct_F (l : List Int) (h : allIn l 2 12 = true) (hl : l.length ≤ 9000000000000000000) : Ev (fun k => spec_raProduct.f k l) (prF 1 l) := by
  have hge := allIn_iff.1 h
  have key : ∀ suf pre, l = pre ++ suf → ∀ acc : Int, 1 ≤ acc → acc ≤ 1000000 → Ev (fun k => spec_raProduct.l0 k acc l (l.length : Int) (pre.length : Int)) (prF acc suf) := by
    refine range_ind hl (fun pre suf => ∀ acc : Int, 1 ≤ acc → acc ≤ 1000000 → Ev (fun k => spec_raProduct.l0 k acc l (l.length : Int) (pre.length : Int)) (prF acc suf)) ?_ ?_
    · intro acc _ _
      refine ev_shift ?_
      simp only [spec_raProduct.l0]
      exact ev_neg (by omega) (ev_some rfl)
    · intro pre x suf hh hx h1 h2 h3 ih acc a0 a1
      have hx0 := hge x (by rw [hh]; simp)
      have hm := acc_mul a0 (by omega) hx0.1 hx0.2
      refine ev_shift ?_
      simp only [spec_raProduct.l0, hx, h3]
      rw [w64 (by omega) (by omega)]
      refine ev_pos h1 (ev_pos h2 (ev_pos h1 ?_))
      simp only [prF]
      by_cases hc : acc * x > 1000000
      · rw [if_pos hc]; exact ev_pos hc (ev_some rfl)
      · rw [if_neg hc]; exact ev_neg hc (ih _ (by omega) (by omega))
  exact key l [] rfl 1 (by omega) (by omega)
theorem spec_raProduct_ev (l : List Int) (h : areB l = true) : Ev (fun k => spec_raProduct.f k l) (prod l) := by
  have h' := areB_iff.1 h
  have := spec_raProduct_F l h'.2.1 (by omega)
  rw [(prF_eq h'.2.1 1 (by omega) (by omega)).1 (by rw [Int.one_mul]; exact h'.2.2), Int.one_mul] at this
  exact this
theorem dr_product (l : List Int) (hl : l.length ≤ 9000000000000000000) : ∃ p, Ev (fun k => spec_raProduct.f k l) p ∧ -9223372036854775808 ≤ p ∧ p ≤ 9223372036854775807 := by
  have key : ∀ suf pre, l = pre ++ suf → ∀ acc : Int, (-9223372036854775808 ≤ acc ∧ acc ≤ 9223372036854775807) → ∃ p, Ev (fun k => spec_raProduct.l0 k acc l (l.length : Int) (pre.length : Int)) p ∧ -9223372036854775808 ≤ p ∧ p ≤ 9223372036854775807 := by
    refine range_ind hl (fun pre suf => ∀ acc : Int, (-9223372036854775808 ≤ acc ∧ acc ≤ 9223372036854775807) → ∃ p, Ev (fun k => spec_raProduct.l0 k acc l (l.length : Int) (pre.length : Int)) p ∧ -9223372036854775808 ≤ p ∧ p ≤ 9223372036854775807) ?_ ?_
    · intro acc ha
      refine ⟨acc, ev_shift ?_, ha⟩
      simp only [spec_raProduct.l0]
      exact ev_neg (by omega) (ev_some rfl)
    · intro pre x suf hh hx h1 h2 h3 ih acc ha
      have hw := w64r (acc * x)
      by_cases hc : wrap64 (acc * x) > 1000000
      · refine ⟨_, ev_shift ?_, hw⟩
        simp only [spec_raProduct.l0, hx, h3]
        exact ev_pos h1 (ev_pos h2 (ev_pos h1 (ev_pos hc (ev_some rfl))))
      · obtain ⟨p, g1, g2⟩ := ih _ hw
        refine ⟨p, ev_shift ?_, g2⟩
        simp only [spec_raProduct.l0, hx, h3]
        exact ev_pos h1 (ev_pos h2 (ev_pos h1 (ev_neg hc g1)))
  exact key l [] rfl 1 (by omega)
theorem dr_DigitsAt {c : List Int} (hc : wfB c) : ∃ bs r, Ev (fun k => spec_DrawDigitsAt.f k c) (bs, r) ∧ bs.length ≤ 100 ∧ -9223372036854775808 ≤ r ∧ r ≤ 9223372036854775807 := by
  unfold spec_DrawDigitsAt.f
  obtain ⟨bs, a1, s1, e1, u1, u2, u3, u4⟩ := dr_bases hc 5 (by decide) (by decide) 0 0 (by decide) (by decide)
  obtain ⟨p, e2, v1, v2⟩ := dr_product bs (by omega)
  obtain ⟨r, a2, s2, e3, w1, w2, w3, w4⟩ := dr_rank hc s1 p v1 v2 (a := a1) (by omega) (by omega)
  exact ⟨bs, r, ev_bind e1 (ev_bind e2 (ev_bind0 e3 (ev_some rfl))), by omega, w3, w4⟩
theorem dr_one {c : List Int} (hc : wfB c) {a : Int} (s n : Int) (h0 : 0 ≤ a) (h1 : a ≤ 3999999999999999999) : ∃ r a' s', spec_l1Cur_one.f c a s n = some (r, a', s') ∧ a ≤ a' ∧ a' ≤ a + 2 := by
  unfold spec_l1Cur_one.f
  obtain ⟨r, a', s', e, h2, h3, _⟩ := dr_pick hc s n h0 h1
  rw [e]
  exact ⟨_, _, _, rfl, h2, h3⟩
theorem spec_l1Most_eq (a b : Int) : spec_l1Most.f a b = some (if a > b then a else b) := by
  unfold spec_l1Most.f
  split <;> rfl
theorem dr_RankOfDigits_j2 {c : List Int} (hc : wfB c) (bs ds : List Int) (b : Bool) (a s : Int) (h0 : 0 ≤ a) (h1 : a ≤ 3999999999999999000) (hb : b = true → 0 < ds.length) : ∃ ds', Ev (fun k => spec_DrawRankOfDigits.j2 k bs ds b c a s) (bs, ds') ∧ ds'.length = ds.length := by
  cases b
  · refine ⟨ds, ev_shift ?_, rfl⟩
    simp only [spec_DrawRankOfDigits.j2]
    exact ev_neg Bool.false_ne_true (ev_some rfl)
  · have hp := hb rfl
    obtain ⟨x, a1, s1, e1, u2, u3, u4, u5, u6⟩ := dr_pick hc s (ds.length : Int) h0 (by omega)
    obtain ⟨y, a2, s2, e2, v2, v3, v4⟩ := dr_among hc s1 [-1, 12, 2] (by decide) (a := a1) (by omega) (by omega)
    have hx : x < (ds.length : Int) := by
      by_cases h : (ds.length : Int) ≤ 1
      · have := u5 h; omega
      · exact u6 (by omega)
    refine ⟨ds.set x.toNat y, ev_shift ?_, by simp⟩
    simp only [spec_DrawRankOfDigits.j2]
    exact ev_pos (by trivial) (ev_bind0 e1 (ev_bind0 e2 (ev_pos u4 (ev_pos hx (ev_some rfl)))))
theorem dr_RankOfDigits_j1 {c : List Int} (hc : wfB c) (bs ds : List Int) (a s : Int) (h0 : 0 ≤ a) (h1 : a ≤ 3999999999999998000) : ∃ ds', Ev (fun k => spec_DrawRankOfDigits.j1 k bs ds c a s) (bs, ds') ∧ ds'.length = ds.length := by
  by_cases h : (ds.length : Int) > 0
  · obtain ⟨x, a1, s1, e1, u2, u3⟩ := dr_one hc s 12 h0 (by omega)
    obtain ⟨ds', g1, g2⟩ := dr_RankOfDigits_j2 hc bs ds x a1 s1 (by omega) (by omega) (fun _ => by omega)
    refine ⟨ds', ev_shift ?_, g2⟩
    simp only [spec_DrawRankOfDigits.j1]
    exact ev_pos h (ev_bind0 e1 g1)
  · obtain ⟨ds', g1, g2⟩ := dr_RankOfDigits_j2 hc bs ds false a s (by omega) (by omega) (fun h => by cases h)
    refine ⟨ds', ev_shift ?_, g2⟩
    simp only [spec_DrawRankOfDigits.j1]
    exact ev_neg h g1
theorem dr_RankOfDigits {c : List Int} (hc : wfB c) : ∃ bs ds, Ev (fun k => spec_DrawRankOfDigits.f k c) (bs, ds) ∧ bs.length ≤ 100 ∧ ds.length ≤ 200 := by
  unfold spec_DrawRankOfDigits.f
  obtain ⟨bs, a1, s1, e1, u1, u2, u3, u4⟩ := dr_bases hc 5 (by decide) (by decide) 0 0 (by decide) (by decide)
  have key : ∀ suf pre, bs = pre ++ suf → ∀ (ds : List Int) (a s : Int), ds.length = pre.length → 0 ≤ a → a ≤ 1000 + 2 * (pre.length : Int) → ∃ ds', Ev (fun k => spec_DrawRankOfDigits.l0 k bs ds bs (bs.length : Int) (pre.length : Int) c a s) (bs, ds') ∧ ds'.length ≤ 200 := by
    refine range_ind (by omega) (fun pre suf => ∀ (ds : List Int) (a s : Int), ds.length = pre.length → 0 ≤ a → a ≤ 1000 + 2 * (pre.length : Int) → ∃ ds', Ev (fun k => spec_DrawRankOfDigits.l0 k bs ds bs (bs.length : Int) (pre.length : Int) c a s) (bs, ds') ∧ ds'.length ≤ 200) ?_ ?_
    · intro ds a s hd h0 h1
      obtain ⟨x, a2, s2, e2, v2, v3⟩ := dr_one hc s 12 h0 (by omega)
      cases x
      · obtain ⟨ds', g1, g2⟩ := dr_RankOfDigits_j1 hc bs ds a2 s2 (by omega) (by omega)
        refine ⟨ds', ev_shift ?_, by omega⟩
        simp only [spec_DrawRankOfDigits.l0]
        exact ev_neg (by omega) (ev_bind0 e2 (ev_neg Bool.false_ne_true g1))
      · obtain ⟨ds', g1, g2⟩ := dr_RankOfDigits_j1 hc bs (ds ++ [0]) a2 s2 (by omega) (by omega)
        simp only [List.length_append, List.length_singleton] at g2
        refine ⟨ds', ev_shift ?_, by omega⟩
        simp only [spec_DrawRankOfDigits.l0]
        exact ev_neg (by omega) (ev_bind0 e2 (ev_pos (by trivial) (ev_pos (by omega) g1)))
    · intro pre x suf hh hx h1 h2 h3 ih ds a s hd h0 ha
      obtain ⟨y, a2, s2, e2, v2, v3, v4, v5, v6⟩ := dr_pick hc s (if (1 : Int) > x then 1 else x) h0 (by omega)
      obtain ⟨ds', g1, g2⟩ := ih (ds ++ [y]) a2 s2 (by simp [hd]) (by omega) (by simp only [List.length_append, List.length_singleton]; omega)
      refine ⟨ds', ev_shift ?_, g2⟩
      simp only [spec_DrawRankOfDigits.l0, hx, h3]
      exact ev_pos h1 (ev_pos h2 (ev_pos h1 (ev_bind0 (spec_l1Most_eq _ _) (ev_bind0 e2 (ev_pos (by omega) g1)))))
  obtain ⟨ds', g1, g2⟩ := key bs [] rfl [] a1 s1 rfl (by omega) (by simp only [List.length_nil]; omega)
  exact ⟨bs, ds', ev_bind e1 g1, u3, g2⟩
theorem impl_within_eq (a b c : Int) : impl_within.f a b c = some (inR a b c) := in_ite a b c
theorem impl_allWithin_ev (l : List Int) (lo hi : Int) (hl : l.length ≤ 9000000000000000000) : Ev (fun k => impl_allWithin.f k l lo hi) (allIn l lo hi) := by
  refine range_all hl (fun pre suf => Ev (fun k => impl_allWithin.l0 k lo hi l (l.length : Int) (pre.length : Int)) (allIn suf lo hi)) ?_ ?_
  · refine ev_shift ?_
    simp only [impl_allWithin.l0]
    exact ev_neg (by omega) (ev_some rfl)
  · intro pre x suf h hx h1 h2 h3 ih
    refine ev_shift ?_
    simp only [impl_allWithin.l0, hx, h3, impl_within_eq, Option.bind_some, allIn_cons]
    refine ev_pos h1 (ev_pos h2 (ev_pos h1 ?_))
    cases inR x lo hi with
    | true => exact ev_pos rfl ih
    | false => exact ev_neg (by simp) (ev_some rfl)
theorem impl_size_F (l : List Int) (h : allIn l 2 12 = true) (hl : l.length ≤ 9000000000000000000) : Ev (fun k => impl_size.f k l) (sizeF 1 l) := by
  have hge := allIn_iff.1 h
  have key : ∀ suf pre, l = pre ++ suf → ∀ acc : Int, 1 ≤ acc → acc ≤ 1000001 → Ev (fun k => impl_size.l0 k acc l (l.length : Int) (pre.length : Int)) (sizeF acc suf) := by
    refine range_ind hl (fun pre suf => ∀ acc : Int, 1 ≤ acc → acc ≤ 1000001 → Ev (fun k => impl_size.l0 k acc l (l.length : Int) (pre.length : Int)) (sizeF acc suf)) ?_ ?_
    · intro acc _ _
      refine ev_shift ?_
      simp only [impl_size.l0]
      exact ev_neg (by omega) (ev_some rfl)
    · intro pre x suf hh hx h1 h2 h3 ih acc a0 a1
      have hx0 := hge x (by rw [hh]; simp)
      have hm := acc_mul a0 a1 hx0.1 hx0.2
      refine ev_shift ?_
      simp only [impl_size.l0, hx, h3]
      rw [w64 (by omega) (by omega)]
      refine ev_pos h1 (ev_pos h2 (ev_pos h1 ?_))
      simp only [sizeF]
      refine ih _ ?_ ?_
      · unfold mn; split <;> omega
      · unfold mn; split <;> omega
  exact key l [] rfl 1 (by omega) (by omega)
theorem impl_size_ev (l : List Int) (h : areB l = true) : Ev (fun k => impl_size.f k l) (prod l) := by
  have h' := areB_iff.1 h
  have := impl_size_F l h'.2.1 (by omega)
  rw [sizeF_eq h'.2.1 1 (by omega) (by omega), Int.one_mul, if_pos h'.2.2] at this
  exact this
theorem impl_areBases_ev (l : List Int) (hl : l.length ≤ 9000000000000000000) : Ev (fun k => impl_areBases.f k l) (areB l) := by
  unfold impl_areBases.f areB
  by_cases hlen : (l.length : Int) ≤ 12
  · refine ev_pos hlen (ev_bind (impl_allWithin_ev l 2 12 hl) ?_)
    cases ha : allIn l 2 12 with
    | false => exact ev_neg (by simp) (ev_some (by simp))
    | true =>
      refine ev_pos rfl (ev_bind (impl_size_F l ha hl) (ev_some ?_))
      rw [sizeF_eq ha 1 (by omega) (by omega), Int.one_mul]
      rw [decide_eq_true hlen, Bool.true_and, Bool.true_and]
      by_cases hp : prod l ≤ 1000000
      · rw [if_pos hp]
      · rw [if_neg hp, decide_eq_false hp]; decide
  · exact ev_neg hlen (ev_some (by rw [decide_eq_false hlen]; rfl))
theorem spec_l1In_eq (a b c : Int) : spec_l1In.f a b c = some (inR a b c) := in_ite a b c
theorem spec_l1All_ev (l : List Int) (lo hi : Int) (hl : l.length ≤ 9000000000000000000) : Ev (fun k => spec_l1All.f k l lo hi) (allIn l lo hi) := by
  refine range_all hl (fun pre suf => Ev (fun k => spec_l1All.l0 k lo hi l (l.length : Int) (pre.length : Int)) (allIn suf lo hi)) ?_ ?_
  · refine ev_shift ?_
    simp only [spec_l1All.l0]
    exact ev_neg (by omega) (ev_some rfl)
  · intro pre x suf h hx h1 h2 h3 ih
    refine ev_shift ?_
    simp only [spec_l1All.l0, hx, h3, spec_l1In_eq, Option.bind_some, allIn_cons]
    refine ev_pos h1 (ev_pos h2 (ev_pos h1 ?_))
    cases inR x lo hi with
    | true => exact ev_pos rfl ih
    | false => exact ev_neg (by simp) (ev_some rfl)
theorem spec_raBases_ev (l : List Int) (hl : l.length ≤ 9000000000000000000) : Ev (fun k => spec_raBases.f k l) (areB l) := by
  unfold spec_raBases.f areB
  by_cases hlen : (l.length : Int) ≤ 12
  · refine ev_pos hlen (ev_bind (spec_l1All_ev l 2 12 hl) ?_)
    cases ha : allIn l 2 12 with
    | false => exact ev_neg (by simp) (ev_some (by simp))
    | true =>
      refine ev_pos rfl (ev_bind (spec_raProduct_F l ha hl) (ev_some ?_))
      obtain ⟨g1, g2⟩ := prF_eq ha 1 (by omega) (by omega)
      rw [Int.one_mul] at g1 g2
      rw [decide_eq_true hlen, Bool.true_and, Bool.true_and]
      by_cases hp : prod l ≤ 1000000
      · rw [g1 hp]
      · have := g2 hp
        rw [decide_eq_false hp, decide_eq_false (by omega)]
  · exact ev_neg hlen (ev_some (by rw [decide_eq_false hlen]; rfl))
theorem spec_raDigits_l0 (bs : List Int) (hb : areB bs = true) (j : Nat) : ∀ (r : Int) (out : List Int), j ≤ bs.length → out.length = bs.length → Ev (fun k => spec_raDigits.l0 k bs r out ((j : Int) - 1)) (dgo bs j r out) := by
  have hb' := areB_iff.1 hb
  induction j with
  | zero =>
    intro r out _ _
    refine ev_shift ?_
    simp only [spec_raDigits.l0]
    exact ev_neg (by omega) (ev_some rfl)
  | succ j ih =>
    intro r out hj ho
    have e : (((j + 1 : Nat) : Int) - 1) = (j : Int) := by omega
    have hm := allIn_iff.1 hb'.2.1 _ (rd_mem (l := bs) (j := j) (by omega))
    refine ev_shift ?_
    simp only [spec_raDigits.l0, e]
    refine ev_pos (by omega) (ev_pos (by omega) (ev_pos (by omega) (ev_neg (by omega) (ev_pos (by omega) ?_))))
    rw [w64 (x := (j : Int) - 1) (by omega) (by omega), Int.toNat_natCast]
    exact ih _ _ (by omega) (by simp [ho])
theorem spec_raDigits_ev (bs : List Int) (r : Int) (hb : areB bs = true) : Ev (fun k => spec_raDigits.f k bs r) (dgo bs bs.length r (List.replicate bs.length 0)) := by
  have hb' := areB_iff.1 hb
  unfold spec_raDigits.f
  refine ev_pos (by omega) (ev_pos (by omega) ?_)
  rw [w64 (by omega) (by omega), Int.toNat_natCast]
  exact spec_raDigits_l0 bs hb bs.length r _ (Nat.le_refl _) (by simp)
theorem impl_DigitsAt_l0 (bs : List Int) (hb : areB bs = true) (j : Nat) : ∀ (r : Int) (out : List Int), j ≤ bs.length → out.length = bs.length → Ev (fun k => impl_DigitsAt.l0 k bs r out ((j : Int) - 1)) (dgo bs j r out, true) := by
  have hb' := areB_iff.1 hb
  induction j with
  | zero =>
    intro r out _ _
    refine ev_shift ?_
    simp only [impl_DigitsAt.l0]
    exact ev_neg (by omega) (ev_some rfl)
  | succ j ih =>
    intro r out hj ho
    have e : (((j + 1 : Nat) : Int) - 1) = (j : Int) := by omega
    have hm := allIn_iff.1 hb'.2.1 _ (rd_mem (l := bs) (j := j) (by omega))
    refine ev_shift ?_
    simp only [impl_DigitsAt.l0, e]
    refine ev_pos (by omega) (ev_pos (by omega) (ev_pos (by omega) (ev_neg (by omega) (ev_pos (by omega) ?_))))
    rw [w64 (x := (j : Int) - 1) (by omega) (by omega), Int.toNat_natCast]
    exact ih _ _ (by omega) (by simp [ho])
theorem spec_DigitsAt_ev (bs : List Int) (r : Int) (hl : bs.length ≤ 9000000000000000000) : Ev (fun k => spec_DigitsAt.f k bs r) (digsAt bs r) := by
  unfold spec_DigitsAt.f digsAt
  refine ev_bind (spec_raBases_ev bs hl) ?_
  by_cases hb : areB bs = true
  · have hb' := areB_iff.1 hb
    have hp := prod_pos hb'.2.1
    refine ev_pos hb (ev_bind (spec_raProduct_ev bs hb) ?_)
    rw [w64 (by omega) (by omega)]
    refine ev_bind0 (spec_l1In_eq _ _ _) ?_
    by_cases h : inR r 0 (prod bs - 1) = true
    · rw [if_pos ⟨hb, h⟩]
      exact ev_pos h (ev_bind (spec_raDigits_ev bs r hb) (ev_some rfl))
    · rw [if_neg (fun c => h c.2)]
      exact ev_neg h (ev_some rfl)
  · rw [if_neg (fun c => hb c.1)]
    exact ev_neg hb (ev_some rfl)
theorem impl_DigitsAt_ev (bs : List Int) (r : Int) (hl : bs.length ≤ 9000000000000000000) : Ev (fun k => impl_DigitsAt.f k bs r) (digsAt bs r) := by
  have bad : Ev (fun k => impl_DigitsAt.j0 k bs r true) ([], false) := by
    refine ev_shift ?_
    simp only [impl_DigitsAt.j0]
    exact ev_pos (by trivial) (ev_some rfl)
  unfold impl_DigitsAt.f digsAt
  refine ev_bind (impl_areBases_ev bs hl) ?_
  by_cases hb : areB bs = true
  · have hb' := areB_iff.1 hb
    have hp := prod_pos hb'.2.1
    refine ev_pos hb (ev_bind (impl_size_ev bs hb) ?_)
    rw [w64 (by omega) (by omega)]
    refine ev_bind0 (impl_within_eq _ _ _) ?_
    by_cases h : inR r 0 (prod bs - 1) = true
    · rw [if_pos ⟨hb, h⟩, h]
      refine ev_shift ?_
      simp only [impl_DigitsAt.j0]
      refine ev_neg (by simp) (ev_pos (by omega) (ev_pos (by omega) ?_))
      rw [w64 (by omega) (by omega), Int.toNat_natCast]
      exact impl_DigitsAt_l0 bs hb bs.length r _ (Nat.le_refl _) (by simp)
    · rw [if_neg (fun c => h c.2)]
      simp only [Bool.not_eq_true] at h
      rw [h]
      exact bad
  · rw [if_neg (fun c => hb c.1)]
    exact ev_neg hb bad
theorem impl_areDigits_ev (bs ds : List Int) (hb : ∀ b ∈ bs, (Lit.int .i64 (b - 1)).wf = true) (hl : ds.length ≤ 9000000000000000000) : Ev (fun k => impl_areDigits.f k bs ds) (digs bs ds) := by
  have key : ∀ suf pre, ds = pre ++ suf → ∀ p s : List Int, bs = p ++ s → p.length = pre.length → Ev (fun k => impl_areDigits.l0 k bs ds ds (ds.length : Int) (pre.length : Int)) (digs s suf) := by
    refine range_ind hl (fun pre suf => ∀ p s : List Int, bs = p ++ s → p.length = pre.length → Ev (fun k => impl_areDigits.l0 k bs ds ds (ds.length : Int) (pre.length : Int)) (digs s suf)) ?_ ?_
    · intro p s hps hpl
      refine ev_shift ?_
      simp only [impl_areDigits.l0]
      refine ev_neg (by omega) (ev_some ?_)
      cases s with
      | nil => simp at hps; subst hps; simp [digs, hpl]
      | cons b s => simp [digs, hps]; omega
    · intro pre x suf hh hx h1 h2 h3 ih p s hps hpl
      refine ev_shift ?_
      simp only [impl_areDigits.l0, hx, h3]
      refine ev_pos h1 (ev_pos h2 (ev_pos h1 ?_))
      cases s with
      | nil =>
        simp at hps; subst hps
        exact ev_pos (by omega) (ev_some rfl)
      | cons b s =>
        have hbl : bs.length = p.length + s.length + 1 := by rw [hps]; simp; omega
        have hrb : rd bs (pre.length : Int) = b := by rw [hps, ← hpl]; exact rd_at _ _ _
        have hbw := wf_range (hb b (by rw [hps]; simp))
        refine ev_neg (by omega) (ev_pos (by omega) ?_)
        rw [hrb, w64 (by omega) (by omega)]
        refine ev_bind0 (impl_within_eq _ _ _) ?_
        simp only [digs]
        cases inR x 0 (b - 1) with
        | false => exact ev_neg (by simp) (ev_some rfl)
        | true => exact ev_pos rfl (ih (p ++ [b]) s (by simp [hps]) (by simp [hpl]))
  exact key ds [] rfl [] bs rfl rfl
theorem spec_raAreDigits_ev (bs ds : List Int) (hb : ∀ b ∈ bs, (Lit.int .i64 (b - 1)).wf = true) (hl : ds.length ≤ 9000000000000000000) : Ev (fun k => spec_raAreDigits.f k bs ds) (digs bs ds) := by
  unfold spec_raAreDigits.f
  by_cases hlen : (ds.length : Int) = (bs.length : Int)
  · refine ev_pos hlen ?_
    have key : ∀ suf pre, ds = pre ++ suf → ∀ p s : List Int, bs = p ++ s → p.length = pre.length → s.length = suf.length → Ev (fun k => spec_raAreDigits.l0 k bs ds (ds.length : Int) (pre.length : Int)) (digs s suf) := by
      refine range_ind hl (fun pre suf => ∀ p s : List Int, bs = p ++ s → p.length = pre.length → s.length = suf.length → Ev (fun k => spec_raAreDigits.l0 k bs ds (ds.length : Int) (pre.length : Int)) (digs s suf)) ?_ ?_
      · intro p s hps hpl hsl
        refine ev_shift ?_
        simp only [spec_raAreDigits.l0]
        refine ev_neg (by omega) (ev_some ?_)
        cases s with
        | nil => rfl
        | cons b s => simp at hsl
      · intro pre x suf hh hx h1 h2 h3 ih p s hps hpl hsl
        cases s with
        | nil => simp at hsl
        | cons b s =>
          have hbl : bs.length = p.length + s.length + 1 := by rw [hps]; simp; omega
          have hrb : rd bs (pre.length : Int) = b := by rw [hps, ← hpl]; exact rd_at _ _ _
          have hbw := wf_range (hb b (by rw [hps]; simp))
          refine ev_shift ?_
          simp only [spec_raAreDigits.l0, hx, h3, hrb]
          rw [w64 (by omega) (by omega)]
          refine ev_pos h1 (ev_pos h2 (ev_pos h1 (ev_pos (by omega) (ev_bind0 (spec_l1In_eq _ _ _) ?_))))
          simp only [digs]
          cases inR x 0 (b - 1) with
          | false => exact ev_neg (by simp) (ev_some rfl)
          | true => exact ev_pos rfl (ih (p ++ [b]) s (by simp [hps]) (by simp [hpl]) (by simpa using hsl))
    exact key ds [] rfl [] bs rfl rfl (by omega)
  · refine ev_neg hlen (ev_some ?_)
    cases e : digs bs ds with
    | false => rfl
    | true => exact absurd (congrArg Int.ofNat (digs_length e)) hlen
theorem bases_wf {bs : List Int} (h : areB bs = true) : ∀ b ∈ bs, (Lit.int .i64 (b - 1)).wf = true := by
  intro b hb
  have := allIn_iff.1 (areB_iff.1 h).2.1 b hb
  simp only [Lit.wf, Bool.and_eq_true, decide_eq_true_eq]
  have e0 : IntKind.min .i64 = -9223372036854775808 := by decide
  have e1 : IntKind.max .i64 = 9223372036854775807 := by decide
  omega
theorem spec_raNumber_ev (bs ds : List Int) (hd : digs bs ds = true) (hl : ds.length ≤ 9000000000000000000) : Ev (fun k => spec_raNumber.f k bs ds) (rkgo 0 bs ds) := by
  have hlen := digs_length hd
  have key : ∀ suf pre, ds = pre ++ suf → ∀ (r : Int) (p s : List Int), bs = p ++ s → p.length = pre.length → s.length = suf.length → Ev (fun k => spec_raNumber.l0 k bs r ds (ds.length : Int) (pre.length : Int)) (rkgo r s suf) := by
    refine range_ind hl (fun pre suf => ∀ (r : Int) (p s : List Int), bs = p ++ s → p.length = pre.length → s.length = suf.length → Ev (fun k => spec_raNumber.l0 k bs r ds (ds.length : Int) (pre.length : Int)) (rkgo r s suf)) ?_ ?_
    · intro r p s hps hpl hsl
      refine ev_shift ?_
      simp only [spec_raNumber.l0]
      exact ev_neg (by omega) (ev_some (by cases s <;> rfl))
    · intro pre x suf hh hx h1 h2 h3 ih r p s hps hpl hsl
      cases s with
      | nil => simp at hsl
      | cons b s =>
        have hrb : rd bs (pre.length : Int) = b := by rw [hps, ← hpl]; exact rd_at _ _ _
        refine ev_shift ?_
        simp only [spec_raNumber.l0, hx, h3, hrb]
        exact ev_pos h1 (ev_pos h2 (ev_pos h1 (ev_pos (by omega) (ih _ (p ++ [b]) s (by simp [hps]) (by simp [hpl]) (by simpa using hsl)))))
  exact key ds [] rfl 0 [] bs rfl rfl hlen.symm
theorem impl_RankOfDigits_l0 (bs ds : List Int) (hd : digs bs ds = true) (hl : ds.length ≤ 9000000000000000000) : Ev (fun k => impl_RankOfDigits.l0 k bs 0 ds (ds.length : Int) 0) (rkgo 0 bs ds, true) := by
  have hlen := digs_length hd
  have key : ∀ suf pre, ds = pre ++ suf → ∀ (r : Int) (p s : List Int), bs = p ++ s → p.length = pre.length → s.length = suf.length → Ev (fun k => impl_RankOfDigits.l0 k bs r ds (ds.length : Int) (pre.length : Int)) (rkgo r s suf, true) := by
    refine range_ind hl (fun pre suf => ∀ (r : Int) (p s : List Int), bs = p ++ s → p.length = pre.length → s.length = suf.length → Ev (fun k => impl_RankOfDigits.l0 k bs r ds (ds.length : Int) (pre.length : Int)) (rkgo r s suf, true)) ?_ ?_
    · intro r p s hps hpl hsl
      refine ev_shift ?_
      simp only [impl_RankOfDigits.l0]
      exact ev_neg (by omega) (ev_some (by cases s <;> rfl))
    · intro pre x suf hh hx h1 h2 h3 ih r p s hps hpl hsl
      cases s with
      | nil => simp at hsl
      | cons b s =>
        have hrb : rd bs (pre.length : Int) = b := by rw [hps, ← hpl]; exact rd_at _ _ _
        refine ev_shift ?_
        simp only [impl_RankOfDigits.l0, hx, h3, hrb]
        exact ev_pos h1 (ev_pos h2 (ev_pos h1 (ev_pos (by omega) (ih _ (p ++ [b]) s (by simp [hps]) (by simp [hpl]) (by simpa using hsl)))))
  exact key ds [] rfl 0 [] bs rfl rfl hlen.symm
theorem spec_RankOfDigits_ev (bs ds : List Int) (hl1 : bs.length ≤ 9000000000000000000) (hl2 : ds.length ≤ 9000000000000000000) : Ev (fun k => spec_RankOfDigits.f k bs ds) (rkOf bs ds) := by
  unfold spec_RankOfDigits.f rkOf
  refine ev_bind (spec_raBases_ev bs hl1) ?_
  by_cases hb : areB bs = true
  · refine ev_pos hb (ev_bind (spec_raAreDigits_ev bs ds (bases_wf hb) hl2) ?_)
    by_cases hd : digs bs ds = true
    · rw [if_pos ⟨hb, hd⟩]
      exact ev_pos hd (ev_bind (spec_raNumber_ev bs ds hd hl2) (ev_some rfl))
    · rw [if_neg (fun c => hd c.2)]
      exact ev_neg hd (ev_some rfl)
  · rw [if_neg (fun c => hb c.1)]
    exact ev_neg hb (ev_some rfl)
theorem impl_RankOfDigits_ev (bs ds : List Int) (hl1 : bs.length ≤ 9000000000000000000) (hl2 : ds.length ≤ 9000000000000000000) : Ev (fun k => impl_RankOfDigits.f k bs ds) (rkOf bs ds) := by
  have bad : Ev (fun k => impl_RankOfDigits.j0 k bs ds true) (0, false) := by
    refine ev_shift ?_
    simp only [impl_RankOfDigits.j0]
    exact ev_pos (by trivial) (ev_some rfl)
  unfold impl_RankOfDigits.f rkOf
  refine ev_bind (impl_areBases_ev bs hl1) ?_
  by_cases hb : areB bs = true
  · refine ev_pos hb (ev_bind (impl_areDigits_ev bs ds (bases_wf hb) hl2) ?_)
    by_cases hd : digs bs ds = true
    · rw [if_pos ⟨hb, hd⟩, hd]
      refine ev_shift ?_
      simp only [impl_RankOfDigits.j0]
      exact ev_neg (by simp) (impl_RankOfDigits_l0 bs ds hd hl2)
    · rw [if_neg (fun c => hd c.2)]
      simp only [Bool.not_eq_true] at hd
      rw [hd]
      exact bad
  · rw [if_neg (fun c => hb c.1)]
    exact ev_neg hb bad
theorem laws_uSame_ev (l : List Int) (hl : l.length ≤ 9000000000000000000) : Ev (fun k => laws_uSame.f k l l) true := by
  unfold laws_uSame.f
  refine ev_pos rfl ?_
  refine range_all hl (fun pre suf => Ev (fun k => laws_uSame.l0 k l l (l.length : Int) (pre.length : Int)) true) ?_ ?_
  · refine ev_shift ?_
    simp only [laws_uSame.l0]
    exact ev_neg (by omega) (ev_some rfl)
  · intro pre x suf h hx h1 h2 h3 ih
    refine ev_shift ?_
    simp only [laws_uSame.l0, h3]
    exact ev_pos h1 (ev_pos h2 (ev_pos h1 (ev_pos h1 (ev_pos (by trivial) ih))))
theorem laws_uLess_ev (l m : List Int) (hl : l.length ≤ 9000000000000000000) (he : m.length = l.length) : Ev (fun k => laws_uLess.f k l m) (lexB l m) := by
  unfold laws_uLess.f
  have key : ∀ suf pre, l = pre ++ suf → ∀ p s : List Int, m = p ++ s → p.length = pre.length → s.length = suf.length → Ev (fun k => laws_uLess.l0 k l m (l.length : Int) (pre.length : Int)) (lexB suf s) := by
    refine range_ind hl (fun pre suf => ∀ p s : List Int, m = p ++ s → p.length = pre.length → s.length = suf.length → Ev (fun k => laws_uLess.l0 k l m (l.length : Int) (pre.length : Int)) (lexB suf s)) ?_ ?_
    · intro p s _ _ hs
      refine ev_shift ?_
      simp only [laws_uLess.l0]
      refine ev_neg (by omega) (ev_some ?_)
      cases s with
      | nil => rfl
      | cons y s => simp at hs
    · intro pre x suf hh hx h1 h2 h3 ih p s hps hpl hsl
      cases s with
      | nil => simp at hsl
      | cons y s =>
        have hrb : rd m (pre.length : Int) = y := by rw [hps, ← hpl]; exact rd_at _ _ _
        refine ev_shift ?_
        simp only [laws_uLess.l0, hx, h3, hrb, lexB]
        refine ev_pos h1 (ev_pos h2 (ev_pos h1 (ev_pos (by omega) ?_)))
        by_cases hxy : x = y
        · rw [if_pos hxy]
          exact ev_pos hxy (ih (p ++ [y]) s (by simp [hps]) (by simp [hpl]) (by simpa using hsl))
        · rw [if_neg hxy]
          exact ev_neg hxy (ev_some rfl)
  exact key l [] rfl [] m rfl rfl he
theorem laws_FnDigits_j1_ev {m : List Int} (hm : wfB m) : Ev (fun k => laws_FnDigits.j1 k m) true := by
  obtain ⟨b, d, e, h1, h2⟩ := dr_RankOfDigits hm
  refine ev_shift ?_
  simp only [laws_FnDigits.j1]
  refine ev_bind e (ev_bind (impl_RankOfDigits_ev b d (by omega) (by omega)) (ev_bind (spec_RankOfDigits_ev b d (by omega) (by omega)) ?_))
  refine ev_neg neq_self ?_
  dsimp only
  rw [show ((rkOf b d).1 != (rkOf b d).1) = false by simp]
  refine ev_shift ?_
  simp only [laws_FnDigits.j2]
  refine ev_neg Bool.false_ne_true ?_
  by_cases hk : areB b = true ∧ digs b d = true
  · have hr := digR_range hk.1 hk.2
    rw [rkOf_eq hk.1 hk.2]
    refine ev_pos rfl (ev_bind (impl_DigitsAt_ev b _ (by omega)) ?_)
    dsimp only
    rw [digsAt_eq hk.1 hr.1 hr.2, digL_digR hk.1 hk.2]
    refine ev_pos rfl (ev_bind (laws_uSame_ev d (by omega)) (ev_some rfl))
  · have e0 : rkOf b d = (0, false) := by unfold rkOf; rw [if_neg hk]
    rw [e0]
    exact ev_neg Bool.false_ne_true (ev_some rfl)
theorem FnDigits : laws_FnDigits.Pure := by
  intro c m hl1 hl2 hc hm1 hm2 hm
  apply ev_le
  unfold laws_FnDigits.f
  rcases laws_big_eq c m hc hm (by omega) with hb | ⟨hb, wc, wm⟩
  · exact ev_bind0 hb (ev_pos rfl (ev_some rfl))
  refine ev_bind0 hb (ev_neg Bool.false_ne_true ?_)
  obtain ⟨bs, r, e, h1, h2, h3⟩ := dr_DigitsAt wc
  have hj1 := laws_FnDigits_j1_ev wm
  refine ev_bind e (ev_bind (impl_DigitsAt_ev bs r (by omega)) (ev_bind (spec_DigitsAt_ev bs r (by omega)) ?_))
  have hlen := digsAt_len bs r
  refine ev_neg neq_self (ev_bind (laws_uSame_ev _ (by omega)) ?_)
  dsimp only
  refine ev_shift ?_
  simp only [laws_FnDigits.j0]
  refine ev_neg Bool.false_ne_true ?_
  by_cases hk : areB bs = true ∧ 0 ≤ r ∧ r < prod bs
  · obtain ⟨hb1, hr0, hr1⟩ := hk
    have hsz := (areB_iff.1 hb1).2.2
    rw [digsAt_eq hb1 hr0 hr1]
    refine ev_pos rfl ?_
    dsimp only
    refine ev_bind (impl_RankOfDigits_ev bs _ (by omega) (by rw [digL_length]; omega)) (ev_bind (impl_DigitsAt_ev bs _ (by omega)) ?_)
    rw [rkOf_eq hb1 (digL_digs hb1 r hr0 hr1), digR_digL hb1 r hr0 hr1, w64 (by omega) (by omega)]
    refine ev_pos rfl (ev_pos rfl ?_)
    by_cases hn : r + 1 < prod bs
    · rw [digsAt_eq hb1 (by omega) hn]
      refine ev_pos rfl (ev_bind (laws_uLess_ev _ _ (by rw [digL_length]; omega) (by simp [digL_length])) ?_)
      rw [digL_lex hb1 r (r + 1) hr0 (by omega) hn]
      exact ev_pos rfl hj1
    · rw [digsAt_none (fun h => hn h.2.2)]
      exact ev_neg Bool.false_ne_true hj1
  · rw [digsAt_none hk]
    exact ev_neg Bool.false_ne_true hj1

end Go.Proofs.Ytkbnkichgkeckaa.Pure
