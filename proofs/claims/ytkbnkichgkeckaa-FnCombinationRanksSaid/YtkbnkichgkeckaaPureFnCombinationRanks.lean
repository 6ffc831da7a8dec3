/- The law FnCombinationRanks returns true for every two lists of bytes (reach as the row says); no condition of ours. -/
import Derived.Test.YtkbnkichgkeckaaQFnCombinationRanksx5
import Derived.Test.YtkbnkichgkeckaaMth
import Derived.Test.YtkbnkichgkeckaaMthComb
import Derived.Test.YtkbnkichgkeckaaMthPlace
import Derived.Test.YtkbnkichgkeckaaMthRankMore
set_option linter.unusedVariables false
set_option linter.unusedSimpArgs false
namespace Go.Proofs.Ytkbnkichgkeckaa.Pure
open Go.RowKit Go.Proofs.Ytkbnkichgkeckaa.Mth Go.Proofs.Ytkbnkichgkeckaa.PFnCombinationRanks Go.Proofs.YtkbnkichgkeckaaW.PrintWords Go.Proofs.YtkbnkichgkeckaaW.PrintLast

theorem wrapU (n : Int) : IntKind.u64.wrap n = n % 18446744073709551616 := by simp [IntKind.wrap, IntKind.bits, IntKind.signed]
def wfB (c : List Int) : Prop := c.length ≤ 1048576 ∧ ∀ x ∈ c, 0 ≤ x ∧ x ≤ 255
theorem wfB_of {c : List Int} (h0 : c.length ≤ 1048576) (h : ∀ x ∈ c, (Lit.int .u8 x).wf = true) : wfB c := by
  refine ⟨h0, fun x hx => ?_⟩
  have := h x hx
  simp only [Lit.wf, Bool.and_eq_true, decide_eq_true_eq] at this
  have e0 : IntKind.min .u8 = 0 := by decide
  have e1 : IntKind.max .u8 = 255 := by decide
  omega
theorem byte_of (x : Int) : 0 ≤ wrap64 (Go.bits .and .u64 ((IntKind.u64.wrap x) / 1099511627776) 255) ∧ wrap64 (Go.bits .and .u64 ((IntKind.u64.wrap x) / 1099511627776) 255) ≤ 255 := by
  have h1 : 0 ≤ IntKind.u64.wrap x / 1099511627776 ∧ IntKind.u64.wrap x / 1099511627776 < 2 ^ 24 := by rw [wrapU]; omega
  have h2 := Go.bits_mask .u64 24 (by decide) (fun n a b => by rw [wrapU]; omega) 8 (by decide) _ h1.1 h1.2
  have h3 : Go.bits .and .u64 ((IntKind.u64.wrap x) / 1099511627776) 255 = (IntKind.u64.wrap x) / 1099511627776 % 2 ^ 8 := h2
  rw [h3, w64 (by omega) (by omega)]
  omega
theorem dr_next {c : List Int} (hc : wfB c) {a : Int} (s : Int) (h0 : 0 ≤ a) (h1 : a ≤ 4000000000000000000) : ∃ r s', spec_l1Cur_next.f c a s = some (r, a + 1, s') ∧ 0 ≤ r ∧ r ≤ 255 := by
  have hl := hc.1
  unfold spec_l1Cur_next.f
  have e : wrap64 (a + 1) = a + 1 := w64 (by omega) (by omega)
  rw [e]
  by_cases h : a < (c.length : Int)
  · rw [if_pos h, if_pos h0, if_pos (by omega)]
    obtain ⟨n, rfl⟩ := Int.eq_ofNat_of_zero_le h0
    have hm := hc.2 _ (rd_mem (l := c) (j := n) (by omega))
    exact ⟨_, _, rfl, by rw [w64 (by omega) (by omega)]; omega, by rw [w64 (by omega) (by omega)]; omega⟩
  · rw [if_neg h, if_neg (by omega)]
    exact ⟨_, _, rfl, (byte_of _).1, (byte_of _).2⟩
theorem dr_pick {c : List Int} (hc : wfB c) {a : Int} (s n : Int) (h0 : 0 ≤ a) (h1 : a ≤ 3999999999999999999) : ∃ r a' s', spec_l1Cur_pick.f c a s n = some (r, a', s') ∧ a ≤ a' ∧ a' ≤ a + 2 ∧ 0 ≤ r ∧ (n ≤ 1 → r = 0) ∧ (1 < n → r < n) := by
  unfold spec_l1Cur_pick.f
  by_cases hn : n ≤ 1
  · rw [if_pos hn]
    exact ⟨0, a, s, rfl, by omega, by omega, by omega, fun _ => rfl, fun h => by omega⟩
  · rw [if_neg hn]
    obtain ⟨x, s1, e1, x0, x1⟩ := dr_next hc s h0 (by omega)
    rw [e1]
    simp only [Option.bind_some]
    by_cases hb : n > 200
    · rw [if_pos hb]
      obtain ⟨y, s2, e2, y0, y1⟩ := dr_next hc s1 (a := a + 1) (by omega) (by omega)
      rw [e2]
      simp only [Option.bind_some]
      rw [if_neg (by omega), w64 (x := x * 256) (by omega) (by omega), w64 (by omega) (by omega)]
      rw [Int.tmod_eq_emod_of_nonneg (by omega)]
      have g0 := Int.emod_nonneg (x * 256 + y) (b := n) (by omega)
      have g1 := Int.emod_lt_of_pos (x * 256 + y) (b := n) (by omega)
      exact ⟨_, _, _, rfl, by omega, by omega, g0, fun h => by omega, fun _ => g1⟩
    · rw [if_neg hb, if_neg (by omega)]
      rw [Int.tmod_eq_emod_of_nonneg (by omega)]
      have g0 := Int.emod_nonneg x (b := n) (by omega)
      have g1 := Int.emod_lt_of_pos x (b := n) (by omega)
      exact ⟨_, _, _, rfl, by omega, by omega, g0, fun h => by omega, fun _ => g1⟩
theorem laws_big_eq (c m : List Int) (hc : ∀ x ∈ c, (Lit.int .u8 x).wf = true) (hm : ∀ x ∈ m, (Lit.int .u8 x).wf = true) (hl : c.length ≤ 9000000000000000000) : laws_big.f c m = some true ∨ (laws_big.f c m = some false ∧ wfB c ∧ wfB m) := by
  unfold laws_big.f
  by_cases h : (c.length : Int) > 1048576
  · exact .inl (if_pos h)
  · rw [if_neg h, w64 (by omega) (by omega)]
    by_cases h2 : (m.length : Int) > 1048576 - (c.length : Int)
    · rw [decide_eq_true h2]; exact .inl rfl
    · rw [decide_eq_false h2]; exact .inr ⟨rfl, wfB_of (by omega) hc, wfB_of (by omega) hm⟩
theorem dr_one {c : List Int} (hc : wfB c) {a : Int} (s n : Int) (h0 : 0 ≤ a) (h1 : a ≤ 3999999999999999999) : ∃ r a' s', spec_l1Cur_one.f c a s n = some (r, a', s') ∧ a ≤ a' ∧ a' ≤ a + 2 := by
  unfold spec_l1Cur_one.f
  obtain ⟨r, a', s', e, h2, h3, _⟩ := dr_pick hc s n h0 h1
  rw [e]
  exact ⟨_, _, _, rfl, h2, h3⟩
theorem dr_among {c : List Int} (hc : wfB c) {a : Int} (s : Int) (l : List Int) (hl : 0 < l.length) (h0 : 0 ≤ a) (h1 : a ≤ 3999999999999999999) : ∃ r a' s', spec_l1Cur_among.f c a s l = some (r, a', s') ∧ a ≤ a' ∧ a' ≤ a + 2 ∧ r ∈ l := by
  unfold spec_l1Cur_among.f
  obtain ⟨r, a', s', e, h2, h3, h4, h5, h6⟩ := dr_pick hc s (l.length : Int) h0 h1
  rw [e]
  simp only [Option.bind_some]
  have hr : r < (l.length : Int) := by
    by_cases h : (l.length : Int) ≤ 1
    · have := h5 h; omega
    · exact h6 (by omega)
  rw [if_pos h4, if_pos hr]
  obtain ⟨n, rfl⟩ := Int.eq_ofNat_of_zero_le h4
  exact ⟨_, _, _, rfl, h2, h3, rd_mem (by omega)⟩
theorem dr_items {c : List Int} (hc : wfB c) {a : Int} (s : Int) (h0 : 0 ≤ a) (h1 : a ≤ 3999999999999999000) : ∃ r a' s', spec_l1Cur_items.f c a s = some (r, a', s') ∧ a ≤ a' ∧ a' ≤ a + 4 ∧ -1 ≤ r ∧ r ≤ 13 := by
  unfold spec_l1Cur_items.f
  obtain ⟨r, a', s', e, h2, h3⟩ := dr_one hc s 15 h0 (by omega)
  rw [e]
  simp only [Option.bind_some]
  cases r
  · rw [if_neg (by decide)]
    obtain ⟨r, a1, s1, e, g2, g3, g4, g5, g6⟩ := dr_pick hc s' 9 (a := a') (by omega) (by omega)
    rw [e]
    have := g6 (by decide)
    exact ⟨_, _, _, rfl, by dsimp only; omega, by dsimp only; omega, by dsimp only; omega, by dsimp only; omega⟩
  · rw [if_pos rfl]
    obtain ⟨r, a1, s1, e, g2, g3, g4⟩ := dr_among hc s' [-1, 0, 12, 13] (by decide) (a := a') (by omega) (by omega)
    rw [e]
    simp only [List.mem_cons, List.not_mem_nil, or_false] at g4
    exact ⟨_, _, _, rfl, by dsimp only; omega, by dsimp only; omega, by dsimp only; omega, by dsimp only; omega⟩
theorem spec_l1Least_eq (a b : Int) : spec_l1Least.f a b = some (if a < b then a else b) := by
  unfold spec_l1Least.f
  split <;> rfl
theorem dr_combination_l0 {c : List Int} (hc : wfB c) (n : Int) (m : Nat) : ∀ (x : Nat) (l : List Int) (a s : Int), m + x = 21 → l.length ≤ x → 0 ≤ a → a + 2 * (m : Int) ≤ 3999999999999999000 → ∃ l' a' s', Ev (fun k => spec_l1Cur_combination.l0 k n l (x : Int) c a s) (l', a', s') ∧ a ≤ a' ∧ a' ≤ a + 2 * (m : Int) + 6 ∧ l'.length ≤ 30 := by
  induction m with
  | zero =>
    intro x l a s hm hl h0 h1
    obtain ⟨y, a1, s1, e1, u1, u2⟩ := dr_one hc s 20 h0 (by omega)
    cases y
    · refine ⟨l, a1, s1, ev_shift ?_, by omega, by omega, by omega⟩
      simp only [spec_l1Cur_combination.l0]
      exact ev_bind0 (spec_l1Least_eq _ _) (ev_neg (by omega) (ev_bind0 e1 (ev_neg Bool.false_ne_true (ev_some rfl))))
    · obtain ⟨z, a2, s2, e2, v1, v2, _⟩ := dr_among hc s1 [-1, 0, n, 4611686018427387904] (by simp) (a := a1) (by omega) (by omega)
      refine ⟨l ++ [z], a2, s2, ev_shift ?_, by omega, by omega, by simp; omega⟩
      simp only [spec_l1Cur_combination.l0]
      exact ev_bind0 (spec_l1Least_eq _ _) (ev_neg (by omega) (ev_bind0 e1 (ev_pos rfl (ev_bind0 e2 (ev_pos (by omega) (ev_some rfl))))))
  | succ m ih =>
    intro x l a s hm hl h0 h1
    by_cases hx : (x : Int) < (if n < 20 then n else 20)
    · have ew : wrap64 ((x : Int) + 1) = ((x + 1 : Nat) : Int) := by rw [w64 (by omega) (by omega)]; omega
      obtain ⟨y, a1, s1, e1, u1, u2⟩ := dr_one hc s 2 h0 (by omega)
      cases y
      · obtain ⟨l', a', s', g1, g2, g3, g4⟩ := ih (x + 1) l a1 s1 (by omega) (by omega) (by omega) (by omega)
        refine ⟨l', a', s', ev_shift ?_, by omega, by omega, g4⟩
        simp only [spec_l1Cur_combination.l0, ew]
        exact ev_bind0 (spec_l1Least_eq _ _) (ev_pos hx (ev_bind0 e1 (ev_neg Bool.false_ne_true g1)))
      · obtain ⟨l', a', s', g1, g2, g3, g4⟩ := ih (x + 1) (l ++ [(x : Int)]) a1 s1 (by omega) (by simp; omega) (by omega) (by omega)
        refine ⟨l', a', s', ev_shift ?_, by omega, by omega, g4⟩
        simp only [spec_l1Cur_combination.l0, ew]
        exact ev_bind0 (spec_l1Least_eq _ _) (ev_pos hx (ev_bind0 e1 (ev_pos rfl (ev_pos (by omega) g1))))
    · obtain ⟨y, a1, s1, e1, u1, u2⟩ := dr_one hc s 20 h0 (by omega)
      cases y
      · refine ⟨l, a1, s1, ev_shift ?_, by omega, by omega, by omega⟩
        simp only [spec_l1Cur_combination.l0]
        exact ev_bind0 (spec_l1Least_eq _ _) (ev_neg hx (ev_bind0 e1 (ev_neg Bool.false_ne_true (ev_some rfl))))
      · obtain ⟨z, a2, s2, e2, v1, v2, _⟩ := dr_among hc s1 [-1, 0, n, 4611686018427387904] (by simp) (a := a1) (by omega) (by omega)
        refine ⟨l ++ [z], a2, s2, ev_shift ?_, by omega, by omega, by simp; omega⟩
        simp only [spec_l1Cur_combination.l0]
        exact ev_bind0 (spec_l1Least_eq _ _) (ev_neg hx (ev_bind0 e1 (ev_pos rfl (ev_bind0 e2 (ev_pos (by omega) (ev_some rfl))))))
theorem dr_combination {c : List Int} (hc : wfB c) (n a s : Int) (h0 : 0 ≤ a) (h1 : a ≤ 3999999999999990000) : ∃ l' a' s', Ev (fun k => spec_l1Cur_combination.f k c a s n) (l', a', s') ∧ a ≤ a' ∧ a' ≤ a + 60 ∧ l'.length ≤ 30 := by
  obtain ⟨l', a', s', g1, g2, g3, g4⟩ := dr_combination_l0 hc n 21 0 [] a s rfl (by simp) h0 (by omega)
  exact ⟨l', a', s', g1, by omega, by omega, g4⟩
theorem dr_IsCombination {c : List Int} (hc : wfB c) : ∃ n l, Ev (fun j => spec_DrawIsCombination.f j c) (n, l) ∧ l.length ≤ 30 := by
  unfold spec_DrawIsCombination.f
  obtain ⟨n, a1, s1, e1, u1, u2, u3, u4⟩ := dr_items hc 0 (a := 0) (by decide) (by decide)
  obtain ⟨l, a2, s2, e2, v1, v2, v3⟩ := dr_combination hc n a1 s1 (by omega) (by omega)
  exact ⟨n, l, ev_bind0 e1 (ev_bind e2 (ev_some rfl)), v3⟩
theorem w64r (x : Int) : -9223372036854775808 ≤ wrap64 x ∧ wrap64 x ≤ 9223372036854775807 := by unfold wrap64; omega
theorem dr_rank {c : List Int} (hc : wfB c) {a : Int} (s n : Int) (hn : -9223372036854775808 ≤ n) (hn1 : n ≤ 9223372036854775807) (h0 : 0 ≤ a) (h1 : a ≤ 3999999999999999000) : ∃ r a' s', spec_l1Cur_rank.f c a s n = some (r, a', s') ∧ a ≤ a' ∧ a' ≤ a + 8 ∧ -9223372036854775808 ≤ r ∧ r ≤ 9223372036854775807 := by
  unfold spec_l1Cur_rank.f
  obtain ⟨x, a1, s1, e1, u2, u3, u4, u5, u6⟩ := dr_pick hc s 12 h0 (by omega)
  rw [e1]
  simp only [Option.bind_some]
  by_cases c0 : x = 0
  · rw [if_pos c0]
    obtain ⟨r, a2, s2, e2, g2, g3, g4⟩ := dr_among hc s1 [-1, n, wrap64 (n + 1), 4611686018427387904] (by simp) (a := a1) (by omega) (by omega)
    rw [e2]
    have hw := w64r (n + 1)
    generalize hq : wrap64 (n + 1) = q at g4 hw e2; clear hq
    simp only [List.mem_cons, List.not_mem_nil, or_false] at g4
    exact ⟨_, _, _, rfl, by dsimp only; omega, by dsimp only; omega, by dsimp only; omega, by dsimp only; omega⟩
  rw [if_neg c0]
  by_cases c1 : x = 1
  · rw [if_pos c1]
    have hw := w64r (n - 1)
    exact ⟨_, _, _, rfl, by omega, by omega, by omega, by omega⟩
  rw [if_neg c1]
  by_cases c2 : x = 2
  · rw [if_pos c2]
    exact ⟨_, _, _, rfl, by omega, by omega, by omega, by omega⟩
  rw [if_neg c2]
  by_cases c3 : n < 2
  · rw [if_pos c3]
    exact ⟨_, _, _, rfl, by omega, by omega, by omega, by omega⟩
  rw [if_neg c3]
  obtain ⟨y, a2, s2, e2, v2, v3, v4, v5, v6⟩ := dr_pick hc s1 60000 (a := a1) (by omega) (by omega)
  rw [e2]
  simp only [Option.bind_some]
  obtain ⟨z, a3, s3, e3, w2, w3, w4, w5, w6⟩ := dr_pick hc s2 60000 (a := a2) (by omega) (by omega)
  rw [e3]
  simp only [Option.bind_some]
  have := v6 (by decide); have := w6 (by decide)
  rw [if_neg (by omega), w64 (x := y * 60000) (by omega) (by omega), w64 (by omega) (by omega), Int.tmod_eq_emod_of_nonneg (by omega)]
  have g0 := Int.emod_nonneg (y * 60000 + z) (b := n) (by omega)
  have g1 := Int.emod_lt_of_pos (y * 60000 + z) (b := n) (by omega)
  exact ⟨_, _, _, rfl, by omega, by omega, by omega, by omega⟩
theorem spec_l1In_eq (a b c : Int) : spec_l1In.f a b c = some (inR a b c) := in_ite a b c
theorem spec_raItems_eq (a : Int) : spec_raItems.f a = some (inR a 0 12) := by simp only [spec_raItems.f, spec_l1In_eq, Option.bind_some]
theorem spec_raBinomial_ev (n : Nat) (k : Nat) (h : n ≤ 60) (hk : k ≤ 1000000) : Ev (fun j => spec_raBinomial.f j (n : Int) (k : Int)) (C n k : Int) := by
  induction n generalizing k with
  | zero =>
    refine ev_shift ?_
    simp only [spec_raBinomial.f]
    cases k with
    | zero => exact ev_pos rfl (ev_some rfl)
    | succ k => exact ev_neg (by omega) (ev_pos rfl (ev_some rfl))
  | succ n ih =>
    refine ev_shift ?_
    simp only [spec_raBinomial.f]
    cases k with
    | zero => exact ev_pos rfl (ev_some (by rw [C_zero]; rfl))
    | succ k =>
      have e1 : wrap64 (((n + 1 : Nat) : Int) - 1) = (n : Int) := by rw [w64 (by omega) (by omega)]; omega
      have e2 : wrap64 (((k + 1 : Nat) : Int) - 1) = (k : Int) := by rw [w64 (by omega) (by omega)]; omega
      have b1 := Nat.le_trans (C_le n (k + 1)) (Nat.pow_le_pow_right (n := 2) (by omega) (show n ≤ 59 by omega))
      have b2 := Nat.le_trans (C_le n k) (Nat.pow_le_pow_right (n := 2) (by omega) (show n ≤ 59 by omega))
      rw [e1, e2]
      refine ev_neg (by omega) (ev_neg (by omega) (ev_bind (ih (k + 1) (by omega) hk) (ev_bind (ih k (by omega) (by omega)) (ev_some ?_))))
      rw [C_succ, w64 (by omega) (by omega)]; omega
theorem spec_l1Most_eq (a b : Int) : spec_l1Most.f a b = some (if a > b then a else b) := by
  unfold spec_l1Most.f
  split <;> rfl
theorem dr_CombinationAt_j1 {c : List Int} (hc : wfB c) (n k : Int) (b : Bool) (hb : b = true → (0 ≤ n ∧ n ≤ 12) ∧ 0 ≤ k ∧ k ≤ 12) (a s : Int) (h0 : 0 ≤ a) (h1 : a ≤ 1000) : ∃ r, Ev (fun j => spec_DrawCombinationAt.j1 j n k 1 b c a s) (n, k, r) ∧ -9223372036854775808 ≤ r ∧ r ≤ 9223372036854775807 := by
  cases b
  · obtain ⟨r, a2, s2, e2, v1, v2, v3, v4⟩ := dr_rank hc s 1 (by decide) (by decide) (a := a) (by omega) (by omega)
    refine ⟨r, ev_shift ?_, v3, v4⟩
    simp only [spec_DrawCombinationAt.j1]
    exact ev_neg Bool.false_ne_true (ev_bind0 e2 (ev_some rfl))
  · obtain ⟨⟨n0, n1⟩, k0, k1⟩ := hb rfl
    obtain ⟨n, rfl⟩ := Int.eq_ofNat_of_zero_le n0
    obtain ⟨k, rfl⟩ := Int.eq_ofNat_of_zero_le k0
    have hb := spec_raBinomial_ev n k (by omega) (by omega)
    have hC := C_12 k (n := n) (by omega)
    obtain ⟨r, a2, s2, e2, v1, v2, v3, v4⟩ := dr_rank hc s (C n k : Int) (by omega) (by omega) (a := a) (by omega) (by omega)
    refine ⟨r, ev_shift ?_, v3, v4⟩
    simp only [spec_DrawCombinationAt.j1]
    exact ev_pos (by trivial) (ev_bind hb (ev_bind0 e2 (ev_some rfl)))
theorem dr_CombinationAt_j0 {c : List Int} (hc : wfB c) (n k : Int) (a s : Int) (h0 : 0 ≤ a) (h1 : a ≤ 1000) : ∃ r, Ev (fun j => spec_DrawCombinationAt.j0 j n k c a s) (n, k, r) ∧ -9223372036854775808 ≤ r ∧ r ≤ 9223372036854775807 := by
  by_cases hn : inR n 0 12 = true
  · obtain ⟨r, g1, g2⟩ := dr_CombinationAt_j1 hc n k (inR k 0 12) (fun h => ⟨inR_iff.1 hn, inR_iff.1 h⟩) a s h0 h1
    refine ⟨r, ev_shift ?_, g2⟩
    simp only [spec_DrawCombinationAt.j0]
    exact ev_bind0 (spec_raItems_eq _) (ev_pos hn (ev_bind0 (spec_raItems_eq _) g1))
  · obtain ⟨r, g1, g2⟩ := dr_CombinationAt_j1 hc n k false (fun h => by cases h) a s h0 h1
    refine ⟨r, ev_shift ?_, g2⟩
    simp only [spec_DrawCombinationAt.j0]
    exact ev_bind0 (spec_raItems_eq _) (ev_neg hn g1)
theorem dr_CombinationAt {c : List Int} (hc : wfB c) : ∃ n k r, Ev (fun j => spec_DrawCombinationAt.f j c) (n, k, r) := by
  unfold spec_DrawCombinationAt.f
  obtain ⟨n, a1, s1, e1, u1, u2, u3, u4⟩ := dr_items hc 0 (a := 0) (by decide) (by decide)
  obtain ⟨k, a2, s2, e2, v1, v2, v3, v4⟩ := dr_items hc s1 (a := a1) (by omega) (by omega)
  obtain ⟨b, a3, s3, e3, w1, w2⟩ := dr_one hc s2 2 (a := a2) (by omega) (by omega)
  cases b
  · obtain ⟨r, g1, g2⟩ := dr_CombinationAt_j0 hc n k a3 s3 (by omega) (by omega)
    exact ⟨n, k, r, ev_bind0 e1 (ev_bind0 e2 (ev_bind0 e3 (ev_neg Bool.false_ne_true g1)))⟩
  · obtain ⟨q, a4, s4, e4, x1, x2, _⟩ := dr_pick hc s3 (if 1 > (if wrap64 (n + 1) < 13 then wrap64 (n + 1) else 13) then 1 else (if wrap64 (n + 1) < 13 then wrap64 (n + 1) else 13)) (a := a3) (by omega) (by omega)
    obtain ⟨r, g1, g2⟩ := dr_CombinationAt_j0 hc n q a4 s4 (by omega) (by omega)
    exact ⟨n, q, r, ev_bind0 e1 (ev_bind0 e2 (ev_bind0 e3 (ev_pos rfl (ev_bind0 (spec_l1Least_eq _ _) (ev_bind0 (spec_l1Most_eq _ _) (ev_bind0 e4 g1))))))⟩
theorem spec_l1Rising_ev (l : List Int) (lo hi : Int) (hl : l.length ≤ 9000000000000000000) : Ev (fun k => spec_l1Rising.f k l lo hi) (allIn l lo hi && incr l) := by
  rw [← risF_none]
  have key : ∀ suf pre, l = pre ++ suf → ∀ o : Option Int, (∀ p, o = some p → ∃ q, pre = q ++ [p]) → (o = none → pre = []) → Ev (fun k => spec_l1Rising.l0 k l lo hi l (l.length : Int) (pre.length : Int)) (risF lo hi o suf) := by
    refine range_ind hl (fun pre suf => ∀ o : Option Int, (∀ p, o = some p → ∃ q, pre = q ++ [p]) → (o = none → pre = []) → Ev (fun k => spec_l1Rising.l0 k l lo hi l (l.length : Int) (pre.length : Int)) (risF lo hi o suf)) ?_ ?_
    · intro o _ _
      refine ev_shift ?_
      simp only [spec_l1Rising.l0]
      exact ev_neg (by omega) (ev_some (by cases o <;> rfl))
    · intro pre x suf h hx h1 h2 h3 ih o ho hn
      have ih' := ih (some x) (fun p hp => ⟨pre, by cases hp; rfl⟩) (fun e => by cases e)
      refine ev_shift ?_
      simp only [spec_l1Rising.l0, hx, h3, spec_l1In_eq, Option.bind_some]
      refine ev_pos h1 (ev_pos h2 (ev_pos h1 ?_))
      cases o with
      | none =>
        have := hn rfl
        subst this
        simp only [risF]
        cases inR x lo hi with
        | true => exact ev_pos rfl (ev_neg (by simp) ih')
        | false => exact ev_neg (by simp) (ev_some rfl)
      | some p =>
        obtain ⟨q, hq⟩ := ho p rfl
        have hp := rd_prev q p (x :: suf) (by rw [← hq]; rw [h] at hl; simp at hl ⊢; omega)
        rw [← hq, ← h] at hp
        have hql : pre.length = q.length + 1 := by rw [hq]; simp
        simp only [risF, hp.1, hp.2]
        cases inR x lo hi with
        | false => exact ev_neg (by simp) (ev_some rfl)
        | true =>
          refine ev_pos rfl (ev_pos (by omega) (ev_pos (by omega) (ev_pos (by omega) ?_)))
          by_cases hlt : p < x
          · refine ev_neg (by omega) ?_
            simp only [decide_eq_true hlt, Bool.true_and]
            exact ih'
          · refine ev_pos (by omega) ?_
            simp only [decide_eq_false hlt, Bool.false_and, Bool.and_false]
            exact ev_some rfl
  exact key l [] rfl none (fun p h => by cases h) (fun _ => rfl)
theorem spec_raCombination_ev (n : Int) (l : List Int) (hl : l.length ≤ 9000000000000000000) : Ev (fun k => spec_raCombination.f k n l) (isComb n l) := by
  unfold spec_raCombination.f
  refine ev_bind0 (spec_raItems_eq _) ?_
  by_cases hn : inR n 0 12 = true
  · have hn' := inR_iff.1 hn
    refine ev_pos hn ?_
    rw [w64 (by omega) (by omega)]
    by_cases hlen : (l.length : Int) ≤ n
    · refine ev_pos hlen (ev_bind (spec_l1Rising_ev l 0 (n - 1) hl) (ev_some ?_))
      simp only [isComb, hn, Bool.true_and]
    · refine ev_neg hlen (ev_some ?_)
      cases e : isComb n l with
      | false => rfl
      | true => exact absurd (isComb_len e) hlen
  · refine ev_neg hn (ev_some ?_)
    simp only [Bool.not_eq_true] at hn
    simp only [isComb, hn, Bool.false_and]
theorem spec_raAll_l1 (n kk x : Int) (t : List (List Int)) (ht : ∀ r ∈ t, r.length ≤ 12) (htl : t.length ≤ 100000) (R : List (List Int)) : ∀ suf pre, t = pre ++ suf → ∀ out : List (List Int), out.length + suf.length ≤ 100000 →
    Ev (fun k => spec_raAll.l0 k n kk (out ++ suf.map (fun r => x :: r)) (wrap64 (x + 1))) R → Ev (fun k => spec_raAll.l1 k n kk out x t (t.length : Int) (pre.length : Int)) R := by
  refine rangeL_ind (by omega) (fun pre suf => ∀ out : List (List Int), out.length + suf.length ≤ 100000 →
    Ev (fun k => spec_raAll.l0 k n kk (out ++ suf.map (fun r => x :: r)) (wrap64 (x + 1))) R → Ev (fun k => spec_raAll.l1 k n kk out x t (t.length : Int) (pre.length : Int)) R) ?_ ?_
  · intro out _ h
    refine ev_shift ?_
    simp only [spec_raAll.l1]
    refine ev_neg (by omega) ?_
    simpa using h
  · intro pre r suf h hx h1 h2 h3 ih out ho hk
    simp only [List.length_cons] at ho
    have hr : r.length ≤ 12 := ht r (by rw [h]; simp)
    have e : rd_L2 t (pre.length : Int) = r := hx
    refine ev_shift ?_
    simp only [spec_raAll.l1, e, h3, Option.bind_some, List.length_singleton, List.singleton_append]
    refine ev_pos h1 (ev_pos h2 (ev_pos h1 (ev_pos (by omega) (ev_pos (by omega) ?_))))
    refine ih _ (by simp; omega) ?_
    simpa using hk
theorem spec_raAll_ev (j : Nat) (hj : j ≤ 12) : ∀ m f : Nat, f + m ≤ 12 → Ev (fun k => spec_raAll.f k ((f + m : Nat) : Int) (j : Int) (f : Int)) (lexL f m j) := by
  induction j with
  | zero =>
    intro m f _
    refine ev_shift ?_
    simp only [spec_raAll.f]
    exact ev_pos rfl (ev_some (by rw [lexL_zero]))
  | succ j ih =>
    intro m f hm
    refine ev_shift ?_
    simp only [spec_raAll.f]
    refine ev_neg (by omega) ?_
    have e2 : wrap64 (((j + 1 : Nat) : Int) - 1) = (j : Int) := by rw [w64 (by omega) (by omega)]; omega
    have key : ∀ (d f : Nat) (out : List (List Int)), f + d ≤ 12 → out.length + C d (j + 1) ≤ 100000 → Ev (fun k => spec_raAll.l0 k ((f + d : Nat) : Int) ((j + 1 : Nat) : Int) out (f : Int)) (out ++ lexL f d (j + 1)) := by
      intro d
      induction d with
      | zero =>
        intro f out _ _
        refine ev_shift ?_
        simp only [spec_raAll.l0]
        exact ev_neg (by omega) (ev_some (by rw [lexL_none, List.append_nil]))
      | succ d ihd =>
        intro f out hf ho
        rw [C_succ] at ho
        have e1 : wrap64 ((f : Int) + 1) = ((f + 1 : Nat) : Int) := by rw [w64 (by omega) (by omega)]; omega
        have e3 : ((f + (d + 1) : Nat) : Int) = ((f + 1 + d : Nat) : Int) := by omega
        have hl := lexL_length (f + 1) d j
        refine ev_shift ?_
        simp only [spec_raAll.l0]
        rw [e1, e2]
        refine ev_pos (by omega) (ev_bind (by rw [e3]; exact ih (by omega) d (f + 1) (by omega)) ?_)
        refine spec_raAll_l1 _ _ _ (lexL (f + 1) d j) (fun r hr => by rw [lexL_mem_length hr]; omega) (by rw [hl]; have := C_12 j (n := d) (by omega); omega) _ (lexL (f + 1) d j) [] rfl out (by rw [hl]; omega) ?_
        rw [e1, e3, lexL_succ, ← List.append_assoc]
        exact ihd (f + 1) _ (by omega) (by simp [hl]; omega)
    have := key m f [] hm (by have := C_12 (j + 1) (n := m) (by omega); simp; omega)
    simpa using this
theorem spec_l1Same_ev (a b : List Int) (hl : a.length ≤ 9000000000000000000) : Ev (fun k => spec_l1Same.f k a b) (decide (a = b)) := by
  unfold spec_l1Same.f
  by_cases hlen : (a.length : Int) = (b.length : Int)
  · refine ev_pos hlen ?_
    have key : ∀ suf pre, a = pre ++ suf → ∀ s : List Int, b = pre ++ s → Ev (fun k => spec_l1Same.l0 k a b (a.length : Int) (pre.length : Int)) (decide (suf = s)) := by
      refine range_ind hl (fun pre suf => ∀ s : List Int, b = pre ++ s → Ev (fun k => spec_l1Same.l0 k a b (a.length : Int) (pre.length : Int)) (decide (suf = s))) ?_ ?_
      · intro s hs
        have : s = [] := by
          have := congrArg List.length hs
          rw [List.length_append] at this
          exact List.length_eq_zero_iff.1 (by omega)
        subst this
        refine ev_shift ?_
        simp only [spec_l1Same.l0]
        exact ev_neg (by omega) (ev_some rfl)
      · intro pre x suf hh hx h1 h2 h3 ih s hs
        cases s with
        | nil =>
          have e1 := congrArg List.length hs
          have e2 := congrArg List.length hh
          simp at e1 e2
          omega
        | cons y s =>
          have hrb : rd b (pre.length : Int) = y := by rw [hs]; exact rd_at _ _ _
          refine ev_shift ?_
          simp only [spec_l1Same.l0, hx, h3, hrb]
          refine ev_pos h1 (ev_pos h2 (ev_pos h1 (ev_pos (by omega) ?_)))
          by_cases e : x = y
          · subst e
            refine ev_pos rfl ?_
            have := ih s (by simp [hs])
            have e2 : decide (x :: suf = x :: s) = decide (suf = s) := by simp
            rw [e2]; exact this
          · refine ev_neg e (ev_some ?_)
            rw [eq_comm, decide_eq_false_iff_not]
            intro c; exact e (List.cons.inj c).1
    exact key a [] rfl b rfl
  · refine ev_neg hlen (ev_some ?_)
    rw [eq_comm, decide_eq_false_iff_not]
    intro c; subst c; exact hlen rfl
theorem spec_raPlace_ev (A : List (List Int)) (l : List Int) (hA : A.length ≤ 1000000) (hr : ∀ r ∈ A, r.length ≤ 1000000) : Ev (fun k => spec_raPlace.f k A l) (placeI A l) := by
  have key : ∀ suf pre, A = pre ++ suf → plc pre l = pre.length → Ev (fun k => spec_raPlace.l0 k l A (A.length : Int) (pre.length : Int)) (placeI A l) := by
    refine rangeL_ind (by omega) (fun pre suf => plc pre l = pre.length → Ev (fun k => spec_raPlace.l0 k l A (A.length : Int) (pre.length : Int)) (placeI A l)) ?_ ?_
    · intro hp
      refine ev_shift ?_
      simp only [spec_raPlace.l0]
      refine ev_neg (by omega) (ev_some ?_)
      unfold placeI
      rw [if_neg (by omega)]
    · intro pre r suf hh hx h1 h2 h3 ih hp
      have e : rd_L2 A (pre.length : Int) = r := hx
      refine ev_shift ?_
      simp only [spec_raPlace.l0, e, h3]
      refine ev_pos h1 (ev_pos h2 (ev_pos h1 (ev_bind (spec_l1Same_ev r l (by have := hr r (by rw [hh]; simp); omega)) ?_)))
      by_cases er : r = l
      · refine ev_pos (by simp [er]) (ev_some ?_)
        have hpl : plc A l = pre.length := by rw [hh, plc_append, if_neg (by omega)]; simp [plc, er]
        unfold placeI
        rw [hpl, if_pos (by omega)]
      · refine ev_neg (by simp [er]) (ih ?_)
        rw [plc_append, if_neg (by omega)]
        simp [plc, er]
  exact key A [] rfl rfl
theorem impl_within_eq (a b c : Int) : impl_within.f a b c = some (inR a b c) := in_ite a b c
theorem impl_allWithin_ev (l : List Int) (lo hi : Int) (hl : l.length ≤ 9000000000000000000) : Ev (fun k => impl_allWithin.f k l lo hi) (allIn l lo hi) := by
  refine range_all hl (fun pre suf => Ev (fun k => impl_allWithin.l0 k lo hi l (l.length : Int) (pre.length : Int)) (allIn suf lo hi)) ?_ ?_
  · refine ev_shift ?_
    simp only [impl_allWithin.l0]
    exact ev_neg (by omega) (ev_some rfl)
  · intro pre x suf h hx h1 h2 h3 ih
    refine ev_shift ?_
    simp only [impl_allWithin.l0, hx, h3, impl_within_eq, Option.bind_some, allIn_cons]
    refine ev_pos h1 (ev_pos h2 (ev_pos h1 ?_))
    cases inR x lo hi with
    | true => exact ev_pos rfl ih
    | false => exact ev_neg (by simp) (ev_some rfl)
theorem impl_increasing_ev (l : List Int) (hl : l.length ≤ 9000000000000000000) : Ev (fun k => impl_increasing.f k l) (incr l) := by
  cases l with
  | nil =>
    unfold impl_increasing.f
    refine ev_shift ?_
    simp only [impl_increasing.l0]
    exact ev_neg (by simp) (ev_some rfl)
  | cons y r =>
    have key : ∀ suf pre, y :: r = pre ++ suf → ∀ q p, pre = q ++ [p] → Ev (fun k => impl_increasing.l0 k (y :: r) (pre.length : Int)) (incrF p suf) := by
      refine range_ind hl (fun pre suf => ∀ q p, pre = q ++ [p] → Ev (fun k => impl_increasing.l0 k (y :: r) (pre.length : Int)) (incrF p suf)) ?_ ?_
      · intro q p _
        refine ev_shift ?_
        simp only [impl_increasing.l0]
        exact ev_neg (by omega) (ev_some rfl)
      · intro pre x suf h hx h1 h2 h3 ih q p hq
        have hp := rd_prev q p (x :: suf) (by rw [← hq]; rw [h] at hl; simp at hl ⊢; omega)
        rw [← hq, ← h] at hp
        have hql : pre.length = q.length + 1 := by rw [hq]; simp
        refine ev_shift ?_
        simp only [impl_increasing.l0, hx, h3, hp.1, hp.2, incrF]
        refine ev_pos h1 (ev_pos (by omega) (ev_pos (by omega) (ev_pos h2 ?_)))
        by_cases hlt : p < x
        · refine ev_neg (by omega) ?_
          simp only [decide_eq_true hlt, Bool.true_and]
          exact ih pre x rfl
        · refine ev_pos (by omega) ?_
          simp only [decide_eq_false hlt, Bool.false_and]
          exact ev_some rfl
    exact key r [y] rfl [] y rfl
theorem impl_IsCombination_ev (n : Int) (l : List Int) (hl : l.length ≤ 9000000000000000000) : Ev (fun k => impl_IsCombination.f k n l) (isComb n l) := by
  unfold impl_IsCombination.f
  refine ev_bind0 (impl_within_eq _ _ _) ?_
  by_cases hn : inR n 0 12 = true
  · have hn' := inR_iff.1 hn
    refine ev_pos hn ?_
    rw [w64 (by omega) (by omega)]
    refine ev_bind (impl_allWithin_ev l 0 (n - 1) hl) ?_
    simp only [isComb, hn, Bool.true_and]
    cases allIn l 0 (n - 1) with
    | false => exact ev_neg (by simp) (ev_some rfl)
    | true => exact ev_pos rfl (ev_bind (impl_increasing_ev l hl) (ev_some rfl))
  · refine ev_neg hn (ev_some ?_)
    simp only [Bool.not_eq_true] at hn
    simp only [isComb, hn, Bool.false_and]
theorem impl_binomial_ev (n : Nat) (k : Nat) (h : n ≤ 13) (hk : k ≤ 14) : Ev (fun j => impl_binomial.f j (n : Int) (k : Int)) (C n k : Int) := by
  have t : ∀ (a : Fin 14) (b : Fin 15), impl_binomial.f 20 ((a.1 : Nat) : Int) ((b.1 : Nat) : Int) = some (C a.1 b.1 : Int) := by decide +kernel
  exact Ev.of (impl_binomial.mono _ _) (t ⟨n, by omega⟩ ⟨k, by omega⟩)
attribute [local irreducible] C rankL in
theorem impl_combinationRank_l1 (n : Nat) (l : List Int) (hn : n ≤ 12) (x : Int) (i : Nat) (suf : List Int) (hi : l.length = i + suf.length + 1) (hsl : suf.length ≤ 12) (R : Int)  :
    ∀ m f rank : Nat, f + m = n → Cmb (f : Int) (n : Int) (x :: suf) → rank + C m (suf.length + 1) ≤ 5000 →
    (∀ m' f' rank' : Nat, f' + m' = n → (f' : Int) = x + 1 → rank' + C m' suf.length ≤ 5000 → rank + rankL f m (x :: suf) = rank' + rankL f' m' suf → Ev (fun k => impl_combinationRank.l0 k (n : Int) l (rank' : Int) (f' : Int) l (l.length : Int) (wrap64 ((i : Int) + 1))) R) →
    Ev (fun k => impl_combinationRank.l1 k (n : Int) l (rank : Int) (f : Int) (i : Int) x l (l.length : Int) (i : Int)) R := by
  intro m
  induction m with
  | zero => intro f rank hf hc _ _; obtain ⟨a, b, _⟩ := hc; omega
  | succ m ih =>
    intro f rank hf hc hb hk
    obtain ⟨a, b, c⟩ := hc
    have e1 : wrap64 ((f : Int) + 1) = ((f + 1 : Nat) : Int) := by rw [w64 (by omega) (by omega)]; omega
    have e2 : wrap64 (wrap64 ((n : Int) - (f : Int)) - 1) = (m : Int) := by rw [w64 (x := (n : Int) - (f : Int)) (by omega) (by omega), w64 (by omega) (by omega)]; omega
    have e3 : wrap64 (wrap64 ((l.length : Int) - (i : Int)) - 1) = (suf.length : Int) := by rw [w64 (x := (l.length : Int) - (i : Int)) (by omega) (by omega), w64 (by omega) (by omega)]; omega
    rw [C_succ] at hb
    refine ev_shift ?_
    simp only [impl_combinationRank.l1, e1, e2, e3]
    clear e1 e2 e3
    by_cases hx : (f : Int) < x
    · refine ev_pos hx (ev_bind (impl_binomial_ev m suf.length (by omega) (by omega)) ?_)
      have e4 : wrap64 ((rank : Int) + (C m suf.length : Int)) = ((rank + C m suf.length : Nat) : Int) := by rw [w64 (by omega) (by omega)]; omega
      rw [e4]
      clear e4
      refine ih (f + 1) (rank + C m suf.length) (by omega) (cmb_mk (by omega) b c) (by omega) ?_
      intro m' f' rank' h1 h2 h3 h4
      refine hk m' f' rank' h1 h2 h3 ?_
      rw [← h4, rankL_succ, if_neg (by omega)]; omega
    · refine ev_neg hx ?_
      have hxf : x = (f : Int) := by omega
      refine hk m (f + 1) rank (by omega) (by omega) (by omega) ?_
      rw [rankL_succ, if_pos hxf]
attribute [local irreducible] C rankL in
theorem impl_combinationRank_ev (n : Nat) (l : List Int) (hn : n ≤ 12) (hc : Cmb 0 (n : Int) l) (hl : l.length ≤ 12) : Ev (fun k => impl_combinationRank.f k (n : Int) l) (rankL 0 n l : Int) := by
  have key : ∀ suf pre, l = pre ++ suf → ∀ m f rank : Nat, f + m = n → Cmb (f : Int) (n : Int) suf → rank + C m suf.length ≤ 5000 → Ev (fun k => impl_combinationRank.l0 k (n : Int) l (rank : Int) (f : Int) l (l.length : Int) (pre.length : Int)) ((rank + rankL f m suf : Nat) : Int) := by
    refine range_ind (by omega) (fun pre suf => ∀ m f rank : Nat, f + m = n → Cmb (f : Int) (n : Int) suf → rank + C m suf.length ≤ 5000 → Ev (fun k => impl_combinationRank.l0 k (n : Int) l (rank : Int) (f : Int) l (l.length : Int) (pre.length : Int)) ((rank + rankL f m suf : Nat) : Int)) ?_ ?_
    · intro m f rank _ _ _
      refine ev_shift ?_
      simp only [impl_combinationRank.l0]
      exact ev_neg (by omega) (ev_some (by rw [rankL_nil]; simp))
    · intro pre x suf hh hx h1 h2 h3 ih m f rank hf hcm hb
      have hlen : l.length = pre.length + suf.length + 1 := by rw [hh]; simp; omega
      refine ev_shift ?_
      simp only [impl_combinationRank.l0, hx]
      refine ev_pos h1 (ev_pos h2 (ev_pos h1 ?_))
      refine impl_combinationRank_l1 n l hn x pre.length suf hlen (by omega) _ m f rank hf hcm hb ?_
      intro m' f' rank' g1 g2 g3 g4
      rw [h3, g4]
      refine ih m' f' rank' g1 ?_ g3
      obtain ⟨_, _, c⟩ := hcm
      rw [g2]; exact c
  have := key l [] rfl n 0 0 (by omega) hc (by have := C_12 l.length (n := n) (by omega); omega)
  simpa [impl_combinationRank.f] using this
theorem spec_CombinationRank_ev (n : Int) (l : List Int) (hl : l.length ≤ 9000000000000000000) : Ev (fun k => spec_CombinationRank.f k n l) (rankC n l) := by
  unfold spec_CombinationRank.f rankC
  refine ev_bind (spec_raCombination_ev n l hl) ?_
  by_cases h : isComb n l = true
  · rw [if_pos h]
    have h' := isComb_iff.1 h
    have hlen := isComb_len h
    obtain ⟨m, rfl⟩ := Int.eq_ofNat_of_zero_le h'.1.1
    have ha := spec_raAll_ev l.length (by omega) m 0 (by omega)
    rw [Nat.zero_add] at ha
    refine ev_pos h (ev_bind ha (ev_bind (spec_raPlace_ev _ l (by rw [lexL_length]; have := C_12 l.length (n := m) (by omega); omega) (fun r hr => by rw [lexL_mem_length hr]; omega)) (ev_some ?_)))
    rw [placeI_lexL h, Int.toNat_natCast]
  · rw [if_neg h]
    exact ev_neg h (ev_some rfl)
theorem impl_CombinationRank_ev (n : Int) (l : List Int) (hl : l.length ≤ 9000000000000000000) : Ev (fun k => impl_CombinationRank.f k n l) (rankC n l) := by
  unfold impl_CombinationRank.f rankC
  refine ev_bind (impl_IsCombination_ev n l hl) ?_
  by_cases h : isComb n l = true
  · rw [if_pos h]
    have h' := isComb_iff.1 h
    have hlen := isComb_len h
    obtain ⟨m, rfl⟩ := Int.eq_ofNat_of_zero_le h'.1.1
    refine ev_pos h (ev_bind (impl_combinationRank_ev m l (by omega) (cmb_of_isComb h) (by omega)) (ev_some ?_))
    rw [Int.toNat_natCast]
  · rw [if_neg h]
    exact ev_neg h (ev_some rfl)
theorem spec_l1Own_eq (l : List Int) (h : l.length < 17592186044416) : spec_l1Own.f l = some l := by
  simp only [spec_l1Own.f, Option.bind_some, List.length_nil, Nat.zero_add, List.nil_append]
  rw [if_pos h]
theorem spec_raOf_eq (l : List (List Int)) (i : Int) (h : l.length ≤ 1000000) (hr : ∀ r ∈ l, r.length ≤ 1000000) : spec_raOf.f l i = some (ofL l i) := by
  simp only [spec_raOf.f, spec_l1In_eq, Option.bind_some]
  rw [w64 (by omega) (by omega)]
  unfold ofL
  by_cases hi : inR i 0 ((l.length : Int) - 1) = true
  · have hi' := inR_iff.1 hi
    rw [if_pos hi, if_pos hi, if_pos hi'.1, if_pos (by omega)]
    have e : rd_L2 l i = rdL l i := rfl
    have hm : rdL l i ∈ l := by
      unfold rdL
      rw [List.getD_eq_getElem?_getD, List.getElem?_eq_getElem (by omega)]
      exact List.getElem_mem _
    rw [e, spec_l1Own_eq _ (by have := hr _ hm; omega), Option.bind_some]
  · rw [if_neg hi, if_neg hi]
theorem impl_isRank_ev (n k r : Int) : Ev (fun j => impl_isRank.f j n k r) (isRk n k r) := by
  unfold impl_isRank.f isRk
  refine ev_bind0 (impl_within_eq _ _ _) ?_
  by_cases h : inR n 0 12 = true
  · have h' := inR_iff.1 h
    refine ev_pos h (ev_bind0 (impl_within_eq _ _ _) ?_)
    by_cases hk : inR k 0 n = true
    · have hk' := inR_iff.1 hk
      obtain ⟨m, rfl⟩ := Int.eq_ofNat_of_zero_le h'.1
      obtain ⟨i, rfl⟩ := Int.eq_ofNat_of_zero_le hk'.1
      refine ev_pos hk (ev_bind (impl_binomial_ev m i (by omega) (by omega)) (ev_bind0 (impl_within_eq _ _ _) (ev_some ?_)))
      have b := C_12 i (n := m) (by omega)
      rw [w64 (by omega) (by omega)]
      simp only [Int.toNat_natCast]
      unfold inR
      rw [← Bool.decide_and]
      exact decide_eq_decide.2 ⟨fun a => ⟨h', hk', by omega, by omega⟩, fun a => ⟨by omega, by omega⟩⟩
    · exact ev_neg hk (ev_some (by rw [eq_comm, decide_eq_false_iff_not]; intro c; exact hk (inR_iff.2 c.2.1)))
  · exact ev_neg h (ev_some (by rw [eq_comm, decide_eq_false_iff_not]; intro c; exact h (inR_iff.2 c.1)))
theorem impl_combinationAt_l0 (m : Nat) : ∀ (f j r : Nat) (out : List Int), f + m ≤ 12 → out.length + j ≤ 12 → r < C m j →
    Ev (fun k => impl_combinationAt.l0 k ((f + m : Nat) : Int) ((out.length + j : Nat) : Int) (r : Int) out (f : Int)) (out ++ unrankL f m j r) := by
  induction m with
  | zero =>
    intro f j r out hf ho hr
    refine ev_shift ?_
    simp only [impl_combinationAt.l0]
    cases j with
    | zero => exact ev_neg (by omega) (ev_some (by rw [unrankL_zero, List.append_nil]))
    | succ j => exact absurd hr (by simp [C])
  | succ m ih =>
    intro f j r out hf ho hr
    refine ev_shift ?_
    simp only [impl_combinationAt.l0]
    cases j with
    | zero => exact ev_neg (by omega) (ev_some (by rw [unrankL_zero, List.append_nil]))
    | succ j =>
      have e1 : wrap64 (wrap64 (((f + (m + 1) : Nat) : Int) - (f : Int)) - 1) = (m : Int) := by
        rw [w64 (x := ((f + (m + 1) : Nat) : Int) - (f : Int)) (by omega) (by omega), w64 (by omega) (by omega)]; omega
      have e2 : wrap64 (wrap64 (((out.length + (j + 1) : Nat) : Int) - (out.length : Int)) - 1) = (j : Int) := by
        rw [w64 (x := ((out.length + (j + 1) : Nat) : Int) - (out.length : Int)) (by omega) (by omega), w64 (by omega) (by omega)]; omega
      have e3 : wrap64 ((f : Int) + 1) = ((f + 1 : Nat) : Int) := by rw [w64 (by omega) (by omega)]; omega
      have e4 : ((f + (m + 1) : Nat) : Int) = ((f + 1 + m : Nat) : Int) := by omega
      have b := C_12 j (n := m) (by omega)
      have b' := C_12 (j + 1) (n := m) (by omega)
      rw [e1, e2, e3, unrankL_succ]
      rw [C_succ] at hr
      refine ev_pos (by omega) (ev_bind (impl_binomial_ev m j (by omega) (by omega)) ?_)
      by_cases h : r < C m j
      · rw [if_pos h]
        refine ev_pos (by omega) (ev_pos (by omega) ?_)
        have := ih (f + 1) j r (out ++ [(f : Int)]) (by omega) (by simp; omega) h
        rw [List.append_assoc, List.singleton_append] at this
        rw [e4]
        have e5 : (out ++ [(f : Int)]).length + j = out.length + (j + 1) := by simp; omega
        rw [e5] at this
        exact this
      · rw [if_neg h]
        refine ev_neg (by omega) ?_
        have e6 : wrap64 ((r : Int) - (C m j : Int)) = ((r - C m j : Nat) : Int) := by rw [w64 (by omega) (by omega)]; omega
        rw [e6, e4]
        exact ih (f + 1) (j + 1) (r - C m j) out (by omega) (by omega) (by omega)
theorem impl_combinationAt_ev (n j r : Nat) (hn : n ≤ 12) (hj : j ≤ 12) (hr : r < C n j) : Ev (fun k => impl_combinationAt.f k (n : Int) (j : Int) (r : Int)) (unrankL 0 n j r) := by
  have := impl_combinationAt_l0 n 0 j r [] (by omega) (by simp; omega) hr
  simpa [impl_combinationAt.f] using this
theorem spec_CombinationAt_ev (n k r : Int) : Ev (fun j => spec_CombinationAt.f j n k r) (combAt n k r) := by
  have bad : ¬ (inR n 0 12 = true ∧ inR k 0 12 = true) → Ev (fun j => spec_CombinationAt.j0 j n k r true) (combAt n k r) := by
    intro h
    refine ev_shift ?_
    simp only [spec_CombinationAt.j0]
    refine ev_pos (by trivial) (ev_some ?_)
    unfold combAt
    rw [if_neg]
    intro c
    have c' := isRk_iff.1 c
    exact h ⟨inR_iff.2 c'.1, inR_iff.2 ⟨by omega, by omega⟩⟩
  unfold spec_CombinationAt.f
  refine ev_bind0 (spec_raItems_eq _) ?_
  by_cases h : inR n 0 12 = true
  · refine ev_pos h (ev_bind0 (spec_raItems_eq _) ?_)
    by_cases hk : inR k 0 12 = true
    · have h' := inR_iff.1 h
      have hk' := inR_iff.1 hk
      obtain ⟨m, rfl⟩ := Int.eq_ofNat_of_zero_le h'.1
      obtain ⟨i, rfl⟩ := Int.eq_ofNat_of_zero_le hk'.1
      rw [hk]
      refine ev_shift ?_
      simp only [spec_CombinationAt.j0]
      refine ev_neg (by simp) ?_
      have ha := spec_raAll_ev i (by omega) m 0 (by omega)
      rw [Nat.zero_add] at ha
      refine ev_bind ha (ev_bind0 (spec_raOf_eq _ _ (by rw [lexL_length]; have := C_12 i (n := m) (by omega); omega) (fun r hr => by rw [lexL_mem_length hr]; omega)) (ev_some ?_))
      exact ofL_lexL m i (by omega) r
    · simp only [Bool.not_eq_true] at hk
      rw [hk]
      exact bad (fun c => by rw [hk] at c; exact absurd c.2 (by simp))
  · exact ev_neg h (bad (fun c => h c.1))
theorem impl_CombinationAt_ev (n k r : Int) : Ev (fun j => impl_CombinationAt.f j n k r) (combAt n k r) := by
  unfold impl_CombinationAt.f combAt
  refine ev_bind (impl_isRank_ev _ _ _) ?_
  by_cases h : isRk n k r = true
  · have h' := isRk_iff.1 h
    obtain ⟨m, rfl⟩ := Int.eq_ofNat_of_zero_le h'.1.1
    obtain ⟨i, rfl⟩ := Int.eq_ofNat_of_zero_le h'.2.1.1
    obtain ⟨q, rfl⟩ := Int.eq_ofNat_of_zero_le h'.2.2.1
    rw [if_pos h]
    simp only [Int.toNat_natCast] at h' ⊢
    exact ev_pos h (ev_bind (impl_combinationAt_ev m i q (by omega) (by omega) (by omega)) (ev_some rfl))
  · exact ev_neg h (ev_some (by rw [if_neg h]))
theorem impl_NextCombination_ev (n : Int) (l : List Int) (hl : l.length ≤ 9000000000000000000) : Ev (fun k => impl_NextCombination.f k n l) (nextC n l) := by
  have bad : Ev (fun k => impl_NextCombination.j0 k n l true) ([], false) := by
    refine ev_shift ?_
    simp only [impl_NextCombination.j0]
    exact ev_pos (by trivial) (ev_some rfl)
  unfold impl_NextCombination.f nextC
  refine ev_bind (impl_IsCombination_ev n l hl) ?_
  by_cases h : isComb n l = true
  · rw [if_pos h]
    have h' := isComb_iff.1 h
    have hlen := isComb_len h
    obtain ⟨m, rfl⟩ := Int.eq_ofNat_of_zero_le h'.1.1
    have hr := (plc_lexL m 0 l (by rw [Nat.zero_add]; exact cmb_of_isComb h)).2
    have hr2 := C_12 l.length (n := m) (by omega)
    have hrk := impl_combinationRank_ev m l (by omega) (cmb_of_isComb h) (by omega)
    have ew : wrap64 ((rankL 0 m l : Int) + 1) = ((rankL 0 m l + 1 : Nat) : Int) := by rw [w64 (by omega) (by omega)]; omega
    refine ev_pos h (ev_bind hrk ?_)
    rw [ew, Int.toNat_natCast]
    refine ev_bind (impl_isRank_ev _ _ _) ?_
    unfold combAt
    by_cases hk : isRk (m : Int) (l.length : Int) ((rankL 0 m l + 1 : Nat) : Int) = true
    · have hk' := isRk_iff.1 hk
      simp only [Int.toNat_natCast] at hk'
      rw [if_pos (show isRk (m : Int) (l.length : Int) ((rankL 0 m l : Int) + 1) = true from hk), hk]
      refine ev_shift ?_
      simp only [impl_NextCombination.j0]
      refine ev_neg (by simp) (ev_bind hrk ?_)
      rw [ew]
      refine ev_bind (impl_combinationAt_ev m l.length (rankL 0 m l + 1) (by omega) (by omega) (by omega)) (ev_some ?_)
      simp only [Int.toNat_natCast]
      rfl
    · rw [if_neg (show ¬ isRk (m : Int) (l.length : Int) ((rankL 0 m l : Int) + 1) = true from hk)]
      simp only [Bool.not_eq_true] at hk
      rw [hk]
      exact bad
  · rw [if_neg h]
    exact ev_neg h bad
def binP (n k : Int) : Int × Bool := if inR n 0 12 = true ∧ inR k 0 12 = true then ((C n.toNat k.toNat : Int), true) else (0, false)
theorem impl_Binomial_ev (n k : Int) : Ev (fun j => impl_Binomial.f j n k) (binP n k) := by
  unfold impl_Binomial.f binP
  refine ev_bind0 (impl_within_eq _ _ _) ?_
  by_cases h : inR n 0 12 = true
  · refine ev_pos h (ev_bind0 (impl_within_eq _ _ _) ?_)
    by_cases hk : inR k 0 12 = true
    · have h' := inR_iff.1 h
      have hk' := inR_iff.1 hk
      obtain ⟨m, rfl⟩ := Int.eq_ofNat_of_zero_le h'.1
      obtain ⟨i, rfl⟩ := Int.eq_ofNat_of_zero_le hk'.1
      refine ev_pos hk (ev_bind (impl_binomial_ev m i (by omega) (by omega)) (ev_some ?_))
      rw [if_pos ⟨h, hk⟩]; simp
    · exact ev_neg hk (ev_some (by rw [if_neg (fun c => hk c.2)]))
  · exact ev_neg h (ev_some (by rw [if_neg (fun c => h c.1)]))
theorem laws_uSame_ev (l : List Int) (hl : l.length ≤ 9000000000000000000) : Ev (fun k => laws_uSame.f k l l) true := by
  unfold laws_uSame.f
  refine ev_pos rfl ?_
  refine range_all hl (fun pre suf => Ev (fun k => laws_uSame.l0 k l l (l.length : Int) (pre.length : Int)) true) ?_ ?_
  · refine ev_shift ?_
    simp only [laws_uSame.l0]
    exact ev_neg (by omega) (ev_some rfl)
  · intro pre x suf h hx h1 h2 h3 ih
    refine ev_shift ?_
    simp only [laws_uSame.l0, h3]
    exact ev_pos h1 (ev_pos h2 (ev_pos h1 (ev_pos h1 (ev_pos (by trivial) ih))))
theorem laws_FnCombinationRanks_j1_ev {m : List Int} (hm : wfB m) : Ev (fun k => laws_FnCombinationRanks.j1 k m) true := by
  obtain ⟨n, k, r, e⟩ := dr_CombinationAt hm
  refine ev_shift ?_
  simp only [laws_FnCombinationRanks.j1]
  have hlen := combAt_len n k r
  refine ev_bind e (ev_bind (impl_CombinationAt_ev n k r) (ev_bind (spec_CombinationAt_ev n k r) (ev_neg neq_self (ev_bind (laws_uSame_ev _ (by omega)) ?_))))
  refine ev_shift ?_
  simp only [laws_FnCombinationRanks.j2]
  refine ev_neg Bool.false_ne_true ?_
  by_cases h : isRk n k r = true
  · have hb := combAt_back h
    have ht : (combAt n k r).2 = true := by unfold combAt; rw [if_pos h]
    refine ev_pos ht (ev_bind (impl_CombinationRank_ev n _ (by omega)) ?_)
    rw [hb]
    exact ev_pos rfl (ev_some (by simp))
  · have ht : (combAt n k r).2 = false := by unfold combAt; rw [if_neg h]
    exact ev_neg (by simp [ht]) (ev_some rfl)
theorem FnCombinationRanks : laws_FnCombinationRanks.Pure := by
  intro c m hl1 hl2 hc hm1 hm2 hm
  apply ev_le
  unfold laws_FnCombinationRanks.f
  rcases laws_big_eq c m hc hm (by omega) with hb | ⟨hb, wc, wm⟩
  · exact ev_bind0 hb (ev_pos rfl (ev_some rfl))
  refine ev_bind0 hb (ev_neg Bool.false_ne_true ?_)
  obtain ⟨n, l, e, hl⟩ := dr_IsCombination wc
  have hj := laws_FnCombinationRanks_j1_ev wm
  refine ev_bind (g := fun k => spec_DrawCombinationRank.f k c) (a := (n, l)) (by unfold spec_DrawCombinationRank.f; exact ev_bind e (ev_some rfl)) ?_
  refine ev_bind (impl_CombinationRank_ev n l (by omega)) (ev_bind (spec_CombinationRank_ev n l (by omega)) (ev_neg neq_self (ev_pos rfl (ev_bind (impl_IsCombination_ev n l (by omega)) ?_))))
  by_cases h : isComb n l = true
  · have h' := isComb_iff.1 h
    have hll := isComb_len h
    obtain ⟨i, rfl⟩ := Int.eq_ofNat_of_zero_le h'.1.1
    have hr : rankC (i : Int) l = ((rankL 0 i l : Int), true) := by unfold rankC; rw [if_pos h, Int.toNat_natCast]
    have hlt := rankL_lt h
    have hC := C_12 l.length (n := i) (by omega)
    rw [hr, h]
    refine ev_shift ?_
    simp only [laws_FnCombinationRanks.j0]
    have hn : nextC (i : Int) l = combAt (i : Int) (l.length : Int) ((rankL 0 i l : Int) + 1) := by unfold nextC; rw [if_pos h, Int.toNat_natCast]
    have hB : binP (i : Int) (l.length : Int) = ((C i l.length : Int), true) := by
      unfold binP
      rw [if_pos ⟨inR_iff.2 h'.1, inR_iff.2 ⟨by omega, by omega⟩⟩]; simp
    have h2 : (combAt (i : Int) (l.length : Int) ((rankL 0 i l : Int) + 1)).2 = decide ((rankL 0 i l : Int) + 1 < (C i l.length : Int)) := by
      unfold combAt
      by_cases hx : (rankL 0 i l : Int) + 1 < (C i l.length : Int)
      · rw [if_pos (isRk_iff.2 ⟨h'.1, ⟨by omega, hll⟩, by omega, by simpa using hx⟩), decide_eq_true hx]
      · rw [if_neg (fun c => hx (by simpa using (isRk_iff.1 c).2.2.2)), decide_eq_false hx]
    have hlen := combAt_len (i : Int) (l.length : Int) ((rankL 0 i l : Int) + 1)
    refine ev_neg (by decide) (ev_pos (by trivial) (ev_bind (impl_CombinationAt_ev _ _ _) (ev_bind (impl_NextCombination_ev _ l (by omega)) (ev_bind (impl_CombinationAt_ev _ _ _) (ev_bind (impl_Binomial_ev _ _) ?_)))))
    rw [combAt_rank h, hn, w64 (by omega) (by omega), hB]
    refine ev_pos rfl (ev_bind (laws_uSame_ev l (by omega)) (ev_pos rfl (ev_neg neq_self (ev_bind (laws_uSame_ev _ (by omega)) (ev_pos rfl (ev_pos rfl (ev_neg ?_ hj)))))))
    rw [h2]; exact neq_self
  · have hr : rankC n l = (0, false) := by unfold rankC; rw [if_neg h]
    rw [hr]
    simp only [Bool.not_eq_true] at h
    rw [h]
    refine ev_shift ?_
    simp only [laws_FnCombinationRanks.j0]
    exact ev_neg (by decide) (ev_neg (by decide) hj)

end Go.Proofs.Ytkbnkichgkeckaa.Pure
