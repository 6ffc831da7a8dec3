/- The law FnColexRanks returns true for every two lists of bytes (reach as the row says); no condition of ours. -/
import Derived.Test.YtkbnkichgkeckaaQFnColexRanksx5
import Derived.Test.YtkbnkichgkeckaaMth
import Derived.Test.YtkbnkichgkeckaaMthComb
import Derived.Test.YtkbnkichgkeckaaMthPlace
import Derived.Test.YtkbnkichgkeckaaMthRankMore
set_option linter.unusedVariables false
set_option linter.unusedSimpArgs false
namespace Go.Proofs.Ytkbnkichgkeckaa.Pure
open Go.RowKit Go.Proofs.Ytkbnkichgkeckaa.Mth Go.Proofs.Ytkbnkichgkeckaa.PFnColexRanks Go.Proofs.YtkbnkichgkeckaaW.PrintWords Go.Proofs.YtkbnkichgkeckaaW.PrintLast

theorem wrapU (n : Int) : IntKind.u64.wrap n = n % 18446744073709551616 := by simp [IntKind.wrap, IntKind.bits, IntKind.signed]
def wfB (c : List Int) : Prop := c.length ≤ 1048576 ∧ ∀ x ∈ c, 0 ≤ x ∧ x ≤ 255
theorem wfB_of {c : List Int} (h0 : c.length ≤ 1048576) (h : ∀ x ∈ c, (Lit.int .u8 x).wf = true) : wfB c := by
  refine ⟨h0, fun x hx => ?_⟩
  have := h x hx
  simp only [Lit.wf, Bool.and_eq_true, decide_eq_true_eq] at this
  have e0 : IntKind.min .u8 = 0 := by decide
  have e1 : IntKind.max .u8 = 255 := by decide
  omega
theorem byte_of (x : Int) : 0 ≤ wrap64 (Go.bits .and .u64 ((IntKind.u64.wrap x) / 1099511627776) 255) ∧ wrap64 (Go.bits .and .u64 ((IntKind.u64.wrap x) / 1099511627776) 255) ≤ 255 := by
  have h1 : 0 ≤ IntKind.u64.wrap x / 1099511627776 ∧ IntKind.u64.wrap x / 1099511627776 < 2 ^ 24 := by rw [wrapU]; omega
  have h2 := Go.bits_mask .u64 24 (by decide) (fun n a b => by rw [wrapU]; omega) 8 (by decide) _ h1.1 h1.2
  have h3 : Go.bits .and .u64 ((IntKind.u64.wrap x) / 1099511627776) 255 = (IntKind.u64.wrap x) / 1099511627776 % 2 ^ 8 := h2
  rw [h3, w64 (by omega) (by omega)]
  omega
theorem dr_next {c : List Int} (hc : wfB c) {a : Int} (s : Int) (h0 : 0 ≤ a) (h1 : a ≤ 4000000000000000000) : ∃ r s', spec_l1Cur_next.f c a s = some (r, a + 1, s') ∧ 0 ≤ r ∧ r ≤ 255 := by
  have hl := hc.1
  unfold spec_l1Cur_next.f
  have e : wrap64 (a + 1) = a + 1 := w64 (by omega) (by omega)
  rw [e]
  by_cases h : a < (c.length : Int)
  · rw [if_pos h, if_pos h0, if_pos (by omega)]
    obtain ⟨n, rfl⟩ := Int.eq_ofNat_of_zero_le h0
    have hm := hc.2 _ (rd_mem (l := c) (j := n) (by omega))
    exact ⟨_, _, rfl, by rw [w64 (by omega) (by omega)]; omega, by rw [w64 (by omega) (by omega)]; omega⟩
  · rw [if_neg h, if_neg (by omega)]
    exact ⟨_, _, rfl, (byte_of _).1, (byte_of _).2⟩
theorem dr_pick {c : List Int} (hc : wfB c) {a : Int} (s n : Int) (h0 : 0 ≤ a) (h1 : a ≤ 3999999999999999999) : ∃ r a' s', spec_l1Cur_pick.f c a s n = some (r, a', s') ∧ a ≤ a' ∧ a' ≤ a + 2 ∧ 0 ≤ r ∧ (n ≤ 1 → r = 0) ∧ (1 < n → r < n) := by
  unfold spec_l1Cur_pick.f
  by_cases hn : n ≤ 1
  · rw [if_pos hn]
    exact ⟨0, a, s, rfl, by omega, by omega, by omega, fun _ => rfl, fun h => by omega⟩
  · rw [if_neg hn]
    obtain ⟨x, s1, e1, x0, x1⟩ := dr_next hc s h0 (by omega)
    rw [e1]
    simp only [Option.bind_some]
    by_cases hb : n > 200
    · rw [if_pos hb]
      obtain ⟨y, s2, e2, y0, y1⟩ := dr_next hc s1 (a := a + 1) (by omega) (by omega)
      rw [e2]
      simp only [Option.bind_some]
      rw [if_neg (by omega), w64 (x := x * 256) (by omega) (by omega), w64 (by omega) (by omega)]
      rw [Int.tmod_eq_emod_of_nonneg (by omega)]
      have g0 := Int.emod_nonneg (x * 256 + y) (b := n) (by omega)
      have g1 := Int.emod_lt_of_pos (x * 256 + y) (b := n) (by omega)
      exact ⟨_, _, _, rfl, by omega, by omega, g0, fun h => by omega, fun _ => g1⟩
    · rw [if_neg hb, if_neg (by omega)]
      rw [Int.tmod_eq_emod_of_nonneg (by omega)]
      have g0 := Int.emod_nonneg x (b := n) (by omega)
      have g1 := Int.emod_lt_of_pos x (b := n) (by omega)
      exact ⟨_, _, _, rfl, by omega, by omega, g0, fun h => by omega, fun _ => g1⟩
theorem laws_big_eq (c m : List Int) (hc : ∀ x ∈ c, (Lit.int .u8 x).wf = true) (hm : ∀ x ∈ m, (Lit.int .u8 x).wf = true) (hl : c.length ≤ 9000000000000000000) : laws_big.f c m = some true ∨ (laws_big.f c m = some false ∧ wfB c ∧ wfB m) := by
  unfold laws_big.f
  by_cases h : (c.length : Int) > 1048576
  · exact .inl (if_pos h)
  · rw [if_neg h, w64 (by omega) (by omega)]
    by_cases h2 : (m.length : Int) > 1048576 - (c.length : Int)
    · rw [decide_eq_true h2]; exact .inl rfl
    · rw [decide_eq_false h2]; exact .inr ⟨rfl, wfB_of (by omega) hc, wfB_of (by omega) hm⟩
theorem dr_one {c : List Int} (hc : wfB c) {a : Int} (s n : Int) (h0 : 0 ≤ a) (h1 : a ≤ 3999999999999999999) : ∃ r a' s', spec_l1Cur_one.f c a s n = some (r, a', s') ∧ a ≤ a' ∧ a' ≤ a + 2 := by
  unfold spec_l1Cur_one.f
  obtain ⟨r, a', s', e, h2, h3, _⟩ := dr_pick hc s n h0 h1
  rw [e]
  exact ⟨_, _, _, rfl, h2, h3⟩
theorem dr_among {c : List Int} (hc : wfB c) {a : Int} (s : Int) (l : List Int) (hl : 0 < l.length) (h0 : 0 ≤ a) (h1 : a ≤ 3999999999999999999) : ∃ r a' s', spec_l1Cur_among.f c a s l = some (r, a', s') ∧ a ≤ a' ∧ a' ≤ a + 2 ∧ r ∈ l := by
  unfold spec_l1Cur_among.f
  obtain ⟨r, a', s', e, h2, h3, h4, h5, h6⟩ := dr_pick hc s (l.length : Int) h0 h1
  rw [e]
  simp only [Option.bind_some]
  have hr : r < (l.length : Int) := by
    by_cases h : (l.length : Int) ≤ 1
    · have := h5 h; omega
    · exact h6 (by omega)
  rw [if_pos h4, if_pos hr]
  obtain ⟨n, rfl⟩ := Int.eq_ofNat_of_zero_le h4
  exact ⟨_, _, _, rfl, h2, h3, rd_mem (by omega)⟩
theorem spec_l1Least_eq (a b : Int) : spec_l1Least.f a b = some (if a < b then a else b) := by
  unfold spec_l1Least.f
  split <;> rfl
theorem dr_combination_l0 {c : List Int} (hc : wfB c) (n : Int) (m : Nat) : ∀ (x : Nat) (l : List Int) (a s : Int), m + x = 21 → l.length ≤ x → 0 ≤ a → a + 2 * (m : Int) ≤ 3999999999999999000 → ∃ l' a' s', Ev (fun k => spec_l1Cur_combination.l0 k n l (x : Int) c a s) (l', a', s') ∧ a ≤ a' ∧ a' ≤ a + 2 * (m : Int) + 6 ∧ l'.length ≤ 30 := by
  induction m with
  | zero =>
    intro x l a s hm hl h0 h1
    obtain ⟨y, a1, s1, e1, u1, u2⟩ := dr_one hc s 20 h0 (by omega)
    cases y
    · refine ⟨l, a1, s1, ev_shift ?_, by omega, by omega, by omega⟩
      simp only [spec_l1Cur_combination.l0]
      exact ev_bind0 (spec_l1Least_eq _ _) (ev_neg (by omega) (ev_bind0 e1 (ev_neg Bool.false_ne_true (ev_some rfl))))
    · obtain ⟨z, a2, s2, e2, v1, v2, _⟩ := dr_among hc s1 [-1, 0, n, 4611686018427387904] (by simp) (a := a1) (by omega) (by omega)
      refine ⟨l ++ [z], a2, s2, ev_shift ?_, by omega, by omega, by simp; omega⟩
      simp only [spec_l1Cur_combination.l0]
      exact ev_bind0 (spec_l1Least_eq _ _) (ev_neg (by omega) (ev_bind0 e1 (ev_pos rfl (ev_bind0 e2 (ev_pos (by omega) (ev_some rfl))))))
  | succ m ih =>
    intro x l a s hm hl h0 h1
    by_cases hx : (x : Int) < (if n < 20 then n else 20)
    · have ew : wrap64 ((x : Int) + 1) = ((x + 1 : Nat) : Int) := by rw [w64 (by omega) (by omega)]; omega
      obtain ⟨y, a1, s1, e1, u1, u2⟩ := dr_one hc s 2 h0 (by omega)
      cases y
      · obtain ⟨l', a', s', g1, g2, g3, g4⟩ := ih (x + 1) l a1 s1 (by omega) (by omega) (by omega) (by omega)
        refine ⟨l', a', s', ev_shift ?_, by omega, by omega, g4⟩
        simp only [spec_l1Cur_combination.l0, ew]
        exact ev_bind0 (spec_l1Least_eq _ _) (ev_pos hx (ev_bind0 e1 (ev_neg Bool.false_ne_true g1)))
      · obtain ⟨l', a', s', g1, g2, g3, g4⟩ := ih (x + 1) (l ++ [(x : Int)]) a1 s1 (by omega) (by simp; omega) (by omega) (by omega)
        refine ⟨l', a', s', ev_shift ?_, by omega, by omega, g4⟩
        simp only [spec_l1Cur_combination.l0, ew]
        exact ev_bind0 (spec_l1Least_eq _ _) (ev_pos hx (ev_bind0 e1 (ev_pos rfl (ev_pos (by omega) g1))))
    · obtain ⟨y, a1, s1, e1, u1, u2⟩ := dr_one hc s 20 h0 (by omega)
      cases y
      · refine ⟨l, a1, s1, ev_shift ?_, by omega, by omega, by omega⟩
        simp only [spec_l1Cur_combination.l0]
        exact ev_bind0 (spec_l1Least_eq _ _) (ev_neg hx (ev_bind0 e1 (ev_neg Bool.false_ne_true (ev_some rfl))))
      · obtain ⟨z, a2, s2, e2, v1, v2, _⟩ := dr_among hc s1 [-1, 0, n, 4611686018427387904] (by simp) (a := a1) (by omega) (by omega)
        refine ⟨l ++ [z], a2, s2, ev_shift ?_, by omega, by omega, by simp; omega⟩
        simp only [spec_l1Cur_combination.l0]
        exact ev_bind0 (spec_l1Least_eq _ _) (ev_neg hx (ev_bind0 e1 (ev_pos rfl (ev_bind0 e2 (ev_pos (by omega) (ev_some rfl))))))
theorem dr_combination {c : List Int} (hc : wfB c) (n a s : Int) (h0 : 0 ≤ a) (h1 : a ≤ 3999999999999990000) : ∃ l' a' s', Ev (fun k => spec_l1Cur_combination.f k c a s n) (l', a', s') ∧ a ≤ a' ∧ a' ≤ a + 60 ∧ l'.length ≤ 30 := by
  obtain ⟨l', a', s', g1, g2, g3, g4⟩ := dr_combination_l0 hc n 21 0 [] a s rfl (by simp) h0 (by omega)
  exact ⟨l', a', s', g1, by omega, by omega, g4⟩
theorem dr_ColexRank {c : List Int} (hc : wfB c) : ∃ l, Ev (fun k => spec_DrawColexRank.f k c) l ∧ l.length ≤ 30 := by
  unfold spec_DrawColexRank.f
  obtain ⟨x, a1, s1, e1, u1, u2, _⟩ := dr_among hc 0 [4, 8, 12, 13] (by decide) (a := 0) (by decide) (by decide)
  obtain ⟨l, a2, s2, e2, v1, v2, v3⟩ := dr_combination hc x a1 s1 (by omega) (by omega)
  exact ⟨l, ev_bind0 e1 (ev_bind e2 (ev_some rfl)), v3⟩
theorem dr_items {c : List Int} (hc : wfB c) {a : Int} (s : Int) (h0 : 0 ≤ a) (h1 : a ≤ 3999999999999999000) : ∃ r a' s', spec_l1Cur_items.f c a s = some (r, a', s') ∧ a ≤ a' ∧ a' ≤ a + 4 ∧ -1 ≤ r ∧ r ≤ 13 := by
  unfold spec_l1Cur_items.f
  obtain ⟨r, a', s', e, h2, h3⟩ := dr_one hc s 15 h0 (by omega)
  rw [e]
  simp only [Option.bind_some]
  cases r
  · rw [if_neg (by decide)]
    obtain ⟨r, a1, s1, e, g2, g3, g4, g5, g6⟩ := dr_pick hc s' 9 (a := a') (by omega) (by omega)
    rw [e]
    have := g6 (by decide)
    exact ⟨_, _, _, rfl, by dsimp only; omega, by dsimp only; omega, by dsimp only; omega, by dsimp only; omega⟩
  · rw [if_pos rfl]
    obtain ⟨r, a1, s1, e, g2, g3, g4⟩ := dr_among hc s' [-1, 0, 12, 13] (by decide) (a := a') (by omega) (by omega)
    rw [e]
    simp only [List.mem_cons, List.not_mem_nil, or_false] at g4
    exact ⟨_, _, _, rfl, by dsimp only; omega, by dsimp only; omega, by dsimp only; omega, by dsimp only; omega⟩
theorem w64r (x : Int) : -9223372036854775808 ≤ wrap64 x ∧ wrap64 x ≤ 9223372036854775807 := by unfold wrap64; omega
theorem dr_rank {c : List Int} (hc : wfB c) {a : Int} (s n : Int) (hn : -9223372036854775808 ≤ n) (hn1 : n ≤ 9223372036854775807) (h0 : 0 ≤ a) (h1 : a ≤ 3999999999999999000) : ∃ r a' s', spec_l1Cur_rank.f c a s n = some (r, a', s') ∧ a ≤ a' ∧ a' ≤ a + 8 ∧ -9223372036854775808 ≤ r ∧ r ≤ 9223372036854775807 := by
  unfold spec_l1Cur_rank.f
  obtain ⟨x, a1, s1, e1, u2, u3, u4, u5, u6⟩ := dr_pick hc s 12 h0 (by omega)
  rw [e1]
  simp only [Option.bind_some]
  by_cases c0 : x = 0
  · rw [if_pos c0]
    obtain ⟨r, a2, s2, e2, g2, g3, g4⟩ := dr_among hc s1 [-1, n, wrap64 (n + 1), 4611686018427387904] (by simp) (a := a1) (by omega) (by omega)
    rw [e2]
    have hw := w64r (n + 1)
    generalize hq : wrap64 (n + 1) = q at g4 hw e2; clear hq
    simp only [List.mem_cons, List.not_mem_nil, or_false] at g4
    exact ⟨_, _, _, rfl, by dsimp only; omega, by dsimp only; omega, by dsimp only; omega, by dsimp only; omega⟩
  rw [if_neg c0]
  by_cases c1 : x = 1
  · rw [if_pos c1]
    have hw := w64r (n - 1)
    exact ⟨_, _, _, rfl, by omega, by omega, by omega, by omega⟩
  rw [if_neg c1]
  by_cases c2 : x = 2
  · rw [if_pos c2]
    exact ⟨_, _, _, rfl, by omega, by omega, by omega, by omega⟩
  rw [if_neg c2]
  by_cases c3 : n < 2
  · rw [if_pos c3]
    exact ⟨_, _, _, rfl, by omega, by omega, by omega, by omega⟩
  rw [if_neg c3]
  obtain ⟨y, a2, s2, e2, v2, v3, v4, v5, v6⟩ := dr_pick hc s1 60000 (a := a1) (by omega) (by omega)
  rw [e2]
  simp only [Option.bind_some]
  obtain ⟨z, a3, s3, e3, w2, w3, w4, w5, w6⟩ := dr_pick hc s2 60000 (a := a2) (by omega) (by omega)
  rw [e3]
  simp only [Option.bind_some]
  have := v6 (by decide); have := w6 (by decide)
  rw [if_neg (by omega), w64 (x := y * 60000) (by omega) (by omega), w64 (by omega) (by omega), Int.tmod_eq_emod_of_nonneg (by omega)]
  have g0 := Int.emod_nonneg (y * 60000 + z) (b := n) (by omega)
  have g1 := Int.emod_lt_of_pos (y * 60000 + z) (b := n) (by omega)
  exact ⟨_, _, _, rfl, by omega, by omega, by omega, by omega⟩
theorem spec_l1In_eq (a b c : Int) : spec_l1In.f a b c = some (inR a b c) := in_ite a b c
theorem spec_raItems_eq (a : Int) : spec_raItems.f a = some (inR a 0 12) := by simp only [spec_raItems.f, spec_l1In_eq, Option.bind_some]
theorem spec_raBinomial_ev (n : Nat) (k : Nat) (h : n ≤ 60) (hk : k ≤ 1000000) : Ev (fun j => spec_raBinomial.f j (n : Int) (k : Int)) (C n k : Int) := by
  induction n generalizing k with
  | zero =>
    refine ev_shift ?_
    simp only [spec_raBinomial.f]
    cases k with
    | zero => exact ev_pos rfl (ev_some rfl)
    | succ k => exact ev_neg (by omega) (ev_pos rfl (ev_some rfl))
  | succ n ih =>
    refine ev_shift ?_
    simp only [spec_raBinomial.f]
    cases k with
    | zero => exact ev_pos rfl (ev_some (by rw [C_zero]; rfl))
    | succ k =>
      have e1 : wrap64 (((n + 1 : Nat) : Int) - 1) = (n : Int) := by rw [w64 (by omega) (by omega)]; omega
      have e2 : wrap64 (((k + 1 : Nat) : Int) - 1) = (k : Int) := by rw [w64 (by omega) (by omega)]; omega
      have b1 := Nat.le_trans (C_le n (k + 1)) (Nat.pow_le_pow_right (n := 2) (by omega) (show n ≤ 59 by omega))
      have b2 := Nat.le_trans (C_le n k) (Nat.pow_le_pow_right (n := 2) (by omega) (show n ≤ 59 by omega))
      rw [e1, e2]
      refine ev_neg (by omega) (ev_neg (by omega) (ev_bind (ih (k + 1) (by omega) hk) (ev_bind (ih k (by omega) (by omega)) (ev_some ?_))))
      rw [C_succ, w64 (by omega) (by omega)]; omega
theorem dr_ColexAt {c : List Int} (hc : wfB c) : ∃ k r, Ev (fun j => spec_DrawColexAt.f j c) (k, r) ∧ -1 ≤ k ∧ k ≤ 13 ∧ -9223372036854775808 ≤ r ∧ r ≤ 9223372036854775807 := by
  unfold spec_DrawColexAt.f
  obtain ⟨x, a1, s1, e1, u1, u2, u3, u4⟩ := dr_items hc 0 (a := 0) (by decide) (by decide)
  by_cases h : inR x 0 12 = true
  · have h' := inR_iff.1 h
    obtain ⟨n, rfl⟩ := Int.eq_ofNat_of_zero_le h'.1
    have hb := spec_raBinomial_ev 12 n (by decide) (by omega)
    have hC := C_12 n (n := 12) (by decide)
    obtain ⟨r, a2, s2, e2, v1, v2, v3, v4⟩ := dr_rank hc s1 (C 12 n : Int) (by omega) (by omega) (a := a1) (by omega) (by omega)
    exact ⟨_, r, ev_bind0 e1 (ev_bind0 (spec_raItems_eq _) (ev_pos h (ev_bind hb (ev_bind0 e2 (ev_some rfl))))), u3, u4, v3, v4⟩
  · obtain ⟨r, a2, s2, e2, v1, v2, v3, v4⟩ := dr_rank hc s1 1 (by decide) (by decide) (a := a1) (by omega) (by omega)
    exact ⟨_, r, ev_bind0 e1 (ev_bind0 (spec_raItems_eq _) (ev_neg h (ev_bind0 e2 (ev_some rfl)))), u3, u4, v3, v4⟩
theorem spec_l1Rising_ev (l : List Int) (lo hi : Int) (hl : l.length ≤ 9000000000000000000) : Ev (fun k => spec_l1Rising.f k l lo hi) (allIn l lo hi && incr l) := by
  rw [← risF_none]
  have key : ∀ suf pre, l = pre ++ suf → ∀ o : Option Int, (∀ p, o = some p → ∃ q, pre = q ++ [p]) → (o = none → pre = []) → Ev (fun k => spec_l1Rising.l0 k l lo hi l (l.length : Int) (pre.length : Int)) (risF lo hi o suf) := by
    refine range_ind hl (fun pre suf => ∀ o : Option Int, (∀ p, o = some p → ∃ q, pre = q ++ [p]) → (o = none → pre = []) → Ev (fun k => spec_l1Rising.l0 k l lo hi l (l.length : Int) (pre.length : Int)) (risF lo hi o suf)) ?_ ?_
    · intro o _ _
      refine ev_shift ?_
      simp only [spec_l1Rising.l0]
      exact ev_neg (by omega) (ev_some (by cases o <;> rfl))
    · intro pre x suf h hx h1 h2 h3 ih o ho hn
      have ih' := ih (some x) (fun p hp => ⟨pre, by cases hp; rfl⟩) (fun e => by cases e)
      refine ev_shift ?_
      simp only [spec_l1Rising.l0, hx, h3, spec_l1In_eq, Option.bind_some]
      refine ev_pos h1 (ev_pos h2 (ev_pos h1 ?_))
      cases o with
      | none =>
        have := hn rfl
        subst this
        simp only [risF]
        cases inR x lo hi with
        | true => exact ev_pos rfl (ev_neg (by simp) ih')
        | false => exact ev_neg (by simp) (ev_some rfl)
      | some p =>
        obtain ⟨q, hq⟩ := ho p rfl
        have hp := rd_prev q p (x :: suf) (by rw [← hq]; rw [h] at hl; simp at hl ⊢; omega)
        rw [← hq, ← h] at hp
        have hql : pre.length = q.length + 1 := by rw [hq]; simp
        simp only [risF, hp.1, hp.2]
        cases inR x lo hi with
        | false => exact ev_neg (by simp) (ev_some rfl)
        | true =>
          refine ev_pos rfl (ev_pos (by omega) (ev_pos (by omega) (ev_pos (by omega) ?_)))
          by_cases hlt : p < x
          · refine ev_neg (by omega) ?_
            simp only [decide_eq_true hlt, Bool.true_and]
            exact ih'
          · refine ev_pos (by omega) ?_
            simp only [decide_eq_false hlt, Bool.false_and, Bool.and_false]
            exact ev_some rfl
  exact key l [] rfl none (fun p h => by cases h) (fun _ => rfl)
theorem spec_raCombination_ev (n : Int) (l : List Int) (hl : l.length ≤ 9000000000000000000) : Ev (fun k => spec_raCombination.f k n l) (isComb n l) := by
  unfold spec_raCombination.f
  refine ev_bind0 (spec_raItems_eq _) ?_
  by_cases hn : inR n 0 12 = true
  · have hn' := inR_iff.1 hn
    refine ev_pos hn ?_
    rw [w64 (by omega) (by omega)]
    by_cases hlen : (l.length : Int) ≤ n
    · refine ev_pos hlen (ev_bind (spec_l1Rising_ev l 0 (n - 1) hl) (ev_some ?_))
      simp only [isComb, hn, Bool.true_and]
    · refine ev_neg hlen (ev_some ?_)
      cases e : isComb n l with
      | false => rfl
      | true => exact absurd (isComb_len e) hlen
  · refine ev_neg hn (ev_some ?_)
    simp only [Bool.not_eq_true] at hn
    simp only [isComb, hn, Bool.false_and]
theorem spec_l1Own_eq (l : List Int) (h : l.length < 17592186044416) : spec_l1Own.f l = some l := by
  simp only [spec_l1Own.f, Option.bind_some, List.length_nil, Nat.zero_add, List.nil_append]
  rw [if_pos h]
theorem spec_raColex_ev (n : Nat) (hn : n ≤ 12) : ∀ k : Nat, k ≤ 12 → Ev (fun j => spec_raColex.f j (n : Int) (k : Int)) (colL n k) := by
  induction n with
  | zero =>
    intro k hk
    refine ev_shift ?_
    simp only [spec_raColex.f]
    cases k with
    | zero => exact ev_pos rfl (ev_some rfl)
    | succ k => exact ev_neg (by omega) (ev_pos rfl (ev_some rfl))
  | succ n ih =>
    intro k hk
    refine ev_shift ?_
    simp only [spec_raColex.f]
    cases k with
    | zero => exact ev_pos rfl (ev_some rfl)
    | succ k =>
      have e1 : wrap64 (((n + 1 : Nat) : Int) - 1) = (n : Int) := by rw [w64 (by omega) (by omega)]; omega
      have e2 : wrap64 (((k + 1 : Nat) : Int) - 1) = (k : Int) := by rw [w64 (by omega) (by omega)]; omega
      rw [e1, e2]
      refine ev_neg (by omega) (ev_neg (by omega) (ev_bind (ih (by omega) (k + 1) (by omega)) (ev_bind (ih (by omega) k (by omega)) ?_)))
      rw [colL_succ]
      have hl := colL_length n k
      have hl' := colL_length n (k + 1)
      have b := C_12 k (n := n) (by omega)
      have b' := C_12 (k + 1) (n := n) (by omega)
      have key : ∀ suf pre, colL n k = pre ++ suf → ∀ out : List (List Int), out.length + suf.length ≤ 100000 → Ev (fun j => spec_raColex.l0 j ((n + 1 : Nat) : Int) out (colL n k) ((colL n k).length : Int) (pre.length : Int)) (out ++ suf.map (fun r => r ++ [(n : Int)])) := by
        refine rangeL_ind (by omega) (fun pre suf => ∀ out : List (List Int), out.length + suf.length ≤ 100000 → Ev (fun j => spec_raColex.l0 j ((n + 1 : Nat) : Int) out (colL n k) ((colL n k).length : Int) (pre.length : Int)) (out ++ suf.map (fun r => r ++ [(n : Int)]))) ?_ ?_
        · intro out _
          refine ev_shift ?_
          simp only [spec_raColex.l0]
          exact ev_neg (by omega) (ev_some (by simp))
        · intro pre r suf h hx h1 h2 h3 ih out ho
          simp only [List.length_cons] at ho
          have hr : r.length = k := colL_mem_length (n := n) (by rw [h]; simp)
          have e : rd_L2 (colL n k) (pre.length : Int) = r := hx
          refine ev_shift ?_
          simp only [spec_raColex.l0, e, h3, e1, spec_l1Own_eq r (by omega), Option.bind_some]
          refine ev_pos h1 (ev_pos h2 (ev_pos h1 (ev_pos (by omega) (ev_pos (by omega) ?_))))
          have := ih (out ++ [r ++ [(n : Int)]]) (by simp; omega)
          simpa using this
      exact key _ [] rfl _ (by omega)
theorem spec_l1Same_ev (a b : List Int) (hl : a.length ≤ 9000000000000000000) : Ev (fun k => spec_l1Same.f k a b) (decide (a = b)) := by
  unfold spec_l1Same.f
  by_cases hlen : (a.length : Int) = (b.length : Int)
  · refine ev_pos hlen ?_
    have key : ∀ suf pre, a = pre ++ suf → ∀ s : List Int, b = pre ++ s → Ev (fun k => spec_l1Same.l0 k a b (a.length : Int) (pre.length : Int)) (decide (suf = s)) := by
      refine range_ind hl (fun pre suf => ∀ s : List Int, b = pre ++ s → Ev (fun k => spec_l1Same.l0 k a b (a.length : Int) (pre.length : Int)) (decide (suf = s))) ?_ ?_
      · intro s hs
        have : s = [] := by
          have := congrArg List.length hs
          rw [List.length_append] at this
          exact List.length_eq_zero_iff.1 (by omega)
        subst this
        refine ev_shift ?_
        simp only [spec_l1Same.l0]
        exact ev_neg (by omega) (ev_some rfl)
      · intro pre x suf hh hx h1 h2 h3 ih s hs
        cases s with
        | nil =>
          have e1 := congrArg List.length hs
          have e2 := congrArg List.length hh
          simp at e1 e2
          omega
        | cons y s =>
          have hrb : rd b (pre.length : Int) = y := by rw [hs]; exact rd_at _ _ _
          refine ev_shift ?_
          simp only [spec_l1Same.l0, hx, h3, hrb]
          refine ev_pos h1 (ev_pos h2 (ev_pos h1 (ev_pos (by omega) ?_)))
          by_cases e : x = y
          · subst e
            refine ev_pos rfl ?_
            have := ih s (by simp [hs])
            have e2 : decide (x :: suf = x :: s) = decide (suf = s) := by simp
            rw [e2]; exact this
          · refine ev_neg e (ev_some ?_)
            rw [eq_comm, decide_eq_false_iff_not]
            intro c; exact e (List.cons.inj c).1
    exact key a [] rfl b rfl
  · refine ev_neg hlen (ev_some ?_)
    rw [eq_comm, decide_eq_false_iff_not]
    intro c; subst c; exact hlen rfl
theorem spec_raPlace_ev (A : List (List Int)) (l : List Int) (hA : A.length ≤ 1000000) (hr : ∀ r ∈ A, r.length ≤ 1000000) : Ev (fun k => spec_raPlace.f k A l) (placeI A l) := by
  have key : ∀ suf pre, A = pre ++ suf → plc pre l = pre.length → Ev (fun k => spec_raPlace.l0 k l A (A.length : Int) (pre.length : Int)) (placeI A l) := by
    refine rangeL_ind (by omega) (fun pre suf => plc pre l = pre.length → Ev (fun k => spec_raPlace.l0 k l A (A.length : Int) (pre.length : Int)) (placeI A l)) ?_ ?_
    · intro hp
      refine ev_shift ?_
      simp only [spec_raPlace.l0]
      refine ev_neg (by omega) (ev_some ?_)
      unfold placeI
      rw [if_neg (by omega)]
    · intro pre r suf hh hx h1 h2 h3 ih hp
      have e : rd_L2 A (pre.length : Int) = r := hx
      refine ev_shift ?_
      simp only [spec_raPlace.l0, e, h3]
      refine ev_pos h1 (ev_pos h2 (ev_pos h1 (ev_bind (spec_l1Same_ev r l (by have := hr r (by rw [hh]; simp); omega)) ?_)))
      by_cases er : r = l
      · refine ev_pos (by simp [er]) (ev_some ?_)
        have hpl : plc A l = pre.length := by rw [hh, plc_append, if_neg (by omega)]; simp [plc, er]
        unfold placeI
        rw [hpl, if_pos (by omega)]
      · refine ev_neg (by simp [er]) (ih ?_)
        rw [plc_append, if_neg (by omega)]
        simp [plc, er]
  exact key A [] rfl rfl
theorem impl_within_eq (a b c : Int) : impl_within.f a b c = some (inR a b c) := in_ite a b c
theorem impl_allWithin_ev (l : List Int) (lo hi : Int) (hl : l.length ≤ 9000000000000000000) : Ev (fun k => impl_allWithin.f k l lo hi) (allIn l lo hi) := by
  refine range_all hl (fun pre suf => Ev (fun k => impl_allWithin.l0 k lo hi l (l.length : Int) (pre.length : Int)) (allIn suf lo hi)) ?_ ?_
  · refine ev_shift ?_
    simp only [impl_allWithin.l0]
    exact ev_neg (by omega) (ev_some rfl)
  · intro pre x suf h hx h1 h2 h3 ih
    refine ev_shift ?_
    simp only [impl_allWithin.l0, hx, h3, impl_within_eq, Option.bind_some, allIn_cons]
    refine ev_pos h1 (ev_pos h2 (ev_pos h1 ?_))
    cases inR x lo hi with
    | true => exact ev_pos rfl ih
    | false => exact ev_neg (by simp) (ev_some rfl)
theorem impl_increasing_ev (l : List Int) (hl : l.length ≤ 9000000000000000000) : Ev (fun k => impl_increasing.f k l) (incr l) := by
  cases l with
  | nil =>
    unfold impl_increasing.f
    refine ev_shift ?_
    simp only [impl_increasing.l0]
    exact ev_neg (by simp) (ev_some rfl)
  | cons y r =>
    have key : ∀ suf pre, y :: r = pre ++ suf → ∀ q p, pre = q ++ [p] → Ev (fun k => impl_increasing.l0 k (y :: r) (pre.length : Int)) (incrF p suf) := by
      refine range_ind hl (fun pre suf => ∀ q p, pre = q ++ [p] → Ev (fun k => impl_increasing.l0 k (y :: r) (pre.length : Int)) (incrF p suf)) ?_ ?_
      · intro q p _
        refine ev_shift ?_
        simp only [impl_increasing.l0]
        exact ev_neg (by omega) (ev_some rfl)
      · intro pre x suf h hx h1 h2 h3 ih q p hq
        have hp := rd_prev q p (x :: suf) (by rw [← hq]; rw [h] at hl; simp at hl ⊢; omega)
        rw [← hq, ← h] at hp
        have hql : pre.length = q.length + 1 := by rw [hq]; simp
        refine ev_shift ?_
        simp only [impl_increasing.l0, hx, h3, hp.1, hp.2, incrF]
        refine ev_pos h1 (ev_pos (by omega) (ev_pos (by omega) (ev_pos h2 ?_)))
        by_cases hlt : p < x
        · refine ev_neg (by omega) ?_
          simp only [decide_eq_true hlt, Bool.true_and]
          exact ih pre x rfl
        · refine ev_pos (by omega) ?_
          simp only [decide_eq_false hlt, Bool.false_and]
          exact ev_some rfl
    exact key r [y] rfl [] y rfl
theorem impl_IsCombination_ev (n : Int) (l : List Int) (hl : l.length ≤ 9000000000000000000) : Ev (fun k => impl_IsCombination.f k n l) (isComb n l) := by
  unfold impl_IsCombination.f
  refine ev_bind0 (impl_within_eq _ _ _) ?_
  by_cases hn : inR n 0 12 = true
  · have hn' := inR_iff.1 hn
    refine ev_pos hn ?_
    rw [w64 (by omega) (by omega)]
    refine ev_bind (impl_allWithin_ev l 0 (n - 1) hl) ?_
    simp only [isComb, hn, Bool.true_and]
    cases allIn l 0 (n - 1) with
    | false => exact ev_neg (by simp) (ev_some rfl)
    | true => exact ev_pos rfl (ev_bind (impl_increasing_ev l hl) (ev_some rfl))
  · refine ev_neg hn (ev_some ?_)
    simp only [Bool.not_eq_true] at hn
    simp only [isComb, hn, Bool.false_and]
theorem impl_binomial_ev (n : Nat) (k : Nat) (h : n ≤ 13) (hk : k ≤ 14) : Ev (fun j => impl_binomial.f j (n : Int) (k : Int)) (C n k : Int) := by
  have t : ∀ (a : Fin 14) (b : Fin 15), impl_binomial.f 20 ((a.1 : Nat) : Int) ((b.1 : Nat) : Int) = some (C a.1 b.1 : Int) := by decide +kernel
  exact Ev.of (impl_binomial.mono _ _) (t ⟨n, by omega⟩ ⟨k, by omega⟩)
theorem impl_colexRank_ev (l : List Int) (hc : ∀ x ∈ l, 0 ≤ x ∧ x < 12) (hl : l.length ≤ 12) : Ev (fun k => impl_colexRank.f k l) (crk 0 l : Int) := by
  have key : ∀ suf pre, l = pre ++ suf → ∀ acc : Nat, acc + 4096 * suf.length ≤ 1000000 → Ev (fun k => impl_colexRank.l0 k (acc : Int) l (l.length : Int) (pre.length : Int)) ((acc + crk pre.length suf : Nat) : Int) := by
    refine range_ind (by omega) (fun pre suf => ∀ acc : Nat, acc + 4096 * suf.length ≤ 1000000 → Ev (fun k => impl_colexRank.l0 k (acc : Int) l (l.length : Int) (pre.length : Int)) ((acc + crk pre.length suf : Nat) : Int)) ?_ ?_
    · intro acc _
      refine ev_shift ?_
      simp only [impl_colexRank.l0]
      exact ev_neg (by omega) (ev_some (by simp [crk]))
    · intro pre x suf hh hx h1 h2 h3 ih acc ha
      have hx0 := hc x (by rw [hh]; simp)
      obtain ⟨y, rfl⟩ := Int.eq_ofNat_of_zero_le hx0.1
      simp only [List.length_cons] at ha
      have b := C_12 (pre.length + 1) (n := y) (by omega)
      have e : ((pre ++ [(y : Int)]).length : Int) = ((pre.length + 1 : Nat) : Int) := by simp
      refine ev_shift ?_
      simp only [impl_colexRank.l0, hx, h3]
      refine ev_pos h1 (ev_pos h2 (ev_pos h1 (ev_bind (by rw [e]; exact impl_binomial_ev y (pre.length + 1) (by omega) (by omega)) ?_)))
      have e4 : wrap64 ((acc : Int) + (C y (pre.length + 1) : Int)) = ((acc + C y (pre.length + 1) : Nat) : Int) := by rw [w64 (by omega) (by omega)]; omega
      rw [e4]
      have := ih (acc + C y (pre.length + 1)) (by omega)
      rw [show (pre ++ [(y : Int)]).length = pre.length + 1 by simp] at this ⊢
      simp only [crk, Int.toNat_natCast]
      rw [← Nat.add_assoc]
      exact this
  have := key l [] rfl 0 (by omega)
  simpa [impl_colexRank.f] using this
theorem spec_ColexRank_ev (l : List Int) (hl : l.length ≤ 9000000000000000000) : Ev (fun k => spec_ColexRank.f k l) (rankX l) := by
  unfold spec_ColexRank.f rankX
  refine ev_bind (spec_raCombination_ev 12 l hl) ?_
  by_cases h : isComb 12 l = true
  · rw [if_pos h]
    have hlen := isComb_len h
    refine ev_pos h (ev_bind (spec_raColex_ev 12 (by omega) l.length (by omega)) (ev_bind (spec_raPlace_ev _ l (by rw [colL_length]; have := C_12 l.length (n := 12) (by omega); omega) (fun r hr => by rw [colL_mem_length hr]; omega)) (ev_some ?_)))
    rw [placeI_colL h]
  · rw [if_neg h]
    exact ev_neg h (ev_some rfl)
theorem impl_ColexRank_ev (l : List Int) (hl : l.length ≤ 9000000000000000000) : Ev (fun k => impl_ColexRank.f k l) (rankX l) := by
  unfold impl_ColexRank.f rankX
  refine ev_bind (impl_IsCombination_ev 12 l hl) ?_
  by_cases h : isComb 12 l = true
  · rw [if_pos h]
    have hlen := isComb_len h
    exact ev_pos h (ev_bind (impl_colexRank_ev l (cmb_range (cmb_of_isComb h)) (by omega)) (ev_some rfl))
  · rw [if_neg h]
    exact ev_neg h (ev_some rfl)
theorem spec_raOf_eq (l : List (List Int)) (i : Int) (h : l.length ≤ 1000000) (hr : ∀ r ∈ l, r.length ≤ 1000000) : spec_raOf.f l i = some (ofL l i) := by
  simp only [spec_raOf.f, spec_l1In_eq, Option.bind_some]
  rw [w64 (by omega) (by omega)]
  unfold ofL
  by_cases hi : inR i 0 ((l.length : Int) - 1) = true
  · have hi' := inR_iff.1 hi
    rw [if_pos hi, if_pos hi, if_pos hi'.1, if_pos (by omega)]
    have e : rd_L2 l i = rdL l i := rfl
    have hm : rdL l i ∈ l := by
      unfold rdL
      rw [List.getD_eq_getElem?_getD, List.getElem?_eq_getElem (by omega)]
      exact List.getElem_mem _
    rw [e, spec_l1Own_eq _ (by have := hr _ hm; omega), Option.bind_some]
  · rw [if_neg hi, if_neg hi]
theorem impl_isRank_ev (n k r : Int) : Ev (fun j => impl_isRank.f j n k r) (isRk n k r) := by
  unfold impl_isRank.f isRk
  refine ev_bind0 (impl_within_eq _ _ _) ?_
  by_cases h : inR n 0 12 = true
  · have h' := inR_iff.1 h
    refine ev_pos h (ev_bind0 (impl_within_eq _ _ _) ?_)
    by_cases hk : inR k 0 n = true
    · have hk' := inR_iff.1 hk
      obtain ⟨m, rfl⟩ := Int.eq_ofNat_of_zero_le h'.1
      obtain ⟨i, rfl⟩ := Int.eq_ofNat_of_zero_le hk'.1
      refine ev_pos hk (ev_bind (impl_binomial_ev m i (by omega) (by omega)) (ev_bind0 (impl_within_eq _ _ _) (ev_some ?_)))
      have b := C_12 i (n := m) (by omega)
      rw [w64 (by omega) (by omega)]
      simp only [Int.toNat_natCast]
      unfold inR
      rw [← Bool.decide_and]
      exact decide_eq_decide.2 ⟨fun a => ⟨h', hk', by omega, by omega⟩, fun a => ⟨by omega, by omega⟩⟩
    · exact ev_neg hk (ev_some (by rw [eq_comm, decide_eq_false_iff_not]; intro c; exact hk (inR_iff.2 c.2.1)))
  · exact ev_neg h (ev_some (by rw [eq_comm, decide_eq_false_iff_not]; intro c; exact h (inR_iff.2 c.1)))
theorem spec_ColexAt_ev (k r : Int) : Ev (fun j => spec_ColexAt.f j k r) (colAt k r) := by
  unfold spec_ColexAt.f
  refine ev_bind0 (spec_raItems_eq _) ?_
  by_cases h : inR k 0 12 = true
  · have h' := inR_iff.1 h
    obtain ⟨i, rfl⟩ := Int.eq_ofNat_of_zero_le h'.1
    refine ev_pos h (ev_bind (spec_raColex_ev 12 (by omega) i (by omega)) (ev_bind0 (spec_raOf_eq _ _ (by rw [colL_length]; have := C_12 i (n := 12) (by omega); omega) (fun r hr => by rw [colL_mem_length hr]; omega)) (ev_some ?_)))
    exact ofL_colL i (by omega) r
  · refine ev_neg h (ev_some ?_)
    unfold colAt
    rw [if_neg]
    intro c
    have c' := isRk_iff.1 c
    exact h (inR_iff.2 ⟨by omega, by omega⟩)
theorem impl_ColexAt_l1 (j r : Nat) (done : List Int) (hj : j + 1 ≤ 12) (R : List Int × Bool) (hr : r < C 12 (j + 1))
    (hk : ∀ x : Nat, C x (j + 1) ≤ r → r < C (x + 1) (j + 1) → x < 12 → Ev (fun k => impl_ColexAt.l0 k ((r - C x (j + 1) : Nat) : Int) (List.replicate j 0 ++ (x : Int) :: done) ((j : Int) - 1)) R) :
    ∀ d x : Nat, x + d = 12 → C x (j + 1) ≤ r → Ev (fun k => impl_ColexAt.l1 k (r : Int) (List.replicate (j + 1) 0 ++ done) (j : Int) (x : Int)) R := by
  intro d
  induction d with
  | zero =>
    intro x hx hle
    have : x = 12 := by omega
    subst this
    omega
  | succ d ih =>
    intro x hx hle
    have e1 : wrap64 ((x : Int) + 1) = ((x + 1 : Nat) : Int) := by rw [w64 (by omega) (by omega)]; omega
    have e2 : wrap64 ((j : Int) + 1) = ((j + 1 : Nat) : Int) := by rw [w64 (by omega) (by omega)]; omega
    have e3 : wrap64 ((j : Int) - 1) = (j : Int) - 1 := w64 (by omega) (by omega)
    refine ev_shift ?_
    simp only [impl_ColexAt.l1, e1, e2, e3]
    refine ev_bind (impl_binomial_ev (x + 1) (j + 1) (by omega) (by omega)) ?_
    by_cases h : C (x + 1) (j + 1) ≤ r
    · exact ev_pos (by omega) (ih (x + 1) (by omega) h)
    · refine ev_neg (by omega) (ev_pos (by omega) (ev_pos (by simp; omega) (ev_bind (impl_binomial_ev x (j + 1) (by omega) (by omega)) ?_)))
      have e4 : wrap64 ((r : Int) - (C x (j + 1) : Int)) = ((r - C x (j + 1) : Nat) : Int) := by
        have b := C_12 (j + 1) (n := 12) (by omega)
        rw [w64 (by omega) (by omega)]; omega
      have e5 : (List.replicate (j + 1) (0 : Int) ++ done).set (j : Int).toNat (x : Int) = List.replicate j 0 ++ (x : Int) :: done := by
        rw [List.replicate_succ', List.append_assoc, List.singleton_append]
        have := set_at (List.replicate j (0 : Int)) 0 (x : Int) done
        rw [List.length_replicate] at this
        exact this
      rw [e4, e5]
      exact hk x hle (by omega) (by omega)
theorem impl_ColexAt_l0 (j : Nat) : ∀ (n r : Nat) (done : List Int), n ≤ 12 → j ≤ 12 → r < C n j →
    Ev (fun k => impl_ColexAt.l0 k (r : Int) (List.replicate j 0 ++ done) ((j : Int) - 1)) (uncolL n j r ++ done, true) := by
  induction j with
  | zero =>
    intro n r done hn hj hr
    refine ev_shift ?_
    simp only [impl_ColexAt.l0]
    exact ev_neg (by omega) (ev_some (by rw [uncolL_zero]; rfl))
  | succ j ih =>
    intro n r done hn hj hr
    refine ev_shift ?_
    have e : (((j + 1 : Nat) : Int) - 1) = (j : Int) := by omega
    simp only [impl_ColexAt.l0, e]
    refine ev_pos (by omega) ?_
    refine impl_ColexAt_l1 j r done (by omega) _ (Nat.lt_of_lt_of_le hr (C_mono (j + 1) hn)) ?_ (12 - j) j (by omega) (by rw [C_gt (by omega)]; omega)
    intro x h1 h2 hx
    have hxn : x < n := by
      rcases Nat.lt_or_ge x n with h | h
      · exact h
      · have := C_mono (j + 1) h; omega
    rw [uncolL_step n j x r h1 h2 hxn, List.append_assoc, List.singleton_append]
    rw [C_succ] at h2
    exact ih x (r - C x (j + 1)) ((x : Int) :: done) (by omega) (by omega) (by omega)
theorem impl_ColexAt_ev (k r : Int) : Ev (fun j => impl_ColexAt.f j k r) (colAt k r) := by
  unfold impl_ColexAt.f colAt
  refine ev_bind (impl_isRank_ev _ _ _) ?_
  by_cases h : isRk 12 k r = true
  · have h' := isRk_iff.1 h
    obtain ⟨i, rfl⟩ := Int.eq_ofNat_of_zero_le h'.2.1.1
    obtain ⟨q, rfl⟩ := Int.eq_ofNat_of_zero_le h'.2.2.1
    have e12 : (12 : Int).toNat = 12 := rfl
    rw [if_pos h]
    simp only [Int.toNat_natCast, e12] at h' ⊢
    refine ev_pos h (ev_pos (by omega) (ev_pos (by omega) ?_))
    rw [w64 (by omega) (by omega)]
    have := impl_ColexAt_l0 i 12 q [] (by omega) (by omega) (by omega)
    simpa using this
  · exact ev_neg h (ev_some (by rw [if_neg h]))
theorem laws_uSame_ev (l : List Int) (hl : l.length ≤ 9000000000000000000) : Ev (fun k => laws_uSame.f k l l) true := by
  unfold laws_uSame.f
  refine ev_pos rfl ?_
  refine range_all hl (fun pre suf => Ev (fun k => laws_uSame.l0 k l l (l.length : Int) (pre.length : Int)) true) ?_ ?_
  · refine ev_shift ?_
    simp only [laws_uSame.l0]
    exact ev_neg (by omega) (ev_some rfl)
  · intro pre x suf h hx h1 h2 h3 ih
    refine ev_shift ?_
    simp only [laws_uSame.l0, h3]
    exact ev_pos h1 (ev_pos h2 (ev_pos h1 (ev_pos h1 (ev_pos (by trivial) ih))))
theorem laws_FnColexRanks_j4_ev {m : List Int} (hm : wfB m) : Ev (fun k => laws_FnColexRanks.j4 k m) true := by
  obtain ⟨k, r, e, h1, h2, h3, h4⟩ := dr_ColexAt hm
  refine ev_shift ?_
  simp only [laws_FnColexRanks.j4]
  have hlen := colAt_len k r
  refine ev_bind e (ev_bind (impl_ColexAt_ev k r) (ev_bind (spec_ColexAt_ev k r) (ev_pos ?_ (ev_bind (laws_uSame_ev _ (by omega)) (ev_some rfl)))))
  simp
theorem laws_FnColexRanks_l0_ev {m a b : List Int} (hm : wfB m) (n : Nat) (hla : a.length ≤ 100) (hlb : b.length = a.length) : ∀ (p q t : List Int), p.length = n → q.length = n → a = p ++ t → b = q ++ t → Cmb 0 12 p → Cmb 0 12 q → (crk 0 a : Int) - crk 0 b = (crk 0 p : Int) - crk 0 q →
    Ev (fun k => laws_FnColexRanks.l0 k m a b (crk 0 a : Int) (crk 0 b : Int) ((n : Int) - 1)) true := by
  have hj := laws_FnColexRanks_j4_ev hm
  induction n with
  | zero =>
    intro p q t hp hq ha hb c1 c2 hr
    rw [List.length_eq_zero_iff] at hp hq
    subst hp; subst hq
    refine ev_shift ?_
    simp only [laws_FnColexRanks.l0]
    have : crk 0 ([] : List Int) = 0 := rfl
    exact ev_neg (by omega) (ev_pos (by omega) (ev_pos (by omega) hj))
  | succ n ih =>
    intro p q t hp hq ha hb c1 c2 hr
    rcases List.eq_nil_or_concat p with rfl | ⟨p', x, ep⟩
    · simp at hp
    rcases List.eq_nil_or_concat q with rfl | ⟨q', y, eq⟩
    · simp at hq
    rw [List.concat_eq_append] at ep eq
    subst ep; subst eq
    simp only [List.length_append, List.length_singleton, Nat.add_right_cancel_iff] at hp hq
    have e : (((n + 1 : Nat) : Int) - 1) = (n : Int) := by omega
    have hx : rd a (n : Int) = x := by rw [ha, ← hp, List.append_assoc]; exact rd_at _ _ _
    have hy : rd b (n : Int) = y := by rw [hb, ← hq, List.append_assoc]; exact rd_at _ _ _
    have hna : (n : Int) < (a.length : Int) := by rw [ha]; simp only [List.length_append, List.length_singleton]; omega
    refine ev_shift ?_
    simp only [laws_FnColexRanks.l0, e, hx, hy]
    refine ev_pos (by omega) (ev_pos (by omega) (ev_pos hna (ev_pos (by omega) ?_)))
    by_cases hxy : x = y
    · refine ev_pos hxy ?_
      rw [w64 (by omega) (by omega)]
      subst hxy
      obtain ⟨d1, d2, d3⟩ := cmb_snoc c1
      obtain ⟨g1, g2, g3⟩ := cmb_snoc c2
      refine ih p' q' (x :: t) hp hq (by rw [ha]; simp) (by rw [hb]; simp) (cmb_mono d1 (by omega) (by omega)) (cmb_mono g1 (by omega) (by omega)) ?_
      rw [hr, crk_snoc, crk_snoc, hp, hq]; omega
    · refine ev_neg hxy (ev_neg (by omega) (ev_neg ?_ hj))
      rcases Int.lt_or_lt_of_ne hxy with h | h
      · have := crk_lt c1 c2 (by omega) h
        rw [decide_eq_true h, decide_eq_true (by omega)]; decide
      · have := crk_lt c2 c1 (by omega) h
        rw [decide_eq_false (by omega), decide_eq_false (by omega)]; decide
theorem FnColexRanks : laws_FnColexRanks.Pure := by
  intro c m hl1 hl2 hc hm1 hm2 hm
  apply ev_le
  unfold laws_FnColexRanks.f
  rcases laws_big_eq c m hc hm (by omega) with hb | ⟨hb, wc, wm⟩
  · exact ev_bind0 hb (ev_pos rfl (ev_some rfl))
  refine ev_bind0 hb (ev_neg Bool.false_ne_true ?_)
  obtain ⟨a, ea, la⟩ := dr_ColexRank wc
  obtain ⟨b, eb, lb⟩ := dr_ColexRank wm
  have hj := laws_FnColexRanks_j4_ev wm
  refine ev_bind ea (ev_bind eb (ev_bind (impl_ColexRank_ev a (by omega)) (ev_bind (spec_ColexRank_ev a (by omega)) (ev_neg neq_self ?_))))
  rw [show ((rankX a).1 != (rankX a).1) = false by simp]
  have j1 : Ev (fun k => laws_FnColexRanks.j1 k m a b (rankX a).1 (rankX a).2) true := by
    refine ev_shift ?_
    simp only [laws_FnColexRanks.j1]
    refine ev_bind (impl_ColexRank_ev b (by omega)) ?_
    have hno : ∀ z, Ev (fun k => laws_FnColexRanks.j2 k m a b (rankX a).1 z false) true := by
      intro z
      refine ev_shift ?_
      simp only [laws_FnColexRanks.j2]
      exact ev_neg Bool.false_ne_true hj
    by_cases ha : isComb 12 a = true
    · have ra : rankX a = ((crk 0 a : Int), true) := by unfold rankX; rw [if_pos ha]
      by_cases hbb : isComb 12 b = true
      · have rb : rankX b = ((crk 0 b : Int), true) := by unfold rankX; rw [if_pos hbb]
        rw [ra] at hno ⊢
        rw [rb]
        refine ev_pos rfl (ev_pos rfl ?_)
        by_cases hl : (a.length : Int) = (b.length : Int)
        · rw [show ((a.length : Int) == (b.length : Int)) = true by simp [hl]]
          refine ev_shift ?_
          simp only [laws_FnColexRanks.j2]
          refine ev_pos (by trivial) ?_
          rw [w64 (by omega) (by omega)]
          exact laws_FnColexRanks_l0_ev wm a.length (by omega) (by omega) a b [] rfl (by omega) (by simp) (by simp) (cmb_of_isComb ha) (cmb_of_isComb hbb) rfl
        · rw [show ((a.length : Int) == (b.length : Int)) = false by simp [hl]]
          exact hno _
      · have rb : rankX b = (0, false) := by unfold rankX; rw [if_neg hbb]
        rw [ra] at hno ⊢
        rw [rb]
        exact ev_pos rfl (ev_neg Bool.false_ne_true (hno _))
    · have ra : rankX a = (0, false) := by unfold rankX; rw [if_neg ha]
      rw [ra] at hno ⊢
      exact ev_neg Bool.false_ne_true (hno _)
  refine ev_shift ?_
  simp only [laws_FnColexRanks.j0]
  refine ev_neg Bool.false_ne_true ?_
  by_cases ha : isComb 12 a = true
  · have ra : rankX a = ((crk 0 a : Int), true) := by unfold rankX; rw [if_pos ha]
    rw [ra] at j1 ⊢
    refine ev_pos rfl (ev_bind (impl_ColexAt_ev _ _) ?_)
    rw [colAt_rank ha]
    exact ev_pos rfl (ev_bind (laws_uSame_ev a (by omega)) (ev_pos rfl j1))
  · have ra : rankX a = (0, false) := by unfold rankX; rw [if_neg ha]
    rw [ra] at j1 ⊢
    exact ev_neg Bool.false_ne_true j1

end Go.Proofs.Ytkbnkichgkeckaa.Pure
