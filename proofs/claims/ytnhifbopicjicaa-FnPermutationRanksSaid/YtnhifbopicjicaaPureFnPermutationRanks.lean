/- The law FnPermutationRanks returns true for every two lists of bytes (reach as the row says); no condition of ours. -/
import Derived.Test.YtnhifbopicjicaaQFnPermutationRanksx7
import Derived.Test.YtnhifbopicjicaaMth
import Derived.Test.YtnhifbopicjicaaMthDigL
import Derived.Test.YtnhifbopicjicaaMthFact
import Derived.Test.YtnhifbopicjicaaMthPerm
import Derived.Test.YtnhifbopicjicaaMthPermAt
import Derived.Test.YtnhifbopicjicaaMthPermLex
import Derived.Test.YtnhifbopicjicaaMthPermRank
set_option linter.unusedVariables false
set_option linter.unusedSimpArgs false
namespace Go.Proofs.Ytnhifbopicjicaa.Pure
open Go.RowKit Go.Proofs.Ytnhifbopicjicaa.Mth Go.Proofs.Ytnhifbopicjicaa.PFnPermutationRanks Go.Proofs.YtnhifbopicjicaaW.PrintWords Go.Proofs.YtnhifbopicjicaaW.PrintLast

theorem wrapU (n : Int) : IntKind.u64.wrap n = n % 18446744073709551616 := by simp [IntKind.wrap, IntKind.bits, IntKind.signed]
def wfB (c : List Int) : Prop := c.length ≤ 1048576 ∧ ∀ x ∈ c, 0 ≤ x ∧ x ≤ 255
theorem wfB_of {c : List Int} (h0 : c.length ≤ 1048576) (h : ∀ x ∈ c, (Lit.int .u8 x).wf = true) : wfB c := by
  refine ⟨h0, fun x hx => ?_⟩
  have := h x hx
  simp only [Lit.wf, Bool.and_eq_true, decide_eq_true_eq] at this
  have e0 : IntKind.min .u8 = 0 := by decide
  have e1 : IntKind.max .u8 = 255 := by decide
  omega
theorem byte_of (x : Int) : 0 ≤ wrap64 (Go.bits .and .u64 ((IntKind.u64.wrap x) / 1099511627776) 255) ∧ wrap64 (Go.bits .and .u64 ((IntKind.u64.wrap x) / 1099511627776) 255) ≤ 255 := by
  have h1 : 0 ≤ IntKind.u64.wrap x / 1099511627776 ∧ IntKind.u64.wrap x / 1099511627776 < 2 ^ 24 := by rw [wrapU]; omega
  have h2 := Go.bits_mask .u64 24 (by decide) (fun n a b => by rw [wrapU]; omega) 8 (by decide) _ h1.1 h1.2
  have h3 : Go.bits .and .u64 ((IntKind.u64.wrap x) / 1099511627776) 255 = (IntKind.u64.wrap x) / 1099511627776 % 2 ^ 8 := h2
  rw [h3, w64 (by omega) (by omega)]
  omega
theorem dr_next {c : List Int} (hc : wfB c) {a : Int} (s : Int) (h0 : 0 ≤ a) (h1 : a ≤ 4000000000000000000) : ∃ r s', spec_l1Cur_next.f c a s = some (r, a + 1, s') ∧ 0 ≤ r ∧ r ≤ 255 := by
  have hl := hc.1
  unfold spec_l1Cur_next.f
  have e : wrap64 (a + 1) = a + 1 := w64 (by omega) (by omega)
  rw [e]
  by_cases h : a < (c.length : Int)
  · rw [if_pos h, if_pos h0, if_pos (by omega)]
    obtain ⟨n, rfl⟩ := Int.eq_ofNat_of_zero_le h0
    have hm := hc.2 _ (rd_mem (l := c) (j := n) (by omega))
    exact ⟨_, _, rfl, by rw [w64 (by omega) (by omega)]; omega, by rw [w64 (by omega) (by omega)]; omega⟩
  · rw [if_neg h, if_neg (by omega)]
    exact ⟨_, _, rfl, (byte_of _).1, (byte_of _).2⟩
theorem dr_pick {c : List Int} (hc : wfB c) {a : Int} (s n : Int) (h0 : 0 ≤ a) (h1 : a ≤ 3999999999999999999) : ∃ r a' s', spec_l1Cur_pick.f c a s n = some (r, a', s') ∧ a ≤ a' ∧ a' ≤ a + 2 ∧ 0 ≤ r ∧ (n ≤ 1 → r = 0) ∧ (1 < n → r < n) := by
  unfold spec_l1Cur_pick.f
  by_cases hn : n ≤ 1
  · rw [if_pos hn]
    exact ⟨0, a, s, rfl, by omega, by omega, by omega, fun _ => rfl, fun h => by omega⟩
  · rw [if_neg hn]
    obtain ⟨x, s1, e1, x0, x1⟩ := dr_next hc s h0 (by omega)
    rw [e1]
    simp only [Option.bind_some]
    by_cases hb : n > 200
    · rw [if_pos hb]
      obtain ⟨y, s2, e2, y0, y1⟩ := dr_next hc s1 (a := a + 1) (by omega) (by omega)
      rw [e2]
      simp only [Option.bind_some]
      rw [if_neg (by omega), w64 (x := x * 256) (by omega) (by omega), w64 (by omega) (by omega)]
      rw [Int.tmod_eq_emod_of_nonneg (by omega)]
      have g0 := Int.emod_nonneg (x * 256 + y) (b := n) (by omega)
      have g1 := Int.emod_lt_of_pos (x * 256 + y) (b := n) (by omega)
      exact ⟨_, _, _, rfl, by omega, by omega, g0, fun h => by omega, fun _ => g1⟩
    · rw [if_neg hb, if_neg (by omega)]
      rw [Int.tmod_eq_emod_of_nonneg (by omega)]
      have g0 := Int.emod_nonneg x (b := n) (by omega)
      have g1 := Int.emod_lt_of_pos x (b := n) (by omega)
      exact ⟨_, _, _, rfl, by omega, by omega, g0, fun h => by omega, fun _ => g1⟩
theorem laws_big_eq (c m : List Int) (hc : ∀ x ∈ c, (Lit.int .u8 x).wf = true) (hm : ∀ x ∈ m, (Lit.int .u8 x).wf = true) (hl : c.length ≤ 9000000000000000000) : laws_big.f c m = some true ∨ (laws_big.f c m = some false ∧ wfB c ∧ wfB m) := by
  unfold laws_big.f
  by_cases h : (c.length : Int) > 1048576
  · exact .inl (if_pos h)
  · rw [if_neg h, w64 (by omega) (by omega)]
    by_cases h2 : (m.length : Int) > 1048576 - (c.length : Int)
    · rw [decide_eq_true h2]; exact .inl rfl
    · rw [decide_eq_false h2]; exact .inr ⟨rfl, wfB_of (by omega) hc, wfB_of (by omega) hm⟩
theorem dr_one {c : List Int} (hc : wfB c) {a : Int} (s n : Int) (h0 : 0 ≤ a) (h1 : a ≤ 3999999999999999999) : ∃ r a' s', spec_l1Cur_one.f c a s n = some (r, a', s') ∧ a ≤ a' ∧ a' ≤ a + 2 := by
  unfold spec_l1Cur_one.f
  obtain ⟨r, a', s', e, h2, h3, _⟩ := dr_pick hc s n h0 h1
  rw [e]
  exact ⟨_, _, _, rfl, h2, h3⟩
theorem dr_among {c : List Int} (hc : wfB c) {a : Int} (s : Int) (l : List Int) (hl : 0 < l.length) (h0 : 0 ≤ a) (h1 : a ≤ 3999999999999999999) : ∃ r a' s', spec_l1Cur_among.f c a s l = some (r, a', s') ∧ a ≤ a' ∧ a' ≤ a + 2 ∧ r ∈ l := by
  unfold spec_l1Cur_among.f
  obtain ⟨r, a', s', e, h2, h3, h4, h5, h6⟩ := dr_pick hc s (l.length : Int) h0 h1
  rw [e]
  simp only [Option.bind_some]
  have hr : r < (l.length : Int) := by
    by_cases h : (l.length : Int) ≤ 1
    · have := h5 h; omega
    · exact h6 (by omega)
  rw [if_pos h4, if_pos hr]
  obtain ⟨n, rfl⟩ := Int.eq_ofNat_of_zero_le h4
  exact ⟨_, _, _, rfl, h2, h3, rd_mem (by omega)⟩
theorem dr_items {c : List Int} (hc : wfB c) {a : Int} (s : Int) (h0 : 0 ≤ a) (h1 : a ≤ 3999999999999999000) : ∃ r a' s', spec_l1Cur_items.f c a s = some (r, a', s') ∧ a ≤ a' ∧ a' ≤ a + 4 ∧ -1 ≤ r ∧ r ≤ 13 := by
  unfold spec_l1Cur_items.f
  obtain ⟨r, a', s', e, h2, h3⟩ := dr_one hc s 15 h0 (by omega)
  rw [e]
  simp only [Option.bind_some]
  cases r
  · rw [if_neg (by decide)]
    obtain ⟨r, a1, s1, e, g2, g3, g4, g5, g6⟩ := dr_pick hc s' 9 (a := a') (by omega) (by omega)
    rw [e]
    have := g6 (by decide)
    exact ⟨_, _, _, rfl, by dsimp only; omega, by dsimp only; omega, by dsimp only; omega, by dsimp only; omega⟩
  · rw [if_pos rfl]
    obtain ⟨r, a1, s1, e, g2, g3, g4⟩ := dr_among hc s' [-1, 0, 12, 13] (by decide) (a := a') (by omega) (by omega)
    rw [e]
    simp only [List.mem_cons, List.not_mem_nil, or_false] at g4
    exact ⟨_, _, _, rfl, by dsimp only; omega, by dsimp only; omega, by dsimp only; omega, by dsimp only; omega⟩
theorem spec_l1Least_eq (a b : Int) : spec_l1Least.f a b = some (if a < b then a else b) := by
  unfold spec_l1Least.f
  split <;> rfl
theorem dr_order_j1 {c : List Int} (hc : wfB c) (l : List Int) (b : Bool) (hb : b = true → 0 < l.length) (hl : l.length ≤ 30) {a : Int} (s : Int) (h0 : 0 ≤ a) (h1 : a ≤ 3999999999999999000) : ∃ l' a' s', Ev (fun k => spec_l1Cur_order.j1 k l b c a s) (l', a', s') ∧ a ≤ a' ∧ a' ≤ a + 4 ∧ l'.length = l.length := by
  cases b
  · refine ⟨l, a, s, ev_shift ?_, by omega, by omega, rfl⟩
    simp only [spec_l1Cur_order.j1]
    exact ev_neg Bool.false_ne_true (ev_some rfl)
  · have hp := hb rfl
    obtain ⟨y, a1, s1, e1, u1, u2, u3, u4, u5⟩ := dr_pick hc s (l.length : Int) h0 (by omega)
    have hy : y < (l.length : Int) := by
      by_cases h : (l.length : Int) ≤ 1
      · have := u4 h; omega
      · exact u5 (by omega)
    obtain ⟨z, a2, s2, e2, v1, v2, _⟩ := dr_among hc s1 [-1, 0, (l.length : Int), 4611686018427387904] (by simp) (a := a1) (by omega) (by omega)
    refine ⟨l.set y.toNat z, a2, s2, ev_shift ?_, by omega, by omega, by simp⟩
    simp only [spec_l1Cur_order.j1]
    exact ev_pos (by trivial) (ev_bind0 e1 (ev_bind0 e2 (ev_pos u3 (ev_pos hy (ev_some rfl)))))
theorem dr_order_l0 {c : List Int} (hc : wfB c) (n : Int) (m : Nat) : ∀ (x : Nat) (l : List Int) (a s : Int), m + x = 20 → l.length = x → 0 ≤ a → a + 2 * (m : Int) ≤ 3999999999999990000 → ∃ l' a' s', Ev (fun k => spec_l1Cur_order.l0 k n l (x : Int) c a s) (l', a', s') ∧ a ≤ a' ∧ a' ≤ a + 2 * (m : Int) + 8 ∧ l'.length ≤ 20 := by
  have fin : ∀ (x : Nat) (l : List Int) (a s : Int), x ≤ 20 → l.length = x → 0 ≤ a → a ≤ 3999999999999990000 → ¬ (x : Int) < (if n < 20 then n else 20) → ∃ l' a' s', Ev (fun k => spec_l1Cur_order.l0 k n l (x : Int) c a s) (l', a', s') ∧ a ≤ a' ∧ a' ≤ a + 8 ∧ l'.length ≤ 20 := by
    intro x l a s hx hl h0 h1 hn
    by_cases hp : (l.length : Int) > 0
    · obtain ⟨y, a1, s1, e1, u1, u2⟩ := dr_one hc s 25 h0 (by omega)
      obtain ⟨l', a', s', g1, g2, g3, g4⟩ := dr_order_j1 hc l y (fun _ => by omega) (by omega) s1 (a := a1) (by omega) (by omega)
      refine ⟨l', a', s', ev_shift ?_, by omega, by omega, by omega⟩
      simp only [spec_l1Cur_order.l0]
      exact ev_bind0 (spec_l1Least_eq _ _) (ev_neg hn (ev_pos hp (ev_bind0 e1 g1)))
    · obtain ⟨l', a', s', g1, g2, g3, g4⟩ := dr_order_j1 hc l false (fun h => by cases h) (by omega) s (a := a) (by omega) (by omega)
      refine ⟨l', a', s', ev_shift ?_, by omega, by omega, by omega⟩
      simp only [spec_l1Cur_order.l0]
      exact ev_bind0 (spec_l1Least_eq _ _) (ev_neg hn (ev_neg hp g1))
  induction m with
  | zero =>
    intro x l a s hm hl h0 h1
    obtain ⟨l', a', s', g1, g2, g3, g4⟩ := fin x l a s (by omega) hl h0 (by omega) (by split <;> omega)
    exact ⟨l', a', s', g1, g2, by omega, g4⟩
  | succ m ih =>
    intro x l a s hm hl h0 h1
    by_cases hx : (x : Int) < (if n < 20 then n else 20)
    · have ew : wrap64 ((x : Int) + 1) = ((x + 1 : Nat) : Int) := by rw [w64 (by omega) (by omega)]; omega
      obtain ⟨y, a1, s1, e1, u1, u2, u3, u4, u5⟩ := dr_pick hc s ((x + 1 : Nat) : Int) h0 (by omega)
      have hy : y ≤ (l.length : Int) := by
        by_cases h : ((x + 1 : Nat) : Int) ≤ 1
        · have := u4 h; omega
        · have := u5 (by omega); omega
      obtain ⟨l', a', s', g1, g2, g3, g4⟩ := ih (x + 1) ([] ++ l.take y.toNat ++ [(x : Int)] ++ l.drop y.toNat) a1 s1 (by omega) (by simp only [List.length_append, List.length_take, List.length_drop, List.length_cons, List.length_nil]; omega) (by omega) (by omega)
      refine ⟨l', a', s', ev_shift ?_, by omega, by omega, g4⟩
      simp only [spec_l1Cur_order.l0, ew]
      refine ev_bind0 (spec_l1Least_eq _ _) (ev_pos hx (ev_bind0 e1 (ev_bind0 rfl (ev_pos u3 (ev_pos hy (ev_bind0 rfl (ev_pos ?_ (ev_bind0 rfl (ev_pos ?_ (ev_bind0 rfl (ev_bind0 rfl (ev_pos ?_ g1)))))))))))) <;> (simp only [List.length_append, List.length_take, List.length_drop, List.length_cons, List.length_nil]; omega)
    · obtain ⟨l', a', s', g1, g2, g3, g4⟩ := fin x l a s (by omega) hl h0 (by omega) hx
      exact ⟨l', a', s', g1, g2, by omega, g4⟩
theorem dr_order {c : List Int} (hc : wfB c) (n a s : Int) (h0 : 0 ≤ a) (h1 : a ≤ 3999999999999980000) : ∃ l' a' s', Ev (fun k => spec_l1Cur_order.f k c a s n) (l', a', s') ∧ a ≤ a' ∧ a' ≤ a + 60 ∧ l'.length ≤ 20 := by
  obtain ⟨l', a', s', g1, g2, g3, g4⟩ := dr_order_l0 hc n 20 0 [] a s rfl rfl h0 (by omega)
  exact ⟨l', a', s', g1, by omega, by omega, g4⟩
theorem dr_IsPermutation {c : List Int} (hc : wfB c) : ∃ l, Ev (fun j => spec_DrawIsPermutation.f j c) l ∧ l.length ≤ 20 := by
  unfold spec_DrawIsPermutation.f
  obtain ⟨n, a1, s1, e1, u1, u2, u3, u4⟩ := dr_items hc 0 (a := 0) (by decide) (by decide)
  obtain ⟨l, a2, s2, e2, v1, v2, v3⟩ := dr_order hc n a1 s1 (by omega) (by omega)
  exact ⟨l, ev_bind0 e1 (ev_bind e2 (ev_some rfl)), v3⟩
theorem w64r (x : Int) : -9223372036854775808 ≤ wrap64 x ∧ wrap64 x ≤ 9223372036854775807 := by unfold wrap64; omega
theorem dr_rank {c : List Int} (hc : wfB c) {a : Int} (s n : Int) (hn : -9223372036854775808 ≤ n) (hn1 : n ≤ 9223372036854775807) (h0 : 0 ≤ a) (h1 : a ≤ 3999999999999999000) : ∃ r a' s', spec_l1Cur_rank.f c a s n = some (r, a', s') ∧ a ≤ a' ∧ a' ≤ a + 8 ∧ -9223372036854775808 ≤ r ∧ r ≤ 9223372036854775807 := by
  unfold spec_l1Cur_rank.f
  obtain ⟨x, a1, s1, e1, u2, u3, u4, u5, u6⟩ := dr_pick hc s 12 h0 (by omega)
  rw [e1]
  simp only [Option.bind_some]
  by_cases c0 : x = 0
  · rw [if_pos c0]
    obtain ⟨r, a2, s2, e2, g2, g3, g4⟩ := dr_among hc s1 [-1, n, wrap64 (n + 1), 4611686018427387904] (by simp) (a := a1) (by omega) (by omega)
    rw [e2]
    have hw := w64r (n + 1)
    generalize hq : wrap64 (n + 1) = q at g4 hw e2; clear hq
    simp only [List.mem_cons, List.not_mem_nil, or_false] at g4
    exact ⟨_, _, _, rfl, by dsimp only; omega, by dsimp only; omega, by dsimp only; omega, by dsimp only; omega⟩
  rw [if_neg c0]
  by_cases c1 : x = 1
  · rw [if_pos c1]
    have hw := w64r (n - 1)
    exact ⟨_, _, _, rfl, by omega, by omega, by omega, by omega⟩
  rw [if_neg c1]
  by_cases c2 : x = 2
  · rw [if_pos c2]
    exact ⟨_, _, _, rfl, by omega, by omega, by omega, by omega⟩
  rw [if_neg c2]
  by_cases c3 : n < 2
  · rw [if_pos c3]
    exact ⟨_, _, _, rfl, by omega, by omega, by omega, by omega⟩
  rw [if_neg c3]
  obtain ⟨y, a2, s2, e2, v2, v3, v4, v5, v6⟩ := dr_pick hc s1 60000 (a := a1) (by omega) (by omega)
  rw [e2]
  simp only [Option.bind_some]
  obtain ⟨z, a3, s3, e3, w2, w3, w4, w5, w6⟩ := dr_pick hc s2 60000 (a := a2) (by omega) (by omega)
  rw [e3]
  simp only [Option.bind_some]
  have := v6 (by decide); have := w6 (by decide)
  rw [if_neg (by omega), w64 (x := y * 60000) (by omega) (by omega), w64 (by omega) (by omega), Int.tmod_eq_emod_of_nonneg (by omega)]
  have g0 := Int.emod_nonneg (y * 60000 + z) (b := n) (by omega)
  have g1 := Int.emod_lt_of_pos (y * 60000 + z) (b := n) (by omega)
  exact ⟨_, _, _, rfl, by omega, by omega, by omega, by omega⟩
theorem spec_l1Most_eq (a b : Int) : spec_l1Most.f a b = some (if a > b then a else b) := by
  unfold spec_l1Most.f
  split <;> rfl
theorem spec_raFactorial_ev (n : Nat) (h : n ≤ 12) : Ev (fun k => spec_raFactorial.f k (n : Int)) (fact n : Int) := by
  have t : ∀ m : Fin 13, spec_raFactorial.f 20 ((m.1 : Nat) : Int) = some (fact m.1 : Int) := by decide +kernel
  exact Ev.of (spec_raFactorial.mono _) (t ⟨n, by omega⟩)
theorem dr_PermutationAt {c : List Int} (hc : wfB c) : ∃ n r, Ev (fun j => spec_DrawPermutationAt.f j c) (n, r) := by
  unfold spec_DrawPermutationAt.f
  obtain ⟨n, a1, s1, e1, u1, u2, u3, u4⟩ := dr_items hc 0 (a := 0) (by decide) (by decide)
  obtain ⟨q, hq, hq2⟩ : ∃ q : Nat, (if 0 > (if n < 12 then n else 12) then 0 else (if n < 12 then n else 12)) = (q : Int) ∧ q ≤ 12 := by
    refine ⟨(if 0 > (if n < 12 then n else 12) then 0 else (if n < 12 then n else 12)).toNat, ?_, ?_⟩ <;> (repeat split) <;> omega
  have hf := fact_12 hq2
  obtain ⟨r, a2, s2, e2, v1, v2, v3, v4⟩ := dr_rank hc s1 (fact q : Int) (by omega) (by omega) (a := a1) (by omega) (by omega)
  refine ⟨n, r, ev_bind0 e1 (ev_bind0 (spec_l1Least_eq _ _) (ev_bind0 (spec_l1Most_eq _ _) ?_))⟩
  rw [hq]
  exact ev_bind (spec_raFactorial_ev q hq2) (ev_bind0 e2 (ev_some rfl))
theorem impl_factorial_ev (n : Nat) (h : n ≤ 12) : Ev (fun k => impl_factorial.f k (n : Int)) (fact n : Int) := by
  have t : ∀ m : Fin 13, impl_factorial.f 20 ((m.1 : Nat) : Int) = some (fact m.1 : Int) := by decide +kernel
  exact Ev.of (impl_factorial.mono _) (t ⟨n, by omega⟩)
theorem impl_identity_ev (n : Nat) (h : n ≤ 12) : Ev (fun k => impl_identity.f k (n : Int)) (idL n) := by
  have t : ∀ m : Fin 13, impl_identity.f 20 ((m.1 : Nat) : Int) = some (idL m.1) := by decide +kernel
  exact Ev.of (impl_identity.mono _) (t ⟨n, by omega⟩)
theorem slices_Delete_one (l : List Int) (q : Nat) (h : q < l.length) (hl : l.length ≤ 9000000000000000000) : slices_Delete_int_int.f l (q : Int) (wrap64 ((q : Int) + 1)) = some (l.eraseIdx q) := by
  rw [w64 (by omega) (by omega)]
  unfold slices_Delete_int_int.f
  have e : ((q : Int) + 1).toNat = q + 1 := by omega
  rw [if_pos ⟨by omega, by omega, by omega⟩, List.eraseIdx_eq_take_drop_succ, e, Int.toNat_natCast]
theorem div_cast (r f : Nat) (hr : r ≤ 4000000000) : wrap64 (Int.tdiv (r : Int) (f : Int)) = ((r / f : Nat) : Int) := by
  have h := Nat.div_le_self r f
  rw [← Int.ofNat_tdiv]
  generalize r / f = q at h
  exact w64 (by omega) (by omega)
theorem mod_cast_ (r f : Nat) : Int.tmod (r : Int) (f : Int) = ((r % f : Nat) : Int) := by rw [← Int.ofNat_tmod]
theorem impl_permutationAt_l0_ev : ∀ (m : Nat) (r : Nat) (left out : List Int), m ≤ 12 → left.length = m → r < fact m → out.length + m ≤ 100 → Ev (fun k => impl_permutationAt.l0 k (r : Int) left out ((m : Int) - 1)) (out ++ atL m left r) := by
  intro m
  induction m with
  | zero =>
    intro r left out _ _ _ _
    refine ev_shift ?_
    simp only [impl_permutationAt.l0]
    exact ev_neg (by omega) (ev_some (by simp [atL]))
  | succ m ih =>
    intro r left out hm hl hr ho
    have hq : r / fact m < m + 1 := fact_div hr
    have hpos := fact_pos m
    have hf12 := fact_12 (n := m + 1) hm
    have hmod := Nat.mod_lt r hpos
    have e1 : (((m + 1 : Nat) : Int) - 1) = (m : Int) := by omega
    have e2 : wrap64 ((m : Int) - 1) = (m : Int) - 1 := w64 (by omega) (by omega)
    have ed := div_cast r (fact m) (by omega)
    have em := mod_cast_ r (fact m)
    refine ev_shift ?_
    simp only [impl_permutationAt.l0, e1]
    refine ev_pos (by omega) (ev_bind (impl_factorial_ev m (by omega)) (ev_neg (by omega) (ev_bind (impl_factorial_ev m (by omega)) (ev_neg (by omega) ?_))))
    rw [ed, em, atL]
    generalize r / fact m = q at hq
    refine ev_pos (by omega) (ev_pos (by omega) (ev_pos (by omega) (ev_bind0 (slices_Delete_one left _ (by omega) (by omega)) ?_)))
    rw [rd_nat, e2]
    have := ih (r % fact m) (left.eraseIdx q) (out ++ [left.getD q 0]) (by omega) (by rw [List.length_eraseIdx_of_lt (by omega), hl]; rfl) hmod (by simp; omega)
    rw [List.append_assoc] at this
    exact this
theorem impl_permutationAt_ev (n r : Nat) (hn : n ≤ 12) (hr : r < fact n) : Ev (fun k => impl_permutationAt.f k (n : Int) (r : Int)) (atL n (idL n) r) := by
  unfold impl_permutationAt.f
  refine ev_bind (impl_identity_ev n hn) ?_
  rw [w64 (by omega) (by omega)]
  exact impl_permutationAt_l0_ev n r (idL n) [] hn (idL_length n) hr (by simp; omega)
theorem spec_raUpTo_ev (n : Nat) (h : n ≤ 12) : Ev (fun k => spec_raUpTo.f k (n : Int)) (idL n) := by
  have t : ∀ m : Fin 13, spec_raUpTo.f 20 ((m.1 : Nat) : Int) = some (idL m.1) := by decide +kernel
  exact Ev.of (spec_raUpTo.mono _) (t ⟨n, by omega⟩)
theorem spec_l1Own_eq (l : List Int) (h : l.length < 17592186044416) : spec_l1Own.f l = some l := by
  simp only [spec_l1Own.f, Option.bind_some, List.length_nil, Nat.zero_add, List.nil_append]
  rw [if_pos h]
theorem spec_raWithout_eq (l : List Int) (q : Nat) (h : q < l.length) (hl : l.length ≤ 1000000) : spec_raWithout.f l (q : Int) = some (l.eraseIdx q) := by
  have e : ((q : Int) + 1).toNat = q + 1 := by omega
  have e1 : wrap64 ((q : Int) + 1) = (q : Int) + 1 := w64 (by omega) (by omega)
  have h1 : (0 : Int) ≤ (q : Int) := by omega
  have h2 : (q : Int) ≤ (l.length : Int) := by omega
  have h3 : (l.take (q : Int).toNat).length < 17592186044416 := by rw [List.length_take]; omega
  have h4 : (0 : Int) ≤ (q : Int) + 1 := by omega
  have h5 : (q : Int) + 1 ≤ (l.length : Int) := by omega
  have h6 : (l.take (q : Int).toNat).length + (l.drop ((q : Int) + 1).toNat).length < 17592186044416 := by rw [List.length_take, List.length_drop]; omega
  have e0 := spec_l1Own_eq (l.take (q : Int).toNat) h3
  simp only [spec_raWithout.f, e1]
  rw [if_pos h1, if_pos h2, e0, Option.bind_some, if_pos h4, if_pos h5, if_pos h6, List.eraseIdx_eq_take_drop_succ, e, Int.toNat_natCast]
theorem spec_raAt_ev : ∀ (m : Nat) (r : Nat) (items : List Int), m ≤ 12 → items.length = m → r < fact m → Ev (fun k => spec_raAt.f k items (r : Int)) (atL m items r) := by
  intro m
  induction m with
  | zero =>
    intro r items _ hl _
    refine ev_shift ?_
    simp only [spec_raAt.f]
    exact ev_pos (by omega) (ev_some (by simp [atL]))
  | succ m ih =>
    intro r items hm hl hr
    have hq : r / fact m < m + 1 := fact_div hr
    have hpos := fact_pos m
    have hf12 := fact_12 (n := m + 1) hm
    have hmod := Nat.mod_lt r hpos
    have e1 : wrap64 ((items.length : Int) - 1) = (m : Int) := by rw [w64 (by omega) (by omega)]; omega
    have ed := div_cast r (fact m) (by omega)
    have em := mod_cast_ r (fact m)
    refine ev_shift ?_
    simp only [spec_raAt.f, e1]
    refine ev_neg (by omega) (ev_bind (spec_raFactorial_ev m (by omega)) (ev_neg (by omega) ?_))
    rw [ed, em, atL]
    generalize r / fact m = q at hq
    refine ev_pos (by omega) (ev_pos (by omega) (ev_bind0 rfl (ev_bind0 (spec_raWithout_eq items _ (by omega) (by omega)) ?_)))
    refine ev_bind (ih (r % fact m) (items.eraseIdx q) (by omega) (by rw [List.length_eraseIdx_of_lt (by omega), hl]; rfl) hmod) (ev_pos (by simp only [List.length_cons, List.length_nil, atL_length]; omega) (ev_some ?_))
    rw [rd_nat]; rfl
theorem impl_within_eq (a b c : Int) : impl_within.f a b c = some (inR a b c) := in_ite a b c
theorem spec_l1In_eq (a b c : Int) : spec_l1In.f a b c = some (inR a b c) := in_ite a b c
theorem spec_raItems_eq (a : Int) : spec_raItems.f a = some (inR a 0 12) := by simp only [spec_raItems.f, spec_l1In_eq, Option.bind_some]
theorem atPm_nat (n r : Int) (h : inR n 0 12 = true ∧ inR r 0 ((fact n.toNat : Int) - 1) = true) : ∃ m q : Nat, n = (m : Int) ∧ r = (q : Int) ∧ m ≤ 12 ∧ q < fact m := by
  have h1 := inR_iff.1 h.1
  have h2 := inR_iff.1 h.2
  obtain ⟨m, rfl⟩ := Int.eq_ofNat_of_zero_le h1.1
  obtain ⟨q, rfl⟩ := Int.eq_ofNat_of_zero_le h2.1
  simp only [Int.toNat_natCast] at h2
  exact ⟨m, q, rfl, rfl, by omega, by omega⟩
theorem impl_PermutationAt_ev (n r : Int) : Ev (fun k => impl_PermutationAt.f k n r) (atPm n r) := by
  unfold impl_PermutationAt.f atPm
  refine ev_bind0 (impl_within_eq _ _ _) ?_
  by_cases h : inR n 0 12 = true
  · have h' := inR_iff.1 h
    obtain ⟨m, rfl⟩ := Int.eq_ofNat_of_zero_le h'.1
    have hf := fact_12 (n := m) (by omega)
    refine ev_pos h (ev_bind (impl_factorial_ev m (by omega)) (ev_bind0 (impl_within_eq _ _ _) ?_))
    rw [w64 (by omega) (by omega)]
    by_cases hr : inR r 0 ((fact m : Int) - 1) = true
    · have hr' := inR_iff.1 hr
      obtain ⟨q, rfl⟩ := Int.eq_ofNat_of_zero_le hr'.1
      refine ev_pos hr (ev_bind (impl_permutationAt_ev m q (by omega) (by omega)) (ev_some ?_))
      rw [if_pos ⟨h, by simpa using hr⟩]; simp
    · exact ev_neg hr (ev_some (by rw [if_neg (fun c => hr (by simpa using c.2))]))
  · exact ev_neg h (ev_some (by rw [if_neg (fun c => h c.1)]))
theorem spec_PermutationAt_ev (n r : Int) : Ev (fun k => spec_PermutationAt.f k n r) (atPm n r) := by
  unfold spec_PermutationAt.f atPm
  refine ev_bind0 (spec_raItems_eq _) ?_
  by_cases h : inR n 0 12 = true
  · have h' := inR_iff.1 h
    obtain ⟨m, rfl⟩ := Int.eq_ofNat_of_zero_le h'.1
    have hf := fact_12 (n := m) (by omega)
    refine ev_pos h (ev_bind (spec_raFactorial_ev m (by omega)) (ev_bind0 (spec_l1In_eq _ _ _) ?_))
    rw [w64 (by omega) (by omega)]
    refine ev_shift ?_
    simp only [spec_PermutationAt.j0]
    by_cases hr : inR r 0 ((fact m : Int) - 1) = true
    · have hr' := inR_iff.1 hr
      obtain ⟨q, rfl⟩ := Int.eq_ofNat_of_zero_le hr'.1
      refine ev_neg (by rw [hr]; simp) (ev_bind (spec_raUpTo_ev m (by omega)) (ev_bind (spec_raAt_ev m q _ (by omega) (idL_length m) (by omega)) (ev_some ?_)))
      rw [if_pos ⟨h, by simpa using hr⟩]; simp
    · simp only [Bool.not_eq_true] at hr
      exact ev_pos (by rw [hr]; rfl) (ev_some (by rw [if_neg (fun c => by have := c.2; simp only [Int.toNat_natCast] at this; rw [hr] at this; cases this)]))
  · refine ev_neg h (ev_shift ?_)
    simp only [spec_PermutationAt.j0]
    exact ev_pos (by trivial) (ev_some (by rw [if_neg (fun c => h c.1)]))
theorem impl_permutationRank_l1 (l : List Int) (hl : l.length ≤ 12) (rank x : Int) (i : Nat) (ys : List Int) (hys : ys.length ≤ 12) (R : Int) (hk : ∀ c : Nat, c = cntLt x ys → Ev (fun k => (impl_factorial.f k (wrap64 (wrap64 ((l.length : Int) - (i : Int)) - 1))).bind fun t => impl_permutationRank.l0 k l (wrap64 (rank + wrap64 ((c : Int) * t))) l (l.length : Int) (wrap64 ((i : Int) + 1))) R) :
    ∀ suf pre, ys = pre ++ suf → ∀ c : Nat, c + cntLt x suf = cntLt x ys → c ≤ 100 → Ev (fun k => impl_permutationRank.l1 k l rank (i : Int) x (c : Int) l (l.length : Int) (i : Int) ys (ys.length : Int) (pre.length : Int)) R := by
  refine range_ind (by omega) (fun pre suf => ∀ c : Nat, c + cntLt x suf = cntLt x ys → c ≤ 100 → Ev (fun k => impl_permutationRank.l1 k l rank (i : Int) x (c : Int) l (l.length : Int) (i : Int) ys (ys.length : Int) (pre.length : Int)) R) ?_ ?_
  · intro c hc _
    refine ev_shift ?_
    simp only [impl_permutationRank.l1]
    exact ev_neg (by omega) (hk c (by simpa [cntLt_nil, cntLt_cons] using hc))
  · intro pre y suf h hx h1 h2 h3 ihl c hc hc2
    have hct := cntLt_le x ys
    refine ev_shift ?_
    simp only [impl_permutationRank.l1, hx, h3]
    refine ev_pos h1 (ev_pos h2 (ev_pos h1 ?_))
    simp only [cntLt_nil, cntLt_cons] at hc
    by_cases hy : y < x
    · rw [if_pos hy] at hc
      refine ev_pos hy ?_
      have e3 : wrap64 ((c : Int) + 1) = ((c + 1 : Nat) : Int) := by rw [w64 (by omega) (by omega)]; omega
      rw [e3]; clear e3 h3
      exact ihl (c + 1) (by omega) (by omega)
    · rw [if_neg hy] at hc
      clear h3
      exact ev_neg hy (ihl c (by omega) hc2)
theorem impl_permutationRank_ev (l : List Int) (hl : l.length ≤ 12) : Ev (fun k => impl_permutationRank.f k l) (rankP l : Int) := by
  have key : ∀ suf pre, l = pre ++ suf → ∀ rank : Nat, rank + rankP suf = rankP l → Ev (fun k => impl_permutationRank.l0 k l (rank : Int) l (l.length : Int) (pre.length : Int)) (rankP l : Int) := by
    refine range_ind (by omega) (fun pre suf => ∀ rank : Nat, rank + rankP suf = rankP l → Ev (fun k => impl_permutationRank.l0 k l (rank : Int) l (l.length : Int) (pre.length : Int)) (rankP l : Int)) ?_ ?_
    · intro rank hr
      refine ev_shift ?_
      simp only [impl_permutationRank.l0]
      exact ev_neg (by omega) (ev_some (by simp only [rankP_nil, rankP_cons] at hr; omega))
    · intro pre x suf h hx h1 h2 h3 ihl rank hr
      have hlen : l.length = pre.length + suf.length + 1 := by rw [h]; simp; omega
      have hlt := rankP_lt l
      have hf := fact_12 (n := l.length) hl
      have hf2 := fact_12 (n := suf.length) (by omega)
      have hcl := cntLt_le x suf
      have hmul : cntLt x suf * fact suf.length ≤ 12 * 479001600 := Nat.mul_le_mul (by omega) hf2
      have hdrop : l.drop ((pre ++ [x]).length : Int).toNat = suf := by
        rw [h, show pre ++ x :: suf = (pre ++ [x]) ++ suf by simp, Int.toNat_natCast, List.drop_left' rfl]
      refine ev_shift ?_
      simp only [impl_permutationRank.l0, hx, h3, hdrop]
      refine ev_pos h1 (ev_pos h2 (ev_pos h1 (ev_pos (by omega) (ev_pos (by simp; omega) ?_))))
      refine impl_permutationRank_l1 l hl (rank : Int) x pre.length suf (by omega) _ ?_ suf [] rfl 0 (by omega) (by omega)
      intro c hc
      subst hc
      have e1 : wrap64 (wrap64 ((l.length : Int) - (pre.length : Int)) - 1) = (suf.length : Int) := by
        rw [w64 (x := (l.length : Int) - (pre.length : Int)) (by omega) (by omega), w64 (by omega) (by omega)]; omega
      rw [e1, h3]
      refine ev_bind (impl_factorial_ev suf.length (by omega)) ?_
      have e2 : (cntLt x suf : Int) * (fact suf.length : Int) = ((cntLt x suf * fact suf.length : Nat) : Int) := by simp
      simp only [rankP_nil, rankP_cons] at hr
      have e4 : wrap64 ((rank : Int) + wrap64 ((cntLt x suf : Int) * (fact suf.length : Int))) = ((rank + cntLt x suf * fact suf.length : Nat) : Int) := by
        rw [e2, w64 (x := ((cntLt x suf * fact suf.length : Nat) : Int)) (by omega) (by omega), w64 (by omega) (by omega)]; omega
      rw [e4]
      exact ihl _ (by omega)
  exact key l [] rfl 0 (by omega)
theorem spec_raRank_ev (l : List Int) (hl : l.length ≤ 12) : Ev (fun k => spec_raRank.f k l) (rankP l : Int) := by
  induction l with
  | nil =>
    refine ev_shift ?_
    simp only [spec_raRank.f]
    exact ev_pos rfl (ev_some (by rw [rankP_nil]; rfl))
  | cons x r ih =>
    simp only [List.length_cons] at hl
    have hrk := rankP_lt (x :: r)
    have hrk2 := rankP_lt r
    have hf := fact_12 (n := (x :: r).length) (by simp; omega)
    have hf2 := fact_12 (n := r.length) (by omega)
    have hcl := cntLt_le x r
    have hmul : cntLt x r * fact r.length ≤ 12 * 479001600 := Nat.mul_le_mul (by omega) hf2
    refine ev_shift ?_
    simp only [spec_raRank.f]
    refine ev_neg (by simp; omega) ?_
    have hr0 : rd (x :: r) 0 = x := rfl
    have key : ∀ suf pre, x :: r = pre ++ suf → ∀ c : Nat, c + cntLt x suf = cntLt x r → c ≤ 100 → Ev (fun k => spec_raRank.l0 k (x :: r) (c : Int) (x :: r) ((x :: r).length : Int) (pre.length : Int)) (rankP (x :: r) : Int) := by
      refine range_ind (by simp; omega) (fun pre suf => ∀ c : Nat, c + cntLt x suf = cntLt x r → c ≤ 100 → Ev (fun k => spec_raRank.l0 k (x :: r) (c : Int) (x :: r) ((x :: r).length : Int) (pre.length : Int)) (rankP (x :: r) : Int)) ?_ ?_
      · intro c hc hc2
        have hc3 : c = cntLt x r := by simpa [cntLt_nil, cntLt_cons] using hc
        subst hc3
        have e1 : wrap64 (((x :: r).length : Int) - 1) = (r.length : Int) := by rw [w64 (by simp only [List.length_cons]; omega) (by simp only [List.length_cons]; omega)]; simp
        refine ev_shift ?_
        simp only [spec_raRank.l0, e1]
        clear e1
        refine ev_neg (by omega) (ev_bind (spec_raFactorial_ev r.length (by omega)) (ev_pos (by simp only [List.length_cons]; omega) (ev_bind (ih (by omega)) (ev_some ?_))))
        have e2 : (cntLt x r : Int) * (fact r.length : Int) = ((cntLt x r * fact r.length : Nat) : Int) := by simp
        rw [e2, w64 (x := ((cntLt x r * fact r.length : Nat) : Int)) (by omega) (by omega), w64 (by omega) (by omega)]
        simp [rankP_nil, rankP_cons]
      · intro pre y suf h hx h1 h2 h3 ihl c hc hc2
        have hlen : (x :: r).length = pre.length + suf.length + 1 := by rw [h]; simp; omega
        have hcs := cntLt_le x suf
        simp only [List.length_cons] at hlen
        refine ev_shift ?_
        simp only [spec_raRank.l0, hx, h3, hr0]
        refine ev_pos h1 (ev_pos h2 (ev_pos h1 (ev_pos (by simp only [List.length_cons]; omega) ?_)))
        simp only [cntLt_cons] at hc
        by_cases hy : y < x
        · rw [if_pos hy] at hc
          refine ev_pos hy ?_
          have e3 : wrap64 ((c : Int) + 1) = ((c + 1 : Nat) : Int) := by rw [w64 (by omega) (by omega)]; omega
          rw [e3]; clear e3 h3
          exact ihl (c + 1) (by omega) (by omega)
        · rw [if_neg hy] at hc
          clear h3
          exact ev_neg hy (ihl c (by omega) hc2)
    exact key (x :: r) [] rfl 0 (by rw [cntLt_cons, if_neg (Int.lt_irrefl x)]; omega) (by omega)
theorem spec_l1Has_ev (l : List Int) (x : Int) (hl : l.length ≤ 9000000000000000000) : Ev (fun k => spec_l1Has.f k l x) (l.contains x) := by
  refine range_all hl (fun pre suf => Ev (fun k => spec_l1Has.l0 k x l (l.length : Int) (pre.length : Int)) (suf.contains x)) ?_ ?_
  · refine ev_shift ?_
    simp only [spec_l1Has.l0]
    exact ev_neg (by omega) (ev_some rfl)
  · intro pre y suf h hx h1 h2 h3 ih
    refine ev_shift ?_
    simp only [spec_l1Has.l0, hx, h3]
    refine ev_pos h1 (ev_pos h2 (ev_pos h1 ?_))
    by_cases e : y = x
    · exact ev_pos e (ev_some (by simp [e]))
    · refine ev_neg e ?_
      have : (y :: suf).contains x = suf.contains x := by simp [Ne.symm e]
      rw [this]; exact ih
theorem spec_raPermutation_ev (l : List Int) (hl : l.length ≤ 9000000000000000000) : Ev (fun k => spec_raPermutation.f k l) (isPermB l) := by
  rw [← raPerm_eq]
  have key : ∀ suf pre, l = pre ++ suf → pre.length ≤ 12 → Ev (fun k => spec_raPermutation.l0 k l l (l.length : Int) (pre.length : Int)) (decide (l.length ≤ 12) && raPermF (l.length : Int) pre suf) := by
    refine range_ind hl (fun pre suf => pre.length ≤ 12 → Ev (fun k => spec_raPermutation.l0 k l l (l.length : Int) (pre.length : Int)) (decide (l.length ≤ 12) && raPermF (l.length : Int) pre suf)) ?_ ?_
    · intro hp
      refine ev_shift ?_
      simp only [spec_raPermutation.l0]
      exact ev_neg (by omega) (ev_some (by rw [decide_eq_true hp]; rfl))
    · intro pre x suf h hx h1 h2 h3 ih hp
      have htake : l.take (pre.length : Int).toNat = pre := by rw [h, Int.toNat_natCast, List.take_left' rfl]
      refine ev_shift ?_
      simp only [spec_raPermutation.l0, hx, h3, htake]
      rw [w64 (by omega) (by omega)]
      refine ev_pos h1 (ev_pos h2 (ev_pos h1 ?_))
      by_cases h12 : pre.length < 12
      · refine ev_neg (by omega) (ev_bind0 (spec_l1In_eq _ _ _) ?_)
        simp only [raPermF]
        cases hr : inR x 0 ((l.length : Int) - 1) with
        | false => exact ev_neg (by simp) (ev_some (by simp))
        | true =>
          refine ev_pos rfl (ev_pos (by omega) (ev_bind (spec_l1Has_ev pre x (by omega)) ?_))
          cases hc : pre.contains x with
          | true => exact ev_pos rfl (ev_some (by simp))
          | false =>
            refine ev_neg (by simp) ?_
            have := ih (by simp; omega)
            simpa using this
      · refine ev_pos (by omega) (ev_some ?_)
        rw [decide_eq_false (by omega)]; rfl
  exact key l [] rfl (by simp)
theorem impl_NextPermutation_ev (l : List Int) (hl : l.length ≤ 9000000000000000000) : Ev (fun k => impl_NextPermutation.f k l) (nextPm l) := by
  unfold impl_NextPermutation.f nextPm
  refine ev_bind0 (g := impl_IsPermutation.f l) rfl ?_
  by_cases h : isPermB l = true
  · rw [if_pos h]
    have h12 := (isPermB_iff.1 h).1
    have hlt := rankP_lt l
    have hf := fact_12 h12
    refine ev_pos h (ev_bind (impl_permutationRank_ev l h12) (ev_bind (impl_factorial_ev _ h12) ?_))
    rw [w64 (by omega) (by omega)]
    refine ev_shift ?_
    simp only [impl_NextPermutation.j0]
    by_cases he : (rankP l : Int) + 1 = (fact l.length : Int)
    · refine ev_pos (by rw [he]; simp) (ev_some ?_)
      unfold atPm
      rw [if_neg (fun c => by have := inR_iff.1 c.2; simp only [Int.toNat_natCast] at this; omega)]
    · refine ev_neg (by simp [he]) (ev_bind (impl_permutationRank_ev l h12) ?_)
      rw [w64 (by omega) (by omega), show (rankP l : Int) + 1 = ((rankP l + 1 : Nat) : Int) by omega]
      refine ev_bind (impl_permutationAt_ev l.length (rankP l + 1) h12 (by omega)) (ev_some ?_)
      unfold atPm
      rw [if_pos ⟨inR_iff.2 ⟨by omega, by omega⟩, inR_iff.2 ⟨by omega, by simp only [Int.toNat_natCast]; omega⟩⟩]
      simp
  · rw [if_neg h]
    refine ev_neg h (ev_shift ?_)
    simp only [impl_NextPermutation.j0]
    exact ev_pos (by trivial) (ev_some rfl)
theorem spec_PermutationRank_ev (l : List Int) (hl : l.length ≤ 9000000000000000000) : Ev (fun k => spec_PermutationRank.f k l) (rankPm l) := by
  unfold spec_PermutationRank.f rankPm
  refine ev_bind (spec_raPermutation_ev l hl) ?_
  by_cases h : isPermB l = true
  · rw [if_pos h]; exact ev_pos h (ev_bind (spec_raRank_ev l (isPermB_iff.1 h).1) (ev_some rfl))
  · rw [if_neg h]; exact ev_neg h (ev_some rfl)
theorem ordersL_take (n r : Nat) (h : r < fact n) : (ordersL n).take (r + 1) = (ordersL n).take r ++ [atL n (idL n) r] := by
  rw [List.take_add_one]
  congr 1
  simp [ordersL, h]
theorem ordersL_length (n : Nat) : (ordersL n).length = fact n := by simp [ordersL]
theorem spec_raOrders_ev (n : Nat) (hn : n ≤ 6) : Ev (fun k => spec_raOrders.f k (n : Int)) (ordersL n) := by
  have hf : fact n ≤ 720 := fact_mono hn
  have key : ∀ (d r : Nat), r + d = fact n → Ev (fun k => spec_raOrders.l0 k (n : Int) ((ordersL n).take r) (r : Int)) (ordersL n) := by
    intro d
    induction d with
    | zero =>
      intro r hr
      refine ev_shift ?_
      simp only [spec_raOrders.l0]
      exact ev_bind (spec_raFactorial_ev n (by omega)) (ev_neg (by omega) (ev_some (by rw [List.take_of_length_le]; rw [ordersL_length]; omega)))
    | succ d ih =>
      intro r hr
      have e1 : wrap64 ((r : Int) + 1) = ((r + 1 : Nat) : Int) := by rw [w64 (by omega) (by omega)]; omega
      have h3 := ih (r + 1) (by omega)
      rw [ordersL_take n r (by omega)] at h3
      refine ev_shift ?_
      simp only [spec_raOrders.l0, e1]
      exact ev_bind (spec_raFactorial_ev n (by omega)) (ev_pos (by omega) (ev_bind (spec_raUpTo_ev n (by omega)) (ev_bind (spec_raAt_ev n r _ (by omega) (idL_length n) (by omega)) (ev_pos (by rw [List.length_take]; omega) h3))))
  exact key (fact n) 0 (by omega)
theorem impl_allPermutations_ev (n : Nat) (hn : n ≤ 6) : Ev (fun k => impl_allPermutations.f k (n : Int)) (ordersL n) := by
  have hf : fact n ≤ 720 := fact_mono hn
  unfold impl_allPermutations.f
  refine ev_bind (impl_factorial_ev n (by omega)) ?_
  have key : ∀ (d r : Nat), r + d = fact n → Ev (fun k => impl_allPermutations.l0 k (n : Int) ((ordersL n).take r) (fact n : Int) (r : Int)) (ordersL n) := by
    intro d
    induction d with
    | zero =>
      intro r hr
      refine ev_shift ?_
      simp only [impl_allPermutations.l0]
      exact ev_neg (by omega) (ev_some (by rw [List.take_of_length_le]; rw [ordersL_length]; omega))
    | succ d ih =>
      intro r hr
      have e1 : wrap64 ((r : Int) + 1) = ((r + 1 : Nat) : Int) := by rw [w64 (by omega) (by omega)]; omega
      have h3 := ih (r + 1) (by omega)
      rw [ordersL_take n r (by omega)] at h3
      refine ev_shift ?_
      simp only [impl_allPermutations.l0, e1]
      exact ev_pos (by omega) (ev_bind (impl_permutationAt_ev n r (by omega) (by omega)) (ev_pos (by rw [List.length_take]; omega) h3))
  exact key (fact n) 0 (by omega)
theorem allPm_nat {n : Int} (h : inR n 0 6 = true) : ∃ m : Nat, n = (m : Int) ∧ m ≤ 6 := by
  have h1 := inR_iff.1 h
  obtain ⟨m, rfl⟩ := Int.eq_ofNat_of_zero_le h1.1
  exact ⟨m, rfl, by omega⟩
theorem spec_AllPermutations_ev (n : Int) : Ev (fun k => spec_AllPermutations.f k n) (allPm n) := by
  unfold spec_AllPermutations.f allPm
  refine ev_bind0 (spec_l1In_eq _ _ _) ?_
  by_cases h : inR n 0 6 = true
  · rw [if_pos h]
    obtain ⟨m, rfl, hm⟩ := allPm_nat h
    exact ev_pos h (ev_bind (spec_raOrders_ev m hm) (ev_some (by simp)))
  · rw [if_neg h]; exact ev_neg h (ev_some rfl)
theorem impl_AllPermutations_ev (n : Int) : Ev (fun k => impl_AllPermutations.f k n) (allPm n) := by
  unfold impl_AllPermutations.f allPm
  refine ev_bind0 (impl_within_eq _ _ _) ?_
  by_cases h : inR n 0 6 = true
  · rw [if_pos h]
    obtain ⟨m, rfl, hm⟩ := allPm_nat h
    exact ev_pos h (ev_bind (impl_allPermutations_ev m hm) (ev_some (by simp)))
  · rw [if_neg h]; exact ev_neg h (ev_some rfl)
theorem laws_uSame_ev (l : List Int) (hl : l.length ≤ 9000000000000000000) : Ev (fun k => laws_uSame.f k l l) true := by
  unfold laws_uSame.f
  refine ev_pos rfl ?_
  refine range_all hl (fun pre suf => Ev (fun k => laws_uSame.l0 k l l (l.length : Int) (pre.length : Int)) true) ?_ ?_
  · refine ev_shift ?_
    simp only [laws_uSame.l0]
    exact ev_neg (by omega) (ev_some rfl)
  · intro pre x suf h hx h1 h2 h3 ih
    refine ev_shift ?_
    simp only [laws_uSame.l0, h3]
    exact ev_pos h1 (ev_pos h2 (ev_pos h1 (ev_pos h1 (ev_pos (by trivial) ih))))
theorem laws_uLess_ev (l m : List Int) (hl : l.length ≤ 9000000000000000000) (he : m.length = l.length) : Ev (fun k => laws_uLess.f k l m) (lexB l m) := by
  unfold laws_uLess.f
  have key : ∀ suf pre, l = pre ++ suf → ∀ p s : List Int, m = p ++ s → p.length = pre.length → s.length = suf.length → Ev (fun k => laws_uLess.l0 k l m (l.length : Int) (pre.length : Int)) (lexB suf s) := by
    refine range_ind hl (fun pre suf => ∀ p s : List Int, m = p ++ s → p.length = pre.length → s.length = suf.length → Ev (fun k => laws_uLess.l0 k l m (l.length : Int) (pre.length : Int)) (lexB suf s)) ?_ ?_
    · intro p s _ _ hs
      refine ev_shift ?_
      simp only [laws_uLess.l0]
      refine ev_neg (by omega) (ev_some ?_)
      cases s with
      | nil => rfl
      | cons y s => simp at hs
    · intro pre x suf hh hx h1 h2 h3 ih p s hps hpl hsl
      cases s with
      | nil => simp at hsl
      | cons y s =>
        have hrb : rd m (pre.length : Int) = y := by rw [hps, ← hpl]; exact rd_at _ _ _
        refine ev_shift ?_
        simp only [laws_uLess.l0, hx, h3, hrb, lexB]
        refine ev_pos h1 (ev_pos h2 (ev_pos h1 (ev_pos (by omega) ?_)))
        by_cases hxy : x = y
        · rw [if_pos hxy]
          exact ev_pos hxy (ih (p ++ [y]) s (by simp [hps]) (by simp [hpl]) (by simpa using hsl))
        · rw [if_neg hxy]
          exact ev_neg hxy (ev_some rfl)
  exact key l [] rfl [] m rfl rfl he
theorem laws_uLists_ev (l : List (List Int)) (hl : l.length ≤ 9000000000000000000) (hr : ∀ x ∈ l, x.length ≤ 9000000000000000000) : Ev (fun k => laws_uLists.f k l l) true := by
  unfold laws_uLists.f
  refine ev_pos rfl ?_
  refine rangeL_ind hl (fun pre suf => Ev (fun k => laws_uLists.l0 k l l (l.length : Int) (pre.length : Int)) true) ?_ ?_ l [] rfl
  · refine ev_shift ?_
    simp only [laws_uLists.l0]
    exact ev_neg (by omega) (ev_some rfl)
  · intro pre x suf h hx h1 h2 h3 ih
    have e : rd_L2 l (pre.length : Int) = x := hx
    refine ev_shift ?_
    simp only [laws_uLists.l0, h3, e]
    exact ev_pos h1 (ev_pos h2 (ev_pos h1 (ev_pos h1 (ev_bind (laws_uSame_ev x (hr x (by rw [h]; simp))) (ev_pos rfl ih)))))
theorem impl_PermutationRank_ev (l : List Int) : Ev (fun k => impl_PermutationRank.f k l) (rankPm l) := by
  unfold impl_PermutationRank.f rankPm
  refine ev_bind0 (g := impl_IsPermutation.f l) rfl ?_
  by_cases h : isPermB l = true
  · rw [if_pos h]; exact ev_pos h (ev_bind (impl_permutationRank_ev l (isPermB_iff.1 h).1) (ev_some rfl))
  · rw [if_neg h]; exact ev_neg h (ev_some rfl)
theorem laws_FnPermutationRanks_l0_end {m : List Int} (hm : wfB m) (L : List (List Int)) (i : Int) (hi : ¬ i < (L.length : Int)) : Ev (fun k => laws_FnPermutationRanks.l0 k m L (L.length : Int) i) true := by
  obtain ⟨n, r, e⟩ := dr_PermutationAt hm
  refine ev_shift ?_
  simp only [laws_FnPermutationRanks.l0]
  have hlen := atPm_len n r
  exact ev_neg hi (ev_bind e (ev_bind (impl_PermutationAt_ev n r) (ev_bind (spec_PermutationAt_ev n r) (ev_pos (by simp) (ev_bind (laws_uSame_ev _ (by omega)) (ev_some rfl))))))
theorem laws_FnPermutationRanks_l0_ev {m : List Int} (hm : wfB m) (n : Nat) (hn : n ≤ 6) : Ev (fun k => laws_FnPermutationRanks.l0 k m (ordersL n) ((ordersL n).length : Int) 0) true := by
  have hf : fact n ≤ 720 := fact_mono hn
  have hlen := ordersL_length n
  refine rangeL_ind (l := ordersL n) (by omega) (fun pre suf => Ev (fun k => laws_FnPermutationRanks.l0 k m (ordersL n) ((ordersL n).length : Int) (pre.length : Int)) true) (laws_FnPermutationRanks_l0_end hm _ _ (by omega)) ?_ _ [] rfl
  intro pre x suf hh hx h1 h2 h3 ih
  have hi : pre.length < fact n := by omega
  have hxx : x = atL n (idL n) pre.length := by
    have e1 : (ordersL n)[pre.length]? = some x := by rw [hh]; simp
    rw [ordersL, List.getElem?_map, List.getElem?_range hi] at e1
    exact (Option.some.inj e1).symm
  have hp := atL_isPerm (n := n) (by omega) hi
  have hr := rankP_atL n (idL n) pre.length (idL_length n) (idL_lt n) hi
  have hrk : rankPm x = ((pre.length : Int), true) := by
    rw [hxx]; unfold rankPm; rw [if_pos hp, hr]
  have e : rd_L2 (ordersL n) (pre.length : Int) = x := hx
  refine ev_shift ?_
  simp only [laws_FnPermutationRanks.l0, h3, e]
  refine ev_pos h1 (ev_pos h2 (ev_pos h1 (ev_bind (impl_PermutationRank_ev x) ?_)))
  rw [hrk]
  exact ev_pos rfl (ev_pos rfl ih)
theorem laws_FnPermutationRanks_j1_ev {m : List Int} (hm : wfB m) : Ev (fun k => laws_FnPermutationRanks.j1 k m) true := by
  obtain ⟨n, a1, s1, e1, _⟩ := dr_among hm 0 [0, 1, 2, 3, 4, 5, 6, 7, -1] (by decide) (a := 0) (by decide) (by decide)
  have e : spec_DrawAllPermutations.f m = some n := by unfold spec_DrawAllPermutations.f; rw [e1]; rfl
  have hlen := allPm_len n
  refine ev_shift ?_
  simp only [laws_FnPermutationRanks.j1]
  refine ev_bind0 e (ev_bind (impl_AllPermutations_ev n) (ev_bind (spec_AllPermutations_ev n) (ev_neg neq_self (ev_bind (laws_uLists_ev _ (by omega) (fun x hx => by have := hlen.2 x hx; omega)) (ev_shift ?_)))))
  simp only [laws_FnPermutationRanks.j2]
  refine ev_neg (by simp) ?_
  by_cases h : inR n 0 6 = true
  · obtain ⟨q, rfl, hq⟩ := allPm_nat h
    have ea : allPm (q : Int) = (ordersL q, true) := by unfold allPm; rw [if_pos h]; simp
    rw [ea]
    exact laws_FnPermutationRanks_l0_ev hm q hq
  · have ea : allPm n = ([], false) := by unfold allPm; rw [if_neg h]
    rw [ea]
    exact laws_FnPermutationRanks_l0_end hm _ _ (by simp)
theorem FnPermutationRanks : laws_FnPermutationRanks.Pure := by
  intro c m hl1 hl2 hc hm1 hm2 hm
  apply ev_le
  unfold laws_FnPermutationRanks.f
  rcases laws_big_eq c m hc hm (by omega) with hb | ⟨hb, wc, wm⟩
  · exact ev_bind0 hb (ev_pos rfl (ev_some rfl))
  refine ev_bind0 hb (ev_neg Bool.false_ne_true ?_)
  obtain ⟨l, e, hl⟩ := dr_IsPermutation wc
  have hj := laws_FnPermutationRanks_j1_ev wm
  refine ev_bind (by unfold spec_DrawPermutationRank.f; exact ev_bind e (ev_some rfl)) ?_
  refine ev_bind (impl_PermutationRank_ev l) (ev_bind (spec_PermutationRank_ev l (by omega)) (ev_neg neq_self (ev_pos rfl (ev_bind0 (show impl_IsPermutation.f l = some (isPermB l) from rfl) (ev_shift ?_)))))
  simp only [laws_FnPermutationRanks.j0]
  by_cases h : isPermB l = true
  · have er : rankPm l = ((rankP l : Int), true) := by unfold rankPm; rw [if_pos h]
    obtain ⟨h12, hp⟩ := isPermB_iff.1 h
    have hlt := rankP_lt l
    have hf := fact_12 h12
    have eat := atL_rankP l.length (idL l.length) l (idL_length _) (idL_lt _) hp
    have e1 : atPm (l.length : Int) (rankP l : Int) = (l, true) := by
      unfold atPm
      rw [if_pos ⟨inR_iff.2 ⟨by omega, by omega⟩, inR_iff.2 ⟨by omega, by simp only [Int.toNat_natCast]; omega⟩⟩]
      simp only [Int.toNat_natCast, eat]
    have e2 : nextPm l = atPm (l.length : Int) ((rankP l : Int) + 1) := by unfold nextPm; rw [if_pos h]
    have hlen := atPm_len (l.length : Int) ((rankP l : Int) + 1)
    rw [er, h]
    refine ev_neg (by simp) (ev_pos (by trivial) (ev_bind (impl_PermutationAt_ev _ _) (ev_bind (impl_NextPermutation_ev l (by omega)) ?_)))
    dsimp only
    rw [w64 (by omega) (by omega)]
    refine ev_bind (impl_PermutationAt_ev _ _) ?_
    rw [e1, e2]
    refine ev_pos rfl (ev_bind (laws_uSame_ev l (by omega)) (ev_pos rfl (ev_neg neq_self (ev_bind (laws_uSame_ev _ (by omega)) (ev_pos rfl ?_)))))
    by_cases hn : rankP l + 1 < fact l.length
    · have e3 : atPm (l.length : Int) ((rankP l : Int) + 1) = (atL l.length (idL l.length) (rankP l + 1), true) := by
        unfold atPm
        rw [if_pos ⟨inR_iff.2 ⟨by omega, by omega⟩, inR_iff.2 ⟨by omega, by simp only [Int.toNat_natCast]; omega⟩⟩]
        simp only [Int.toNat_natCast, show ((rankP l : Int) + 1).toNat = rankP l + 1 by omega]
      have hlex := atL_lex l.length (idL l.length) (rankP l) (rankP l + 1) (idL_length _) (idL_lt _) (by omega) hn
      rw [eat] at hlex
      rw [e3]
      refine ev_pos rfl (ev_bind (laws_uLess_ev l _ (by omega) (by rw [atL_length])) ?_)
      rw [hlex]
      exact ev_pos rfl hj
    · have e3 : atPm (l.length : Int) ((rankP l : Int) + 1) = ([], false) := by
        unfold atPm
        rw [if_neg (fun c => by have := inR_iff.1 c.2; simp only [Int.toNat_natCast] at this; omega)]
      rw [e3]
      exact ev_neg (by simp) hj
  · have er : rankPm l = (0, false) := by unfold rankPm; rw [if_neg h]
    simp only [Bool.not_eq_true] at h
    rw [er, h]
    exact ev_neg (by simp) (ev_neg (by simp) hj)

end Go.Proofs.Ytnhifbopicjicaa.Pure
