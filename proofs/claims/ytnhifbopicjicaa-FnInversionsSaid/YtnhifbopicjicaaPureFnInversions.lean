/- The law FnInversions returns true for every two lists of bytes (reach as the row says); no condition of ours. -/
import Derived.Test.YtnhifbopicjicaaQFnInversionsx6
import Derived.Test.YtnhifbopicjicaaMth
import Derived.Test.YtnhifbopicjicaaMthInvs
import Derived.Test.YtnhifbopicjicaaMthPerm
import Derived.Test.YtnhifbopicjicaaMthPermAt
import Derived.Test.YtnhifbopicjicaaMthPermRank
set_option linter.unusedVariables false
set_option linter.unusedSimpArgs false
namespace Go.Proofs.Ytnhifbopicjicaa.Pure
open Go.RowKit Go.Proofs.Ytnhifbopicjicaa.Mth Go.Proofs.Ytnhifbopicjicaa.PFnInversions Go.Proofs.YtnhifbopicjicaaW.PrintWords Go.Proofs.YtnhifbopicjicaaW.PrintLast

theorem wrapU (n : Int) : IntKind.u64.wrap n = n % 18446744073709551616 := by simp [IntKind.wrap, IntKind.bits, IntKind.signed]
def wfB (c : List Int) : Prop := c.length ≤ 1048576 ∧ ∀ x ∈ c, 0 ≤ x ∧ x ≤ 255
theorem wfB_of {c : List Int} (h0 : c.length ≤ 1048576) (h : ∀ x ∈ c, (Lit.int .u8 x).wf = true) : wfB c := by
  refine ⟨h0, fun x hx => ?_⟩
  have := h x hx
  simp only [Lit.wf, Bool.and_eq_true, decide_eq_true_eq] at this
  have e0 : IntKind.min .u8 = 0 := by decide
  have e1 : IntKind.max .u8 = 255 := by decide
  omega
theorem byte_of (x : Int) : 0 ≤ wrap64 (Go.bits .and .u64 ((IntKind.u64.wrap x) / 1099511627776) 255) ∧ wrap64 (Go.bits .and .u64 ((IntKind.u64.wrap x) / 1099511627776) 255) ≤ 255 := by
  have h1 : 0 ≤ IntKind.u64.wrap x / 1099511627776 ∧ IntKind.u64.wrap x / 1099511627776 < 2 ^ 24 := by rw [wrapU]; omega
  have h2 := Go.bits_mask .u64 24 (by decide) (fun n a b => by rw [wrapU]; omega) 8 (by decide) _ h1.1 h1.2
  have h3 : Go.bits .and .u64 ((IntKind.u64.wrap x) / 1099511627776) 255 = (IntKind.u64.wrap x) / 1099511627776 % 2 ^ 8 := h2
  rw [h3, w64 (by omega) (by omega)]
  omega
theorem dr_next {c : List Int} (hc : wfB c) {a : Int} (s : Int) (h0 : 0 ≤ a) (h1 : a ≤ 4000000000000000000) : ∃ r s', spec_l1Cur_next.f c a s = some (r, a + 1, s') ∧ 0 ≤ r ∧ r ≤ 255 := by
  have hl := hc.1
  unfold spec_l1Cur_next.f
  have e : wrap64 (a + 1) = a + 1 := w64 (by omega) (by omega)
  rw [e]
  by_cases h : a < (c.length : Int)
  · rw [if_pos h, if_pos h0, if_pos (by omega)]
    obtain ⟨n, rfl⟩ := Int.eq_ofNat_of_zero_le h0
    have hm := hc.2 _ (rd_mem (l := c) (j := n) (by omega))
    exact ⟨_, _, rfl, by rw [w64 (by omega) (by omega)]; omega, by rw [w64 (by omega) (by omega)]; omega⟩
  · rw [if_neg h, if_neg (by omega)]
    exact ⟨_, _, rfl, (byte_of _).1, (byte_of _).2⟩
theorem dr_pick {c : List Int} (hc : wfB c) {a : Int} (s n : Int) (h0 : 0 ≤ a) (h1 : a ≤ 3999999999999999999) : ∃ r a' s', spec_l1Cur_pick.f c a s n = some (r, a', s') ∧ a ≤ a' ∧ a' ≤ a + 2 ∧ 0 ≤ r ∧ (n ≤ 1 → r = 0) ∧ (1 < n → r < n) := by
  unfold spec_l1Cur_pick.f
  by_cases hn : n ≤ 1
  · rw [if_pos hn]
    exact ⟨0, a, s, rfl, by omega, by omega, by omega, fun _ => rfl, fun h => by omega⟩
  · rw [if_neg hn]
    obtain ⟨x, s1, e1, x0, x1⟩ := dr_next hc s h0 (by omega)
    rw [e1]
    simp only [Option.bind_some]
    by_cases hb : n > 200
    · rw [if_pos hb]
      obtain ⟨y, s2, e2, y0, y1⟩ := dr_next hc s1 (a := a + 1) (by omega) (by omega)
      rw [e2]
      simp only [Option.bind_some]
      rw [if_neg (by omega), w64 (x := x * 256) (by omega) (by omega), w64 (by omega) (by omega)]
      rw [Int.tmod_eq_emod_of_nonneg (by omega)]
      have g0 := Int.emod_nonneg (x * 256 + y) (b := n) (by omega)
      have g1 := Int.emod_lt_of_pos (x * 256 + y) (b := n) (by omega)
      exact ⟨_, _, _, rfl, by omega, by omega, g0, fun h => by omega, fun _ => g1⟩
    · rw [if_neg hb, if_neg (by omega)]
      rw [Int.tmod_eq_emod_of_nonneg (by omega)]
      have g0 := Int.emod_nonneg x (b := n) (by omega)
      have g1 := Int.emod_lt_of_pos x (b := n) (by omega)
      exact ⟨_, _, _, rfl, by omega, by omega, g0, fun h => by omega, fun _ => g1⟩
theorem laws_big_eq (c m : List Int) (hc : ∀ x ∈ c, (Lit.int .u8 x).wf = true) (hm : ∀ x ∈ m, (Lit.int .u8 x).wf = true) (hl : c.length ≤ 9000000000000000000) : laws_big.f c m = some true ∨ (laws_big.f c m = some false ∧ wfB c ∧ wfB m) := by
  unfold laws_big.f
  by_cases h : (c.length : Int) > 1048576
  · exact .inl (if_pos h)
  · rw [if_neg h, w64 (by omega) (by omega)]
    by_cases h2 : (m.length : Int) > 1048576 - (c.length : Int)
    · rw [decide_eq_true h2]; exact .inl rfl
    · rw [decide_eq_false h2]; exact .inr ⟨rfl, wfB_of (by omega) hc, wfB_of (by omega) hm⟩
theorem dr_one {c : List Int} (hc : wfB c) {a : Int} (s n : Int) (h0 : 0 ≤ a) (h1 : a ≤ 3999999999999999999) : ∃ r a' s', spec_l1Cur_one.f c a s n = some (r, a', s') ∧ a ≤ a' ∧ a' ≤ a + 2 := by
  unfold spec_l1Cur_one.f
  obtain ⟨r, a', s', e, h2, h3, _⟩ := dr_pick hc s n h0 h1
  rw [e]
  exact ⟨_, _, _, rfl, h2, h3⟩
theorem dr_among {c : List Int} (hc : wfB c) {a : Int} (s : Int) (l : List Int) (hl : 0 < l.length) (h0 : 0 ≤ a) (h1 : a ≤ 3999999999999999999) : ∃ r a' s', spec_l1Cur_among.f c a s l = some (r, a', s') ∧ a ≤ a' ∧ a' ≤ a + 2 ∧ r ∈ l := by
  unfold spec_l1Cur_among.f
  obtain ⟨r, a', s', e, h2, h3, h4, h5, h6⟩ := dr_pick hc s (l.length : Int) h0 h1
  rw [e]
  simp only [Option.bind_some]
  have hr : r < (l.length : Int) := by
    by_cases h : (l.length : Int) ≤ 1
    · have := h5 h; omega
    · exact h6 (by omega)
  rw [if_pos h4, if_pos hr]
  obtain ⟨n, rfl⟩ := Int.eq_ofNat_of_zero_le h4
  exact ⟨_, _, _, rfl, h2, h3, rd_mem (by omega)⟩
theorem dr_items {c : List Int} (hc : wfB c) {a : Int} (s : Int) (h0 : 0 ≤ a) (h1 : a ≤ 3999999999999999000) : ∃ r a' s', spec_l1Cur_items.f c a s = some (r, a', s') ∧ a ≤ a' ∧ a' ≤ a + 4 ∧ -1 ≤ r ∧ r ≤ 13 := by
  unfold spec_l1Cur_items.f
  obtain ⟨r, a', s', e, h2, h3⟩ := dr_one hc s 15 h0 (by omega)
  rw [e]
  simp only [Option.bind_some]
  cases r
  · rw [if_neg (by decide)]
    obtain ⟨r, a1, s1, e, g2, g3, g4, g5, g6⟩ := dr_pick hc s' 9 (a := a') (by omega) (by omega)
    rw [e]
    have := g6 (by decide)
    exact ⟨_, _, _, rfl, by dsimp only; omega, by dsimp only; omega, by dsimp only; omega, by dsimp only; omega⟩
  · rw [if_pos rfl]
    obtain ⟨r, a1, s1, e, g2, g3, g4⟩ := dr_among hc s' [-1, 0, 12, 13] (by decide) (a := a') (by omega) (by omega)
    rw [e]
    simp only [List.mem_cons, List.not_mem_nil, or_false] at g4
    exact ⟨_, _, _, rfl, by dsimp only; omega, by dsimp only; omega, by dsimp only; omega, by dsimp only; omega⟩
theorem spec_l1Least_eq (a b : Int) : spec_l1Least.f a b = some (if a < b then a else b) := by
  unfold spec_l1Least.f
  split <;> rfl
theorem dr_order_j1 {c : List Int} (hc : wfB c) (l : List Int) (b : Bool) (hb : b = true → 0 < l.length) (hl : l.length ≤ 30) {a : Int} (s : Int) (h0 : 0 ≤ a) (h1 : a ≤ 3999999999999999000) : ∃ l' a' s', Ev (fun k => spec_l1Cur_order.j1 k l b c a s) (l', a', s') ∧ a ≤ a' ∧ a' ≤ a + 4 ∧ l'.length = l.length := by
  cases b
  · refine ⟨l, a, s, ev_shift ?_, by omega, by omega, rfl⟩
    simp only [spec_l1Cur_order.j1]
    exact ev_neg Bool.false_ne_true (ev_some rfl)
  · have hp := hb rfl
    obtain ⟨y, a1, s1, e1, u1, u2, u3, u4, u5⟩ := dr_pick hc s (l.length : Int) h0 (by omega)
    have hy : y < (l.length : Int) := by
      by_cases h : (l.length : Int) ≤ 1
      · have := u4 h; omega
      · exact u5 (by omega)
    obtain ⟨z, a2, s2, e2, v1, v2, _⟩ := dr_among hc s1 [-1, 0, (l.length : Int), 4611686018427387904] (by simp) (a := a1) (by omega) (by omega)
    refine ⟨l.set y.toNat z, a2, s2, ev_shift ?_, by omega, by omega, by simp⟩
    simp only [spec_l1Cur_order.j1]
    exact ev_pos (by trivial) (ev_bind0 e1 (ev_bind0 e2 (ev_pos u3 (ev_pos hy (ev_some rfl)))))
theorem dr_order_l0 {c : List Int} (hc : wfB c) (n : Int) (m : Nat) : ∀ (x : Nat) (l : List Int) (a s : Int), m + x = 20 → l.length = x → 0 ≤ a → a + 2 * (m : Int) ≤ 3999999999999990000 → ∃ l' a' s', Ev (fun k => spec_l1Cur_order.l0 k n l (x : Int) c a s) (l', a', s') ∧ a ≤ a' ∧ a' ≤ a + 2 * (m : Int) + 8 ∧ l'.length ≤ 20 := by
  have fin : ∀ (x : Nat) (l : List Int) (a s : Int), x ≤ 20 → l.length = x → 0 ≤ a → a ≤ 3999999999999990000 → ¬ (x : Int) < (if n < 20 then n else 20) → ∃ l' a' s', Ev (fun k => spec_l1Cur_order.l0 k n l (x : Int) c a s) (l', a', s') ∧ a ≤ a' ∧ a' ≤ a + 8 ∧ l'.length ≤ 20 := by
    intro x l a s hx hl h0 h1 hn
    by_cases hp : (l.length : Int) > 0
    · obtain ⟨y, a1, s1, e1, u1, u2⟩ := dr_one hc s 25 h0 (by omega)
      obtain ⟨l', a', s', g1, g2, g3, g4⟩ := dr_order_j1 hc l y (fun _ => by omega) (by omega) s1 (a := a1) (by omega) (by omega)
      refine ⟨l', a', s', ev_shift ?_, by omega, by omega, by omega⟩
      simp only [spec_l1Cur_order.l0]
      exact ev_bind0 (spec_l1Least_eq _ _) (ev_neg hn (ev_pos hp (ev_bind0 e1 g1)))
    · obtain ⟨l', a', s', g1, g2, g3, g4⟩ := dr_order_j1 hc l false (fun h => by cases h) (by omega) s (a := a) (by omega) (by omega)
      refine ⟨l', a', s', ev_shift ?_, by omega, by omega, by omega⟩
      simp only [spec_l1Cur_order.l0]
      exact ev_bind0 (spec_l1Least_eq _ _) (ev_neg hn (ev_neg hp g1))
  induction m with
  | zero =>
    intro x l a s hm hl h0 h1
    obtain ⟨l', a', s', g1, g2, g3, g4⟩ := fin x l a s (by omega) hl h0 (by omega) (by split <;> omega)
    exact ⟨l', a', s', g1, g2, by omega, g4⟩
  | succ m ih =>
    intro x l a s hm hl h0 h1
    by_cases hx : (x : Int) < (if n < 20 then n else 20)
    · have ew : wrap64 ((x : Int) + 1) = ((x + 1 : Nat) : Int) := by rw [w64 (by omega) (by omega)]; omega
      obtain ⟨y, a1, s1, e1, u1, u2, u3, u4, u5⟩ := dr_pick hc s ((x + 1 : Nat) : Int) h0 (by omega)
      have hy : y ≤ (l.length : Int) := by
        by_cases h : ((x + 1 : Nat) : Int) ≤ 1
        · have := u4 h; omega
        · have := u5 (by omega); omega
      obtain ⟨l', a', s', g1, g2, g3, g4⟩ := ih (x + 1) ([] ++ l.take y.toNat ++ [(x : Int)] ++ l.drop y.toNat) a1 s1 (by omega) (by simp only [List.length_append, List.length_take, List.length_drop, List.length_cons, List.length_nil]; omega) (by omega) (by omega)
      refine ⟨l', a', s', ev_shift ?_, by omega, by omega, g4⟩
      simp only [spec_l1Cur_order.l0, ew]
      refine ev_bind0 (spec_l1Least_eq _ _) (ev_pos hx (ev_bind0 e1 (ev_bind0 rfl (ev_pos u3 (ev_pos hy (ev_bind0 rfl (ev_pos ?_ (ev_bind0 rfl (ev_pos ?_ (ev_bind0 rfl (ev_bind0 rfl (ev_pos ?_ g1)))))))))))) <;> (simp only [List.length_append, List.length_take, List.length_drop, List.length_cons, List.length_nil]; omega)
    · obtain ⟨l', a', s', g1, g2, g3, g4⟩ := fin x l a s (by omega) hl h0 (by omega) hx
      exact ⟨l', a', s', g1, g2, by omega, g4⟩
theorem dr_order {c : List Int} (hc : wfB c) (n a s : Int) (h0 : 0 ≤ a) (h1 : a ≤ 3999999999999980000) : ∃ l' a' s', Ev (fun k => spec_l1Cur_order.f k c a s n) (l', a', s') ∧ a ≤ a' ∧ a' ≤ a + 60 ∧ l'.length ≤ 20 := by
  obtain ⟨l', a', s', g1, g2, g3, g4⟩ := dr_order_l0 hc n 20 0 [] a s rfl rfl h0 (by omega)
  exact ⟨l', a', s', g1, by omega, by omega, g4⟩
theorem dr_IsPermutation {c : List Int} (hc : wfB c) : ∃ l, Ev (fun j => spec_DrawIsPermutation.f j c) l ∧ l.length ≤ 20 := by
  unfold spec_DrawIsPermutation.f
  obtain ⟨n, a1, s1, e1, u1, u2, u3, u4⟩ := dr_items hc 0 (a := 0) (by decide) (by decide)
  obtain ⟨l, a2, s2, e2, v1, v2, v3⟩ := dr_order hc n a1 s1 (by omega) (by omega)
  exact ⟨l, ev_bind0 e1 (ev_bind e2 (ev_some rfl)), v3⟩
theorem spec_l1Most_eq (a b : Int) : spec_l1Most.f a b = some (if a > b then a else b) := by
  unfold spec_l1Most.f
  split <;> rfl
theorem dr_FromInversions_l0 {c : List Int} (hc : wfB c) (m : Nat) : ∀ (x : Nat) (l : List Int) (a s : Int), m + x = 14 → l.length ≤ x → 0 ≤ a → a + 10 * (m : Int) ≤ 3999999999999990000 → ∃ l', Ev (fun k => spec_DrawFromInversions.l0 k l (x : Int) c a s) l' ∧ l'.length ≤ 20 := by
  induction m with
  | zero =>
    intro x l a s hm hl h0 h1
    obtain ⟨n, a0, s0, e0, t1, t2, t3, t4⟩ := dr_items hc s h0 (by omega)
    obtain ⟨y, a1, s1, e1, u1, u2⟩ := dr_one hc s0 12 (a := a0) (by omega) (by omega)
    have hn : ¬ (x : Int) < (if 0 > n then 0 else n) := by split <;> omega
    cases y
    · refine ⟨l, ev_shift ?_, by omega⟩
      simp only [spec_DrawFromInversions.l0]
      exact ev_bind0 e0 (ev_bind0 (spec_l1Most_eq _ _) (ev_neg hn (ev_bind0 e1 (ev_neg Bool.false_ne_true (ev_some rfl)))))
    · obtain ⟨z, a2, s2, e2, v1, v2, _⟩ := dr_among hc s1 [-1, 0, (l.length : Int), wrap64 ((l.length : Int) + 1)] (by simp) (a := a1) (by omega) (by omega)
      refine ⟨l ++ [z], ev_shift ?_, by simp; omega⟩
      simp only [spec_DrawFromInversions.l0]
      exact ev_bind0 e0 (ev_bind0 (spec_l1Most_eq _ _) (ev_neg hn (ev_bind0 e1 (ev_pos rfl (ev_bind0 e2 (ev_pos (by omega) (ev_some rfl)))))))
  | succ m ih =>
    intro x l a s hm hl h0 h1
    obtain ⟨n, a0, s0, e0, t1, t2, t3, t4⟩ := dr_items hc s h0 (by omega)
    by_cases hn : (x : Int) < (if 0 > n then 0 else n)
    · have ew : wrap64 ((x : Int) + 1) = ((x + 1 : Nat) : Int) := by rw [w64 (by omega) (by omega)]; omega
      obtain ⟨y, a1, s1, e1, u1, u2, _⟩ := dr_pick hc s0 ((x + 1 : Nat) : Int) (a := a0) (by omega) (by omega)
      obtain ⟨l', g1, g2⟩ := ih (x + 1) (l ++ [y]) a1 s1 (by omega) (by simp; omega) (by omega) (by omega)
      refine ⟨l', ev_shift ?_, g2⟩
      simp only [spec_DrawFromInversions.l0, ew]
      exact ev_bind0 e0 (ev_bind0 (spec_l1Most_eq _ _) (ev_pos hn (ev_bind0 e1 (ev_pos (by omega) g1))))
    · obtain ⟨y, a1, s1, e1, u1, u2⟩ := dr_one hc s0 12 (a := a0) (by omega) (by omega)
      cases y
      · refine ⟨l, ev_shift ?_, by omega⟩
        simp only [spec_DrawFromInversions.l0]
        exact ev_bind0 e0 (ev_bind0 (spec_l1Most_eq _ _) (ev_neg hn (ev_bind0 e1 (ev_neg Bool.false_ne_true (ev_some rfl)))))
      · obtain ⟨z, a2, s2, e2, v1, v2, _⟩ := dr_among hc s1 [-1, 0, (l.length : Int), wrap64 ((l.length : Int) + 1)] (by simp) (a := a1) (by omega) (by omega)
        refine ⟨l ++ [z], ev_shift ?_, by simp; omega⟩
        simp only [spec_DrawFromInversions.l0]
        exact ev_bind0 e0 (ev_bind0 (spec_l1Most_eq _ _) (ev_neg hn (ev_bind0 e1 (ev_pos rfl (ev_bind0 e2 (ev_pos (by omega) (ev_some rfl)))))))
theorem dr_FromInversions {c : List Int} (hc : wfB c) : ∃ l, Ev (fun j => spec_DrawFromInversions.f j c) l ∧ l.length ≤ 20 := dr_FromInversions_l0 hc 14 0 [] 0 0 rfl (by simp) (by decide) (by decide)
theorem spec_l1In_eq (a b c : Int) : spec_l1In.f a b c = some (inR a b c) := in_ite a b c
theorem spec_l1Has_ev (l : List Int) (x : Int) (hl : l.length ≤ 9000000000000000000) : Ev (fun k => spec_l1Has.f k l x) (l.contains x) := by
  refine range_all hl (fun pre suf => Ev (fun k => spec_l1Has.l0 k x l (l.length : Int) (pre.length : Int)) (suf.contains x)) ?_ ?_
  · refine ev_shift ?_
    simp only [spec_l1Has.l0]
    exact ev_neg (by omega) (ev_some rfl)
  · intro pre y suf h hx h1 h2 h3 ih
    refine ev_shift ?_
    simp only [spec_l1Has.l0, hx, h3]
    refine ev_pos h1 (ev_pos h2 (ev_pos h1 ?_))
    by_cases e : y = x
    · exact ev_pos e (ev_some (by simp [e]))
    · refine ev_neg e ?_
      have : (y :: suf).contains x = suf.contains x := by simp [Ne.symm e]
      rw [this]; exact ih
theorem spec_raPermutation_ev (l : List Int) (hl : l.length ≤ 9000000000000000000) : Ev (fun k => spec_raPermutation.f k l) (isPermB l) := by
  rw [← raPerm_eq]
  have key : ∀ suf pre, l = pre ++ suf → pre.length ≤ 12 → Ev (fun k => spec_raPermutation.l0 k l l (l.length : Int) (pre.length : Int)) (decide (l.length ≤ 12) && raPermF (l.length : Int) pre suf) := by
    refine range_ind hl (fun pre suf => pre.length ≤ 12 → Ev (fun k => spec_raPermutation.l0 k l l (l.length : Int) (pre.length : Int)) (decide (l.length ≤ 12) && raPermF (l.length : Int) pre suf)) ?_ ?_
    · intro hp
      refine ev_shift ?_
      simp only [spec_raPermutation.l0]
      exact ev_neg (by omega) (ev_some (by rw [decide_eq_true hp]; rfl))
    · intro pre x suf h hx h1 h2 h3 ih hp
      have htake : l.take (pre.length : Int).toNat = pre := by rw [h, Int.toNat_natCast, List.take_left' rfl]
      refine ev_shift ?_
      simp only [spec_raPermutation.l0, hx, h3, htake]
      rw [w64 (by omega) (by omega)]
      refine ev_pos h1 (ev_pos h2 (ev_pos h1 ?_))
      by_cases h12 : pre.length < 12
      · refine ev_neg (by omega) (ev_bind0 (spec_l1In_eq _ _ _) ?_)
        simp only [raPermF]
        cases hr : inR x 0 ((l.length : Int) - 1) with
        | false => exact ev_neg (by simp) (ev_some (by simp))
        | true =>
          refine ev_pos rfl (ev_pos (by omega) (ev_bind (spec_l1Has_ev pre x (by omega)) ?_))
          cases hc : pre.contains x with
          | true => exact ev_pos rfl (ev_some (by simp))
          | false =>
            refine ev_neg (by simp) ?_
            have := ih (by simp; omega)
            simpa using this
      · refine ev_pos (by omega) (ev_some ?_)
        rw [decide_eq_false (by omega)]; rfl
  exact key l [] rfl (by simp)
theorem spec_raInversions_l1 (l : List Int) (hl : l.length ≤ 12) (out : List Int) (x : Int) (i : Nat) (ys : List Int) (hys : ys.length ≤ 12) (ho : out.length ≤ 12) (R : List Int)
    (hk : Ev (fun k => spec_raInversions.l0 k l (out ++ [(cntGt x ys : Int)]) l (l.length : Int) (wrap64 ((i : Int) + 1))) R) :
    ∀ suf pre, ys = pre ++ suf → ∀ c : Nat, c + cntGt x suf = cntGt x ys → c ≤ 100 → Ev (fun k => spec_raInversions.l1 k l out x (c : Int) l (l.length : Int) (i : Int) ys (ys.length : Int) (pre.length : Int)) R := by
  refine range_ind (by omega) (fun pre suf => ∀ c : Nat, c + cntGt x suf = cntGt x ys → c ≤ 100 → Ev (fun k => spec_raInversions.l1 k l out x (c : Int) l (l.length : Int) (i : Int) ys (ys.length : Int) (pre.length : Int)) R) ?_ ?_
  · intro c hc _
    refine ev_shift ?_
    simp only [spec_raInversions.l1]
    have : c = cntGt x ys := by simpa [cntGt_nil, cntGt_cons] using hc
    subst this
    exact ev_neg (by omega) (ev_pos (by omega) hk)
  · intro pre y suf h hx h1 h2 h3 ihl c hc hc2
    have hct := cntGt_le x ys
    refine ev_shift ?_
    simp only [spec_raInversions.l1, hx, h3]
    refine ev_pos h1 (ev_pos h2 (ev_pos h1 ?_))
    simp only [cntGt_nil, cntGt_cons] at hc
    by_cases hy : y > x
    · rw [if_pos hy] at hc
      refine ev_pos hy ?_
      have e3 : wrap64 ((c : Int) + 1) = ((c + 1 : Nat) : Int) := by rw [w64 (by omega) (by omega)]; omega
      rw [e3]; clear e3 h3
      exact ihl (c + 1) (by omega) (by omega)
    · rw [if_neg hy] at hc
      clear h3
      exact ev_neg hy (ihl c (by omega) hc2)
theorem spec_raInversions_ev (l : List Int) (hl : l.length ≤ 12) : Ev (fun k => spec_raInversions.f k l) (invF [] l) := by
  have key : ∀ suf pre, l = pre ++ suf → ∀ out : List Int, out.length = pre.length → Ev (fun k => spec_raInversions.l0 k l out l (l.length : Int) (pre.length : Int)) (out ++ invF pre suf) := by
    refine range_ind (by omega) (fun pre suf => ∀ out : List Int, out.length = pre.length → Ev (fun k => spec_raInversions.l0 k l out l (l.length : Int) (pre.length : Int)) (out ++ invF pre suf)) ?_ ?_
    · intro out _
      refine ev_shift ?_
      simp only [spec_raInversions.l0]
      exact ev_neg (by omega) (ev_some (by simp [invF]))
    · intro pre x suf h hx h1 h2 h3 ihl out ho
      have hlen : l.length = pre.length + suf.length + 1 := by rw [h]; simp; omega
      have htake : l.take (pre.length : Int).toNat = pre := by rw [h, Int.toNat_natCast, List.take_left' rfl]
      refine ev_shift ?_
      simp only [spec_raInversions.l0, hx, htake]
      refine ev_pos h1 (ev_pos h2 (ev_pos h1 (ev_pos (by omega) ?_)))
      refine spec_raInversions_l1 l hl out x pre.length pre (by omega) (by omega) _ ?_ pre [] rfl 0 (by omega) (by omega)
      rw [h3]
      have := ihl (out ++ [(cntGt x pre : Int)]) (by simp [ho])
      simpa [invF] using this
  have := key l [] rfl [] rfl
  simpa [spec_raInversions.f] using this
theorem impl_inversions_l1 (l : List Int) (hl : l.length ≤ 12) (out : List Int) (x : Int) (i : Nat) (ys : List Int) (hys : ys.length ≤ 12) (ho : out.length ≤ 12) (R : List Int)
    (hk : Ev (fun k => impl_inversions.l0 k l (out ++ [(cntGt x ys : Int)]) l (l.length : Int) (wrap64 ((i : Int) + 1))) R) :
    ∀ suf pre, ys = pre ++ suf → ∀ c : Nat, c + cntGt x suf = cntGt x ys → c ≤ 100 → Ev (fun k => impl_inversions.l1 k l out x (c : Int) l (l.length : Int) (i : Int) ys (ys.length : Int) (pre.length : Int)) R := by
  refine range_ind (by omega) (fun pre suf => ∀ c : Nat, c + cntGt x suf = cntGt x ys → c ≤ 100 → Ev (fun k => impl_inversions.l1 k l out x (c : Int) l (l.length : Int) (i : Int) ys (ys.length : Int) (pre.length : Int)) R) ?_ ?_
  · intro c hc _
    refine ev_shift ?_
    simp only [impl_inversions.l1]
    have : c = cntGt x ys := by simpa [cntGt_nil, cntGt_cons] using hc
    subst this
    exact ev_neg (by omega) (ev_pos (by omega) hk)
  · intro pre y suf h hx h1 h2 h3 ihl c hc hc2
    have hct := cntGt_le x ys
    refine ev_shift ?_
    simp only [impl_inversions.l1, hx, h3]
    refine ev_pos h1 (ev_pos h2 (ev_pos h1 ?_))
    simp only [cntGt_nil, cntGt_cons] at hc
    by_cases hy : y > x
    · rw [if_pos hy] at hc
      refine ev_pos hy ?_
      have e3 : wrap64 ((c : Int) + 1) = ((c + 1 : Nat) : Int) := by rw [w64 (by omega) (by omega)]; omega
      rw [e3]; clear e3 h3
      exact ihl (c + 1) (by omega) (by omega)
    · rw [if_neg hy] at hc
      clear h3
      exact ev_neg hy (ihl c (by omega) hc2)
theorem impl_inversions_ev (l : List Int) (hl : l.length ≤ 12) : Ev (fun k => impl_inversions.f k l) (invF [] l) := by
  have key : ∀ suf pre, l = pre ++ suf → ∀ out : List Int, out.length = pre.length → Ev (fun k => impl_inversions.l0 k l out l (l.length : Int) (pre.length : Int)) (out ++ invF pre suf) := by
    refine range_ind (by omega) (fun pre suf => ∀ out : List Int, out.length = pre.length → Ev (fun k => impl_inversions.l0 k l out l (l.length : Int) (pre.length : Int)) (out ++ invF pre suf)) ?_ ?_
    · intro out _
      refine ev_shift ?_
      simp only [impl_inversions.l0]
      exact ev_neg (by omega) (ev_some (by simp [invF]))
    · intro pre x suf h hx h1 h2 h3 ihl out ho
      have hlen : l.length = pre.length + suf.length + 1 := by rw [h]; simp; omega
      have htake : l.take (pre.length : Int).toNat = pre := by rw [h, Int.toNat_natCast, List.take_left' rfl]
      refine ev_shift ?_
      simp only [impl_inversions.l0, hx, htake]
      refine ev_pos h1 (ev_pos h2 (ev_pos h1 (ev_pos (by omega) ?_)))
      refine impl_inversions_l1 l hl out x pre.length pre (by omega) (by omega) _ ?_ pre [] rfl 0 (by omega) (by omega)
      rw [h3]
      have := ihl (out ++ [(cntGt x pre : Int)]) (by simp [ho])
      simpa [invF] using this
  have := key l [] rfl [] rfl
  simpa [impl_inversions.f] using this
theorem impl_sign_ev (l : List Int) (hl : l.length ≤ 12) : Ev (fun k => impl_sign.f k l) (if sumZ (invF [] l) % 2 = 1 then -1 else 1) := by
  unfold impl_sign.f
  refine ev_bind (impl_inversions_ev l hl) ?_
  obtain ⟨ys, hys⟩ : ∃ ys, ys = invF [] l := ⟨_, rfl⟩
  have hyl : ys.length ≤ 12 := by rw [hys, invF_length]; exact hl
  have hyr : ∀ c ∈ ys, 0 ≤ c ∧ c ≤ 12 := fun c hc => by rw [hys] at hc; have := invF_range l [] c hc; simp at this; omega
  rw [← hys]
  have hs := sumZ_range ys 12 hyr
  have key : ∀ suf pre, ys = pre ++ suf → ∀ acc : Int, 0 ≤ acc → acc + sumZ suf = sumZ ys → Ev (fun k => impl_sign.l0 k acc ys (ys.length : Int) (pre.length : Int)) (if sumZ ys % 2 = 1 then -1 else 1) := by
    refine range_ind (by omega) (fun pre suf => ∀ acc : Int, 0 ≤ acc → acc + sumZ suf = sumZ ys → Ev (fun k => impl_sign.l0 k acc ys (ys.length : Int) (pre.length : Int)) (if sumZ ys % 2 = 1 then -1 else 1)) ?_ ?_
    · intro acc h0 ha
      simp only [sumZ] at ha
      refine ev_shift ?_
      simp only [impl_sign.l0]
      rw [Int.tmod_eq_emod_of_nonneg h0, w64 (x := 2 * (acc % 2)) (by omega) (by omega), w64 (x := 1 - 2 * (acc % 2)) (by omega) (by omega)]
      refine ev_neg (by omega) (ev_some ?_)
      have : acc = sumZ ys := by omega
      rw [this]
      by_cases h2 : sumZ ys % 2 = 1
      · rw [if_pos h2, h2]; rfl
      · rw [if_neg h2, show sumZ ys % 2 = 0 by omega]; rfl
    · intro pre x suf h hx h1 h2 h3 ihl acc h0 ha
      simp only [sumZ] at ha
      have hx0 := hyr x (by rw [h]; simp)
      have hs2 := sumZ_range suf 12 (fun c hc => hyr c (by rw [h]; simp [hc]))
      have hsl : suf.length ≤ 12 := by rw [h] at hyl; simp at hyl; omega
      refine ev_shift ?_
      simp only [impl_sign.l0, hx, h3]
      rw [w64 (by omega) (by omega)]
      exact ev_pos h1 (ev_pos h2 (ev_pos h1 (ihl (acc + x) (by omega) (by omega))))
  exact key ys [] rfl 0 (by omega) (by omega)
theorem impl_InverseOf_ev (l : List Int) : Ev (fun k => impl_InverseOf.f k l) (invsPm l) := by
  unfold impl_InverseOf.f invsPm
  refine ev_bind0 (g := impl_IsPermutation.f l) rfl ?_
  by_cases h : isPermB l = true
  · have h' := isPermB_iff'.1 h
    rw [if_pos h]
    refine ev_pos h (ev_pos (by omega) (ev_pos (by omega) ?_))
    rw [Int.toNat_natCast]
    have key : ∀ suf pre, l = pre ++ suf → ∀ out : List Int, out.length = l.length → Ev (fun k => impl_InverseOf.l0 k out l (l.length : Int) (pre.length : Int)) (setAll out pre.length suf, true) := by
      refine range_ind (by omega) (fun pre suf => ∀ out : List Int, out.length = l.length → Ev (fun k => impl_InverseOf.l0 k out l (l.length : Int) (pre.length : Int)) (setAll out pre.length suf, true)) ?_ ?_
      · intro out _
        refine ev_shift ?_
        simp only [impl_InverseOf.l0]
        exact ev_neg (by omega) (ev_some rfl)
      · intro pre x suf hh hx h1 h2 h3 ih out ho
        have hr := h'.2.1 x (by rw [hh]; simp)
        refine ev_shift ?_
        simp only [impl_InverseOf.l0, hx, h3]
        refine ev_pos h1 (ev_pos h2 (ev_pos h1 (ev_pos hr.1 (ev_pos (by omega) ?_))))
        have := ih (out.set x.toNat (pre.length : Int)) (by simp [ho])
        simpa [setAll] using this
    exact key l [] rfl _ (by simp)
  · rw [if_neg h]
    exact ev_neg h (ev_some rfl)
theorem spec_InversionsOf_ev (l : List Int) (hl : l.length ≤ 9000000000000000000) : Ev (fun k => spec_InversionsOf.f k l) (invPm l) := by
  unfold spec_InversionsOf.f invPm
  refine ev_bind (spec_raPermutation_ev l hl) ?_
  by_cases h : isPermB l = true
  · rw [if_pos h]; exact ev_pos h (ev_bind (spec_raInversions_ev l (isPermB_iff.1 h).1) (ev_some rfl))
  · rw [if_neg h]; exact ev_neg h (ev_some rfl)
theorem impl_InversionsOf_ev (l : List Int) : Ev (fun k => impl_InversionsOf.f k l) (invPm l) := by
  unfold impl_InversionsOf.f invPm
  refine ev_bind0 (g := impl_IsPermutation.f l) rfl ?_
  by_cases h : isPermB l = true
  · rw [if_pos h]; exact ev_pos h (ev_bind (impl_inversions_ev l (isPermB_iff.1 h).1) (ev_some rfl))
  · rw [if_neg h]; exact ev_neg h (ev_some rfl)
theorem impl_SignOf_ev (l : List Int) : Ev (fun k => impl_SignOf.f k l) (signPm l) := by
  unfold impl_SignOf.f signPm
  refine ev_bind0 (g := impl_IsPermutation.f l) rfl ?_
  by_cases h : isPermB l = true
  · rw [if_pos h]; exact ev_pos h (ev_bind (impl_sign_ev l (isPermB_iff.1 h).1) (ev_some rfl))
  · rw [if_neg h]; exact ev_neg h (ev_some rfl)
theorem impl_identity_ev (n : Nat) (h : n ≤ 12) : Ev (fun k => impl_identity.f k (n : Int)) (idL n) := by
  have t : ∀ m : Fin 13, impl_identity.f 20 ((m.1 : Nat) : Int) = some (idL m.1) := by decide +kernel
  exact Ev.of (impl_identity.mono _) (t ⟨n, by omega⟩)
theorem slices_Delete_one (l : List Int) (q : Nat) (h : q < l.length) (hl : l.length ≤ 9000000000000000000) : slices_Delete_int_int.f l (q : Int) (wrap64 ((q : Int) + 1)) = some (l.eraseIdx q) := by
  rw [w64 (by omega) (by omega)]
  unfold slices_Delete_int_int.f
  have e : ((q : Int) + 1).toNat = q + 1 := by omega
  rw [if_pos ⟨by omega, by omega, by omega⟩, List.eraseIdx_eq_take_drop_succ, e, Int.toNat_natCast]
theorem impl_within_eq (a b c : Int) : impl_within.f a b c = some (inR a b c) := in_ite a b c
theorem spec_raUpTo_ev (n : Nat) (h : n ≤ 12) : Ev (fun k => spec_raUpTo.f k (n : Int)) (idL n) := by
  have t : ∀ m : Fin 13, spec_raUpTo.f 20 ((m.1 : Nat) : Int) = some (idL m.1) := by decide +kernel
  exact Ev.of (spec_raUpTo.mono _) (t ⟨n, by omega⟩)
theorem spec_l1Own_eq (l : List Int) (h : l.length < 17592186044416) : spec_l1Own.f l = some l := by
  simp only [spec_l1Own.f, Option.bind_some, List.length_nil, Nat.zero_add, List.nil_append]
  rw [if_pos h]
theorem spec_raWithout_eq (l : List Int) (q : Nat) (h : q < l.length) (hl : l.length ≤ 1000000) : spec_raWithout.f l (q : Int) = some (l.eraseIdx q) := by
  have e : ((q : Int) + 1).toNat = q + 1 := by omega
  have e1 : wrap64 ((q : Int) + 1) = (q : Int) + 1 := w64 (by omega) (by omega)
  have h1 : (0 : Int) ≤ (q : Int) := by omega
  have h2 : (q : Int) ≤ (l.length : Int) := by omega
  have h3 : (l.take (q : Int).toNat).length < 17592186044416 := by rw [List.length_take]; omega
  have h4 : (0 : Int) ≤ (q : Int) + 1 := by omega
  have h5 : (q : Int) + 1 ≤ (l.length : Int) := by omega
  have h6 : (l.take (q : Int).toNat).length + (l.drop ((q : Int) + 1).toNat).length < 17592186044416 := by rw [List.length_take, List.length_drop]; omega
  have e0 := spec_l1Own_eq (l.take (q : Int).toNat) h3
  simp only [spec_raWithout.f, e1]
  rw [if_pos h1, if_pos h2, e0, Option.bind_some, if_pos h4, if_pos h5, if_pos h6, List.eraseIdx_eq_take_drop_succ, e, Int.toNat_natCast]
theorem spec_raItems_eq (a : Int) : spec_raItems.f a = some (inR a 0 12) := by simp only [spec_raItems.f, spec_l1In_eq, Option.bind_some]
theorem set_drop (l : List Int) (m : Nat) (x : Int) (h : m < l.length) : (l.set m x).drop m = x :: l.drop (m + 1) := by
  rw [List.drop_eq_getElem_cons (by simpa using h)]
  simp [List.drop_set]
theorem impl_FromInversions_l1_ev (cs : List Int) (hn : cs.length ≤ 12) (hc : ∀ j, j < cs.length → 0 ≤ cs.getD j 0 ∧ cs.getD j 0 ≤ (j : Int)) : ∀ (m : Nat) (left out : List Int), m ≤ cs.length → left.length = m → out.length = cs.length →
    Ev (fun k => impl_FromInversions.l1 k cs left out ((m : Int) - 1)) (frL m left cs ++ out.drop m, true) := by
  intro m
  induction m with
  | zero =>
    intro left out _ _ _
    refine ev_shift ?_
    simp only [impl_FromInversions.l1]
    exact ev_neg (by omega) (ev_some (by simp [frL]))
  | succ m ih =>
    intro left out hm hl ho
    have hcm := hc m (by omega)
    have e1 : (((m + 1 : Nat) : Int) - 1) = (m : Int) := by omega
    have e2 : wrap64 ((m : Int) - 1) = (m : Int) - 1 := w64 (by omega) (by omega)
    have e3 : wrap64 ((m : Int) - cs.getD m 0) = ((m - (cs.getD m 0).toNat : Nat) : Int) := by rw [w64 (by omega) (by omega)]; omega
    refine ev_shift ?_
    simp only [impl_FromInversions.l1, e1, rd_nat, e2, e3]
    rw [frL]
    obtain ⟨q, hq⟩ : ∃ q, q = m - (cs.getD m 0).toNat := ⟨_, rfl⟩
    have hql : q < left.length := by omega
    rw [← hq]
    clear e1 e2 e3
    refine ev_pos (by omega) (ev_pos (by omega) (ev_pos (by omega) (ev_pos (by omega) (ev_pos (by omega) (ev_pos (by omega) (ev_bind0 (slices_Delete_one left q hql (by omega)) ?_))))))
    have := ih (left.eraseIdx q) (out.set m (left.getD q 0)) (by omega) (by rw [List.length_eraseIdx_of_lt hql, hl]; rfl) (by simpa using ho)
    rw [set_drop out m _ (by omega)] at this
    rw [List.append_assoc]
    exact this
theorem impl_FromInversions_ev (cs : List Int) (hl : cs.length ≤ 9000000000000000000) : Ev (fun k => impl_FromInversions.f k cs) (frPm cs) := by
  unfold impl_FromInversions.f frPm
  by_cases hlen : (cs.length : Int) > 12
  · exact ev_pos hlen (ev_some (by rw [if_neg (fun c => by omega)]))
  refine ev_neg hlen ?_
  have key : ∀ suf pre, cs = pre ++ suf → cntOk 0 cs = cntOk pre.length suf → Ev (fun k => impl_FromInversions.l0 k cs (cs.length : Int) cs (cs.length : Int) (pre.length : Int)) (if cs.length ≤ 12 ∧ cntOk 0 cs = true then (frL cs.length (idL cs.length) cs, true) else ([], false)) := by
    refine range_ind hl (fun pre suf => cntOk 0 cs = cntOk pre.length suf → Ev (fun k => impl_FromInversions.l0 k cs (cs.length : Int) cs (cs.length : Int) (pre.length : Int)) (if cs.length ≤ 12 ∧ cntOk 0 cs = true then (frL cs.length (idL cs.length) cs, true) else ([], false))) ?_ ?_
    · intro hc
      have hc' : cntOk 0 cs = true := hc
      have h2 := cntOk_iff.1 hc'
      rw [if_pos ⟨by omega, hc'⟩]
      refine ev_shift ?_
      simp only [impl_FromInversions.l0]
      refine ev_neg (by omega) (ev_bind (impl_identity_ev _ (by omega)) (ev_pos (by omega) (ev_pos (by omega) ?_)))
      rw [w64 (by omega) (by omega), Int.toNat_natCast]
      have := impl_FromInversions_l1_ev cs (by omega) (fun j hj => by have := h2 j hj; omega) cs.length (idL cs.length) (List.replicate cs.length 0) (Nat.le_refl _) (idL_length _) (by simp)
      simpa using this
    · intro pre x suf h hx h1 h2 h3 ih hc
      refine ev_shift ?_
      simp only [impl_FromInversions.l0, hx, h3]
      refine ev_pos h1 (ev_pos h2 (ev_pos h1 (ev_bind0 (impl_within_eq _ _ _) ?_)))
      simp only [cntOk] at hc
      cases hr : inR x 0 (pre.length : Int) with
      | false =>
        rw [hr, Bool.false_and] at hc
        refine ev_neg (by simp) (ev_some ?_)
        rw [if_neg (fun c => by rw [hc] at c; cases c.2)]
      | true =>
        rw [hr, Bool.true_and] at hc
        exact ev_pos rfl (ih (by rw [hc]; simp))
  exact key cs [] rfl rfl
theorem spec_FromInversions_l0_ev (cs : List Int) (hn : cs.length ≤ 12) : ∀ (m : Nat) (items out : List Int), m ≤ cs.length → items.length = m → out.length + m ≤ 12 →
    Ev (fun k => spec_FromInversions.l0 k cs items out ((m : Int) - 1)) (if okTo m cs = true then (frL m items cs ++ out, true) else ([], false)) := by
  intro m
  induction m with
  | zero =>
    intro items out _ _ _
    refine ev_shift ?_
    simp only [spec_FromInversions.l0]
    exact ev_neg (by omega) (ev_some (by simp [frL, okTo]))
  | succ m ih =>
    intro items out hm hl ho
    have e1 : (((m + 1 : Nat) : Int) - 1) = (m : Int) := by omega
    have e2 : wrap64 ((m : Int) - 1) = (m : Int) - 1 := w64 (by omega) (by omega)
    have e0 : wrap64 ((items.length : Int) - 1) = (m : Int) := by rw [w64 (by omega) (by omega)]; omega
    refine ev_shift ?_
    simp only [spec_FromInversions.l0, e1, rd_nat, e2, e0]
    refine ev_pos (by omega) (ev_pos (by omega) (ev_pos (by omega) (ev_bind0 (spec_l1In_eq _ _ _) ?_)))
    by_cases hr : inR (cs.getD m 0) 0 (m : Int) = true
    case neg =>
      simp only [Bool.not_eq_true] at hr
      have eo : okTo (m + 1) cs = false := by rw [okTo, hr, Bool.false_and]
      refine ev_neg (by rw [hr]; simp) (ev_some ?_)
      rw [eo]; rfl
    case pos =>
      have hcm := inR_iff.1 hr
      have e3 : wrap64 ((m : Int) - cs.getD m 0) = ((m - (cs.getD m 0).toNat : Nat) : Int) := by rw [w64 (by omega) (by omega)]; omega
      refine ev_pos hr ?_
      have eo : okTo (m + 1) cs = okTo m cs := by rw [okTo, hr, Bool.true_and]
      rw [e3, frL, eo]
      obtain ⟨q, hq⟩ : ∃ q, q = m - (cs.getD m 0).toNat := ⟨_, rfl⟩
      have hql : q < items.length := by omega
      rw [← hq, rd_nat]
      clear e1 e2 e3 e0
      refine ev_pos (by omega) (ev_pos (by omega) (ev_bind0 rfl (ev_pos (by simp only [List.length_cons, List.length_nil]; omega) (ev_bind0 (spec_raWithout_eq items q hql (by omega)) ?_))))
      have := ih (items.eraseIdx q) ([items.getD q 0] ++ out) (by omega) (by rw [List.length_eraseIdx_of_lt hql, hl]; rfl) (by simp; omega)
      rw [List.append_assoc]
      exact this
theorem spec_FromInversions_ev (cs : List Int) (hl : cs.length ≤ 9000000000000000000) : Ev (fun k => spec_FromInversions.f k cs) (frPm cs) := by
  unfold spec_FromInversions.f frPm
  refine ev_bind0 (spec_raItems_eq _) ?_
  by_cases h : inR (cs.length : Int) 0 12 = true
  · have h' := inR_iff.1 h
    have h12 : cs.length ≤ 12 := by omega
    refine ev_pos h (ev_bind (spec_raUpTo_ev _ h12) ?_)
    rw [w64 (by omega) (by omega)]
    have := spec_FromInversions_l0_ev cs (by omega) cs.length (idL cs.length) [] (Nat.le_refl _) (idL_length _) (by simpa using h12)
    rw [okTo_cntOk, List.append_nil] at this
    by_cases hc : cntOk 0 cs = true
    · rw [if_pos hc] at this; rw [if_pos ⟨h12, hc⟩]; exact this
    · rw [if_neg hc] at this; rw [if_neg (fun c => hc c.2)]; exact this
  · refine ev_neg h (ev_some ?_)
    rw [if_neg (fun c => h (inR_iff.2 ⟨by omega, by omega⟩))]
theorem laws_uSame_ev (l : List Int) (hl : l.length ≤ 9000000000000000000) : Ev (fun k => laws_uSame.f k l l) true := by
  unfold laws_uSame.f
  refine ev_pos rfl ?_
  refine range_all hl (fun pre suf => Ev (fun k => laws_uSame.l0 k l l (l.length : Int) (pre.length : Int)) true) ?_ ?_
  · refine ev_shift ?_
    simp only [laws_uSame.l0]
    exact ev_neg (by omega) (ev_some rfl)
  · intro pre x suf h hx h1 h2 h3 ih
    refine ev_shift ?_
    simp only [laws_uSame.l0, h3]
    exact ev_pos h1 (ev_pos h2 (ev_pos h1 (ev_pos h1 (ev_pos (by trivial) ih))))
theorem frPm_invF {l : List Int} (h : isPermB l = true) : frPm (invF [] l) = (l, true) := by
  obtain ⟨h1, h2⟩ := isPermB_iff.1 h
  unfold frPm
  rw [if_pos ⟨by rw [invF_length]; exact h1, invF_ok l []⟩, invF_length, frL_invF l.length (idL l.length) l (idL_length _) (idL_lt _) h2]
theorem invPm_frPm {t : List Int} (h : t.length ≤ 12 ∧ cntOk 0 t = true) : invPm (frL t.length (idL t.length) t) = (t, true) := by
  have hp : isPermB (frL t.length (idL t.length) t) = true := by
    refine isPermB_iff.2 ⟨by rw [frL_length]; exact h.1, ?_⟩
    rw [frL_length]
    exact frL_perm _ _ _ (idL_length _)
  have hc := cntOk_iff.1 h.2
  unfold invPm
  rw [if_pos hp, invF_frL t.length (idL t.length) t (idL_length _) (idL_lt _) (Nat.le_refl _) (fun j hj => by have := hc j hj; omega), List.take_length]
theorem laws_FnInversions_j4_ev {m : List Int} (hm : wfB m) : Ev (fun k => laws_FnInversions.j4 k m) true := by
  obtain ⟨t, e, ht⟩ := dr_FromInversions hm
  refine ev_shift ?_
  simp only [laws_FnInversions.j4]
  refine ev_bind e (ev_bind (impl_FromInversions_ev t (by omega)) (ev_bind (spec_FromInversions_ev t (by omega)) (ev_neg neq_self ?_)))
  have hlen := frPm_len t
  refine ev_bind (laws_uSame_ev _ (by omega)) (ev_shift ?_)
  simp only [laws_FnInversions.j5]
  refine ev_neg (by simp) ?_
  by_cases h : t.length ≤ 12 ∧ cntOk 0 t = true
  · have e1 : frPm t = (frL t.length (idL t.length) t, true) := by unfold frPm; rw [if_pos h]
    rw [e1]
    refine ev_pos rfl (ev_bind (impl_InversionsOf_ev _) ?_)
    dsimp only
    rw [invPm_frPm h]
    exact ev_pos rfl (ev_bind (laws_uSame_ev t (by omega)) (ev_some rfl))
  · have e1 : frPm t = ([], false) := by unfold frPm; rw [if_neg h]
    rw [e1]
    exact ev_neg (by simp) (ev_some rfl)
theorem laws_FnInversions_l1_ev {m l : List Int} (hm : wfB m) (h : isPermB l = true) : Ev (fun k => laws_FnInversions.l1 k m (invL l) l (l.length : Int) 0) true := by
  have hj := laws_FnInversions_j4_ev hm
  obtain ⟨h12, hr, _⟩ := isPermB_iff'.1 h
  refine range_all (l := l) (by omega) (fun pre suf => Ev (fun k => laws_FnInversions.l1 k m (invL l) l (l.length : Int) (pre.length : Int)) true) ?_ ?_
  · refine ev_shift ?_
    simp only [laws_FnInversions.l1]
    exact ev_neg (by omega) hj
  · intro pre x suf hh hx h1 h2 h3 ih
    have hxr := hr x (by rw [hh]; simp)
    have hk : pre.length < l.length := by omega
    have hat := invL_at h pre.length hk
    have hxx : l[pre.length] = x := by simp [hh]
    rw [hxx] at hat
    obtain ⟨q, rfl⟩ := Int.eq_ofNat_of_zero_le hxr.1
    rw [Int.toNat_natCast] at hat
    refine ev_shift ?_
    simp only [laws_FnInversions.l1, hx, h3]
    refine ev_pos h1 (ev_pos h2 (ev_pos h1 (ev_pos hxr.1 (ev_pos (by rw [invL_length]; exact hxr.2) (ev_pos ?_ ih)))))
    rw [rd_nat]; exact hat
theorem laws_FnInversions_l0_ev (m l inv back again : List Int) (sg sg2 : Int) (b1 b2 b3 : Bool) (cs : List Int) (hlen : cs.length ≤ 12) (hcs : ∀ c ∈ cs, 0 ≤ c ∧ c ≤ 100) (R : Bool)
    (hk : Ev (fun k => (if b1 = true then ((laws_uSame.f k back l).bind fun t328 => (if t328 = true then (if b2 = true then (if sg2 = sg then (if ((sg == 1) != ((Int.tmod (sumZ cs) 2) == 0)) = true then (laws_FnInversions.j2 k m l inv true) else (if b3 = true then ((laws_uSame.f k again l).bind fun t329 => (laws_FnInversions.j2 k m l inv (!t329))) else (laws_FnInversions.j2 k m l inv true))) else (laws_FnInversions.j2 k m l inv true)) else (laws_FnInversions.j2 k m l inv true)) else (laws_FnInversions.j2 k m l inv true))) else (laws_FnInversions.j2 k m l inv true))) R) :
    Ev (fun k => laws_FnInversions.l0 k m l sg inv back b1 sg2 b2 again b3 0 cs (cs.length : Int) 0) R := by
  have hb := sumZ_range cs 100 hcs
  have key : ∀ suf pre, cs = pre ++ suf → ∀ t : Int, t = sumZ pre → Ev (fun k => laws_FnInversions.l0 k m l sg inv back b1 sg2 b2 again b3 t cs (cs.length : Int) (pre.length : Int)) R := by
    refine range_ind (by omega) (fun pre suf => ∀ t : Int, t = sumZ pre → Ev (fun k => laws_FnInversions.l0 k m l sg inv back b1 sg2 b2 again b3 t cs (cs.length : Int) (pre.length : Int)) R) ?_ ?_
    · intro t ht
      subst ht
      refine ev_shift ?_
      simp only [laws_FnInversions.l0]
      exact ev_neg (by omega) hk
    · intro pre x suf hh hx h1 h2 h3 ih t ht
      have hx0 := hcs x (by rw [hh]; simp)
      have hpre := sumZ_range pre 100 (fun c hc => hcs c (by rw [hh]; simp [hc]))
      have hpl : (pre.length : Int) ≤ 12 := by omega
      refine ev_shift ?_
      simp only [laws_FnInversions.l0, hx, h3]
      refine ev_pos h1 (ev_pos h2 (ev_pos h1 ?_))
      rw [w64 (by omega) (by omega)]
      exact ih _ (by rw [sumZ_append, ht]; simp [sumZ])
  exact key cs [] rfl 0 rfl
theorem FnInversions : laws_FnInversions.Pure := by
  intro c m hl1 hl2 hc hm1 hm2 hm
  apply ev_le
  unfold laws_FnInversions.f
  rcases laws_big_eq c m hc hm (by omega) with hb | ⟨hb, wc, wm⟩
  · exact ev_bind0 hb (ev_pos rfl (ev_some rfl))
  refine ev_bind0 hb (ev_neg Bool.false_ne_true ?_)
  obtain ⟨l, e, hl⟩ := dr_IsPermutation wc
  have hj := laws_FnInversions_j4_ev wm
  refine ev_bind (by unfold spec_DrawInversionsOf.f; exact ev_bind e (ev_some rfl)) ?_
  refine ev_bind (impl_InversionsOf_ev l) (ev_bind (spec_InversionsOf_ev l (by omega)) (ev_bind (impl_SignOf_ev l) (ev_bind (impl_InverseOf_ev l) ?_)))
  have hlen := invPm_len l
  refine ev_neg neq_self (ev_bind (laws_uSame_ev _ (by omega)) (ev_pos rfl ?_))
  by_cases h : isPermB l = true
  · have e1 : invPm l = (invF [] l, true) := by unfold invPm; rw [if_pos h]
    have e2 : signPm l = (if sumZ (invF [] l) % 2 = 1 then -1 else 1, true) := by unfold signPm; rw [if_pos h]
    have e3 : invsPm l = (invL l, true) := by unfold invsPm; rw [if_pos h]; rfl
    have h' := invL_perm h
    have e4 : signPm (invL l) = (if sumZ (invF [] l) % 2 = 1 then -1 else 1, true) := by unfold signPm; rw [if_pos h', invs_invL h]
    have e5 : invsPm (invL l) = (l, true) := by
      unfold invsPm; rw [if_pos h']
      show (invL (invL l), true) = (l, true)
      rw [invL_invL h]
    have h12 := (isPermB_iff.1 h).1
    rw [e1, e2, e3]
    refine ev_neg (by simp) (ev_shift ?_)
    simp only [laws_FnInversions.j0]
    refine ev_neg (by simp) (ev_pos (by trivial) (ev_bind (impl_FromInversions_ev _ (by rw [invF_length]; omega)) (ev_bind (impl_SignOf_ev _) (ev_bind (impl_InverseOf_ev _) ?_))))
    rw [e4, e5, frPm_invF h]
    dsimp only
    refine laws_FnInversions_l0_ev m l (invL l) l l _ _ true true true (invF [] l) (by rw [invF_length]; exact h12) (fun x hx => by have := invF_range l [] x hx; simp at this; omega) true ?_
    have hsr := sumZ_range (invF [] l) 100 (fun x hx => by have := invF_range l [] x hx; simp at this; omega)
    refine ev_pos rfl (ev_bind (laws_uSame_ev l (by omega)) (ev_pos rfl (ev_pos rfl (ev_pos rfl (ev_neg ?_ (ev_pos rfl (ev_bind (laws_uSame_ev l (by omega)) ?_)))))))
    · rw [Int.tmod_eq_emod_of_nonneg hsr.1]
      have := Int.emod_two_eq (sumZ (invF [] l))
      rcases this with h0 | h0 <;> rw [h0] <;> decide
    · refine ev_shift ?_
      simp only [laws_FnInversions.j2]
      exact ev_neg (by simp) (laws_FnInversions_l1_ev wm h)
  · have e1 : invPm l = ([], false) := by unfold invPm; rw [if_neg h]
    have e2 : signPm l = (0, false) := by unfold signPm; rw [if_neg h]
    have e3 : invsPm l = ([], false) := by unfold invsPm; rw [if_neg h]
    rw [e1, e2, e3]
    refine ev_neg (by simp) (ev_shift ?_)
    simp only [laws_FnInversions.j0]
    exact ev_neg (by simp) (ev_neg (by simp) hj)

end Go.Proofs.Ytnhifbopicjicaa.Pure
