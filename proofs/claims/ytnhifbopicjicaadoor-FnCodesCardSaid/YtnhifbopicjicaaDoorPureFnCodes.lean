/- The law FnCodes returns true for every two lists of bytes (reach as the row says); no condition of ours. -/
import Derived.Test.YtnhifbopicjicaaDoorQFnCodesx10
import Derived.Test.YtnhifbopicjicaaDoorMth
import Derived.Test.YtnhifbopicjicaaDoorMthCode
import Derived.Test.YtnhifbopicjicaaDoorMthCodeMore
import Derived.Test.YtnhifbopicjicaaDoorMthDeltas
import Derived.Test.YtnhifbopicjicaaDoorMthGray
import Derived.Test.YtnhifbopicjicaaDoorMthMoved
import Derived.Test.YtnhifbopicjicaaDoorMthPerm
set_option linter.unusedVariables false
set_option linter.unusedSimpArgs false
namespace Go.Proofs.YtnhifbopicjicaaDoor.Pure
open Go.RowKit Go.Proofs.YtnhifbopicjicaaDoor.Mth Go.Proofs.YtnhifbopicjicaaDoor.PFnCodes Go.Proofs.YtnhifbopicjicaaDoorW.PrintWords Go.Proofs.YtnhifbopicjicaaDoorW.PrintLast

theorem wrapU (n : Int) : IntKind.u64.wrap n = n % 18446744073709551616 := by simp [IntKind.wrap, IntKind.bits, IntKind.signed]
def wfB (c : List Int) : Prop := c.length ≤ 1048576 ∧ ∀ x ∈ c, 0 ≤ x ∧ x ≤ 255
theorem wfB_of {c : List Int} (h0 : c.length ≤ 1048576) (h : ∀ x ∈ c, (Lit.int .u8 x).wf = true) : wfB c := by
  refine ⟨h0, fun x hx => ?_⟩
  have := h x hx
  simp only [Lit.wf, Bool.and_eq_true, decide_eq_true_eq] at this
  have e0 : IntKind.min .u8 = 0 := by decide
  have e1 : IntKind.max .u8 = 255 := by decide
  omega
theorem byte_of (x : Int) : 0 ≤ wrap64 (Go.bits .and .u64 ((IntKind.u64.wrap x) / 1099511627776) 255) ∧ wrap64 (Go.bits .and .u64 ((IntKind.u64.wrap x) / 1099511627776) 255) ≤ 255 := by
  have h1 : 0 ≤ IntKind.u64.wrap x / 1099511627776 ∧ IntKind.u64.wrap x / 1099511627776 < 2 ^ 24 := by rw [wrapU]; omega
  have h2 := Go.bits_mask .u64 24 (by decide) (fun n a b => by rw [wrapU]; omega) 8 (by decide) _ h1.1 h1.2
  have h3 : Go.bits .and .u64 ((IntKind.u64.wrap x) / 1099511627776) 255 = (IntKind.u64.wrap x) / 1099511627776 % 2 ^ 8 := h2
  rw [h3, w64 (by omega) (by omega)]
  omega
theorem dr_next {c : List Int} (hc : wfB c) {a : Int} (s : Int) (h0 : 0 ≤ a) (h1 : a ≤ 4000000000000000000) : ∃ r s', spec_l1Cur_next.f c a s = some (r, a + 1, s') ∧ 0 ≤ r ∧ r ≤ 255 := by
  have hl := hc.1
  unfold spec_l1Cur_next.f
  have e : wrap64 (a + 1) = a + 1 := w64 (by omega) (by omega)
  rw [e]
  by_cases h : a < (c.length : Int)
  · rw [if_pos h, if_pos h0, if_pos (by omega)]
    obtain ⟨n, rfl⟩ := Int.eq_ofNat_of_zero_le h0
    have hm := hc.2 _ (rd_mem (l := c) (j := n) (by omega))
    exact ⟨_, _, rfl, by rw [w64 (by omega) (by omega)]; omega, by rw [w64 (by omega) (by omega)]; omega⟩
  · rw [if_neg h, if_neg (by omega)]
    exact ⟨_, _, rfl, (byte_of _).1, (byte_of _).2⟩
theorem dr_pick {c : List Int} (hc : wfB c) {a : Int} (s n : Int) (h0 : 0 ≤ a) (h1 : a ≤ 3999999999999999999) : ∃ r a' s', spec_l1Cur_pick.f c a s n = some (r, a', s') ∧ a ≤ a' ∧ a' ≤ a + 2 ∧ 0 ≤ r ∧ (n ≤ 1 → r = 0) ∧ (1 < n → r < n) := by
  unfold spec_l1Cur_pick.f
  by_cases hn : n ≤ 1
  · rw [if_pos hn]
    exact ⟨0, a, s, rfl, by omega, by omega, by omega, fun _ => rfl, fun h => by omega⟩
  · rw [if_neg hn]
    obtain ⟨x, s1, e1, x0, x1⟩ := dr_next hc s h0 (by omega)
    rw [e1]
    simp only [Option.bind_some]
    by_cases hb : n > 200
    · rw [if_pos hb]
      obtain ⟨y, s2, e2, y0, y1⟩ := dr_next hc s1 (a := a + 1) (by omega) (by omega)
      rw [e2]
      simp only [Option.bind_some]
      rw [if_neg (by omega), w64 (x := x * 256) (by omega) (by omega), w64 (by omega) (by omega)]
      rw [Int.tmod_eq_emod_of_nonneg (by omega)]
      have g0 := Int.emod_nonneg (x * 256 + y) (b := n) (by omega)
      have g1 := Int.emod_lt_of_pos (x * 256 + y) (b := n) (by omega)
      exact ⟨_, _, _, rfl, by omega, by omega, g0, fun h => by omega, fun _ => g1⟩
    · rw [if_neg hb, if_neg (by omega)]
      rw [Int.tmod_eq_emod_of_nonneg (by omega)]
      have g0 := Int.emod_nonneg x (b := n) (by omega)
      have g1 := Int.emod_lt_of_pos x (b := n) (by omega)
      exact ⟨_, _, _, rfl, by omega, by omega, g0, fun h => by omega, fun _ => g1⟩
theorem laws_big_eq (c m : List Int) (hc : ∀ x ∈ c, (Lit.int .u8 x).wf = true) (hm : ∀ x ∈ m, (Lit.int .u8 x).wf = true) (hl : c.length ≤ 9000000000000000000) : laws_big.f c m = some true ∨ (laws_big.f c m = some false ∧ wfB c ∧ wfB m) := by
  unfold laws_big.f
  by_cases h : (c.length : Int) > 1048576
  · exact .inl (if_pos h)
  · rw [if_neg h, w64 (by omega) (by omega)]
    by_cases h2 : (m.length : Int) > 1048576 - (c.length : Int)
    · rw [decide_eq_true h2]; exact .inl rfl
    · rw [decide_eq_false h2]; exact .inr ⟨rfl, wfB_of (by omega) hc, wfB_of (by omega) hm⟩
theorem dr_one {c : List Int} (hc : wfB c) {a : Int} (s n : Int) (h0 : 0 ≤ a) (h1 : a ≤ 3999999999999999999) : ∃ r a' s', spec_l1Cur_one.f c a s n = some (r, a', s') ∧ a ≤ a' ∧ a' ≤ a + 2 := by
  unfold spec_l1Cur_one.f
  obtain ⟨r, a', s', e, h2, h3, _⟩ := dr_pick hc s n h0 h1
  rw [e]
  exact ⟨_, _, _, rfl, h2, h3⟩
theorem dr_among {c : List Int} (hc : wfB c) {a : Int} (s : Int) (l : List Int) (hl : 0 < l.length) (h0 : 0 ≤ a) (h1 : a ≤ 3999999999999999999) : ∃ r a' s', spec_l1Cur_among.f c a s l = some (r, a', s') ∧ a ≤ a' ∧ a' ≤ a + 2 ∧ r ∈ l := by
  unfold spec_l1Cur_among.f
  obtain ⟨r, a', s', e, h2, h3, h4, h5, h6⟩ := dr_pick hc s (l.length : Int) h0 h1
  rw [e]
  simp only [Option.bind_some]
  have hr : r < (l.length : Int) := by
    by_cases h : (l.length : Int) ≤ 1
    · have := h5 h; omega
    · exact h6 (by omega)
  rw [if_pos h4, if_pos hr]
  obtain ⟨n, rfl⟩ := Int.eq_ofNat_of_zero_le h4
  exact ⟨_, _, _, rfl, h2, h3, rd_mem (by omega)⟩
theorem spec_l1Least_eq (a b : Int) : spec_l1Least.f a b = some (if a < b then a else b) := by
  unfold spec_l1Least.f
  split <;> rfl
theorem dr_order_j1 {c : List Int} (hc : wfB c) (l : List Int) (b : Bool) (hb : b = true → 0 < l.length) (hl : l.length ≤ 30) {a : Int} (s : Int) (h0 : 0 ≤ a) (h1 : a ≤ 3999999999999999000) : ∃ l' a' s', Ev (fun k => spec_l1Cur_order.j1 k l b c a s) (l', a', s') ∧ a ≤ a' ∧ a' ≤ a + 4 ∧ l'.length = l.length := by
  cases b
  · refine ⟨l, a, s, ev_shift ?_, by omega, by omega, rfl⟩
    simp only [spec_l1Cur_order.j1]
    exact ev_neg Bool.false_ne_true (ev_some rfl)
  · have hp := hb rfl
    obtain ⟨y, a1, s1, e1, u1, u2, u3, u4, u5⟩ := dr_pick hc s (l.length : Int) h0 (by omega)
    have hy : y < (l.length : Int) := by
      by_cases h : (l.length : Int) ≤ 1
      · have := u4 h; omega
      · exact u5 (by omega)
    obtain ⟨z, a2, s2, e2, v1, v2, _⟩ := dr_among hc s1 [-1, 0, (l.length : Int), 4611686018427387904] (by simp) (a := a1) (by omega) (by omega)
    refine ⟨l.set y.toNat z, a2, s2, ev_shift ?_, by omega, by omega, by simp⟩
    simp only [spec_l1Cur_order.j1]
    exact ev_pos (by trivial) (ev_bind0 e1 (ev_bind0 e2 (ev_pos u3 (ev_pos hy (ev_some rfl)))))
theorem dr_order_l0 {c : List Int} (hc : wfB c) (n : Int) (m : Nat) : ∀ (x : Nat) (l : List Int) (a s : Int), m + x = 20 → l.length = x → 0 ≤ a → a + 2 * (m : Int) ≤ 3999999999999990000 → ∃ l' a' s', Ev (fun k => spec_l1Cur_order.l0 k n l (x : Int) c a s) (l', a', s') ∧ a ≤ a' ∧ a' ≤ a + 2 * (m : Int) + 8 ∧ l'.length ≤ 20 := by
  have fin : ∀ (x : Nat) (l : List Int) (a s : Int), x ≤ 20 → l.length = x → 0 ≤ a → a ≤ 3999999999999990000 → ¬ (x : Int) < (if n < 20 then n else 20) → ∃ l' a' s', Ev (fun k => spec_l1Cur_order.l0 k n l (x : Int) c a s) (l', a', s') ∧ a ≤ a' ∧ a' ≤ a + 8 ∧ l'.length ≤ 20 := by
    intro x l a s hx hl h0 h1 hn
    by_cases hp : (l.length : Int) > 0
    · obtain ⟨y, a1, s1, e1, u1, u2⟩ := dr_one hc s 25 h0 (by omega)
      obtain ⟨l', a', s', g1, g2, g3, g4⟩ := dr_order_j1 hc l y (fun _ => by omega) (by omega) s1 (a := a1) (by omega) (by omega)
      refine ⟨l', a', s', ev_shift ?_, by omega, by omega, by omega⟩
      simp only [spec_l1Cur_order.l0]
      exact ev_bind0 (spec_l1Least_eq _ _) (ev_neg hn (ev_pos hp (ev_bind0 e1 g1)))
    · obtain ⟨l', a', s', g1, g2, g3, g4⟩ := dr_order_j1 hc l false (fun h => by cases h) (by omega) s (a := a) (by omega) (by omega)
      refine ⟨l', a', s', ev_shift ?_, by omega, by omega, by omega⟩
      simp only [spec_l1Cur_order.l0]
      exact ev_bind0 (spec_l1Least_eq _ _) (ev_neg hn (ev_neg hp g1))
  induction m with
  | zero =>
    intro x l a s hm hl h0 h1
    obtain ⟨l', a', s', g1, g2, g3, g4⟩ := fin x l a s (by omega) hl h0 (by omega) (by split <;> omega)
    exact ⟨l', a', s', g1, g2, by omega, g4⟩
  | succ m ih =>
    intro x l a s hm hl h0 h1
    by_cases hx : (x : Int) < (if n < 20 then n else 20)
    · have ew : wrap64 ((x : Int) + 1) = ((x + 1 : Nat) : Int) := by rw [w64 (by omega) (by omega)]; omega
      obtain ⟨y, a1, s1, e1, u1, u2, u3, u4, u5⟩ := dr_pick hc s ((x + 1 : Nat) : Int) h0 (by omega)
      have hy : y ≤ (l.length : Int) := by
        by_cases h : ((x + 1 : Nat) : Int) ≤ 1
        · have := u4 h; omega
        · have := u5 (by omega); omega
      obtain ⟨l', a', s', g1, g2, g3, g4⟩ := ih (x + 1) ([] ++ l.take y.toNat ++ [(x : Int)] ++ l.drop y.toNat) a1 s1 (by omega) (by simp only [List.length_append, List.length_take, List.length_drop, List.length_cons, List.length_nil]; omega) (by omega) (by omega)
      refine ⟨l', a', s', ev_shift ?_, by omega, by omega, g4⟩
      simp only [spec_l1Cur_order.l0, ew]
      refine ev_bind0 (spec_l1Least_eq _ _) (ev_pos hx (ev_bind0 e1 (ev_bind0 rfl (ev_pos u3 (ev_pos hy (ev_bind0 rfl (ev_pos ?_ (ev_bind0 rfl (ev_pos ?_ (ev_bind0 rfl (ev_bind0 rfl (ev_pos ?_ g1)))))))))))) <;> (simp only [List.length_append, List.length_take, List.length_drop, List.length_cons, List.length_nil]; omega)
    · obtain ⟨l', a', s', g1, g2, g3, g4⟩ := fin x l a s (by omega) hl h0 (by omega) hx
      exact ⟨l', a', s', g1, g2, by omega, g4⟩
theorem dr_order {c : List Int} (hc : wfB c) (n a s : Int) (h0 : 0 ≤ a) (h1 : a ≤ 3999999999999980000) : ∃ l' a' s', Ev (fun k => spec_l1Cur_order.f k c a s n) (l', a', s') ∧ a ≤ a' ∧ a' ≤ a + 60 ∧ l'.length ≤ 20 := by
  obtain ⟨l', a', s', g1, g2, g3, g4⟩ := dr_order_l0 hc n 20 0 [] a s rfl rfl h0 (by omega)
  exact ⟨l', a', s', g1, by omega, by omega, g4⟩
theorem dr_bits2 {c : List Int} (hc : wfB c) {a : Int} (s n : Int) (hn : 1 ≤ n) (hn1 : n ≤ 1000) (h0 : 0 ≤ a) (h1 : a ≤ 3999999999999999000) : ∃ r a' s', spec_l1Cur_bits2.f c a s n = some (r, a', s') ∧ a ≤ a' ∧ a' ≤ a + 4 ∧ -1 ≤ r ∧ (r ≤ 11 ∨ r ≤ n) := by
  unfold spec_l1Cur_bits2.f
  obtain ⟨x, a1, s1, e1, u2, u3⟩ := dr_one hc s 15 h0 (by omega)
  rw [e1, Option.bind_some]
  dsimp only
  by_cases hx : x = true
  · rw [if_pos hx]
    obtain ⟨r, a2, s2, e2, g2, g3, g4⟩ := dr_among hc s1 [-1, 0, 10, 11] (by simp) (a := a1) (by omega) (by omega)
    rw [e2]
    simp only [List.mem_cons, List.not_mem_nil, or_false] at g4
    exact ⟨_, _, _, rfl, by dsimp only; omega, by dsimp only; omega, by dsimp only; omega, by dsimp only; omega⟩
  · rw [if_neg hx]
    obtain ⟨y, a2, s2, e2, v2, v3, v4, v5, v6⟩ := dr_pick hc s1 n (a := a1) (by omega) (by omega)
    rw [e2, Option.bind_some]
    dsimp only
    have hy : y < n := by
      by_cases h : n ≤ 1
      · have := v5 h; omega
      · exact v6 (by omega)
    rw [w64 (by omega) (by omega)]
    exact ⟨_, _, _, rfl, by omega, by omega, by omega, by omega⟩
theorem spec_gcList_l0 (n : Nat) (hn : n + 1 ≤ 10) (L : List Int) (hL : L.length ≤ 512) (hx : ∀ x ∈ L, 0 ≤ x ∧ x < 1024) : ∀ (j : Nat) (acc : List Int), j ≤ L.length → acc.length + j ≤ 512 →
    Ev (fun k => spec_gcList.l0 k ((n + 1 : Nat) : Int) (L ++ acc) ((j : Int) - 1)) (L ++ acc ++ (L.take j).reverse.map (fun x => x + 2 ^ n)) := by
  have e2 : shl .i64 1 (n : Int) = 2 ^ n := shl_pow (by omega)
  have e3 : ((2 ^ n : Nat) : Int) = (2 : Int) ^ n := by simp
  have e4 := pow_le_1024 (n := n) (by omega)
  have e5 : (0 : Int) ≤ 2 ^ n := by rw [← e3]; exact Int.natCast_nonneg _
  have e1 : wrap64 (((n + 1 : Nat) : Int) - 1) = (n : Int) := by rw [w64 (by omega) (by omega)]; omega
  intro j
  induction j with
  | zero =>
    intro acc _ _
    refine ev_shift ?_
    simp only [spec_gcList.l0]
    exact ev_neg (by omega) (ev_some (by simp))
  | succ j ih =>
    intro acc hj ha
    have e : (((j + 1 : Nat) : Int) - 1) = (j : Int) := by omega
    have hr : rd (L ++ acc) (j : Int) = rd L (j : Int) := by
      rw [rd_nat, rd_nat, List.getD_eq_getElem?_getD, List.getD_eq_getElem?_getD, List.getElem?_append_left (by omega)]
    have hm := hx _ (rd_mem (l := L) (j := j) (by omega))
    refine ev_shift ?_
    simp only [spec_gcList.l0, e, e1, e2, hr]
    rw [w64 (x := (j : Int) - 1) (by omega) (by omega), w64 (x := rd L (j : Int) + 2 ^ n) (by omega) (by omega)]
    refine ev_pos (by omega) (ev_pos (by omega) (ev_pos (by simp; omega) (ev_pos (by omega) (ev_pos (by simp; omega) ?_))))
    have := ih (acc ++ [rd L (j : Int) + 2 ^ n]) (by omega) (by simp; omega)
    rw [List.append_assoc] at this ⊢
    have et : L.take (j + 1) = L.take j ++ [rd L (j : Int)] := by
      rw [List.take_add_one, rd_nat, List.getD_eq_getElem?_getD, List.getElem?_eq_getElem (by omega)]; rfl
    rw [et, List.reverse_append]
    simpa using this
theorem spec_gcList_ev (n : Nat) (hn : n ≤ 10) : Ev (fun k => spec_gcList.f k (n : Int)) (grL n) := by
  induction n with
  | zero =>
    refine ev_shift ?_
    simp only [spec_gcList.f]
    exact ev_pos rfl (ev_some rfl)
  | succ n ih =>
    have hl := grL_length (n := n) (by omega)
    have hp := Nat.pow_le_pow_right (n := 2) (by omega) (show n ≤ 9 by omega)
    have e1 : wrap64 (((n + 1 : Nat) : Int) - 1) = (n : Int) := by rw [w64 (by omega) (by omega)]; omega
    refine ev_shift ?_
    simp only [spec_gcList.f, e1]
    refine ev_neg (by omega) (ev_bind (ih (by omega)) ?_)
    rw [w64 (by omega) (by omega)]
    have := spec_gcList_l0 n hn (grL n) (by omega) (fun x hx => by have := grL_mem (n := n) (by omega) hx; have e3 : ((2 ^ n : Nat) : Int) = (2 : Int) ^ n := by simp
                                                                   omega) (grL n).length [] (Nat.le_refl _) (by simp; omega)
    simpa [grL] using this
theorem spec_l1In_eq (a b c : Int) : spec_l1In.f a b c = some (inR a b c) := in_ite a b c
theorem spec_l1Has_ev (l : List Int) (x : Int) (hl : l.length ≤ 9000000000000000000) : Ev (fun k => spec_l1Has.f k l x) (l.contains x) := by
  refine range_all hl (fun pre suf => Ev (fun k => spec_l1Has.l0 k x l (l.length : Int) (pre.length : Int)) (suf.contains x)) ?_ ?_
  · refine ev_shift ?_
    simp only [spec_l1Has.l0]
    exact ev_neg (by omega) (ev_some rfl)
  · intro pre y suf h hx h1 h2 h3 ih
    refine ev_shift ?_
    simp only [spec_l1Has.l0, hx, h3]
    refine ev_pos h1 (ev_pos h2 (ev_pos h1 ?_))
    by_cases e : y = x
    · exact ev_pos e (ev_some (by simp [e]))
    · refine ev_neg e ?_
      have : (y :: suf).contains x = suf.contains x := by simp [Ne.symm e]
      rw [this]; exact ih
theorem spec_raPermutation_ev (l : List Int) (hl : l.length ≤ 9000000000000000000) : Ev (fun k => spec_raPermutation.f k l) (isPermB l) := by
  rw [← raPerm_eq]
  have key : ∀ suf pre, l = pre ++ suf → pre.length ≤ 12 → Ev (fun k => spec_raPermutation.l0 k l l (l.length : Int) (pre.length : Int)) (decide (l.length ≤ 12) && raPermF (l.length : Int) pre suf) := by
    refine range_ind hl (fun pre suf => pre.length ≤ 12 → Ev (fun k => spec_raPermutation.l0 k l l (l.length : Int) (pre.length : Int)) (decide (l.length ≤ 12) && raPermF (l.length : Int) pre suf)) ?_ ?_
    · intro hp
      refine ev_shift ?_
      simp only [spec_raPermutation.l0]
      exact ev_neg (by omega) (ev_some (by rw [decide_eq_true hp]; rfl))
    · intro pre x suf h hx h1 h2 h3 ih hp
      have htake : l.take (pre.length : Int).toNat = pre := by rw [h, Int.toNat_natCast, List.take_left' rfl]
      refine ev_shift ?_
      simp only [spec_raPermutation.l0, hx, h3, htake]
      rw [w64 (by omega) (by omega)]
      refine ev_pos h1 (ev_pos h2 (ev_pos h1 ?_))
      by_cases h12 : pre.length < 12
      · refine ev_neg (by omega) (ev_bind0 (spec_l1In_eq _ _ _) ?_)
        simp only [raPermF]
        cases hr : inR x 0 ((l.length : Int) - 1) with
        | false => exact ev_neg (by simp) (ev_some (by simp))
        | true =>
          refine ev_pos rfl (ev_pos (by omega) (ev_bind (spec_l1Has_ev pre x (by omega)) ?_))
          cases hc : pre.contains x with
          | true => exact ev_pos rfl (ev_some (by simp))
          | false =>
            refine ev_neg (by simp) ?_
            have := ih (by simp; omega)
            simpa using this
      · refine ev_pos (by omega) (ev_some ?_)
        rw [decide_eq_false (by omega)]; rfl
  exact key l [] rfl (by simp)
theorem spec_gcBits_eq (a : Int) : spec_gcBits.f a = some (inR a 1 10) := by simp only [spec_gcBits.f, spec_l1In_eq, Option.bind_some]
theorem spec_l1All_ev (l : List Int) (lo hi : Int) (hl : l.length ≤ 9000000000000000000) : Ev (fun k => spec_l1All.f k l lo hi) (allIn l lo hi) := by
  refine range_all hl (fun pre suf => Ev (fun k => spec_l1All.l0 k lo hi l (l.length : Int) (pre.length : Int)) (allIn suf lo hi)) ?_ ?_
  · refine ev_shift ?_
    simp only [spec_l1All.l0]
    exact ev_neg (by omega) (ev_some rfl)
  · intro pre x suf h hx h1 h2 h3 ih
    refine ev_shift ?_
    simp only [spec_l1All.l0, hx, h3, spec_l1In_eq, Option.bind_some, allIn_cons]
    refine ev_pos h1 (ev_pos h2 (ev_pos h1 ?_))
    cases inR x lo hi with
    | true => exact ev_pos rfl ih
    | false => exact ev_neg (by simp) (ev_some rfl)
theorem spec_gcWords_ev (n : Int) (l : List Int) (hl : l.length ≤ 9000000000000000000) : Ev (fun k => spec_gcWords.f k n l) (areW n l) := by
  unfold spec_gcWords.f areW
  refine ev_bind0 (spec_gcBits_eq _) ?_
  by_cases h : inR n 1 10 = true
  · have h' := inR_iff.1 h
    refine ev_pos h ?_
    rw [h, Bool.true_and]
    by_cases hlen : (l.length : Int) ≤ 1100
    · refine ev_pos hlen (ev_pos (by omega) (ev_bind (spec_l1All_ev l 0 _ hl) (ev_some ?_)))
      rw [decide_eq_true hlen, Bool.true_and]; rfl
    · exact ev_neg hlen (ev_some (by rw [decide_eq_false hlen]; rfl))
  · refine ev_neg h (ev_some ?_)
    simp only [Bool.not_eq_true] at h
    rw [h]; rfl
theorem impl_within_eq (a b c : Int) : impl_within.f a b c = some (inR a b c) := in_ite a b c
theorem impl_isBits_eq (a : Int) : impl_isBits.f a = some (inR a 1 10) := by simp only [impl_isBits.f, impl_within_eq, Option.bind_some]
theorem impl_allWithin_ev (l : List Int) (lo hi : Int) (hl : l.length ≤ 9000000000000000000) : Ev (fun k => impl_allWithin.f k l lo hi) (allIn l lo hi) := by
  refine range_all hl (fun pre suf => Ev (fun k => impl_allWithin.l0 k lo hi l (l.length : Int) (pre.length : Int)) (allIn suf lo hi)) ?_ ?_
  · refine ev_shift ?_
    simp only [impl_allWithin.l0]
    exact ev_neg (by omega) (ev_some rfl)
  · intro pre x suf h hx h1 h2 h3 ih
    refine ev_shift ?_
    simp only [impl_allWithin.l0, hx, h3, impl_within_eq, Option.bind_some, allIn_cons]
    refine ev_pos h1 (ev_pos h2 (ev_pos h1 ?_))
    cases inR x lo hi with
    | true => exact ev_pos rfl ih
    | false => exact ev_neg (by simp) (ev_some rfl)
theorem impl_areWords_ev (n : Int) (l : List Int) (hl : l.length ≤ 9000000000000000000) : Ev (fun k => impl_areWords.f k n l) (areW n l) := by
  unfold impl_areWords.f areW
  refine ev_bind0 (impl_isBits_eq _) ?_
  by_cases h : inR n 1 10 = true
  · have h' := inR_iff.1 h
    refine ev_pos h ?_
    rw [h, Bool.true_and]
    by_cases hlen : (l.length : Int) ≤ 1100
    · refine ev_pos hlen (ev_pos (by omega) (ev_bind (impl_allWithin_ev l 0 _ hl) (ev_some ?_)))
      rw [decide_eq_true hlen, Bool.true_and]; rfl
    · exact ev_neg hlen (ev_some (by rw [decide_eq_false hlen]; rfl))
  · refine ev_neg h (ev_some ?_)
    simp only [Bool.not_eq_true] at h
    rw [h]; rfl
theorem shr_bit (w i : Nat) (hw : w < 1024) (hi : i ≤ 12) : shr .i64 (w : Int) (i : Int) = ((w / 2 ^ i : Nat) : Int) := by
  unfold shr
  rw [Int.toNat_natCast, Nat.min_eq_left (show i ≤ IntKind.i64.bits by have : IntKind.i64.bits = 64 := rfl; omega)]
  simp
theorem bit_term (w i : Nat) (k : Int) (hw : w < 1024) (hi : i ≤ 12) (h0 : 0 ≤ k) (h1 : k < 12) : shl .i64 (Go.bits .and .i64 (shr .i64 (w : Int) (i : Int)) 1) k = ((if w.testBit i = true then 2 ^ k.toNat else 0 : Nat) : Int) := by
  have hd : w / 2 ^ i < 2 ^ 62 := Nat.lt_of_le_of_lt (Nat.div_le_self _ _) (Nat.lt_trans hw (by decide))
  have e1 : Go.bits .and .i64 ((w / 2 ^ i : Nat) : Int) 1 = ((w / 2 ^ i % 2 : Nat) : Int) := by
    have := and_nat hd (show 1 < 2 ^ 62 by decide)
    rw [Nat.and_one_is_mod] at this
    exact this
  have e2 : w.testBit i = decide (w / 2 ^ i % 2 = 1) := by rw [Nat.testBit_eq_decide_div_mod_eq]
  obtain ⟨q, rfl⟩ := Int.eq_ofNat_of_zero_le h0
  rw [shr_bit w i hw hi, e1, e2, Int.toNat_natCast]
  have hq : q < 12 := by omega
  have t : ∀ q : Fin 12, shl .i64 ((0 : Nat) : Int) (q.1 : Int) = 0 ∧ shl .i64 ((1 : Nat) : Int) (q.1 : Int) = ((2 ^ q.1 : Nat) : Int) := by decide +kernel
  have tq := t ⟨q, hq⟩
  simp only at tq
  rcases Nat.mod_two_eq_zero_or_one (w / 2 ^ i) with h | h
  · rw [h, tq.1, if_neg (by decide)]; rfl
  · rw [h, tq.2, if_pos (by decide)]
theorem spec_gcMoved_ev (w : Nat) (hw : w < 1024) (tt : List Int) (h : isPermB tt = true) : Ev (fun k => spec_gcMoved.f k (w : Int) tt) (mvO w 0 tt : Int) := by
  obtain ⟨h12, hr, hnd⟩ := isPermB_iff'.1 h
  have key : ∀ suf pre, tt = pre ++ suf → ∀ a : Nat, a < 4096 → (∀ x ∈ suf, a.testBit x.toNat = false) → Ev (fun k => spec_gcMoved.l0 k (w : Int) (a : Int) tt (tt.length : Int) (pre.length : Int)) ((a ||| mvO w pre.length suf : Nat) : Int) := by
    refine range_ind (by omega) (fun pre suf => ∀ a : Nat, a < 4096 → (∀ x ∈ suf, a.testBit x.toNat = false) → Ev (fun k => spec_gcMoved.l0 k (w : Int) (a : Int) tt (tt.length : Int) (pre.length : Int)) ((a ||| mvO w pre.length suf : Nat) : Int)) ?_ ?_
    · intro a _ _
      refine ev_shift ?_
      simp only [spec_gcMoved.l0]
      exact ev_neg (by omega) (ev_some (by simp [mvO]))
    · intro pre x suf hh hx h1 h2 h3 ih a ha hb
      have hxr := hr x (by rw [hh]; simp)
      have hlen : tt.length = pre.length + suf.length + 1 := by rw [hh]; simp; omega
      have et := bit_term w pre.length x hw (by omega) hxr.1 (by omega)
      have hnx : ∀ y ∈ suf, y.toNat ≠ x.toNat := by
        intro y hy he
        have hyr := hr y (by rw [hh]; simp [hy])
        rw [hh, List.nodup_append] at hnd
        have := (List.nodup_cons.1 hnd.2.1).1
        have e : x = y := by omega
        exact this (by rw [e]; exact hy)
      have hbx := hb x (by simp)
      obtain ⟨t, ht⟩ : ∃ t : Nat, t = (if w.testBit pre.length = true then 2 ^ x.toNat else 0) := ⟨_, rfl⟩
      have hsum : a + t = a ||| t := by
        rw [ht]
        split
        · exact (or_add hbx).symm
        · simp
      have htl : t < 4096 := by
        rw [ht]; split
        · exact pow_lt12 (by omega)
        · decide
      have hor : a ||| t < 4096 := Nat.or_lt_two_pow (n := 12) ha htl
      have e2 : wrap64 ((a : Int) + (t : Int)) = ((a ||| t : Nat) : Int) := by rw [w64 (by omega) (by omega), ← hsum]; omega
      refine ev_shift ?_
      simp only [spec_gcMoved.l0, hx, h3, et]
      rw [← ht, e2]
      refine ev_pos h1 (ev_pos h2 (ev_pos h1 (ev_pos hxr.1 ?_)))
      have := ih (a ||| t) hor (fun y hy => by
        rw [Nat.testBit_or, hb y (by simp [hy]), Bool.false_or, ht]
        split
        · rw [Nat.testBit_two_pow, decide_eq_false_iff_not]; exact fun e => hnx y hy e.symm
        · simp)
      rw [List.length_append, List.length_singleton] at this
      rw [mvO, ← ht, ← Nat.or_assoc, List.length_append, List.length_singleton]
      exact this
  have := key tt [] rfl 0 (by decide) (fun x _ => Nat.zero_testBit _)
  unfold spec_gcMoved.f
  simpa using this
theorem dr_gray_j7 {c : List Int} (hc : wfB c) (n : Int) (hn : 0 ≤ n) (hn2 : n ≤ 20) (l : List Int) (h0l : 0 < l.length) (hl : l.length ≤ 40) (a s : Int) (h0 : 0 ≤ a) (h1 : a ≤ 3999999999999998000) : ∃ n' l' a' s', Ev (fun k => spec_l1Cur_gray.j7 k n l c a s) (n', l', a', s') ∧ a ≤ a' ∧ a' ≤ a + 10 ∧ l'.length ≤ 41 := by
  obtain ⟨x, a1, s1, e1, u1, u2, u3, u4, u5⟩ := dr_pick hc s 16 h0 (by omega)
  by_cases c0 : x = 0
  · obtain ⟨y, a2, s2, e2, v1, v2, v3, v4, v5⟩ := dr_pick hc s1 (l.length : Int) (a := a1) (by omega) (by omega)
    have hy : y < (l.length : Int) := by
      by_cases h : (l.length : Int) ≤ 1
      · have := v4 h; omega
      · exact v5 (by omega)
    obtain ⟨z, a3, s3, e3, w1, w2, _⟩ := dr_among hc s2 [0, 1, 5, (-1), shl .i64 1 n, 1099511627776] (by simp) (a := a2) (by omega) (by omega)
    refine ⟨n, l.set y.toNat z, a3, s3, ev_shift ?_, by omega, by omega, by simp; omega⟩
    simp only [spec_l1Cur_gray.j7]
    exact ev_bind0 e1 (ev_pos c0 (ev_bind0 e2 (ev_pos hn (ev_bind0 e3 (ev_pos v3 (ev_pos hy (ev_some rfl)))))))
  by_cases c1 : x = 1
  · obtain ⟨y, a2, s2, e2, v1, v2, v3, v4, v5⟩ := dr_pick hc s1 (l.length : Int) (a := a1) (by omega) (by omega)
    have hy : y < (l.length : Int) := by
      by_cases h : (l.length : Int) ≤ 1
      · have := v4 h; omega
      · exact v5 (by omega)
    refine ⟨n, l.take y.toNat, a2, s2, ev_shift ?_, by omega, by omega, by simp only [List.length_take]; omega⟩
    simp only [spec_l1Cur_gray.j7]
    exact ev_bind0 e1 (ev_neg c0 (ev_pos c1 (ev_bind0 e2 (ev_pos v3 (ev_pos (by omega) (ev_some rfl))))))
  by_cases c2 : x = 2
  · obtain ⟨y, a2, s2, e2, v1, v2, v3, v4, v5⟩ := dr_pick hc s1 (shl .i64 1 n) (a := a1) (by omega) (by omega)
    refine ⟨n, l ++ [y], a2, s2, ev_shift ?_, by omega, by omega, by simp; omega⟩
    simp only [spec_l1Cur_gray.j7]
    exact ev_bind0 e1 (ev_neg c0 (ev_neg c1 (ev_pos c2 (ev_pos hn (ev_bind0 e2 (ev_pos (by omega) (ev_some rfl)))))))
  by_cases c3 : x = 3
  · obtain ⟨y, a2, s2, e2, v1, v2, _⟩ := dr_among hc s1 [(-1), 0, wrap64 (n + 1), 10, 11] (by simp) (a := a1) (by omega) (by omega)
    refine ⟨y, l, a2, s2, ev_shift ?_, by omega, by omega, by omega⟩
    simp only [spec_l1Cur_gray.j7]
    exact ev_bind0 e1 (ev_neg c0 (ev_neg c1 (ev_neg c2 (ev_pos c3 (ev_bind0 e2 (ev_some rfl))))))
  · refine ⟨n, l, a1, s1, ev_shift ?_, by omega, by omega, by omega⟩
    simp only [spec_l1Cur_gray.j7]
    exact ev_bind0 e1 (ev_neg c0 (ev_neg c1 (ev_neg c2 (ev_neg c3 (ev_some rfl)))))
theorem dr_gray_j5 {c : List Int} (hc : wfB c) (n : Int) (hn : 0 ≤ n) (hn2 : n ≤ 20) (l : List Int) (h0l : 0 < l.length) (hl : l.length ≤ 40) (a s : Int) (h0 : 0 ≤ a) (h1 : a ≤ 3999999999999997000) : ∃ n' l' a' s', Ev (fun k => spec_l1Cur_gray.j5 k n l c a s) (n', l', a', s') ∧ a ≤ a' ∧ a' ≤ a + 16 ∧ l'.length ≤ 41 := by
  have h6 : ∀ (b : Bool) (a s : Int), 0 ≤ a → a ≤ 3999999999999997500 → ∃ n' l' a' s', Ev (fun k => spec_l1Cur_gray.j6 k n l b c a s) (n', l', a', s') ∧ a ≤ a' ∧ a' ≤ a + 12 ∧ l'.length ≤ 41 := by
    intro b a s h0 h1
    cases b
    · obtain ⟨n', l', a', s', g1, g2, g3, g4⟩ := dr_gray_j7 hc n hn hn2 l h0l hl a s h0 (by omega)
      refine ⟨n', l', a', s', ev_shift ?_, by omega, by omega, g4⟩
      simp only [spec_l1Cur_gray.j6]
      exact ev_neg Bool.false_ne_true g1
    · obtain ⟨x, a1, s1, e1, u1, u2⟩ := dr_one hc s 2 h0 (by omega)
      by_cases hx : x = true
      · obtain ⟨n', l', a', s', g1, g2, g3, g4⟩ := dr_gray_j7 hc n hn hn2 [0, 1, 3, 2, 6, 4, 5, 7] (by decide) (by decide) a1 s1 (by omega) (by omega)
        refine ⟨n', l', a', s', ev_shift ?_, by omega, by omega, g4⟩
        simp only [spec_l1Cur_gray.j6]
        exact ev_pos (by trivial) (ev_bind0 e1 (ev_pos hx g1))
      · obtain ⟨n', l', a', s', g1, g2, g3, g4⟩ := dr_gray_j7 hc n hn hn2 [0, 1, 3, 7, 5, 4, 6, 2] (by decide) (by decide) a1 s1 (by omega) (by omega)
        refine ⟨n', l', a', s', ev_shift ?_, by omega, by omega, g4⟩
        simp only [spec_l1Cur_gray.j6]
        exact ev_pos (by trivial) (ev_bind0 e1 (ev_neg hx g1))
  by_cases h3 : n = 3
  · obtain ⟨x, a1, s1, e1, u1, u2⟩ := dr_one hc s 3 h0 (by omega)
    obtain ⟨n', l', a', s', g1, g2, g3, g4⟩ := h6 x a1 s1 (by omega) (by omega)
    refine ⟨n', l', a', s', ev_shift ?_, by omega, by omega, g4⟩
    simp only [spec_l1Cur_gray.j5]
    exact ev_pos h3 (ev_bind0 e1 g1)
  · obtain ⟨n', l', a', s', g1, g2, g3, g4⟩ := h6 false a s h0 (by omega)
    refine ⟨n', l', a', s', ev_shift ?_, by omega, by omega, g4⟩
    simp only [spec_l1Cur_gray.j5]
    exact ev_neg h3 g1
theorem dr_gray_j4 {c : List Int} (hc : wfB c) (n : Int) (hn : 0 ≤ n) (hn2 : n ≤ 20) (l : List Int) (h0l : 0 < l.length) (hl : l.length ≤ 40) (a s : Int) (h0 : 0 ≤ a) (h1 : a ≤ 3999999999999996000) : ∃ n' l' a' s', Ev (fun k => spec_l1Cur_gray.j4 k n l c a s) (n', l', a', s') ∧ a ≤ a' ∧ a' ≤ a + 20 ∧ l'.length ≤ 41 := by
  obtain ⟨x, a1, s1, e1, u1, u2⟩ := dr_one hc s 3 h0 (by omega)
  by_cases hx : x = true
  · obtain ⟨y, a2, s2, e2, v1, v2, v3, v4, v5⟩ := dr_pick hc s1 (l.length : Int) (a := a1) (by omega) (by omega)
    have hy : y < (l.length : Int) := by
      by_cases h : (l.length : Int) ≤ 1
      · have := v4 h; omega
      · exact v5 (by omega)
    have hlen : (l.drop y.toNat ++ l.take y.toNat).length = l.length := by simp only [List.length_append, List.length_drop, List.length_take]; omega
    obtain ⟨n', l', a', s', g1, g2, g3, g4⟩ := dr_gray_j5 hc n hn hn2 (l.drop y.toNat ++ l.take y.toNat) (by omega) (by omega) a2 s2 (by omega) (by omega)
    refine ⟨n', l', a', s', ev_shift ?_, by omega, by omega, g4⟩
    simp only [spec_l1Cur_gray.j4]
    refine ev_bind0 e1 (ev_pos hx (ev_bind0 e2 (ev_pos v3 (ev_pos (by omega) (ev_bind0 (a := l.drop y.toNat) ?_ (ev_bind0 rfl (ev_pos ?_ g1)))))))
    · unfold spec_l1Own.f; simp; omega
    · rw [← List.length_append, hlen]; omega
  · obtain ⟨n', l', a', s', g1, g2, g3, g4⟩ := dr_gray_j5 hc n hn hn2 l h0l hl a1 s1 (by omega) (by omega)
    refine ⟨n', l', a', s', ev_shift ?_, by omega, by omega, g4⟩
    simp only [spec_l1Cur_gray.j4]
    exact ev_bind0 e1 (ev_neg hx g1)
theorem rd_set_ne {l : List Int} {i j : Nat} {v : Int} (h : i ≠ j) : rd (l.set i v) (j : Int) = rd l (j : Int) := by
  simp only [rd_nat, List.getD_eq_getElem?_getD, List.getElem?_set_ne h]
theorem dr_gray_l1 {c : List Int} (n : Int) (o : List Int) (hp : isPermB o = true) (a2 s2 : Int) : ∀ (f i : Nat) (l : List Int) (L : Nat), i + f = L → l.length = L → L ≤ 40 → (∀ j : Nat, i ≤ j → j < L → 0 ≤ rd l (j : Int) ∧ rd l (j : Int) < 1024) → ∃ l' : List Int, l'.length = L ∧ ∀ r, (Ev (fun k => spec_l1Cur_gray.j4 k n l' c a2 s2) r → Ev (fun k => spec_l1Cur_gray.l1 k n l o (L : Int) (i : Int) c a2 s2) r) := by
  intro f
  induction f with
  | zero =>
    intro i l L hi hl hL _
    refine ⟨l, hl, fun r h => ev_shift ?_⟩
    simp only [spec_l1Cur_gray.l1]
    exact ev_neg (by omega) h
  | succ f ih =>
    intro i l L hi hl hL hr
    have hx := hr i (Nat.le_refl _) (by omega)
    obtain ⟨w, hw⟩ := Int.eq_ofNat_of_zero_le hx.1
    have hw2 : w < 1024 := by omega
    have e1 : wrap64 ((i : Int) + 1) = ((i + 1 : Nat) : Int) := by rw [w64 (by omega) (by omega)]; omega
    obtain ⟨v, hv⟩ : ∃ v : Int, v = ((mvO w 0 o : Nat) : Int) := ⟨_, rfl⟩
    have hr2 : ∀ j : Nat, i + 1 ≤ j → j < L → 0 ≤ rd (l.set i v) (j : Int) ∧ rd (l.set i v) (j : Int) < 1024 := by
      intro j g1 g2
      have e2 : rd (l.set i v) (j : Int) = rd l (j : Int) := rd_set_ne (i := i) (j := j) (v := v) (Nat.ne_of_lt g1)
      rw [e2]
      exact hr j (Nat.le_of_succ_le g1) g2
    obtain ⟨l', hl', k⟩ := ih (i + 1) (l.set i v) L (by omega) (by rw [List.length_set]; exact hl) hL hr2
    refine ⟨l', hl', fun r h => ev_shift ?_⟩
    have hg := spec_gcMoved_ev w hw2 o hp
    rw [← hv] at hg
    have hk := k r h
    simp only [spec_l1Cur_gray.l1, e1, Int.toNat_natCast]
    rw [hw]
    exact ev_pos (by omega) (ev_pos (by omega) (ev_pos (by omega) (ev_bind hg hk)))
theorem dr_gray_l0 {c : List Int} (n : Int) (B : Nat) (hB : B ≤ 5) (z : Nat) (hz : z < 2 ^ B) (a3 s3 : Int) : ∀ (f i : Nat) (l : List Int), i + f = l.length → l.length ≤ 40 → (∀ x ∈ l, 0 ≤ x ∧ x < ((2 ^ B : Nat) : Int)) → ∃ l' : List Int, l'.length = l.length ∧ (∀ x ∈ l', 0 ≤ x ∧ x < ((2 ^ B : Nat) : Int)) ∧ ∀ r, (Ev (fun k => spec_l1Cur_gray.j1 k n l' c a3 s3) r → Ev (fun k => spec_l1Cur_gray.l0 k n l (z : Int) (l.length : Int) (i : Int) c a3 s3) r) := by
  have hp : 2 ^ B ≤ 32 := Nat.le_trans (Nat.pow_le_pow_right (by decide) hB) (by decide)
  intro f
  induction f with
  | zero =>
    intro i l hi hL hr
    refine ⟨l, rfl, hr, fun r h => ev_shift ?_⟩
    simp only [spec_l1Cur_gray.l0]
    exact ev_neg (by omega) h
  | succ f ih =>
    intro i l hi hL hr
    have hx := hr _ (rd_mem (l := l) (j := i) (by omega))
    obtain ⟨w, hw⟩ := Int.eq_ofNat_of_zero_le hx.1
    have hwB : w < 2 ^ B := by omega
    have e1 : wrap64 ((i : Int) + 1) = ((i + 1 : Nat) : Int) := by rw [w64 (by omega) (by omega)]; omega
    have hxx : Go.bits .xor .i64 (w : Int) (z : Int) = ((w ^^^ z : Nat) : Int) := xor_nat (by omega) (by omega)
    have hlt : w ^^^ z < 2 ^ B := Nat.xor_lt_two_pow hwB hz
    obtain ⟨v, hv⟩ : ∃ v : Int, v = ((w ^^^ z : Nat) : Int) := ⟨_, rfl⟩
    have hv2 : 0 ≤ v ∧ v < ((2 ^ B : Nat) : Int) := by rw [hv]; exact ⟨Int.natCast_nonneg _, by exact_mod_cast hlt⟩
    rw [← hv] at hxx
    obtain ⟨l', hl', hr', k⟩ := ih (i + 1) (l.set i v) (by rw [List.length_set]; omega) (by rw [List.length_set]; exact hL) (fun x hx => by
      rcases List.mem_or_eq_of_mem_set hx with hx | rfl
      · exact hr x hx
      · exact hv2)
    rw [List.length_set] at hl'
    refine ⟨l', hl', hr', fun r h => ev_shift ?_⟩
    have hk := k r h
    rw [List.length_set] at hk
    simp only [spec_l1Cur_gray.l0, e1, Int.toNat_natCast]
    rw [hw, hxx]
    exact ev_pos (by omega) (ev_pos (by omega) (ev_pos (by omega) hk))
theorem dr_gray_j1 {c : List Int} (hc : wfB c) (n : Int) (hn : 0 ≤ n) (hn2 : n ≤ 20) (l : List Int) (h0l : 0 < l.length) (hl : l.length ≤ 40) (hr : ∀ x ∈ l, 0 ≤ x ∧ x < 1024) (a s : Int) (h0 : 0 ≤ a) (h1 : a ≤ 3999999999999970000) : ∃ n' l' a' s', Ev (fun k => spec_l1Cur_gray.j1 k n l c a s) (n', l', a', s') ∧ a ≤ a' ∧ a' ≤ a + 90 ∧ l'.length ≤ 41 := by
  obtain ⟨o, a1, s1, e1, u1, u2, u3⟩ := dr_order hc n a s h0 (by omega)
  obtain ⟨x, a2, s2, e2, v1, v2⟩ := dr_one hc s1 2 (a := a1) (by omega) (by omega)
  have hj : ∀ b : Bool, (b = true → isPermB o = true) → ∃ n' l' a' s', Ev (fun k => spec_l1Cur_gray.j2 k n l o b c a2 s2) (n', l', a', s') ∧ a2 ≤ a' ∧ a' ≤ a2 + 20 ∧ l'.length ≤ 41 := by
    intro b hb
    by_cases h : b = true
    · have hp := hb h
      obtain ⟨l2, hl2, k⟩ := dr_gray_l1 (c := c) n o hp a2 s2 l.length 0 l l.length (by omega) rfl hl (fun j _ h2 => hr _ (rd_mem h2))
      obtain ⟨n', l', a', s', g1, g2, g3, g4⟩ := dr_gray_j4 hc n hn hn2 l2 (by omega) (by omega) a2 s2 (by omega) (by omega)
      refine ⟨n', l', a', s', ev_shift ?_, g2, g3, g4⟩
      simp only [spec_l1Cur_gray.j2]
      exact ev_pos h (k _ g1)
    · obtain ⟨n', l', a', s', g1, g2, g3, g4⟩ := dr_gray_j4 hc n hn hn2 l h0l hl a2 s2 (by omega) (by omega)
      refine ⟨n', l', a', s', ev_shift ?_, g2, g3, g4⟩
      simp only [spec_l1Cur_gray.j2]
      exact ev_neg h g1
  by_cases hx : x = true
  · obtain ⟨n', l', a', s', g1, g2, g3, g4⟩ := hj (isPermB o) id
    refine ⟨n', l', a', s', ev_shift ?_, by omega, by omega, g4⟩
    simp only [spec_l1Cur_gray.j1]
    exact ev_bind e1 (ev_bind0 e2 (ev_pos hx (ev_bind (spec_raPermutation_ev o (by omega)) g1)))
  · obtain ⟨n', l', a', s', g1, g2, g3, g4⟩ := hj false (fun c => by cases c)
    refine ⟨n', l', a', s', ev_shift ?_, by omega, by omega, g4⟩
    simp only [spec_l1Cur_gray.j1]
    exact ev_bind e1 (ev_bind0 e2 (ev_neg hx g1))
theorem dr_gray {c : List Int} (hc : wfB c) : ∃ n' l' a' s', Ev (fun k => spec_l1Cur_gray.f k c 0 0) (n', l', a', s') ∧ 0 ≤ a' ∧ a' ≤ 100 ∧ l'.length ≤ 41 := by
  unfold spec_l1Cur_gray.f
  obtain ⟨x, a1, s1, e1, u1, u2, u3, u4, u5⟩ := dr_pick hc 0 5 (a := 0) (by decide) (by decide)
  have hx5 := u5 (by decide)
  obtain ⟨q, rfl⟩ := Int.eq_ofNat_of_zero_le u3
  have ew : wrap64 (1 + (q : Int)) = ((q + 1 : Nat) : Int) := by rw [w64 (by omega) (by omega)]; omega
  have hq : q + 1 ≤ 5 := by omega
  have hpw : 2 ^ (q + 1) ≤ 2 ^ 5 := Nat.pow_le_pow_right (by decide) hq
  have hpp := Nat.two_pow_pos (q + 1)
  obtain ⟨y, a2, s2, e2, v1, v2⟩ := dr_one hc s1 3 (a := a1) (by omega) (by omega)
  have hlen := grL_length (show q + 1 ≤ 10 by omega)
  have hmem : ∀ z ∈ grL (q + 1), 0 ≤ z ∧ z < ((2 ^ (q + 1) : Nat) : Int) := fun z hz => by
    have h := grL_mem (show q + 1 ≤ 10 by omega) hz
    have e : ((2 ^ (q + 1) : Nat) : Int) = (2 : Int) ^ (q + 1) := by simp
    rw [e]; exact h
  by_cases hy : y = true
  · have hsh : shl .i64 1 ((q + 1 : Nat) : Int) = ((2 ^ (q + 1) : Nat) : Int) := (show ∀ n : Fin 11, shl .i64 1 (n.1 : Int) = ((2 ^ n.1 : Nat) : Int) by decide +kernel) ⟨q + 1, by omega⟩
    obtain ⟨z, a3, s3, e3, w1, w2, w3, w4, w5⟩ := dr_pick hc s2 ((2 ^ (q + 1) : Nat) : Int) (a := a2) (by omega) (by omega)
    have hz : z < ((2 ^ (q + 1) : Nat) : Int) := by
      by_cases h : ((2 ^ (q + 1) : Nat) : Int) ≤ 1
      · have := w4 h; omega
      · exact w5 (by omega)
    obtain ⟨z, rfl⟩ := Int.eq_ofNat_of_zero_le w3
    obtain ⟨l', hl', hr', k⟩ := dr_gray_l0 (c := c) ((q + 1 : Nat) : Int) (q + 1) hq z (by omega) a3 s3 (grL (q + 1)).length 0 (grL (q + 1)) (by omega) (by omega) hmem
    obtain ⟨n', l2, a', s', g1, g2, g3, g4⟩ := dr_gray_j1 hc ((q + 1 : Nat) : Int) (by omega) (by omega) l' (by omega) (by omega) (fun x hx => by have := hr' x hx; omega) a3 s3 (by omega) (by omega)
    refine ⟨n', l2, a', s', ?_, by omega, by omega, g4⟩
    refine ev_bind0 e1 ?_
    dsimp only
    rw [ew]
    refine ev_bind (spec_gcList_ev (q + 1) (by omega)) (ev_bind0 e2 (ev_pos hy (ev_pos (by omega) ?_)))
    rw [hsh]
    exact ev_bind0 e3 (k _ g1)
  · obtain ⟨n', l2, a', s', g1, g2, g3, g4⟩ := dr_gray_j1 hc ((q + 1 : Nat) : Int) (by omega) (by omega) (grL (q + 1)) (by omega) (by omega) (fun x hx => by have := hmem x hx; omega) a2 s2 (by omega) (by omega)
    refine ⟨n', l2, a', s', ?_, by omega, by omega, g4⟩
    refine ev_bind0 e1 ?_
    dsimp only
    rw [ew]
    exact ev_bind (spec_gcList_ev (q + 1) (by omega)) (ev_bind0 e2 (ev_neg hy g1))
theorem dr_IsCode {c : List Int} (hc : wfB c) : ∃ n l, Ev (fun k => spec_DrawIsCode.f k c) (n, l) ∧ l.length ≤ 41 := by
  unfold spec_DrawIsCode.f
  obtain ⟨n, l, a, s, e, _, _, h⟩ := dr_gray hc
  exact ⟨n, l, ev_bind e (ev_some rfl), h⟩
theorem w64r (x : Int) : -9223372036854775808 ≤ wrap64 x ∧ wrap64 x ≤ 9223372036854775807 := by unfold wrap64; omega
theorem dr_rank {c : List Int} (hc : wfB c) {a : Int} (s n : Int) (hn : -9223372036854775808 ≤ n) (hn1 : n ≤ 9223372036854775807) (h0 : 0 ≤ a) (h1 : a ≤ 3999999999999999000) : ∃ r a' s', spec_l1Cur_rank.f c a s n = some (r, a', s') ∧ a ≤ a' ∧ a' ≤ a + 8 ∧ -9223372036854775808 ≤ r ∧ r ≤ 9223372036854775807 := by
  unfold spec_l1Cur_rank.f
  obtain ⟨x, a1, s1, e1, u2, u3, u4, u5, u6⟩ := dr_pick hc s 12 h0 (by omega)
  rw [e1]
  simp only [Option.bind_some]
  by_cases c0 : x = 0
  · rw [if_pos c0]
    obtain ⟨r, a2, s2, e2, g2, g3, g4⟩ := dr_among hc s1 [-1, n, wrap64 (n + 1), 4611686018427387904] (by simp) (a := a1) (by omega) (by omega)
    rw [e2]
    have hw := w64r (n + 1)
    generalize hq : wrap64 (n + 1) = q at g4 hw e2; clear hq
    simp only [List.mem_cons, List.not_mem_nil, or_false] at g4
    exact ⟨_, _, _, rfl, by dsimp only; omega, by dsimp only; omega, by dsimp only; omega, by dsimp only; omega⟩
  rw [if_neg c0]
  by_cases c1 : x = 1
  · rw [if_pos c1]
    have hw := w64r (n - 1)
    exact ⟨_, _, _, rfl, by omega, by omega, by omega, by omega⟩
  rw [if_neg c1]
  by_cases c2 : x = 2
  · rw [if_pos c2]
    exact ⟨_, _, _, rfl, by omega, by omega, by omega, by omega⟩
  rw [if_neg c2]
  by_cases c3 : n < 2
  · rw [if_pos c3]
    exact ⟨_, _, _, rfl, by omega, by omega, by omega, by omega⟩
  rw [if_neg c3]
  obtain ⟨y, a2, s2, e2, v2, v3, v4, v5, v6⟩ := dr_pick hc s1 60000 (a := a1) (by omega) (by omega)
  rw [e2]
  simp only [Option.bind_some]
  obtain ⟨z, a3, s3, e3, w2, w3, w4, w5, w6⟩ := dr_pick hc s2 60000 (a := a2) (by omega) (by omega)
  rw [e3]
  simp only [Option.bind_some]
  have := v6 (by decide); have := w6 (by decide)
  rw [if_neg (by omega), w64 (x := y * 60000) (by omega) (by omega), w64 (by omega) (by omega), Int.tmod_eq_emod_of_nonneg (by omega)]
  have g0 := Int.emod_nonneg (y * 60000 + z) (b := n) (by omega)
  have g1 := Int.emod_lt_of_pos (y * 60000 + z) (b := n) (by omega)
  exact ⟨_, _, _, rfl, by omega, by omega, by omega, by omega⟩
theorem spec_l1Most_eq (a b : Int) : spec_l1Most.f a b = some (if a > b then a else b) := by
  unfold spec_l1Most.f
  split <;> rfl
theorem most_of (n B : Int) (t : Nat) (ht : (if B > (if n < 12 then n else 12) then B else (if n < 12 then n else 12)) = (t : Int)) : spec_l1Most.f B (if n < 12 then n else 12) = some (t : Int) := by rw [spec_l1Most_eq, ht]
theorem shl12' : ∀ n : Fin 13, 1 ≤ shl .i64 1 (n.1 : Int) ∧ shl .i64 1 (n.1 : Int) ≤ 4096 := by decide +kernel
theorem dr_word' {c : List Int} (hc : wfB c) {a : Int} (s n : Int) (h0 : 0 ≤ a) (h1 : a ≤ 3999999999999998000) : ∃ t r a' s', spec_l1Least.f n 12 = some (if n < 12 then n else 12) ∧ spec_l1Most.f 0 (if n < 12 then n else 12) = some t ∧ 0 ≤ t ∧ spec_l1Cur_rank.f c a s (shl .i64 1 t) = some (r, a', s') := by
  have h : ∃ t : Nat, t ≤ 12 ∧ (if (0 : Int) > (if n < 12 then n else 12) then 0 else (if n < 12 then n else 12)) = (t : Int) := by
    refine ⟨(if (0 : Int) > (if n < 12 then n else 12) then 0 else (if n < 12 then n else 12)).toNat, ?_, ?_⟩ <;> (split <;> split at * <;> omega)
  obtain ⟨t, ht, e⟩ := h
  have hs := shl12' ⟨t, by omega⟩
  simp only at hs
  obtain ⟨r, a', s', e2, _⟩ := dr_rank hc s (shl .i64 1 (t : Int)) (by omega) (by omega) h0 (by omega)
  exact ⟨t, r, a', s', spec_l1Least_eq _ _, most_of n 0 t e, by omega, e2⟩
theorem dr_FromDeltas_l1 {c : List Int} (hc : wfB c) (n : Int) (f : Nat) : ∀ (l : List Int) (a s : Int), l.length ≤ 1100 → 1100 - l.length ≤ f → 0 ≤ a → a + 2 * (f : Int) ≤ 3999999999999997000 → ∃ r l', Ev (fun k => spec_DrawFromDeltas.l1 k n l c a s) (n, r, l') ∧ l'.length ≤ 1100 := by
  induction f with
  | zero =>
    intro l a s hl hf h0 h1
    obtain ⟨x, a1, s1, e1, u1, u2, u3, u4, u5⟩ := dr_pick hc s 2 h0 (by omega)
    have hx := u5 (by decide)
    obtain ⟨t, r, a', s', f1, f2, f3, f4⟩ := dr_word' hc s1 n (a := a1) (by omega) (by omega)
    refine ⟨r, l, ev_shift ?_, hl⟩
    simp only [spec_DrawFromDeltas.l1]
    exact ev_bind0 e1 (ev_neg (by dsimp only; rw [w64 (by omega) (by omega)]; omega) (ev_bind0 f1 (ev_bind0 f2 (ev_pos f3 (ev_bind0 f4 (ev_some rfl))))))
  | succ f ih =>
    intro l a s hl hf h0 h1
    obtain ⟨x, a1, s1, e1, u1, u2, u3, u4, u5⟩ := dr_pick hc s 2 h0 (by omega)
    have hx := u5 (by decide)
    by_cases hc2 : (l.length : Int) < wrap64 (1099 + x)
    · have hc3 := hc2
      rw [w64 (by omega) (by omega)] at hc3
      obtain ⟨r, l', g1, g2⟩ := ih (l ++ [0]) a1 s1 (by simp; omega) (by simp; omega) (by omega) (by omega)
      refine ⟨r, l', ev_shift ?_, g2⟩
      simp only [spec_DrawFromDeltas.l1]
      exact ev_bind0 e1 (ev_pos hc2 (ev_pos (by omega) g1))
    · obtain ⟨t, r, a', s', f1, f2, f3, f4⟩ := dr_word' hc s1 n (a := a1) (by omega) (by omega)
      refine ⟨r, l, ev_shift ?_, hl⟩
      simp only [spec_DrawFromDeltas.l1]
      exact ev_bind0 e1 (ev_neg hc2 (ev_bind0 f1 (ev_bind0 f2 (ev_pos f3 (ev_bind0 f4 (ev_some rfl))))))
theorem dr_FromDeltas_l0 {c : List Int} (hc : wfB c) (n : Int) (x : Nat) : ∀ (l : List Int) (a s : Int), l.length + x ≤ 100 → 0 ≤ a → a + 2 * (x : Int) ≤ 3999999999999990000 → ∃ r l', Ev (fun k => spec_DrawFromDeltas.l0 k n l (x : Int) c a s) (n, r, l') ∧ l'.length ≤ 1100 := by
  induction x with
  | zero =>
    intro l a s hl h0 h1
    obtain ⟨x, a1, s1, e1, u1, u2, u3, u4, u5⟩ := dr_pick hc s 16 h0 (by omega)
    by_cases c0 : x = 0
    · obtain ⟨z, a2, s2, e2, v1, v2, _⟩ := dr_among hc s1 [(-1), n, 62] (by simp) (a := a1) (by omega) (by omega)
      obtain ⟨t, r, a', s', f1, f2, f3, f4⟩ := dr_word' hc s2 n (a := a2) (by omega) (by omega)
      refine ⟨r, l ++ [z], ev_shift ?_, by simp; omega⟩
      simp only [spec_DrawFromDeltas.l0]
      exact ev_neg (by simp) (ev_bind0 e1 (ev_pos c0 (ev_bind0 e2 (ev_pos (by omega) (ev_bind0 f1 (ev_bind0 f2 (ev_pos f3 (ev_bind0 f4 (ev_some rfl)))))))))
    by_cases c1 : x = 1
    · obtain ⟨r, l', g1, g2⟩ := dr_FromDeltas_l1 hc n 1100 l a1 s1 (by omega) (by omega) (by omega) (by omega)
      refine ⟨r, l', ev_shift ?_, g2⟩
      simp only [spec_DrawFromDeltas.l0]
      exact ev_neg (by simp) (ev_bind0 e1 (ev_neg c0 (ev_pos c1 g1)))
    · obtain ⟨t, r, a', s', f1, f2, f3, f4⟩ := dr_word' hc s1 n (a := a1) (by omega) (by omega)
      refine ⟨r, l, ev_shift ?_, by omega⟩
      simp only [spec_DrawFromDeltas.l0]
      exact ev_neg (by simp) (ev_bind0 e1 (ev_neg c0 (ev_neg c1 (ev_bind0 f1 (ev_bind0 f2 (ev_pos f3 (ev_bind0 f4 (ev_some rfl))))))))
  | succ x ih =>
    intro l a s hl h0 h1
    have h : ∃ t : Nat, (if (1 : Int) > (if n < 12 then n else 12) then 1 else (if n < 12 then n else 12)) = (t : Int) := by
      refine ⟨(if (1 : Int) > (if n < 12 then n else 12) then 1 else (if n < 12 then n else 12)).toNat, ?_⟩
      split <;> split at * <;> omega
    obtain ⟨t, ht⟩ := h
    obtain ⟨y, a1, s1, e1, u1, u2, _⟩ := dr_pick hc s (t : Int) h0 (by omega)
    have ew : wrap64 (((x + 1 : Nat) : Int) - 1) = (x : Int) := by rw [w64 (by omega) (by omega)]; omega
    obtain ⟨r, l', g1, g2⟩ := ih (l ++ [y]) a1 s1 (by simp; omega) (by omega) (by omega)
    refine ⟨r, l', ev_shift ?_, g2⟩
    simp only [spec_DrawFromDeltas.l0, ew]
    exact ev_pos (by omega) (ev_bind0 (spec_l1Least_eq _ _) (ev_bind0 (most_of n 1 t ht) (ev_bind0 e1 (ev_pos (by omega) g1))))
theorem dr_FromDeltas {c : List Int} (hc : wfB c) : ∃ n r l, Ev (fun k => spec_DrawFromDeltas.f k c) (n, r, l) ∧ l.length ≤ 1100 := by
  unfold spec_DrawFromDeltas.f
  obtain ⟨n, a1, s1, e1, u2, u3, u4, u5⟩ := dr_bits2 hc 0 6 (by decide) (by decide) (a := 0) (by decide) (by decide)
  obtain ⟨z, a2, s2, e2, v1, v2, v3⟩ := dr_among hc s1 [3, 10, 40] (by simp) (a := a1) (by omega) (by omega)
  simp only [List.mem_cons, List.not_mem_nil, or_false] at v3
  obtain ⟨x, a3, s3, e3, w1, w2, w3, w4, w5⟩ := dr_pick hc s2 z (a := a2) (by omega) (by omega)
  have hx := w5 (by omega)
  obtain ⟨x, rfl⟩ := Int.eq_ofNat_of_zero_le w3
  obtain ⟨r, l, g1, g2⟩ := dr_FromDeltas_l0 hc n x [] a3 s3 (by simp; omega) (by omega) (by omega)
  exact ⟨n, r, l, ev_bind0 e1 (ev_bind0 e2 (ev_bind0 e3 g1)), g2⟩
theorem spec_gcBit_ev (a b : Nat) (ha : a < 1024) (hb : b < 1024) : Ev (fun k => spec_gcBit.f k (a : Int) (b : Int)) (bitOf (a ^^^ b)) := by
  have hx : a ^^^ b < 1024 := Nat.xor_lt_two_pow (n := 10) ha hb
  have hxx : Go.bits .xor .i64 (a : Int) (b : Int) = ((a ^^^ b : Nat) : Int) := xor_nat (by omega) (by omega)
  have t : ∀ x : Fin 1024, ∀ i : Fin 10, (((x.1 : Nat) : Int) = shl .i64 1 (i.1 : Int)) = (x.1 = 2 ^ i.1) := by
    intro x i
    have t2 : ∀ i : Fin 10, shl .i64 1 (i.1 : Int) = ((2 ^ i.1 : Nat) : Int) := by decide +kernel
    rw [t2 i]
    exact propext ⟨fun h => by exact_mod_cast h, fun h => by rw [h]⟩
  have key : ∀ d i : Nat, i + d = 10 → (∀ j, j < i → a ^^^ b ≠ 2 ^ j) → Ev (fun k => spec_gcBit.l0 k (a : Int) (b : Int) (i : Int)) (bitOf (a ^^^ b)) := by
    intro d
    induction d with
    | zero =>
      intro i hi hn
      refine ev_shift ?_
      simp only [spec_gcBit.l0]
      refine ev_neg (by omega) (ev_some ?_)
      rcases bitOf_cases hx with h | ⟨j, hj, _, he⟩
      · exact h.1.symm
      · exact absurd he (hn j (by omega))
    | succ d ih =>
      intro i hi hn
      have e1 : wrap64 ((i : Int) + 1) = ((i + 1 : Nat) : Int) := by rw [w64 (by omega) (by omega)]; omega
      refine ev_shift ?_
      simp only [spec_gcBit.l0, hxx, e1]
      refine ev_pos (by omega) (ev_pos (by omega) ?_)
      by_cases he : a ^^^ b = 2 ^ i
      · refine ev_pos (by rw [t ⟨_, hx⟩ ⟨i, by omega⟩]; exact he) (ev_some ?_)
        rw [he]; exact (bitOf_pow (by omega)).symm
      · refine ev_neg (by rw [t ⟨_, hx⟩ ⟨i, by omega⟩]; exact he) (ih (i + 1) (by omega) (fun j hj => ?_))
        by_cases e : j = i
        · subst e; exact he
        · exact hn j (by omega)
  exact key 10 0 rfl (fun j hj => by omega)
theorem u64_of (x : Nat) (h : x < 1000000) : IntKind.u64.wrap (x : Int) = (x : Int) := by
  have : IntKind.u64.wrap (x : Int) = (x : Int) % 18446744073709551616 := by simp [IntKind.wrap, IntKind.bits, IntKind.signed]
  rw [this]; omega
theorem tz_of (x : Nat) (h : x < 1000000) : bits_TrailingZeros.f (x : Int) = some (Lib.ctz 64 x : Int) := by
  unfold bits_TrailingZeros.f
  rw [if_pos ⟨by omega, by omega⟩, Int.toNat_natCast]
theorem oc_table : ∀ w : Fin 1024, bits_OnesCount.f (IntKind.u64.wrap (w.1 : Int)) = some (popc 10 w.1 : Int) := by decide +kernel
theorem spec_gcBit_int (a b : Int) (ha : 0 ≤ a ∧ a < 1024) (hb : 0 ≤ b ∧ b < 1024) : Ev (fun k => spec_gcBit.f k a b) (dl a b) := by
  obtain ⟨a, rfl⟩ := Int.eq_ofNat_of_zero_le ha.1
  obtain ⟨b, rfl⟩ := Int.eq_ofNat_of_zero_le hb.1
  exact spec_gcBit_ev a b (by omega) (by omega)
theorem impl_delta_int (a b : Int) (ha : 0 ≤ a ∧ a < 1024) (hb : 0 ≤ b ∧ b < 1024) : impl_delta.f a b = some (dl a b) := by
  obtain ⟨a, rfl⟩ := Int.eq_ofNat_of_zero_le ha.1
  obtain ⟨b, rfl⟩ := Int.eq_ofNat_of_zero_le hb.1
  have hx : a ^^^ b < 1024 := Nat.xor_lt_two_pow (n := 10) (by omega) (by omega)
  have hxx : Go.bits .xor .i64 (a : Int) (b : Int) = ((a ^^^ b : Nat) : Int) := xor_nat (by omega) (by omega)
  have h1 := oc_table ⟨a ^^^ b, hx⟩
  simp only at h1
  unfold impl_delta.f dl bitOf
  rw [hxx, h1, Int.toNat_natCast, Int.toNat_natCast, Option.bind_some, u64_of _ (by omega), tz_of _ (by omega)]
  by_cases hc : popc 10 (a ^^^ b) = 1
  · rw [if_pos hc, if_pos (by omega)]; rfl
  · rw [if_neg hc, if_neg (by omega)]
theorem spec_gcDeltas_ev (l : List Int) (hr : ∀ x ∈ l, 0 ≤ x ∧ x < 1024) (hl : l.length ≤ 1000000) : Ev (fun k => spec_gcDeltas.f k l) (pairR [] (dls l)) := by
  cases l with
  | nil =>
    unfold spec_gcDeltas.f
    refine ev_shift ?_
    simp only [spec_gcDeltas.l0]
    exact ev_neg (by simp) (ev_some rfl)
  | cons y r =>
    have key : ∀ suf pre, y :: r = pre ++ suf → ∀ q p out, pre = q ++ [p] → out.length = q.length → Ev (fun k => spec_gcDeltas.l0 k (y :: r) out (pre.length : Int)) (pairR out (dlF p suf)) := by
      refine range_ind (l := y :: r) (by omega) (fun pre suf => ∀ q p out, pre = q ++ [p] → out.length = q.length → Ev (fun k => spec_gcDeltas.l0 k (y :: r) out (pre.length : Int)) (pairR out (dlF p suf))) ?_ ?_
      · intro q p out _ _
        refine ev_shift ?_
        simp only [spec_gcDeltas.l0]
        exact ev_neg (by omega) (ev_some (by simp [pairR, dlF]))
      · intro pre x suf h hx h1 h2 h3 ih q p out hq ho
        have hp := rd_prev q p (x :: suf) (by rw [← hq]; rw [h] at hl; simp at hl ⊢; omega)
        rw [← hq, ← h] at hp
        have hql : pre.length = q.length + 1 := by rw [hq]; simp
        have hpr := hr p (by rw [h, hq]; simp)
        have hxr := hr x (by rw [h]; simp)
        refine ev_shift ?_
        simp only [spec_gcDeltas.l0, hx, h3, hp.1, hp.2, dlF]
        refine ev_pos h1 (ev_pos (by omega) (ev_pos (by omega) (ev_pos h2 (ev_bind (spec_gcBit_int p x hpr hxr) ?_))))
        by_cases hlt : dl p x < 0
        · refine ev_pos hlt (ev_some ?_)
          rw [if_pos hlt]; rfl
        · refine ev_neg hlt (ev_pos (by omega) ?_)
          rw [if_neg hlt, pairR_cons]
          exact ih pre x (out ++ [dl p x]) rfl (by simp; omega)
    exact key r [y] rfl [] y [] rfl rfl
theorem impl_deltas_ev (l : List Int) (hr : ∀ x ∈ l, 0 ≤ x ∧ x < 1024) (hl : l.length ≤ 1000000) : Ev (fun k => impl_deltas.f k l) (pairR [] (dls l)) := by
  cases l with
  | nil =>
    unfold impl_deltas.f
    refine ev_shift ?_
    simp only [impl_deltas.l0]
    exact ev_neg (by simp) (ev_some rfl)
  | cons y r =>
    have key : ∀ suf pre, y :: r = pre ++ suf → ∀ q p out, pre = q ++ [p] → out.length = q.length → Ev (fun k => impl_deltas.l0 k (y :: r) out (pre.length : Int)) (pairR out (dlF p suf)) := by
      refine range_ind (l := y :: r) (by omega) (fun pre suf => ∀ q p out, pre = q ++ [p] → out.length = q.length → Ev (fun k => impl_deltas.l0 k (y :: r) out (pre.length : Int)) (pairR out (dlF p suf))) ?_ ?_
      · intro q p out _ _
        refine ev_shift ?_
        simp only [impl_deltas.l0]
        exact ev_neg (by omega) (ev_some (by simp [pairR, dlF]))
      · intro pre x suf h hx h1 h2 h3 ih q p out hq ho
        have hp := rd_prev q p (x :: suf) (by rw [← hq]; rw [h] at hl; simp at hl ⊢; omega)
        rw [← hq, ← h] at hp
        have hql : pre.length = q.length + 1 := by rw [hq]; simp
        have hpr := hr p (by rw [h, hq]; simp)
        have hxr := hr x (by rw [h]; simp)
        refine ev_shift ?_
        simp only [impl_deltas.l0, hx, h3, hp.1, hp.2, dlF]
        refine ev_pos h1 (ev_pos (by omega) (ev_pos (by omega) (ev_pos h2 (ev_bind0 (impl_delta_int p x hpr hxr) ?_))))
        by_cases hlt : dl p x < 0
        · refine ev_pos hlt (ev_some ?_)
          rw [if_pos hlt]; rfl
        · refine ev_neg hlt (ev_pos (by omega) ?_)
          rw [if_neg hlt, pairR_cons]
          exact ih pre x (out ++ [dl p x]) rfl (by simp; omega)
    exact key r [y] rfl [] y [] rfl rfl
theorem spec_DeltasOf_ev (n : Int) (l : List Int) (hl : l.length ≤ 9000000000000000000) : Ev (fun k => spec_DeltasOf.f k n l) (dfP n l) := by
  unfold spec_DeltasOf.f dfP
  refine ev_bind (spec_gcWords_ev n l hl) ?_
  by_cases h : areW n l = true
  · rw [if_pos h]
    exact ev_pos h (ev_bind (spec_gcDeltas_ev l (areW_range h) (by have := (areW_iff.1 h).2.1; omega)) (ev_some rfl))
  · rw [if_neg h]
    exact ev_neg h (ev_some rfl)
theorem impl_DeltasOf_ev (n : Int) (l : List Int) (hl : l.length ≤ 9000000000000000000) : Ev (fun k => impl_DeltasOf.f k n l) (dfP n l) := by
  unfold impl_DeltasOf.f dfP
  refine ev_bind (impl_areWords_ev n l hl) ?_
  by_cases h : areW n l = true
  · rw [if_pos h]
    exact ev_pos h (ev_bind (impl_deltas_ev l (areW_range h) (by have := (areW_iff.1 h).2.1; omega)) (ev_some rfl))
  · rw [if_neg h]
    exact ev_neg h (ev_some rfl)
theorem impl_counted_ev (m : Nat) (hm : m ≤ 10) (d : List Int) (hr : ∀ x ∈ d, 0 ≤ x ∧ x < m) (hl : d.length ≤ 1000000) : Ev (fun k => impl_counted.f k (m : Int) d) (cnts m d) := by
  unfold impl_counted.f
  refine ev_pos (by omega) (ev_pos (by omega) ?_)
  rw [Int.toNat_natCast, cnts_nil]
  have hle : d.length ≤ 9000000000000000000 := by omega
  refine range_all hle (fun pre suf => Ev (fun k => impl_counted.l0 k (cnts m pre) d (d.length : Int) (pre.length : Int)) (cnts m d)) ?_ ?_
  · refine ev_shift ?_
    simp only [impl_counted.l0]
    exact ev_neg (by omega) (ev_some rfl)
  · intro pre x suf h hx h1 h2 h3 ih
    have hxr := hr x (by rw [h]; simp)
    obtain ⟨q, rfl⟩ := Int.eq_ofNat_of_zero_le hxr.1
    have hc : pre.count ((q : Nat) : Int) ≤ pre.length := List.count_le_length
    refine ev_shift ?_
    simp only [impl_counted.l0, hx, h3]
    refine ev_pos h1 (ev_pos h2 (ev_pos h1 (ev_pos hxr.1 (ev_pos (by rw [cnts_length]; exact hxr.2) ?_))))
    have hq : q < m := by omega
    rw [w64 (by rw [cnts_rd _ hq]; omega) (by rw [cnts_rd _ hq]; omega), Int.toNat_natCast, cnts_step _ hq]
    exact ih
theorem impl_ChangesOf_ev (n : Int) (l : List Int) (hl : l.length ≤ 9000000000000000000) : Ev (fun k => impl_ChangesOf.f k n l) (chP n l) := by
  unfold impl_ChangesOf.f chP
  refine ev_bind (impl_areWords_ev n l hl) ?_
  by_cases h : areW n l = true
  · obtain ⟨m, rfl, h1, h2, h3, h4⟩ := areW_nat h
    rw [if_pos h, Int.toNat_natCast]
    refine ev_pos h (ev_bind (impl_deltas_ev l (areW_range h) (by omega)) ?_)
    cases hd : dls l with
    | none => exact ev_neg (by simp [pairR]) (ev_some rfl)
    | some d =>
      have := dls_len hd
      exact ev_pos (by simp [pairR]) (ev_bind (by simpa [pairR] using impl_counted_ev m h2 d (dls_mem h2 h4 hd) (by omega)) (ev_some rfl))
  · rw [if_neg h]
    exact ev_neg h (ev_some rfl)
theorem rd_last (l : List Int) (h : 0 < l.length) (h2 : l.length ≤ 1000000) : wrap64 ((l.length : Int) - 1) = ((l.length - 1 : Nat) : Int) ∧ rd l ((l.length - 1 : Nat) : Int) = lastZ l := by
  have e : ((l.length - 1 : Nat) : Int) = (l.length : Int) - 1 := by omega
  refine ⟨by rw [w64 (by omega) (by omega), e], ?_⟩
  unfold lastZ; rw [e]
theorem spec_gcCode_ev (n : Nat) (hn : n ≤ 10) (l : List Int) (hr : ∀ x ∈ l, 0 ≤ x ∧ x < 1024) (hl : l.length ≤ 1000000) : Ev (fun k => spec_gcCode.f k (n : Int) l) (codeB (n : Int) l) := by
  unfold spec_gcCode.f
  have hle : l.length ≤ 9000000000000000000 := by omega
  have key : ∀ suf pre, l = pre ++ suf → pre.Nodup → Ev (fun k => spec_gcCode.l0 k (n : Int) l l (l.length : Int) (pre.length : Int)) (codeB (n : Int) l) := by
    refine range_ind hle (fun pre suf => pre.Nodup → Ev (fun k => spec_gcCode.l0 k (n : Int) l l (l.length : Int) (pre.length : Int)) (codeB (n : Int) l)) ?_ ?_
    · intro hnd
      refine ev_shift ?_
      simp only [spec_gcCode.l0]
      refine ev_neg (by omega) (ev_bind (spec_gcDeltas_ev l hr hl) ?_)
      unfold codeB
      rw [decide_eq_true hnd, Bool.true_and]
      cases hd : dls l with
      | none => exact ev_neg (by simp [pairR]) (ev_some rfl)
      | some d =>
        refine ev_pos (by simp [pairR]) (ev_pos (by omega) (ev_some ?_))
        rw [Bool.eq_iff_iff]; simp
    · intro pre x suf h hx h1 h2 h3 ih hnd
      have ht : l.take pre.length = pre := by rw [h]; simp
      refine ev_shift ?_
      simp only [spec_gcCode.l0, hx, h3, Int.toNat_natCast, ht]
      refine ev_pos h1 (ev_pos h2 (ev_pos h1 (ev_pos (by omega) (ev_bind (spec_l1Has_ev pre x (by omega)) ?_))))
      by_cases hc : pre.contains x = true
      · refine ev_pos hc (ev_some ?_)
        have : ¬ l.Nodup := by
          rw [h, List.nodup_append]
          rintro ⟨_, _, h5⟩
          exact h5 x (by simpa using hc) x (by simp) rfl
        unfold codeB
        rw [decide_eq_false this, Bool.false_and]
      · refine ev_neg hc (ih ?_)
        rw [List.nodup_append]
        refine ⟨hnd, by simp, ?_⟩
        intro a ha b hb e
        simp only [List.mem_singleton] at hb
        subst hb; subst e
        exact hc (by simpa using ha)
  exact key l [] rfl (by simp)
theorem impl_isCode_ev (n : Nat) (hn : n ≤ 10) (l : List Int) (hr : ∀ x ∈ l, 0 ≤ x ∧ x < 1024) (hl : l.length ≤ 1000000) : Ev (fun k => impl_isCode.f k (n : Int) l) (codeB (n : Int) l) := by
  unfold impl_isCode.f codeB
  refine ev_bind (impl_deltas_ev l hr hl) ?_
  cases hd : dls l with
  | none => exact ev_neg (by simp [pairR]) (ev_some (by simp))
  | some d =>
    refine ev_pos (by simp [pairR]) (ev_pos (by omega) ?_)
    by_cases h : (l.length : Int) = shl .i64 1 (n : Int)
    · refine ev_pos h (ev_bind0 (a := incr (sortZ l)) (by unfold impl_different.f; rw [if_pos hl]) (ev_some ?_))
      rw [incr_sortZ, decide_eq_true h]; simp
    · refine ev_neg h (ev_some ?_)
      rw [decide_eq_false h]; simp
theorem code_len {n : Nat} (hn : n ≤ 10) {l : List Int} (h : codeB (n : Int) l = true) : l.length = 2 ^ n := by
  simp only [codeB, Bool.and_eq_true, decide_eq_true_eq] at h
  have := h.2.2
  rw [shl_one' hn] at this
  exact_mod_cast this
theorem spec_IsCode_ev (n : Int) (l : List Int) (hl : l.length ≤ 9000000000000000000) : Ev (fun k => spec_IsCode.f k n l) (icP n l) := by
  unfold spec_IsCode.f icP
  refine ev_bind (spec_gcWords_ev n l hl) ?_
  by_cases h : areW n l = true
  · obtain ⟨m, rfl, h1, h2, h3, h4⟩ := areW_nat h
    rw [if_pos h]
    exact ev_pos h (ev_bind (spec_gcCode_ev m h2 l (areW_range h) (by omega)) (ev_some rfl))
  · rw [if_neg h]
    exact ev_neg h (ev_some rfl)
theorem impl_IsCode_ev (n : Int) (l : List Int) (hl : l.length ≤ 9000000000000000000) : Ev (fun k => impl_IsCode.f k n l) (icP n l) := by
  unfold impl_IsCode.f icP
  refine ev_bind (impl_areWords_ev n l hl) ?_
  by_cases h : areW n l = true
  · obtain ⟨m, rfl, h1, h2, h3, h4⟩ := areW_nat h
    rw [if_pos h]
    exact ev_pos h (ev_bind (impl_isCode_ev m h2 l (areW_range h) (by omega)) (ev_some rfl))
  · rw [if_neg h]
    exact ev_neg h (ev_some rfl)
theorem spec_gcRound_ev (n : Nat) (hn : n ≤ 10) (l : List Int) (hr : ∀ x ∈ l, 0 ≤ x ∧ x < 1024) (hl : l.length ≤ 1000000) : Ev (fun k => spec_gcRound.f k (n : Int) l) (roundB (n : Int) l) := by
  unfold spec_gcRound.f roundB
  refine ev_bind (spec_gcCode_ev n hn l hr hl) ?_
  by_cases h : codeB (n : Int) l = true
  · have hlen := code_len hn h
    have hp := Nat.two_pow_pos n
    have hla := rd_last l (by omega) hl
    rw [h, Bool.true_and, hla.1, hla.2]
    refine ev_pos rfl (ev_pos (by omega) (ev_pos (by omega) (ev_pos (by omega) (ev_bind (spec_gcBit_int _ _ (hr _ ?_) (hr _ ?_)) (ev_some rfl)))))
    · rw [← hla.2]; exact rd_mem (by omega)
    · exact rd_mem (j := 0) (by omega)
  · simp only [Bool.not_eq_true] at h
    rw [h]
    exact ev_neg (by simp) (ev_some rfl)
theorem impl_isRoundCode_ev (n : Nat) (hn : n ≤ 10) (l : List Int) (hr : ∀ x ∈ l, 0 ≤ x ∧ x < 1024) (hl : l.length ≤ 1000000) : Ev (fun k => impl_isRoundCode.f k (n : Int) l) (roundB (n : Int) l) := by
  unfold impl_isRoundCode.f roundB
  refine ev_bind (impl_isCode_ev n hn l hr hl) ?_
  by_cases h : codeB (n : Int) l = true
  · have hlen := code_len hn h
    have hp := Nat.two_pow_pos n
    have hla := rd_last l (by omega) hl
    rw [h, Bool.true_and, hla.1, hla.2]
    refine ev_pos rfl (ev_pos (by omega) (ev_pos (by omega) (ev_pos (by omega) (ev_bind0 (impl_delta_int _ _ (hr _ ?_) (hr _ ?_)) (ev_some rfl)))))
    · rw [← hla.2]; exact rd_mem (by omega)
    · exact rd_mem (j := 0) (by omega)
  · simp only [Bool.not_eq_true] at h
    rw [h]
    exact ev_neg (by simp) (ev_some rfl)
theorem spec_IsRoundCode_ev (n : Int) (l : List Int) (hl : l.length ≤ 9000000000000000000) : Ev (fun k => spec_IsRoundCode.f k n l) (irP n l) := by
  unfold spec_IsRoundCode.f irP
  refine ev_bind (spec_gcWords_ev n l hl) ?_
  by_cases h : areW n l = true
  · obtain ⟨m, rfl, h1, h2, h3, h4⟩ := areW_nat h
    rw [if_pos h]
    exact ev_pos h (ev_bind (spec_gcRound_ev m h2 l (areW_range h) (by omega)) (ev_some rfl))
  · rw [if_neg h]
    exact ev_neg h (ev_some rfl)
theorem impl_IsRoundCode_ev (n : Int) (l : List Int) (hl : l.length ≤ 9000000000000000000) : Ev (fun k => impl_IsRoundCode.f k n l) (irP n l) := by
  unfold impl_IsRoundCode.f irP
  refine ev_bind (impl_areWords_ev n l hl) ?_
  by_cases h : areW n l = true
  · obtain ⟨m, rfl, h1, h2, h3, h4⟩ := areW_nat h
    rw [if_pos h]
    exact ev_pos h (ev_bind (impl_isRoundCode_ev m h2 l (areW_range h) (by omega)) (ev_some rfl))
  · rw [if_neg h]
    exact ev_neg h (ev_some rfl)
theorem spec_gcWord_eq (n w : Int) (h : 0 ≤ n) : spec_gcWord.f n w = some (inR w 0 (top n)) := by simp only [spec_gcWord.f, if_pos h, spec_l1In_eq, Option.bind_some, top]
theorem impl_isWord_eq (n w : Int) : impl_isWord.f n w = some (isW n w) := by
  simp only [impl_isWord.f, impl_isBits_eq, impl_within_eq, Option.bind_some, isW, top]
  by_cases h : inR n 1 10 = true
  · have := inR_iff.1 h
    rw [if_pos h, if_pos (by omega), h, Bool.true_and]
  · simp only [Bool.not_eq_true] at h
    simp [h]
def fromD (n s : Int) (l : List Int) : List Int × Bool := if isW n s = true ∧ (l.length : Int) ≤ 1099 ∧ allIn l 0 (n - 1) = true then (s :: scanX s l, true) else ([], false)
theorem spec_FromDeltas_ev (n s : Int) (l : List Int) (hl : l.length ≤ 9000000000000000000) : Ev (fun k => spec_FromDeltas.f k n s l) (fromD n s l) := by
  have bad : (¬ (isW n s = true ∧ (l.length : Int) ≤ 1099 ∧ allIn l 0 (n - 1) = true)) → Ev (fun k => spec_FromDeltas.j0 k s l true) (fromD n s l) := by
    intro h
    unfold fromD
    rw [if_neg h]
    refine ev_shift ?_
    simp only [spec_FromDeltas.j0]
    exact ev_pos (by trivial) (ev_some rfl)
  unfold spec_FromDeltas.f
  refine ev_bind0 (spec_gcBits_eq _) ?_
  by_cases hn : inR n 1 10 = true
  case neg =>
    exact ev_neg hn (bad (fun h => hn (by have := h.1; simp only [isW, Bool.and_eq_true] at this; exact this.1)))
  have hn' := inR_iff.1 hn
  refine ev_pos hn (ev_bind0 (spec_gcWord_eq n s (by omega)) ?_)
  by_cases hw : inR s 0 (top n) = true
  case neg =>
    exact ev_neg hw (bad (fun h => hw (by have := h.1; simp only [isW, Bool.and_eq_true] at this; exact this.2)))
  refine ev_pos hw ?_
  by_cases hlen : (l.length : Int) > 1099
  · exact ev_pos hlen (bad (fun h => by omega))
  refine ev_neg hlen ?_
  rw [w64 (by omega) (by omega)]
  refine ev_bind (spec_l1All_ev l 0 (n - 1) hl) ?_
  by_cases ha : allIn l 0 (n - 1) = true
  case neg =>
    simp only [Bool.not_eq_true] at ha
    rw [ha]
    exact bad (fun h => by rw [ha] at h; exact absurd h.2.2 (by simp))
  have good : fromD n s l = (s :: scanX s l, true) := by
    unfold fromD
    rw [if_pos ⟨by simp only [isW, hn, hw, Bool.and_self], by omega, ha⟩]
  rw [ha, good]
  have hge : ∀ x ∈ l, 0 ≤ x := fun x hx => (allIn_iff.1 ha x hx).1
  refine ev_shift ?_
  simp only [spec_FromDeltas.j0]
  refine ev_neg (by simp) ?_
  have key : ∀ suf pre, l = pre ++ suf → ∀ (t : Int) (out : List Int), out.length = pre.length + 1 → Ev (fun k => spec_FromDeltas.l0 k t out l (l.length : Int) (pre.length : Int)) (out ++ scanX t suf, true) := by
    refine range_ind hl (fun pre suf => ∀ (t : Int) (out : List Int), out.length = pre.length + 1 → Ev (fun k => spec_FromDeltas.l0 k t out l (l.length : Int) (pre.length : Int)) (out ++ scanX t suf, true)) ?_ ?_
    · intro t out _
      refine ev_shift ?_
      simp only [spec_FromDeltas.l0]
      exact ev_neg (by omega) (ev_some (by simp [scanX]))
    · intro pre x suf h hx h1 h2 h3 ih t out ho
      have hx0 : 0 ≤ x := hge x (by rw [h]; simp)
      refine ev_shift ?_
      simp only [spec_FromDeltas.l0, hx, h3]
      refine ev_pos h1 (ev_pos h2 (ev_pos h1 (ev_pos hx0 (ev_pos (by omega) ?_))))
      have := ih (Go.bits .xor .i64 t (shl .i64 1 x)) (out ++ [Go.bits .xor .i64 t (shl .i64 1 x)]) (by simp [ho])
      simpa only [scanX, List.append_assoc, List.singleton_append] using this
  exact key l [] rfl s [s] rfl
theorem impl_FromDeltas_ev (n s : Int) (l : List Int) (hl : l.length ≤ 9000000000000000000) : Ev (fun k => impl_FromDeltas.f k n s l) (fromD n s l) := by
  have bad : (¬ (isW n s = true ∧ (l.length : Int) ≤ 1099 ∧ allIn l 0 (n - 1) = true)) → Ev (fun k => impl_FromDeltas.j0 k s l true) (fromD n s l) := by
    intro h
    unfold fromD
    rw [if_neg h]
    refine ev_shift ?_
    simp only [impl_FromDeltas.j0]
    exact ev_pos (by trivial) (ev_some rfl)
  unfold impl_FromDeltas.f
  refine ev_bind0 (impl_isWord_eq _ _) ?_
  by_cases hw : isW n s = true
  case neg =>
    exact ev_neg hw (bad (fun h => hw h.1))
  have hn' := (isW_iff.1 hw).1
  refine ev_pos hw ?_
  by_cases hlen : (l.length : Int) > 1099
  · exact ev_pos hlen (bad (fun h => by omega))
  refine ev_neg hlen ?_
  rw [w64 (by omega) (by omega)]
  refine ev_bind (impl_allWithin_ev l 0 (n - 1) hl) ?_
  by_cases ha : allIn l 0 (n - 1) = true
  case neg =>
    simp only [Bool.not_eq_true] at ha
    rw [ha]
    exact bad (fun h => by rw [ha] at h; exact absurd h.2.2 (by simp))
  have good : fromD n s l = (s :: scanX s l, true) := by
    unfold fromD
    rw [if_pos ⟨hw, by omega, ha⟩]
  rw [ha, good]
  have hge : ∀ x ∈ l, 0 ≤ x := fun x hx => (allIn_iff.1 ha x hx).1
  refine ev_shift ?_
  simp only [impl_FromDeltas.j0]
  refine ev_neg (by simp) ?_
  have key : ∀ suf pre, l = pre ++ suf → ∀ (t : Int) (out : List Int), out.length = pre.length → Ev (fun k => impl_FromDeltas.l0 k (out ++ [t]) l (l.length : Int) (pre.length : Int)) (out ++ t :: scanX t suf, true) := by
    refine range_ind hl (fun pre suf => ∀ (t : Int) (out : List Int), out.length = pre.length → Ev (fun k => impl_FromDeltas.l0 k (out ++ [t]) l (l.length : Int) (pre.length : Int)) (out ++ t :: scanX t suf, true)) ?_ ?_
    · intro t out _
      refine ev_shift ?_
      simp only [impl_FromDeltas.l0]
      exact ev_neg (by omega) (ev_some (by simp [scanX]))
    · intro pre x suf h hx h1 h2 h3 ih t out ho
      have hx0 : 0 ≤ x := hge x (by rw [h]; simp)
      have ht : rd (out ++ [t]) (pre.length : Int) = t := by rw [← ho]; exact rd_at out t []
      refine ev_shift ?_
      simp only [impl_FromDeltas.l0, hx, h3, ht]
      refine ev_pos h1 (ev_pos h2 (ev_pos h1 (ev_pos (by simp; omega) (ev_pos hx0 (ev_pos (by simp [ho]; omega) ?_)))))
      have := ih (Go.bits .xor .i64 t (shl .i64 1 x)) (out ++ [t]) (by simp [ho])
      simpa only [scanX, List.append_assoc, List.singleton_append] using this
  exact key l [] rfl s [] rfl
theorem laws_uSame_ev (l : List Int) (hl : l.length ≤ 9000000000000000000) : Ev (fun k => laws_uSame.f k l l) true := by
  unfold laws_uSame.f
  refine ev_pos rfl ?_
  refine range_all hl (fun pre suf => Ev (fun k => laws_uSame.l0 k l l (l.length : Int) (pre.length : Int)) true) ?_ ?_
  · refine ev_shift ?_
    simp only [laws_uSame.l0]
    exact ev_neg (by omega) (ev_some rfl)
  · intro pre x suf h hx h1 h2 h3 ih
    refine ev_shift ?_
    simp only [laws_uSame.l0, h3]
    exact ev_pos h1 (ev_pos h2 (ev_pos h1 (ev_pos h1 (ev_pos (by trivial) ih))))
theorem laws_uHas_ev (l : List Int) (x : Int) (hl : l.length ≤ 9000000000000000000) : Ev (fun k => laws_uHas.f k l x) (l.contains x) := by
  unfold laws_uHas.f
  refine range_all hl (fun pre suf => Ev (fun k => laws_uHas.l0 k x l (l.length : Int) (pre.length : Int)) (suf.contains x)) ?_ ?_
  · refine ev_shift ?_
    simp only [laws_uHas.l0]
    exact ev_neg (by omega) (ev_some rfl)
  · intro pre y suf h hx h1 h2 h3 ih
    refine ev_shift ?_
    simp only [laws_uHas.l0, hx, h3]
    refine ev_pos h1 (ev_pos h2 (ev_pos h1 ?_))
    by_cases e : y = x
    · exact ev_pos e (ev_some (by simp [e]))
    · refine ev_neg e ?_
      have : (y :: suf).contains x = suf.contains x := by simp [Ne.symm e]
      rw [this]; exact ih
theorem fromD_len (n s : Int) (l : List Int) : (fromD n s l).1.length ≤ 1100 := by
  unfold fromD
  split
  · rename_i h
    have e : ∀ (l : List Int) (s : Int), (scanX s l).length = l.length := by
      intro l
      induction l with
      | nil => intro s; rfl
      | cons x r ih => intro s; simp [scanX, ih]
    simp only [List.length_cons, e]
    omega
  · exact Nat.zero_le _
theorem laws_FnCodes_j6_ev {m : List Int} (hm : wfB m) : Ev (fun k => laws_FnCodes.j6 k m) true := by
  obtain ⟨n, r, l, e, hl⟩ := dr_FromDeltas hm
  have hf := fromD_len n r l
  refine ev_shift ?_
  simp only [laws_FnCodes.j6]
  exact ev_bind e (ev_bind (impl_FromDeltas_ev n r l (by omega)) (ev_bind (spec_FromDeltas_ev n r l (by omega)) (ev_pos (by simp) (ev_bind (laws_uSame_ev _ (by omega)) (ev_some rfl)))))
theorem laws_FnCodes_l1_ev {m : List Int} (hm : wfB m) (n : Nat) (hn : n ≤ 10) (l : List Int) (hl : l.length ≤ 9000000000000000000) (ha : ∀ x : Int, 0 ≤ x → x < ((2 ^ n : Nat) : Int) → x ∈ l) : ∀ f i : Nat, i + f = 2 ^ n → Ev (fun k => laws_FnCodes.l1 k m (n : Int) l (i : Int)) true := by
  have hj := laws_FnCodes_j6_ev hm
  have hp : 2 ^ n ≤ 2 ^ 10 := Nat.pow_le_pow_right (by decide) hn
  intro f
  induction f with
  | zero =>
    intro i hi
    refine ev_shift ?_
    simp only [laws_FnCodes.l1, shl_one' hn]
    exact ev_pos (by omega) (ev_neg (by omega) hj)
  | succ f ih =>
    intro i hi
    have e1 : wrap64 ((i : Int) + 1) = ((i + 1 : Nat) : Int) := by rw [w64 (by omega) (by omega)]; omega
    have hm := ha (i : Int) (by omega) (by omega)
    refine ev_shift ?_
    simp only [laws_FnCodes.l1, shl_one' hn, e1]
    exact ev_pos (by omega) (ev_pos (by omega) (ev_bind (laws_uHas_ev l i hl) (ev_pos (by simpa using hm) (ih (i + 1) (by omega)))))
theorem laws_FnCodes_j4_ev {m : List Int} (hm : wfB m) (n : Int) (l : List Int) (hl : l.length ≤ 9000000000000000000) : Ev (fun k => laws_FnCodes.j4 k m n l (icP n l).1) true := by
  have hj := laws_FnCodes_j6_ev hm
  refine ev_shift ?_
  simp only [laws_FnCodes.j4]
  by_cases h : (icP n l).1 = true
  · refine ev_pos h ?_
    have ha : areW n l = true := by
      by_cases ha : areW n l = true
      · exact ha
      · unfold icP at h; rw [if_neg ha] at h; cases h
    obtain ⟨q, rfl, h1, h2, h3, h4⟩ := areW_nat ha
    have hcode : codeB (q : Int) l = true := by unfold icP at h; rw [if_pos ha] at h; exact h
    have hlen := code_len h2 hcode
    have hnd : l.Nodup := by
      simp only [codeB, Bool.and_eq_true, decide_eq_true_eq] at hcode
      exact hcode.1
    exact laws_FnCodes_l1_ev hm q h2 l hl (fun x h0 h1 => holds_all hnd h4 hlen h0 h1) (2 ^ q) 0 (by omega)
  · exact ev_neg h hj
theorem laws_FnCodes_l0_ev (m : List Int) (n : Int) (l : List Int) (b7 : Bool) (o19 : List Int) (b20 : Bool) (o21 : List Int) (b22 : Bool) (cs : List Int) (hlen : cs.length ≤ 12) (hcs : ∀ c ∈ cs, 0 ≤ c ∧ c ≤ 2000) (R : Bool)
    (hk : Ev (fun k => (if b20 = true then ((laws_uSame.f k o19 l).bind fun t491 => (if t491 = true then (if b22 = true then (if (o21.length : Int) = n then (if sumI cs = (wrap64 ((l.length : Int) - 1)) then (laws_FnCodes.j4 k m n l b7) else (some false)) else (some false)) else (some false)) else (some false))) else (some false))) R) :
    Ev (fun k => laws_FnCodes.l0 k m n l b7 o19 b20 o21 b22 0 cs (cs.length : Int) 0) R := by
  have key : ∀ suf pre, cs = pre ++ suf → ∀ t : Int, t = sumI pre → Ev (fun k => laws_FnCodes.l0 k m n l b7 o19 b20 o21 b22 t cs (cs.length : Int) (pre.length : Int)) R := by
    refine range_ind (by omega) (fun pre suf => ∀ t : Int, t = sumI pre → Ev (fun k => laws_FnCodes.l0 k m n l b7 o19 b20 o21 b22 t cs (cs.length : Int) (pre.length : Int)) R) ?_ ?_
    · intro t ht
      subst ht
      refine ev_shift ?_
      simp only [laws_FnCodes.l0]
      exact ev_neg (by omega) hk
    · intro pre x suf hh hx h1 h2 h3 ih t ht
      have hx0 := hcs x (by rw [hh]; simp)
      have hpre := sumI_range pre 2000 (fun c hc => hcs c (by rw [hh]; simp [hc]))
      have hpl : (pre.length : Int) ≤ 12 := by omega
      refine ev_shift ?_
      simp only [laws_FnCodes.l0, hx, h3]
      refine ev_pos h1 (ev_pos h2 (ev_pos h1 ?_))
      rw [w64 (by omega) (by omega)]
      exact ih _ (by rw [sumI_append, ht]; simp [sumI])
  exact key cs [] rfl 0 rfl
theorem laws_FnCodes_j1_ev {m : List Int} (hm : wfB m) (n : Int) (l : List Int) (hl : l.length ≤ 9000000000000000000) : Ev (fun k => laws_FnCodes.j1 k m n l (icP n l).1 (dfP n l).1 (dfP n l).2 false) true := by
  have hj := laws_FnCodes_j4_ev hm n l hl
  have hj2 : Ev (fun k => laws_FnCodes.j2 k m n l (icP n l).1 (dfP n l).1 false) true := by
    refine ev_shift ?_
    simp only [laws_FnCodes.j2]
    exact ev_neg (by simp) hj
  refine ev_shift ?_
  simp only [laws_FnCodes.j1]
  refine ev_neg (by simp) ?_
  by_cases h : (dfP n l).2 = true
  · refine ev_pos h ?_
    by_cases hpos : (l.length : Int) > 0
    · rw [decide_eq_true hpos]
      have ha : areW n l = true := by
        by_cases ha : areW n l = true
        · exact ha
        · unfold dfP at h; rw [if_neg ha] at h; cases h
      obtain ⟨q, rfl, h1, h2, h3, h4⟩ := areW_nat ha
      have hr := areW_range ha
      obtain ⟨d, hd⟩ : ∃ d, dls l = some d := by
        cases hd : dls l with
        | some d => exact ⟨d, rfl⟩
        | none => unfold dfP at h; rw [if_pos ha, hd] at h; cases h
      have e1 : dfP (q : Int) l = (d, true) := by unfold dfP; rw [if_pos ha, hd]; rfl
      have e2 : chP (q : Int) l = (cnts q d, true) := by unfold chP; rw [if_pos ha, hd, Int.toNat_natCast]
      rw [e1]
      have hmem := dls_mem h2 h4 hd
      cases l with
      | nil => simp at hpos
      | cons w r =>
        have hw := hr w (by simp)
        have hwq := h4 w (by simp)
        have hdl := dlF_len hd
        have hscan := scan_dlF hw (fun x hx => hr x (by simp [hx])) hd
        have e3 : fromD (q : Int) w d = (w :: r, true) := by
          have c1 : isW (q : Int) w = true := by
            have := top_nat ⟨q, by omega⟩
            simp only at this
            exact isW_iff.2 ⟨⟨by omega, by omega⟩, by omega, by omega⟩
          have c2 : (d.length : Int) ≤ 1099 := by simp only [List.length_cons] at h3; omega
          have c3 : allIn d 0 ((q : Int) - 1) = true := allIn_iff.2 (fun x hx => by have := hmem x hx; omega)
          unfold fromD
          rw [if_pos ⟨c1, c2, c3⟩, hscan]
        have hfd := impl_FromDeltas_ev (q : Int) w d (by simp only [List.length_cons] at h3; omega)
        have hch := impl_ChangesOf_ev (q : Int) (w :: r) hl
        rw [e3] at hfd
        rw [e2] at hch
        refine ev_shift ?_
        simp only [laws_FnCodes.j2]
        refine ev_pos trivial (ev_pos (by omega) (ev_bind hfd (ev_bind hch ?_)))
        refine laws_FnCodes_l0_ev m (q : Int) (w :: r) _ (w :: r) true (cnts q d) true (cnts q d) (by rw [cnts_length]; omega) ?_ true ?_
        · intro c hc
          simp only [cnts, List.mem_map, List.mem_range] at hc
          obtain ⟨i, _, rfl⟩ := hc
          have : d.count ((i : Nat) : Int) ≤ d.length := List.count_le_length
          simp only [List.length_cons] at h3
          omega
        · refine ev_pos rfl (ev_bind (laws_uSame_ev (w :: r) hl) (ev_pos rfl (ev_pos rfl (ev_pos (by rw [cnts_length]) (ev_pos ?_ hj)))))
          rw [sumI_cnts hmem, hdl, w64 (by omega) (by omega)]
          (try simp)
    · rw [decide_eq_false hpos]
      exact hj2
  · exact ev_neg h hj2
theorem laws_FnCodes_j0_ev {m : List Int} (hm : wfB m) (n : Int) (l : List Int) (hl : l.length ≤ 9000000000000000000) : Ev (fun k => laws_FnCodes.j0 k m n l (icP n l).1 false) true := by
  have hj := laws_FnCodes_j1_ev hm n l hl
  have hlen := dfP_len n l
  refine ev_shift ?_
  simp only [laws_FnCodes.j0]
  refine ev_neg (by simp) (ev_bind (impl_DeltasOf_ev n l hl) (ev_bind (spec_DeltasOf_ev n l hl) (ev_neg neq_self (ev_bind (laws_uSame_ev _ (by omega)) (ev_pos rfl ?_)))))
  by_cases h : (icP n l).1 = true
  · have ha : areW n l = true := by
      by_cases ha : areW n l = true
      · exact ha
      · unfold icP at h; rw [if_neg ha] at h; cases h
    have hd : (dfP n l).2 = true := by
      have hc : codeB n l = true := by unfold icP at h; rw [if_pos ha] at h; exact h
      simp only [codeB, Bool.and_eq_true] at hc
      obtain ⟨d, hd⟩ := Option.isSome_iff_exists.1 hc.2.1
      unfold dfP; rw [if_pos ha, hd]; rfl
    refine ev_pos h ?_
    have e : (!(dfP n l).2) = false := by rw [hd]; rfl
    rw [e]
    exact hj
  · exact ev_neg h hj
theorem FnCodes : laws_FnCodes.Pure := by
  intro c m hc1 hc2 hc hm1 hm2 hm
  apply ev_le
  unfold laws_FnCodes.f
  rcases laws_big_eq c m hc hm (by omega) with hb | ⟨hb, wc, wm⟩
  · exact ev_bind0 hb (ev_pos rfl (ev_some rfl))
  refine ev_bind0 hb (ev_neg (by decide) ?_)
  obtain ⟨n, l, e, hl⟩ := dr_IsCode wc
  have hj := laws_FnCodes_j0_ev wm n l (by omega)
  refine ev_bind e (ev_bind (impl_IsCode_ev n l (by omega)) (ev_bind (spec_IsCode_ev n l (by omega)) (ev_bind (impl_IsRoundCode_ev n l (by omega)) (ev_bind (spec_IsRoundCode_ev n l (by omega)) (ev_neg neq_self (ev_neg neq_self (ev_neg neq_self (ev_neg neq_self ?_))))))))
  by_cases h : (irP n l).1 = true
  · have hi : (icP n l).1 = true := by
      by_cases ha : areW n l = true
      · unfold irP at h; rw [if_pos ha] at h
        unfold icP; rw [if_pos ha]
        simp only [roundB, Bool.and_eq_true] at h
        exact h.1
      · unfold irP at h; rw [if_neg ha] at h; cases h
    refine ev_pos h ?_
    have e : (!(icP n l).1) = false := by rw [hi]; rfl
    rw [e]
    exact hj
  · exact ev_neg h hj

end Go.Proofs.YtnhifbopicjicaaDoor.Pure
