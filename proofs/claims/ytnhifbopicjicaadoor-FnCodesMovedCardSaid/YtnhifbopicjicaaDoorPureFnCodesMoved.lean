/- The law FnCodesMoved returns true for every two lists of bytes (reach as the row says); no condition of ours. -/
import Derived.Test.YtnhifbopicjicaaDoorQFnCodesMovedx10
import Derived.Test.YtnhifbopicjicaaDoorMth
import Derived.Test.YtnhifbopicjicaaDoorMthCode
import Derived.Test.YtnhifbopicjicaaDoorMthCodeTurn
import Derived.Test.YtnhifbopicjicaaDoorMthDeltas
import Derived.Test.YtnhifbopicjicaaDoorMthGray
import Derived.Test.YtnhifbopicjicaaDoorMthMoved
import Derived.Test.YtnhifbopicjicaaDoorMthPerm
import Derived.Test.YtnhifbopicjicaaDoorMthPop
import Derived.Test.YtnhifbopicjicaaDoorMthRuns
set_option linter.unusedVariables false
set_option linter.unusedSimpArgs false
namespace Go.Proofs.YtnhifbopicjicaaDoor.Pure
open Go.RowKit Go.Proofs.YtnhifbopicjicaaDoor.Mth Go.Proofs.YtnhifbopicjicaaDoor.PFnCodesMoved Go.Proofs.YtnhifbopicjicaaDoorW.PrintWords Go.Proofs.YtnhifbopicjicaaDoorW.PrintLast

theorem wrapU (n : Int) : IntKind.u64.wrap n = n % 18446744073709551616 := by simp [IntKind.wrap, IntKind.bits, IntKind.signed]
def wfB (c : List Int) : Prop := c.length ≤ 1048576 ∧ ∀ x ∈ c, 0 ≤ x ∧ x ≤ 255
theorem wfB_of {c : List Int} (h0 : c.length ≤ 1048576) (h : ∀ x ∈ c, (Lit.int .u8 x).wf = true) : wfB c := by
  refine ⟨h0, fun x hx => ?_⟩
  have := h x hx
  simp only [Lit.wf, Bool.and_eq_true, decide_eq_true_eq] at this
  have e0 : IntKind.min .u8 = 0 := by decide
  have e1 : IntKind.max .u8 = 255 := by decide
  omega
theorem byte_of (x : Int) : 0 ≤ wrap64 (Go.bits .and .u64 ((IntKind.u64.wrap x) / 1099511627776) 255) ∧ wrap64 (Go.bits .and .u64 ((IntKind.u64.wrap x) / 1099511627776) 255) ≤ 255 := by
  have h1 : 0 ≤ IntKind.u64.wrap x / 1099511627776 ∧ IntKind.u64.wrap x / 1099511627776 < 2 ^ 24 := by rw [wrapU]; omega
  have h2 := Go.bits_mask .u64 24 (by decide) (fun n a b => by rw [wrapU]; omega) 8 (by decide) _ h1.1 h1.2
  have h3 : Go.bits .and .u64 ((IntKind.u64.wrap x) / 1099511627776) 255 = (IntKind.u64.wrap x) / 1099511627776 % 2 ^ 8 := h2
  rw [h3, w64 (by omega) (by omega)]
  omega
theorem dr_next {c : List Int} (hc : wfB c) {a : Int} (s : Int) (h0 : 0 ≤ a) (h1 : a ≤ 4000000000000000000) : ∃ r s', spec_l1Cur_next.f c a s = some (r, a + 1, s') ∧ 0 ≤ r ∧ r ≤ 255 := by
  have hl := hc.1
  unfold spec_l1Cur_next.f
  have e : wrap64 (a + 1) = a + 1 := w64 (by omega) (by omega)
  rw [e]
  by_cases h : a < (c.length : Int)
  · rw [if_pos h, if_pos h0, if_pos (by omega)]
    obtain ⟨n, rfl⟩ := Int.eq_ofNat_of_zero_le h0
    have hm := hc.2 _ (rd_mem (l := c) (j := n) (by omega))
    exact ⟨_, _, rfl, by rw [w64 (by omega) (by omega)]; omega, by rw [w64 (by omega) (by omega)]; omega⟩
  · rw [if_neg h, if_neg (by omega)]
    exact ⟨_, _, rfl, (byte_of _).1, (byte_of _).2⟩
theorem dr_pick {c : List Int} (hc : wfB c) {a : Int} (s n : Int) (h0 : 0 ≤ a) (h1 : a ≤ 3999999999999999999) : ∃ r a' s', spec_l1Cur_pick.f c a s n = some (r, a', s') ∧ a ≤ a' ∧ a' ≤ a + 2 ∧ 0 ≤ r ∧ (n ≤ 1 → r = 0) ∧ (1 < n → r < n) := by
  unfold spec_l1Cur_pick.f
  by_cases hn : n ≤ 1
  · rw [if_pos hn]
    exact ⟨0, a, s, rfl, by omega, by omega, by omega, fun _ => rfl, fun h => by omega⟩
  · rw [if_neg hn]
    obtain ⟨x, s1, e1, x0, x1⟩ := dr_next hc s h0 (by omega)
    rw [e1]
    simp only [Option.bind_some]
    by_cases hb : n > 200
    · rw [if_pos hb]
      obtain ⟨y, s2, e2, y0, y1⟩ := dr_next hc s1 (a := a + 1) (by omega) (by omega)
      rw [e2]
      simp only [Option.bind_some]
      rw [if_neg (by omega), w64 (x := x * 256) (by omega) (by omega), w64 (by omega) (by omega)]
      rw [Int.tmod_eq_emod_of_nonneg (by omega)]
      have g0 := Int.emod_nonneg (x * 256 + y) (b := n) (by omega)
      have g1 := Int.emod_lt_of_pos (x * 256 + y) (b := n) (by omega)
      exact ⟨_, _, _, rfl, by omega, by omega, g0, fun h => by omega, fun _ => g1⟩
    · rw [if_neg hb, if_neg (by omega)]
      rw [Int.tmod_eq_emod_of_nonneg (by omega)]
      have g0 := Int.emod_nonneg x (b := n) (by omega)
      have g1 := Int.emod_lt_of_pos x (b := n) (by omega)
      exact ⟨_, _, _, rfl, by omega, by omega, g0, fun h => by omega, fun _ => g1⟩
theorem laws_big_eq (c m : List Int) (hc : ∀ x ∈ c, (Lit.int .u8 x).wf = true) (hm : ∀ x ∈ m, (Lit.int .u8 x).wf = true) (hl : c.length ≤ 9000000000000000000) : laws_big.f c m = some true ∨ (laws_big.f c m = some false ∧ wfB c ∧ wfB m) := by
  unfold laws_big.f
  by_cases h : (c.length : Int) > 1048576
  · exact .inl (if_pos h)
  · rw [if_neg h, w64 (by omega) (by omega)]
    by_cases h2 : (m.length : Int) > 1048576 - (c.length : Int)
    · rw [decide_eq_true h2]; exact .inl rfl
    · rw [decide_eq_false h2]; exact .inr ⟨rfl, wfB_of (by omega) hc, wfB_of (by omega) hm⟩
theorem dr_one {c : List Int} (hc : wfB c) {a : Int} (s n : Int) (h0 : 0 ≤ a) (h1 : a ≤ 3999999999999999999) : ∃ r a' s', spec_l1Cur_one.f c a s n = some (r, a', s') ∧ a ≤ a' ∧ a' ≤ a + 2 := by
  unfold spec_l1Cur_one.f
  obtain ⟨r, a', s', e, h2, h3, _⟩ := dr_pick hc s n h0 h1
  rw [e]
  exact ⟨_, _, _, rfl, h2, h3⟩
theorem dr_among {c : List Int} (hc : wfB c) {a : Int} (s : Int) (l : List Int) (hl : 0 < l.length) (h0 : 0 ≤ a) (h1 : a ≤ 3999999999999999999) : ∃ r a' s', spec_l1Cur_among.f c a s l = some (r, a', s') ∧ a ≤ a' ∧ a' ≤ a + 2 ∧ r ∈ l := by
  unfold spec_l1Cur_among.f
  obtain ⟨r, a', s', e, h2, h3, h4, h5, h6⟩ := dr_pick hc s (l.length : Int) h0 h1
  rw [e]
  simp only [Option.bind_some]
  have hr : r < (l.length : Int) := by
    by_cases h : (l.length : Int) ≤ 1
    · have := h5 h; omega
    · exact h6 (by omega)
  rw [if_pos h4, if_pos hr]
  obtain ⟨n, rfl⟩ := Int.eq_ofNat_of_zero_le h4
  exact ⟨_, _, _, rfl, h2, h3, rd_mem (by omega)⟩
theorem spec_l1Least_eq (a b : Int) : spec_l1Least.f a b = some (if a < b then a else b) := by
  unfold spec_l1Least.f
  split <;> rfl
theorem dr_order_j1 {c : List Int} (hc : wfB c) (l : List Int) (b : Bool) (hb : b = true → 0 < l.length) (hl : l.length ≤ 30) {a : Int} (s : Int) (h0 : 0 ≤ a) (h1 : a ≤ 3999999999999999000) : ∃ l' a' s', Ev (fun k => spec_l1Cur_order.j1 k l b c a s) (l', a', s') ∧ a ≤ a' ∧ a' ≤ a + 4 ∧ l'.length = l.length := by
  cases b
  · refine ⟨l, a, s, ev_shift ?_, by omega, by omega, rfl⟩
    simp only [spec_l1Cur_order.j1]
    exact ev_neg Bool.false_ne_true (ev_some rfl)
  · have hp := hb rfl
    obtain ⟨y, a1, s1, e1, u1, u2, u3, u4, u5⟩ := dr_pick hc s (l.length : Int) h0 (by omega)
    have hy : y < (l.length : Int) := by
      by_cases h : (l.length : Int) ≤ 1
      · have := u4 h; omega
      · exact u5 (by omega)
    obtain ⟨z, a2, s2, e2, v1, v2, _⟩ := dr_among hc s1 [-1, 0, (l.length : Int), 4611686018427387904] (by simp) (a := a1) (by omega) (by omega)
    refine ⟨l.set y.toNat z, a2, s2, ev_shift ?_, by omega, by omega, by simp⟩
    simp only [spec_l1Cur_order.j1]
    exact ev_pos (by trivial) (ev_bind0 e1 (ev_bind0 e2 (ev_pos u3 (ev_pos hy (ev_some rfl)))))
theorem dr_order_l0 {c : List Int} (hc : wfB c) (n : Int) (m : Nat) : ∀ (x : Nat) (l : List Int) (a s : Int), m + x = 20 → l.length = x → 0 ≤ a → a + 2 * (m : Int) ≤ 3999999999999990000 → ∃ l' a' s', Ev (fun k => spec_l1Cur_order.l0 k n l (x : Int) c a s) (l', a', s') ∧ a ≤ a' ∧ a' ≤ a + 2 * (m : Int) + 8 ∧ l'.length ≤ 20 := by
  have fin : ∀ (x : Nat) (l : List Int) (a s : Int), x ≤ 20 → l.length = x → 0 ≤ a → a ≤ 3999999999999990000 → ¬ (x : Int) < (if n < 20 then n else 20) → ∃ l' a' s', Ev (fun k => spec_l1Cur_order.l0 k n l (x : Int) c a s) (l', a', s') ∧ a ≤ a' ∧ a' ≤ a + 8 ∧ l'.length ≤ 20 := by
    intro x l a s hx hl h0 h1 hn
    by_cases hp : (l.length : Int) > 0
    · obtain ⟨y, a1, s1, e1, u1, u2⟩ := dr_one hc s 25 h0 (by omega)
      obtain ⟨l', a', s', g1, g2, g3, g4⟩ := dr_order_j1 hc l y (fun _ => by omega) (by omega) s1 (a := a1) (by omega) (by omega)
      refine ⟨l', a', s', ev_shift ?_, by omega, by omega, by omega⟩
      simp only [spec_l1Cur_order.l0]
      exact ev_bind0 (spec_l1Least_eq _ _) (ev_neg hn (ev_pos hp (ev_bind0 e1 g1)))
    · obtain ⟨l', a', s', g1, g2, g3, g4⟩ := dr_order_j1 hc l false (fun h => by cases h) (by omega) s (a := a) (by omega) (by omega)
      refine ⟨l', a', s', ev_shift ?_, by omega, by omega, by omega⟩
      simp only [spec_l1Cur_order.l0]
      exact ev_bind0 (spec_l1Least_eq _ _) (ev_neg hn (ev_neg hp g1))
  induction m with
  | zero =>
    intro x l a s hm hl h0 h1
    obtain ⟨l', a', s', g1, g2, g3, g4⟩ := fin x l a s (by omega) hl h0 (by omega) (by split <;> omega)
    exact ⟨l', a', s', g1, g2, by omega, g4⟩
  | succ m ih =>
    intro x l a s hm hl h0 h1
    by_cases hx : (x : Int) < (if n < 20 then n else 20)
    · have ew : wrap64 ((x : Int) + 1) = ((x + 1 : Nat) : Int) := by rw [w64 (by omega) (by omega)]; omega
      obtain ⟨y, a1, s1, e1, u1, u2, u3, u4, u5⟩ := dr_pick hc s ((x + 1 : Nat) : Int) h0 (by omega)
      have hy : y ≤ (l.length : Int) := by
        by_cases h : ((x + 1 : Nat) : Int) ≤ 1
        · have := u4 h; omega
        · have := u5 (by omega); omega
      obtain ⟨l', a', s', g1, g2, g3, g4⟩ := ih (x + 1) ([] ++ l.take y.toNat ++ [(x : Int)] ++ l.drop y.toNat) a1 s1 (by omega) (by simp only [List.length_append, List.length_take, List.length_drop, List.length_cons, List.length_nil]; omega) (by omega) (by omega)
      refine ⟨l', a', s', ev_shift ?_, by omega, by omega, g4⟩
      simp only [spec_l1Cur_order.l0, ew]
      refine ev_bind0 (spec_l1Least_eq _ _) (ev_pos hx (ev_bind0 e1 (ev_bind0 rfl (ev_pos u3 (ev_pos hy (ev_bind0 rfl (ev_pos ?_ (ev_bind0 rfl (ev_pos ?_ (ev_bind0 rfl (ev_bind0 rfl (ev_pos ?_ g1)))))))))))) <;> (simp only [List.length_append, List.length_take, List.length_drop, List.length_cons, List.length_nil]; omega)
    · obtain ⟨l', a', s', g1, g2, g3, g4⟩ := fin x l a s (by omega) hl h0 (by omega) hx
      exact ⟨l', a', s', g1, g2, by omega, g4⟩
theorem dr_order {c : List Int} (hc : wfB c) (n a s : Int) (h0 : 0 ≤ a) (h1 : a ≤ 3999999999999980000) : ∃ l' a' s', Ev (fun k => spec_l1Cur_order.f k c a s n) (l', a', s') ∧ a ≤ a' ∧ a' ≤ a + 60 ∧ l'.length ≤ 20 := by
  obtain ⟨l', a', s', g1, g2, g3, g4⟩ := dr_order_l0 hc n 20 0 [] a s rfl rfl h0 (by omega)
  exact ⟨l', a', s', g1, by omega, by omega, g4⟩

theorem spec_gcList_l0 (n : Nat) (hn : n + 1 ≤ 10) (L : List Int) (hL : L.length ≤ 512) (hx : ∀ x ∈ L, 0 ≤ x ∧ x < 1024) : ∀ (j : Nat) (acc : List Int), j ≤ L.length → acc.length + j ≤ 512 →
    Ev (fun k => spec_gcList.l0 k ((n + 1 : Nat) : Int) (L ++ acc) ((j : Int) - 1)) (L ++ acc ++ (L.take j).reverse.map (fun x => x + 2 ^ n)) := by
  have e2 : shl .i64 1 (n : Int) = 2 ^ n := shl_pow (by omega)
  have e3 : ((2 ^ n : Nat) : Int) = (2 : Int) ^ n := by simp
  have e4 := pow_le_1024 (n := n) (by omega)
  have e5 : (0 : Int) ≤ 2 ^ n := by rw [← e3]; exact Int.natCast_nonneg _
  have e1 : wrap64 (((n + 1 : Nat) : Int) - 1) = (n : Int) := by rw [w64 (by omega) (by omega)]; omega
  intro j
  induction j with
  | zero =>
    intro acc _ _
    refine ev_shift ?_
    simp only [spec_gcList.l0]
    exact ev_neg (by omega) (ev_some (by simp))
  | succ j ih =>
    intro acc hj ha
    have e : (((j + 1 : Nat) : Int) - 1) = (j : Int) := by omega
    have hr : rd (L ++ acc) (j : Int) = rd L (j : Int) := by
      rw [rd_nat, rd_nat, List.getD_eq_getElem?_getD, List.getD_eq_getElem?_getD, List.getElem?_append_left (by omega)]
    have hm := hx _ (rd_mem (l := L) (j := j) (by omega))
    refine ev_shift ?_
    simp only [spec_gcList.l0, e, e1, e2, hr]
    rw [w64 (x := (j : Int) - 1) (by omega) (by omega), w64 (x := rd L (j : Int) + 2 ^ n) (by omega) (by omega)]
    refine ev_pos (by omega) (ev_pos (by omega) (ev_pos (by simp; omega) (ev_pos (by omega) (ev_pos (by simp; omega) ?_))))
    have := ih (acc ++ [rd L (j : Int) + 2 ^ n]) (by omega) (by simp; omega)
    rw [List.append_assoc] at this ⊢
    have et : L.take (j + 1) = L.take j ++ [rd L (j : Int)] := by
      rw [List.take_add_one, rd_nat, List.getD_eq_getElem?_getD, List.getElem?_eq_getElem (by omega)]; rfl
    rw [et, List.reverse_append]
    simpa using this
theorem spec_gcList_ev (n : Nat) (hn : n ≤ 10) : Ev (fun k => spec_gcList.f k (n : Int)) (grL n) := by
  induction n with
  | zero =>
    refine ev_shift ?_
    simp only [spec_gcList.f]
    exact ev_pos rfl (ev_some rfl)
  | succ n ih =>
    have hl := grL_length (n := n) (by omega)
    have hp := Nat.pow_le_pow_right (n := 2) (by omega) (show n ≤ 9 by omega)
    have e1 : wrap64 (((n + 1 : Nat) : Int) - 1) = (n : Int) := by rw [w64 (by omega) (by omega)]; omega
    refine ev_shift ?_
    simp only [spec_gcList.f, e1]
    refine ev_neg (by omega) (ev_bind (ih (by omega)) ?_)
    rw [w64 (by omega) (by omega)]
    have := spec_gcList_l0 n hn (grL n) (by omega) (fun x hx => by have := grL_mem (n := n) (by omega) hx; have e3 : ((2 ^ n : Nat) : Int) = (2 : Int) ^ n := by simp
                                                                   omega) (grL n).length [] (Nat.le_refl _) (by simp; omega)
    simpa [grL] using this
theorem spec_l1In_eq (a b c : Int) : spec_l1In.f a b c = some (inR a b c) := in_ite a b c
theorem spec_l1Has_ev (l : List Int) (x : Int) (hl : l.length ≤ 9000000000000000000) : Ev (fun k => spec_l1Has.f k l x) (l.contains x) := by
  refine range_all hl (fun pre suf => Ev (fun k => spec_l1Has.l0 k x l (l.length : Int) (pre.length : Int)) (suf.contains x)) ?_ ?_
  · refine ev_shift ?_
    simp only [spec_l1Has.l0]
    exact ev_neg (by omega) (ev_some rfl)
  · intro pre y suf h hx h1 h2 h3 ih
    refine ev_shift ?_
    simp only [spec_l1Has.l0, hx, h3]
    refine ev_pos h1 (ev_pos h2 (ev_pos h1 ?_))
    by_cases e : y = x
    · exact ev_pos e (ev_some (by simp [e]))
    · refine ev_neg e ?_
      have : (y :: suf).contains x = suf.contains x := by simp [Ne.symm e]
      rw [this]; exact ih
theorem spec_raPermutation_ev (l : List Int) (hl : l.length ≤ 9000000000000000000) : Ev (fun k => spec_raPermutation.f k l) (isPermB l) := by
  rw [← raPerm_eq]
  have key : ∀ suf pre, l = pre ++ suf → pre.length ≤ 12 → Ev (fun k => spec_raPermutation.l0 k l l (l.length : Int) (pre.length : Int)) (decide (l.length ≤ 12) && raPermF (l.length : Int) pre suf) := by
    refine range_ind hl (fun pre suf => pre.length ≤ 12 → Ev (fun k => spec_raPermutation.l0 k l l (l.length : Int) (pre.length : Int)) (decide (l.length ≤ 12) && raPermF (l.length : Int) pre suf)) ?_ ?_
    · intro hp
      refine ev_shift ?_
      simp only [spec_raPermutation.l0]
      exact ev_neg (by omega) (ev_some (by rw [decide_eq_true hp]; rfl))
    · intro pre x suf h hx h1 h2 h3 ih hp
      have htake : l.take (pre.length : Int).toNat = pre := by rw [h, Int.toNat_natCast, List.take_left' rfl]
      refine ev_shift ?_
      simp only [spec_raPermutation.l0, hx, h3, htake]
      rw [w64 (by omega) (by omega)]
      refine ev_pos h1 (ev_pos h2 (ev_pos h1 ?_))
      by_cases h12 : pre.length < 12
      · refine ev_neg (by omega) (ev_bind0 (spec_l1In_eq _ _ _) ?_)
        simp only [raPermF]
        cases hr : inR x 0 ((l.length : Int) - 1) with
        | false => exact ev_neg (by simp) (ev_some (by simp))
        | true =>
          refine ev_pos rfl (ev_pos (by omega) (ev_bind (spec_l1Has_ev pre x (by omega)) ?_))
          cases hc : pre.contains x with
          | true => exact ev_pos rfl (ev_some (by simp))
          | false =>
            refine ev_neg (by simp) ?_
            have := ih (by simp; omega)
            simpa using this
      · refine ev_pos (by omega) (ev_some ?_)
        rw [decide_eq_false (by omega)]; rfl
  exact key l [] rfl (by simp)
theorem spec_gcBits_eq (a : Int) : spec_gcBits.f a = some (inR a 1 10) := by simp only [spec_gcBits.f, spec_l1In_eq, Option.bind_some]
theorem spec_l1All_ev (l : List Int) (lo hi : Int) (hl : l.length ≤ 9000000000000000000) : Ev (fun k => spec_l1All.f k l lo hi) (allIn l lo hi) := by
  refine range_all hl (fun pre suf => Ev (fun k => spec_l1All.l0 k lo hi l (l.length : Int) (pre.length : Int)) (allIn suf lo hi)) ?_ ?_
  · refine ev_shift ?_
    simp only [spec_l1All.l0]
    exact ev_neg (by omega) (ev_some rfl)
  · intro pre x suf h hx h1 h2 h3 ih
    refine ev_shift ?_
    simp only [spec_l1All.l0, hx, h3, spec_l1In_eq, Option.bind_some, allIn_cons]
    refine ev_pos h1 (ev_pos h2 (ev_pos h1 ?_))
    cases inR x lo hi with
    | true => exact ev_pos rfl ih
    | false => exact ev_neg (by simp) (ev_some rfl)
theorem spec_gcWords_ev (n : Int) (l : List Int) (hl : l.length ≤ 9000000000000000000) : Ev (fun k => spec_gcWords.f k n l) (areW n l) := by
  unfold spec_gcWords.f areW
  refine ev_bind0 (spec_gcBits_eq _) ?_
  by_cases h : inR n 1 10 = true
  · have h' := inR_iff.1 h
    refine ev_pos h ?_
    rw [h, Bool.true_and]
    by_cases hlen : (l.length : Int) ≤ 1100
    · refine ev_pos hlen (ev_pos (by omega) (ev_bind (spec_l1All_ev l 0 _ hl) (ev_some ?_)))
      rw [decide_eq_true hlen, Bool.true_and]; rfl
    · exact ev_neg hlen (ev_some (by rw [decide_eq_false hlen]; rfl))
  · refine ev_neg h (ev_some ?_)
    simp only [Bool.not_eq_true] at h
    rw [h]; rfl
theorem impl_within_eq (a b c : Int) : impl_within.f a b c = some (inR a b c) := in_ite a b c
theorem impl_isBits_eq (a : Int) : impl_isBits.f a = some (inR a 1 10) := by simp only [impl_isBits.f, impl_within_eq, Option.bind_some]
theorem impl_allWithin_ev (l : List Int) (lo hi : Int) (hl : l.length ≤ 9000000000000000000) : Ev (fun k => impl_allWithin.f k l lo hi) (allIn l lo hi) := by
  refine range_all hl (fun pre suf => Ev (fun k => impl_allWithin.l0 k lo hi l (l.length : Int) (pre.length : Int)) (allIn suf lo hi)) ?_ ?_
  · refine ev_shift ?_
    simp only [impl_allWithin.l0]
    exact ev_neg (by omega) (ev_some rfl)
  · intro pre x suf h hx h1 h2 h3 ih
    refine ev_shift ?_
    simp only [impl_allWithin.l0, hx, h3, impl_within_eq, Option.bind_some, allIn_cons]
    refine ev_pos h1 (ev_pos h2 (ev_pos h1 ?_))
    cases inR x lo hi with
    | true => exact ev_pos rfl ih
    | false => exact ev_neg (by simp) (ev_some rfl)
theorem impl_areWords_ev (n : Int) (l : List Int) (hl : l.length ≤ 9000000000000000000) : Ev (fun k => impl_areWords.f k n l) (areW n l) := by
  unfold impl_areWords.f areW
  refine ev_bind0 (impl_isBits_eq _) ?_
  by_cases h : inR n 1 10 = true
  · have h' := inR_iff.1 h
    refine ev_pos h ?_
    rw [h, Bool.true_and]
    by_cases hlen : (l.length : Int) ≤ 1100
    · refine ev_pos hlen (ev_pos (by omega) (ev_bind (impl_allWithin_ev l 0 _ hl) (ev_some ?_)))
      rw [decide_eq_true hlen, Bool.true_and]; rfl
    · exact ev_neg hlen (ev_some (by rw [decide_eq_false hlen]; rfl))
  · refine ev_neg h (ev_some ?_)
    simp only [Bool.not_eq_true] at h
    rw [h]; rfl
theorem shr_bit (w i : Nat) (hw : w < 1024) (hi : i ≤ 12) : shr .i64 (w : Int) (i : Int) = ((w / 2 ^ i : Nat) : Int) := by
  unfold shr
  rw [Int.toNat_natCast, Nat.min_eq_left (show i ≤ IntKind.i64.bits by have : IntKind.i64.bits = 64 := rfl; omega)]
  simp
theorem bit_term (w i : Nat) (k : Int) (hw : w < 1024) (hi : i ≤ 12) (h0 : 0 ≤ k) (h1 : k < 12) : shl .i64 (Go.bits .and .i64 (shr .i64 (w : Int) (i : Int)) 1) k = ((if w.testBit i = true then 2 ^ k.toNat else 0 : Nat) : Int) := by
  have hd : w / 2 ^ i < 2 ^ 62 := Nat.lt_of_le_of_lt (Nat.div_le_self _ _) (Nat.lt_trans hw (by decide))
  have e1 : Go.bits .and .i64 ((w / 2 ^ i : Nat) : Int) 1 = ((w / 2 ^ i % 2 : Nat) : Int) := by
    have := and_nat hd (show 1 < 2 ^ 62 by decide)
    rw [Nat.and_one_is_mod] at this
    exact this
  have e2 : w.testBit i = decide (w / 2 ^ i % 2 = 1) := by rw [Nat.testBit_eq_decide_div_mod_eq]
  obtain ⟨q, rfl⟩ := Int.eq_ofNat_of_zero_le h0
  rw [shr_bit w i hw hi, e1, e2, Int.toNat_natCast]
  have hq : q < 12 := by omega
  have t : ∀ q : Fin 12, shl .i64 ((0 : Nat) : Int) (q.1 : Int) = 0 ∧ shl .i64 ((1 : Nat) : Int) (q.1 : Int) = ((2 ^ q.1 : Nat) : Int) := by decide +kernel
  have tq := t ⟨q, hq⟩
  simp only at tq
  rcases Nat.mod_two_eq_zero_or_one (w / 2 ^ i) with h | h
  · rw [h, tq.1, if_neg (by decide)]; rfl
  · rw [h, tq.2, if_pos (by decide)]
theorem spec_gcMoved_ev (w : Nat) (hw : w < 1024) (tt : List Int) (h : isPermB tt = true) : Ev (fun k => spec_gcMoved.f k (w : Int) tt) (mvO w 0 tt : Int) := by
  obtain ⟨h12, hr, hnd⟩ := isPermB_iff'.1 h
  have key : ∀ suf pre, tt = pre ++ suf → ∀ a : Nat, a < 4096 → (∀ x ∈ suf, a.testBit x.toNat = false) → Ev (fun k => spec_gcMoved.l0 k (w : Int) (a : Int) tt (tt.length : Int) (pre.length : Int)) ((a ||| mvO w pre.length suf : Nat) : Int) := by
    refine range_ind (by omega) (fun pre suf => ∀ a : Nat, a < 4096 → (∀ x ∈ suf, a.testBit x.toNat = false) → Ev (fun k => spec_gcMoved.l0 k (w : Int) (a : Int) tt (tt.length : Int) (pre.length : Int)) ((a ||| mvO w pre.length suf : Nat) : Int)) ?_ ?_
    · intro a _ _
      refine ev_shift ?_
      simp only [spec_gcMoved.l0]
      exact ev_neg (by omega) (ev_some (by simp [mvO]))
    · intro pre x suf hh hx h1 h2 h3 ih a ha hb
      have hxr := hr x (by rw [hh]; simp)
      have hlen : tt.length = pre.length + suf.length + 1 := by rw [hh]; simp; omega
      have et := bit_term w pre.length x hw (by omega) hxr.1 (by omega)
      have hnx : ∀ y ∈ suf, y.toNat ≠ x.toNat := by
        intro y hy he
        have hyr := hr y (by rw [hh]; simp [hy])
        rw [hh, List.nodup_append] at hnd
        have := (List.nodup_cons.1 hnd.2.1).1
        have e : x = y := by omega
        exact this (by rw [e]; exact hy)
      have hbx := hb x (by simp)
      obtain ⟨t, ht⟩ : ∃ t : Nat, t = (if w.testBit pre.length = true then 2 ^ x.toNat else 0) := ⟨_, rfl⟩
      have hsum : a + t = a ||| t := by
        rw [ht]
        split
        · exact (or_add hbx).symm
        · simp
      have htl : t < 4096 := by
        rw [ht]; split
        · exact pow_lt12 (by omega)
        · decide
      have hor : a ||| t < 4096 := Nat.or_lt_two_pow (n := 12) ha htl
      have e2 : wrap64 ((a : Int) + (t : Int)) = ((a ||| t : Nat) : Int) := by rw [w64 (by omega) (by omega), ← hsum]; omega
      refine ev_shift ?_
      simp only [spec_gcMoved.l0, hx, h3, et]
      rw [← ht, e2]
      refine ev_pos h1 (ev_pos h2 (ev_pos h1 (ev_pos hxr.1 ?_)))
      have := ih (a ||| t) hor (fun y hy => by
        rw [Nat.testBit_or, hb y (by simp [hy]), Bool.false_or, ht]
        split
        · rw [Nat.testBit_two_pow, decide_eq_false_iff_not]; exact fun e => hnx y hy e.symm
        · simp)
      rw [List.length_append, List.length_singleton] at this
      rw [mvO, ← ht, ← Nat.or_assoc, List.length_append, List.length_singleton]
      exact this
  have := key tt [] rfl 0 (by decide) (fun x _ => Nat.zero_testBit _)
  unfold spec_gcMoved.f
  simpa using this
theorem impl_MoveBits_1_eq (w : Nat) (hw : w < 1024) (tt : List Int) (h : isPermB tt = true) : impl_MoveBits_1.f 20 (w : Int) tt = some (mvO w 0 tt : Int) := by
  obtain ⟨h12, hr, hnd⟩ := isPermB_iff'.1 h
  have key : ∀ (suf pre : List Int), tt = pre ++ suf → ∀ (k a : Nat), suf.length < k → a < 4096 → impl_MoveBits_1.l0 k (w : Int) (a : Int) tt (pre.length : Int) = some ((a ||| mvO w pre.length suf : Nat) : Int) := by
    intro suf
    induction suf with
    | nil =>
      intro pre hh k a hk ha
      obtain ⟨k, rfl⟩ : ∃ m, k = m + 1 := ⟨k - 1, by omega⟩
      simp only [impl_MoveBits_1.l0]
      rw [if_neg (by rw [hh]; simp)]
      simp [mvO]
    | cons x suf ih =>
      intro pre hh k a hk ha
      obtain ⟨k, rfl⟩ : ∃ m, k = m + 1 := ⟨k - 1, by omega⟩
      have hxr := hr x (by rw [hh]; simp)
      have hlen : tt.length = pre.length + suf.length + 1 := by rw [hh]; simp; omega
      have hx : rd tt (pre.length : Int) = x := by rw [hh]; exact rd_at _ _ _
      have et := bit_term w pre.length x hw (by omega) hxr.1 (by omega)
      obtain ⟨t, ht⟩ : ∃ t : Nat, t = (if w.testBit pre.length = true then 2 ^ x.toNat else 0) := ⟨_, rfl⟩
      have htl : t < 4096 := by
        rw [ht]; split
        · exact pow_lt12 (by omega)
        · decide
      have hor : a ||| t < 4096 := Nat.or_lt_two_pow (n := 12) ha htl
      have e2 : Go.bits .or .i64 (a : Int) (t : Int) = ((a ||| t : Nat) : Int) := or_nat (by omega) (by omega)
      have h3 : wrap64 ((pre.length : Int) + 1) = ((pre ++ [x]).length : Int) := by rw [w64 (by omega) (by omega)]; simp
      simp only [impl_MoveBits_1.l0, hx, h3, et]
      rw [← ht, e2, if_pos (by omega), if_pos (by omega), if_pos hxr.1]
      have := ih (pre ++ [x]) (by rw [hh]; simp) k (a ||| t) (by simp only [List.length_cons] at hk; omega) hor
      rw [this, mvO, ← ht, ← Nat.or_assoc, List.length_append, List.length_singleton]
  have := key tt [] rfl 20 0 (by omega) (by decide)
  simpa [impl_MoveBits_1.f] using this
theorem spec_MoveBits_ev (n : Int) (l tt : List Int) (hl : l.length ≤ 9000000000000000000) (ht : tt.length ≤ 9000000000000000000) : Ev (fun j => spec_MoveBits.f j n l tt) (mvP n l tt) := by
  unfold spec_MoveBits.f mvP
  have bad : ¬ (areW n l = true ∧ isPermB tt = true ∧ (tt.length : Int) = n) → Ev (fun k => spec_MoveBits.j0 k l tt true) (if areW n l = true ∧ isPermB tt = true ∧ (tt.length : Int) = n then (l.map fun w => (mvO w.toNat 0 tt : Int), true) else ([], false)) := by
    intro h
    rw [if_neg h]
    refine ev_shift ?_
    simp only [spec_MoveBits.j0]
    exact ev_pos (by trivial) (ev_some rfl)
  refine ev_bind (spec_gcWords_ev n l hl) ?_
  by_cases h : areW n l = true
  · refine ev_pos h (ev_bind (spec_raPermutation_ev tt ht) ?_)
    by_cases hp : isPermB tt = true
    · refine ev_pos hp ?_
      by_cases he : (tt.length : Int) = n
      · rw [show ((tt.length : Int) != n) = false by simp [he], if_pos ⟨h, hp, he⟩]
        refine ev_shift ?_
        simp only [spec_MoveBits.j0]
        refine ev_neg Bool.false_ne_true ?_
        have hr := areW_range h
        have key : ∀ suf pre, l = pre ++ suf → Ev (fun k => spec_MoveBits.l0 k tt (pre.map fun w => (mvO w.toNat 0 tt : Int)) l (l.length : Int) (pre.length : Int)) (l.map fun w => (mvO w.toNat 0 tt : Int), true) := by
          refine range_ind hl (fun pre suf => Ev (fun k => spec_MoveBits.l0 k tt (pre.map fun w => (mvO w.toNat 0 tt : Int)) l (l.length : Int) (pre.length : Int)) (l.map fun w => (mvO w.toNat 0 tt : Int), true)) ?_ ?_
          · refine ev_shift ?_
            simp only [spec_MoveBits.l0]
            exact ev_neg (by omega) (ev_some rfl)
          · intro pre x suf hh hx h1 h2 h3 ih
            have hxr := hr x (by rw [hh]; simp)
            have hll := (areW_iff.1 h).2.1
            obtain ⟨q, rfl⟩ := Int.eq_ofNat_of_zero_le hxr.1
            refine ev_shift ?_
            simp only [spec_MoveBits.l0, hx, h3]
            refine ev_pos h1 (ev_pos h2 (ev_pos h1 (ev_bind (spec_gcMoved_ev q (by omega) tt hp) (ev_pos (by rw [List.length_map]; omega) ?_))))
            simpa only [List.map_append, List.map_cons, List.map_nil, Int.toNat_natCast] using ih
        exact key l [] rfl
      · rw [show ((tt.length : Int) != n) = true by simp [he]]
        exact bad (fun c => he c.2.2)
    · exact ev_neg hp (bad (fun c => hp c.2.1))
  · exact ev_neg h (bad (fun c => h c.1))
theorem impl_MoveBits_ev (n : Int) (l tt : List Int) (hl : l.length ≤ 9000000000000000000) : Ev (fun j => impl_MoveBits.f j n l tt) (mvP n l tt) := by
  unfold impl_MoveBits.f mvP
  refine ev_bind (impl_areWords_ev n l hl) ?_
  by_cases h : areW n l = true
  · refine ev_pos h ?_
    by_cases he : (tt.length : Int) = n
    · refine ev_pos he (ev_bind0 (show impl_IsPermutation.f tt = some (isPermB tt) from rfl) ?_)
      by_cases hp : isPermB tt = true
      · have hr := areW_range h
        have hll := (areW_iff.1 h).2.1
        have eq1 : ∀ x ∈ l, impl_MoveBits_1.f 20 x tt = some (mvO x.toNat 0 tt : Int) := by
          intro x hx
          have hxr := hr x hx
          obtain ⟨q, rfl⟩ := Int.eq_ofNat_of_zero_le hxr.1
          rw [Int.toNat_natCast]
          exact impl_MoveBits_1_eq q (by omega) tt hp
        refine ev_pos hp (ev_pos ⟨by omega, fun x hx => by rw [eq1 x hx]; rfl⟩ (ev_some ?_))
        rw [if_pos ⟨h, hp, he⟩]
        congr 1
        apply List.map_congr_left
        intro x hx
        rw [eq1 x hx]; rfl
      · exact ev_neg hp (ev_some (by rw [if_neg (fun c => hp c.2.1)]))
    · exact ev_neg he (ev_some (by rw [if_neg (fun c => he c.2.2)]))
  · exact ev_neg h (ev_some (by rw [if_neg (fun c => h c.1)]))
theorem dr_gray_j7 {c : List Int} (hc : wfB c) (n : Int) (hn : 0 ≤ n) (hn2 : n ≤ 20) (l : List Int) (h0l : 0 < l.length) (hl : l.length ≤ 40) (a s : Int) (h0 : 0 ≤ a) (h1 : a ≤ 3999999999999998000) : ∃ n' l' a' s', Ev (fun k => spec_l1Cur_gray.j7 k n l c a s) (n', l', a', s') ∧ a ≤ a' ∧ a' ≤ a + 10 ∧ l'.length ≤ 41 := by
  obtain ⟨x, a1, s1, e1, u1, u2, u3, u4, u5⟩ := dr_pick hc s 16 h0 (by omega)
  by_cases c0 : x = 0
  · obtain ⟨y, a2, s2, e2, v1, v2, v3, v4, v5⟩ := dr_pick hc s1 (l.length : Int) (a := a1) (by omega) (by omega)
    have hy : y < (l.length : Int) := by
      by_cases h : (l.length : Int) ≤ 1
      · have := v4 h; omega
      · exact v5 (by omega)
    obtain ⟨z, a3, s3, e3, w1, w2, _⟩ := dr_among hc s2 [0, 1, 5, (-1), shl .i64 1 n, 1099511627776] (by simp) (a := a2) (by omega) (by omega)
    refine ⟨n, l.set y.toNat z, a3, s3, ev_shift ?_, by omega, by omega, by simp; omega⟩
    simp only [spec_l1Cur_gray.j7]
    exact ev_bind0 e1 (ev_pos c0 (ev_bind0 e2 (ev_pos hn (ev_bind0 e3 (ev_pos v3 (ev_pos hy (ev_some rfl)))))))
  by_cases c1 : x = 1
  · obtain ⟨y, a2, s2, e2, v1, v2, v3, v4, v5⟩ := dr_pick hc s1 (l.length : Int) (a := a1) (by omega) (by omega)
    have hy : y < (l.length : Int) := by
      by_cases h : (l.length : Int) ≤ 1
      · have := v4 h; omega
      · exact v5 (by omega)
    refine ⟨n, l.take y.toNat, a2, s2, ev_shift ?_, by omega, by omega, by simp only [List.length_take]; omega⟩
    simp only [spec_l1Cur_gray.j7]
    exact ev_bind0 e1 (ev_neg c0 (ev_pos c1 (ev_bind0 e2 (ev_pos v3 (ev_pos (by omega) (ev_some rfl))))))
  by_cases c2 : x = 2
  · obtain ⟨y, a2, s2, e2, v1, v2, v3, v4, v5⟩ := dr_pick hc s1 (shl .i64 1 n) (a := a1) (by omega) (by omega)
    refine ⟨n, l ++ [y], a2, s2, ev_shift ?_, by omega, by omega, by simp; omega⟩
    simp only [spec_l1Cur_gray.j7]
    exact ev_bind0 e1 (ev_neg c0 (ev_neg c1 (ev_pos c2 (ev_pos hn (ev_bind0 e2 (ev_pos (by omega) (ev_some rfl)))))))
  by_cases c3 : x = 3
  · obtain ⟨y, a2, s2, e2, v1, v2, _⟩ := dr_among hc s1 [(-1), 0, wrap64 (n + 1), 10, 11] (by simp) (a := a1) (by omega) (by omega)
    refine ⟨y, l, a2, s2, ev_shift ?_, by omega, by omega, by omega⟩
    simp only [spec_l1Cur_gray.j7]
    exact ev_bind0 e1 (ev_neg c0 (ev_neg c1 (ev_neg c2 (ev_pos c3 (ev_bind0 e2 (ev_some rfl))))))
  · refine ⟨n, l, a1, s1, ev_shift ?_, by omega, by omega, by omega⟩
    simp only [spec_l1Cur_gray.j7]
    exact ev_bind0 e1 (ev_neg c0 (ev_neg c1 (ev_neg c2 (ev_neg c3 (ev_some rfl)))))
theorem dr_gray_j5 {c : List Int} (hc : wfB c) (n : Int) (hn : 0 ≤ n) (hn2 : n ≤ 20) (l : List Int) (h0l : 0 < l.length) (hl : l.length ≤ 40) (a s : Int) (h0 : 0 ≤ a) (h1 : a ≤ 3999999999999997000) : ∃ n' l' a' s', Ev (fun k => spec_l1Cur_gray.j5 k n l c a s) (n', l', a', s') ∧ a ≤ a' ∧ a' ≤ a + 16 ∧ l'.length ≤ 41 := by
  have h6 : ∀ (b : Bool) (a s : Int), 0 ≤ a → a ≤ 3999999999999997500 → ∃ n' l' a' s', Ev (fun k => spec_l1Cur_gray.j6 k n l b c a s) (n', l', a', s') ∧ a ≤ a' ∧ a' ≤ a + 12 ∧ l'.length ≤ 41 := by
    intro b a s h0 h1
    cases b
    · obtain ⟨n', l', a', s', g1, g2, g3, g4⟩ := dr_gray_j7 hc n hn hn2 l h0l hl a s h0 (by omega)
      refine ⟨n', l', a', s', ev_shift ?_, by omega, by omega, g4⟩
      simp only [spec_l1Cur_gray.j6]
      exact ev_neg Bool.false_ne_true g1
    · obtain ⟨x, a1, s1, e1, u1, u2⟩ := dr_one hc s 2 h0 (by omega)
      by_cases hx : x = true
      · obtain ⟨n', l', a', s', g1, g2, g3, g4⟩ := dr_gray_j7 hc n hn hn2 [0, 1, 3, 2, 6, 4, 5, 7] (by decide) (by decide) a1 s1 (by omega) (by omega)
        refine ⟨n', l', a', s', ev_shift ?_, by omega, by omega, g4⟩
        simp only [spec_l1Cur_gray.j6]
        exact ev_pos (by trivial) (ev_bind0 e1 (ev_pos hx g1))
      · obtain ⟨n', l', a', s', g1, g2, g3, g4⟩ := dr_gray_j7 hc n hn hn2 [0, 1, 3, 7, 5, 4, 6, 2] (by decide) (by decide) a1 s1 (by omega) (by omega)
        refine ⟨n', l', a', s', ev_shift ?_, by omega, by omega, g4⟩
        simp only [spec_l1Cur_gray.j6]
        exact ev_pos (by trivial) (ev_bind0 e1 (ev_neg hx g1))
  by_cases h3 : n = 3
  · obtain ⟨x, a1, s1, e1, u1, u2⟩ := dr_one hc s 3 h0 (by omega)
    obtain ⟨n', l', a', s', g1, g2, g3, g4⟩ := h6 x a1 s1 (by omega) (by omega)
    refine ⟨n', l', a', s', ev_shift ?_, by omega, by omega, g4⟩
    simp only [spec_l1Cur_gray.j5]
    exact ev_pos h3 (ev_bind0 e1 g1)
  · obtain ⟨n', l', a', s', g1, g2, g3, g4⟩ := h6 false a s h0 (by omega)
    refine ⟨n', l', a', s', ev_shift ?_, by omega, by omega, g4⟩
    simp only [spec_l1Cur_gray.j5]
    exact ev_neg h3 g1
theorem dr_gray_j4 {c : List Int} (hc : wfB c) (n : Int) (hn : 0 ≤ n) (hn2 : n ≤ 20) (l : List Int) (h0l : 0 < l.length) (hl : l.length ≤ 40) (a s : Int) (h0 : 0 ≤ a) (h1 : a ≤ 3999999999999996000) : ∃ n' l' a' s', Ev (fun k => spec_l1Cur_gray.j4 k n l c a s) (n', l', a', s') ∧ a ≤ a' ∧ a' ≤ a + 20 ∧ l'.length ≤ 41 := by
  obtain ⟨x, a1, s1, e1, u1, u2⟩ := dr_one hc s 3 h0 (by omega)
  by_cases hx : x = true
  · obtain ⟨y, a2, s2, e2, v1, v2, v3, v4, v5⟩ := dr_pick hc s1 (l.length : Int) (a := a1) (by omega) (by omega)
    have hy : y < (l.length : Int) := by
      by_cases h : (l.length : Int) ≤ 1
      · have := v4 h; omega
      · exact v5 (by omega)
    have hlen : (l.drop y.toNat ++ l.take y.toNat).length = l.length := by simp only [List.length_append, List.length_drop, List.length_take]; omega
    obtain ⟨n', l', a', s', g1, g2, g3, g4⟩ := dr_gray_j5 hc n hn hn2 (l.drop y.toNat ++ l.take y.toNat) (by omega) (by omega) a2 s2 (by omega) (by omega)
    refine ⟨n', l', a', s', ev_shift ?_, by omega, by omega, g4⟩
    simp only [spec_l1Cur_gray.j4]
    refine ev_bind0 e1 (ev_pos hx (ev_bind0 e2 (ev_pos v3 (ev_pos (by omega) (ev_bind0 (a := l.drop y.toNat) ?_ (ev_bind0 rfl (ev_pos ?_ g1)))))))
    · unfold spec_l1Own.f; simp; omega
    · rw [← List.length_append, hlen]; omega
  · obtain ⟨n', l', a', s', g1, g2, g3, g4⟩ := dr_gray_j5 hc n hn hn2 l h0l hl a1 s1 (by omega) (by omega)
    refine ⟨n', l', a', s', ev_shift ?_, by omega, by omega, g4⟩
    simp only [spec_l1Cur_gray.j4]
    exact ev_bind0 e1 (ev_neg hx g1)
theorem rd_set_ne {l : List Int} {i j : Nat} {v : Int} (h : i ≠ j) : rd (l.set i v) (j : Int) = rd l (j : Int) := by
  simp only [rd_nat, List.getD_eq_getElem?_getD, List.getElem?_set_ne h]
theorem dr_gray_l1 {c : List Int} (n : Int) (o : List Int) (hp : isPermB o = true) (a2 s2 : Int) : ∀ (f i : Nat) (l : List Int) (L : Nat), i + f = L → l.length = L → L ≤ 40 → (∀ j : Nat, i ≤ j → j < L → 0 ≤ rd l (j : Int) ∧ rd l (j : Int) < 1024) → ∃ l' : List Int, l'.length = L ∧ ∀ r, (Ev (fun k => spec_l1Cur_gray.j4 k n l' c a2 s2) r → Ev (fun k => spec_l1Cur_gray.l1 k n l o (L : Int) (i : Int) c a2 s2) r) := by
  intro f
  induction f with
  | zero =>
    intro i l L hi hl hL _
    refine ⟨l, hl, fun r h => ev_shift ?_⟩
    simp only [spec_l1Cur_gray.l1]
    exact ev_neg (by omega) h
  | succ f ih =>
    intro i l L hi hl hL hr
    have hx := hr i (Nat.le_refl _) (by omega)
    obtain ⟨w, hw⟩ := Int.eq_ofNat_of_zero_le hx.1
    have hw2 : w < 1024 := by omega
    have e1 : wrap64 ((i : Int) + 1) = ((i + 1 : Nat) : Int) := by rw [w64 (by omega) (by omega)]; omega
    obtain ⟨v, hv⟩ : ∃ v : Int, v = ((mvO w 0 o : Nat) : Int) := ⟨_, rfl⟩
    have hr2 : ∀ j : Nat, i + 1 ≤ j → j < L → 0 ≤ rd (l.set i v) (j : Int) ∧ rd (l.set i v) (j : Int) < 1024 := by
      intro j g1 g2
      have e2 : rd (l.set i v) (j : Int) = rd l (j : Int) := rd_set_ne (i := i) (j := j) (v := v) (Nat.ne_of_lt g1)
      rw [e2]
      exact hr j (Nat.le_of_succ_le g1) g2
    obtain ⟨l', hl', k⟩ := ih (i + 1) (l.set i v) L (by omega) (by rw [List.length_set]; exact hl) hL hr2
    refine ⟨l', hl', fun r h => ev_shift ?_⟩
    have hg := spec_gcMoved_ev w hw2 o hp
    rw [← hv] at hg
    have hk := k r h
    simp only [spec_l1Cur_gray.l1, e1, Int.toNat_natCast]
    rw [hw]
    exact ev_pos (by omega) (ev_pos (by omega) (ev_pos (by omega) (ev_bind hg hk)))
theorem dr_gray_l0 {c : List Int} (n : Int) (B : Nat) (hB : B ≤ 5) (z : Nat) (hz : z < 2 ^ B) (a3 s3 : Int) : ∀ (f i : Nat) (l : List Int), i + f = l.length → l.length ≤ 40 → (∀ x ∈ l, 0 ≤ x ∧ x < ((2 ^ B : Nat) : Int)) → ∃ l' : List Int, l'.length = l.length ∧ (∀ x ∈ l', 0 ≤ x ∧ x < ((2 ^ B : Nat) : Int)) ∧ ∀ r, (Ev (fun k => spec_l1Cur_gray.j1 k n l' c a3 s3) r → Ev (fun k => spec_l1Cur_gray.l0 k n l (z : Int) (l.length : Int) (i : Int) c a3 s3) r) := by
  have hp : 2 ^ B ≤ 32 := Nat.le_trans (Nat.pow_le_pow_right (by decide) hB) (by decide)
  intro f
  induction f with
  | zero =>
    intro i l hi hL hr
    refine ⟨l, rfl, hr, fun r h => ev_shift ?_⟩
    simp only [spec_l1Cur_gray.l0]
    exact ev_neg (by omega) h
  | succ f ih =>
    intro i l hi hL hr
    have hx := hr _ (rd_mem (l := l) (j := i) (by omega))
    obtain ⟨w, hw⟩ := Int.eq_ofNat_of_zero_le hx.1
    have hwB : w < 2 ^ B := by omega
    have e1 : wrap64 ((i : Int) + 1) = ((i + 1 : Nat) : Int) := by rw [w64 (by omega) (by omega)]; omega
    have hxx : Go.bits .xor .i64 (w : Int) (z : Int) = ((w ^^^ z : Nat) : Int) := xor_nat (by omega) (by omega)
    have hlt : w ^^^ z < 2 ^ B := Nat.xor_lt_two_pow hwB hz
    obtain ⟨v, hv⟩ : ∃ v : Int, v = ((w ^^^ z : Nat) : Int) := ⟨_, rfl⟩
    have hv2 : 0 ≤ v ∧ v < ((2 ^ B : Nat) : Int) := by rw [hv]; exact ⟨Int.natCast_nonneg _, by exact_mod_cast hlt⟩
    rw [← hv] at hxx
    obtain ⟨l', hl', hr', k⟩ := ih (i + 1) (l.set i v) (by rw [List.length_set]; omega) (by rw [List.length_set]; exact hL) (fun x hx => by
      rcases List.mem_or_eq_of_mem_set hx with hx | rfl
      · exact hr x hx
      · exact hv2)
    rw [List.length_set] at hl'
    refine ⟨l', hl', hr', fun r h => ev_shift ?_⟩
    have hk := k r h
    rw [List.length_set] at hk
    simp only [spec_l1Cur_gray.l0, e1, Int.toNat_natCast]
    rw [hw, hxx]
    exact ev_pos (by omega) (ev_pos (by omega) (ev_pos (by omega) hk))
theorem dr_gray_j1 {c : List Int} (hc : wfB c) (n : Int) (hn : 0 ≤ n) (hn2 : n ≤ 20) (l : List Int) (h0l : 0 < l.length) (hl : l.length ≤ 40) (hr : ∀ x ∈ l, 0 ≤ x ∧ x < 1024) (a s : Int) (h0 : 0 ≤ a) (h1 : a ≤ 3999999999999970000) : ∃ n' l' a' s', Ev (fun k => spec_l1Cur_gray.j1 k n l c a s) (n', l', a', s') ∧ a ≤ a' ∧ a' ≤ a + 90 ∧ l'.length ≤ 41 := by
  obtain ⟨o, a1, s1, e1, u1, u2, u3⟩ := dr_order hc n a s h0 (by omega)
  obtain ⟨x, a2, s2, e2, v1, v2⟩ := dr_one hc s1 2 (a := a1) (by omega) (by omega)
  have hj : ∀ b : Bool, (b = true → isPermB o = true) → ∃ n' l' a' s', Ev (fun k => spec_l1Cur_gray.j2 k n l o b c a2 s2) (n', l', a', s') ∧ a2 ≤ a' ∧ a' ≤ a2 + 20 ∧ l'.length ≤ 41 := by
    intro b hb
    by_cases h : b = true
    · have hp := hb h
      obtain ⟨l2, hl2, k⟩ := dr_gray_l1 (c := c) n o hp a2 s2 l.length 0 l l.length (by omega) rfl hl (fun j _ h2 => hr _ (rd_mem h2))
      obtain ⟨n', l', a', s', g1, g2, g3, g4⟩ := dr_gray_j4 hc n hn hn2 l2 (by omega) (by omega) a2 s2 (by omega) (by omega)
      refine ⟨n', l', a', s', ev_shift ?_, g2, g3, g4⟩
      simp only [spec_l1Cur_gray.j2]
      exact ev_pos h (k _ g1)
    · obtain ⟨n', l', a', s', g1, g2, g3, g4⟩ := dr_gray_j4 hc n hn hn2 l h0l hl a2 s2 (by omega) (by omega)
      refine ⟨n', l', a', s', ev_shift ?_, g2, g3, g4⟩
      simp only [spec_l1Cur_gray.j2]
      exact ev_neg h g1
  by_cases hx : x = true
  · obtain ⟨n', l', a', s', g1, g2, g3, g4⟩ := hj (isPermB o) id
    refine ⟨n', l', a', s', ev_shift ?_, by omega, by omega, g4⟩
    simp only [spec_l1Cur_gray.j1]
    exact ev_bind e1 (ev_bind0 e2 (ev_pos hx (ev_bind (spec_raPermutation_ev o (by omega)) g1)))
  · obtain ⟨n', l', a', s', g1, g2, g3, g4⟩ := hj false (fun c => by cases c)
    refine ⟨n', l', a', s', ev_shift ?_, by omega, by omega, g4⟩
    simp only [spec_l1Cur_gray.j1]
    exact ev_bind e1 (ev_bind0 e2 (ev_neg hx g1))
theorem dr_gray {c : List Int} (hc : wfB c) : ∃ n' l' a' s', Ev (fun k => spec_l1Cur_gray.f k c 0 0) (n', l', a', s') ∧ 0 ≤ a' ∧ a' ≤ 100 ∧ l'.length ≤ 41 := by
  unfold spec_l1Cur_gray.f
  obtain ⟨x, a1, s1, e1, u1, u2, u3, u4, u5⟩ := dr_pick hc 0 5 (a := 0) (by decide) (by decide)
  have hx5 := u5 (by decide)
  obtain ⟨q, rfl⟩ := Int.eq_ofNat_of_zero_le u3
  have ew : wrap64 (1 + (q : Int)) = ((q + 1 : Nat) : Int) := by rw [w64 (by omega) (by omega)]; omega
  have hq : q + 1 ≤ 5 := by omega
  have hpw : 2 ^ (q + 1) ≤ 2 ^ 5 := Nat.pow_le_pow_right (by decide) hq
  have hpp := Nat.two_pow_pos (q + 1)
  obtain ⟨y, a2, s2, e2, v1, v2⟩ := dr_one hc s1 3 (a := a1) (by omega) (by omega)
  have hlen := grL_length (show q + 1 ≤ 10 by omega)
  have hmem : ∀ z ∈ grL (q + 1), 0 ≤ z ∧ z < ((2 ^ (q + 1) : Nat) : Int) := fun z hz => by
    have h := grL_mem (show q + 1 ≤ 10 by omega) hz
    have e : ((2 ^ (q + 1) : Nat) : Int) = (2 : Int) ^ (q + 1) := by simp
    rw [e]; exact h
  by_cases hy : y = true
  · have hsh : shl .i64 1 ((q + 1 : Nat) : Int) = ((2 ^ (q + 1) : Nat) : Int) := (show ∀ n : Fin 11, shl .i64 1 (n.1 : Int) = ((2 ^ n.1 : Nat) : Int) by decide +kernel) ⟨q + 1, by omega⟩
    obtain ⟨z, a3, s3, e3, w1, w2, w3, w4, w5⟩ := dr_pick hc s2 ((2 ^ (q + 1) : Nat) : Int) (a := a2) (by omega) (by omega)
    have hz : z < ((2 ^ (q + 1) : Nat) : Int) := by
      by_cases h : ((2 ^ (q + 1) : Nat) : Int) ≤ 1
      · have := w4 h; omega
      · exact w5 (by omega)
    obtain ⟨z, rfl⟩ := Int.eq_ofNat_of_zero_le w3
    obtain ⟨l', hl', hr', k⟩ := dr_gray_l0 (c := c) ((q + 1 : Nat) : Int) (q + 1) hq z (by omega) a3 s3 (grL (q + 1)).length 0 (grL (q + 1)) (by omega) (by omega) hmem
    obtain ⟨n', l2, a', s', g1, g2, g3, g4⟩ := dr_gray_j1 hc ((q + 1 : Nat) : Int) (by omega) (by omega) l' (by omega) (by omega) (fun x hx => by have := hr' x hx; omega) a3 s3 (by omega) (by omega)
    refine ⟨n', l2, a', s', ?_, by omega, by omega, g4⟩
    refine ev_bind0 e1 ?_
    dsimp only
    rw [ew]
    refine ev_bind (spec_gcList_ev (q + 1) (by omega)) (ev_bind0 e2 (ev_pos hy (ev_pos (by omega) ?_)))
    rw [hsh]
    exact ev_bind0 e3 (k _ g1)
  · obtain ⟨n', l2, a', s', g1, g2, g3, g4⟩ := dr_gray_j1 hc ((q + 1 : Nat) : Int) (by omega) (by omega) (grL (q + 1)) (by omega) (by omega) (fun x hx => by have := hmem x hx; omega) a2 s2 (by omega) (by omega)
    refine ⟨n', l2, a', s', ?_, by omega, by omega, g4⟩
    refine ev_bind0 e1 ?_
    dsimp only
    rw [ew]
    exact ev_bind (spec_gcList_ev (q + 1) (by omega)) (ev_bind0 e2 (ev_neg hy g1))
theorem w64r (x : Int) : -9223372036854775808 ≤ wrap64 x ∧ wrap64 x ≤ 9223372036854775807 := by unfold wrap64; omega
theorem dr_rank {c : List Int} (hc : wfB c) {a : Int} (s n : Int) (hn : -9223372036854775808 ≤ n) (hn1 : n ≤ 9223372036854775807) (h0 : 0 ≤ a) (h1 : a ≤ 3999999999999999000) : ∃ r a' s', spec_l1Cur_rank.f c a s n = some (r, a', s') ∧ a ≤ a' ∧ a' ≤ a + 8 ∧ -9223372036854775808 ≤ r ∧ r ≤ 9223372036854775807 := by
  unfold spec_l1Cur_rank.f
  obtain ⟨x, a1, s1, e1, u2, u3, u4, u5, u6⟩ := dr_pick hc s 12 h0 (by omega)
  rw [e1]
  simp only [Option.bind_some]
  by_cases c0 : x = 0
  · rw [if_pos c0]
    obtain ⟨r, a2, s2, e2, g2, g3, g4⟩ := dr_among hc s1 [-1, n, wrap64 (n + 1), 4611686018427387904] (by simp) (a := a1) (by omega) (by omega)
    rw [e2]
    have hw := w64r (n + 1)
    generalize hq : wrap64 (n + 1) = q at g4 hw e2; clear hq
    simp only [List.mem_cons, List.not_mem_nil, or_false] at g4
    exact ⟨_, _, _, rfl, by dsimp only; omega, by dsimp only; omega, by dsimp only; omega, by dsimp only; omega⟩
  rw [if_neg c0]
  by_cases c1 : x = 1
  · rw [if_pos c1]
    have hw := w64r (n - 1)
    exact ⟨_, _, _, rfl, by omega, by omega, by omega, by omega⟩
  rw [if_neg c1]
  by_cases c2 : x = 2
  · rw [if_pos c2]
    exact ⟨_, _, _, rfl, by omega, by omega, by omega, by omega⟩
  rw [if_neg c2]
  by_cases c3 : n < 2
  · rw [if_pos c3]
    exact ⟨_, _, _, rfl, by omega, by omega, by omega, by omega⟩
  rw [if_neg c3]
  obtain ⟨y, a2, s2, e2, v2, v3, v4, v5, v6⟩ := dr_pick hc s1 60000 (a := a1) (by omega) (by omega)
  rw [e2]
  simp only [Option.bind_some]
  obtain ⟨z, a3, s3, e3, w2, w3, w4, w5, w6⟩ := dr_pick hc s2 60000 (a := a2) (by omega) (by omega)
  rw [e3]
  simp only [Option.bind_some]
  have := v6 (by decide); have := w6 (by decide)
  rw [if_neg (by omega), w64 (x := y * 60000) (by omega) (by omega), w64 (by omega) (by omega), Int.tmod_eq_emod_of_nonneg (by omega)]
  have g0 := Int.emod_nonneg (y * 60000 + z) (b := n) (by omega)
  have g1 := Int.emod_lt_of_pos (y * 60000 + z) (b := n) (by omega)
  exact ⟨_, _, _, rfl, by omega, by omega, by omega, by omega⟩
theorem spec_l1Most_eq (a b : Int) : spec_l1Most.f a b = some (if a > b then a else b) := by
  unfold spec_l1Most.f
  split <;> rfl
theorem shl12m : ∀ n : Fin 13, 1 ≤ shl .i64 1 (n.1 : Int) ∧ shl .i64 1 (n.1 : Int) ≤ 4096 := by decide +kernel
theorem dr_MoveBits {c : List Int} (hc : wfB c) : ∃ n l o, Ev (fun k => spec_DrawMoveBits.f k c) (n, l, o) ∧ l.length ≤ 41 ∧ o.length ≤ 20 := by
  unfold spec_DrawMoveBits.f
  obtain ⟨n, l, a, s, e, h0, h1, h⟩ := dr_gray hc
  obtain ⟨o, a', s', e2, _, _, h2⟩ := dr_order hc n a s h0 (by omega)
  exact ⟨n, l, o, ev_bind e (ev_bind e2 (ev_some rfl)), h, h2⟩
theorem dr_FlipBits {c : List Int} (hc : wfB c) : ∃ n l m, Ev (fun k => spec_DrawFlipBits.f k c) (n, l, m) ∧ l.length ≤ 41 := by
  unfold spec_DrawFlipBits.f
  obtain ⟨n, l, a, s, e, h0, h1, h⟩ := dr_gray hc
  have hh : ∃ t : Nat, t ≤ 12 ∧ (if (0 : Int) > (if n < 12 then n else 12) then 0 else (if n < 12 then n else 12)) = (t : Int) := by
    refine ⟨(if (0 : Int) > (if n < 12 then n else 12) then 0 else (if n < 12 then n else 12)).toNat, ?_, ?_⟩ <;> (split <;> split at * <;> omega)
  obtain ⟨t, ht, et⟩ := hh
  have hs := shl12m ⟨t, by omega⟩
  simp only at hs
  obtain ⟨r, a', s', e2, _⟩ := dr_rank hc s (shl .i64 1 (t : Int)) (by omega) (by omega) h0 (by omega)
  exact ⟨n, l, r, ev_bind e (ev_bind0 (spec_l1Least_eq _ _) (ev_bind0 (by rw [spec_l1Most_eq, et]) (ev_pos (by omega) (ev_bind0 e2 (ev_some rfl))))), h⟩

theorem u64_of (x : Nat) (h : x < 1000000) : IntKind.u64.wrap (x : Int) = (x : Int) := by
  have : IntKind.u64.wrap (x : Int) = (x : Int) % 18446744073709551616 := by simp [IntKind.wrap, IntKind.bits, IntKind.signed]
  rw [this]; omega
theorem tz_of (x : Nat) (h : x < 1000000) : bits_TrailingZeros.f (x : Int) = some (Lib.ctz 64 x : Int) := by
  unfold bits_TrailingZeros.f
  rw [if_pos ⟨by omega, by omega⟩, Int.toNat_natCast]
theorem oc_table : ∀ w : Fin 1024, bits_OnesCount.f (IntKind.u64.wrap (w.1 : Int)) = some (popc 10 w.1 : Int) := by decide +kernel
theorem impl_delta_int (a b : Int) (ha : 0 ≤ a ∧ a < 1024) (hb : 0 ≤ b ∧ b < 1024) : impl_delta.f a b = some (dl a b) := by
  obtain ⟨a, rfl⟩ := Int.eq_ofNat_of_zero_le ha.1
  obtain ⟨b, rfl⟩ := Int.eq_ofNat_of_zero_le hb.1
  have hx : a ^^^ b < 1024 := Nat.xor_lt_two_pow (n := 10) (by omega) (by omega)
  have hxx : Go.bits .xor .i64 (a : Int) (b : Int) = ((a ^^^ b : Nat) : Int) := xor_nat (by omega) (by omega)
  have h1 := oc_table ⟨a ^^^ b, hx⟩
  simp only at h1
  unfold impl_delta.f dl bitOf
  rw [hxx, h1, Int.toNat_natCast, Int.toNat_natCast, Option.bind_some, u64_of _ (by omega), tz_of _ (by omega)]
  by_cases hc : popc 10 (a ^^^ b) = 1
  · rw [if_pos hc, if_pos (by omega)]; rfl
  · rw [if_neg hc, if_neg (by omega)]
theorem impl_deltas_ev (l : List Int) (hr : ∀ x ∈ l, 0 ≤ x ∧ x < 1024) (hl : l.length ≤ 1000000) : Ev (fun k => impl_deltas.f k l) (pairR [] (dls l)) := by
  cases l with
  | nil =>
    unfold impl_deltas.f
    refine ev_shift ?_
    simp only [impl_deltas.l0]
    exact ev_neg (by simp) (ev_some rfl)
  | cons y r =>
    have key : ∀ suf pre, y :: r = pre ++ suf → ∀ q p out, pre = q ++ [p] → out.length = q.length → Ev (fun k => impl_deltas.l0 k (y :: r) out (pre.length : Int)) (pairR out (dlF p suf)) := by
      refine range_ind (l := y :: r) (by omega) (fun pre suf => ∀ q p out, pre = q ++ [p] → out.length = q.length → Ev (fun k => impl_deltas.l0 k (y :: r) out (pre.length : Int)) (pairR out (dlF p suf))) ?_ ?_
      · intro q p out _ _
        refine ev_shift ?_
        simp only [impl_deltas.l0]
        exact ev_neg (by omega) (ev_some (by simp [pairR, dlF]))
      · intro pre x suf h hx h1 h2 h3 ih q p out hq ho
        have hp := rd_prev q p (x :: suf) (by rw [← hq]; rw [h] at hl; simp at hl ⊢; omega)
        rw [← hq, ← h] at hp
        have hql : pre.length = q.length + 1 := by rw [hq]; simp
        have hpr := hr p (by rw [h, hq]; simp)
        have hxr := hr x (by rw [h]; simp)
        refine ev_shift ?_
        simp only [impl_deltas.l0, hx, h3, hp.1, hp.2, dlF]
        refine ev_pos h1 (ev_pos (by omega) (ev_pos (by omega) (ev_pos h2 (ev_bind0 (impl_delta_int p x hpr hxr) ?_))))
        by_cases hlt : dl p x < 0
        · refine ev_pos hlt (ev_some ?_)
          rw [if_pos hlt]; rfl
        · refine ev_neg hlt (ev_pos (by omega) ?_)
          rw [if_neg hlt, pairR_cons]
          exact ih pre x (out ++ [dl p x]) rfl (by simp; omega)
    exact key r [y] rfl [] y [] rfl rfl
theorem impl_counted_ev (m : Nat) (hm : m ≤ 10) (d : List Int) (hr : ∀ x ∈ d, 0 ≤ x ∧ x < m) (hl : d.length ≤ 1000000) : Ev (fun k => impl_counted.f k (m : Int) d) (cnts m d) := by
  unfold impl_counted.f
  refine ev_pos (by omega) (ev_pos (by omega) ?_)
  rw [Int.toNat_natCast, cnts_nil]
  have hle : d.length ≤ 9000000000000000000 := by omega
  refine range_all hle (fun pre suf => Ev (fun k => impl_counted.l0 k (cnts m pre) d (d.length : Int) (pre.length : Int)) (cnts m d)) ?_ ?_
  · refine ev_shift ?_
    simp only [impl_counted.l0]
    exact ev_neg (by omega) (ev_some rfl)
  · intro pre x suf h hx h1 h2 h3 ih
    have hxr := hr x (by rw [h]; simp)
    obtain ⟨q, rfl⟩ := Int.eq_ofNat_of_zero_le hxr.1
    have hc : pre.count ((q : Nat) : Int) ≤ pre.length := List.count_le_length
    refine ev_shift ?_
    simp only [impl_counted.l0, hx, h3]
    refine ev_pos h1 (ev_pos h2 (ev_pos h1 (ev_pos hxr.1 (ev_pos (by rw [cnts_length]; exact hxr.2) ?_))))
    have hq : q < m := by omega
    rw [w64 (by rw [cnts_rd _ hq]; omega) (by rw [cnts_rd _ hq]; omega), Int.toNat_natCast, cnts_step _ hq]
    exact ih
theorem impl_ChangesOf_ev (n : Int) (l : List Int) (hl : l.length ≤ 9000000000000000000) : Ev (fun k => impl_ChangesOf.f k n l) (chP n l) := by
  unfold impl_ChangesOf.f chP
  refine ev_bind (impl_areWords_ev n l hl) ?_
  by_cases h : areW n l = true
  · obtain ⟨m, rfl, h1, h2, h3, h4⟩ := areW_nat h
    rw [if_pos h, Int.toNat_natCast]
    refine ev_pos h (ev_bind (impl_deltas_ev l (areW_range h) (by omega)) ?_)
    cases hd : dls l with
    | none => exact ev_neg (by simp [pairR]) (ev_some rfl)
    | some d =>
      have := dls_len hd
      exact ev_pos (by simp [pairR]) (ev_bind (by simpa [pairR] using impl_counted_ev m h2 d (dls_mem h2 h4 hd) (by omega)) (ev_some rfl))
  · rw [if_neg h]
    exact ev_neg h (ev_some rfl)
theorem rd_last (l : List Int) (h : 0 < l.length) (h2 : l.length ≤ 1000000) : wrap64 ((l.length : Int) - 1) = ((l.length - 1 : Nat) : Int) ∧ rd l ((l.length - 1 : Nat) : Int) = lastZ l := by
  have e : ((l.length - 1 : Nat) : Int) = (l.length : Int) - 1 := by omega
  refine ⟨by rw [w64 (by omega) (by omega), e], ?_⟩
  unfold lastZ; rw [e]
theorem impl_isCode_ev (n : Nat) (hn : n ≤ 10) (l : List Int) (hr : ∀ x ∈ l, 0 ≤ x ∧ x < 1024) (hl : l.length ≤ 1000000) : Ev (fun k => impl_isCode.f k (n : Int) l) (codeB (n : Int) l) := by
  unfold impl_isCode.f codeB
  refine ev_bind (impl_deltas_ev l hr hl) ?_
  cases hd : dls l with
  | none => exact ev_neg (by simp [pairR]) (ev_some (by simp))
  | some d =>
    refine ev_pos (by simp [pairR]) (ev_pos (by omega) ?_)
    by_cases h : (l.length : Int) = shl .i64 1 (n : Int)
    · refine ev_pos h (ev_bind0 (a := incr (sortZ l)) (by unfold impl_different.f; rw [if_pos hl]) (ev_some ?_))
      rw [incr_sortZ, decide_eq_true h]; simp
    · refine ev_neg h (ev_some ?_)
      rw [decide_eq_false h]; simp
theorem code_len {n : Nat} (hn : n ≤ 10) {l : List Int} (h : codeB (n : Int) l = true) : l.length = 2 ^ n := by
  simp only [codeB, Bool.and_eq_true, decide_eq_true_eq] at h
  have := h.2.2
  rw [shl_one' hn] at this
  exact_mod_cast this
theorem impl_IsCode_ev (n : Int) (l : List Int) (hl : l.length ≤ 9000000000000000000) : Ev (fun k => impl_IsCode.f k n l) (icP n l) := by
  unfold impl_IsCode.f icP
  refine ev_bind (impl_areWords_ev n l hl) ?_
  by_cases h : areW n l = true
  · obtain ⟨m, rfl, h1, h2, h3, h4⟩ := areW_nat h
    rw [if_pos h]
    exact ev_pos h (ev_bind (impl_isCode_ev m h2 l (areW_range h) (by omega)) (ev_some rfl))
  · rw [if_neg h]
    exact ev_neg h (ev_some rfl)
theorem impl_isRoundCode_ev (n : Nat) (hn : n ≤ 10) (l : List Int) (hr : ∀ x ∈ l, 0 ≤ x ∧ x < 1024) (hl : l.length ≤ 1000000) : Ev (fun k => impl_isRoundCode.f k (n : Int) l) (roundB (n : Int) l) := by
  unfold impl_isRoundCode.f roundB
  refine ev_bind (impl_isCode_ev n hn l hr hl) ?_
  by_cases h : codeB (n : Int) l = true
  · have hlen := code_len hn h
    have hp := Nat.two_pow_pos n
    have hla := rd_last l (by omega) hl
    rw [h, Bool.true_and, hla.1, hla.2]
    refine ev_pos rfl (ev_pos (by omega) (ev_pos (by omega) (ev_pos (by omega) (ev_bind0 (impl_delta_int _ _ (hr _ ?_) (hr _ ?_)) (ev_some rfl)))))
    · rw [← hla.2]; exact rd_mem (by omega)
    · exact rd_mem (j := 0) (by omega)
  · simp only [Bool.not_eq_true] at h
    rw [h]
    exact ev_neg (by simp) (ev_some rfl)
theorem impl_IsRoundCode_ev (n : Int) (l : List Int) (hl : l.length ≤ 9000000000000000000) : Ev (fun k => impl_IsRoundCode.f k n l) (irP n l) := by
  unfold impl_IsRoundCode.f irP
  refine ev_bind (impl_areWords_ev n l hl) ?_
  by_cases h : areW n l = true
  · obtain ⟨m, rfl, h1, h2, h3, h4⟩ := areW_nat h
    rw [if_pos h]
    exact ev_pos h (ev_bind (impl_isRoundCode_ev m h2 l (areW_range h) (by omega)) (ev_some rfl))
  · rw [if_neg h]
    exact ev_neg h (ev_some rfl)
theorem tmod_at {a L : Nat} (h : a < 100000) : Int.tmod (wrap64 ((a : Int))) (L : Int) = ((a % L : Nat) : Int) := by
  rw [w64 (by omega) (by omega)]; rfl
theorem spec_l1Least_nat (a b : Nat) : spec_l1Least.f (a : Int) (b : Int) = some ((min a b : Nat) : Int) := by
  unfold spec_l1Least.f
  split
  · rw [Nat.min_eq_left (by omega)]
  · rw [Nat.min_eq_right (by omega)]
theorem hit_full {d : List Int} {i : Nat} (hi : i < d.length) : rd d (((i + d.length) % d.length : Nat) : Int) = rd d (i : Int) := by
  rw [Nat.add_mod_right, Nat.mod_eq_of_lt hi]
theorem ring_mem {l : List Int} (h0 : l ≠ []) {P : Int → Prop} (h : ∀ x ∈ l, P x) : ∀ x ∈ l ++ [rd l 0], P x := by
  intro x hx
  rcases List.mem_append.1 hx with hx | hx
  · exact h x hx
  · simp only [List.mem_singleton] at hx
    subst hx
    exact h _ (rd_mem (j := 0) (by cases l with | nil => exact absurd rfl h0 | cons _ _ => simp))
theorem round_len {n : Nat} (hn : n ≤ 10) {l : List Int} (h : roundB (n : Int) l = true) : l.length = 2 ^ n ∧ l ≠ [] := by
  simp only [roundB, Bool.and_eq_true] at h
  have := code_len hn h.1
  refine ⟨this, ?_⟩
  intro e; subst e
  have h2 := Nat.two_pow_pos n
  simp only [List.length_nil] at this
  omega
theorem impl_roundDeltas_ev (n : Int) (l : List Int) (hl : l.length ≤ 9000000000000000000) : Ev (fun k => impl_roundDeltas.f k n l) (if areW n l = true ∧ roundB n l = true then (ringD l, true) else ([], false)) := by
  unfold impl_roundDeltas.f
  refine ev_bind (impl_areWords_ev n l hl) ?_
  by_cases h : areW n l = true
  · obtain ⟨m, rfl, h1, h2, h3, h4⟩ := areW_nat h
    refine ev_pos h (ev_bind (impl_isRoundCode_ev m h2 l (areW_range h) (by omega)) (ev_shift ?_))
    simp only [impl_roundDeltas.j0]
    by_cases hb : roundB (m : Int) l = true
    · rw [if_pos ⟨h, hb⟩]
      have h5 := round_len h2 hb
      have h6 := round_ring hb h5.2
      have hp := Nat.two_pow_pos m
      refine ev_neg (by simp [hb]) (ev_bind0 (a := l) (by unfold impl_copied.f; simp; omega) ?_)
      refine ev_pos (by omega) (ev_bind0 rfl (ev_pos (by simp; omega) ?_))
      have := impl_deltas_ev (l ++ [rd l 0]) (ring_mem h5.2 (areW_range h)) (by simp; omega)
      rw [h6.1] at this
      exact ev_bind this (ev_some (by simp [pairR]))
    · rw [if_neg (fun c => hb c.2)]
      simp only [Bool.not_eq_true] at hb
      exact ev_pos (by simp [hb]) (ev_some rfl)
  · rw [if_neg (fun c => h c.1)]
    refine ev_neg h (ev_shift ?_)
    simp only [impl_roundDeltas.j0]
    exact ev_pos (by trivial) (ev_some rfl)
theorem maxZ_facts (l : List Int) : ∀ a : Int, a ≤ l.foldl max a ∧ (∀ x ∈ l, x ≤ l.foldl max a) ∧ (l.foldl max a = a ∨ l.foldl max a ∈ l) := by
  induction l with
  | nil => intro a; simp
  | cons x r ih =>
    intro a
    obtain ⟨h1, h2, h3⟩ := ih (max a x)
    simp only [List.foldl_cons]
    refine ⟨by omega, ?_, ?_⟩
    · intro y hy
      rcases List.mem_cons.1 hy with rfl | hy
      · omega
      · exact h2 y hy
    · rcases h3 with h | h
      · rw [h]
        by_cases c : a ≤ x
        · right; rw [Int.max_eq_right c]; simp
        · left; exact Int.max_eq_left (by omega)
      · right; exact List.mem_cons_of_mem _ h
theorem minZ_facts (l : List Int) : ∀ a : Int, l.foldl min a ≤ a ∧ (∀ x ∈ l, l.foldl min a ≤ x) ∧ (l.foldl min a = a ∨ l.foldl min a ∈ l) := by
  induction l with
  | nil => intro a; simp
  | cons x r ih =>
    intro a
    obtain ⟨h1, h2, h3⟩ := ih (min a x)
    simp only [List.foldl_cons]
    refine ⟨by omega, ?_, ?_⟩
    · intro y hy
      rcases List.mem_cons.1 hy with rfl | hy
      · omega
      · exact h2 y hy
    · rcases h3 with h | h
      · rw [h]
        by_cases c : x ≤ a
        · right; rw [Int.min_eq_right c]; simp
        · left; exact Int.min_eq_left (by omega)
      · right; exact List.mem_cons_of_mem _ h
theorem max_min_all {l : List Int} (h0 : l ≠ []) : decide (maxZ l - minZ l ≤ 2) = l.all fun a => l.all fun b => decide (a ≤ b + 2) := by
  cases l with
  | nil => exact absurd rfl h0
  | cons x r =>
    obtain ⟨a1, a2, a3⟩ := maxZ_facts (x :: r) x
    obtain ⟨b1, b2, b3⟩ := minZ_facts (x :: r) x
    have ea : maxZ (x :: r) = (x :: r).foldl max x := rfl
    have eb : minZ (x :: r) = (x :: r).foldl min x := rfl
    rw [ea, eb]
    have ma : (x :: r).foldl max x ∈ x :: r := by rcases a3 with h | h; rw [h]; simp; exact h
    have mb : (x :: r).foldl min x ∈ x :: r := by rcases b3 with h | h; rw [h]; simp; exact h
    generalize (x :: r).foldl max x = A at *
    generalize (x :: r).foldl min x = B at *
    rw [Bool.eq_iff_iff, decide_eq_true_eq, List.all_eq_true]
    constructor
    · intro h a ha
      rw [List.all_eq_true]
      intro b hb
      have := a2 a ha; have := b2 b hb
      exact decide_eq_true (by omega)
    · intro h
      have h1 := h A ma
      rw [List.all_eq_true] at h1
      have := of_decide_eq_true (h1 B mb)
      omega
theorem maxZ_mem {l : List Int} (h0 : l ≠ []) : maxZ l ∈ l ∧ minZ l ∈ l := by
  cases l with
  | nil => exact absurd rfl h0
  | cons x r =>
    constructor
    · have := (maxZ_facts (x :: r) x).2.2
      have ea : maxZ (x :: r) = (x :: r).foldl max x := rfl
      rw [ea]; rcases this with h | h; rw [h]; simp; exact h
    · have := (minZ_facts (x :: r) x).2.2
      have ea : minZ (x :: r) = (x :: r).foldl min x := rfl
      rw [ea]; rcases this with h | h; rw [h]; simp; exact h
def evP (n : Int) (l : List Int) : Bool × Bool := if areW n l = true ∧ roundB n l = true then ((cnts n.toNat (ringD l)).all (fun a => (cnts n.toNat (ringD l)).all fun b => decide (a ≤ b + 2)), true) else (false, false)
theorem ringD_mem {m : Nat} (h2 : m ≤ 10) {l : List Int} (h0 : l ≠ []) (h4 : ∀ x ∈ l, 0 ≤ x ∧ x < ((2 ^ m : Nat) : Int)) (hd : dls (l ++ [rd l 0]) = some (ringD l)) : ∀ x ∈ ringD l, 0 ≤ x ∧ x < m := dls_mem h2 (ring_mem h0 h4) hd
theorem cnts_mem {m : Nat} {d : List Int} {c : Int} (h : c ∈ cnts m d) : 0 ≤ c ∧ c ≤ d.length := by
  simp only [cnts, List.mem_map, List.mem_range] at h
  obtain ⟨i, _, rfl⟩ := h
  have : d.count ((i : Nat) : Int) ≤ d.length := List.count_le_length
  omega
theorem impl_IsEvenlyChanged_ev (n : Int) (l : List Int) (hl : l.length ≤ 9000000000000000000) : Ev (fun k => impl_IsEvenlyChanged.f k n l) (evP n l) := by
  unfold impl_IsEvenlyChanged.f evP
  refine ev_bind (impl_roundDeltas_ev n l hl) ?_
  by_cases h : areW n l = true ∧ roundB n l = true
  · obtain ⟨m, rfl, h1, h2, h3, h4⟩ := areW_nat h.1
    have h5 := round_len h2 h.2
    have h6 := round_ring h.2 h5.2
    rw [if_pos h, if_pos h, Int.toNat_natCast]
    have hne : cnts m (ringD l) ≠ [] := by
      intro e
      have := cnts_length m (ringD l)
      rw [e] at this
      simp at this; omega
    have hmm := maxZ_mem hne
    have b1 := cnts_mem hmm.1
    have b2 := cnts_mem hmm.2
    refine ev_pos rfl (ev_bind (impl_counted_ev m h2 (ringD l) (ringD_mem h2 h5.2 h4 h6.1) (by omega)) ?_)
    refine ev_bind0 (a := maxZ (cnts m (ringD l))) (by unfold slices_Max_int_int.f; rw [if_pos (by rw [cnts_length]; omega)]) ?_
    refine ev_bind0 (a := minZ (cnts m (ringD l))) (by unfold slices_Min_int_int.f; rw [if_pos (by rw [cnts_length]; omega)]) (ev_some ?_)
    rw [w64 (by omega) (by omega), max_min_all hne]
  · rw [if_neg h, if_neg h]
    exact ev_neg (by simp) (ev_some rfl)
theorem spec_gcWord_eq (n w : Int) (h : 0 ≤ n) : spec_gcWord.f n w = some (inR w 0 (top n)) := by simp only [spec_gcWord.f, if_pos h, spec_l1In_eq, Option.bind_some, top]
theorem impl_isWord_eq (n w : Int) : impl_isWord.f n w = some (isW n w) := by
  simp only [impl_isWord.f, impl_isBits_eq, impl_within_eq, Option.bind_some, isW, top]
  by_cases h : inR n 1 10 = true
  · have := inR_iff.1 h
    rw [if_pos h, if_pos (by omega), h, Bool.true_and]
  · simp only [Bool.not_eq_true] at h
    simp [h]
def flipP (n : Int) (l : List Int) (m : Int) : List Int × Bool := if areW n l = true ∧ isW n m = true then (l.map fun x => Go.bits .xor .i64 x m, true) else ([], false)
theorem flipP_len (n : Int) (l : List Int) (m : Int) : (flipP n l m).1.length ≤ 1100 := by
  unfold flipP
  split
  · rename_i h
    have := (areW_iff.1 h.1).2.1
    simp only [List.length_map]; omega
  · exact Nat.zero_le _
theorem spec_FlipBits_ev (n : Int) (l : List Int) (m : Int) (hl : l.length ≤ 9000000000000000000) : Ev (fun j => spec_FlipBits.f j n l m) (flipP n l m) := by
  unfold spec_FlipBits.f flipP
  refine ev_bind (spec_gcWords_ev n l hl) ?_
  by_cases h : areW n l = true
  · have h' := areW_iff.1 h
    refine ev_pos h (ev_bind0 (spec_gcWord_eq n m (by omega)) (ev_shift ?_))
    simp only [spec_FlipBits.j0]
    have hw : isW n m = inR m 0 (top n) := by unfold isW; rw [inR_iff.2 (by omega : 1 ≤ n ∧ n ≤ 10), Bool.true_and]
    by_cases hm : isW n m = true
    · rw [if_pos ⟨h, hm⟩]
      rw [hw] at hm
      refine ev_neg (by rw [hm]; simp) ?_
      have key : ∀ suf pre, l = pre ++ suf → Ev (fun k => spec_FlipBits.l0 k m (pre.map fun x => Go.bits .xor .i64 x m) l (l.length : Int) (pre.length : Int)) (l.map fun x => Go.bits .xor .i64 x m, true) := by
        refine range_ind hl (fun pre suf => Ev (fun k => spec_FlipBits.l0 k m (pre.map fun x => Go.bits .xor .i64 x m) l (l.length : Int) (pre.length : Int)) (l.map fun x => Go.bits .xor .i64 x m, true)) ?_ ?_
        · refine ev_shift ?_
          simp only [spec_FlipBits.l0]
          exact ev_neg (by omega) (ev_some rfl)
        · intro pre x suf hh hx h1 h2 h3 ih
          refine ev_shift ?_
          simp only [spec_FlipBits.l0, hx, h3]
          refine ev_pos h1 (ev_pos h2 (ev_pos h1 (ev_pos (by rw [List.length_map]; omega) ?_)))
          simpa only [List.map_append, List.map_cons, List.map_nil] using ih
      exact key l [] rfl
    · rw [if_neg (fun c => hm c.2)]
      rw [hw] at hm
      simp only [Bool.not_eq_true] at hm
      exact ev_pos (by rw [hm]; rfl) (ev_some rfl)
  · rw [if_neg (fun c => h c.1)]
    refine ev_neg h (ev_shift ?_)
    simp only [spec_FlipBits.j0]
    exact ev_pos (by trivial) (ev_some rfl)
theorem impl_FlipBits_ev (n : Int) (l : List Int) (m : Int) (hl : l.length ≤ 9000000000000000000) : Ev (fun j => impl_FlipBits.f j n l m) (flipP n l m) := by
  unfold impl_FlipBits.f flipP
  refine ev_bind (impl_areWords_ev n l hl) ?_
  by_cases h : areW n l = true
  · have h' := areW_iff.1 h
    refine ev_pos h (ev_bind0 (impl_isWord_eq n m) ?_)
    by_cases hm : isW n m = true
    · exact ev_pos hm (ev_pos (by omega) (ev_some (by rw [if_pos ⟨h, hm⟩])))
    · exact ev_neg hm (ev_some (by rw [if_neg (fun c => hm c.2)]))
  · exact ev_neg h (ev_some (by rw [if_neg (fun c => h c.1)]))
theorem spec_l1Own_eq (l : List Int) (h : l.length < 17592186044416) : spec_l1Own.f l = some l := by
  simp only [spec_l1Own.f, Option.bind_some, List.length_nil, Nat.zero_add, List.nil_append]
  rw [if_pos h]
def turnP (n : Int) (l : List Int) (k : Int) : List Int × Bool := if areW n l = true ∧ inR k 0 ((l.length : Int) - 1) = true then (l.drop k.toNat ++ l.take k.toNat, true) else ([], false)
theorem turnP_len (n : Int) (l : List Int) (k : Int) : (turnP n l k).1.length ≤ 1100 := by
  unfold turnP
  split
  · rename_i h
    have := (areW_iff.1 h.1).2.1
    have h2 := inR_iff.1 h.2
    simp only [List.length_append, List.length_drop, List.length_take]; omega
  · exact Nat.zero_le _
theorem spec_TurnList_ev (n : Int) (l : List Int) (k : Int) (hl : l.length ≤ 9000000000000000000) : Ev (fun j => spec_TurnList.f j n l k) (turnP n l k) := by
  unfold spec_TurnList.f turnP
  refine ev_bind (spec_gcWords_ev n l hl) ?_
  by_cases h : areW n l = true
  · refine ev_pos h (ev_bind0 (spec_l1In_eq _ _ _) ?_)
    have hll := (areW_iff.1 h).2.1
    rw [w64 (by omega) (by omega)]
    by_cases hk : inR k 0 ((l.length : Int) - 1) = true
    · have hk' := inR_iff.1 hk
      refine ev_pos hk (ev_pos (by omega) (ev_pos (by omega) (ev_bind0 (spec_l1Own_eq _ (by rw [List.length_drop]; omega)) (ev_pos (by rw [List.length_drop, List.length_take]; omega) (ev_some ?_)))))
      rw [if_pos ⟨h, hk⟩]
    · exact ev_neg hk (ev_some (by rw [if_neg (fun c => hk c.2)]))
  · exact ev_neg h (ev_some (by rw [if_neg (fun c => h c.1)]))
theorem impl_TurnList_ev (n : Int) (l : List Int) (k : Int) (hl : l.length ≤ 9000000000000000000) : Ev (fun j => impl_TurnList.f j n l k) (turnP n l k) := by
  unfold impl_TurnList.f turnP
  refine ev_bind (impl_areWords_ev n l hl) ?_
  by_cases h : areW n l = true
  · refine ev_pos h (ev_bind0 (impl_within_eq _ _ _) ?_)
    have hll := (areW_iff.1 h).2.1
    rw [w64 (by omega) (by omega)]
    by_cases hk : inR k 0 ((l.length : Int) - 1) = true
    · have hk' := inR_iff.1 hk
      have hc : slices_Concat_int_int.f [l.drop k.toNat, l.take k.toNat] = some (l.drop k.toNat ++ l.take k.toNat) := by
        unfold slices_Concat_int_int.f
        exact if_pos (by rw [List.length_drop, List.length_take]; omega)
      refine ev_pos hk (ev_pos (by omega) (ev_pos (by omega) (ev_bind0 hc (ev_some ?_))))
      rw [if_pos ⟨h, hk⟩]
    · exact ev_neg hk (ev_some (by rw [if_neg (fun c => hk c.2)]))
  · exact ev_neg h (ev_some (by rw [if_neg (fun c => h c.1)]))
theorem laws_uSame_ev (l : List Int) (hl : l.length ≤ 9000000000000000000) : Ev (fun k => laws_uSame.f k l l) true := by
  unfold laws_uSame.f
  refine ev_pos rfl ?_
  refine range_all hl (fun pre suf => Ev (fun k => laws_uSame.l0 k l l (l.length : Int) (pre.length : Int)) true) ?_ ?_
  · refine ev_shift ?_
    simp only [laws_uSame.l0]
    exact ev_neg (by omega) (ev_some rfl)
  · intro pre x suf h hx h1 h2 h3 ih
    refine ev_shift ?_
    simp only [laws_uSame.l0, h3]
    exact ev_pos h1 (ev_pos h2 (ev_pos h1 (ev_pos h1 (ev_pos (by trivial) ih))))
theorem areW_of {m : Nat} (h1 : 1 ≤ m) (h2 : m ≤ 10) {l : List Int} (h3 : l.length ≤ 1100) (h4 : ∀ x ∈ l, 0 ≤ x ∧ x < ((2 ^ m : Nat) : Int)) : areW (m : Int) l = true := by
  have := top_nat ⟨m, by omega⟩
  simp only at this
  refine areW_iff.2 ⟨⟨by omega, by omega⟩, by omega, allIn_iff.2 (fun x hx => ?_)⟩
  have := h4 x hx
  omega
theorem permN_of {m : Nat} {tt : List Int} (h : isPermB tt = true) (hl : (tt.length : Int) = m) : PermN m tt := by
  obtain ⟨_, h2, h3⟩ := isPermB_iff'.1 h
  exact ⟨by omega, fun x hx => by have := h2 x hx; omega, h3⟩
def mvC (m : Nat) (tt : List Int) (d : Int) : Int := if d < (m : Int) then mvd tt d else d
/-- What is moved: the same code, and its changes moved. -/
theorem moved_facts {m : Nat} (h1 : 1 ≤ m) (h2 : m ≤ 10) {l tt : List Int} (h3 : l.length ≤ 1100) (h4 : ∀ x ∈ l, 0 ≤ x ∧ x < ((2 ^ m : Nat) : Int)) (hp : PermN m tt) :
    areW (m : Int) (l.map (mvW tt)) = true ∧ codeB (m : Int) (l.map (mvW tt)) = codeB (m : Int) l ∧ dls (l.map (mvW tt)) = (dls l).map (·.map (mvd tt)) := by
  have hfg : ∀ a b : Int, (0 ≤ a ∧ a < ((2 ^ m : Nat) : Int)) → (0 ≤ b ∧ b < ((2 ^ m : Nat) : Int)) → dl (mvW tt a) (mvW tt b) = mvd tt (dl a b) := fun a b ha hb => dl_mvW h2 hp ha hb
  have hd : ∀ a b : Int, (0 ≤ a ∧ a < ((2 ^ m : Nat) : Int)) → (0 ≤ b ∧ b < ((2 ^ m : Nat) : Int)) → -1 ≤ dl a b ∧ dl a b < m := fun a b ha hb => by have := dl_lt h2 ha hb; omega
  have hfg2 : ∀ a b : Int, (0 ≤ a ∧ a < ((2 ^ m : Nat) : Int)) → (0 ≤ b ∧ b < ((2 ^ m : Nat) : Int)) → dl (mvW tt a) (mvW tt b) = mvC m tt (dl a b) := fun a b ha hb => by
    have := hd a b ha hb
    unfold mvC
    rw [if_pos this.2]; exact hfg a b ha hb
  have hg2 : ∀ d : Int, -1 ≤ d → d < 10 → (mvC m tt d < 0 ↔ d < 0) := by
    intro d _ _
    unfold mvC
    by_cases c : d < (m : Int)
    · rw [if_pos c]; exact mvd_sign hp d c
    · rw [if_neg c]
  have hd2 : ∀ a b : Int, (0 ≤ a ∧ a < ((2 ^ m : Nat) : Int)) → (0 ≤ b ∧ b < ((2 ^ m : Nat) : Int)) → -1 ≤ dl a b ∧ dl a b < 10 := fun a b ha hb => by have := hd a b ha hb; omega
  refine ⟨areW_of h1 h2 (by rw [List.length_map]; exact h3) ?_, ?_, ?_⟩
  · intro x hx
    obtain ⟨y, _, rfl⟩ := List.mem_map.1 hx
    exact mvW_range hp y
  · exact codeB_map (f := mvW tt) (g := mvC m tt) (P := fun a => 0 ≤ a ∧ a < ((2 ^ m : Nat) : Int)) hfg2 hg2 hd2 (fun a b ha hb => mvW_inj hp ha hb) (m : Int) h4
  · rw [dls_map (f := mvW tt) (g := mvC m tt) (P := fun a => 0 ≤ a ∧ a < ((2 ^ m : Nat) : Int)) hfg2 hg2 hd2 h4]
    cases hc : dls l with
    | none => rfl
    | some d =>
      have hm := dls_mem h2 h4 hc
      simp only [Option.map_some]
      congr 1
      exact List.map_congr_left (fun x hx => by have := hm x hx; unfold mvC; rw [if_pos this.2])
theorem flip_facts {m : Nat} (h1 : 1 ≤ m) (h2 : m ≤ 10) {l : List Int} {f : Int} (h3 : l.length ≤ 1100) (h4 : ∀ x ∈ l, 0 ≤ x ∧ x < ((2 ^ m : Nat) : Int)) (hf : 0 ≤ f ∧ f < ((2 ^ m : Nat) : Int)) :
    areW (m : Int) (l.map (flW f)) = true ∧ roundB (m : Int) (l.map (flW f)) = roundB (m : Int) l := by
  have hfg : ∀ a b : Int, (0 ≤ a ∧ a < ((2 ^ m : Nat) : Int)) → (0 ≤ b ∧ b < ((2 ^ m : Nat) : Int)) → dl (flW f a) (flW f b) = id (dl a b) := fun a b ha hb => dl_flW h2 ha hb hf
  have hd2 : ∀ a b : Int, (0 ≤ a ∧ a < ((2 ^ m : Nat) : Int)) → (0 ≤ b ∧ b < ((2 ^ m : Nat) : Int)) → -1 ≤ dl a b ∧ dl a b < 10 := fun a b ha hb => by have := dl_lt h2 ha hb; omega
  have hcode := codeB_map (f := flW f) (g := id) (P := fun a => 0 ≤ a ∧ a < ((2 ^ m : Nat) : Int)) hfg (fun d _ _ => Iff.rfl) hd2 (fun a b ha hb => flW_inj h2 ha hb hf) (m : Int) h4
  refine ⟨areW_of h1 h2 (by rw [List.length_map]; exact h3) ?_, ?_⟩
  · intro x hx
    obtain ⟨y, hy, rfl⟩ := List.mem_map.1 hx
    have := flW_nat h2 (h4 y hy) hf
    rw [this.1]
    constructor
    · exact Int.natCast_nonneg _
    · exact_mod_cast this.2
  · unfold roundB
    rw [hcode]
    cases l with
    | nil => rfl
    | cons w r =>
      have e0 : rd ((w :: r).map (flW f)) 0 = flW f (rd (w :: r) 0) := rd_map (i := 0) (by simp)
      have hlast : (((w :: r).length : Int) - 1) = ((r.length : Nat) : Int) := by simp
      have e1 : lastZ ((w :: r).map (flW f)) = flW f (lastZ (w :: r)) := by
        unfold lastZ
        rw [List.length_map, hlast]
        exact rd_map (by simp)
      have m0 : rd (w :: r) 0 ∈ w :: r := rd_mem (j := 0) (by simp)
      have m1 : lastZ (w :: r) ∈ w :: r := by unfold lastZ; rw [hlast]; exact rd_mem (by simp)
      rw [e0, e1, dl_flW h2 (h4 _ m1) (h4 _ m0) hf]
theorem laws_numberOf_ev (c : List Int) (hc : wfB c) : ∃ r, Ev (fun k => laws_numberOf.f k c) r := by
  unfold laws_numberOf.f
  have hl := hc.1
  have key : ∀ suf pre, c = pre ++ suf → ∀ t : Int, ∃ r, Ev (fun k => laws_numberOf.l0 k t c (c.length : Int) (pre.length : Int)) r := by
    refine range_ind (by omega) (fun pre suf => ∀ t : Int, ∃ r, Ev (fun k => laws_numberOf.l0 k t c (c.length : Int) (pre.length : Int)) r) ?_ ?_
    · intro t
      refine ⟨t, ev_shift ?_⟩
      simp only [laws_numberOf.l0]
      exact ev_neg (by omega) (ev_some rfl)
    · intro pre x suf h hx h1 h2 h3 ih t
      obtain ⟨r, hr⟩ := ih (Int.tmod (wrap64 ((wrap64 (31 * t)) + (wrap64 x))) 1000003)
      refine ⟨r, ev_shift ?_⟩
      simp only [laws_numberOf.l0, hx, h3]
      exact ev_pos h1 (ev_pos h2 (ev_pos h1 hr))
  exact key c [] rfl 0
theorem laws_FnCodesMoved_j9_ev (n : Int) (l : List Int) (k : Int) (hl : l.length ≤ 1000000) (hok : (turnP n l k).2 = true) : Ev (fun j => laws_FnCodesMoved.j9 j n l (turnP n l k).1 (irP n l).1) true := by
  refine ev_shift ?_
  simp only [laws_FnCodesMoved.j9]
  by_cases h : (irP n l).1 = true
  · refine ev_pos h ?_
    have ha : areW n l = true := by
      by_cases ha : areW n l = true
      · exact ha
      · unfold irP at h; rw [if_neg ha] at h; cases h
    have hround : roundB n l = true := by unfold irP at h; rw [if_pos ha] at h; exact h
    have hk : inR k 0 ((l.length : Int) - 1) = true := by
      by_cases hk : inR k 0 ((l.length : Int) - 1) = true
      · exact hk
      · unfold turnP at hok; rw [if_neg (fun c => hk c.2)] at hok; cases hok
    have e1 : (turnP n l k).1 = l.drop k.toNat ++ l.take k.toNat := by unfold turnP; rw [if_pos ⟨ha, hk⟩]
    obtain ⟨m, rfl, h1, h2, h3, h4⟩ := areW_nat ha
    have hk' := inR_iff.1 hk
    have hout : roundB (m : Int) (l.drop k.toNat ++ l.take k.toNat) = true ∧ (ringD (l.drop k.toNat ++ l.take k.toNat)).Perm (ringD l) := by
      by_cases hz : k.toNat = 0
      · rw [hz]; simp only [List.drop_zero, List.take_zero, List.append_nil]
        exact ⟨hround, List.Perm.refl _⟩
      · have e := List.take_append_drop k.toNat l
        have hp : l.take k.toNat ≠ [] := by
          intro c
          have := congrArg List.length c
          simp only [List.length_take, List.length_nil] at this
          omega
        have hq : l.drop k.toNat ≠ [] := by
          intro c
          have := congrArg List.length c
          simp only [List.length_drop, List.length_nil] at this
          omega
        have := turn_ring (n := (m : Int)) hp hq (by rw [e]; exact hround)
        rwa [e] at this
    have hw : areW (m : Int) (l.drop k.toNat ++ l.take k.toNat) = true := by
      refine areW_of h1 h2 (by simp only [List.length_append, List.length_drop, List.length_take]; omega) (fun x hx => h4 x ?_)
      rcases List.mem_append.1 hx with hx | hx
      · exact List.mem_of_mem_drop hx
      · exact List.mem_of_mem_take hx
    rw [e1]
    have i1 := impl_IsRoundCode_ev (m : Int) (l.drop k.toNat ++ l.take k.toNat) (by simp only [List.length_append, List.length_drop, List.length_take]; omega)
    have i2 := impl_IsEvenlyChanged_ev (m : Int) l (by omega)
    have i3 := impl_IsEvenlyChanged_ev (m : Int) (l.drop k.toNat ++ l.take k.toNat) (by simp only [List.length_append, List.length_drop, List.length_take]; omega)
    unfold irP at i1
    rw [if_pos hw, hout.1] at i1
    unfold evP at i2 i3
    rw [if_pos ⟨ha, hround⟩] at i2
    rw [if_pos ⟨hw, hout.1⟩, cnts_perm hout.2] at i3
    exact ev_bind i1 (ev_bind i2 (ev_bind i3 (ev_pos rfl (ev_pos rfl (ev_pos rfl (ev_pos rfl (ev_some (by simp))))))))
  · exact ev_neg h (ev_some rfl)
theorem laws_FnCodesMoved_j7_ev (n : Int) (l : List Int) (hl : l.length ≤ 1000000) (k : Int) : Ev (fun j => laws_FnCodesMoved.j7 j n l (irP n l).1 (irP n l).2 k) true := by
  have hlen := turnP_len n l k
  have h9 : Ev (fun j => laws_FnCodesMoved.j9 j n l (turnP n l k).1 false) true := by
    refine ev_shift ?_
    simp only [laws_FnCodesMoved.j9]
    exact ev_neg (by simp) (ev_some rfl)
  refine ev_shift ?_
  simp only [laws_FnCodesMoved.j7]
  refine ev_bind (impl_TurnList_ev n l k (by omega)) (ev_bind (spec_TurnList_ev n l k (by omega)) (ev_neg neq_self (ev_bind (laws_uSame_ev _ (by omega)) (ev_shift ?_))))
  simp only [laws_FnCodesMoved.j8]
  refine ev_neg (by simp) ?_
  by_cases hok : (turnP n l k).2 = true
  · refine ev_pos hok ?_
    by_cases h2 : (irP n l).2 = true
    · exact ev_pos h2 (laws_FnCodesMoved_j9_ev n l k hl hok)
    · exact ev_neg h2 h9
  · exact ev_neg hok h9
theorem laws_FnCodesMoved_j6_ev {c : List Int} (hc : wfB c) (n : Int) (l : List Int) (hl : l.length ≤ 1000000) : Ev (fun j => laws_FnCodesMoved.j6 j c n l (irP n l).1 (irP n l).2) true := by
  obtain ⟨r, hr⟩ := laws_numberOf_ev c hc
  refine ev_shift ?_
  simp only [laws_FnCodesMoved.j6]
  by_cases h : (l.length : Int) > 0
  · exact ev_pos h (ev_bind hr (ev_neg (by omega) (laws_FnCodesMoved_j7_ev n l hl _)))
  · exact ev_neg h (laws_FnCodesMoved_j7_ev n l hl _)
theorem laws_FnCodesMoved_j4_ev {c : List Int} (hc : wfB c) (n : Int) (l : List Int) (hl : l.length ≤ 1000000) : Ev (fun j => laws_FnCodesMoved.j4 j c n l (irP n l).1 (irP n l).2) true := by
  have h6 := laws_FnCodesMoved_j6_ev hc n l hl
  obtain ⟨n2, l2, f, e, hl2⟩ := dr_FlipBits hc
  have hlen := flipP_len n2 l2 f
  refine ev_shift ?_
  simp only [laws_FnCodesMoved.j4]
  refine ev_bind e (ev_bind (impl_FlipBits_ev n2 l2 f (by omega)) (ev_bind (spec_FlipBits_ev n2 l2 f (by omega)) (ev_neg neq_self (ev_bind (laws_uSame_ev _ (by omega)) (ev_shift ?_)))))
  simp only [laws_FnCodesMoved.j5]
  refine ev_neg (by simp) ?_
  by_cases hok : (flipP n2 l2 f).2 = true
  · refine ev_pos hok ?_
    have hc2 : areW n2 l2 = true ∧ isW n2 f = true := by
      by_cases hc2 : areW n2 l2 = true ∧ isW n2 f = true
      · exact hc2
      · unfold flipP at hok; rw [if_neg hc2] at hok; cases hok
    have e1 : (flipP n2 l2 f).1 = l2.map (flW f) := by unfold flipP; rw [if_pos hc2]; rfl
    obtain ⟨m, rfl, h1, h2, h3, h4⟩ := areW_nat hc2.1
    have hf : 0 ≤ f ∧ f < ((2 ^ m : Nat) : Int) := by
      have := (isW_iff.1 hc2.2).2
      have ht := top_nat ⟨m, by omega⟩
      simp only at ht
      omega
    obtain ⟨g1, g2⟩ := flip_facts h1 h2 h3 h4 hf
    rw [e1]
    have i1 := impl_IsRoundCode_ev (m : Int) l2 (by omega)
    have i2 := impl_IsRoundCode_ev (m : Int) (l2.map (flW f)) (by rw [List.length_map]; omega)
    have e2 : irP (m : Int) (l2.map (flW f)) = irP (m : Int) l2 := by unfold irP; rw [if_pos g1, if_pos hc2.1, g2]
    rw [e2] at i2
    exact ev_bind i1 (ev_bind i2 (ev_neg neq_self (ev_neg neq_self h6)))
  · exact ev_neg hok h6
theorem laws_FnCodesMoved_j2_ev {c : List Int} (hc : wfB c) {m : Nat} (h1 : 1 ≤ m) (h2 : m ≤ 10) (l tt : List Int) (h3 : l.length ≤ 1100) (h4 : ∀ x ∈ l, 0 ≤ x ∧ x < ((2 ^ m : Nat) : Int)) (hp : PermN m tt) : Ev (fun j => laws_FnCodesMoved.j2 j c (m : Int) l tt (l.map (mvW tt)) (irP (m : Int) l).1 (irP (m : Int) l).2 false) true := by
  have h4' := laws_FnCodesMoved_j4_ev hc (m : Int) l (by omega)
  obtain ⟨g1, g2, g3⟩ := moved_facts h1 h2 h3 h4 hp
  have ha := areW_of h1 h2 h3 h4
  have i1 := impl_ChangesOf_ev (m : Int) l (by omega)
  have i2 := impl_ChangesOf_ev (m : Int) (l.map (mvW tt)) (by rw [List.length_map]; omega)
  refine ev_shift ?_
  simp only [laws_FnCodesMoved.j2]
  unfold chP at i1 i2
  rw [if_pos ha] at i1
  rw [if_pos g1, g3] at i2
  cases hd : dls l with
  | none =>
    rw [hd] at i1 i2
    refine ev_neg (by simp) (ev_bind i1 (ev_bind i2 (ev_neg neq_self (ev_shift ?_))))
    simp only [laws_FnCodesMoved.l0]
    exact ev_neg (by simp) h4'
  | some d =>
    rw [hd] at i1 i2
    have hm := dls_mem h2 h4 hd
    simp only [Option.map_some, Int.toNat_natCast] at i1 i2
    refine ev_neg (by simp) (ev_bind i1 (ev_bind i2 (ev_neg neq_self ?_)))
    dsimp only
    have key : ∀ f i : Nat, i + f = m → Ev (fun j => laws_FnCodesMoved.l0 j c (m : Int) l tt (irP (m : Int) l).1 (irP (m : Int) l).2 (cnts m (d.map (mvd tt))) (cnts m d) ((cnts m d).length : Int) (i : Int)) true := by
      intro f
      induction f with
      | zero =>
        intro i hi
        refine ev_shift ?_
        simp only [laws_FnCodesMoved.l0]
        exact ev_neg (by rw [cnts_length]; omega) h4'
      | succ f ih =>
        intro i hi
        have him : i < m := by omega
        have e1 : wrap64 ((i : Int) + 1) = ((i + 1 : Nat) : Int) := by rw [w64 (by omega) (by omega)]; omega
        obtain ⟨q, hq, e2, hl, _⟩ := hp.at_ him
        have e3 : rd (cnts m (d.map (mvd tt))) (q : Int) = rd (cnts m d) (i : Int) := by
          rw [cnts_rd _ hq, cnts_rd _ him, ← e2, count_mvd hp him hm]
        have hll := cnts_length m d
        have hll2 := cnts_length m (d.map (mvd tt))
        refine ev_shift ?_
        simp only [laws_FnCodesMoved.l0, e1]
        refine ev_pos (by omega) (ev_pos (by omega) (ev_pos (by omega) (ev_pos (by omega) (ev_pos (by rw [e2]; omega) (ev_pos (by rw [e2]; omega) (ev_pos (by rw [e2]; exact e3) (ih (i + 1) (by omega))))))))
    exact key m 0 (by omega)
theorem FnCodesMoved : laws_FnCodesMoved.Pure := by
  intro c c2 hc1 hc2 hc hm1 hm2 hm
  apply ev_le
  unfold laws_FnCodesMoved.f
  rcases laws_big_eq c c2 hc hm (by omega) with hb | ⟨hb, wc, wm⟩
  · exact ev_bind0 hb (ev_pos rfl (ev_some rfl))
  refine ev_bind0 hb (ev_neg (by decide) ?_)
  obtain ⟨n, l, tt, e, hl, ht⟩ := dr_MoveBits wc
  have hlen := mvP_len n l tt
  have h4' := laws_FnCodesMoved_j4_ev wm n l (by omega)
  refine ev_bind e (ev_bind (impl_MoveBits_ev n l tt (by omega)) (ev_bind (spec_MoveBits_ev n l tt (by omega) (by omega)) (ev_neg neq_self (ev_bind (laws_uSame_ev _ (by omega)) (ev_shift ?_)))))
  simp only [laws_FnCodesMoved.j0]
  refine ev_neg (by simp) (ev_bind (impl_IsCode_ev n l (by omega)) (ev_bind (impl_IsRoundCode_ev n l (by omega)) ?_))
  have h1f : Ev (fun k => laws_FnCodesMoved.j1 k c2 n l tt (mvP n l tt).1 (icP n l).1 (irP n l).1 (irP n l).2 false) true := by
    refine ev_shift ?_
    simp only [laws_FnCodesMoved.j1]
    exact ev_neg (by simp) h4'
  by_cases hok : (mvP n l tt).2 = true
  · refine ev_pos hok ?_
    have hcc : areW n l = true ∧ isPermB tt = true ∧ (tt.length : Int) = n := by
      by_cases hcc : areW n l = true ∧ isPermB tt = true ∧ (tt.length : Int) = n
      · exact hcc
      · unfold mvP at hok; rw [if_neg hcc] at hok; cases hok
    have e1 : (mvP n l tt).1 = l.map (mvW tt) := by unfold mvP; rw [if_pos hcc]; rfl
    obtain ⟨m, rfl, h1, h2, h3, h4⟩ := areW_nat hcc.1
    have hp := permN_of hcc.2.1 hcc.2.2
    obtain ⟨g1, g2, g3⟩ := moved_facts h1 h2 h3 h4 hp
    have i3 := impl_IsCode_ev (m : Int) (l.map (mvW tt)) (by rw [List.length_map]; omega)
    have e2 : icP (m : Int) (l.map (mvW tt)) = icP (m : Int) l := by unfold icP; rw [if_pos g1, if_pos hcc.1, g2]
    have e3 : (icP (m : Int) l).2 = true := by unfold icP; rw [if_pos hcc.1]
    rw [e1]
    rw [e2] at i3
    refine ev_shift ?_
    simp only [laws_FnCodesMoved.j1]
    refine ev_pos e3 (ev_bind i3 (ev_pos e3 ?_))
    have := laws_FnCodesMoved_j2_ev wm h1 h2 l tt h3 h4 hp
    rwa [show ((icP (m : Int) l).1 != (icP (m : Int) l).1) = false by simp]
  · exact ev_neg hok h1f

end Go.Proofs.YtnhifbopicjicaaDoor.Pure
