/- The law FnCounts returns true for every two lists of bytes (reach as the row says); no condition of ours. -/
import Derived.Test.YtkbnkichgkeckaaQFnCountsx4
import Derived.Test.YtkbnkichgkeckaaMth
import Derived.Test.YtkbnkichgkeckaaMthComb
import Derived.Test.YtkbnkichgkeckaaMthDigL
import Derived.Test.YtkbnkichgkeckaaMthFact
import Derived.Test.YtkbnkichgkeckaaMthLexL
set_option linter.unusedVariables false
set_option linter.unusedSimpArgs false
namespace Go.Proofs.Ytkbnkichgkeckaa.Pure
open Go.RowKit Go.Proofs.Ytkbnkichgkeckaa.Mth Go.Proofs.Ytkbnkichgkeckaa.PFnCounts Go.Proofs.YtkbnkichgkeckaaW.PrintWords Go.Proofs.YtkbnkichgkeckaaW.PrintLast

theorem wrapU (n : Int) : IntKind.u64.wrap n = n % 18446744073709551616 := by simp [IntKind.wrap, IntKind.bits, IntKind.signed]
def wfB (c : List Int) : Prop := c.length ≤ 1048576 ∧ ∀ x ∈ c, 0 ≤ x ∧ x ≤ 255
theorem wfB_of {c : List Int} (h0 : c.length ≤ 1048576) (h : ∀ x ∈ c, (Lit.int .u8 x).wf = true) : wfB c := by
  refine ⟨h0, fun x hx => ?_⟩
  have := h x hx
  simp only [Lit.wf, Bool.and_eq_true, decide_eq_true_eq] at this
  have e0 : IntKind.min .u8 = 0 := by decide
  have e1 : IntKind.max .u8 = 255 := by decide
  omega
theorem byte_of (x : Int) : 0 ≤ wrap64 (Go.bits .and .u64 ((IntKind.u64.wrap x) / 1099511627776) 255) ∧ wrap64 (Go.bits .and .u64 ((IntKind.u64.wrap x) / 1099511627776) 255) ≤ 255 := by
  have h1 : 0 ≤ IntKind.u64.wrap x / 1099511627776 ∧ IntKind.u64.wrap x / 1099511627776 < 2 ^ 24 := by rw [wrapU]; omega
  have h2 := Go.bits_mask .u64 24 (by decide) (fun n a b => by rw [wrapU]; omega) 8 (by decide) _ h1.1 h1.2
  have h3 : Go.bits .and .u64 ((IntKind.u64.wrap x) / 1099511627776) 255 = (IntKind.u64.wrap x) / 1099511627776 % 2 ^ 8 := h2
  rw [h3, w64 (by omega) (by omega)]
  omega
theorem dr_next {c : List Int} (hc : wfB c) {a : Int} (s : Int) (h0 : 0 ≤ a) (h1 : a ≤ 4000000000000000000) : ∃ r s', spec_l1Cur_next.f c a s = some (r, a + 1, s') ∧ 0 ≤ r ∧ r ≤ 255 := by
  have hl := hc.1
  unfold spec_l1Cur_next.f
  have e : wrap64 (a + 1) = a + 1 := w64 (by omega) (by omega)
  rw [e]
  by_cases h : a < (c.length : Int)
  · rw [if_pos h, if_pos h0, if_pos (by omega)]
    obtain ⟨n, rfl⟩ := Int.eq_ofNat_of_zero_le h0
    have hm := hc.2 _ (rd_mem (l := c) (j := n) (by omega))
    exact ⟨_, _, rfl, by rw [w64 (by omega) (by omega)]; omega, by rw [w64 (by omega) (by omega)]; omega⟩
  · rw [if_neg h, if_neg (by omega)]
    exact ⟨_, _, rfl, (byte_of _).1, (byte_of _).2⟩
theorem dr_pick {c : List Int} (hc : wfB c) {a : Int} (s n : Int) (h0 : 0 ≤ a) (h1 : a ≤ 3999999999999999999) : ∃ r a' s', spec_l1Cur_pick.f c a s n = some (r, a', s') ∧ a ≤ a' ∧ a' ≤ a + 2 ∧ 0 ≤ r ∧ (n ≤ 1 → r = 0) ∧ (1 < n → r < n) := by
  unfold spec_l1Cur_pick.f
  by_cases hn : n ≤ 1
  · rw [if_pos hn]
    exact ⟨0, a, s, rfl, by omega, by omega, by omega, fun _ => rfl, fun h => by omega⟩
  · rw [if_neg hn]
    obtain ⟨x, s1, e1, x0, x1⟩ := dr_next hc s h0 (by omega)
    rw [e1]
    simp only [Option.bind_some]
    by_cases hb : n > 200
    · rw [if_pos hb]
      obtain ⟨y, s2, e2, y0, y1⟩ := dr_next hc s1 (a := a + 1) (by omega) (by omega)
      rw [e2]
      simp only [Option.bind_some]
      rw [if_neg (by omega), w64 (x := x * 256) (by omega) (by omega), w64 (by omega) (by omega)]
      rw [Int.tmod_eq_emod_of_nonneg (by omega)]
      have g0 := Int.emod_nonneg (x * 256 + y) (b := n) (by omega)
      have g1 := Int.emod_lt_of_pos (x * 256 + y) (b := n) (by omega)
      exact ⟨_, _, _, rfl, by omega, by omega, g0, fun h => by omega, fun _ => g1⟩
    · rw [if_neg hb, if_neg (by omega)]
      rw [Int.tmod_eq_emod_of_nonneg (by omega)]
      have g0 := Int.emod_nonneg x (b := n) (by omega)
      have g1 := Int.emod_lt_of_pos x (b := n) (by omega)
      exact ⟨_, _, _, rfl, by omega, by omega, g0, fun h => by omega, fun _ => g1⟩
theorem laws_big_eq (c m : List Int) (hc : ∀ x ∈ c, (Lit.int .u8 x).wf = true) (hm : ∀ x ∈ m, (Lit.int .u8 x).wf = true) (hl : c.length ≤ 9000000000000000000) : laws_big.f c m = some true ∨ (laws_big.f c m = some false ∧ wfB c ∧ wfB m) := by
  unfold laws_big.f
  by_cases h : (c.length : Int) > 1048576
  · exact .inl (if_pos h)
  · rw [if_neg h, w64 (by omega) (by omega)]
    by_cases h2 : (m.length : Int) > 1048576 - (c.length : Int)
    · rw [decide_eq_true h2]; exact .inl rfl
    · rw [decide_eq_false h2]; exact .inr ⟨rfl, wfB_of (by omega) hc, wfB_of (by omega) hm⟩
theorem dr_one {c : List Int} (hc : wfB c) {a : Int} (s n : Int) (h0 : 0 ≤ a) (h1 : a ≤ 3999999999999999999) : ∃ r a' s', spec_l1Cur_one.f c a s n = some (r, a', s') ∧ a ≤ a' ∧ a' ≤ a + 2 := by
  unfold spec_l1Cur_one.f
  obtain ⟨r, a', s', e, h2, h3, _⟩ := dr_pick hc s n h0 h1
  rw [e]
  exact ⟨_, _, _, rfl, h2, h3⟩
theorem dr_among {c : List Int} (hc : wfB c) {a : Int} (s : Int) (l : List Int) (hl : 0 < l.length) (h0 : 0 ≤ a) (h1 : a ≤ 3999999999999999999) : ∃ r a' s', spec_l1Cur_among.f c a s l = some (r, a', s') ∧ a ≤ a' ∧ a' ≤ a + 2 ∧ r ∈ l := by
  unfold spec_l1Cur_among.f
  obtain ⟨r, a', s', e, h2, h3, h4, h5, h6⟩ := dr_pick hc s (l.length : Int) h0 h1
  rw [e]
  simp only [Option.bind_some]
  have hr : r < (l.length : Int) := by
    by_cases h : (l.length : Int) ≤ 1
    · have := h5 h; omega
    · exact h6 (by omega)
  rw [if_pos h4, if_pos hr]
  obtain ⟨n, rfl⟩ := Int.eq_ofNat_of_zero_le h4
  exact ⟨_, _, _, rfl, h2, h3, rd_mem (by omega)⟩
theorem dr_items {c : List Int} (hc : wfB c) {a : Int} (s : Int) (h0 : 0 ≤ a) (h1 : a ≤ 3999999999999999000) : ∃ r a' s', spec_l1Cur_items.f c a s = some (r, a', s') ∧ a ≤ a' ∧ a' ≤ a + 4 ∧ -1 ≤ r ∧ r ≤ 13 := by
  unfold spec_l1Cur_items.f
  obtain ⟨r, a', s', e, h2, h3⟩ := dr_one hc s 15 h0 (by omega)
  rw [e]
  simp only [Option.bind_some]
  cases r
  · rw [if_neg (by decide)]
    obtain ⟨r, a1, s1, e, g2, g3, g4, g5, g6⟩ := dr_pick hc s' 9 (a := a') (by omega) (by omega)
    rw [e]
    have := g6 (by decide)
    exact ⟨_, _, _, rfl, by dsimp only; omega, by dsimp only; omega, by dsimp only; omega, by dsimp only; omega⟩
  · rw [if_pos rfl]
    obtain ⟨r, a1, s1, e, g2, g3, g4⟩ := dr_among hc s' [-1, 0, 12, 13] (by decide) (a := a') (by omega) (by omega)
    rw [e]
    simp only [List.mem_cons, List.not_mem_nil, or_false] at g4
    exact ⟨_, _, _, rfl, by dsimp only; omega, by dsimp only; omega, by dsimp only; omega, by dsimp only; omega⟩
theorem dr_Binomial {c : List Int} (hc : wfB c) : ∃ n k, spec_DrawBinomial.f c = some (n, k) := by
  unfold spec_DrawBinomial.f
  obtain ⟨n, a1, s1, e1, u1, u2, u3, u4⟩ := dr_items hc 0 (a := 0) (by decide) (by decide)
  obtain ⟨k, a2, s2, e2, v1, v2, v3, v4⟩ := dr_items hc s1 (a := a1) (by omega) (by omega)
  rw [e1, Option.bind_some, e2, Option.bind_some]
  exact ⟨_, _, rfl⟩
theorem spec_l1In_eq (a b c : Int) : spec_l1In.f a b c = some (inR a b c) := in_ite a b c
theorem spec_raItems_eq (a : Int) : spec_raItems.f a = some (inR a 0 12) := by simp only [spec_raItems.f, spec_l1In_eq, Option.bind_some]
theorem spec_raAll_l1 (n kk x : Int) (t : List (List Int)) (ht : ∀ r ∈ t, r.length ≤ 12) (htl : t.length ≤ 100000) (R : List (List Int)) : ∀ suf pre, t = pre ++ suf → ∀ out : List (List Int), out.length + suf.length ≤ 100000 →
    Ev (fun k => spec_raAll.l0 k n kk (out ++ suf.map (fun r => x :: r)) (wrap64 (x + 1))) R → Ev (fun k => spec_raAll.l1 k n kk out x t (t.length : Int) (pre.length : Int)) R := by
  refine rangeL_ind (by omega) (fun pre suf => ∀ out : List (List Int), out.length + suf.length ≤ 100000 →
    Ev (fun k => spec_raAll.l0 k n kk (out ++ suf.map (fun r => x :: r)) (wrap64 (x + 1))) R → Ev (fun k => spec_raAll.l1 k n kk out x t (t.length : Int) (pre.length : Int)) R) ?_ ?_
  · intro out _ h
    refine ev_shift ?_
    simp only [spec_raAll.l1]
    refine ev_neg (by omega) ?_
    simpa using h
  · intro pre r suf h hx h1 h2 h3 ih out ho hk
    simp only [List.length_cons] at ho
    have hr : r.length ≤ 12 := ht r (by rw [h]; simp)
    have e : rd_L2 t (pre.length : Int) = r := hx
    refine ev_shift ?_
    simp only [spec_raAll.l1, e, h3, Option.bind_some, List.length_singleton, List.singleton_append]
    refine ev_pos h1 (ev_pos h2 (ev_pos h1 (ev_pos (by omega) (ev_pos (by omega) ?_))))
    refine ih _ (by simp; omega) ?_
    simpa using hk
theorem spec_raAll_ev (j : Nat) (hj : j ≤ 12) : ∀ m f : Nat, f + m ≤ 12 → Ev (fun k => spec_raAll.f k ((f + m : Nat) : Int) (j : Int) (f : Int)) (lexL f m j) := by
  induction j with
  | zero =>
    intro m f _
    refine ev_shift ?_
    simp only [spec_raAll.f]
    exact ev_pos rfl (ev_some (by rw [lexL_zero]))
  | succ j ih =>
    intro m f hm
    refine ev_shift ?_
    simp only [spec_raAll.f]
    refine ev_neg (by omega) ?_
    have e2 : wrap64 (((j + 1 : Nat) : Int) - 1) = (j : Int) := by rw [w64 (by omega) (by omega)]; omega
    have key : ∀ (d f : Nat) (out : List (List Int)), f + d ≤ 12 → out.length + C d (j + 1) ≤ 100000 → Ev (fun k => spec_raAll.l0 k ((f + d : Nat) : Int) ((j + 1 : Nat) : Int) out (f : Int)) (out ++ lexL f d (j + 1)) := by
      intro d
      induction d with
      | zero =>
        intro f out _ _
        refine ev_shift ?_
        simp only [spec_raAll.l0]
        exact ev_neg (by omega) (ev_some (by rw [lexL_none, List.append_nil]))
      | succ d ihd =>
        intro f out hf ho
        rw [C_succ] at ho
        have e1 : wrap64 ((f : Int) + 1) = ((f + 1 : Nat) : Int) := by rw [w64 (by omega) (by omega)]; omega
        have e3 : ((f + (d + 1) : Nat) : Int) = ((f + 1 + d : Nat) : Int) := by omega
        have hl := lexL_length (f + 1) d j
        refine ev_shift ?_
        simp only [spec_raAll.l0]
        rw [e1, e2]
        refine ev_pos (by omega) (ev_bind (by rw [e3]; exact ih (by omega) d (f + 1) (by omega)) ?_)
        refine spec_raAll_l1 _ _ _ (lexL (f + 1) d j) (fun r hr => by rw [lexL_mem_length hr]; omega) (by rw [hl]; have := C_12 j (n := d) (by omega); omega) _ (lexL (f + 1) d j) [] rfl out (by rw [hl]; omega) ?_
        rw [e1, e3, lexL_succ, ← List.append_assoc]
        exact ihd (f + 1) _ (by omega) (by simp [hl]; omega)
    have := key m f [] hm (by have := C_12 (j + 1) (n := m) (by omega); simp; omega)
    simpa using this
theorem impl_within_eq (a b c : Int) : impl_within.f a b c = some (inR a b c) := in_ite a b c
theorem impl_binomial_ev (n : Nat) (k : Nat) (h : n ≤ 13) (hk : k ≤ 14) : Ev (fun j => impl_binomial.f j (n : Int) (k : Int)) (C n k : Int) := by
  have t : ∀ (a : Fin 14) (b : Fin 15), impl_binomial.f 20 ((a.1 : Nat) : Int) ((b.1 : Nat) : Int) = some (C a.1 b.1 : Int) := by decide +kernel
  exact Ev.of (impl_binomial.mono _ _) (t ⟨n, by omega⟩ ⟨k, by omega⟩)
theorem impl_combinationAt_l0 (m : Nat) : ∀ (f j r : Nat) (out : List Int), f + m ≤ 12 → out.length + j ≤ 12 → r < C m j →
    Ev (fun k => impl_combinationAt.l0 k ((f + m : Nat) : Int) ((out.length + j : Nat) : Int) (r : Int) out (f : Int)) (out ++ unrankL f m j r) := by
  induction m with
  | zero =>
    intro f j r out hf ho hr
    refine ev_shift ?_
    simp only [impl_combinationAt.l0]
    cases j with
    | zero => exact ev_neg (by omega) (ev_some (by rw [unrankL_zero, List.append_nil]))
    | succ j => exact absurd hr (by simp [C])
  | succ m ih =>
    intro f j r out hf ho hr
    refine ev_shift ?_
    simp only [impl_combinationAt.l0]
    cases j with
    | zero => exact ev_neg (by omega) (ev_some (by rw [unrankL_zero, List.append_nil]))
    | succ j =>
      have e1 : wrap64 (wrap64 (((f + (m + 1) : Nat) : Int) - (f : Int)) - 1) = (m : Int) := by
        rw [w64 (x := ((f + (m + 1) : Nat) : Int) - (f : Int)) (by omega) (by omega), w64 (by omega) (by omega)]; omega
      have e2 : wrap64 (wrap64 (((out.length + (j + 1) : Nat) : Int) - (out.length : Int)) - 1) = (j : Int) := by
        rw [w64 (x := ((out.length + (j + 1) : Nat) : Int) - (out.length : Int)) (by omega) (by omega), w64 (by omega) (by omega)]; omega
      have e3 : wrap64 ((f : Int) + 1) = ((f + 1 : Nat) : Int) := by rw [w64 (by omega) (by omega)]; omega
      have e4 : ((f + (m + 1) : Nat) : Int) = ((f + 1 + m : Nat) : Int) := by omega
      have b := C_12 j (n := m) (by omega)
      have b' := C_12 (j + 1) (n := m) (by omega)
      rw [e1, e2, e3, unrankL_succ]
      rw [C_succ] at hr
      refine ev_pos (by omega) (ev_bind (impl_binomial_ev m j (by omega) (by omega)) ?_)
      by_cases h : r < C m j
      · rw [if_pos h]
        refine ev_pos (by omega) (ev_pos (by omega) ?_)
        have := ih (f + 1) j r (out ++ [(f : Int)]) (by omega) (by simp; omega) h
        rw [List.append_assoc, List.singleton_append] at this
        rw [e4]
        have e5 : (out ++ [(f : Int)]).length + j = out.length + (j + 1) := by simp; omega
        rw [e5] at this
        exact this
      · rw [if_neg h]
        refine ev_neg (by omega) ?_
        have e6 : wrap64 ((r : Int) - (C m j : Int)) = ((r - C m j : Nat) : Int) := by rw [w64 (by omega) (by omega)]; omega
        rw [e6, e4]
        exact ih (f + 1) (j + 1) (r - C m j) out (by omega) (by omega) (by omega)
theorem impl_combinationAt_ev (n j r : Nat) (hn : n ≤ 12) (hj : j ≤ 12) (hr : r < C n j) : Ev (fun k => impl_combinationAt.f k (n : Int) (j : Int) (r : Int)) (unrankL 0 n j r) := by
  have := impl_combinationAt_l0 n 0 j r [] (by omega) (by simp; omega) hr
  simpa [impl_combinationAt.f] using this
theorem spec_AllCombinations_ev (n k : Int) : Ev (fun j => spec_AllCombinations.f j n k) (allC n k) := by
  unfold spec_AllCombinations.f allC
  refine ev_bind0 (spec_raItems_eq _) ?_
  by_cases h : inR n 0 12 = true
  · refine ev_pos h (ev_bind0 (spec_raItems_eq _) ?_)
    by_cases hk : inR k 0 12 = true
    · have h' := inR_iff.1 h
      have hk' := inR_iff.1 hk
      obtain ⟨m, rfl⟩ := Int.eq_ofNat_of_zero_le h'.1
      obtain ⟨i, rfl⟩ := Int.eq_ofNat_of_zero_le hk'.1
      have := spec_raAll_ev i (by omega) m 0 (by omega)
      rw [Nat.zero_add] at this
      refine ev_pos hk (ev_bind this (ev_some ?_))
      rw [if_pos ⟨h, hk⟩]; simp
    · exact ev_neg hk (ev_some (by rw [if_neg (fun c => hk c.2)]))
  · exact ev_neg h (ev_some (by rw [if_neg (fun c => h c.1)]))
theorem impl_allCombinations_ev (n k : Nat) (hn : n ≤ 12) (hk : k ≤ 12) : Ev (fun j => impl_allCombinations.f j (n : Int) (k : Int)) (lexL 0 n k) := by
  unfold impl_allCombinations.f
  have hC := C_12 k (n := n) hn
  refine ev_bind (impl_binomial_ev n k (by omega) (by omega)) ?_
  have key : ∀ (d r : Nat), r + d = C n k → Ev (fun j => impl_allCombinations.l0 j (n : Int) (k : Int) ((lexL 0 n k).take r) (C n k : Int) (r : Int)) (lexL 0 n k) := by
    intro d
    induction d with
    | zero =>
      intro r hr
      refine ev_shift ?_
      simp only [impl_allCombinations.l0]
      exact ev_neg (by omega) (ev_some (by rw [List.take_of_length_le]; rw [lexL_length]; omega))
    | succ d ih =>
      intro r hr
      have hlt : r < C n k := by omega
      have hkn : k ≤ n := by
        rcases Nat.lt_or_ge n k with h | h
        · rw [C_gt h] at hlt; omega
        · exact h
      have e1 : wrap64 ((r : Int) + 1) = ((r + 1 : Nat) : Int) := by rw [w64 (by omega) (by omega)]; omega
      have e2 : (lexL 0 n k).take (r + 1) = (lexL 0 n k).take r ++ [unrankL 0 n k r] := by
        rw [List.take_add_one, lexL_at 0 n k r hlt]; rfl
      have h3 := ih (r + 1) (by omega)
      rw [e2] at h3
      refine ev_shift ?_
      simp only [impl_allCombinations.l0, e1]
      exact ev_pos (by omega) (ev_bind (impl_combinationAt_ev n k r (by omega) (by omega) hlt) (ev_pos (by rw [List.length_take]; omega) h3))
  exact key (C n k) 0 (by omega)
theorem impl_AllCombinations_ev (n k : Int) : Ev (fun j => impl_AllCombinations.f j n k) (allC n k) := by
  unfold impl_AllCombinations.f allC
  refine ev_bind0 (impl_within_eq _ _ _) ?_
  by_cases h : inR n 0 12 = true
  · refine ev_pos h (ev_bind0 (impl_within_eq _ _ _) ?_)
    by_cases hk : inR k 0 12 = true
    · have h' := inR_iff.1 h
      have hk' := inR_iff.1 hk
      obtain ⟨m, rfl⟩ := Int.eq_ofNat_of_zero_le h'.1
      obtain ⟨i, rfl⟩ := Int.eq_ofNat_of_zero_le hk'.1
      refine ev_pos hk (ev_bind (impl_allCombinations_ev m i (by omega) (by omega)) (ev_some ?_))
      rw [if_pos ⟨h, hk⟩]; simp
    · exact ev_neg hk (ev_some (by rw [if_neg (fun c => hk c.2)]))
  · exact ev_neg h (ev_some (by rw [if_neg (fun c => h c.1)]))
theorem spec_raBinomial_ev (n : Nat) (k : Nat) (h : n ≤ 60) (hk : k ≤ 1000000) : Ev (fun j => spec_raBinomial.f j (n : Int) (k : Int)) (C n k : Int) := by
  induction n generalizing k with
  | zero =>
    refine ev_shift ?_
    simp only [spec_raBinomial.f]
    cases k with
    | zero => exact ev_pos rfl (ev_some rfl)
    | succ k => exact ev_neg (by omega) (ev_pos rfl (ev_some rfl))
  | succ n ih =>
    refine ev_shift ?_
    simp only [spec_raBinomial.f]
    cases k with
    | zero => exact ev_pos rfl (ev_some (by rw [C_zero]; rfl))
    | succ k =>
      have e1 : wrap64 (((n + 1 : Nat) : Int) - 1) = (n : Int) := by rw [w64 (by omega) (by omega)]; omega
      have e2 : wrap64 (((k + 1 : Nat) : Int) - 1) = (k : Int) := by rw [w64 (by omega) (by omega)]; omega
      have b1 := Nat.le_trans (C_le n (k + 1)) (Nat.pow_le_pow_right (n := 2) (by omega) (show n ≤ 59 by omega))
      have b2 := Nat.le_trans (C_le n k) (Nat.pow_le_pow_right (n := 2) (by omega) (show n ≤ 59 by omega))
      rw [e1, e2]
      refine ev_neg (by omega) (ev_neg (by omega) (ev_bind (ih (k + 1) (by omega) hk) (ev_bind (ih k (by omega) (by omega)) (ev_some ?_))))
      rw [C_succ, w64 (by omega) (by omega)]; omega
def binP (n k : Int) : Int × Bool := if inR n 0 12 = true ∧ inR k 0 12 = true then ((C n.toNat k.toNat : Int), true) else (0, false)
theorem spec_Binomial_ev (n k : Int) : Ev (fun j => spec_Binomial.f j n k) (binP n k) := by
  unfold spec_Binomial.f binP
  refine ev_bind0 (spec_raItems_eq _) ?_
  by_cases h : inR n 0 12 = true
  · refine ev_pos h (ev_bind0 (spec_raItems_eq _) ?_)
    by_cases hk : inR k 0 12 = true
    · have h' := inR_iff.1 h
      have hk' := inR_iff.1 hk
      obtain ⟨m, rfl⟩ := Int.eq_ofNat_of_zero_le h'.1
      obtain ⟨i, rfl⟩ := Int.eq_ofNat_of_zero_le hk'.1
      refine ev_pos hk (ev_bind (spec_raBinomial_ev m i (by omega) (by omega)) (ev_some ?_))
      rw [if_pos ⟨h, hk⟩]; simp
    · exact ev_neg hk (ev_some (by rw [if_neg (fun c => hk c.2)]))
  · exact ev_neg h (ev_some (by rw [if_neg (fun c => h c.1)]))
theorem impl_Binomial_ev (n k : Int) : Ev (fun j => impl_Binomial.f j n k) (binP n k) := by
  unfold impl_Binomial.f binP
  refine ev_bind0 (impl_within_eq _ _ _) ?_
  by_cases h : inR n 0 12 = true
  · refine ev_pos h (ev_bind0 (impl_within_eq _ _ _) ?_)
    by_cases hk : inR k 0 12 = true
    · have h' := inR_iff.1 h
      have hk' := inR_iff.1 hk
      obtain ⟨m, rfl⟩ := Int.eq_ofNat_of_zero_le h'.1
      obtain ⟨i, rfl⟩ := Int.eq_ofNat_of_zero_le hk'.1
      refine ev_pos hk (ev_bind (impl_binomial_ev m i (by omega) (by omega)) (ev_some ?_))
      rw [if_pos ⟨h, hk⟩]; simp
    · exact ev_neg hk (ev_some (by rw [if_neg (fun c => hk c.2)]))
  · exact ev_neg h (ev_some (by rw [if_neg (fun c => h c.1)]))
theorem impl_allWithin_ev (l : List Int) (lo hi : Int) (hl : l.length ≤ 9000000000000000000) : Ev (fun k => impl_allWithin.f k l lo hi) (allIn l lo hi) := by
  refine range_all hl (fun pre suf => Ev (fun k => impl_allWithin.l0 k lo hi l (l.length : Int) (pre.length : Int)) (allIn suf lo hi)) ?_ ?_
  · refine ev_shift ?_
    simp only [impl_allWithin.l0]
    exact ev_neg (by omega) (ev_some rfl)
  · intro pre x suf h hx h1 h2 h3 ih
    refine ev_shift ?_
    simp only [impl_allWithin.l0, hx, h3, impl_within_eq, Option.bind_some, allIn_cons]
    refine ev_pos h1 (ev_pos h2 (ev_pos h1 ?_))
    cases inR x lo hi with
    | true => exact ev_pos rfl ih
    | false => exact ev_neg (by simp) (ev_some rfl)
theorem impl_increasing_ev (l : List Int) (hl : l.length ≤ 9000000000000000000) : Ev (fun k => impl_increasing.f k l) (incr l) := by
  cases l with
  | nil =>
    unfold impl_increasing.f
    refine ev_shift ?_
    simp only [impl_increasing.l0]
    exact ev_neg (by simp) (ev_some rfl)
  | cons y r =>
    have key : ∀ suf pre, y :: r = pre ++ suf → ∀ q p, pre = q ++ [p] → Ev (fun k => impl_increasing.l0 k (y :: r) (pre.length : Int)) (incrF p suf) := by
      refine range_ind hl (fun pre suf => ∀ q p, pre = q ++ [p] → Ev (fun k => impl_increasing.l0 k (y :: r) (pre.length : Int)) (incrF p suf)) ?_ ?_
      · intro q p _
        refine ev_shift ?_
        simp only [impl_increasing.l0]
        exact ev_neg (by omega) (ev_some rfl)
      · intro pre x suf h hx h1 h2 h3 ih q p hq
        have hp := rd_prev q p (x :: suf) (by rw [← hq]; rw [h] at hl; simp at hl ⊢; omega)
        rw [← hq, ← h] at hp
        have hql : pre.length = q.length + 1 := by rw [hq]; simp
        refine ev_shift ?_
        simp only [impl_increasing.l0, hx, h3, hp.1, hp.2, incrF]
        refine ev_pos h1 (ev_pos (by omega) (ev_pos (by omega) (ev_pos h2 ?_)))
        by_cases hlt : p < x
        · refine ev_neg (by omega) ?_
          simp only [decide_eq_true hlt, Bool.true_and]
          exact ih pre x rfl
        · refine ev_pos (by omega) ?_
          simp only [decide_eq_false hlt, Bool.false_and]
          exact ev_some rfl
    exact key r [y] rfl [] y rfl
theorem impl_IsCombination_ev (n : Int) (l : List Int) (hl : l.length ≤ 9000000000000000000) : Ev (fun k => impl_IsCombination.f k n l) (isComb n l) := by
  unfold impl_IsCombination.f
  refine ev_bind0 (impl_within_eq _ _ _) ?_
  by_cases hn : inR n 0 12 = true
  · have hn' := inR_iff.1 hn
    refine ev_pos hn ?_
    rw [w64 (by omega) (by omega)]
    refine ev_bind (impl_allWithin_ev l 0 (n - 1) hl) ?_
    simp only [isComb, hn, Bool.true_and]
    cases allIn l 0 (n - 1) with
    | false => exact ev_neg (by simp) (ev_some rfl)
    | true => exact ev_pos rfl (ev_bind (impl_increasing_ev l hl) (ev_some rfl))
  · refine ev_neg hn (ev_some ?_)
    simp only [Bool.not_eq_true] at hn
    simp only [isComb, hn, Bool.false_and]

theorem impl_factorial_ev (n : Nat) (h : n ≤ 12) : Ev (fun k => impl_factorial.f k (n : Int)) (fact n : Int) := by
  have t : ∀ m : Fin 13, impl_factorial.f 20 ((m.1 : Nat) : Int) = some (fact m.1 : Int) := by decide +kernel
  exact Ev.of (impl_factorial.mono _) (t ⟨n, by omega⟩)
def factP (n : Int) : Int × Bool := if inR n 0 12 = true then ((fact n.toNat : Int), true) else (0, false)
theorem impl_Factorial_ev (n : Int) : Ev (fun k => impl_Factorial.f k n) (factP n) := by
  unfold impl_Factorial.f factP
  refine ev_bind0 (impl_within_eq _ _ _) ?_
  by_cases h : inR n 0 12 = true
  · have h' := inR_iff.1 h
    obtain ⟨m, rfl⟩ := Int.eq_ofNat_of_zero_le h'.1
    refine ev_pos h (ev_bind (impl_factorial_ev m (by omega)) (ev_some ?_))
    rw [if_pos h]; simp
  · exact ev_neg h (ev_some (by rw [if_neg h]))
theorem laws_uSame_ev (l : List Int) (hl : l.length ≤ 9000000000000000000) : Ev (fun k => laws_uSame.f k l l) true := by
  unfold laws_uSame.f
  refine ev_pos rfl ?_
  refine range_all hl (fun pre suf => Ev (fun k => laws_uSame.l0 k l l (l.length : Int) (pre.length : Int)) true) ?_ ?_
  · refine ev_shift ?_
    simp only [laws_uSame.l0]
    exact ev_neg (by omega) (ev_some rfl)
  · intro pre x suf h hx h1 h2 h3 ih
    refine ev_shift ?_
    simp only [laws_uSame.l0, h3]
    exact ev_pos h1 (ev_pos h2 (ev_pos h1 (ev_pos h1 (ev_pos (by trivial) ih))))
theorem laws_uLists_ev (l : List (List Int)) (hl : l.length ≤ 9000000000000000000) (hr : ∀ x ∈ l, x.length ≤ 9000000000000000000) : Ev (fun k => laws_uLists.f k l l) true := by
  unfold laws_uLists.f
  refine ev_pos rfl ?_
  refine rangeL_ind hl (fun pre suf => Ev (fun k => laws_uLists.l0 k l l (l.length : Int) (pre.length : Int)) true) ?_ ?_ l [] rfl
  · refine ev_shift ?_
    simp only [laws_uLists.l0]
    exact ev_neg (by omega) (ev_some rfl)
  · intro pre x suf h hx h1 h2 h3 ih
    have e : rd_L2 l (pre.length : Int) = x := hx
    refine ev_shift ?_
    simp only [laws_uLists.l0, h3, e]
    exact ev_pos h1 (ev_pos h2 (ev_pos h1 (ev_pos h1 (ev_bind (laws_uSame_ev x (hr x (by rw [h]; simp))) (ev_pos rfl ih)))))
theorem laws_uLess_ev (l m : List Int) (hl : l.length ≤ 9000000000000000000) (he : m.length = l.length) : Ev (fun k => laws_uLess.f k l m) (lexB l m) := by
  unfold laws_uLess.f
  have key : ∀ suf pre, l = pre ++ suf → ∀ p s : List Int, m = p ++ s → p.length = pre.length → s.length = suf.length → Ev (fun k => laws_uLess.l0 k l m (l.length : Int) (pre.length : Int)) (lexB suf s) := by
    refine range_ind hl (fun pre suf => ∀ p s : List Int, m = p ++ s → p.length = pre.length → s.length = suf.length → Ev (fun k => laws_uLess.l0 k l m (l.length : Int) (pre.length : Int)) (lexB suf s)) ?_ ?_
    · intro p s _ _ hs
      refine ev_shift ?_
      simp only [laws_uLess.l0]
      refine ev_neg (by omega) (ev_some ?_)
      cases s with
      | nil => rfl
      | cons y s => simp at hs
    · intro pre x suf hh hx h1 h2 h3 ih p s hps hpl hsl
      cases s with
      | nil => simp at hsl
      | cons y s =>
        have hrb : rd m (pre.length : Int) = y := by rw [hps, ← hpl]; exact rd_at _ _ _
        refine ev_shift ?_
        simp only [laws_uLess.l0, hx, h3, hrb, lexB]
        refine ev_pos h1 (ev_pos h2 (ev_pos h1 (ev_pos (by omega) ?_)))
        by_cases hxy : x = y
        · rw [if_pos hxy]
          exact ev_pos hxy (ih (p ++ [y]) s (by simp [hps]) (by simp [hpl]) (by simpa using hsl))
        · rw [if_neg hxy]
          exact ev_neg hxy (ev_some rfl)
  exact key l [] rfl [] m rfl rfl he
theorem laws_FnCounts_l0_ev (n k : Nat) (hn : n ≤ 12) (hk : k ≤ 12) : Ev (fun j => laws_FnCounts.l0 j (n : Int) (k : Int) (lexL 0 n k) (C n k : Int) (lexL 0 n k) ((lexL 0 n k).length : Int) 0) true := by
  have hC := C_12 k (n := n) hn
  have hlen := lexL_length 0 n k
  have hs := lexL_sorted n 0 k
  have hm : ∀ l ∈ lexL 0 n k, isComb (n : Int) l = true ∧ l.length = k := by
    intro l hl
    have := lexL_cmb hl
    rw [Nat.zero_add] at this
    exact ⟨isComb_of_cmb (by omega) (by omega) this, lexL_mem_length hl⟩
  generalize hL : lexL 0 n k = L at *
  refine rangeL_ind (l := L) (by omega) (fun pre suf => Ev (fun j => laws_FnCounts.l0 j (n : Int) (k : Int) L (C n k : Int) L (L.length : Int) (pre.length : Int)) true) ?_ ?_ L [] rfl
  · refine ev_shift ?_
    simp only [laws_FnCounts.l0]
    refine ev_neg (by omega) ?_
    by_cases h : (k : Int) > (n : Int)
    · refine ev_pos h (ev_some ?_)
      rw [C_gt (by omega)]; rfl
    · have e : wrap64 ((n : Int) - (k : Int)) = ((n - k : Nat) : Int) := by rw [w64 (by omega) (by omega)]; omega
      have hf := C_fact n k hn (by omega)
      have h12 := fact_12 hn
      have p1 := fact_pos (n - k)
      have p2 := Nat.mul_le_mul_left (C n k * fact k) p1
      have g : ∀ i : Nat, i ≤ 12 → factP (i : Int) = ((fact i : Int), true) := by
        intro i hi
        unfold factP
        rw [if_pos (by first | exact inR_iff.2 ⟨by omega, by omega⟩ | omega)]; simp
      have b1 : wrap64 ((C n k : Int) * (fact k : Int)) = ((C n k * fact k : Nat) : Int) := by
        rw [← Int.natCast_mul, w64 (by omega) (by omega)]
      have b2 : wrap64 (((C n k * fact k : Nat) : Int) * (fact (n - k) : Int)) = (fact n : Int) := by
        rw [← Int.natCast_mul, hf, w64 (by omega) (by omega)]
      rw [e]
      refine ev_neg h (ev_bind (impl_Factorial_ev _) (ev_bind (impl_Factorial_ev _) (ev_bind (impl_Factorial_ev _) ?_)))
      rw [g n hn, g k hk, g (n - k) (by omega)]
      refine ev_pos rfl (ev_pos rfl (ev_pos rfl (ev_some ?_)))
      dsimp only
      rw [b1, b2]; simp
  · intro pre x suf hh hx h1 h2 h3 ih
    have hmx := hm x (by rw [hh]; simp)
    have e : rd_L2 L (pre.length : Int) = x := hx
    refine ev_shift ?_
    simp only [laws_FnCounts.l0, h3, e]
    refine ev_pos h1 (ev_pos h2 (ev_pos h1 (ev_bind (impl_IsCombination_ev _ x (by omega)) (ev_pos hmx.1 (ev_pos (by omega) ?_)))))
    rcases List.eq_nil_or_concat pre with rfl | ⟨p, y, ep⟩
    · exact ev_neg (by simp) ih
    · rw [List.concat_eq_append] at ep
      have hy : rd_L2 L (p.length : Int) = y := by rw [hh, ep, List.append_assoc]; exact rdL_at _ _ _
      have hmy := hm y (by rw [hh, ep]; simp)
      have hl : pre.length = p.length + 1 := by rw [ep]; simp
      have ew : wrap64 ((pre.length : Int) - 1) = (p.length : Int) := by rw [w64 (by omega) (by omega)]; omega
      have hlex : lexB y x = true := by
        rw [hh, ep] at hs
        have := (List.pairwise_append.1 hs).2.2 y (by simp) x (by simp)
        exact this
      rw [ew, hy]
      refine ev_pos (by omega) (ev_pos (by omega) (ev_pos (by omega) (ev_bind (laws_uLess_ev y x (by omega) (by omega)) ?_)))
      rw [hlex]
      exact ev_pos rfl ih
theorem FnCounts : laws_FnCounts.Pure := by
  intro c m hl1 hl2 hc hm1 hm2 hm
  apply ev_le
  unfold laws_FnCounts.f
  rcases laws_big_eq c m hc hm (by omega) with hb | ⟨hb, wc, wm⟩
  · exact ev_bind0 hb (ev_pos rfl (ev_some rfl))
  refine ev_bind0 hb (ev_neg Bool.false_ne_true ?_)
  obtain ⟨n, k, e⟩ := dr_Binomial wc
  refine ev_bind0 (a := (n, k)) (by unfold spec_DrawAllCombinations.f; rw [e]; rfl) ?_
  have hlen : (allC n k).1.length ≤ 4096 ∧ ∀ x ∈ (allC n k).1, x.length ≤ 12 := by
    unfold allC
    split
    · rename_i h
      have h1 := inR_iff.1 h.1
      have h2 := inR_iff.1 h.2
      refine ⟨by rw [lexL_length]; exact C_12 _ (by omega), fun x hx => ?_⟩
      have := lexL_mem_length hx
      omega
    · exact ⟨by simp, fun x hx => by simp at hx⟩
  refine ev_bind (impl_AllCombinations_ev n k) (ev_bind (spec_AllCombinations_ev n k) (ev_bind (impl_Binomial_ev n k) (ev_bind (spec_Binomial_ev n k) ?_)))
  refine ev_neg neq_self (ev_bind (laws_uLists_ev _ (by omega) (fun x hx => by have := hlen.2 x hx; omega)) (ev_pos rfl (ev_neg neq_self (ev_pos rfl ?_))))
  refine ev_shift ?_
  simp only [laws_FnCounts.j0]
  by_cases h : inR n 0 12 = true ∧ inR k 0 12 = true
  · have h1 := inR_iff.1 h.1
    have h2 := inR_iff.1 h.2
    obtain ⟨i, rfl⟩ := Int.eq_ofNat_of_zero_le h1.1
    obtain ⟨j, rfl⟩ := Int.eq_ofNat_of_zero_le h2.1
    have ea : allC (i : Int) (j : Int) = (lexL 0 i j, true) := by unfold allC; rw [if_pos h]; simp
    have eb : binP (i : Int) (j : Int) = ((C i j : Int), true) := by unfold binP; rw [if_pos h]; simp
    rw [ea, eb]
    refine ev_neg (show ¬ ((true != true) = true) by decide) (ev_pos rfl (ev_pos (by rw [lexL_length]) ?_))
    exact laws_FnCounts_l0_ev i j (by omega) (by omega)
  · have ea : allC n k = ([], false) := by unfold allC; rw [if_neg h]
    have eb : binP n k = (0, false) := by unfold binP; rw [if_neg h]
    rw [ea, eb]
    exact ev_neg (by decide) (ev_neg (by decide) (ev_some rfl))

end Go.Proofs.Ytkbnkichgkeckaa.Pure
