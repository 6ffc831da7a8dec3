/- The law FnReflected returns true for every two lists of bytes (reach as the row says); no condition of ours. -/
import Derived.Test.YtnhifbopicjicaaDoorQFnReflectedx4
import Derived.Test.YtnhifbopicjicaaDoorMth
import Derived.Test.YtnhifbopicjicaaDoorMthCode
import Derived.Test.YtnhifbopicjicaaDoorMthGray
import Derived.Test.YtnhifbopicjicaaDoorMthNextGray
set_option linter.unusedVariables false
set_option linter.unusedSimpArgs false
namespace Go.Proofs.YtnhifbopicjicaaDoor.Pure
open Go.RowKit Go.Proofs.YtnhifbopicjicaaDoor.Mth Go.Proofs.YtnhifbopicjicaaDoor.PFnReflected Go.Proofs.YtnhifbopicjicaaDoorW.PrintWords Go.Proofs.YtnhifbopicjicaaDoorW.PrintLast

theorem wrapU (n : Int) : IntKind.u64.wrap n = n % 18446744073709551616 := by simp [IntKind.wrap, IntKind.bits, IntKind.signed]
def wfB (c : List Int) : Prop := c.length ≤ 1048576 ∧ ∀ x ∈ c, 0 ≤ x ∧ x ≤ 255
theorem wfB_of {c : List Int} (h0 : c.length ≤ 1048576) (h : ∀ x ∈ c, (Lit.int .u8 x).wf = true) : wfB c := by
  refine ⟨h0, fun x hx => ?_⟩
  have := h x hx
  simp only [Lit.wf, Bool.and_eq_true, decide_eq_true_eq] at this
  have e0 : IntKind.min .u8 = 0 := by decide
  have e1 : IntKind.max .u8 = 255 := by decide
  omega
theorem byte_of (x : Int) : 0 ≤ wrap64 (Go.bits .and .u64 ((IntKind.u64.wrap x) / 1099511627776) 255) ∧ wrap64 (Go.bits .and .u64 ((IntKind.u64.wrap x) / 1099511627776) 255) ≤ 255 := by
  have h1 : 0 ≤ IntKind.u64.wrap x / 1099511627776 ∧ IntKind.u64.wrap x / 1099511627776 < 2 ^ 24 := by rw [wrapU]; omega
  have h2 := Go.bits_mask .u64 24 (by decide) (fun n a b => by rw [wrapU]; omega) 8 (by decide) _ h1.1 h1.2
  have h3 : Go.bits .and .u64 ((IntKind.u64.wrap x) / 1099511627776) 255 = (IntKind.u64.wrap x) / 1099511627776 % 2 ^ 8 := h2
  rw [h3, w64 (by omega) (by omega)]
  omega
theorem dr_next {c : List Int} (hc : wfB c) {a : Int} (s : Int) (h0 : 0 ≤ a) (h1 : a ≤ 4000000000000000000) : ∃ r s', spec_l1Cur_next.f c a s = some (r, a + 1, s') ∧ 0 ≤ r ∧ r ≤ 255 := by
  have hl := hc.1
  unfold spec_l1Cur_next.f
  have e : wrap64 (a + 1) = a + 1 := w64 (by omega) (by omega)
  rw [e]
  by_cases h : a < (c.length : Int)
  · rw [if_pos h, if_pos h0, if_pos (by omega)]
    obtain ⟨n, rfl⟩ := Int.eq_ofNat_of_zero_le h0
    have hm := hc.2 _ (rd_mem (l := c) (j := n) (by omega))
    exact ⟨_, _, rfl, by rw [w64 (by omega) (by omega)]; omega, by rw [w64 (by omega) (by omega)]; omega⟩
  · rw [if_neg h, if_neg (by omega)]
    exact ⟨_, _, rfl, (byte_of _).1, (byte_of _).2⟩
theorem dr_pick {c : List Int} (hc : wfB c) {a : Int} (s n : Int) (h0 : 0 ≤ a) (h1 : a ≤ 3999999999999999999) : ∃ r a' s', spec_l1Cur_pick.f c a s n = some (r, a', s') ∧ a ≤ a' ∧ a' ≤ a + 2 ∧ 0 ≤ r ∧ (n ≤ 1 → r = 0) ∧ (1 < n → r < n) := by
  unfold spec_l1Cur_pick.f
  by_cases hn : n ≤ 1
  · rw [if_pos hn]
    exact ⟨0, a, s, rfl, by omega, by omega, by omega, fun _ => rfl, fun h => by omega⟩
  · rw [if_neg hn]
    obtain ⟨x, s1, e1, x0, x1⟩ := dr_next hc s h0 (by omega)
    rw [e1]
    simp only [Option.bind_some]
    by_cases hb : n > 200
    · rw [if_pos hb]
      obtain ⟨y, s2, e2, y0, y1⟩ := dr_next hc s1 (a := a + 1) (by omega) (by omega)
      rw [e2]
      simp only [Option.bind_some]
      rw [if_neg (by omega), w64 (x := x * 256) (by omega) (by omega), w64 (by omega) (by omega)]
      rw [Int.tmod_eq_emod_of_nonneg (by omega)]
      have g0 := Int.emod_nonneg (x * 256 + y) (b := n) (by omega)
      have g1 := Int.emod_lt_of_pos (x * 256 + y) (b := n) (by omega)
      exact ⟨_, _, _, rfl, by omega, by omega, g0, fun h => by omega, fun _ => g1⟩
    · rw [if_neg hb, if_neg (by omega)]
      rw [Int.tmod_eq_emod_of_nonneg (by omega)]
      have g0 := Int.emod_nonneg x (b := n) (by omega)
      have g1 := Int.emod_lt_of_pos x (b := n) (by omega)
      exact ⟨_, _, _, rfl, by omega, by omega, g0, fun h => by omega, fun _ => g1⟩
theorem laws_big_eq (c m : List Int) (hc : ∀ x ∈ c, (Lit.int .u8 x).wf = true) (hm : ∀ x ∈ m, (Lit.int .u8 x).wf = true) (hl : c.length ≤ 9000000000000000000) : laws_big.f c m = some true ∨ (laws_big.f c m = some false ∧ wfB c ∧ wfB m) := by
  unfold laws_big.f
  by_cases h : (c.length : Int) > 1048576
  · exact .inl (if_pos h)
  · rw [if_neg h, w64 (by omega) (by omega)]
    by_cases h2 : (m.length : Int) > 1048576 - (c.length : Int)
    · rw [decide_eq_true h2]; exact .inl rfl
    · rw [decide_eq_false h2]; exact .inr ⟨rfl, wfB_of (by omega) hc, wfB_of (by omega) hm⟩
theorem dr_among {c : List Int} (hc : wfB c) {a : Int} (s : Int) (l : List Int) (hl : 0 < l.length) (h0 : 0 ≤ a) (h1 : a ≤ 3999999999999999999) : ∃ r a' s', spec_l1Cur_among.f c a s l = some (r, a', s') ∧ a ≤ a' ∧ a' ≤ a + 2 ∧ r ∈ l := by
  unfold spec_l1Cur_among.f
  obtain ⟨r, a', s', e, h2, h3, h4, h5, h6⟩ := dr_pick hc s (l.length : Int) h0 h1
  rw [e]
  simp only [Option.bind_some]
  have hr : r < (l.length : Int) := by
    by_cases h : (l.length : Int) ≤ 1
    · have := h5 h; omega
    · exact h6 (by omega)
  rw [if_pos h4, if_pos hr]
  obtain ⟨n, rfl⟩ := Int.eq_ofNat_of_zero_le h4
  exact ⟨_, _, _, rfl, h2, h3, rd_mem (by omega)⟩
theorem dr_one {c : List Int} (hc : wfB c) {a : Int} (s n : Int) (h0 : 0 ≤ a) (h1 : a ≤ 3999999999999999999) : ∃ r a' s', spec_l1Cur_one.f c a s n = some (r, a', s') ∧ a ≤ a' ∧ a' ≤ a + 2 := by
  unfold spec_l1Cur_one.f
  obtain ⟨r, a', s', e, h2, h3, _⟩ := dr_pick hc s n h0 h1
  rw [e]
  exact ⟨_, _, _, rfl, h2, h3⟩
theorem dr_bits2 {c : List Int} (hc : wfB c) {a : Int} (s n : Int) (hn : 1 ≤ n) (hn1 : n ≤ 1000) (h0 : 0 ≤ a) (h1 : a ≤ 3999999999999999000) : ∃ r a' s', spec_l1Cur_bits2.f c a s n = some (r, a', s') ∧ a ≤ a' ∧ a' ≤ a + 4 ∧ -1 ≤ r ∧ (r ≤ 11 ∨ r ≤ n) := by
  unfold spec_l1Cur_bits2.f
  obtain ⟨x, a1, s1, e1, u2, u3⟩ := dr_one hc s 15 h0 (by omega)
  rw [e1, Option.bind_some]
  dsimp only
  by_cases hx : x = true
  · rw [if_pos hx]
    obtain ⟨r, a2, s2, e2, g2, g3, g4⟩ := dr_among hc s1 [-1, 0, 10, 11] (by simp) (a := a1) (by omega) (by omega)
    rw [e2]
    simp only [List.mem_cons, List.not_mem_nil, or_false] at g4
    exact ⟨_, _, _, rfl, by dsimp only; omega, by dsimp only; omega, by dsimp only; omega, by dsimp only; omega⟩
  · rw [if_neg hx]
    obtain ⟨y, a2, s2, e2, v2, v3, v4, v5, v6⟩ := dr_pick hc s1 n (a := a1) (by omega) (by omega)
    rw [e2, Option.bind_some]
    dsimp only
    have hy : y < n := by
      by_cases h : n ≤ 1
      · have := v5 h; omega
      · exact v6 (by omega)
    rw [w64 (by omega) (by omega)]
    exact ⟨_, _, _, rfl, by omega, by omega, by omega, by omega⟩
theorem w64r (x : Int) : -9223372036854775808 ≤ wrap64 x ∧ wrap64 x ≤ 9223372036854775807 := by unfold wrap64; omega
theorem dr_rank {c : List Int} (hc : wfB c) {a : Int} (s n : Int) (hn : -9223372036854775808 ≤ n) (hn1 : n ≤ 9223372036854775807) (h0 : 0 ≤ a) (h1 : a ≤ 3999999999999999000) : ∃ r a' s', spec_l1Cur_rank.f c a s n = some (r, a', s') ∧ a ≤ a' ∧ a' ≤ a + 8 ∧ -9223372036854775808 ≤ r ∧ r ≤ 9223372036854775807 := by
  unfold spec_l1Cur_rank.f
  obtain ⟨x, a1, s1, e1, u2, u3, u4, u5, u6⟩ := dr_pick hc s 12 h0 (by omega)
  rw [e1]
  simp only [Option.bind_some]
  by_cases c0 : x = 0
  · rw [if_pos c0]
    obtain ⟨r, a2, s2, e2, g2, g3, g4⟩ := dr_among hc s1 [-1, n, wrap64 (n + 1), 4611686018427387904] (by simp) (a := a1) (by omega) (by omega)
    rw [e2]
    have hw := w64r (n + 1)
    generalize hq : wrap64 (n + 1) = q at g4 hw e2; clear hq
    simp only [List.mem_cons, List.not_mem_nil, or_false] at g4
    exact ⟨_, _, _, rfl, by dsimp only; omega, by dsimp only; omega, by dsimp only; omega, by dsimp only; omega⟩
  rw [if_neg c0]
  by_cases c1 : x = 1
  · rw [if_pos c1]
    have hw := w64r (n - 1)
    exact ⟨_, _, _, rfl, by omega, by omega, by omega, by omega⟩
  rw [if_neg c1]
  by_cases c2 : x = 2
  · rw [if_pos c2]
    exact ⟨_, _, _, rfl, by omega, by omega, by omega, by omega⟩
  rw [if_neg c2]
  by_cases c3 : n < 2
  · rw [if_pos c3]
    exact ⟨_, _, _, rfl, by omega, by omega, by omega, by omega⟩
  rw [if_neg c3]
  obtain ⟨y, a2, s2, e2, v2, v3, v4, v5, v6⟩ := dr_pick hc s1 60000 (a := a1) (by omega) (by omega)
  rw [e2]
  simp only [Option.bind_some]
  obtain ⟨z, a3, s3, e3, w2, w3, w4, w5, w6⟩ := dr_pick hc s2 60000 (a := a2) (by omega) (by omega)
  rw [e3]
  simp only [Option.bind_some]
  have := v6 (by decide); have := w6 (by decide)
  rw [if_neg (by omega), w64 (x := y * 60000) (by omega) (by omega), w64 (by omega) (by omega), Int.tmod_eq_emod_of_nonneg (by omega)]
  have g0 := Int.emod_nonneg (y * 60000 + z) (b := n) (by omega)
  have g1 := Int.emod_lt_of_pos (y * 60000 + z) (b := n) (by omega)
  exact ⟨_, _, _, rfl, by omega, by omega, by omega, by omega⟩
theorem spec_l1In_eq (a b c : Int) : spec_l1In.f a b c = some (inR a b c) := in_ite a b c
theorem spec_gcBits_eq (a : Int) : spec_gcBits.f a = some (inR a 1 10) := by simp only [spec_gcBits.f, spec_l1In_eq, Option.bind_some]
theorem spec_l1Least_eq (a b : Int) : spec_l1Least.f a b = some (if a < b then a else b) := by
  unfold spec_l1Least.f
  split <;> rfl
theorem spec_l1Most_eq (a b : Int) : spec_l1Most.f a b = some (if a > b then a else b) := by
  unfold spec_l1Most.f
  split <;> rfl
theorem shl12 : ∀ n : Fin 13, 1 ≤ shl .i64 1 (n.1 : Int) ∧ shl .i64 1 (n.1 : Int) ≤ 4096 := by decide +kernel
theorem dr_word {c : List Int} (hc : wfB c) {a : Int} (s n : Int) (h0 : 0 ≤ a) (h1 : a ≤ 3999999999999998000) : ∃ t r a' s', spec_l1Least.f n 12 = some (if n < 12 then n else 12) ∧ spec_l1Most.f 0 (if n < 12 then n else 12) = some t ∧ 0 ≤ t ∧ spec_l1Cur_rank.f c a s (shl .i64 1 t) = some (r, a', s') := by
  have h : ∃ t : Nat, t ≤ 12 ∧ (if (0 : Int) > (if n < 12 then n else 12) then 0 else (if n < 12 then n else 12)) = (t : Int) := by
    refine ⟨(if (0 : Int) > (if n < 12 then n else 12) then 0 else (if n < 12 then n else 12)).toNat, ?_, ?_⟩ <;> (split <;> split at * <;> omega)
  obtain ⟨t, ht, e⟩ := h
  have hs := shl12 ⟨t, by omega⟩
  simp only at hs
  obtain ⟨r, a', s', e2, _⟩ := dr_rank hc s (shl .i64 1 (t : Int)) (by omega) (by omega) h0 (by omega)
  exact ⟨t, r, a', s', spec_l1Least_eq _ _, by rw [spec_l1Most_eq, e], by omega, e2⟩
theorem dr_ReflectedAt {c : List Int} (hc : wfB c) : ∃ n r, spec_DrawReflectedAt.f c = some (n, r) := by
  unfold spec_DrawReflectedAt.f
  obtain ⟨n, a1, s1, e1, u2, u3, u4, u5⟩ := dr_bits2 hc 0 7 (by decide) (by decide) (a := 0) (by decide) (by decide)
  obtain ⟨t, r, a', s', f1, f2, f3, f4⟩ := dr_word hc s1 n (a := a1) (by omega) (by omega)
  rw [e1, Option.bind_some]
  dsimp only
  rw [f1, Option.bind_some, f2, Option.bind_some, if_pos f3, f4, Option.bind_some]
  exact ⟨_, _, rfl⟩
theorem dr_NextReflected {c : List Int} (hc : wfB c) : ∃ n r, Ev (fun k => spec_DrawNextReflected.f k c) (n, r) := by
  unfold spec_DrawNextReflected.f
  obtain ⟨n, a1, s1, e1, u2, u3, u4, u5⟩ := dr_bits2 hc 0 7 (by decide) (by decide) (a := 0) (by decide) (by decide)
  have hj : ∀ (x : Bool) (a s : Int), 0 ≤ a → a ≤ 100 → (x = true → 1 ≤ n) → ∃ r, Ev (fun k => spec_DrawNextReflected.j0 k n x c a s) (n, r) := by
    intro x a s h0 h1 hx
    by_cases h : x = true
    · refine ⟨shl .i64 1 (wrap64 (n - 1)), ev_shift ?_⟩
      simp only [spec_DrawNextReflected.j0]
      have := hx h
      exact ev_pos h (ev_pos (by rw [w64 (by omega) (by omega)]; omega) (ev_some rfl))
    · obtain ⟨t, r, a', s', f1, f2, f3, f4⟩ := dr_word hc s n (a := a) (by omega) (by omega)
      refine ⟨r, ev_shift ?_⟩
      simp only [spec_DrawNextReflected.j0]
      exact ev_neg h (ev_bind0 f1 (ev_bind0 f2 (ev_pos f3 (ev_bind0 f4 (ev_some rfl)))))
  by_cases h : inR n 1 10 = true
  · have h' := inR_iff.1 h
    obtain ⟨x, a2, s2, e2, v2, v3⟩ := dr_one hc s1 6 (a := a1) (by omega) (by omega)
    obtain ⟨r, hr⟩ := hj x a2 s2 (by omega) (by omega) (fun _ => h'.1)
    exact ⟨n, r, ev_bind0 e1 (ev_bind0 (spec_gcBits_eq _) (ev_pos h (ev_bind0 e2 hr)))⟩
  · obtain ⟨r, hr⟩ := hj false a1 s1 (by omega) (by omega) (fun c => by cases c)
    exact ⟨n, r, ev_bind0 e1 (ev_bind0 (spec_gcBits_eq _) (ev_neg h hr))⟩
theorem spec_gcWord_eq (n w : Int) (h : 0 ≤ n) : spec_gcWord.f n w = some (inR w 0 (top n)) := by simp only [spec_gcWord.f, if_pos h, spec_l1In_eq, Option.bind_some, top]
theorem spec_gcList_l0 (n : Nat) (hn : n + 1 ≤ 10) (L : List Int) (hL : L.length ≤ 512) (hx : ∀ x ∈ L, 0 ≤ x ∧ x < 1024) : ∀ (j : Nat) (acc : List Int), j ≤ L.length → acc.length + j ≤ 512 →
    Ev (fun k => spec_gcList.l0 k ((n + 1 : Nat) : Int) (L ++ acc) ((j : Int) - 1)) (L ++ acc ++ (L.take j).reverse.map (fun x => x + 2 ^ n)) := by
  have e2 : shl .i64 1 (n : Int) = 2 ^ n := shl_pow (by omega)
  have e3 : ((2 ^ n : Nat) : Int) = (2 : Int) ^ n := by simp
  have e4 := pow_le_1024 (n := n) (by omega)
  have e5 : (0 : Int) ≤ 2 ^ n := by rw [← e3]; exact Int.natCast_nonneg _
  have e1 : wrap64 (((n + 1 : Nat) : Int) - 1) = (n : Int) := by rw [w64 (by omega) (by omega)]; omega
  intro j
  induction j with
  | zero =>
    intro acc _ _
    refine ev_shift ?_
    simp only [spec_gcList.l0]
    exact ev_neg (by omega) (ev_some (by simp))
  | succ j ih =>
    intro acc hj ha
    have e : (((j + 1 : Nat) : Int) - 1) = (j : Int) := by omega
    have hr : rd (L ++ acc) (j : Int) = rd L (j : Int) := by
      rw [rd_nat, rd_nat, List.getD_eq_getElem?_getD, List.getD_eq_getElem?_getD, List.getElem?_append_left (by omega)]
    have hm := hx _ (rd_mem (l := L) (j := j) (by omega))
    refine ev_shift ?_
    simp only [spec_gcList.l0, e, e1, e2, hr]
    rw [w64 (x := (j : Int) - 1) (by omega) (by omega), w64 (x := rd L (j : Int) + 2 ^ n) (by omega) (by omega)]
    refine ev_pos (by omega) (ev_pos (by omega) (ev_pos (by simp; omega) (ev_pos (by omega) (ev_pos (by simp; omega) ?_))))
    have := ih (acc ++ [rd L (j : Int) + 2 ^ n]) (by omega) (by simp; omega)
    rw [List.append_assoc] at this ⊢
    have et : L.take (j + 1) = L.take j ++ [rd L (j : Int)] := by
      rw [List.take_add_one, rd_nat, List.getD_eq_getElem?_getD, List.getElem?_eq_getElem (by omega)]; rfl
    rw [et, List.reverse_append]
    simpa using this
theorem spec_gcList_ev (n : Nat) (hn : n ≤ 10) : Ev (fun k => spec_gcList.f k (n : Int)) (grL n) := by
  induction n with
  | zero =>
    refine ev_shift ?_
    simp only [spec_gcList.f]
    exact ev_pos rfl (ev_some rfl)
  | succ n ih =>
    have hl := grL_length (n := n) (by omega)
    have hp := Nat.pow_le_pow_right (n := 2) (by omega) (show n ≤ 9 by omega)
    have e1 : wrap64 (((n + 1 : Nat) : Int) - 1) = (n : Int) := by rw [w64 (by omega) (by omega)]; omega
    refine ev_shift ?_
    simp only [spec_gcList.f, e1]
    refine ev_neg (by omega) (ev_bind (ih (by omega)) ?_)
    rw [w64 (by omega) (by omega)]
    have := spec_gcList_l0 n hn (grL n) (by omega) (fun x hx => by have := grL_mem (n := n) (by omega) hx; have e3 : ((2 ^ n : Nat) : Int) = (2 : Int) ^ n := by simp
                                                                   omega) (grL n).length [] (Nat.le_refl _) (by simp; omega)
    simpa [grL] using this
theorem impl_within_eq (a b c : Int) : impl_within.f a b c = some (inR a b c) := in_ite a b c
theorem impl_isBits_eq (a : Int) : impl_isBits.f a = some (inR a 1 10) := by simp only [impl_isBits.f, impl_within_eq, Option.bind_some]
theorem impl_isWord_eq (n w : Int) : impl_isWord.f n w = some (isW n w) := by
  simp only [impl_isWord.f, impl_isBits_eq, impl_within_eq, Option.bind_some, isW, top]
  by_cases h : inR n 1 10 = true
  · have := inR_iff.1 h
    rw [if_pos h, if_pos (by omega), h, Bool.true_and]
  · simp only [Bool.not_eq_true] at h
    simp [h]
theorem spec_ReflectedAt_ev (n r : Int) : Ev (fun k => spec_ReflectedAt.f k n r) (refAt n r) := by
  unfold spec_ReflectedAt.f refAt
  refine ev_bind0 (spec_gcBits_eq _) ?_
  by_cases hn : inR n 1 10 = true
  · have hn' := inR_iff.1 hn
    refine ev_pos hn (ev_bind0 (spec_gcWord_eq n r (by omega)) ?_)
    by_cases hw : inR r 0 (top n) = true
    · have h : isW n r = true := by simp [isW, hn, hw]
      rw [if_pos h]
      obtain ⟨m, q, rfl, rfl, h1, h2, h3⟩ := isW_nat h
      refine ev_pos hw (ev_bind (spec_gcList_ev m h2) (ev_pos (by omega) (ev_pos (by rw [grL_length h2]; omega) (ev_some ?_))))
      rw [grL_rd h2 h3]; rfl
    · rw [if_neg (fun c => hw (inR_iff.2 (isW_iff.1 c).2))]
      exact ev_neg hw (ev_some rfl)
  · rw [if_neg (fun c => hn (inR_iff.2 (isW_iff.1 c).1))]
    exact ev_neg hn (ev_some rfl)
theorem impl_ReflectedAt_eq (n r : Int) : impl_ReflectedAt.f n r = some (refAt n r) := by
  unfold impl_ReflectedAt.f refAt
  rw [impl_isWord_eq, Option.bind_some]
  by_cases h : isW n r = true
  · rw [if_pos h, if_pos h]
  · rw [if_neg h, if_neg h]
attribute [local irreducible] rkLoop gray grL in
theorem spec_gcPlace_ev (n q : Nat) (hn : n ≤ 10) (hq : q < 2 ^ n) : Ev (fun k => spec_gcPlace.f k (grL n) (q : Int)) (rkLoop 20 (q : Int) 0) := by
  have hr := rk_lt hn hq
  obtain ⟨r, hre⟩ := Int.eq_ofNat_of_zero_le hr.1
  have e3 : ((2 ^ n : Nat) : Int) = (2 : Int) ^ n := by simp
  have hr2 : r < 2 ^ n := by omega
  have e4 := pow_le_1024 hn
  have hg : gray r = (q : Int) := by
    have := gray_rk ⟨q, by omega⟩
    simp only at this
    rw [hre] at this; simpa using this
  have hl := grL_length hn
  rw [hre]
  have key : ∀ d i : Nat, i + d = r → Ev (fun k => spec_gcPlace.l0 k (q : Int) (grL n) ((grL n).length : Int) (i : Int)) (r : Int) := by
    intro d
    induction d with
    | zero =>
      intro i hi
      obtain rfl : i = r := by omega
      refine ev_shift ?_
      simp only [spec_gcPlace.l0]
      rw [grL_rd hn hr2, hg]
      exact ev_pos (by omega) (ev_pos (by omega) (ev_pos (by omega) (ev_pos (by trivial) (ev_some rfl))))
    | succ d ih =>
      intro i hi
      have e1 : wrap64 ((i : Int) + 1) = ((i + 1 : Nat) : Int) := by rw [w64 (by omega) (by omega)]; omega
      refine ev_shift ?_
      simp only [spec_gcPlace.l0, e1]
      clear e1
      rw [grL_rd hn (show i < 2 ^ n by omega)]
      refine ev_pos (by omega) (ev_pos (by omega) (ev_pos (by omega) (ev_neg ?_ (ih (i + 1) (by omega)))))
      intro c
      have h1 := rk_gray ⟨i, by omega⟩
      simp only at h1
      rw [← c, hre] at h1
      omega
  exact key r 0 (by omega)
theorem impl_reflectedRank_ev (q : Nat) (hq : q < 1024) : Ev (fun k => impl_reflectedRank.f k (q : Int)) (rkLoop 20 (q : Int) 0) := by
  have t : ∀ w : Fin 1024, impl_reflectedRank.f 20 (w.1 : Int) = some (rkLoop 20 (w.1 : Int) 0) := by decide +kernel
  exact Ev.of (impl_reflectedRank.mono _) (t ⟨q, hq⟩)
theorem spec_ReflectedRank_ev (n r : Int) : Ev (fun k => spec_ReflectedRank.f k n r) (refRk n r) := by
  have bad : ¬ isW n r = true → Ev (fun k => spec_ReflectedRank.j0 k n r true) (refRk n r) := by
    intro h
    unfold refRk
    rw [if_neg h]
    refine ev_shift ?_
    simp only [spec_ReflectedRank.j0]
    exact ev_pos (by trivial) (ev_some rfl)
  unfold spec_ReflectedRank.f
  refine ev_bind0 (spec_gcBits_eq _) ?_
  by_cases hn : inR n 1 10 = true
  · have hn' := inR_iff.1 hn
    refine ev_pos hn (ev_bind0 (spec_gcWord_eq n r (by omega)) ?_)
    by_cases hw : inR r 0 (top n) = true
    · have h : isW n r = true := by simp [isW, hn, hw]
      unfold refRk
      rw [if_pos h, hw]
      obtain ⟨m, q, rfl, rfl, h1, h2, h3⟩ := isW_nat h
      refine ev_shift ?_
      simp only [spec_ReflectedRank.j0]
      exact ev_neg (by simp) (ev_bind (spec_gcList_ev m h2) (ev_bind (spec_gcPlace_ev m q h2 h3) (ev_some rfl)))
    · simp only [Bool.not_eq_true] at hw
      rw [hw]
      exact bad (fun c => by have := (isW_iff.1 c).2; rw [← inR_iff, hw] at this; cases this)
  · exact ev_neg hn (bad (fun c => hn (inR_iff.2 (isW_iff.1 c).1)))
theorem impl_ReflectedRank_ev (n r : Int) : Ev (fun k => impl_ReflectedRank.f k n r) (refRk n r) := by
  unfold impl_ReflectedRank.f refRk
  refine ev_bind0 (impl_isWord_eq _ _) ?_
  by_cases h : isW n r = true
  · rw [if_pos h]
    obtain ⟨m, q, rfl, rfl, h1, h2, h3⟩ := isW_nat h
    exact ev_pos h (ev_bind (impl_reflectedRank_ev q (by have := pow_le_1024 h2; omega)) (ev_some rfl))
  · rw [if_neg h]
    exact ev_neg h (ev_some rfl)
theorem spec_gcBit_ev (a b : Nat) (ha : a < 1024) (hb : b < 1024) : Ev (fun k => spec_gcBit.f k (a : Int) (b : Int)) (bitOf (a ^^^ b)) := by
  have hx : a ^^^ b < 1024 := Nat.xor_lt_two_pow (n := 10) ha hb
  have hxx : Go.bits .xor .i64 (a : Int) (b : Int) = ((a ^^^ b : Nat) : Int) := xor_nat (by omega) (by omega)
  have t : ∀ x : Fin 1024, ∀ i : Fin 10, (((x.1 : Nat) : Int) = shl .i64 1 (i.1 : Int)) = (x.1 = 2 ^ i.1) := by
    intro x i
    have t2 : ∀ i : Fin 10, shl .i64 1 (i.1 : Int) = ((2 ^ i.1 : Nat) : Int) := by decide +kernel
    rw [t2 i]
    exact propext ⟨fun h => by exact_mod_cast h, fun h => by rw [h]⟩
  have key : ∀ d i : Nat, i + d = 10 → (∀ j, j < i → a ^^^ b ≠ 2 ^ j) → Ev (fun k => spec_gcBit.l0 k (a : Int) (b : Int) (i : Int)) (bitOf (a ^^^ b)) := by
    intro d
    induction d with
    | zero =>
      intro i hi hn
      refine ev_shift ?_
      simp only [spec_gcBit.l0]
      refine ev_neg (by omega) (ev_some ?_)
      rcases bitOf_cases hx with h | ⟨j, hj, _, he⟩
      · exact h.1.symm
      · exact absurd he (hn j (by omega))
    | succ d ih =>
      intro i hi hn
      have e1 : wrap64 ((i : Int) + 1) = ((i + 1 : Nat) : Int) := by rw [w64 (by omega) (by omega)]; omega
      refine ev_shift ?_
      simp only [spec_gcBit.l0, hxx, e1]
      refine ev_pos (by omega) (ev_pos (by omega) ?_)
      by_cases he : a ^^^ b = 2 ^ i
      · refine ev_pos (by rw [t ⟨_, hx⟩ ⟨i, by omega⟩]; exact he) (ev_some ?_)
        rw [he]; exact (bitOf_pow (by omega)).symm
      · refine ev_neg (by rw [t ⟨_, hx⟩ ⟨i, by omega⟩]; exact he) (ih (i + 1) (by omega) (fun j hj => ?_))
        by_cases e : j = i
        · subst e; exact he
        · exact hn j (by omega)
  exact key 10 0 rfl (fun j hj => by omega)
theorem u64_nat (x : Nat) (h : x < 1000000) : IntKind.u64.wrap (wrap64 (x : Int)) = (x : Int) := by
  rw [w64 (by omega) (by omega)]
  have : IntKind.u64.wrap (x : Int) = (x : Int) % 18446744073709551616 := by simp [IntKind.wrap, IntKind.bits, IntKind.signed]
  rw [this]; omega
theorem tz_eq (x : Nat) (h : x < 1000000) : bits_TrailingZeros.f (x : Int) = some (Lib.ctz 64 x : Int) := by
  unfold bits_TrailingZeros.f
  rw [if_pos ⟨by omega, by omega⟩, Int.toNat_natCast]
theorem rk_nat {m q : Nat} (h2 : m ≤ 10) (h3 : q < 2 ^ m) : ∃ p : Nat, rkLoop 20 (q : Int) 0 = (p : Int) ∧ p < 2 ^ m ∧ gray p = (q : Int) := by
  have h := rk_lt h2 h3
  have hp := pow_le_1024 h2
  obtain ⟨p, hp2⟩ := Int.eq_ofNat_of_zero_le h.1
  have g := gray_rk ⟨q, by omega⟩
  simp only [hp2, Int.toNat_natCast] at g
  refine ⟨p, hp2, ?_, g⟩
  have := h.2
  rw [hp2] at this
  have e : ((2 ^ m : Nat) : Int) = (2 : Int) ^ m := by simp
  omega
theorem spec_NextReflected_ev (n r : Int) : Ev (fun k => spec_NextReflected.f k n r) (nxR n r) := by
  have bad : ¬ isW n r = true → Ev (fun k => spec_NextReflected.j0 k n r true) (nxR n r) := by
    intro h
    unfold nxR
    rw [if_neg h]
    refine ev_shift ?_
    simp only [spec_NextReflected.j0]
    exact ev_pos (by trivial) (ev_some rfl)
  unfold spec_NextReflected.f
  refine ev_bind0 (spec_gcBits_eq _) ?_
  by_cases hn : inR n 1 10 = true
  · have hn' := inR_iff.1 hn
    refine ev_pos hn (ev_bind0 (spec_gcWord_eq n r (by omega)) ?_)
    by_cases hw : inR r 0 (top n) = true
    · have h : isW n r = true := by simp [isW, hn, hw]
      unfold nxR
      rw [if_pos h, hw]
      obtain ⟨m, q, rfl, rfl, h1, h2, h3⟩ := isW_nat h
      have hp := pow_le_1024 h2
      obtain ⟨p, e1, e2, e3⟩ := rk_nat h2 h3
      have hlen := grL_length h2
      have epow : ((2 ^ m : Nat) : Int) = (2 : Int) ^ m := by simp
      have ew : wrap64 ((p : Int) + 1) = ((p + 1 : Nat) : Int) := by rw [w64 (by omega) (by omega)]; omega
      refine ev_shift ?_
      simp only [spec_NextReflected.j0]
      refine ev_neg (by simp) (ev_bind (spec_gcList_ev m h2) (ev_bind (spec_gcPlace_ev m q h2 h3) ?_))
      rw [e1, ew, hlen, Int.toNat_natCast, Int.toNat_natCast]
      by_cases hl : p + 1 = 2 ^ m
      · refine ev_pos (by omega) (ev_some ?_)
        rw [if_pos (by omega)]
      · have hr := grL_rd h2 (show p + 1 < 2 ^ m by omega)
        have hg := gray_lt h2 (show p + 1 < 2 ^ m by omega)
        have ht := (next_table ⟨p, by omega⟩).2
        simp only [e3, Int.toNat_natCast] at ht
        obtain ⟨g, hg2⟩ := Int.eq_ofNat_of_zero_le hg.1
        have hgl : g < 1024 := by have := hg.2; rw [hg2] at this; omega
        refine ev_neg (by omega) (ev_pos (by omega) (ev_pos (by omega) ?_))
        rw [hr, hg2]
        rw [hg2, Int.toNat_natCast] at ht
        refine ev_bind (spec_gcBit_ev q g (by omega) hgl) (ev_some ?_)
        rw [if_neg (by omega), ht]
    · simp only [Bool.not_eq_true] at hw
      rw [hw]
      exact bad (fun c => by have := (isW_iff.1 c).2; rw [← inR_iff, hw] at this; cases this)
  · exact ev_neg hn (bad (fun c => hn (inR_iff.2 (isW_iff.1 c).1)))
theorem impl_NextReflected_ev (n r : Int) : Ev (fun k => impl_NextReflected.f k n r) (nxR n r) := by
  unfold impl_NextReflected.f nxR
  refine ev_bind0 (impl_isWord_eq _ _) ?_
  by_cases h : isW n r = true
  · rw [if_pos h]
    obtain ⟨m, q, rfl, rfl, h1, h2, h3⟩ := isW_nat h
    have hp := pow_le_1024 h2
    obtain ⟨p, e1, e2, e3⟩ := rk_nat h2 h3
    have epow : ((2 ^ m : Nat) : Int) = (2 : Int) ^ m := by simp
    have hrk := impl_reflectedRank_ev q (by omega)
    rw [e1] at hrk ⊢
    refine ev_pos h (ev_bind hrk (ev_pos (by omega) ?_))
    rw [shl_pow (by omega), w64 (by omega) (by omega)]
    refine ev_shift ?_
    simp only [impl_NextReflected.j0, Int.toNat_natCast]
    by_cases hl : p + 1 = 2 ^ m
    · refine ev_pos (by rw [beq_iff_eq]; omega) (ev_some ?_)
      rw [if_pos (by omega)]
    · have ht := (next_table ⟨p, by omega⟩).1
      simp only [e3] at ht
      refine ev_neg (by rw [beq_iff_eq]; omega) (ev_bind hrk ?_)
      rw [show (p : Int) + 1 = ((p + 1 : Nat) : Int) by omega, u64_nat _ (by omega)]
      refine ev_bind0 (tz_eq _ (by omega)) (ev_pos (by omega) (ev_some ?_))
      rw [if_neg (by omega), ht]
  · rw [if_neg h]
    refine ev_neg h (ev_shift ?_)
    simp only [impl_NextReflected.j0]
    exact ev_pos (by trivial) (ev_some rfl)
theorem refl_table : ∀ r : Fin 1023, Go.bits .xor .i64 (gray r.1) (gray (r.1 + 1)) = shl .i64 1 (Lib.ctz 64 (r.1 + 1) : Int) := by decide +kernel
theorem gray_of : ∀ r : Fin 1024, Go.bits .xor .i64 (r.1 : Int) ((r.1 : Int) / 2) = gray r.1 := by decide +kernel
theorem top_pow {m : Nat} (h : m ≤ 10) : top (m : Int) + 1 = ((2 ^ m : Nat) : Int) := (show ∀ n : Fin 11, top (n.1 : Int) + 1 = ((2 ^ n.1 : Nat) : Int) by decide +kernel) ⟨m, by omega⟩
theorem nxR_last {q p : Nat} {w : Int} (hw : isW (q : Int) w = true) (hrk : rkLoop 20 w 0 = (p : Int)) (hl : p + 1 = 2 ^ q) : nxR (q : Int) w = (0, 0, false) := by
  have h : (p : Int) + 1 = 2 ^ (q : Int).toNat := by rw [Int.toNat_natCast]; exact_mod_cast hl
  unfold nxR
  rw [if_pos hw, hrk, if_pos h]
theorem nxR_next {q p : Nat} {w : Int} (hw : isW (q : Int) w = true) (hrk : rkLoop 20 w 0 = (p : Int)) (hl : p + 1 ≠ 2 ^ q) : nxR (q : Int) w = (gray (p + 1), (Lib.ctz 64 (p + 1) : Int), true) := by
  have h : ¬ (p : Int) + 1 = 2 ^ (q : Int).toNat := by rw [Int.toNat_natCast]; intro c; exact hl (by exact_mod_cast c)
  unfold nxR
  rw [if_pos hw, hrk, if_neg h, Int.toNat_natCast]
theorem laws_FnReflected_j1_ev {m : List Int} (hm : wfB m) : Ev (fun k => laws_FnReflected.j1 k m) true := by
  obtain ⟨n, r, e⟩ := dr_NextReflected hm
  refine ev_shift ?_
  simp only [laws_FnReflected.j1]
  exact ev_bind e (ev_bind (impl_NextReflected_ev n r) (ev_bind (spec_NextReflected_ev n r) (ev_bind (impl_ReflectedRank_ev n r) (ev_bind (spec_ReflectedRank_ev n r) (ev_pos (by simp) (ev_pos rfl (ev_pos rfl (ev_pos (by simp) (ev_some (by simp))))))))))
theorem gray_of' {p : Nat} (h : p < 1024) : Go.bits .xor .i64 (p : Int) ((p : Int) / 2) = gray p := gray_of ⟨p, h⟩
theorem rk_gray' {p : Nat} (h : p < 1024) : rkLoop 20 (gray p) 0 = (p : Int) := rk_gray ⟨p, h⟩
theorem refl_table' {p : Nat} (h : p < 1023) : Go.bits .xor .i64 (gray p) (gray (p + 1)) = shl .i64 1 (Lib.ctz 64 (p + 1) : Int) := refl_table ⟨p, h⟩
theorem refAt_in {q p : Nat} (h1 : 1 ≤ q) (h2 : q ≤ 10) (h3 : p < 2 ^ q) : refAt (q : Int) (p : Int) = (gray p, true) := by
  have hp := pow_le_1024 h2
  have htop := top_pow h2
  have h : isW (q : Int) (p : Int) = true := isW_iff.2 ⟨⟨by omega, by omega⟩, by omega, by omega⟩
  unfold refAt; rw [if_pos h, gray_of' (by omega)]
theorem refAt_out {q p : Nat} (h2 : q ≤ 10) (h3 : p = 2 ^ q) : refAt (q : Int) (p : Int) = (0, false) := by
  have htop := top_pow h2
  have h : ¬ isW (q : Int) (p : Int) = true := fun c => by have := (isW_iff.1 c).2.2; omega
  unfold refAt; rw [if_neg h]
theorem isW_gray {q p : Nat} (h1 : 1 ≤ q) (h2 : q ≤ 10) (h3 : p < 2 ^ q) : isW (q : Int) (gray p) = true := by
  have hg := gray_lt h2 h3
  have htop := top_pow h2
  have epow : ((2 ^ q : Nat) : Int) = (2 : Int) ^ q := by simp
  exact isW_iff.2 ⟨⟨by omega, by omega⟩, hg.1, by omega⟩
theorem laws_FnReflected_in {m : List Int} (hm : wfB m) (q p : Nat) (h1 : 1 ≤ q) (h2 : q ≤ 10) (h3 : p < 2 ^ q) : Ev (fun k => laws_FnReflected.j0 k m (q : Int) (p : Int) (gray p) true false) true := by
  have hj := laws_FnReflected_j1_ev hm
  have hp := pow_le_1024 h2
  have hw := isW_gray h1 h2 h3
  have hrk := rk_gray' (show p < 1024 by omega)
  have e2 : refRk (q : Int) (gray p) = ((p : Int), true) := by
    unfold refRk; rw [if_pos hw, hrk]
  have e3 : wrap64 ((p : Int) + 1) = ((p + 1 : Nat) : Int) := by rw [w64 (by omega) (by omega)]; omega
  have i1 := impl_ReflectedRank_ev (q : Int) (gray p)
  have i2 := impl_NextReflected_ev (q : Int) (gray p)
  have i3 := impl_ReflectedAt_eq (q : Int) ((p + 1 : Nat) : Int)
  rw [e2] at i1
  refine ev_shift ?_
  simp only [laws_FnReflected.j0, e3]
  by_cases hl : p + 1 = 2 ^ q
  · rw [nxR_last hw hrk hl] at i2
    rw [refAt_out h2 hl] at i3
    exact ev_neg (by simp) (ev_pos trivial (ev_bind i1 (ev_bind i2 (ev_bind0 i3 (ev_pos rfl (ev_pos rfl (ev_neg (by simp) (ev_pos rfl (ev_neg (by simp) hj)))))))))
  · rw [nxR_next hw hrk hl] at i2
    rw [refAt_in h1 h2 (by omega)] at i3
    have e6 := refl_table' (show p < 1023 by omega)
    clear e2 hrk hw
    generalize gray (p + 1) = g at e6 i2 i3
    generalize Lib.ctz 64 (p + 1) = z at e6 i2
    generalize gray p = g0 at e6 i1 i2 ⊢
    exact ev_neg (by simp) (ev_pos trivial (ev_bind i1 (ev_bind i2 (ev_bind0 i3 (ev_pos rfl (ev_pos rfl (ev_neg (by simp) (ev_pos rfl (ev_pos rfl (ev_pos (Int.natCast_nonneg z) (ev_pos e6 hj)))))))))))
theorem FnReflected : laws_FnReflected.Pure := by
  intro c m hc1 hc2 hc hm1 hm2 hm
  apply ev_le
  unfold laws_FnReflected.f
  rcases laws_big_eq c m hc hm (by omega) with hb | ⟨hb, wc, wm⟩
  · exact ev_bind0 hb (ev_pos rfl (ev_some rfl))
  refine ev_bind0 hb (ev_neg (by decide) ?_)
  obtain ⟨n, r, e⟩ := dr_ReflectedAt wc
  refine ev_bind0 e (ev_bind0 (impl_ReflectedAt_eq n r) (ev_bind (spec_ReflectedAt_ev n r) (ev_neg neq_self ?_)))
  by_cases h : isW n r = true
  · obtain ⟨q, p, rfl, rfl, h1, h2, h3⟩ := isW_nat h
    rw [refAt_in h1 h2 h3]
    have := laws_FnReflected_in wm q p h1 h2 h3
    simpa only [bne_self_eq_false] using this
  · have e1 : refAt n r = (0, false) := by unfold refAt; rw [if_neg h]
    have hj := laws_FnReflected_j1_ev wm
    rw [e1]
    refine ev_shift ?_
    simp only [laws_FnReflected.j0]
    exact ev_neg (by simp) (ev_neg (by simp) hj)

end Go.Proofs.YtnhifbopicjicaaDoor.Pure
