/- The law FnPathsThroughWords returns true for every two lists of bytes (reach as the row says); no condition of ours. -/
import Derived.Test.YtnhifbopicjicaaDoorQFnPathsThroughWordsx8
import Derived.Test.YtnhifbopicjicaaDoorMth
import Derived.Test.YtnhifbopicjicaaDoorMthCode
import Derived.Test.YtnhifbopicjicaaDoorMthDeltas
import Derived.Test.YtnhifbopicjicaaDoorMthPath
import Derived.Test.YtnhifbopicjicaaDoorMthPop
set_option linter.unusedVariables false
set_option linter.unusedSimpArgs false
namespace Go.Proofs.YtnhifbopicjicaaDoor.Pure
open Go.RowKit Go.Proofs.YtnhifbopicjicaaDoor.Mth Go.Proofs.YtnhifbopicjicaaDoor.PFnPathsThroughWords Go.Proofs.YtnhifbopicjicaaDoorW.PrintWords Go.Proofs.YtnhifbopicjicaaDoorW.PrintLast

theorem wrapU (n : Int) : IntKind.u64.wrap n = n % 18446744073709551616 := by simp [IntKind.wrap, IntKind.bits, IntKind.signed]
def wfB (c : List Int) : Prop := c.length ≤ 1048576 ∧ ∀ x ∈ c, 0 ≤ x ∧ x ≤ 255
theorem wfB_of {c : List Int} (h0 : c.length ≤ 1048576) (h : ∀ x ∈ c, (Lit.int .u8 x).wf = true) : wfB c := by
 refine ⟨h0, fun x hx => ?_⟩
 have := h x hx
 simp only [Lit.wf, Bool.and_eq_true, decide_eq_true_eq] at this
 have e0 : IntKind.min .u8 = 0 := by decide
 have e1 : IntKind.max .u8 = 255 := by decide
 omega
theorem byte_of (x : Int) : 0 ≤ wrap64 (Go.bits .and .u64 ((IntKind.u64.wrap x) / 1099511627776) 255) ∧ wrap64 (Go.bits .and .u64 ((IntKind.u64.wrap x) / 1099511627776) 255) ≤ 255 := by
 have h1 : 0 ≤ IntKind.u64.wrap x / 1099511627776 ∧ IntKind.u64.wrap x / 1099511627776 < 2 ^ 24 := by rw [wrapU]; omega
 have h2 := Go.bits_mask .u64 24 (by decide) (fun n a b => by rw [wrapU]; omega) 8 (by decide) _ h1.1 h1.2
 have h3 : Go.bits .and .u64 ((IntKind.u64.wrap x) / 1099511627776) 255 = (IntKind.u64.wrap x) / 1099511627776 % 2 ^ 8 := h2
 rw [h3, w64 (by omega) (by omega)]
 omega
theorem dr_next {c : List Int} (hc : wfB c) {a : Int} (s : Int) (h0 : 0 ≤ a) (h1 : a ≤ 4000000000000000000) : ∃ r s', spec_l1Cur_next.f c a s = some (r, a + 1, s') ∧ 0 ≤ r ∧ r ≤ 255 := by
 have hl := hc.1
 unfold spec_l1Cur_next.f
 have e : wrap64 (a + 1) = a + 1 := w64 (by omega) (by omega)
 rw [e]
 by_cases h : a < (c.length : Int)
 ·rw [if_pos h, if_pos h0, if_pos (by omega)]
  obtain ⟨n, rfl⟩ := Int.eq_ofNat_of_zero_le h0
  have hm := hc.2 _ (rd_mem (l := c) (j := n) (by omega))
  exact ⟨_, _, rfl, by rw [w64 (by omega) (by omega)]; omega, by rw [w64 (by omega) (by omega)]; omega⟩
 ·rw [if_neg h, if_neg (by omega)]
  exact ⟨_, _, rfl, (byte_of _).1, (byte_of _).2⟩
theorem dr_pick {c : List Int} (hc : wfB c) {a : Int} (s n : Int) (h0 : 0 ≤ a) (h1 : a ≤ 3999999999999999999) : ∃ r a' s', spec_l1Cur_pick.f c a s n = some (r, a', s') ∧ a ≤ a' ∧ a' ≤ a + 2 ∧ 0 ≤ r ∧ (n ≤ 1 → r = 0) ∧ (1 < n → r < n) := by
 unfold spec_l1Cur_pick.f
 by_cases hn : n ≤ 1
 ·rw [if_pos hn]
  exact ⟨0, a, s, rfl, by omega, by omega, by omega, fun _ => rfl, fun h => by omega⟩
 ·rw [if_neg hn]
  obtain ⟨x, s1, e1, x0, x1⟩ := dr_next hc s h0 (by omega)
  rw [e1]
  simp only [Option.bind_some]
  by_cases hb : n > 200
  ·rw [if_pos hb]
   obtain ⟨y, s2, e2, y0, y1⟩ := dr_next hc s1 (a := a + 1) (by omega) (by omega)
   rw [e2]
   simp only [Option.bind_some]
   rw [if_neg (by omega), w64 (x := x * 256) (by omega) (by omega), w64 (by omega) (by omega)]
   rw [Int.tmod_eq_emod_of_nonneg (by omega)]
   have g0 := Int.emod_nonneg (x * 256 + y) (b := n) (by omega)
   have g1 := Int.emod_lt_of_pos (x * 256 + y) (b := n) (by omega)
   exact ⟨_, _, _, rfl, by omega, by omega, g0, fun h => by omega, fun _ => g1⟩
  ·rw [if_neg hb, if_neg (by omega)]
   rw [Int.tmod_eq_emod_of_nonneg (by omega)]
   have g0 := Int.emod_nonneg x (b := n) (by omega)
   have g1 := Int.emod_lt_of_pos x (b := n) (by omega)
   exact ⟨_, _, _, rfl, by omega, by omega, g0, fun h => by omega, fun _ => g1⟩
theorem laws_big_eq (c m : List Int) (hc : ∀ x ∈ c, (Lit.int .u8 x).wf = true) (hm : ∀ x ∈ m, (Lit.int .u8 x).wf = true) (hl : c.length ≤ 9000000000000000000) : laws_big.f c m = some true ∨ (laws_big.f c m = some false ∧ wfB c ∧ wfB m) := by
 unfold laws_big.f
 by_cases h : (c.length : Int) > 1048576
 ·exact .inl (if_pos h)
 ·rw [if_neg h, w64 (by omega) (by omega)]
  by_cases h2 : (m.length : Int) > 1048576 - (c.length : Int)
  ·rw [decide_eq_true h2]; exact .inl rfl
  ·rw [decide_eq_false h2]; exact .inr ⟨rfl, wfB_of (by omega) hc, wfB_of (by omega) hm⟩
theorem dr_among {c : List Int} (hc : wfB c) {a : Int} (s : Int) (l : List Int) (hl : 0 < l.length) (h0 : 0 ≤ a) (h1 : a ≤ 3999999999999999999) : ∃ r a' s', spec_l1Cur_among.f c a s l = some (r, a', s') ∧ a ≤ a' ∧ a' ≤ a + 2 ∧ r ∈ l := by
 unfold spec_l1Cur_among.f
 obtain ⟨r, a', s', e, h2, h3, h4, h5, h6⟩ := dr_pick hc s (l.length : Int) h0 h1
 rw [e]
 simp only [Option.bind_some]
 have hr : r < (l.length : Int) := by
  by_cases h : (l.length : Int) ≤ 1
  ·have := h5 h; omega
  ·exact h6 (by omega)
 rw [if_pos h4, if_pos hr]
 obtain ⟨n, rfl⟩ := Int.eq_ofNat_of_zero_le h4
 exact ⟨_, _, _, rfl, h2, h3, rd_mem (by omega)⟩
theorem dr_one {c : List Int} (hc : wfB c) {a : Int} (s n : Int) (h0 : 0 ≤ a) (h1 : a ≤ 3999999999999999999) : ∃ r a' s', spec_l1Cur_one.f c a s n = some (r, a', s') ∧ a ≤ a' ∧ a' ≤ a + 2 := by
 unfold spec_l1Cur_one.f
 obtain ⟨r, a', s', e, h2, h3, _⟩ := dr_pick hc s n h0 h1
 rw [e]
 exact ⟨_, _, _, rfl, h2, h3⟩
theorem dr_bits2 {c : List Int} (hc : wfB c) {a : Int} (s n : Int) (hn : 1 ≤ n) (hn1 : n ≤ 1000) (h0 : 0 ≤ a) (h1 : a ≤ 3999999999999999000) : ∃ r a' s', spec_l1Cur_bits2.f c a s n = some (r, a', s') ∧ a ≤ a' ∧ a' ≤ a + 4 ∧ -1 ≤ r ∧ (r ≤ 11 ∨ r ≤ n) := by
 unfold spec_l1Cur_bits2.f
 obtain ⟨x, a1, s1, e1, u2, u3⟩ := dr_one hc s 15 h0 (by omega)
 rw [e1, Option.bind_some]
 dsimp only
 by_cases hx : x = true
 ·rw [if_pos hx]
  obtain ⟨r, a2, s2, e2, g2, g3, g4⟩ := dr_among hc s1 [-1, 0, 10, 11] (by simp) (a := a1) (by omega) (by omega)
  rw [e2]
  simp only [List.mem_cons, List.not_mem_nil, or_false] at g4
  exact ⟨_, _, _, rfl, by dsimp only; omega, by dsimp only; omega, by dsimp only; omega, by dsimp only; omega⟩
 ·rw [if_neg hx]
  obtain ⟨y, a2, s2, e2, v2, v3, v4, v5, v6⟩ := dr_pick hc s1 n (a := a1) (by omega) (by omega)
  rw [e2, Option.bind_some]
  dsimp only
  have hy : y < n := by
   by_cases h : n ≤ 1
   ·have := v5 h; omega
   ·exact v6 (by omega)
  rw [w64 (by omega) (by omega)]
  exact ⟨_, _, _, rfl, by omega, by omega, by omega, by omega⟩
theorem spec_l1Has_ev (l : List Int) (x : Int) (hl : l.length ≤ 9000000000000000000) : Ev (fun k => spec_l1Has.f k l x) (l.contains x) := by
 refine range_all hl (fun pre suf => Ev (fun k => spec_l1Has.l0 k x l (l.length : Int) (pre.length : Int)) (suf.contains x)) ?_ ?_
 ·refine ev_shift ?_
  simp only [spec_l1Has.l0]
  exact ev_neg (by omega) (ev_some rfl)
 ·intro pre y suf h hx h1 h2 h3 ih
  refine ev_shift ?_
  simp only [spec_l1Has.l0, hx, h3]
  refine ev_pos h1 (ev_pos h2 (ev_pos h1 ?_))
  by_cases e : y = x
  ·exact ev_pos e (ev_some (by simp [e]))
  ·refine ev_neg e ?_
   have : (y :: suf).contains x = suf.contains x := by simp [Ne.symm e]
   rw [this]; exact ih
theorem dr_path_loop {c : List Int} (hc : wfB c) (n : Int) : ∀ (K : Nat) (l : List Int) (w a s : Int), 0 ≤ a → a + 10 * K ≤ 1000000 → l.length + K ≤ 100 → ∃ n' l', Ev (fun k => spec_DrawPathThrough.l0 k n l w (K : Int) c a s) (n', l') ∧ l'.length ≤ 100 := by
 intro K
 induction K with
 | zero =>
  intro l w a s h0 h1 h2
  obtain ⟨b, a1, s1, e1, _, _⟩ := dr_one hc s 3 h0 (by omega)
  by_cases hb : b = true
  ·refine ⟨4, l, ev_shift ?_, by omega⟩
   simp only [spec_DrawPathThrough.l0]
   exact ev_neg (by decide) (ev_bind0 e1 (ev_pos hb (ev_some rfl)))
  ·refine ⟨n, l, ev_shift ?_, by omega⟩
   simp only [spec_DrawPathThrough.l0]
   exact ev_neg (by decide) (ev_bind0 e1 (ev_neg hb (ev_some rfl)))
 | succ K ih =>
  intro l w a s h0 h1 h2
  have eK : wrap64 (((K + 1 : Nat) : Int) - 1) = (K : Int) := by rw [w64 (by omega) (by omega)]; omega
  have hj : ∀ (w' a' s' : Int), 0 ≤ a' → a' ≤ a + 4 → ∃ n' l', Ev (fun k => spec_DrawPathThrough.j1 k n l w' ((K + 1 : Nat) : Int) c a' s') (n', l') ∧ l'.length ≤ 100 := by
   intro w' a' s' g0 g1
   obtain ⟨r, a2, s2, e2, u1, u2, u3, _⟩ := dr_pick hc s' 4 g0 (by omega)
   by_cases hm : l.contains (Go.bits .xor .i64 w' (shl .i64 1 r)) = true
   ·obtain ⟨b, a3, s3, e3, v1, v2⟩ := dr_one hc s2 30 (a := a2) (by omega) (by omega)
    by_cases hb : b = true
    ·obtain ⟨n', l', h3, h4⟩ := ih (l ++ [Go.bits .xor .i64 w' (shl .i64 1 r)]) (Go.bits .xor .i64 w' (shl .i64 1 r)) a3 s3 (by omega) (by omega) (by simp; omega)
     refine ⟨n', l', ev_shift ?_, h4⟩
     simp only [spec_DrawPathThrough.j1, eK]
     exact ev_bind0 e2 (ev_pos u3 (ev_bind (spec_l1Has_ev l _ (by omega)) (ev_pos hm (ev_bind0 e3 (ev_pos hb (ev_pos (by omega) h3))))))
    ·obtain ⟨n', l', h3, h4⟩ := ih l (Go.bits .xor .i64 w' (shl .i64 1 r)) a3 s3 (by omega) (by omega) (by omega)
     refine ⟨n', l', ev_shift ?_, h4⟩
     simp only [spec_DrawPathThrough.j1, eK]
     exact ev_bind0 e2 (ev_pos u3 (ev_bind (spec_l1Has_ev l _ (by omega)) (ev_pos hm (ev_bind0 e3 (ev_neg hb h3)))))
   ·obtain ⟨n', l', h3, h4⟩ := ih (l ++ [Go.bits .xor .i64 w' (shl .i64 1 r)]) (Go.bits .xor .i64 w' (shl .i64 1 r)) a2 s2 (by omega) (by omega) (by simp; omega)
    refine ⟨n', l', ev_shift ?_, h4⟩
    simp only [spec_DrawPathThrough.j1, eK]
    exact ev_bind0 e2 (ev_pos u3 (ev_bind (spec_l1Has_ev l _ (by omega)) (ev_neg hm (ev_pos (by omega) h3))))
  obtain ⟨b, a1, s1, e1, t1, t2⟩ := dr_one hc s 5 h0 (by omega)
  by_cases hb : b = true
  ·obtain ⟨x, a2, s2, e2, u1, u2, _⟩ := dr_pick hc s1 16 (a := a1) (by omega) (by omega)
   obtain ⟨n', l', h3, h4⟩ := hj x a2 s2 (by omega) (by omega)
   refine ⟨n', l', ev_shift ?_, h4⟩
   simp only [spec_DrawPathThrough.l0]
   exact ev_pos (by omega) (ev_bind0 e1 (ev_pos hb (ev_bind0 e2 h3)))
  ·obtain ⟨n', l', h3, h4⟩ := hj w a1 s1 (by omega) (by omega)
   refine ⟨n', l', ev_shift ?_, h4⟩
   simp only [spec_DrawPathThrough.l0]
   exact ev_pos (by omega) (ev_bind0 e1 (ev_neg hb h3))
theorem dr_PathThrough {c : List Int} (hc : wfB c) : ∃ n l, Ev (fun k => spec_DrawPathThrough.f k c) (n, l) ∧ l.length ≤ 100 := by
 unfold spec_DrawPathThrough.f
 obtain ⟨n, a1, s1, e1, g1, g2, _⟩ := dr_bits2 hc (a := 0) 0 4 (by omega) (by omega) (by omega) (by omega)
 obtain ⟨w, a2, s2, e2, h1, h2, _⟩ := dr_pick hc s1 16 (a := a1) (by omega) (by omega)
 obtain ⟨m, a3, s3, e3, i1, i2, i3⟩ := dr_among hc s2 [4, 8, 13] (by simp) (a := a2) (by omega) (by omega)
 obtain ⟨q, a4, s4, e4, j1, j2, j3, j4, j5⟩ := dr_pick hc s3 m (a := a3) (by omega) (by omega)
 simp only [List.mem_cons, List.not_mem_nil, or_false] at i3
 obtain ⟨K, rfl⟩ := Int.eq_ofNat_of_zero_le j3
 have hK : K ≤ 13 := by
  have := j5 (by omega)
  omega
 obtain ⟨n', l', h3, h4⟩ := dr_path_loop hc n K [] w a4 s4 (by omega) (by omega) (by simp; omega)
 exact ⟨n', l', ev_bind0 e1 (ev_bind0 e2 (ev_bind0 e3 (ev_bind0 e4 h3))), h4⟩
theorem spec_gcBit_ev (a b : Nat) (ha : a < 1024) (hb : b < 1024) : Ev (fun k => spec_gcBit.f k (a : Int) (b : Int)) (bitOf (a ^^^ b)) := by
 have hx : a ^^^ b < 1024 := Nat.xor_lt_two_pow (n := 10) ha hb
 have hxx : Go.bits .xor .i64 (a : Int) (b : Int) = ((a ^^^ b : Nat) : Int) := xor_nat (by omega) (by omega)
 have t : ∀ x : Fin 1024, ∀ i : Fin 10, (((x.1 : Nat) : Int) = shl .i64 1 (i.1 : Int)) = (x.1 = 2 ^ i.1) := by
  intro x i
  have t2 : ∀ i : Fin 10, shl .i64 1 (i.1 : Int) = ((2 ^ i.1 : Nat) : Int) := by decide +kernel
  rw [t2 i]
  exact propext ⟨fun h => by exact_mod_cast h, fun h => by rw [h]⟩
 have key : ∀ d i : Nat, i + d = 10 → (∀ j, j < i → a ^^^ b ≠ 2 ^ j) → Ev (fun k => spec_gcBit.l0 k (a : Int) (b : Int) (i : Int)) (bitOf (a ^^^ b)) := by
  intro d
  induction d with
  | zero =>
   intro i hi hn
   refine ev_shift ?_
   simp only [spec_gcBit.l0]
   refine ev_neg (by omega) (ev_some ?_)
   rcases bitOf_cases hx with h | ⟨j, hj, _, he⟩
   ·exact h.1.symm
   ·exact absurd he (hn j (by omega))
  | succ d ih =>
   intro i hi hn
   have e1 : wrap64 ((i : Int) + 1) = ((i + 1 : Nat) : Int) := by rw [w64 (by omega) (by omega)]; omega
   refine ev_shift ?_
   simp only [spec_gcBit.l0, hxx, e1]
   refine ev_pos (by omega) (ev_pos (by omega) ?_)
   by_cases he : a ^^^ b = 2 ^ i
   ·refine ev_pos (by rw [t ⟨_, hx⟩ ⟨i, by omega⟩]; exact he) (ev_some ?_)
    rw [he]; exact (bitOf_pow (by omega)).symm
   ·refine ev_neg (by rw [t ⟨_, hx⟩ ⟨i, by omega⟩]; exact he) (ih (i + 1) (by omega) (fun j hj => ?_))
    by_cases e : j = i
    ·subst e; exact he
    ·exact hn j (by omega)
 exact key 10 0 rfl (fun j hj => by omega)
theorem spec_l1In_eq (a b c : Int) : spec_l1In.f a b c = some (inR a b c) := in_ite a b c
theorem spec_gcBits_eq (a : Int) : spec_gcBits.f a = some (inR a 1 10) := by simp only [spec_gcBits.f, spec_l1In_eq, Option.bind_some]
theorem spec_l1All_ev (l : List Int) (lo hi : Int) (hl : l.length ≤ 9000000000000000000) : Ev (fun k => spec_l1All.f k l lo hi) (allIn l lo hi) := by
 refine range_all hl (fun pre suf => Ev (fun k => spec_l1All.l0 k lo hi l (l.length : Int) (pre.length : Int)) (allIn suf lo hi)) ?_ ?_
 ·refine ev_shift ?_
  simp only [spec_l1All.l0]
  exact ev_neg (by omega) (ev_some rfl)
 ·intro pre x suf h hx h1 h2 h3 ih
  refine ev_shift ?_
  simp only [spec_l1All.l0, hx, h3, spec_l1In_eq, Option.bind_some, allIn_cons]
  refine ev_pos h1 (ev_pos h2 (ev_pos h1 ?_))
  cases inR x lo hi with
  | true => exact ev_pos rfl ih
  | false => exact ev_neg (by simp) (ev_some rfl)
theorem spec_gcWords_ev (n : Int) (l : List Int) (hl : l.length ≤ 9000000000000000000) : Ev (fun k => spec_gcWords.f k n l) (areW n l) := by
 unfold spec_gcWords.f areW
 refine ev_bind0 (spec_gcBits_eq _) ?_
 by_cases h : inR n 1 10 = true
 ·have h' := inR_iff.1 h
  refine ev_pos h ?_
  rw [h, Bool.true_and]
  by_cases hlen : (l.length : Int) ≤ 1100
  ·refine ev_pos hlen (ev_pos (by omega) (ev_bind (spec_l1All_ev l 0 _ hl) (ev_some ?_)))
   rw [decide_eq_true hlen, Bool.true_and]; rfl
  ·exact ev_neg hlen (ev_some (by rw [decide_eq_false hlen]; rfl))
 ·refine ev_neg h (ev_some ?_)
  simp only [Bool.not_eq_true] at h
  rw [h]; rfl
theorem impl_within_eq (a b c : Int) : impl_within.f a b c = some (inR a b c) := in_ite a b c
theorem impl_isBits_eq (a : Int) : impl_isBits.f a = some (inR a 1 10) := by simp only [impl_isBits.f, impl_within_eq, Option.bind_some]
theorem impl_allWithin_ev (l : List Int) (lo hi : Int) (hl : l.length ≤ 9000000000000000000) : Ev (fun k => impl_allWithin.f k l lo hi) (allIn l lo hi) := by
 refine range_all hl (fun pre suf => Ev (fun k => impl_allWithin.l0 k lo hi l (l.length : Int) (pre.length : Int)) (allIn suf lo hi)) ?_ ?_
 ·refine ev_shift ?_
  simp only [impl_allWithin.l0]
  exact ev_neg (by omega) (ev_some rfl)
 ·intro pre x suf h hx h1 h2 h3 ih
  refine ev_shift ?_
  simp only [impl_allWithin.l0, hx, h3, impl_within_eq, Option.bind_some, allIn_cons]
  refine ev_pos h1 (ev_pos h2 (ev_pos h1 ?_))
  cases inR x lo hi with
  | true => exact ev_pos rfl ih
  | false => exact ev_neg (by simp) (ev_some rfl)
theorem impl_areWords_ev (n : Int) (l : List Int) (hl : l.length ≤ 9000000000000000000) : Ev (fun k => impl_areWords.f k n l) (areW n l) := by
 unfold impl_areWords.f areW
 refine ev_bind0 (impl_isBits_eq _) ?_
 by_cases h : inR n 1 10 = true
 ·have h' := inR_iff.1 h
  refine ev_pos h ?_
  rw [h, Bool.true_and]
  by_cases hlen : (l.length : Int) ≤ 1100
  ·refine ev_pos hlen (ev_pos (by omega) (ev_bind (impl_allWithin_ev l 0 _ hl) (ev_some ?_)))
   rw [decide_eq_true hlen, Bool.true_and]; rfl
  ·exact ev_neg hlen (ev_some (by rw [decide_eq_false hlen]; rfl))
 ·refine ev_neg h (ev_some ?_)
  simp only [Bool.not_eq_true] at h
  rw [h]; rfl
theorem u64_of (x : Nat) (h : x < 1000000) : IntKind.u64.wrap (x : Int) = (x : Int) := by
 have : IntKind.u64.wrap (x : Int) = (x : Int) % 18446744073709551616 := by simp [IntKind.wrap, IntKind.bits, IntKind.signed]
 rw [this]; omega
theorem tz_of (x : Nat) (h : x < 1000000) : bits_TrailingZeros.f (x : Int) = some (Lib.ctz 64 x : Int) := by
 unfold bits_TrailingZeros.f
 rw [if_pos ⟨by omega, by omega⟩, Int.toNat_natCast]
theorem oc_table : ∀ w : Fin 1024, bits_OnesCount.f (IntKind.u64.wrap (w.1 : Int)) = some (popc 10 w.1 : Int) := by decide +kernel
theorem spec_gcBit_int (a b : Int) (ha : 0 ≤ a ∧ a < 1024) (hb : 0 ≤ b ∧ b < 1024) : Ev (fun k => spec_gcBit.f k a b) (dl a b) := by
 obtain ⟨a, rfl⟩ := Int.eq_ofNat_of_zero_le ha.1
 obtain ⟨b, rfl⟩ := Int.eq_ofNat_of_zero_le hb.1
 exact spec_gcBit_ev a b (by omega) (by omega)
theorem impl_delta_int (a b : Int) (ha : 0 ≤ a ∧ a < 1024) (hb : 0 ≤ b ∧ b < 1024) : impl_delta.f a b = some (dl a b) := by
 obtain ⟨a, rfl⟩ := Int.eq_ofNat_of_zero_le ha.1
 obtain ⟨b, rfl⟩ := Int.eq_ofNat_of_zero_le hb.1
 have hx : a ^^^ b < 1024 := Nat.xor_lt_two_pow (n := 10) (by omega) (by omega)
 have hxx : Go.bits .xor .i64 (a : Int) (b : Int) = ((a ^^^ b : Nat) : Int) := xor_nat (by omega) (by omega)
 have h1 := oc_table ⟨a ^^^ b, hx⟩
 simp only at h1
 unfold impl_delta.f dl bitOf
 rw [hxx, h1, Int.toNat_natCast, Int.toNat_natCast, Option.bind_some, u64_of _ (by omega), tz_of _ (by omega)]
 by_cases hc : popc 10 (a ^^^ b) = 1
 ·rw [if_pos hc, if_pos (by omega)]; rfl
 ·rw [if_neg hc, if_neg (by omega)]
theorem impl_deltas_ev (l : List Int) (hr : ∀ x ∈ l, 0 ≤ x ∧ x < 1024) (hl : l.length ≤ 1000000) : Ev (fun k => impl_deltas.f k l) (pairR [] (dls l)) := by
 cases l with
 | nil =>
  unfold impl_deltas.f
  refine ev_shift ?_
  simp only [impl_deltas.l0]
  exact ev_neg (by simp) (ev_some rfl)
 | cons y r =>
  have key : ∀ suf pre, y :: r = pre ++ suf → ∀ q p out, pre = q ++ [p] → out.length = q.length → Ev (fun k => impl_deltas.l0 k (y :: r) out (pre.length : Int)) (pairR out (dlF p suf)) := by
   refine range_ind (l := y :: r) (by omega) (fun pre suf => ∀ q p out, pre = q ++ [p] → out.length = q.length → Ev (fun k => impl_deltas.l0 k (y :: r) out (pre.length : Int)) (pairR out (dlF p suf))) ?_ ?_
   ·intro q p out _ _
    refine ev_shift ?_
    simp only [impl_deltas.l0]
    exact ev_neg (by omega) (ev_some (by simp [pairR, dlF]))
   ·intro pre x suf h hx h1 h2 h3 ih q p out hq ho
    have hp := rd_prev q p (x :: suf) (by rw [← hq]; rw [h] at hl; simp at hl ⊢; omega)
    rw [← hq, ← h] at hp
    have hql : pre.length = q.length + 1 := by rw [hq]; simp
    have hpr := hr p (by rw [h, hq]; simp)
    have hxr := hr x (by rw [h]; simp)
    refine ev_shift ?_
    simp only [impl_deltas.l0, hx, h3, hp.1, hp.2, dlF]
    refine ev_pos h1 (ev_pos (by omega) (ev_pos (by omega) (ev_pos h2 (ev_bind0 (impl_delta_int p x hpr hxr) ?_))))
    by_cases hlt : dl p x < 0
    ·refine ev_pos hlt (ev_some ?_)
     rw [if_pos hlt]; rfl
    ·refine ev_neg hlt (ev_pos (by omega) ?_)
     rw [if_neg hlt, pairR_cons]
     exact ih pre x (out ++ [dl p x]) rfl (by simp; omega)
  exact key r [y] rfl [] y [] rfl rfl
theorem impl_DeltasOf_ev (n : Int) (l : List Int) (hl : l.length ≤ 9000000000000000000) : Ev (fun k => impl_DeltasOf.f k n l) (dfP n l) := by
 unfold impl_DeltasOf.f dfP
 refine ev_bind (impl_areWords_ev n l hl) ?_
 by_cases h : areW n l = true
 ·rw [if_pos h]
  exact ev_pos h (ev_bind (impl_deltas_ev l (areW_range h) (by have := (areW_iff.1 h).2.1; omega)) (ev_some rfl))
 ·rw [if_neg h]
  exact ev_neg h (ev_some rfl)
theorem bits_OnesCount_table : ∀ w : Fin 1024, bits_OnesCount.f (IntKind.u64.wrap (w.1 : Int)) = some (popc 10 w.1 : Int) := by decide +kernel
theorem spec_gcOdd_ev (w : Nat) (h : w < 1024) : Ev (fun k => spec_gcOdd.f k (w : Int)) (popc 10 w % 2 == 1) := by
 have t : ∀ w : Fin 1024, spec_gcOdd.f 20 (w.1 : Int) = some (popc 10 w.1 % 2 == 1) := by decide +kernel
 exact Ev.of (spec_gcOdd.mono _) (t ⟨w, h⟩)
theorem spec_gcHalves_ev (l : List Int) (hr : ∀ x ∈ l, 0 ≤ x ∧ x < 1024) (hl : l.length ≤ 1000000) : Ev (fun k => spec_gcHalves.f k l) ((l.length : Int) - (oddC l : Int), (oddC l : Int)) := by
 have key : ∀ suf pre, l = pre ++ suf → ∀ e o : Nat, e + o = pre.length → o + oddC suf = oddC l → Ev (fun k => spec_gcHalves.l0 k (e : Int) (o : Int) l (l.length : Int) (pre.length : Int)) ((l.length : Int) - (oddC l : Int), (oddC l : Int)) := by
  refine range_ind (by omega) (fun pre suf => ∀ e o : Nat, e + o = pre.length → o + oddC suf = oddC l → Ev (fun k => spec_gcHalves.l0 k (e : Int) (o : Int) l (l.length : Int) (pre.length : Int)) ((l.length : Int) - (oddC l : Int), (oddC l : Int))) ?_ ?_
  ·intro e o h1 h2
   simp only [oddC] at h2
   refine ev_shift ?_
   simp only [spec_gcHalves.l0]
   refine ev_neg (by omega) (ev_some ?_)
   rw [show (e : Int) = (l.length : Int) - (oddC l : Int) by omega, show (o : Int) = (oddC l : Int) by omega]
  ·intro pre x suf hh hx h1 h2 h3 ih e o g1 g2
   have hx0 := hr x (by rw [hh]; simp)
   obtain ⟨q, rfl⟩ := Int.eq_ofNat_of_zero_le hx0.1
   have hlen : l.length = pre.length + suf.length + 1 := by rw [hh]; simp; omega
   refine ev_shift ?_
   simp only [spec_gcHalves.l0, hx, h3]
   refine ev_pos h1 (ev_pos h2 (ev_pos h1 (ev_bind (spec_gcOdd_ev q (by omega)) ?_)))
   simp only [oddC, Int.toNat_natCast] at g2
   by_cases ho : popc 10 q % 2 = 1
   ·refine ev_pos (by simp [ho]) ?_
    have e1 : wrap64 ((o : Int) + 1) = ((o + 1 : Nat) : Int) := by rw [w64 (by omega) (by omega)]; omega
    rw [e1]
    exact ih e (o + 1) (by simp; omega) (by omega)
   ·refine ev_neg (by simp [ho]) ?_
    have e1 : wrap64 ((e : Int) + 1) = ((e + 1 : Nat) : Int) := by rw [w64 (by omega) (by omega)]; omega
    rw [e1]
    exact ih (e + 1) o (by simp; omega) (by omega)
 exact key l [] rfl 0 0 rfl (by omega)
theorem spec_HalvesOf_ev (n : Int) (l : List Int) (hl : l.length ≤ 9000000000000000000) : Ev (fun k => spec_HalvesOf.f k n l) (hvP n l) := by
 unfold spec_HalvesOf.f hvP
 refine ev_bind (spec_gcWords_ev n l hl) ?_
 by_cases h : areW n l = true
 ·rw [if_pos h]
  exact ev_pos h (ev_bind (spec_gcHalves_ev l (areW_range h) (by have := (areW_iff.1 h).2.1; omega)) (ev_some rfl))
 ·rw [if_neg h]
  exact ev_neg h (ev_some rfl)
theorem impl_HalvesOf_ev (n : Int) (l : List Int) (hl : l.length ≤ 9000000000000000000) : Ev (fun k => impl_HalvesOf.f k n l) (hvP n l) := by
 unfold impl_HalvesOf.f hvP
 refine ev_bind (impl_areWords_ev n l hl) ?_
 by_cases h : areW n l = true
 ·rw [if_pos h]
  refine ev_pos h ?_
  have hr := areW_range h
  have hll := (areW_iff.1 h).2.1
  have hol := oddC_le l
  have key : ∀ suf pre, l = pre ++ suf → ∀ o : Nat, o + oddC suf = oddC l → Ev (fun k => impl_HalvesOf.l0 k l (o : Int) l (l.length : Int) (pre.length : Int)) ((l.length : Int) - (oddC l : Int), (oddC l : Int), true) := by
   refine range_ind hl (fun pre suf => ∀ o : Nat, o + oddC suf = oddC l → Ev (fun k => impl_HalvesOf.l0 k l (o : Int) l (l.length : Int) (pre.length : Int)) ((l.length : Int) - (oddC l : Int), (oddC l : Int), true)) ?_ ?_
   ·intro o g
    simp only [oddC] at g
    refine ev_shift ?_
    simp only [impl_HalvesOf.l0]
    rw [show (o : Int) = (oddC l : Int) by omega]
    refine ev_neg (by omega) (ev_some ?_)
    rw [w64 (by omega) (by omega)]
   ·intro pre x suf hh hx h1 h2 h3 ih o g
    have hx0 := hr x (by rw [hh]; simp)
    obtain ⟨q, rfl⟩ := Int.eq_ofNat_of_zero_le hx0.1
    have ht := bits_OnesCount_table ⟨q, by omega⟩
    simp only at ht
    simp only [oddC, Int.toNat_natCast] at g
    refine ev_shift ?_
    simp only [impl_HalvesOf.l0, hx, h3, ht, Option.bind_some]
    rw [Int.tmod_eq_emod_of_nonneg (by omega)]
    have e1 : wrap64 ((o : Int) + (popc 10 q : Int) % 2) = ((o + popc 10 q % 2 : Nat) : Int) := by rw [w64 (by omega) (by omega)]; omega
    rw [e1]
    exact ev_pos h1 (ev_pos h2 (ev_pos h1 (ih (o + popc 10 q % 2) (by omega))))
  exact key l [] rfl 0 (by omega)
 ·rw [if_neg h]
  exact ev_neg h (ev_some rfl)
theorem spec_l1Own_eq (l : List Int) (h : l.length < 17592186044416) : spec_l1Own.f l = some l := by
 simp only [spec_l1Own.f, Option.bind_some, List.length_nil, Nat.zero_add, List.nil_append]
 rw [if_pos h]
theorem shl_nat_table : ∀ n : Fin 20, shl .i64 1 (n.1 : Int) = ((2 ^ n.1 : Nat) : Int) := by decide +kernel
theorem shl_nat {n : Nat} (h : n < 20) : shl .i64 1 (n : Int) = ((2 ^ n : Nat) : Int) := shl_nat_table ⟨n, h⟩
theorem bit_at {s i : Nat} (hs : s < 4096) (hi : i ≤ 12) : Go.bits .and .i64 (shr .i64 (s : Int) (i : Int)) 1 = ((if s.testBit i = true then 1 else 0 : Nat) : Int) := by
 have e0 : shr .i64 (s : Int) (i : Int) = ((s / 2 ^ i : Nat) : Int) := by
  unfold shr
  rw [Int.toNat_natCast, Nat.min_eq_left (show i ≤ IntKind.i64.bits by have : IntKind.i64.bits = 64 := rfl; omega)]
  simp
 have hd : s / 2 ^ i < 2 ^ 62 := Nat.lt_of_le_of_lt (Nat.div_le_self _ _) (Nat.lt_trans hs (by decide))
 have e1 : Go.bits .and .i64 ((s / 2 ^ i : Nat) : Int) 1 = ((s / 2 ^ i % 2 : Nat) : Int) := by
  have := and_nat hd (show 1 < 2 ^ 62 by decide)
  rw [Nat.and_one_is_mod] at this
  exact this
 have e2 : s.testBit i = decide (s / 2 ^ i % 2 = 1) := by rw [Nat.testBit_eq_decide_div_mod_eq]
 rw [e0, e1, e2]
 rcases Nat.mod_two_eq_zero_or_one (s / 2 ^ i) with h | h
 ·rw [h]; rfl
 ·rw [h]; rfl
theorem andNot_bit {s i : Nat} (hs : s < 4096) (hi : i < 12) (hb : s.testBit i = true) : Go.bits .andNot .i64 (s : Int) ((2 ^ i : Nat) : Int) = ((s ^^^ 2 ^ i : Nat) : Int) := by
 have hp : 2 ^ i < 4096 := Nat.lt_of_lt_of_le (Nat.pow_lt_pow_right (by decide) hi) (by decide)
 have h64 : (2 : Nat) ^ IntKind.i64.bits = 18446744073709551616 := by decide
 have e : ((BitVec.ofNat IntKind.i64.bits s) &&& ~~~(BitVec.ofNat IntKind.i64.bits (2 ^ i))).toNat = s ^^^ 2 ^ i := by
  rw [BitVec.toNat_and, BitVec.toNat_not, BitVec.toNat_ofNat, BitVec.toNat_ofNat, Nat.mod_eq_of_lt (by omega), Nat.mod_eq_of_lt (by omega)]
  apply Nat.eq_of_testBit_eq
  intro j
  rw [Nat.testBit_and, Nat.sub_sub, Nat.add_comm 1, Nat.testBit_two_pow_sub_succ (by omega), Nat.testBit_xor, Nat.testBit_two_pow]
  by_cases c : i = j
  ·subst c; simp [hb]
  ·by_cases c2 : j < IntKind.i64.bits
   ·simp [c, c2]
   ·have : s.testBit j = false := Nat.testBit_lt_two_pow (Nat.lt_of_lt_of_le (show s < 2 ^ 12 by omega) (Nat.pow_le_pow_right (by decide) (by have : IntKind.i64.bits = 64 := rfl; omega)))
    simp [c, this]
 simp only [Go.bits, BitVec.ofInt_natCast]
 rw [e]
 have hx : s ^^^ 2 ^ i < 2 ^ 12 := Nat.xor_lt_two_pow hs hp
 exact wr62 _ (Int.natCast_nonneg _) (by omega)
theorem spec_l1Abs_eq (a : Int) (h0 : -1000000 ≤ a) (h1 : a ≤ 1000000) : spec_l1Abs.f a = some (if 0 ≤ a then a else -a) := by
 unfold spec_l1Abs.f spec_l1Most.f
 rw [w64 (by omega) (by omega)]
 split <;> split <;> simp only [Option.bind_some, Option.some.injEq] <;> omega
def lastO (p : List Int) : Option Int := if p = [] then none else some (lastZ p)
theorem lastO_snoc (p : List Int) (x : Int) : lastO (p ++ [x]) = some x := by
 unfold lastO lastZ
 rw [if_neg (by simp)]
 have : ((p ++ [x]).length : Int) - 1 = (p.length : Int) := by rw [List.length_append, List.length_singleton]; omega
 rw [this]
 have := rd_at p x []
 rw [this]
theorem lastZ_mem {p : List Int} (h : p ≠ []) : lastZ p ∈ p := by
 have : 0 < p.length := List.length_pos_iff.2 h
 unfold lastZ
 rw [show (p.length : Int) - 1 = ((p.length - 1 : Nat) : Int) by omega]
 exact rd_mem (by omega)
theorem last_rd {p : List Int} (h : p ≠ []) (hl : p.length ≤ 1000000) : 0 < p.length ∧ wrap64 ((p.length : Int) - 1) = (p.length : Int) - 1 ∧ rd p ((p.length : Int) - 1) = lastZ p := by
 have : 0 < p.length := List.length_pos_iff.2 h
 exact ⟨this, w64 (by omega) (by omega), rfl⟩
theorem spec_l1Put_ev (l : List Int) (n : Int) (hl : l.length ≤ 1000000) : Ev (fun k => spec_l1Put.f k l n) (putZ l n) := by
 unfold spec_l1Put.f
 have key := range_all (l := l) (by omega) (fun pre suf => Ev (fun k => spec_l1Put.l0 k l n (pre.length : Int)) (pre ++ putZ suf n)) ?_ ?_
 ·exact key
 ·refine ev_shift ?_
  simp only [spec_l1Put.l0]
  refine ev_neg (by omega) (ev_eq ?_)
  simp only [Option.bind_some, List.length_nil, Nat.zero_add, List.nil_append, Int.toNat_natCast, List.take_length, List.drop_length, List.append_nil, List.length_append, List.length_singleton, Nat.add_zero]
  rw [if_pos (by omega), if_pos (by omega), if_pos (by omega), if_pos (by omega), if_pos (by omega)]
  rfl
 ·intro pre x suf h hx h1 h2 h3 ih
  have hlen : l.length = pre.length + suf.length + 1 := by rw [h]; simp; omega
  have ht : l.take pre.length = pre := by rw [h]; simp
  have hd : l.drop pre.length = x :: suf := by rw [h]; simp
  refine ev_shift ?_
  simp only [spec_l1Put.l0, hx, h3]
  refine ev_pos h1 (ev_pos h2 ?_)
  by_cases c : x < n
  ·refine ev_pos c ?_
   simp only [putZ]
   rw [if_pos c]
   simpa using ih
  ·refine ev_neg c ?_
   by_cases e : x = n
   ·refine ev_pos e (ev_some ?_)
    simp only [putZ]
    rw [if_neg c, if_pos e]; exact h
   ·refine ev_neg e (ev_eq ?_)
    simp only [Option.bind_some, List.length_nil, Nat.zero_add, List.nil_append, Int.toNat_natCast, ht, hd, List.length_append, List.length_singleton, List.length_cons]
    rw [if_pos (by omega), if_pos (by omega), if_pos (by omega), if_pos (by omega)]
    simp only [putZ]
    rw [if_neg c, if_neg e]
    simp
theorem filt_snoc {ws p : List Int} {x : Int} (hn : ws.Nodup) : ws.filter (fun w => !(p ++ [x]).contains w) = (ws.filter (fun w => !p.contains w)).erase x := by
 have h2 : (ws.filter (fun w => !p.contains w)).Nodup := hn.sublist List.filter_sublist
 rw [h2.erase_eq_filter, List.filter_filter]
 apply List.filter_congr
 intro w _
 by_cases e : w = x
 ·simp [e]
 ·simp [e]
def endP (p : List Int) (o : Option (List Int)) : List Int := match o with
 | some s => p ++ s
 | none => []
theorem spec_gcPath_ev (ws : List Int) (hr : ∀ x ∈ ws, 0 ≤ x ∧ x < 1024) (hn : ws.Nodup) (hl : ws.length ≤ 12) : ∀ (f : Nat) (p : List Int), (∀ x ∈ p, 0 ≤ x ∧ x < 1024) → (ws.filter (fun w => !p.contains w)).length = f → p.length + f = ws.length →
  Ev (fun k => spec_gcPath.f k p ws) (endP p (bst f (lastO p) (ws.filter (fun w => !p.contains w)))) := by
 intro f
 induction f with
 | zero =>
  intro p hp h1 h2
  refine ev_shift ?_
  simp only [spec_gcPath.f]
  exact ev_pos (by omega) (ev_some (by simp [bst, endP]))
 | succ f ihf =>
  intro p hp h1 h2
  refine ev_shift ?_
  simp only [spec_gcPath.f]
  refine ev_neg (by omega) ?_
  generalize hR : ws.filter (fun w => !p.contains w) = R at h1
  have key := range_all (l := ws) (by omega) (fun pre suf => Ev (fun k => spec_gcPath.l0 k p ws ws (ws.length : Int) (pre.length : Int)) (endP p ((suf.filter (fun w => !p.contains w)).findSome? fun w => if okl (lastO p) w = true then (bst f (some w) (R.erase w)).map (w :: ·) else none))) ?_ ?_
  ·rw [hR] at key
   exact key
  ·refine ev_shift ?_
   simp only [spec_gcPath.l0]
   exact ev_neg (by omega) (ev_some rfl)
  ·intro pre x suf h hx g1 g2 g3 ih
   have hxr := hr x (by rw [h]; simp)
   have hgo : ∀ b : Bool, x ∉ p → b = !okl (lastO p) x → Ev (fun k => spec_gcPath.j1 k p ws x ws (ws.length : Int) (pre.length : Int) b) (endP p (((x :: suf).filter (fun w => !p.contains w)).findSome? fun w => if okl (lastO p) w = true then (bst f (some w) (R.erase w)).map (w :: ·) else none)) := by
    intro b hxp hb
    have hf : (x :: suf).filter (fun w => !p.contains w) = x :: suf.filter (fun w => !p.contains w) := by rw [List.filter_cons, if_pos (by simp [hxp])]
    rw [hf, List.findSome?_cons]
    refine ev_shift ?_
    simp only [spec_gcPath.j1, g3]
    cases ho : okl (lastO p) x with
    | false =>
     rw [ho] at hb
     subst hb
     rw [if_neg (by decide)]
     exact ev_pos rfl ih
    | true =>
     rw [ho] at hb
     subst hb
     rw [if_pos rfl]
     refine ev_neg (by decide) (ev_bind0 (spec_l1Own_eq p (by omega)) (ev_pos (by omega) ?_))
     have hRx : ws.filter (fun w => !(p ++ [x]).contains w) = R.erase x := by rw [← hR]; exact filt_snoc hn
     have hxR : x ∈ R := by rw [← hR, List.mem_filter]; exact ⟨by rw [h]; simp, by simp [hxp]⟩
     have h5 := ihf (p ++ [x]) (fun y hy => by
      rcases List.mem_append.1 hy with hy | hy
      ·exact hp y hy
      ·simp only [List.mem_singleton] at hy; subst hy; exact hxr) (by rw [hRx, List.length_erase_of_mem hxR]; omega) (by simp; omega)
     rw [hRx, lastO_snoc] at h5
     refine ev_bind h5 ?_
     cases hb : bst f (some x) (R.erase x) with
     | none =>
      refine ev_neg (by simp [endP]) ?_
      exact ih
     | some s =>
      refine ev_pos (by simp [endP]; omega) (ev_some ?_)
      simp [endP]
   refine ev_shift ?_
   simp only [spec_gcPath.l0, hx, g3]
   refine ev_pos g1 (ev_pos g2 (ev_pos g1 (ev_bind (spec_l1Has_ev p x (by omega)) ?_)))
   by_cases hxp : x ∈ p
   ·refine ev_pos (by simpa using hxp) (ev_shift ?_)
    have hf : (x :: suf).filter (fun w => !p.contains w) = suf.filter (fun w => !p.contains w) := by rw [List.filter_cons, if_neg (by simp [hxp])]
    rw [hf]
    simp only [spec_gcPath.j1, g3]
    exact ev_pos trivial ih
   ·refine ev_neg (by simpa using hxp) ?_
    by_cases h0 : p = []
    ·refine ev_neg (by rw [h0]; simp) (hgo false hxp ?_)
     unfold lastO
     rw [if_pos h0]; rfl
    ·obtain ⟨q1, q2, q3⟩ := last_rd h0 (by omega)
     rw [q2, q3]
     refine ev_pos (by omega) (ev_pos (by omega) (ev_pos (by omega) (ev_bind (spec_gcBit_int _ _ (hp _ (lastZ_mem h0)) hxr) (hgo _ hxp ?_))))
     unfold lastO
     rw [if_neg h0]
     simp only [okl]
     by_cases c : dl (lastZ p) x < 0
     ·rw [decide_eq_true c, decide_eq_false (by omega)]; rfl
     ·rw [decide_eq_false c, decide_eq_true (by omega)]; rfl
theorem spec_PathThrough_ev (n : Int) (l : List Int) (hl : l.length ≤ 9000000000000000000) : Ev (fun k => spec_PathThrough.f k n l) (ppP n l) := by
 unfold spec_PathThrough.f
 refine ev_bind (spec_gcWords_ev n l hl) ?_
 by_cases h : areW n l = true
 ·have hlen := (areW_iff.1 h).2.1
  have hrange := areW_range h
  refine ev_pos h (ev_bind0 (spec_l1In_eq _ _ _) (ev_shift ?_))
  simp only [spec_PathThrough.j0]
  by_cases h2 : inR (l.length : Int) 1 12 = true
  ·have h12 := inR_iff.1 h2
   refine ev_neg (by simp [h2]) ?_
   have key := range_all (l := l) hl (fun pre suf => l = pre ++ suf → Ev (fun k => spec_PathThrough.l0 k l (putA pre) l (l.length : Int) (pre.length : Int)) (ppP n l)) ?_ ?_
   ·exact key rfl
   ·intro hh
    rw [List.append_nil] at hh
    rw [← hh]
    refine ev_shift ?_
    simp only [spec_PathThrough.l0]
    obtain ⟨f1, f2, f3, f4, f5⟩ := putA_all _ l rfl
    have hpr : ∀ x ∈ putA l, 0 ≤ x ∧ x < 1024 := fun x hx => hrange x ((f2 x).1 hx)
    refine ev_neg (by omega) (ev_bind (spec_gcHalves_ev (putA l) hpr (by omega)) ?_)
    by_cases hn : l.Nodup
    ·have hpl := putA_length.2 hn
     refine ev_pos (by omega) ?_
     have ho := oddC_le (putA l)
     have hoo : oddC (putA l) = oddC l := oddC_perm (f4 hn)
     have hP : ppP n l = (match bst l.length none (sortZ l) with | some s => (s, true) | none => ([], false)) := by
      unfold ppP
      exact if_pos ⟨h, h2, hn⟩
     rw [hP]
     simp only
     rw [w64 (by omega) (by omega)]
     refine ev_bind0 (spec_l1Abs_eq _ (by omega) (by omega)) ?_
     by_cases hx : 2 * oddC l ≤ l.length + 1 ∧ l.length ≤ 2 * oddC l + 1
     ·refine ev_neg (by split <;> omega) ?_
      have hnil : (putA l).filter (fun w => !([] : List Int).contains w) = putA l := List.filter_eq_self.2 (by simp)
      have h5 := spec_gcPath_ev (putA l) hpr (nodup_of_lt f1) (by omega) (putA l).length [] (by simp) (by rw [hnil]) (by simp)
      have hlo : lastO [] = none := rfl
      rw [hnil, hpl, putA_sort hn, hlo] at h5
      rw [putA_sort hn]
      refine ev_bind h5 (ev_some ?_)
      cases hb : bst l.length none (sortZ l) with
      | none => rfl
      | some s =>
       have := (bst_perm hb (sortZ_length l)).length_eq
       rw [sortZ_length] at this
       show (s, decide ((s.length : Int) > 0)) = (s, true)
       rw [decide_eq_true (by omega)]
     ·refine ev_pos (by split <;> omega) (ev_some ?_)
      cases hb : bst l.length none (sortZ l) with
      | none => rfl
      | some s => exact absurd (bst_halves hrange hb) hx
    ·have := f5 hn
     refine ev_neg (by omega) (ev_some ?_)
     unfold ppP
     rw [if_neg (fun c => hn c.2.2)]
   ·intro pre x suf hh hx g1 g2 g3 ih _
    refine ev_shift ?_
    simp only [spec_PathThrough.l0, hx, g3]
    have hp3 := (putA_all _ pre rfl).2.2.1
    have hpl : pre.length ≤ l.length := by rw [hh]; simp
    refine ev_pos g1 (ev_pos g2 (ev_pos g1 (ev_bind (spec_l1Put_ev (putA pre) x (by omega)) ?_)))
    rw [← putA_snoc]
    exact ih (by rw [hh]; simp)
  ·refine ev_pos (by simp only [Bool.not_eq_true] at h2; simp [h2]) (ev_some ?_)
   unfold ppP
   rw [if_neg (fun c => h2 c.2.1)]
 ·refine ev_neg h (ev_shift ?_)
  simp only [spec_PathThrough.j0]
  refine ev_pos trivial (ev_some ?_)
  unfold ppP
  rw [if_neg (fun c => h c.1)]

/-! ### The table of ends -/
def tabS (ws : List Int) (s : Nat) : List Int := ((List.range s).map fun t : Nat => (en ws t ws.length : Int)) ++ List.replicate (2 ^ ws.length - s) 0
def tabV (ws : List Int) (s v : Nat) : List Int := ((List.range s).map fun t : Nat => (en ws t ws.length : Int)) ++ (v : Int) :: List.replicate (2 ^ ws.length - (s + 1)) 0
theorem tabV_zero {ws : List Int} {s : Nat} (hs : s < 2 ^ ws.length) : tabS ws s = tabV ws s 0 := by
 unfold tabS tabV
 rw [show 2 ^ ws.length - s = (2 ^ ws.length - (s + 1)) + 1 by omega, List.replicate_succ]; rfl
theorem tabV_full (ws : List Int) (s : Nat) : tabV ws s (en ws s ws.length) = tabS ws (s + 1) := by
 unfold tabS tabV
 rw [List.range_succ, List.map_append, List.append_assoc]; rfl
theorem tabV_len {ws : List Int} {s : Nat} (v : Nat) (hs : s < 2 ^ ws.length) : (tabV ws s v).length = 2 ^ ws.length := by
 unfold tabV; simp; omega
theorem tabV_rd (ws : List Int) (s v : Nat) : rd (tabV ws s v) (s : Int) = (v : Int) := by
 have := rd_at ((List.range s).map fun t : Nat => (en ws t ws.length : Int)) (v : Int) (List.replicate (2 ^ ws.length - (s + 1)) 0)
 rw [List.length_map, List.length_range] at this
 exact this
theorem tabV_set (ws : List Int) (s v u : Nat) : (tabV ws s v).set s (u : Int) = tabV ws s u := by
 have := set_at ((List.range s).map fun t : Nat => (en ws t ws.length : Int)) (v : Int) (u : Int) (List.replicate (2 ^ ws.length - (s + 1)) 0)
 rw [List.length_map, List.length_range, Int.toNat_natCast] at this
 exact this
theorem tabV_old {ws : List Int} {s t : Nat} (v : Nat) (ht : t < s) : rd (tabV ws s v) (t : Int) = (en ws t ws.length : Int) := by
 unfold tabV
 rw [rd_nat, List.getD_eq_getElem?_getD, List.getElem?_append_left (by simpa using ht), List.getElem?_map, List.getElem?_range ht]
 rfl
theorem tabS_full_rd {ws : List Int} {t : Nat} (ht : t < 2 ^ ws.length) : rd (tabS ws (2 ^ ws.length)) (t : Int) = (en ws t ws.length : Int) := by
 unfold tabS
 rw [rd_nat, List.getD_eq_getElem?_getD, List.getElem?_append_left (by simpa using ht), List.getElem?_map, List.getElem?_range ht]
 rfl
theorem tabS_len {ws : List Int} {s : Nat} (hs : s ≤ 2 ^ ws.length) : (tabS ws s).length = 2 ^ ws.length := by
 unfold tabS; simp; omega
theorem pow12 {m : Nat} (h : m ≤ 12) : 2 ^ m ≤ 4096 := Nat.pow_le_pow_right (n := 2) (by omega) h
theorem suc64 {n : Nat} (h : n < 1000000) : wrap64 ((n : Int) + 1) = ((n + 1 : Nat) : Int) := by rw [w64 (by omega) (by omega)]; omega
theorem pre64 {n : Nat} (h : n < 1000000) : wrap64 ((n : Int) - 1) = (n : Int) - 1 := w64 (by omega) (by omega)
theorem pow_lt12 {i : Nat} (h : i < 12) : 2 ^ i < 4096 := Nat.lt_of_lt_of_le (Nat.pow_lt_pow_right (by decide) h) (by decide)
theorem or_lt12 {v i : Nat} (hv : v < 4096) (hi : i < 12) : v ||| 2 ^ i < 4096 := Nat.or_lt_two_pow (n := 12) hv (pow_lt12 hi)
theorem tabV_or {ws : List Int} {s i v : Nat} (hv : v < 4096) (hi : i < 12) : (tabV ws s v).set ((s : Int)).toNat (Go.bits .or .i64 (rd (tabV ws s v) (s : Int)) (shl .i64 1 (i : Int))) = tabV ws s (v ||| 2 ^ i) := by
 rw [tabV_rd, shl_nat (Nat.lt_trans hi (by decide)), or_nat (Nat.lt_trans hv (by decide)) (Nat.lt_trans (pow_lt12 hi) (by decide)), Int.toNat_natCast, tabV_set]
def qEnd (ws : List Int) (i r k : Nat) : Bool := decide (r = 0) || (r.testBit k && can ws r k && decide (0 ≤ dl (rd ws (i : Int)) (rd ws (k : Int))))
theorem impl_PathThrough_l2 {ws : List Int} (hr : ∀ x ∈ ws, 0 ≤ x ∧ x < 1024) (hl : ws.length ≤ 12) {s i r : Nat} (hs : s < 2 ^ ws.length) (hi : i < ws.length) (hrs : r < s) (R : List Int × Bool) :
  ∀ c k v : Nat, k + c = ws.length → v < 4096 → (∀ u : Nat, u = v ||| (if ((List.range' k c).any (qEnd ws i r)) = true then 2 ^ i else 0) → Ev (fun K => impl_PathThrough.l1 K ws (ws.length : Int) (tabV ws s u) (s : Int) (ws.length : Int) ((i + 1 : Nat) : Int)) R) →
   Ev (fun K => impl_PathThrough.l2 K ws (ws.length : Int) (tabV ws s v) (s : Int) (i : Int) (r : Int) (ws.length : Int) (i : Int) (ws.length : Int) (k : Int)) R := by
 have hr4 : r < 4096 := Nat.lt_of_lt_of_le (Nat.lt_trans hrs hs) (pow12 hl)
 have hi12 : i < 12 := by omega
 have hs0 : (0 : Int) ≤ (s : Int) := Int.natCast_nonneg s
 have hr0 : (0 : Int) ≤ (r : Int) := Int.natCast_nonneg r
 have hi0 : (0 : Int) ≤ (i : Int) := Int.natCast_nonneg i
 have hiI : (i : Int) < (ws.length : Int) := by omega
 have hsl : ∀ v : Nat, (s : Int) < ((tabV ws s v).length : Int) := fun v => by rw [tabV_len v hs]; exact_mod_cast hs
 have hrl : ∀ v : Nat, (r : Int) < ((tabV ws s v).length : Int) := fun v => by rw [tabV_len v hs]; exact_mod_cast (Nat.lt_trans hrs hs)
 intro c
 induction c with
 | zero =>
  intro k v hk hv ho
  refine ev_shift ?_
  simp only [impl_PathThrough.l2, suc64 (Nat.lt_trans hi12 (by decide))]
  exact ev_neg (by clear hsl hrl ho; omega) (ho v (by rw [List.range'_zero, List.any_nil, if_neg (by decide), Nat.or_zero]))
 | succ c ih =>
  intro k v hk hv ho
  have hkl : k < ws.length := by clear hsl hrl ho ih; omega
  have hk12 : k ≤ 12 := by clear hsl hrl ho ih; omega
  have hk0 : (0 : Int) ≤ (k : Int) := Int.natCast_nonneg k
  have hkI : (k : Int) < (ws.length : Int) := by exact_mod_cast hkl
  have hk1 : k + 1 + c = ws.length := by clear hsl hrl ho ih; omega
  rw [List.range'_succ, List.any_cons] at ho
  refine ev_shift ?_
  simp only [impl_PathThrough.l2, suc64 (Nat.lt_of_le_of_lt hk12 (by decide)), tabV_or hv hi12]
  have hyes : qEnd ws i r k = true → Ev (fun K => impl_PathThrough.l2 K ws (ws.length : Int) (tabV ws s (v ||| 2 ^ i)) (s : Int) (i : Int) (r : Int) (ws.length : Int) (i : Int) (ws.length : Int) ((k + 1 : Nat) : Int)) R := by
   intro hq
   refine ih (k + 1) (v ||| 2 ^ i) hk1 (or_lt12 hv hi12) (fun u hu => ho u ?_)
   rw [hu, hq, Bool.true_or, if_pos rfl]
   split
   ·rw [Nat.or_assoc, Nat.or_self]
   ·rw [Nat.or_zero]
  have hno : qEnd ws i r k = false → Ev (fun K => impl_PathThrough.l2 K ws (ws.length : Int) (tabV ws s v) (s : Int) (i : Int) (r : Int) (ws.length : Int) (i : Int) (ws.length : Int) ((k + 1 : Nat) : Int)) R := by
   intro hq
   refine ih (k + 1) v hk1 hv (fun u hu => ho u ?_)
   rw [hu, hq, Bool.false_or]
  clear ih ho
  refine ev_pos hkI ?_
  by_cases h0 : r = 0
  ·refine ev_pos (by rw [h0]; rfl) (ev_pos hs0 (ev_pos (hsl v) (ev_pos hi0 (hyes ?_))))
   unfold qEnd; rw [decide_eq_true h0]; rfl
  ·refine ev_neg (fun e => h0 (by exact_mod_cast e)) (ev_pos hk0 ?_)
   rw [bit_at hr4 hk12, tabV_old v hrs, bit_at (Nat.lt_of_lt_of_le (en_lt ws r ws.length) (pow12 hl)) hk12, en_bit, decide_eq_true hkl, Bool.true_and]
   by_cases hb : r.testBit k = true
   ·rw [if_pos hb]
    refine ev_pos rfl (ev_pos hr0 (ev_pos (hrl v) ?_))
    by_cases hc : can ws r k = true
    ·rw [if_pos hc]
     refine ev_pos rfl (ev_pos hi0 (ev_pos hiI (ev_pos hkI (ev_bind0 (impl_delta_int _ _ (hr _ (rd_mem hi)) (hr _ (rd_mem hkl))) ?_))))
     by_cases hd : 0 ≤ dl (rd ws (i : Int)) (rd ws (k : Int))
     ·refine ev_pos hd (ev_pos hs0 (ev_pos (hsl v) (hyes ?_)))
      unfold qEnd; rw [hb, hc, decide_eq_true hd]; simp
     ·refine ev_neg hd (hno ?_)
      unfold qEnd; rw [decide_eq_false h0, decide_eq_false hd]; simp
    ·rw [if_neg hc]
     refine ev_neg (by decide) (hno ?_)
     simp only [Bool.not_eq_true] at hc
     unfold qEnd; rw [decide_eq_false h0, hc]; simp
   ·rw [if_neg hb]
    refine ev_neg (by decide) (hno ?_)
    simp only [Bool.not_eq_true] at hb
    unfold qEnd; rw [decide_eq_false h0, hb]; simp
theorem any_or {m : Nat} (hm : 0 < m) (b : Bool) (q : Nat → Bool) : (List.range m).any (fun k => b || q k) = (b || (List.range m).any q) := by
 cases b with
 | true =>
  simp only [Bool.true_or]
  exact List.any_eq_true.2 ⟨0, List.mem_range.2 hm, rfl⟩
 | false => simp only [Bool.false_or]
theorem impl_PathThrough_l1 {ws : List Int} (hr : ∀ x ∈ ws, 0 ≤ x ∧ x < 1024) (hn : ws.Nodup) (hl : ws.length ≤ 12) {s : Nat} (hs : s < 2 ^ ws.length) (R : List Int × Bool)
  (ho : Ev (fun K => impl_PathThrough.l0 K ws (ws.length : Int) (tabS ws (s + 1)) ((s + 1 : Nat) : Int)) R) :
  ∀ c i : Nat, i + c = ws.length → Ev (fun K => impl_PathThrough.l1 K ws (ws.length : Int) (tabV ws s (en ws s i)) (s : Int) (ws.length : Int) (i : Int)) R := by
 have hs4 : s < 4096 := Nat.lt_of_lt_of_le hs (pow12 hl)
 intro c
 induction c with
 | zero =>
  intro i hi
  obtain rfl : i = ws.length := by clear hs; omega
  refine ev_shift ?_
  simp only [impl_PathThrough.l1, suc64 (Nat.lt_trans hs4 (by decide)), tabV_full]
  exact ev_neg (Int.lt_irrefl _) ho
 | succ c ih =>
  intro i hi
  have hil : i < ws.length := by clear hs ho ih; omega
  have hi12 : i < 12 := Nat.lt_of_lt_of_le hil hl
  have hi1 : i + 1 + c = ws.length := by clear hs ho ih; omega
  have hiI : (i : Int) < (ws.length : Int) := by exact_mod_cast hil
  refine ev_shift ?_
  simp only [impl_PathThrough.l1, suc64 (Nat.lt_trans hi12 (by decide))]
  rw [bit_at hs4 (Nat.le_of_lt hi12)]
  refine ev_pos hiI (ev_pos (Int.natCast_nonneg i) ?_)
  by_cases hb : s.testBit i = true
  ·rw [if_pos hb, shl_nat (Nat.lt_trans hi12 (by decide)), andNot_bit hs4 hi12 hb]
   refine ev_neg (by decide) ?_
   have hen : en ws s i < 4096 := Nat.lt_of_lt_of_le (en_lt ws s i) (pow12 (Nat.le_of_lt hi12))
   refine impl_PathThrough_l2 hr hl hs hil (clr_lt_self hb) R ws.length 0 _ (Nat.zero_add _) hen (fun u hu => ?_)
   have hc := can_step hn hs hil hb
   have e2 : (List.range' 0 ws.length).any (qEnd ws i (s ^^^ 2 ^ i)) = can ws s i := by
    rw [hc, ← List.range_eq_range']
    exact any_or (Nat.lt_of_le_of_lt (Nat.zero_le _) hil) _ _
   rw [e2] at hu
   have := ih (i + 1) hi1
   rw [en, ← hu] at this
   exact this
  ·rw [if_neg hb]
   refine ev_pos rfl ?_
   have hc : can ws s i = false := by
    simp only [Bool.not_eq_true] at hb
    unfold can; rw [hb]; rfl
   have := ih (i + 1) hi1
   rw [en, hc, if_neg (by decide), Nat.or_zero] at this
   exact this
theorem impl_PathThrough_l0 {ws : List Int} (hr : ∀ x ∈ ws, 0 ≤ x ∧ x < 1024) (hn : ws.Nodup) (hl : ws.length ≤ 12) (R : List Int × Bool)
  (ho : Ev (fun K => impl_PathThrough.l3 K ws (ws.length : Int) (tabS ws (2 ^ ws.length)) [] ((2 ^ ws.length - 1 : Nat) : Int)) R) :
  ∀ c s : Nat, s + c = 2 ^ ws.length → Ev (fun K => impl_PathThrough.l0 K ws (ws.length : Int) (tabS ws s) (s : Int)) R := by
 have hp := pow12 hl; have h1p := Nat.two_pow_pos ws.length
 have hsh : shl .i64 1 (ws.length : Int) = ((2 ^ ws.length : Nat) : Int) := shl_nat (by clear hp h1p ho; omega)
 have hl0 : (0 : Int) ≤ (ws.length : Int) := Int.natCast_nonneg _
 generalize hM : 2 ^ ws.length = M at *
 intro c
 induction c with
 | zero =>
  intro s hs
  obtain rfl : s = M := hs
  refine ev_shift ?_
  simp only [impl_PathThrough.l0, hsh]
  rw [pre64 (Nat.lt_of_le_of_lt hp (by decide)), show (s : Int) - 1 = ((s - 1 : Nat) : Int) by clear ho hsh; omega]
  exact ev_pos hl0 (ev_neg (Int.lt_irrefl _) ho)
 | succ c ih =>
  intro s hs
  have hsM : s < M := by clear ho hsh ih; omega
  refine ev_shift ?_
  simp only [impl_PathThrough.l0, hsh]
  refine ev_pos hl0 (ev_pos (by exact_mod_cast hsM) ?_)
  have h := impl_PathThrough_l1 hr hn hl (show s < 2 ^ ws.length by rw [hM]; exact hsM) R (ih (s + 1) (by clear ho hsh ih; omega)) ws.length 0 (Nat.zero_add _)
  rw [en, ← tabV_zero (by rw [hM]; exact hsM)] at h
  exact h
def foundZ (o : Option Nat) (d : Int) : Int := match o with
 | some j => (j : Int)
 | none => d
theorem impl_PathThrough_l4 {ws : List Int} (hr : ∀ x ∈ ws, 0 ≤ x ∧ x < 1024) (hl : ws.length ≤ 12) {s : Nat} (hs : s < 2 ^ ws.length) {out : List Int} (hout : ∀ x ∈ out, 0 ≤ x ∧ x < 1024) (hol : out.length ≤ 12) (R : List Int × Bool) :
  ∀ (c : Nat) (d : Int), c ≤ ws.length → (∀ d' : Int, d' = foundZ ((List.range c).find? fun i => can ws s i && okl (lastO out) (rd ws (i : Int))) d → Ev (fun K => impl_PathThrough.l4 K ws (ws.length : Int) (tabS ws (2 ^ ws.length)) out (s : Int) d' (-1)) R) →
   Ev (fun K => impl_PathThrough.l4 K ws (ws.length : Int) (tabS ws (2 ^ ws.length)) out (s : Int) d ((c : Int) - 1)) R := by
 have hsl : (s : Int) < ((tabS ws (2 ^ ws.length)).length : Int) := by rw [tabS_len (Nat.le_refl _)]; exact_mod_cast hs
 intro c
 induction c with
 | zero =>
  intro d hc ho
  exact ho d rfl
 | succ c ih =>
  intro d hc ho
  have hcl : c < ws.length := hc
  have hc12 : c ≤ 12 := by clear ho ih hsl; omega
  have hcI : (c : Int) < (ws.length : Int) := by exact_mod_cast hcl
  have hc0 : (0 : Int) ≤ (c : Int) := Int.natCast_nonneg c
  rw [List.range_succ, List.find?_append] at ho
  rw [show ((c + 1 : Nat) : Int) - 1 = (c : Int) by clear ho ih hsl; omega]
  refine ev_shift ?_
  simp only [impl_PathThrough.l4, pre64 (Nat.lt_of_le_of_lt hc12 (by decide))]
  rw [tabS_full_rd hs, bit_at (Nat.lt_of_lt_of_le (en_lt ws s ws.length) (pow12 hl)) hc12, en_bit, decide_eq_true hcl, Bool.true_and]
  have hyes : can ws s c = true → okl (lastO out) (rd ws (c : Int)) = true → Ev (fun K => impl_PathThrough.l4 K ws (ws.length : Int) (tabS ws (2 ^ ws.length)) out (s : Int) (c : Int) ((c : Int) - 1)) R := by
   intro h1 h2
   refine ih (c : Int) (Nat.le_of_lt hcl) (fun d' hd' => ho d' ?_)
   rw [hd']
   cases (List.range c).find? fun i => can ws s i && okl (lastO out) (rd ws (i : Int)) with
   | some j => rfl
   | none => simp [h1, h2, foundZ]
  have hno : (can ws s c && okl (lastO out) (rd ws (c : Int))) = false → Ev (fun K => impl_PathThrough.l4 K ws (ws.length : Int) (tabS ws (2 ^ ws.length)) out (s : Int) d ((c : Int) - 1)) R := by
   intro h1
   refine ih d (Nat.le_of_lt hcl) (fun d' hd' => ho d' ?_)
   rw [hd']
   cases (List.range c).find? fun i => can ws s i && okl (lastO out) (rd ws (i : Int)) with
   | some j => rfl
   | none => simp [h1, foundZ]
  clear ho ih
  refine ev_pos hc0 (ev_pos (Int.natCast_nonneg s) (ev_pos hsl (ev_pos hc0 ?_)))
  by_cases hb : can ws s c = true
  ·rw [if_pos hb]
   refine ev_pos rfl ?_
   by_cases h0 : out = []
   ·refine ev_pos (by rw [h0]; rfl) (hyes hb ?_)
    unfold lastO; rw [if_pos h0]; rfl
   ·obtain ⟨q1, q2, q3⟩ := last_rd h0 (Nat.le_trans hol (by decide))
    have q4 : (0 : Int) < (out.length : Int) := by exact_mod_cast q1
    rw [q2, q3]
    have hlo : lastO out = some (lastZ out) := by unfold lastO; rw [if_neg h0]
    clear hsl q2 q3
    refine ev_neg (fun e => by omega) (ev_pos (by clear hyes hno; omega) (ev_pos (by clear hyes hno; omega) (ev_pos hcI (ev_bind0 (impl_delta_int _ _ (hout _ (lastZ_mem h0)) (hr _ (rd_mem hcl))) ?_))))
    by_cases hd : 0 ≤ dl (lastZ out) (rd ws (c : Int))
    ·refine ev_pos hd (hyes hb ?_)
     rw [hlo]; simp only [okl]; exact decide_eq_true hd
    ·refine ev_neg hd (hno ?_)
     rw [hlo]; simp only [okl]; rw [decide_eq_false hd, Bool.and_false]
  ·rw [if_neg hb]
   refine ev_neg (by decide) (hno ?_)
   simp only [Bool.not_eq_true] at hb
   rw [hb]; rfl
def endI (out : List Int) (o : Option (List Int)) : List Int × Bool := match o with
 | some s => (out ++ s, true)
 | none => ([], false)
theorem impl_PathThrough_l3 {ws : List Int} (hr : ∀ x ∈ ws, 0 ≤ x ∧ x < 1024) (hn : ws.Nodup) (hl : ws.length ≤ 12) : ∀ (f s : Nat) (out : List Int), s < 2 ^ ws.length → (∀ x ∈ out, 0 ≤ x ∧ x < 1024) → (remM ws s).length = f → out.length + f ≤ 12 →
  Ev (fun K => impl_PathThrough.l3 K ws (ws.length : Int) (tabS ws (2 ^ ws.length)) out (s : Int)) (endI out (bst f (lastO out) (remM ws s))) := by
 intro f
 induction f with
 | zero =>
  intro s out hs hout hf hol
  have h0 : s = 0 := by
   by_cases c : s = 0
   ·exact c
   ·have h := remM_pos hs c; rw [hf] at h; exact absurd h (Nat.lt_irrefl 0)
  subst h0
  refine ev_shift ?_
  simp only [impl_PathThrough.l3]
  exact ev_neg (by decide) (ev_some (by simp [bst, endI]))
 | succ f ih =>
  intro s out hs hout hf hol
  have h0 : s ≠ 0 := by
   intro c; subst c; rw [remM_zero] at hf; simp at hf
  have hs4 : s < 4096 := Nat.lt_of_lt_of_le hs (pow12 hl)
  have hol12 : out.length ≤ 12 := by clear hs; omega
  refine ev_shift ?_
  simp only [impl_PathThrough.l3]
  refine ev_pos (by clear hs; omega) ?_
  rw [pre64 (Nat.lt_of_le_of_lt hl (by decide))]
  refine impl_PathThrough_l4 hr hl hs hout hol12 _ ws.length (-1) (Nat.le_refl _) (fun d' hd' => ?_)
  have hfirst := bst_first hf (lastO out)
  refine ev_shift ?_
  simp only [impl_PathThrough.l4]
  refine ev_neg (by decide) ?_
  rw [hfirst]
  cases hfd : (List.range ws.length).find? fun i => can ws s i && okl (lastO out) (rd ws (i : Int)) with
  | none =>
   rw [hfd] at hd'
   simp only [foundZ] at hd'
   subst hd'
   exact ev_pos (by decide) (ev_some rfl)
  | some j =>
   rw [hfd] at hd'
   simp only [foundZ] at hd'
   subst hd'
   have hj : j < ws.length := by simpa using List.mem_of_find?_eq_some hfd
   have hj12 : j < 12 := Nat.lt_of_lt_of_le hj hl
   have hcj := List.find?_some hfd
   simp only [Bool.and_eq_true] at hcj
   have hb : s.testBit j = true := by
    have := hcj.1
    unfold can at this
    simp only [Bool.and_eq_true] at this
    exact this.1
   have hm : rd ws (j : Int) ∈ remM ws s := remM_mem.2 ⟨j, hj, hb, rfl⟩
   rw [shl_nat (Nat.lt_trans hj12 (by decide)), andNot_bit hs4 hj12 hb]
   have hj0 : ¬ (j : Int) < 0 := Int.not_lt.2 (Int.natCast_nonneg j)
   refine ev_neg hj0 (ev_pos (Int.natCast_nonneg j) (ev_pos (by exact_mod_cast hj) (ev_pos (Nat.lt_of_le_of_lt hol12 (by decide)) ?_)))
   have h5 := ih (s ^^^ 2 ^ j) (out ++ [rd ws (j : Int)]) (clr_lt hs hj) (fun x hx => by
    rcases List.mem_append.1 hx with hx | hx
    ·exact hout x hx
    ·simp only [List.mem_singleton] at hx; subst hx; exact hr _ (rd_mem hj)) (by rw [remM_clr hn hj hb, List.length_erase_of_mem hm, hf]; rfl) (by rw [List.length_append, List.length_singleton]; clear hs; omega)
   rw [remM_clr hn hj hb, lastO_snoc] at h5
   simp only
   have e : endI out ((bst f (some (rd ws (j : Int))) ((remM ws s).erase (rd ws (j : Int)))).map (rd ws (j : Int) :: ·)) = endI (out ++ [rd ws (j : Int)]) (bst f (some (rd ws (j : Int))) ((remM ws s).erase (rd ws (j : Int)))) := by
    cases bst f (some (rd ws (j : Int))) ((remM ws s).erase (rd ws (j : Int))) <;> simp [endI]
   rw [e]
   exact h5
theorem impl_PathThrough_ev (n : Int) (l : List Int) (hl : l.length ≤ 9000000000000000000) : Ev (fun k => impl_PathThrough.f k n l) (ppP n l) := by
 unfold impl_PathThrough.f
 refine ev_bind (impl_areWords_ev n l hl) ?_
 by_cases h : areW n l = true
 ·have hlen := (areW_iff.1 h).2.1
  have hrange := areW_range h
  refine ev_pos h (ev_bind0 (impl_within_eq _ _ _) ?_)
  by_cases h2 : inR (l.length : Int) 1 12 = true
  ·have h12 := inR_iff.1 h2
   refine ev_pos h2 (ev_bind0 (show impl_different.f l = some (decide l.Nodup) by unfold impl_different.f; rw [if_pos (by omega), incr_sortZ]) (ev_shift ?_))
   simp only [impl_PathThrough.j0]
   by_cases hn : l.Nodup
   ·refine ev_neg (by simp [hn]) (ev_bind0 (show slices_Values_int_int.f l = some l from rfl) (ev_bind0 (show slices_Sorted_int.f l = some (sortZ l) by unfold slices_Sorted_int.f; rw [if_pos (by omega)]) ?_))
    have hwl := sortZ_length l
    have hwn : (sortZ l).Nodup := (sortZ_perm l).nodup_iff.2 hn
    have hwr : ∀ x ∈ sortZ l, 0 ≤ x ∧ x < 1024 := fun x hx => hrange x ((sortZ_perm l).mem_iff.1 hx)
    have hgoal : ppP n l = endI [] (bst (sortZ l).length none (sortZ l)) := by
     unfold ppP
     rw [if_pos ⟨h, h2, hn⟩, hwl]
     cases bst l.length none (sortZ l) <;> rfl
    rw [hgoal]
    generalize sortZ l = ws at hwl hwn hwr
    have hp := pow12 (show ws.length ≤ 12 by omega)
    have h1p := Nat.two_pow_pos ws.length
    rw [shl_nat (by omega)]
    refine ev_pos (by omega) (ev_pos (by rw [Int.toNat_natCast]; omega) ?_)
    have e0 : List.replicate (((2 ^ ws.length : Nat) : Int)).toNat (0 : Int) = tabS ws 1 := by
     rw [Int.toNat_natCast, ← tabV_full, show en ws 0 ws.length = 0 from ?_, ← tabV_zero (by omega)]
     ·simp [tabS]
     ·apply Nat.eq_of_testBit_eq
      intro j
      rw [en_bit]
      simp [can]
    rw [e0]
    have h3 := impl_PathThrough_l3 hwr hwn (by omega) ws.length (2 ^ ws.length - 1) [] (by omega) (by simp) (by rw [remM_full]) (by simp; omega)
    rw [remM_full] at h3
    exact impl_PathThrough_l0 hwr hwn (by omega) _ h3 (2 ^ ws.length - 1) 1 (by omega)
   ·refine ev_pos (by simp [hn]) (ev_some ?_)
    unfold ppP
    rw [if_neg (fun c => hn c.2.2)]
  ·refine ev_neg h2 (ev_shift ?_)
   simp only [impl_PathThrough.j0]
   refine ev_pos trivial (ev_some ?_)
   unfold ppP
   rw [if_neg (fun c => h2 c.2.1)]
 ·refine ev_neg h (ev_shift ?_)
  simp only [impl_PathThrough.j0]
  refine ev_pos trivial (ev_some ?_)
  unfold ppP
  rw [if_neg (fun c => h c.1)]
theorem laws_uSame_ev (l : List Int) (hl : l.length ≤ 9000000000000000000) : Ev (fun k => laws_uSame.f k l l) true := by
 unfold laws_uSame.f
 refine ev_pos rfl ?_
 refine range_all hl (fun pre suf => Ev (fun k => laws_uSame.l0 k l l (l.length : Int) (pre.length : Int)) true) ?_ ?_
 ·refine ev_shift ?_
  simp only [laws_uSame.l0]
  exact ev_neg (by omega) (ev_some rfl)
 ·intro pre x suf h hx h1 h2 h3 ih
  refine ev_shift ?_
  simp only [laws_uSame.l0, h3]
  exact ev_pos h1 (ev_pos h2 (ev_pos h1 (ev_pos h1 (ev_pos (by trivial) ih))))
theorem laws_uHas_ev (l : List Int) (x : Int) (hl : l.length ≤ 9000000000000000000) : Ev (fun k => laws_uHas.f k l x) (l.contains x) := by
 unfold laws_uHas.f
 refine range_all hl (fun pre suf => Ev (fun k => laws_uHas.l0 k x l (l.length : Int) (pre.length : Int)) (suf.contains x)) ?_ ?_
 ·refine ev_shift ?_
  simp only [laws_uHas.l0]
  exact ev_neg (by omega) (ev_some rfl)
 ·intro pre y suf h hx h1 h2 h3 ih
  refine ev_shift ?_
  simp only [laws_uHas.l0, hx, h3]
  refine ev_pos h1 (ev_pos h2 (ev_pos h1 ?_))
  by_cases e : y = x
  ·exact ev_pos e (ev_some (by simp [e]))
  ·refine ev_neg e ?_
   have : (y :: suf).contains x = suf.contains x := by simp [Ne.symm e]
   rw [this]; exact ih
theorem ppP_good {n : Int} {l out : List Int} (h : ppP n l = (out, true)) : areW n l = true ∧ out.Perm l ∧ (dls out).isSome = true ∧ areW n out = true ∧ 2 * oddC l ≤ l.length + 1 ∧ l.length ≤ 2 * oddC l + 1 := by
 unfold ppP at h
 split at h
 ·rename_i hc
  cases hb : bst l.length none (sortZ l) with
  | none => rw [hb] at h; cases h
  | some s =>
   rw [hb] at h
   simp only [Prod.mk.injEq, and_true] at h
   subst h
   have hp := (bst_perm hb (sortZ_length l)).trans (sortZ_perm l)
   have hw := areW_iff.1 hc.1
   refine ⟨hc.1, hp, bst_dls hb, ?_, bst_halves (areW_range hc.1) hb⟩
   refine areW_iff.2 ⟨hw.1, by rw [hp.length_eq]; exact hw.2.1, allIn_iff.2 (fun x hx => allIn_iff.1 hw.2.2 x (hp.mem_iff.1 hx))⟩
 ·cases h
theorem FnPathsThroughWords : laws_FnPathsThroughWords.Pure := by
 intro c m hc1 hc2 hc3 hm1 hm2 hm3
 have hc : c.length ≤ 1000000000000000 := by omega
 apply ev_le
 unfold laws_FnPathsThroughWords.f
 rcases laws_big_eq c m hc3 hm3 (by omega) with hb | ⟨hb, wc, wm⟩
 ·exact ev_bind0 hb (ev_pos rfl (ev_some rfl))
 ·refine ev_bind0 hb (ev_neg (by decide) ?_)
  obtain ⟨n, l, ed, hl⟩ := dr_PathThrough wc
  refine ev_bind ed ?_
  refine ev_bind (impl_PathThrough_ev n l (by omega)) (ev_bind (spec_PathThrough_ev n l (by omega)) (ev_bind (impl_HalvesOf_ev n l (by omega)) (ev_bind (spec_HalvesOf_ev n l (by omega)) ?_)))
  have hlen := ppP_len n l
  obtain ⟨out, ok, hp⟩ : ∃ out ok, ppP n l = (out, ok) := ⟨_, _, rfl⟩
  rw [hp] at hlen ⊢
  simp only at hlen
  refine ev_neg neq_self (ev_bind (laws_uSame_ev out (by omega)) (ev_pos rfl (ev_neg neq_self (ev_pos rfl (ev_pos rfl ?_)))))
  cases ok with
  | false =>
   refine ev_neg (by simp) (ev_shift ?_)
   simp only [laws_FnPathsThroughWords.j0]
   exact ev_neg (by simp) (ev_neg (by simp) (ev_some rfl))
  | true =>
   obtain ⟨g1, g2, g3, g4, g5, g6⟩ := ppP_good hp
   have hv : hvP n l = ((l.length : Int) - (oddC l : Int), (oddC l : Int), true) := by unfold hvP; exact if_pos g1
   have ho := oddC_le l; have hol := g2.length_eq
   rw [hv]
   refine ev_pos rfl (ev_shift ?_)
   simp only [laws_FnPathsThroughWords.j0]
   rw [w64 (x := (l.length : Int) - (oddC l : Int) + (oddC l : Int)) (by omega) (by omega), w64 (x := (l.length : Int) - (oddC l : Int) - (oddC l : Int)) (by omega) (by omega), w64 (x := (oddC l : Int) - ((l.length : Int) - (oddC l : Int))) (by omega) (by omega)]
   refine ev_neg (by decide) (ev_pos trivial (ev_pos (by omega) (ev_neg (by omega) (ev_neg (by omega) (ev_shift ?_)))))
   simp only [laws_FnPathsThroughWords.j1]
   refine ev_neg (by rw [hol]; simp) ?_
   refine range_all (l := l) (by omega) (fun pre suf => Ev (fun k => laws_FnPathsThroughWords.l0 k n out l (l.length : Int) (pre.length : Int)) true) ?_ ?_
   ·refine ev_shift ?_
    simp only [laws_FnPathsThroughWords.l0]
    refine ev_neg (by omega) (ev_bind (impl_DeltasOf_ev n out (by omega)) (ev_some ?_))
    obtain ⟨d, hd⟩ := Option.isSome_iff_exists.1 g3
    unfold dfP
    rw [if_pos g4, hd]; rfl
   ·intro pre x suf hh hx g1' g2' g3' ih
    refine ev_shift ?_
    simp only [laws_FnPathsThroughWords.l0, hx, g3']
    refine ev_pos g1' (ev_pos g2' (ev_pos g1' (ev_bind (laws_uHas_ev out x (by omega)) (ev_pos ?_ ih))))
    rw [List.contains_iff_mem]
    exact g2.mem_iff.2 (by rw [hh]; simp)

end Go.Proofs.YtnhifbopicjicaaDoor.Pure
