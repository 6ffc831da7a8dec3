/- The law FnExactMoveBits returns true for every number and every two lists (reach and kinds as the row says); no condition of ours. -/
import Derived.Test.YtnhifbopicjicaaQFnExactMoveBitsx4
import Derived.Test.YtnhifbopicjicaaMth
import Derived.Test.YtnhifbopicjicaaMthMoved
import Derived.Test.YtnhifbopicjicaaMthPerm
set_option linter.unusedVariables false
set_option linter.unusedSimpArgs false
namespace Go.Proofs.Ytnhifbopicjicaa.Pure
open Go.RowKit Go.Proofs.Ytnhifbopicjicaa.Mth Go.Proofs.Ytnhifbopicjicaa.PFnExactMoveBits Go.Proofs.YtnhifbopicjicaaW.PrintWords Go.Proofs.YtnhifbopicjicaaW.PrintLast

theorem laws_toIntS_ev (l : List Int) (hl : l.length ≤ 1048576) : Ev (fun k => laws_toIntS.f k l) l := by
  unfold laws_toIntS.f
  refine ev_pos (by omega) (ev_pos (by omega) ?_)
  refine range_all (l := l) (by omega) (fun pre suf => Ev (fun k => laws_toIntS.l0 k l (pre ++ List.replicate suf.length 0) (pre.length : Int)) l) ?_ ?_
  · refine ev_shift ?_
    simp only [laws_toIntS.l0]
    exact ev_neg (by omega) (ev_some (by simp))
  · intro pre x suf h hx h1 h2 h3 ih
    refine ev_shift ?_
    simp only [laws_toIntS.l0, hx, h3, List.length_cons, List.replicate_succ, set_at]
    refine ev_pos h1 (ev_pos h2 (ev_pos (by simp; omega) ?_))
    simpa using ih
theorem laws_eqIntS_ev (l : List Int) (hl : l.length ≤ 9000000000000000000) : Ev (fun k => laws_eqIntS.f k l l) true := by
  unfold laws_eqIntS.f
  refine ev_pos rfl ?_
  refine range_all hl (fun pre suf => Ev (fun k => laws_eqIntS.l0 k l l (pre.length : Int)) true) ?_ ?_
  · refine ev_shift ?_
    simp only [laws_eqIntS.l0]
    exact ev_neg (by omega) (ev_some rfl)
  · intro pre x suf h hx h1 h2 h3 ih
    refine ev_shift ?_
    simp only [laws_eqIntS.l0, h3]
    exact ev_pos h1 (ev_pos h2 (ev_pos h1 (ev_pos (by trivial) ih)))
theorem laws_markIntS_ev (l : List Int) (m : Int) (h0 : 0 ≤ m) (h1 : m ≤ 1000000000000000000) (hl : l.length ≤ 1000000000000000000) : Ev (fun k => laws_markIntS.f k l m) (m + (l.length : Int), marks l.length m) := by
  have key : (fun (pre suf : List Int) => l.length = pre.length + suf.length → Ev (fun k => laws_markIntS.l0 k (marks pre.length m ++ suf) (m + (pre.length : Int)) (pre.length : Int)) (m + (l.length : Int), marks l.length m)) [] l := by
    refine range_all (l := l) (by omega) (fun pre suf => l.length = pre.length + suf.length → Ev (fun k => laws_markIntS.l0 k (marks pre.length m ++ suf) (m + (pre.length : Int)) (pre.length : Int)) (m + (l.length : Int), marks l.length m)) ?_ ?_
    · intro _
      refine ev_shift ?_
      simp only [laws_markIntS.l0]
      exact ev_neg (by simp [marks_length]) (ev_some (by simp))
    · intro pre x suf h hx h1 h2 h3 ih hlen
      simp only [List.length_cons] at hlen
      refine ev_shift ?_
      have e : (marks pre.length m ++ x :: suf).set (pre.length : Int).toNat (m + (pre.length : Int)) = marks (pre ++ [x]).length m ++ suf := by
        have := set_at (marks pre.length m) x (m + (pre.length : Int)) suf
        rw [marks_length] at this
        rw [this, List.length_append, List.length_singleton, marks_snoc]; simp
      simp only [laws_markIntS.l0, h3, e]
      refine ev_pos (by simp [marks_length]; omega) (ev_pos h2 ?_)
      rw [w64 (by omega) (by omega)]
      have := ih (by simp; omega)
      simp only [List.length_append, List.length_singleton] at this ⊢
      rw [show m + (pre.length : Int) + 1 = m + ((pre.length + 1 : Nat) : Int) by omega]
      exact this
  have := key (by simp)
  unfold laws_markIntS.f
  simpa [marks] using this
theorem laws_heldIntS_ev (n : Nat) (m : Int) (h0 : 0 ≤ m) (h1 : m ≤ 1000000000000000000) (hl : n ≤ 1000000000000000000) : Ev (fun k => laws_heldIntS.f k (marks n m) m) (m + (n : Int)) := by
  have key : (fun (pre suf : List Int) => n = pre.length + suf.length → Ev (fun k => laws_heldIntS.l0 k (marks n m) (m + (pre.length : Int)) (pre.length : Int)) (m + (n : Int))) [] (marks n m) := by
    refine range_all (l := marks n m) (by rw [marks_length]; omega) (fun pre suf => n = pre.length + suf.length → Ev (fun k => laws_heldIntS.l0 k (marks n m) (m + (pre.length : Int)) (pre.length : Int)) (m + (n : Int))) ?_ ?_
    · intro _
      refine ev_shift ?_
      simp only [laws_heldIntS.l0, marks_length]
      exact ev_neg (by omega) (ev_some (by simp))
    · intro pre x suf h hx h1 h2 h3 ih hlen
      simp only [List.length_cons] at hlen
      refine ev_shift ?_
      have e : rd (marks n m) (pre.length : Int) = m + (pre.length : Int) := marks_rd n m pre.length (by omega)
      simp only [laws_heldIntS.l0, h3, e]
      refine ev_pos h1 (ev_pos h2 (ev_pos (by trivial) ?_))
      rw [w64 (by omega) (by omega)]
      have := ih (by simp; omega)
      simp only [List.length_append, List.length_singleton] at this ⊢
      rw [show m + (pre.length : Int) + 1 = m + ((pre.length + 1 : Nat) : Int) by omega]
      exact this
  have := key (by simp [marks_length])
  unfold laws_heldIntS.f
  simpa [marks] using this
theorem spec_l1In_eq (a b c : Int) : spec_l1In.f a b c = some (inR a b c) := in_ite a b c
theorem spec_gcBits_eq (a : Int) : spec_gcBits.f a = some (inR a 1 10) := by simp only [spec_gcBits.f, spec_l1In_eq, Option.bind_some]
theorem spec_l1All_ev (l : List Int) (lo hi : Int) (hl : l.length ≤ 9000000000000000000) : Ev (fun k => spec_l1All.f k l lo hi) (allIn l lo hi) := by
  refine range_all hl (fun pre suf => Ev (fun k => spec_l1All.l0 k lo hi l (l.length : Int) (pre.length : Int)) (allIn suf lo hi)) ?_ ?_
  · refine ev_shift ?_
    simp only [spec_l1All.l0]
    exact ev_neg (by omega) (ev_some rfl)
  · intro pre x suf h hx h1 h2 h3 ih
    refine ev_shift ?_
    simp only [spec_l1All.l0, hx, h3, spec_l1In_eq, Option.bind_some, allIn_cons]
    refine ev_pos h1 (ev_pos h2 (ev_pos h1 ?_))
    cases inR x lo hi with
    | true => exact ev_pos rfl ih
    | false => exact ev_neg (by simp) (ev_some rfl)
theorem spec_gcWords_ev (n : Int) (l : List Int) (hl : l.length ≤ 9000000000000000000) : Ev (fun k => spec_gcWords.f k n l) (areW n l) := by
  unfold spec_gcWords.f areW
  refine ev_bind0 (spec_gcBits_eq _) ?_
  by_cases h : inR n 1 10 = true
  · have h' := inR_iff.1 h
    refine ev_pos h ?_
    rw [h, Bool.true_and]
    by_cases hlen : (l.length : Int) ≤ 1100
    · refine ev_pos hlen (ev_pos (by omega) (ev_bind (spec_l1All_ev l 0 _ hl) (ev_some ?_)))
      rw [decide_eq_true hlen, Bool.true_and]; rfl
    · exact ev_neg hlen (ev_some (by rw [decide_eq_false hlen]; rfl))
  · refine ev_neg h (ev_some ?_)
    simp only [Bool.not_eq_true] at h
    rw [h]; rfl
theorem impl_within_eq (a b c : Int) : impl_within.f a b c = some (inR a b c) := in_ite a b c
theorem impl_isBits_eq (a : Int) : impl_isBits.f a = some (inR a 1 10) := by simp only [impl_isBits.f, impl_within_eq, Option.bind_some]
theorem impl_allWithin_ev (l : List Int) (lo hi : Int) (hl : l.length ≤ 9000000000000000000) : Ev (fun k => impl_allWithin.f k l lo hi) (allIn l lo hi) := by
  refine range_all hl (fun pre suf => Ev (fun k => impl_allWithin.l0 k lo hi l (l.length : Int) (pre.length : Int)) (allIn suf lo hi)) ?_ ?_
  · refine ev_shift ?_
    simp only [impl_allWithin.l0]
    exact ev_neg (by omega) (ev_some rfl)
  · intro pre x suf h hx h1 h2 h3 ih
    refine ev_shift ?_
    simp only [impl_allWithin.l0, hx, h3, impl_within_eq, Option.bind_some, allIn_cons]
    refine ev_pos h1 (ev_pos h2 (ev_pos h1 ?_))
    cases inR x lo hi with
    | true => exact ev_pos rfl ih
    | false => exact ev_neg (by simp) (ev_some rfl)
theorem impl_areWords_ev (n : Int) (l : List Int) (hl : l.length ≤ 9000000000000000000) : Ev (fun k => impl_areWords.f k n l) (areW n l) := by
  unfold impl_areWords.f areW
  refine ev_bind0 (impl_isBits_eq _) ?_
  by_cases h : inR n 1 10 = true
  · have h' := inR_iff.1 h
    refine ev_pos h ?_
    rw [h, Bool.true_and]
    by_cases hlen : (l.length : Int) ≤ 1100
    · refine ev_pos hlen (ev_pos (by omega) (ev_bind (impl_allWithin_ev l 0 _ hl) (ev_some ?_)))
      rw [decide_eq_true hlen, Bool.true_and]; rfl
    · exact ev_neg hlen (ev_some (by rw [decide_eq_false hlen]; rfl))
  · refine ev_neg h (ev_some ?_)
    simp only [Bool.not_eq_true] at h
    rw [h]; rfl
theorem spec_l1Has_ev (l : List Int) (x : Int) (hl : l.length ≤ 9000000000000000000) : Ev (fun k => spec_l1Has.f k l x) (l.contains x) := by
  refine range_all hl (fun pre suf => Ev (fun k => spec_l1Has.l0 k x l (l.length : Int) (pre.length : Int)) (suf.contains x)) ?_ ?_
  · refine ev_shift ?_
    simp only [spec_l1Has.l0]
    exact ev_neg (by omega) (ev_some rfl)
  · intro pre y suf h hx h1 h2 h3 ih
    refine ev_shift ?_
    simp only [spec_l1Has.l0, hx, h3]
    refine ev_pos h1 (ev_pos h2 (ev_pos h1 ?_))
    by_cases e : y = x
    · exact ev_pos e (ev_some (by simp [e]))
    · refine ev_neg e ?_
      have : (y :: suf).contains x = suf.contains x := by simp [Ne.symm e]
      rw [this]; exact ih
theorem spec_raPermutation_ev (l : List Int) (hl : l.length ≤ 9000000000000000000) : Ev (fun k => spec_raPermutation.f k l) (isPermB l) := by
  rw [← raPerm_eq]
  have key : ∀ suf pre, l = pre ++ suf → pre.length ≤ 12 → Ev (fun k => spec_raPermutation.l0 k l l (l.length : Int) (pre.length : Int)) (decide (l.length ≤ 12) && raPermF (l.length : Int) pre suf) := by
    refine range_ind hl (fun pre suf => pre.length ≤ 12 → Ev (fun k => spec_raPermutation.l0 k l l (l.length : Int) (pre.length : Int)) (decide (l.length ≤ 12) && raPermF (l.length : Int) pre suf)) ?_ ?_
    · intro hp
      refine ev_shift ?_
      simp only [spec_raPermutation.l0]
      exact ev_neg (by omega) (ev_some (by rw [decide_eq_true hp]; rfl))
    · intro pre x suf h hx h1 h2 h3 ih hp
      have htake : l.take (pre.length : Int).toNat = pre := by rw [h, Int.toNat_natCast, List.take_left' rfl]
      refine ev_shift ?_
      simp only [spec_raPermutation.l0, hx, h3, htake]
      rw [w64 (by omega) (by omega)]
      refine ev_pos h1 (ev_pos h2 (ev_pos h1 ?_))
      by_cases h12 : pre.length < 12
      · refine ev_neg (by omega) (ev_bind0 (spec_l1In_eq _ _ _) ?_)
        simp only [raPermF]
        cases hr : inR x 0 ((l.length : Int) - 1) with
        | false => exact ev_neg (by simp) (ev_some (by simp))
        | true =>
          refine ev_pos rfl (ev_pos (by omega) (ev_bind (spec_l1Has_ev pre x (by omega)) ?_))
          cases hc : pre.contains x with
          | true => exact ev_pos rfl (ev_some (by simp))
          | false =>
            refine ev_neg (by simp) ?_
            have := ih (by simp; omega)
            simpa using this
      · refine ev_pos (by omega) (ev_some ?_)
        rw [decide_eq_false (by omega)]; rfl
  exact key l [] rfl (by simp)
theorem shr_bit (w i : Nat) (hw : w < 1024) (hi : i ≤ 12) : shr .i64 (w : Int) (i : Int) = ((w / 2 ^ i : Nat) : Int) := by
  unfold shr
  rw [Int.toNat_natCast, Nat.min_eq_left (show i ≤ IntKind.i64.bits by have : IntKind.i64.bits = 64 := rfl; omega)]
  simp
theorem bit_term (w i : Nat) (k : Int) (hw : w < 1024) (hi : i ≤ 12) (h0 : 0 ≤ k) (h1 : k < 12) : shl .i64 (Go.bits .and .i64 (shr .i64 (w : Int) (i : Int)) 1) k = ((if w.testBit i = true then 2 ^ k.toNat else 0 : Nat) : Int) := by
  have hd : w / 2 ^ i < 2 ^ 62 := Nat.lt_of_le_of_lt (Nat.div_le_self _ _) (Nat.lt_trans hw (by decide))
  have e1 : Go.bits .and .i64 ((w / 2 ^ i : Nat) : Int) 1 = ((w / 2 ^ i % 2 : Nat) : Int) := by
    have := and_nat hd (show 1 < 2 ^ 62 by decide)
    rw [Nat.and_one_is_mod] at this
    exact this
  have e2 : w.testBit i = decide (w / 2 ^ i % 2 = 1) := by rw [Nat.testBit_eq_decide_div_mod_eq]
  obtain ⟨q, rfl⟩ := Int.eq_ofNat_of_zero_le h0
  rw [shr_bit w i hw hi, e1, e2, Int.toNat_natCast]
  have hq : q < 12 := by omega
  have t : ∀ q : Fin 12, shl .i64 ((0 : Nat) : Int) (q.1 : Int) = 0 ∧ shl .i64 ((1 : Nat) : Int) (q.1 : Int) = ((2 ^ q.1 : Nat) : Int) := by decide +kernel
  have tq := t ⟨q, hq⟩
  simp only at tq
  rcases Nat.mod_two_eq_zero_or_one (w / 2 ^ i) with h | h
  · rw [h, tq.1, if_neg (by decide)]; rfl
  · rw [h, tq.2, if_pos (by decide)]
theorem spec_gcMoved_ev (w : Nat) (hw : w < 1024) (tt : List Int) (h : isPermB tt = true) : Ev (fun k => spec_gcMoved.f k (w : Int) tt) (mvO w 0 tt : Int) := by
  obtain ⟨h12, hr, hnd⟩ := isPermB_iff'.1 h
  have key : ∀ suf pre, tt = pre ++ suf → ∀ a : Nat, a < 4096 → (∀ x ∈ suf, a.testBit x.toNat = false) → Ev (fun k => spec_gcMoved.l0 k (w : Int) (a : Int) tt (tt.length : Int) (pre.length : Int)) ((a ||| mvO w pre.length suf : Nat) : Int) := by
    refine range_ind (by omega) (fun pre suf => ∀ a : Nat, a < 4096 → (∀ x ∈ suf, a.testBit x.toNat = false) → Ev (fun k => spec_gcMoved.l0 k (w : Int) (a : Int) tt (tt.length : Int) (pre.length : Int)) ((a ||| mvO w pre.length suf : Nat) : Int)) ?_ ?_
    · intro a _ _
      refine ev_shift ?_
      simp only [spec_gcMoved.l0]
      exact ev_neg (by omega) (ev_some (by simp [mvO]))
    · intro pre x suf hh hx h1 h2 h3 ih a ha hb
      have hxr := hr x (by rw [hh]; simp)
      have hlen : tt.length = pre.length + suf.length + 1 := by rw [hh]; simp; omega
      have et := bit_term w pre.length x hw (by omega) hxr.1 (by omega)
      have hnx : ∀ y ∈ suf, y.toNat ≠ x.toNat := by
        intro y hy he
        have hyr := hr y (by rw [hh]; simp [hy])
        rw [hh, List.nodup_append] at hnd
        have := (List.nodup_cons.1 hnd.2.1).1
        have e : x = y := by omega
        exact this (by rw [e]; exact hy)
      have hbx := hb x (by simp)
      obtain ⟨t, ht⟩ : ∃ t : Nat, t = (if w.testBit pre.length = true then 2 ^ x.toNat else 0) := ⟨_, rfl⟩
      have hsum : a + t = a ||| t := by
        rw [ht]
        split
        · exact (or_add hbx).symm
        · simp
      have htl : t < 4096 := by
        rw [ht]; split
        · exact pow_lt12 (by omega)
        · decide
      have hor : a ||| t < 4096 := Nat.or_lt_two_pow (n := 12) ha htl
      have e2 : wrap64 ((a : Int) + (t : Int)) = ((a ||| t : Nat) : Int) := by rw [w64 (by omega) (by omega), ← hsum]; omega
      refine ev_shift ?_
      simp only [spec_gcMoved.l0, hx, h3, et]
      rw [← ht, e2]
      refine ev_pos h1 (ev_pos h2 (ev_pos h1 (ev_pos hxr.1 ?_)))
      have := ih (a ||| t) hor (fun y hy => by
        rw [Nat.testBit_or, hb y (by simp [hy]), Bool.false_or, ht]
        split
        · rw [Nat.testBit_two_pow, decide_eq_false_iff_not]; exact fun e => hnx y hy e.symm
        · simp)
      rw [List.length_append, List.length_singleton] at this
      rw [mvO, ← ht, ← Nat.or_assoc, List.length_append, List.length_singleton]
      exact this
  have := key tt [] rfl 0 (by decide) (fun x _ => Nat.zero_testBit _)
  unfold spec_gcMoved.f
  simpa using this
theorem impl_MoveBits_1_eq (w : Nat) (hw : w < 1024) (tt : List Int) (h : isPermB tt = true) : impl_MoveBits_1.f 20 (w : Int) tt = some (mvO w 0 tt : Int) := by
  obtain ⟨h12, hr, hnd⟩ := isPermB_iff'.1 h
  have key : ∀ (suf pre : List Int), tt = pre ++ suf → ∀ (k a : Nat), suf.length < k → a < 4096 → impl_MoveBits_1.l0 k (w : Int) (a : Int) tt (pre.length : Int) = some ((a ||| mvO w pre.length suf : Nat) : Int) := by
    intro suf
    induction suf with
    | nil =>
      intro pre hh k a hk ha
      obtain ⟨k, rfl⟩ : ∃ m, k = m + 1 := ⟨k - 1, by omega⟩
      simp only [impl_MoveBits_1.l0]
      rw [if_neg (by rw [hh]; simp)]
      simp [mvO]
    | cons x suf ih =>
      intro pre hh k a hk ha
      obtain ⟨k, rfl⟩ : ∃ m, k = m + 1 := ⟨k - 1, by omega⟩
      have hxr := hr x (by rw [hh]; simp)
      have hlen : tt.length = pre.length + suf.length + 1 := by rw [hh]; simp; omega
      have hx : rd tt (pre.length : Int) = x := by rw [hh]; exact rd_at _ _ _
      have et := bit_term w pre.length x hw (by omega) hxr.1 (by omega)
      obtain ⟨t, ht⟩ : ∃ t : Nat, t = (if w.testBit pre.length = true then 2 ^ x.toNat else 0) := ⟨_, rfl⟩
      have htl : t < 4096 := by
        rw [ht]; split
        · exact pow_lt12 (by omega)
        · decide
      have hor : a ||| t < 4096 := Nat.or_lt_two_pow (n := 12) ha htl
      have e2 : Go.bits .or .i64 (a : Int) (t : Int) = ((a ||| t : Nat) : Int) := or_nat (by omega) (by omega)
      have h3 : wrap64 ((pre.length : Int) + 1) = ((pre ++ [x]).length : Int) := by rw [w64 (by omega) (by omega)]; simp
      simp only [impl_MoveBits_1.l0, hx, h3, et]
      rw [← ht, e2, if_pos (by omega), if_pos (by omega), if_pos hxr.1]
      have := ih (pre ++ [x]) (by rw [hh]; simp) k (a ||| t) (by simp only [List.length_cons] at hk; omega) hor
      rw [this, mvO, ← ht, ← Nat.or_assoc, List.length_append, List.length_singleton]
  have := key tt [] rfl 20 0 (by omega) (by decide)
  simpa [impl_MoveBits_1.f] using this
theorem spec_MoveBits_ev (n : Int) (l tt : List Int) (hl : l.length ≤ 9000000000000000000) (ht : tt.length ≤ 9000000000000000000) : Ev (fun j => spec_MoveBits.f j n l tt) (mvP n l tt) := by
  unfold spec_MoveBits.f mvP
  have bad : ¬ (areW n l = true ∧ isPermB tt = true ∧ (tt.length : Int) = n) → Ev (fun k => spec_MoveBits.j0 k l tt true) (if areW n l = true ∧ isPermB tt = true ∧ (tt.length : Int) = n then (l.map fun w => (mvO w.toNat 0 tt : Int), true) else ([], false)) := by
    intro h
    rw [if_neg h]
    refine ev_shift ?_
    simp only [spec_MoveBits.j0]
    exact ev_pos (by trivial) (ev_some rfl)
  refine ev_bind (spec_gcWords_ev n l hl) ?_
  by_cases h : areW n l = true
  · refine ev_pos h (ev_bind (spec_raPermutation_ev tt ht) ?_)
    by_cases hp : isPermB tt = true
    · refine ev_pos hp ?_
      by_cases he : (tt.length : Int) = n
      · rw [show ((tt.length : Int) != n) = false by simp [he], if_pos ⟨h, hp, he⟩]
        refine ev_shift ?_
        simp only [spec_MoveBits.j0]
        refine ev_neg Bool.false_ne_true ?_
        have hr := areW_range h
        have key : ∀ suf pre, l = pre ++ suf → Ev (fun k => spec_MoveBits.l0 k tt (pre.map fun w => (mvO w.toNat 0 tt : Int)) l (l.length : Int) (pre.length : Int)) (l.map fun w => (mvO w.toNat 0 tt : Int), true) := by
          refine range_ind hl (fun pre suf => Ev (fun k => spec_MoveBits.l0 k tt (pre.map fun w => (mvO w.toNat 0 tt : Int)) l (l.length : Int) (pre.length : Int)) (l.map fun w => (mvO w.toNat 0 tt : Int), true)) ?_ ?_
          · refine ev_shift ?_
            simp only [spec_MoveBits.l0]
            exact ev_neg (by omega) (ev_some rfl)
          · intro pre x suf hh hx h1 h2 h3 ih
            have hxr := hr x (by rw [hh]; simp)
            have hll := (areW_iff.1 h).2.1
            obtain ⟨q, rfl⟩ := Int.eq_ofNat_of_zero_le hxr.1
            refine ev_shift ?_
            simp only [spec_MoveBits.l0, hx, h3]
            refine ev_pos h1 (ev_pos h2 (ev_pos h1 (ev_bind (spec_gcMoved_ev q (by omega) tt hp) (ev_pos (by rw [List.length_map]; omega) ?_))))
            simpa only [List.map_append, List.map_cons, List.map_nil, Int.toNat_natCast] using ih
        exact key l [] rfl
      · rw [show ((tt.length : Int) != n) = true by simp [he]]
        exact bad (fun c => he c.2.2)
    · exact ev_neg hp (bad (fun c => hp c.2.1))
  · exact ev_neg h (bad (fun c => h c.1))
theorem impl_MoveBits_ev (n : Int) (l tt : List Int) (hl : l.length ≤ 9000000000000000000) : Ev (fun j => impl_MoveBits.f j n l tt) (mvP n l tt) := by
  unfold impl_MoveBits.f mvP
  refine ev_bind (impl_areWords_ev n l hl) ?_
  by_cases h : areW n l = true
  · refine ev_pos h ?_
    by_cases he : (tt.length : Int) = n
    · refine ev_pos he (ev_bind0 (show impl_IsPermutation.f tt = some (isPermB tt) from rfl) ?_)
      by_cases hp : isPermB tt = true
      · have hr := areW_range h
        have hll := (areW_iff.1 h).2.1
        have eq1 : ∀ x ∈ l, impl_MoveBits_1.f 20 x tt = some (mvO x.toNat 0 tt : Int) := by
          intro x hx
          have hxr := hr x hx
          obtain ⟨q, rfl⟩ := Int.eq_ofNat_of_zero_le hxr.1
          rw [Int.toNat_natCast]
          exact impl_MoveBits_1_eq q (by omega) tt hp
        refine ev_pos hp (ev_pos ⟨by omega, fun x hx => by rw [eq1 x hx]; rfl⟩ (ev_some ?_))
        rw [if_pos ⟨h, hp, he⟩]
        congr 1
        apply List.map_congr_left
        intro x hx
        rw [eq1 x hx]; rfl
      · exact ev_neg hp (ev_some (by rw [if_neg (fun c => hp c.2.1)]))
    · exact ev_neg he (ev_some (by rw [if_neg (fun c => he c.2.2)]))
  · exact ev_neg h (ev_some (by rw [if_neg (fun c => h c.1)]))
theorem FnExactMoveBits : laws_FnExactMoveBits.Pure := by
  intro n l tt hn hl1 hl2 hl ht1 ht2 ht
  apply ev_le
  unfold laws_FnExactMoveBits.f
  by_cases hb : (l.length : Int) > 1048576
  · exact ev_pos hb (ev_some rfl)
  refine ev_neg hb ?_
  by_cases hb2 : (tt.length : Int) > 1048576
  · exact ev_pos hb2 (ev_some rfl)
  have hs := spec_MoveBits_ev n l tt (by omega) (by omega)
  have hi := impl_MoveBits_ev n l tt (by omega)
  have hlen := mvP_len n l tt
  generalize mvP n l tt = p at hs hi hlen
  obtain ⟨out, ok⟩ := p
  simp only at hlen
  refine ev_neg hb2 ?_
  repeat (first
      | exact ev_some rfl
      | refine ev_bind (laws_toIntS_ev _ (by omega)) ?_
      | refine ev_bind (laws_eqIntS_ev _ (by omega)) ?_
      | refine ev_bind (laws_markIntS_ev _ _ (by omega) (by omega) (by omega)) ?_
      | refine ev_bind (laws_heldIntS_ev _ _ (by omega) (by omega) (by omega)) ?_
      | refine ev_bind hs ?_
      | refine ev_bind hi ?_
      | refine ev_pos rfl ?_
      | refine ev_pos trivial ?_
      | refine ev_neg neq_self ?_
      | dsimp only
      | refine ev_neg (by omega) ?_
      | (refine ev_shift ?_; simp only [laws_FnExactMoveBits.j0, laws_FnExactMoveBits.j1, laws_FnExactMoveBits.j2]))

end Go.Proofs.Ytnhifbopicjicaa.Pure
