/- The law FnExactHalvesOf returns true for every number and list (reach and kinds as the row says); no condition of ours. -/
import Derived.Test.YtdalaiooakclmaaQFnExactHalvesOfx2
import Derived.Test.YtdalaiooakclmaaMth
import Derived.Test.YtdalaiooakclmaaMthPop
set_option linter.unusedVariables false
set_option linter.unusedSimpArgs false
namespace Go.Proofs.Ytdalaiooakclmaa.Pure
open Go.RowKit Go.Proofs.Ytdalaiooakclmaa.Mth Go.Proofs.Ytdalaiooakclmaa.PFnExactHalvesOf Go.Proofs.YtdalaiooakclmaaW.PrintWords Go.Proofs.YtdalaiooakclmaaW.PrintLast

theorem laws_toIntS_ev (l : List Int) (hl : l.length ≤ 1048576) : Ev (fun k => laws_toIntS.f k l) l := by
  unfold laws_toIntS.f
  refine ev_pos (by omega) (ev_pos (by omega) ?_)
  refine range_all (l := l) (by omega) (fun pre suf => Ev (fun k => laws_toIntS.l0 k l (pre ++ List.replicate suf.length 0) (pre.length : Int)) l) ?_ ?_
  · refine ev_shift ?_
    simp only [laws_toIntS.l0]
    exact ev_neg (by omega) (ev_some (by simp))
  · intro pre x suf h hx h1 h2 h3 ih
    refine ev_shift ?_
    simp only [laws_toIntS.l0, hx, h3, List.length_cons, List.replicate_succ, set_at]
    refine ev_pos h1 (ev_pos h2 (ev_pos (by simp; omega) ?_))
    simpa using ih
theorem laws_eqIntS_ev (l : List Int) (hl : l.length ≤ 9000000000000000000) : Ev (fun k => laws_eqIntS.f k l l) true := by
  unfold laws_eqIntS.f
  refine ev_pos rfl ?_
  refine range_all hl (fun pre suf => Ev (fun k => laws_eqIntS.l0 k l l (pre.length : Int)) true) ?_ ?_
  · refine ev_shift ?_
    simp only [laws_eqIntS.l0]
    exact ev_neg (by omega) (ev_some rfl)
  · intro pre x suf h hx h1 h2 h3 ih
    refine ev_shift ?_
    simp only [laws_eqIntS.l0, h3]
    exact ev_pos h1 (ev_pos h2 (ev_pos h1 (ev_pos (by trivial) ih)))
theorem spec_l1In_eq (a b c : Int) : spec_l1In.f a b c = some (inR a b c) := in_ite a b c
theorem spec_gcBits_eq (a : Int) : spec_gcBits.f a = some (inR a 1 10) := by simp only [spec_gcBits.f, spec_l1In_eq, Option.bind_some]
theorem spec_l1All_ev (l : List Int) (lo hi : Int) (hl : l.length ≤ 9000000000000000000) : Ev (fun k => spec_l1All.f k l lo hi) (allIn l lo hi) := by
  refine range_all hl (fun pre suf => Ev (fun k => spec_l1All.l0 k lo hi l (l.length : Int) (pre.length : Int)) (allIn suf lo hi)) ?_ ?_
  · refine ev_shift ?_
    simp only [spec_l1All.l0]
    exact ev_neg (by omega) (ev_some rfl)
  · intro pre x suf h hx h1 h2 h3 ih
    refine ev_shift ?_
    simp only [spec_l1All.l0, hx, h3, spec_l1In_eq, Option.bind_some, allIn_cons]
    refine ev_pos h1 (ev_pos h2 (ev_pos h1 ?_))
    cases inR x lo hi with
    | true => exact ev_pos rfl ih
    | false => exact ev_neg (by simp) (ev_some rfl)
theorem spec_gcWords_ev (n : Int) (l : List Int) (hl : l.length ≤ 9000000000000000000) : Ev (fun k => spec_gcWords.f k n l) (areW n l) := by
  unfold spec_gcWords.f areW
  refine ev_bind0 (spec_gcBits_eq _) ?_
  by_cases h : inR n 1 10 = true
  · have h' := inR_iff.1 h
    refine ev_pos h ?_
    rw [h, Bool.true_and]
    by_cases hlen : (l.length : Int) ≤ 1100
    · refine ev_pos hlen (ev_pos (by omega) (ev_bind (spec_l1All_ev l 0 _ hl) (ev_some ?_)))
      rw [decide_eq_true hlen, Bool.true_and]; rfl
    · exact ev_neg hlen (ev_some (by rw [decide_eq_false hlen]; rfl))
  · refine ev_neg h (ev_some ?_)
    simp only [Bool.not_eq_true] at h
    rw [h]; rfl
theorem impl_within_eq (a b c : Int) : impl_within.f a b c = some (inR a b c) := in_ite a b c
theorem impl_isBits_eq (a : Int) : impl_isBits.f a = some (inR a 1 10) := by simp only [impl_isBits.f, impl_within_eq, Option.bind_some]
theorem impl_allWithin_ev (l : List Int) (lo hi : Int) (hl : l.length ≤ 9000000000000000000) : Ev (fun k => impl_allWithin.f k l lo hi) (allIn l lo hi) := by
  refine range_all hl (fun pre suf => Ev (fun k => impl_allWithin.l0 k lo hi l (l.length : Int) (pre.length : Int)) (allIn suf lo hi)) ?_ ?_
  · refine ev_shift ?_
    simp only [impl_allWithin.l0]
    exact ev_neg (by omega) (ev_some rfl)
  · intro pre x suf h hx h1 h2 h3 ih
    refine ev_shift ?_
    simp only [impl_allWithin.l0, hx, h3, impl_within_eq, Option.bind_some, allIn_cons]
    refine ev_pos h1 (ev_pos h2 (ev_pos h1 ?_))
    cases inR x lo hi with
    | true => exact ev_pos rfl ih
    | false => exact ev_neg (by simp) (ev_some rfl)
theorem impl_areWords_ev (n : Int) (l : List Int) (hl : l.length ≤ 9000000000000000000) : Ev (fun k => impl_areWords.f k n l) (areW n l) := by
  unfold impl_areWords.f areW
  refine ev_bind0 (impl_isBits_eq _) ?_
  by_cases h : inR n 1 10 = true
  · have h' := inR_iff.1 h
    refine ev_pos h ?_
    rw [h, Bool.true_and]
    by_cases hlen : (l.length : Int) ≤ 1100
    · refine ev_pos hlen (ev_pos (by omega) (ev_bind (impl_allWithin_ev l 0 _ hl) (ev_some ?_)))
      rw [decide_eq_true hlen, Bool.true_and]; rfl
    · exact ev_neg hlen (ev_some (by rw [decide_eq_false hlen]; rfl))
  · refine ev_neg h (ev_some ?_)
    simp only [Bool.not_eq_true] at h
    rw [h]; rfl
theorem bits_OnesCount_table : ∀ w : Fin 1024, bits_OnesCount.f (IntKind.u64.wrap (w.1 : Int)) = some (popc 10 w.1 : Int) := by decide +kernel
theorem spec_gcOdd_ev (w : Nat) (h : w < 1024) : Ev (fun k => spec_gcOdd.f k (w : Int)) (popc 10 w % 2 == 1) := by
  have t : ∀ w : Fin 1024, spec_gcOdd.f 20 (w.1 : Int) = some (popc 10 w.1 % 2 == 1) := by decide +kernel
  exact Ev.of (spec_gcOdd.mono _) (t ⟨w, h⟩)
theorem spec_gcHalves_ev (l : List Int) (hr : ∀ x ∈ l, 0 ≤ x ∧ x < 1024) (hl : l.length ≤ 1000000) : Ev (fun k => spec_gcHalves.f k l) ((l.length : Int) - (oddC l : Int), (oddC l : Int)) := by
  have key : ∀ suf pre, l = pre ++ suf → ∀ e o : Nat, e + o = pre.length → o + oddC suf = oddC l → Ev (fun k => spec_gcHalves.l0 k (e : Int) (o : Int) l (l.length : Int) (pre.length : Int)) ((l.length : Int) - (oddC l : Int), (oddC l : Int)) := by
    refine range_ind (by omega) (fun pre suf => ∀ e o : Nat, e + o = pre.length → o + oddC suf = oddC l → Ev (fun k => spec_gcHalves.l0 k (e : Int) (o : Int) l (l.length : Int) (pre.length : Int)) ((l.length : Int) - (oddC l : Int), (oddC l : Int))) ?_ ?_
    · intro e o h1 h2
      simp only [oddC] at h2
      refine ev_shift ?_
      simp only [spec_gcHalves.l0]
      refine ev_neg (by omega) (ev_some ?_)
      rw [show (e : Int) = (l.length : Int) - (oddC l : Int) by omega, show (o : Int) = (oddC l : Int) by omega]
    · intro pre x suf hh hx h1 h2 h3 ih e o g1 g2
      have hx0 := hr x (by rw [hh]; simp)
      obtain ⟨q, rfl⟩ := Int.eq_ofNat_of_zero_le hx0.1
      have hlen : l.length = pre.length + suf.length + 1 := by rw [hh]; simp; omega
      refine ev_shift ?_
      simp only [spec_gcHalves.l0, hx, h3]
      refine ev_pos h1 (ev_pos h2 (ev_pos h1 (ev_bind (spec_gcOdd_ev q (by omega)) ?_)))
      simp only [oddC, Int.toNat_natCast] at g2
      by_cases ho : popc 10 q % 2 = 1
      · refine ev_pos (by simp [ho]) ?_
        have e1 : wrap64 ((o : Int) + 1) = ((o + 1 : Nat) : Int) := by rw [w64 (by omega) (by omega)]; omega
        rw [e1]
        exact ih e (o + 1) (by simp; omega) (by omega)
      · refine ev_neg (by simp [ho]) ?_
        have e1 : wrap64 ((e : Int) + 1) = ((e + 1 : Nat) : Int) := by rw [w64 (by omega) (by omega)]; omega
        rw [e1]
        exact ih (e + 1) o (by simp; omega) (by omega)
  exact key l [] rfl 0 0 rfl (by omega)
theorem spec_HalvesOf_ev (n : Int) (l : List Int) (hl : l.length ≤ 9000000000000000000) : Ev (fun k => spec_HalvesOf.f k n l) (hvP n l) := by
  unfold spec_HalvesOf.f hvP
  refine ev_bind (spec_gcWords_ev n l hl) ?_
  by_cases h : areW n l = true
  · rw [if_pos h]
    exact ev_pos h (ev_bind (spec_gcHalves_ev l (areW_range h) (by have := (areW_iff.1 h).2.1; omega)) (ev_some rfl))
  · rw [if_neg h]
    exact ev_neg h (ev_some rfl)
theorem impl_HalvesOf_ev (n : Int) (l : List Int) (hl : l.length ≤ 9000000000000000000) : Ev (fun k => impl_HalvesOf.f k n l) (hvP n l) := by
  unfold impl_HalvesOf.f hvP
  refine ev_bind (impl_areWords_ev n l hl) ?_
  by_cases h : areW n l = true
  · rw [if_pos h]
    refine ev_pos h ?_
    have hr := areW_range h
    have hll := (areW_iff.1 h).2.1
    have hol := oddC_le l
    have key : ∀ suf pre, l = pre ++ suf → ∀ o : Nat, o + oddC suf = oddC l → Ev (fun k => impl_HalvesOf.l0 k l (o : Int) l (l.length : Int) (pre.length : Int)) ((l.length : Int) - (oddC l : Int), (oddC l : Int), true) := by
      refine range_ind hl (fun pre suf => ∀ o : Nat, o + oddC suf = oddC l → Ev (fun k => impl_HalvesOf.l0 k l (o : Int) l (l.length : Int) (pre.length : Int)) ((l.length : Int) - (oddC l : Int), (oddC l : Int), true)) ?_ ?_
      · intro o g
        simp only [oddC] at g
        refine ev_shift ?_
        simp only [impl_HalvesOf.l0]
        rw [show (o : Int) = (oddC l : Int) by omega]
        refine ev_neg (by omega) (ev_some ?_)
        rw [w64 (by omega) (by omega)]
      · intro pre x suf hh hx h1 h2 h3 ih o g
        have hx0 := hr x (by rw [hh]; simp)
        obtain ⟨q, rfl⟩ := Int.eq_ofNat_of_zero_le hx0.1
        have ht := bits_OnesCount_table ⟨q, by omega⟩
        simp only at ht
        simp only [oddC, Int.toNat_natCast] at g
        refine ev_shift ?_
        simp only [impl_HalvesOf.l0, hx, h3, ht, Option.bind_some]
        rw [Int.tmod_eq_emod_of_nonneg (by omega)]
        have e1 : wrap64 ((o : Int) + (popc 10 q : Int) % 2) = ((o + popc 10 q % 2 : Nat) : Int) := by rw [w64 (by omega) (by omega)]; omega
        rw [e1]
        exact ev_pos h1 (ev_pos h2 (ev_pos h1 (ih (o + popc 10 q % 2) (by omega))))
    exact key l [] rfl 0 (by omega)
  · rw [if_neg h]
    exact ev_neg h (ev_some rfl)
theorem FnExactHalvesOf : laws_FnExactHalvesOf.Pure := by
  intro n l hn hl1 hl2 hl
  apply ev_le
  unfold laws_FnExactHalvesOf.f
  by_cases hb : (l.length : Int) > 1048576
  · exact ev_pos hb (ev_some rfl)
  have hs := spec_HalvesOf_ev n l (by omega)
  have hi := impl_HalvesOf_ev n l (by omega)
  generalize hvP n l = p at hs hi
  obtain ⟨a, b, ok⟩ := p
  refine ev_neg hb ?_
  repeat (first
      | exact ev_some rfl
      | refine ev_bind (laws_toIntS_ev _ (by omega)) ?_
      | refine ev_bind (laws_eqIntS_ev _ (by omega)) ?_
      | refine ev_bind hs ?_
      | refine ev_bind hi ?_
      | refine ev_pos rfl ?_
      | refine ev_pos trivial ?_
      | refine ev_neg neq_self ?_
      | dsimp only
      | refine ev_neg (by omega) ?_
      | (refine ev_shift ?_; simp only [laws_FnExactHalvesOf.j0]))

end Go.Proofs.Ytdalaiooakclmaa.Pure
