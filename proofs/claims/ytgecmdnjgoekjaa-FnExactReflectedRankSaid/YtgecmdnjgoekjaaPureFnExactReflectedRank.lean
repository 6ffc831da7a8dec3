/- The law FnExactReflectedRank returns true for all numbers; no condition of ours. -/
import Derived.Test.YtgecmdnjgoekjaaPFnExactReflectedRankx2
import Derived.Test.YtgecmdnjgoekjaaMth
import Derived.Test.YtgecmdnjgoekjaaMthGray
set_option linter.unusedVariables false
set_option linter.unusedSimpArgs false
namespace Go.Proofs.Ytgecmdnjgoekjaa.Pure
open Go.RowKit Go.Proofs.Ytgecmdnjgoekjaa.Mth Go.Proofs.Ytgecmdnjgoekjaa.PFnExactReflectedRank Go.Proofs.YtgecmdnjgoekjaaW.PrintWords Go.Proofs.YtgecmdnjgoekjaaW.PrintLast

theorem spec_l1In_eq (a b c : Int) : spec_l1In.f a b c = some (inR a b c) := in_ite a b c
theorem spec_gcBits_eq (a : Int) : spec_gcBits.f a = some (inR a 1 10) := by simp only [spec_gcBits.f, spec_l1In_eq, Option.bind_some]
theorem spec_gcWord_eq (n w : Int) (h : 0 ≤ n) : spec_gcWord.f n w = some (inR w 0 (top n)) := by simp only [spec_gcWord.f, if_pos h, spec_l1In_eq, Option.bind_some, top]
theorem spec_gcList_l0 (n : Nat) (hn : n + 1 ≤ 10) (L : List Int) (hL : L.length ≤ 512) (hx : ∀ x ∈ L, 0 ≤ x ∧ x < 1024) : ∀ (j : Nat) (acc : List Int), j ≤ L.length → acc.length + j ≤ 512 →
    Ev (fun k => spec_gcList.l0 k ((n + 1 : Nat) : Int) (L ++ acc) ((j : Int) - 1)) (L ++ acc ++ (L.take j).reverse.map (fun x => x + 2 ^ n)) := by
  have e2 : shl .i64 1 (n : Int) = 2 ^ n := shl_pow (by omega)
  have e3 : ((2 ^ n : Nat) : Int) = (2 : Int) ^ n := by simp
  have e4 := pow_le_1024 (n := n) (by omega)
  have e5 : (0 : Int) ≤ 2 ^ n := by rw [← e3]; exact Int.natCast_nonneg _
  have e1 : wrap64 (((n + 1 : Nat) : Int) - 1) = (n : Int) := by rw [w64 (by omega) (by omega)]; omega
  intro j
  induction j with
  | zero =>
    intro acc _ _
    refine ev_shift ?_
    simp only [spec_gcList.l0]
    exact ev_neg (by omega) (ev_some (by simp))
  | succ j ih =>
    intro acc hj ha
    have e : (((j + 1 : Nat) : Int) - 1) = (j : Int) := by omega
    have hr : rd (L ++ acc) (j : Int) = rd L (j : Int) := by
      rw [rd_nat, rd_nat, List.getD_eq_getElem?_getD, List.getD_eq_getElem?_getD, List.getElem?_append_left (by omega)]
    have hm := hx _ (rd_mem (l := L) (j := j) (by omega))
    refine ev_shift ?_
    simp only [spec_gcList.l0, e, e1, e2, hr]
    rw [w64 (x := (j : Int) - 1) (by omega) (by omega), w64 (x := rd L (j : Int) + 2 ^ n) (by omega) (by omega)]
    refine ev_pos (by omega) (ev_pos (by omega) (ev_pos (by simp; omega) (ev_pos (by omega) (ev_pos (by simp; omega) ?_))))
    have := ih (acc ++ [rd L (j : Int) + 2 ^ n]) (by omega) (by simp; omega)
    rw [List.append_assoc] at this ⊢
    have et : L.take (j + 1) = L.take j ++ [rd L (j : Int)] := by
      rw [List.take_add_one, rd_nat, List.getD_eq_getElem?_getD, List.getElem?_eq_getElem (by omega)]; rfl
    rw [et, List.reverse_append]
    simpa using this
theorem spec_gcList_ev (n : Nat) (hn : n ≤ 10) : Ev (fun k => spec_gcList.f k (n : Int)) (grL n) := by
  induction n with
  | zero =>
    refine ev_shift ?_
    simp only [spec_gcList.f]
    exact ev_pos rfl (ev_some rfl)
  | succ n ih =>
    have hl := grL_length (n := n) (by omega)
    have hp := Nat.pow_le_pow_right (n := 2) (by omega) (show n ≤ 9 by omega)
    have e1 : wrap64 (((n + 1 : Nat) : Int) - 1) = (n : Int) := by rw [w64 (by omega) (by omega)]; omega
    refine ev_shift ?_
    simp only [spec_gcList.f, e1]
    refine ev_neg (by omega) (ev_bind (ih (by omega)) ?_)
    rw [w64 (by omega) (by omega)]
    have := spec_gcList_l0 n hn (grL n) (by omega) (fun x hx => by have := grL_mem (n := n) (by omega) hx; have e3 : ((2 ^ n : Nat) : Int) = (2 : Int) ^ n := by simp
                                                                   omega) (grL n).length [] (Nat.le_refl _) (by simp; omega)
    simpa [grL] using this
attribute [local irreducible] rkLoop gray grL in
theorem spec_gcPlace_ev (n q : Nat) (hn : n ≤ 10) (hq : q < 2 ^ n) : Ev (fun k => spec_gcPlace.f k (grL n) (q : Int)) (rkLoop 20 (q : Int) 0) := by
  have hr := rk_lt hn hq
  obtain ⟨r, hre⟩ := Int.eq_ofNat_of_zero_le hr.1
  have e3 : ((2 ^ n : Nat) : Int) = (2 : Int) ^ n := by simp
  have hr2 : r < 2 ^ n := by omega
  have e4 := pow_le_1024 hn
  have hg : gray r = (q : Int) := by
    have := gray_rk ⟨q, by omega⟩
    simp only at this
    rw [hre] at this; simpa using this
  have hl := grL_length hn
  rw [hre]
  have key : ∀ d i : Nat, i + d = r → Ev (fun k => spec_gcPlace.l0 k (q : Int) (grL n) ((grL n).length : Int) (i : Int)) (r : Int) := by
    intro d
    induction d with
    | zero =>
      intro i hi
      obtain rfl : i = r := by omega
      refine ev_shift ?_
      simp only [spec_gcPlace.l0]
      rw [grL_rd hn hr2, hg]
      exact ev_pos (by omega) (ev_pos (by omega) (ev_pos (by omega) (ev_pos (by trivial) (ev_some rfl))))
    | succ d ih =>
      intro i hi
      have e1 : wrap64 ((i : Int) + 1) = ((i + 1 : Nat) : Int) := by rw [w64 (by omega) (by omega)]; omega
      refine ev_shift ?_
      simp only [spec_gcPlace.l0, e1]
      clear e1
      rw [grL_rd hn (show i < 2 ^ n by omega)]
      refine ev_pos (by omega) (ev_pos (by omega) (ev_pos (by omega) (ev_neg ?_ (ih (i + 1) (by omega)))))
      intro c
      have h1 := rk_gray ⟨i, by omega⟩
      simp only at h1
      rw [← c, hre] at h1
      omega
  exact key r 0 (by omega)
theorem impl_within_eq (a b c : Int) : impl_within.f a b c = some (inR a b c) := in_ite a b c
theorem impl_isBits_eq (a : Int) : impl_isBits.f a = some (inR a 1 10) := by simp only [impl_isBits.f, impl_within_eq, Option.bind_some]
theorem impl_isWord_eq (n w : Int) : impl_isWord.f n w = some (isW n w) := by
  simp only [impl_isWord.f, impl_isBits_eq, impl_within_eq, Option.bind_some, isW, top]
  by_cases h : inR n 1 10 = true
  · have := inR_iff.1 h
    rw [if_pos h, if_pos (by omega), h, Bool.true_and]
  · simp only [Bool.not_eq_true] at h
    simp [h]
theorem impl_reflectedRank_ev (q : Nat) (hq : q < 1024) : Ev (fun k => impl_reflectedRank.f k (q : Int)) (rkLoop 20 (q : Int) 0) := by
  have t : ∀ w : Fin 1024, impl_reflectedRank.f 20 (w.1 : Int) = some (rkLoop 20 (w.1 : Int) 0) := by decide +kernel
  exact Ev.of (impl_reflectedRank.mono _) (t ⟨q, hq⟩)
theorem spec_ReflectedRank_ev (n r : Int) : Ev (fun k => spec_ReflectedRank.f k n r) (refRk n r) := by
  have bad : ¬ isW n r = true → Ev (fun k => spec_ReflectedRank.j0 k n r true) (refRk n r) := by
    intro h
    unfold refRk
    rw [if_neg h]
    refine ev_shift ?_
    simp only [spec_ReflectedRank.j0]
    exact ev_pos (by trivial) (ev_some rfl)
  unfold spec_ReflectedRank.f
  refine ev_bind0 (spec_gcBits_eq _) ?_
  by_cases hn : inR n 1 10 = true
  · have hn' := inR_iff.1 hn
    refine ev_pos hn (ev_bind0 (spec_gcWord_eq n r (by omega)) ?_)
    by_cases hw : inR r 0 (top n) = true
    · have h : isW n r = true := by simp [isW, hn, hw]
      unfold refRk
      rw [if_pos h, hw]
      obtain ⟨m, q, rfl, rfl, h1, h2, h3⟩ := isW_nat h
      refine ev_shift ?_
      simp only [spec_ReflectedRank.j0]
      exact ev_neg (by simp) (ev_bind (spec_gcList_ev m h2) (ev_bind (spec_gcPlace_ev m q h2 h3) (ev_some rfl)))
    · simp only [Bool.not_eq_true] at hw
      rw [hw]
      exact bad (fun c => by have := (isW_iff.1 c).2; rw [← inR_iff, hw] at this; cases this)
  · exact ev_neg hn (bad (fun c => hn (inR_iff.2 (isW_iff.1 c).1)))
theorem impl_ReflectedRank_ev (n r : Int) : Ev (fun k => impl_ReflectedRank.f k n r) (refRk n r) := by
  unfold impl_ReflectedRank.f refRk
  refine ev_bind0 (impl_isWord_eq _ _) ?_
  by_cases h : isW n r = true
  · rw [if_pos h]
    obtain ⟨m, q, rfl, rfl, h1, h2, h3⟩ := isW_nat h
    exact ev_pos h (ev_bind (impl_reflectedRank_ev q (by have := pow_le_1024 h2; omega)) (ev_some rfl))
  · rw [if_neg h]
    exact ev_neg h (ev_some rfl)
theorem FnExactReflectedRank : laws_FnExactReflectedRank.Pure := by
  intro n r hn hr
  apply ev_le
  unfold laws_FnExactReflectedRank.f
  have hs := spec_ReflectedRank_ev n r
  have hi := impl_ReflectedRank_ev n r
  generalize refRk n r = p at hs hi
  obtain ⟨out, ok⟩ := p
  repeat (first
      | exact ev_some rfl
      | refine ev_bind hs ?_
      | refine ev_bind hi ?_
      | refine ev_pos rfl ?_
      | refine ev_pos trivial ?_
      | refine ev_neg neq_self ?_
      | dsimp only
      | refine ev_neg (by omega) ?_)

end Go.Proofs.Ytgecmdnjgoekjaa.Pure
