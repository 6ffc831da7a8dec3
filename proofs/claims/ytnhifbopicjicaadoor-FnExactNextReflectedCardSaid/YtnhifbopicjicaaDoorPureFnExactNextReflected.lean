/- The law FnExactNextReflected returns true for every two numbers (kinds as the row says); no condition of ours. -/
import Derived.Test.YtnhifbopicjicaaDoorQFnExactNextReflectedx2
import Derived.Test.YtnhifbopicjicaaDoorMth
import Derived.Test.YtnhifbopicjicaaDoorMthCode
import Derived.Test.YtnhifbopicjicaaDoorMthGray
import Derived.Test.YtnhifbopicjicaaDoorMthNextGray
set_option linter.unusedVariables false
set_option linter.unusedSimpArgs false
namespace Go.Proofs.YtnhifbopicjicaaDoor.Pure
open Go.RowKit Go.Proofs.YtnhifbopicjicaaDoor.Mth Go.Proofs.YtnhifbopicjicaaDoor.PFnExactNextReflected Go.Proofs.YtnhifbopicjicaaDoorW.PrintWords Go.Proofs.YtnhifbopicjicaaDoorW.PrintLast

theorem spec_l1In_eq (a b c : Int) : spec_l1In.f a b c = some (inR a b c) := in_ite a b c
theorem spec_gcBits_eq (a : Int) : spec_gcBits.f a = some (inR a 1 10) := by simp only [spec_gcBits.f, spec_l1In_eq, Option.bind_some]
theorem spec_gcWord_eq (n w : Int) (h : 0 ≤ n) : spec_gcWord.f n w = some (inR w 0 (top n)) := by simp only [spec_gcWord.f, if_pos h, spec_l1In_eq, Option.bind_some, top]
theorem spec_gcList_l0 (n : Nat) (hn : n + 1 ≤ 10) (L : List Int) (hL : L.length ≤ 512) (hx : ∀ x ∈ L, 0 ≤ x ∧ x < 1024) : ∀ (j : Nat) (acc : List Int), j ≤ L.length → acc.length + j ≤ 512 →
    Ev (fun k => spec_gcList.l0 k ((n + 1 : Nat) : Int) (L ++ acc) ((j : Int) - 1)) (L ++ acc ++ (L.take j).reverse.map (fun x => x + 2 ^ n)) := by
  have e2 : shl .i64 1 (n : Int) = 2 ^ n := shl_pow (by omega)
  have e3 : ((2 ^ n : Nat) : Int) = (2 : Int) ^ n := by simp
  have e4 := pow_le_1024 (n := n) (by omega)
  have e5 : (0 : Int) ≤ 2 ^ n := by rw [← e3]; exact Int.natCast_nonneg _
  have e1 : wrap64 (((n + 1 : Nat) : Int) - 1) = (n : Int) := by rw [w64 (by omega) (by omega)]; omega
  intro j
  induction j with
  | zero =>
    intro acc _ _
    refine ev_shift ?_
    simp only [spec_gcList.l0]
    exact ev_neg (by omega) (ev_some (by simp))
  | succ j ih =>
    intro acc hj ha
    have e : (((j + 1 : Nat) : Int) - 1) = (j : Int) := by omega
    have hr : rd (L ++ acc) (j : Int) = rd L (j : Int) := by
      rw [rd_nat, rd_nat, List.getD_eq_getElem?_getD, List.getD_eq_getElem?_getD, List.getElem?_append_left (by omega)]
    have hm := hx _ (rd_mem (l := L) (j := j) (by omega))
    refine ev_shift ?_
    simp only [spec_gcList.l0, e, e1, e2, hr]
    rw [w64 (x := (j : Int) - 1) (by omega) (by omega), w64 (x := rd L (j : Int) + 2 ^ n) (by omega) (by omega)]
    refine ev_pos (by omega) (ev_pos (by omega) (ev_pos (by simp; omega) (ev_pos (by omega) (ev_pos (by simp; omega) ?_))))
    have := ih (acc ++ [rd L (j : Int) + 2 ^ n]) (by omega) (by simp; omega)
    rw [List.append_assoc] at this ⊢
    have et : L.take (j + 1) = L.take j ++ [rd L (j : Int)] := by
      rw [List.take_add_one, rd_nat, List.getD_eq_getElem?_getD, List.getElem?_eq_getElem (by omega)]; rfl
    rw [et, List.reverse_append]
    simpa using this
theorem spec_gcList_ev (n : Nat) (hn : n ≤ 10) : Ev (fun k => spec_gcList.f k (n : Int)) (grL n) := by
  induction n with
  | zero =>
    refine ev_shift ?_
    simp only [spec_gcList.f]
    exact ev_pos rfl (ev_some rfl)
  | succ n ih =>
    have hl := grL_length (n := n) (by omega)
    have hp := Nat.pow_le_pow_right (n := 2) (by omega) (show n ≤ 9 by omega)
    have e1 : wrap64 (((n + 1 : Nat) : Int) - 1) = (n : Int) := by rw [w64 (by omega) (by omega)]; omega
    refine ev_shift ?_
    simp only [spec_gcList.f, e1]
    refine ev_neg (by omega) (ev_bind (ih (by omega)) ?_)
    rw [w64 (by omega) (by omega)]
    have := spec_gcList_l0 n hn (grL n) (by omega) (fun x hx => by have := grL_mem (n := n) (by omega) hx; have e3 : ((2 ^ n : Nat) : Int) = (2 : Int) ^ n := by simp
                                                                   omega) (grL n).length [] (Nat.le_refl _) (by simp; omega)
    simpa [grL] using this
attribute [local irreducible] rkLoop gray grL in
theorem spec_gcPlace_ev (n q : Nat) (hn : n ≤ 10) (hq : q < 2 ^ n) : Ev (fun k => spec_gcPlace.f k (grL n) (q : Int)) (rkLoop 20 (q : Int) 0) := by
  have hr := rk_lt hn hq
  obtain ⟨r, hre⟩ := Int.eq_ofNat_of_zero_le hr.1
  have e3 : ((2 ^ n : Nat) : Int) = (2 : Int) ^ n := by simp
  have hr2 : r < 2 ^ n := by omega
  have e4 := pow_le_1024 hn
  have hg : gray r = (q : Int) := by
    have := gray_rk ⟨q, by omega⟩
    simp only at this
    rw [hre] at this; simpa using this
  have hl := grL_length hn
  rw [hre]
  have key : ∀ d i : Nat, i + d = r → Ev (fun k => spec_gcPlace.l0 k (q : Int) (grL n) ((grL n).length : Int) (i : Int)) (r : Int) := by
    intro d
    induction d with
    | zero =>
      intro i hi
      obtain rfl : i = r := by omega
      refine ev_shift ?_
      simp only [spec_gcPlace.l0]
      rw [grL_rd hn hr2, hg]
      exact ev_pos (by omega) (ev_pos (by omega) (ev_pos (by omega) (ev_pos (by trivial) (ev_some rfl))))
    | succ d ih =>
      intro i hi
      have e1 : wrap64 ((i : Int) + 1) = ((i + 1 : Nat) : Int) := by rw [w64 (by omega) (by omega)]; omega
      refine ev_shift ?_
      simp only [spec_gcPlace.l0, e1]
      clear e1
      rw [grL_rd hn (show i < 2 ^ n by omega)]
      refine ev_pos (by omega) (ev_pos (by omega) (ev_pos (by omega) (ev_neg ?_ (ih (i + 1) (by omega)))))
      intro c
      have h1 := rk_gray ⟨i, by omega⟩
      simp only at h1
      rw [← c, hre] at h1
      omega
  exact key r 0 (by omega)
theorem impl_within_eq (a b c : Int) : impl_within.f a b c = some (inR a b c) := in_ite a b c
theorem impl_isBits_eq (a : Int) : impl_isBits.f a = some (inR a 1 10) := by simp only [impl_isBits.f, impl_within_eq, Option.bind_some]
theorem impl_isWord_eq (n w : Int) : impl_isWord.f n w = some (isW n w) := by
  simp only [impl_isWord.f, impl_isBits_eq, impl_within_eq, Option.bind_some, isW, top]
  by_cases h : inR n 1 10 = true
  · have := inR_iff.1 h
    rw [if_pos h, if_pos (by omega), h, Bool.true_and]
  · simp only [Bool.not_eq_true] at h
    simp [h]
theorem impl_reflectedRank_ev (q : Nat) (hq : q < 1024) : Ev (fun k => impl_reflectedRank.f k (q : Int)) (rkLoop 20 (q : Int) 0) := by
  have t : ∀ w : Fin 1024, impl_reflectedRank.f 20 (w.1 : Int) = some (rkLoop 20 (w.1 : Int) 0) := by decide +kernel
  exact Ev.of (impl_reflectedRank.mono _) (t ⟨q, hq⟩)
theorem spec_gcBit_ev (a b : Nat) (ha : a < 1024) (hb : b < 1024) : Ev (fun k => spec_gcBit.f k (a : Int) (b : Int)) (bitOf (a ^^^ b)) := by
  have hx : a ^^^ b < 1024 := Nat.xor_lt_two_pow (n := 10) ha hb
  have hxx : Go.bits .xor .i64 (a : Int) (b : Int) = ((a ^^^ b : Nat) : Int) := xor_nat (by omega) (by omega)
  have t : ∀ x : Fin 1024, ∀ i : Fin 10, (((x.1 : Nat) : Int) = shl .i64 1 (i.1 : Int)) = (x.1 = 2 ^ i.1) := by
    intro x i
    have t2 : ∀ i : Fin 10, shl .i64 1 (i.1 : Int) = ((2 ^ i.1 : Nat) : Int) := by decide +kernel
    rw [t2 i]
    exact propext ⟨fun h => by exact_mod_cast h, fun h => by rw [h]⟩
  have key : ∀ d i : Nat, i + d = 10 → (∀ j, j < i → a ^^^ b ≠ 2 ^ j) → Ev (fun k => spec_gcBit.l0 k (a : Int) (b : Int) (i : Int)) (bitOf (a ^^^ b)) := by
    intro d
    induction d with
    | zero =>
      intro i hi hn
      refine ev_shift ?_
      simp only [spec_gcBit.l0]
      refine ev_neg (by omega) (ev_some ?_)
      rcases bitOf_cases hx with h | ⟨j, hj, _, he⟩
      · exact h.1.symm
      · exact absurd he (hn j (by omega))
    | succ d ih =>
      intro i hi hn
      have e1 : wrap64 ((i : Int) + 1) = ((i + 1 : Nat) : Int) := by rw [w64 (by omega) (by omega)]; omega
      refine ev_shift ?_
      simp only [spec_gcBit.l0, hxx, e1]
      refine ev_pos (by omega) (ev_pos (by omega) ?_)
      by_cases he : a ^^^ b = 2 ^ i
      · refine ev_pos (by rw [t ⟨_, hx⟩ ⟨i, by omega⟩]; exact he) (ev_some ?_)
        rw [he]; exact (bitOf_pow (by omega)).symm
      · refine ev_neg (by rw [t ⟨_, hx⟩ ⟨i, by omega⟩]; exact he) (ih (i + 1) (by omega) (fun j hj => ?_))
        by_cases e : j = i
        · subst e; exact he
        · exact hn j (by omega)
  exact key 10 0 rfl (fun j hj => by omega)
theorem u64_nat (x : Nat) (h : x < 1000000) : IntKind.u64.wrap (wrap64 (x : Int)) = (x : Int) := by
  rw [w64 (by omega) (by omega)]
  have : IntKind.u64.wrap (x : Int) = (x : Int) % 18446744073709551616 := by simp [IntKind.wrap, IntKind.bits, IntKind.signed]
  rw [this]; omega
theorem tz_eq (x : Nat) (h : x < 1000000) : bits_TrailingZeros.f (x : Int) = some (Lib.ctz 64 x : Int) := by
  unfold bits_TrailingZeros.f
  rw [if_pos ⟨by omega, by omega⟩, Int.toNat_natCast]
theorem rk_nat {m q : Nat} (h2 : m ≤ 10) (h3 : q < 2 ^ m) : ∃ p : Nat, rkLoop 20 (q : Int) 0 = (p : Int) ∧ p < 2 ^ m ∧ gray p = (q : Int) := by
  have h := rk_lt h2 h3
  have hp := pow_le_1024 h2
  obtain ⟨p, hp2⟩ := Int.eq_ofNat_of_zero_le h.1
  have g := gray_rk ⟨q, by omega⟩
  simp only [hp2, Int.toNat_natCast] at g
  refine ⟨p, hp2, ?_, g⟩
  have := h.2
  rw [hp2] at this
  have e : ((2 ^ m : Nat) : Int) = (2 : Int) ^ m := by simp
  omega
theorem spec_NextReflected_ev (n r : Int) : Ev (fun k => spec_NextReflected.f k n r) (nxR n r) := by
  have bad : ¬ isW n r = true → Ev (fun k => spec_NextReflected.j0 k n r true) (nxR n r) := by
    intro h
    unfold nxR
    rw [if_neg h]
    refine ev_shift ?_
    simp only [spec_NextReflected.j0]
    exact ev_pos (by trivial) (ev_some rfl)
  unfold spec_NextReflected.f
  refine ev_bind0 (spec_gcBits_eq _) ?_
  by_cases hn : inR n 1 10 = true
  · have hn' := inR_iff.1 hn
    refine ev_pos hn (ev_bind0 (spec_gcWord_eq n r (by omega)) ?_)
    by_cases hw : inR r 0 (top n) = true
    · have h : isW n r = true := by simp [isW, hn, hw]
      unfold nxR
      rw [if_pos h, hw]
      obtain ⟨m, q, rfl, rfl, h1, h2, h3⟩ := isW_nat h
      have hp := pow_le_1024 h2
      obtain ⟨p, e1, e2, e3⟩ := rk_nat h2 h3
      have hlen := grL_length h2
      have epow : ((2 ^ m : Nat) : Int) = (2 : Int) ^ m := by simp
      have ew : wrap64 ((p : Int) + 1) = ((p + 1 : Nat) : Int) := by rw [w64 (by omega) (by omega)]; omega
      refine ev_shift ?_
      simp only [spec_NextReflected.j0]
      refine ev_neg (by simp) (ev_bind (spec_gcList_ev m h2) (ev_bind (spec_gcPlace_ev m q h2 h3) ?_))
      rw [e1, ew, hlen, Int.toNat_natCast, Int.toNat_natCast]
      by_cases hl : p + 1 = 2 ^ m
      · refine ev_pos (by omega) (ev_some ?_)
        rw [if_pos (by omega)]
      · have hr := grL_rd h2 (show p + 1 < 2 ^ m by omega)
        have hg := gray_lt h2 (show p + 1 < 2 ^ m by omega)
        have ht := (next_table ⟨p, by omega⟩).2
        simp only [e3, Int.toNat_natCast] at ht
        obtain ⟨g, hg2⟩ := Int.eq_ofNat_of_zero_le hg.1
        have hgl : g < 1024 := by have := hg.2; rw [hg2] at this; omega
        refine ev_neg (by omega) (ev_pos (by omega) (ev_pos (by omega) ?_))
        rw [hr, hg2]
        rw [hg2, Int.toNat_natCast] at ht
        refine ev_bind (spec_gcBit_ev q g (by omega) hgl) (ev_some ?_)
        rw [if_neg (by omega), ht]
    · simp only [Bool.not_eq_true] at hw
      rw [hw]
      exact bad (fun c => by have := (isW_iff.1 c).2; rw [← inR_iff, hw] at this; cases this)
  · exact ev_neg hn (bad (fun c => hn (inR_iff.2 (isW_iff.1 c).1)))
theorem impl_NextReflected_ev (n r : Int) : Ev (fun k => impl_NextReflected.f k n r) (nxR n r) := by
  unfold impl_NextReflected.f nxR
  refine ev_bind0 (impl_isWord_eq _ _) ?_
  by_cases h : isW n r = true
  · rw [if_pos h]
    obtain ⟨m, q, rfl, rfl, h1, h2, h3⟩ := isW_nat h
    have hp := pow_le_1024 h2
    obtain ⟨p, e1, e2, e3⟩ := rk_nat h2 h3
    have epow : ((2 ^ m : Nat) : Int) = (2 : Int) ^ m := by simp
    have hrk := impl_reflectedRank_ev q (by omega)
    rw [e1] at hrk ⊢
    refine ev_pos h (ev_bind hrk (ev_pos (by omega) ?_))
    rw [shl_pow (by omega), w64 (by omega) (by omega)]
    refine ev_shift ?_
    simp only [impl_NextReflected.j0, Int.toNat_natCast]
    by_cases hl : p + 1 = 2 ^ m
    · refine ev_pos (by rw [beq_iff_eq]; omega) (ev_some ?_)
      rw [if_pos (by omega)]
    · have ht := (next_table ⟨p, by omega⟩).1
      simp only [e3] at ht
      refine ev_neg (by rw [beq_iff_eq]; omega) (ev_bind hrk ?_)
      rw [show (p : Int) + 1 = ((p + 1 : Nat) : Int) by omega, u64_nat _ (by omega)]
      refine ev_bind0 (tz_eq _ (by omega)) (ev_pos (by omega) (ev_some ?_))
      rw [if_neg (by omega), ht]
  · rw [if_neg h]
    refine ev_neg h (ev_shift ?_)
    simp only [impl_NextReflected.j0]
    exact ev_pos (by trivial) (ev_some rfl)
theorem FnExactNextReflected : laws_FnExactNextReflected.Pure := by
  intro n r hn hr
  apply ev_le
  unfold laws_FnExactNextReflected.f
  have hs := spec_NextReflected_ev n r
  have hi := impl_NextReflected_ev n r
  generalize nxR n r = p at hs hi
  obtain ⟨a, b, ok⟩ := p
  repeat (first
      | exact ev_some rfl
      | refine ev_bind hs ?_
      | refine ev_bind hi ?_
      | refine ev_pos rfl ?_
      | refine ev_pos trivial ?_
      | refine ev_neg neq_self ?_
      | dsimp only
      | refine ev_neg (by omega) ?_)

end Go.Proofs.YtnhifbopicjicaaDoor.Pure
