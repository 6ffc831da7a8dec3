/- The law FnExactFromBits returns true for every list (reach and kinds as the row says); no condition of ours. -/
import Derived.Test.YtgecmdnjgoekjaaPFnExactFromBitsx3
import Derived.Test.YtgecmdnjgoekjaaMth
set_option linter.unusedVariables false
set_option linter.unusedSimpArgs false
namespace Go.Proofs.Ytgecmdnjgoekjaa.Pure
open Go.RowKit Go.Proofs.Ytgecmdnjgoekjaa.Mth Go.Proofs.Ytgecmdnjgoekjaa.PFnExactFromBits Go.Proofs.YtgecmdnjgoekjaaW.PrintWords Go.Proofs.YtgecmdnjgoekjaaW.PrintLast

theorem laws_toIntS_ev (l : List Int) (hl : l.length ≤ 1048576) : Ev (fun k => laws_toIntS.f k l) l := by
  unfold laws_toIntS.f
  refine ev_pos (by omega) (ev_pos (by omega) ?_)
  refine range_all (l := l) (by omega) (fun pre suf => Ev (fun k => laws_toIntS.l0 k l (pre ++ List.replicate suf.length 0) (pre.length : Int)) l) ?_ ?_
  · refine ev_shift ?_
    simp only [laws_toIntS.l0]
    exact ev_neg (by omega) (ev_some (by simp))
  · intro pre x suf h hx h1 h2 h3 ih
    refine ev_shift ?_
    simp only [laws_toIntS.l0, hx, h3, List.length_cons, List.replicate_succ, set_at]
    refine ev_pos h1 (ev_pos h2 (ev_pos (by simp; omega) ?_))
    simpa using ih
theorem laws_eqIntS_ev (l : List Int) (hl : l.length ≤ 9000000000000000000) : Ev (fun k => laws_eqIntS.f k l l) true := by
  unfold laws_eqIntS.f
  refine ev_pos rfl ?_
  refine range_all hl (fun pre suf => Ev (fun k => laws_eqIntS.l0 k l l (pre.length : Int)) true) ?_ ?_
  · refine ev_shift ?_
    simp only [laws_eqIntS.l0]
    exact ev_neg (by omega) (ev_some rfl)
  · intro pre x suf h hx h1 h2 h3 ih
    refine ev_shift ?_
    simp only [laws_eqIntS.l0, h3]
    exact ev_pos h1 (ev_pos h2 (ev_pos h1 (ev_pos (by trivial) ih)))
theorem laws_markIntS_ev (l : List Int) (m : Int) (h0 : 0 ≤ m) (h1 : m ≤ 1000000000000000000) (hl : l.length ≤ 1000000000000000000) : Ev (fun k => laws_markIntS.f k l m) (m + (l.length : Int), marks l.length m) := by
  have key : (fun (pre suf : List Int) => l.length = pre.length + suf.length → Ev (fun k => laws_markIntS.l0 k (marks pre.length m ++ suf) (m + (pre.length : Int)) (pre.length : Int)) (m + (l.length : Int), marks l.length m)) [] l := by
    refine range_all (l := l) (by omega) (fun pre suf => l.length = pre.length + suf.length → Ev (fun k => laws_markIntS.l0 k (marks pre.length m ++ suf) (m + (pre.length : Int)) (pre.length : Int)) (m + (l.length : Int), marks l.length m)) ?_ ?_
    · intro _
      refine ev_shift ?_
      simp only [laws_markIntS.l0]
      exact ev_neg (by simp [marks_length]) (ev_some (by simp))
    · intro pre x suf h hx h1 h2 h3 ih hlen
      simp only [List.length_cons] at hlen
      refine ev_shift ?_
      have e : (marks pre.length m ++ x :: suf).set (pre.length : Int).toNat (m + (pre.length : Int)) = marks (pre ++ [x]).length m ++ suf := by
        have := set_at (marks pre.length m) x (m + (pre.length : Int)) suf
        rw [marks_length] at this
        rw [this, List.length_append, List.length_singleton, marks_snoc]; simp
      simp only [laws_markIntS.l0, h3, e]
      refine ev_pos (by simp [marks_length]; omega) (ev_pos h2 ?_)
      rw [w64 (by omega) (by omega)]
      have := ih (by simp; omega)
      simp only [List.length_append, List.length_singleton] at this ⊢
      rw [show m + (pre.length : Int) + 1 = m + ((pre.length + 1 : Nat) : Int) by omega]
      exact this
  have := key (by simp)
  unfold laws_markIntS.f
  simpa [marks] using this
theorem laws_heldIntS_ev (n : Nat) (m : Int) (h0 : 0 ≤ m) (h1 : m ≤ 1000000000000000000) (hl : n ≤ 1000000000000000000) : Ev (fun k => laws_heldIntS.f k (marks n m) m) (m + (n : Int)) := by
  have key : (fun (pre suf : List Int) => n = pre.length + suf.length → Ev (fun k => laws_heldIntS.l0 k (marks n m) (m + (pre.length : Int)) (pre.length : Int)) (m + (n : Int))) [] (marks n m) := by
    refine range_all (l := marks n m) (by rw [marks_length]; omega) (fun pre suf => n = pre.length + suf.length → Ev (fun k => laws_heldIntS.l0 k (marks n m) (m + (pre.length : Int)) (pre.length : Int)) (m + (n : Int))) ?_ ?_
    · intro _
      refine ev_shift ?_
      simp only [laws_heldIntS.l0, marks_length]
      exact ev_neg (by omega) (ev_some (by simp))
    · intro pre x suf h hx h1 h2 h3 ih hlen
      simp only [List.length_cons] at hlen
      refine ev_shift ?_
      have e : rd (marks n m) (pre.length : Int) = m + (pre.length : Int) := marks_rd n m pre.length (by omega)
      simp only [laws_heldIntS.l0, h3, e]
      refine ev_pos h1 (ev_pos h2 (ev_pos (by trivial) ?_))
      rw [w64 (by omega) (by omega)]
      have := ih (by simp; omega)
      simp only [List.length_append, List.length_singleton] at this ⊢
      rw [show m + (pre.length : Int) + 1 = m + ((pre.length + 1 : Nat) : Int) by omega]
      exact this
  have := key (by simp [marks_length])
  unfold laws_heldIntS.f
  simpa [marks] using this
theorem spec_l1In_eq (a b c : Int) : spec_l1In.f a b c = some (inR a b c) := in_ite a b c
theorem spec_l1All_ev (l : List Int) (lo hi : Int) (hl : l.length ≤ 9000000000000000000) : Ev (fun k => spec_l1All.f k l lo hi) (allIn l lo hi) := by
  refine range_all hl (fun pre suf => Ev (fun k => spec_l1All.l0 k lo hi l (l.length : Int) (pre.length : Int)) (allIn suf lo hi)) ?_ ?_
  · refine ev_shift ?_
    simp only [spec_l1All.l0]
    exact ev_neg (by omega) (ev_some rfl)
  · intro pre x suf h hx h1 h2 h3 ih
    refine ev_shift ?_
    simp only [spec_l1All.l0, hx, h3, spec_l1In_eq, Option.bind_some, allIn_cons]
    refine ev_pos h1 (ev_pos h2 (ev_pos h1 ?_))
    cases inR x lo hi with
    | true => exact ev_pos rfl ih
    | false => exact ev_neg (by simp) (ev_some rfl)
theorem impl_within_eq (a b c : Int) : impl_within.f a b c = some (inR a b c) := in_ite a b c
theorem impl_allWithin_ev (l : List Int) (lo hi : Int) (hl : l.length ≤ 9000000000000000000) : Ev (fun k => impl_allWithin.f k l lo hi) (allIn l lo hi) := by
  refine range_all hl (fun pre suf => Ev (fun k => impl_allWithin.l0 k lo hi l (l.length : Int) (pre.length : Int)) (allIn suf lo hi)) ?_ ?_
  · refine ev_shift ?_
    simp only [impl_allWithin.l0]
    exact ev_neg (by omega) (ev_some rfl)
  · intro pre x suf h hx h1 h2 h3 ih
    refine ev_shift ?_
    simp only [impl_allWithin.l0, hx, h3, impl_within_eq, Option.bind_some, allIn_cons]
    refine ev_pos h1 (ev_pos h2 (ev_pos h1 ?_))
    cases inR x lo hi with
    | true => exact ev_pos rfl ih
    | false => exact ev_neg (by simp) (ev_some rfl)
def ones : Nat → List Int → List Int
  | _, [] => []
  | i, x :: r => if x = 1 then (i : Int) :: ones (i + 1) r else ones (i + 1) r
theorem ones_length (i : Nat) (l : List Int) : (ones i l).length ≤ l.length := by
  induction l generalizing i with
  | nil => exact Nat.le_refl _
  | cons x r ih =>
    have := ih (i + 1)
    simp only [ones]
    split <;> simp <;> omega
def bitsOk (l : List Int) : Bool := decide ((l.length : Int) ≤ 12) && allIn l 0 1
def fromB (l : List Int) : List Int × Bool := if bitsOk l = true then (ones 0 l, true) else ([], false)
theorem fromB_len (l : List Int) : (fromB l).1.length ≤ l.length := by
  unfold fromB
  split
  · exact ones_length _ _
  · exact Nat.zero_le _
theorem spec_chAreBits_ev (l : List Int) (hl : l.length ≤ 9000000000000000000) : Ev (fun k => spec_chAreBits.f k l) (bitsOk l) := by
  unfold spec_chAreBits.f bitsOk
  by_cases h : (l.length : Int) ≤ 12
  · exact ev_pos h (ev_bind (spec_l1All_ev l 0 1 hl) (ev_some (by rw [decide_eq_true h, Bool.true_and])))
  · exact ev_neg h (ev_some (by rw [decide_eq_false h]; rfl))
theorem impl_areBits_ev (l : List Int) (hl : l.length ≤ 9000000000000000000) : Ev (fun k => impl_areBits.f k l) (bitsOk l) := by
  unfold impl_areBits.f bitsOk
  by_cases h : (l.length : Int) ≤ 12
  · exact ev_pos h (ev_bind (impl_allWithin_ev l 0 1 hl) (ev_some (by rw [decide_eq_true h, Bool.true_and])))
  · exact ev_neg h (ev_some (by rw [decide_eq_false h]; rfl))
theorem spec_FromBits_ev (l : List Int) (hl : l.length ≤ 9000000000000000000) : Ev (fun k => spec_FromBits.f k l) (fromB l) := by
  unfold spec_FromBits.f fromB
  refine ev_bind (spec_chAreBits_ev l hl) ?_
  by_cases h : bitsOk l = true
  · rw [if_pos h]
    refine ev_pos h ?_
    simp only [bitsOk, Bool.and_eq_true, decide_eq_true_eq] at h
    have key : ∀ suf pre, l = pre ++ suf → ∀ out : List Int, out.length ≤ pre.length → Ev (fun k => spec_FromBits.l0 k out l (l.length : Int) (pre.length : Int)) (out ++ ones pre.length suf, true) := by
      refine range_ind hl (fun pre suf => ∀ out : List Int, out.length ≤ pre.length → Ev (fun k => spec_FromBits.l0 k out l (l.length : Int) (pre.length : Int)) (out ++ ones pre.length suf, true)) ?_ ?_
      · intro out _
        refine ev_shift ?_
        simp only [spec_FromBits.l0]
        exact ev_neg (by omega) (ev_some (by simp [ones]))
      · intro pre x suf hh hx h1 h2 h3 ih out ho
        refine ev_shift ?_
        simp only [spec_FromBits.l0, hx, h3, ones]
        refine ev_pos h1 (ev_pos h2 (ev_pos h1 ?_))
        by_cases hx1 : x = 1
        · rw [if_pos hx1]
          refine ev_pos hx1 (ev_pos (by omega) ?_)
          have := ih (out ++ [(pre.length : Int)]) (by simp; omega)
          simpa using this
        · rw [if_neg hx1]
          refine ev_neg hx1 ?_
          have := ih out (by simp; omega)
          simpa using this
    exact key l [] rfl [] (Nat.le_refl _)
  · rw [if_neg h]
    exact ev_neg h (ev_some rfl)
theorem impl_FromBits_ev (l : List Int) (hl : l.length ≤ 9000000000000000000) : Ev (fun k => impl_FromBits.f k l) (fromB l) := by
  unfold impl_FromBits.f fromB
  refine ev_bind (impl_areBits_ev l hl) ?_
  by_cases h : bitsOk l = true
  · rw [if_pos h]
    refine ev_pos h ?_
    simp only [bitsOk, Bool.and_eq_true, decide_eq_true_eq] at h
    have key : ∀ suf pre, l = pre ++ suf → ∀ out : List Int, out.length ≤ pre.length → Ev (fun k => impl_FromBits.l0 k out l (l.length : Int) (pre.length : Int)) (out ++ ones pre.length suf, true) := by
      refine range_ind hl (fun pre suf => ∀ out : List Int, out.length ≤ pre.length → Ev (fun k => impl_FromBits.l0 k out l (l.length : Int) (pre.length : Int)) (out ++ ones pre.length suf, true)) ?_ ?_
      · intro out _
        refine ev_shift ?_
        simp only [impl_FromBits.l0]
        exact ev_neg (by omega) (ev_some (by simp [ones]))
      · intro pre x suf hh hx h1 h2 h3 ih out ho
        refine ev_shift ?_
        simp only [impl_FromBits.l0, hx, h3, ones]
        refine ev_pos h1 (ev_pos h2 (ev_pos h1 ?_))
        by_cases hx1 : x = 1
        · rw [if_pos hx1]
          refine ev_pos hx1 (ev_pos (by omega) ?_)
          have := ih (out ++ [(pre.length : Int)]) (by simp; omega)
          simpa using this
        · rw [if_neg hx1]
          refine ev_neg hx1 ?_
          have := ih out (by simp; omega)
          simpa using this
    exact key l [] rfl [] (Nat.le_refl _)
  · rw [if_neg h]
    exact ev_neg h (ev_some rfl)
theorem FnExactFromBits : laws_FnExactFromBits.Pure := by
  intro l hl1 hl2 hl
  apply ev_le
  unfold laws_FnExactFromBits.f
  by_cases hb : (l.length : Int) > 1048576
  · exact ev_pos hb (ev_some rfl)
  have hs := spec_FromBits_ev l (by omega)
  have hi := impl_FromBits_ev l (by omega)
  have hlen := fromB_len l
  generalize fromB l = p at hs hi hlen
  obtain ⟨out, ok⟩ := p
  simp only at hlen
  refine ev_neg hb ?_
  repeat (first
      | exact ev_some rfl
      | refine ev_bind (laws_toIntS_ev _ (by omega)) ?_
      | refine ev_bind (laws_eqIntS_ev _ (by omega)) ?_
      | refine ev_bind (laws_markIntS_ev _ _ (by omega) (by omega) (by omega)) ?_
      | refine ev_bind (laws_heldIntS_ev _ _ (by omega) (by omega) (by omega)) ?_
      | refine ev_bind hs ?_
      | refine ev_bind hi ?_
      | refine ev_pos rfl ?_
      | refine ev_pos trivial ?_
      | refine ev_neg neq_self ?_
      | dsimp only
      | refine ev_neg (by omega) ?_
      | (refine ev_shift ?_; simp only [laws_FnExactFromBits.j0, laws_FnExactFromBits.j1, laws_FnExactFromBits.j2]))

end Go.Proofs.Ytgecmdnjgoekjaa.Pure
