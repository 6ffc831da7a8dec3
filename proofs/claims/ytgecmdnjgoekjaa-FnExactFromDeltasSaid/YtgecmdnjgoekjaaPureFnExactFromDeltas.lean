/- The law FnExactFromDeltas returns true for all numbers and lists (reach and kinds as the row says); no condition of ours. -/
import Derived.Test.YtgecmdnjgoekjaaPFnExactFromDeltasx3
import Derived.Test.YtgecmdnjgoekjaaMth
set_option linter.unusedVariables false
set_option linter.unusedSimpArgs false
namespace Go.Proofs.Ytgecmdnjgoekjaa.Pure
open Go.RowKit Go.Proofs.Ytgecmdnjgoekjaa.Mth Go.Proofs.Ytgecmdnjgoekjaa.PFnExactFromDeltas Go.Proofs.YtgecmdnjgoekjaaW.PrintWords Go.Proofs.YtgecmdnjgoekjaaW.PrintLast

theorem laws_toIntS_ev (l : List Int) (hl : l.length ≤ 1048576) : Ev (fun k => laws_toIntS.f k l) l := by
  unfold laws_toIntS.f
  refine ev_pos (by omega) (ev_pos (by omega) ?_)
  refine range_all (l := l) (by omega) (fun pre suf => Ev (fun k => laws_toIntS.l0 k l (pre ++ List.replicate suf.length 0) (pre.length : Int)) l) ?_ ?_
  · refine ev_shift ?_
    simp only [laws_toIntS.l0]
    exact ev_neg (by omega) (ev_some (by simp))
  · intro pre x suf h hx h1 h2 h3 ih
    refine ev_shift ?_
    simp only [laws_toIntS.l0, hx, h3, List.length_cons, List.replicate_succ, set_at]
    refine ev_pos h1 (ev_pos h2 (ev_pos (by simp; omega) ?_))
    simpa using ih
theorem laws_eqIntS_ev (l : List Int) (hl : l.length ≤ 9000000000000000000) : Ev (fun k => laws_eqIntS.f k l l) true := by
  unfold laws_eqIntS.f
  refine ev_pos rfl ?_
  refine range_all hl (fun pre suf => Ev (fun k => laws_eqIntS.l0 k l l (pre.length : Int)) true) ?_ ?_
  · refine ev_shift ?_
    simp only [laws_eqIntS.l0]
    exact ev_neg (by omega) (ev_some rfl)
  · intro pre x suf h hx h1 h2 h3 ih
    refine ev_shift ?_
    simp only [laws_eqIntS.l0, h3]
    exact ev_pos h1 (ev_pos h2 (ev_pos h1 (ev_pos (by trivial) ih)))
theorem laws_markIntS_ev (l : List Int) (m : Int) (h0 : 0 ≤ m) (h1 : m ≤ 1000000000000000000) (hl : l.length ≤ 1000000000000000000) : Ev (fun k => laws_markIntS.f k l m) (m + (l.length : Int), marks l.length m) := by
  have key : (fun (pre suf : List Int) => l.length = pre.length + suf.length → Ev (fun k => laws_markIntS.l0 k (marks pre.length m ++ suf) (m + (pre.length : Int)) (pre.length : Int)) (m + (l.length : Int), marks l.length m)) [] l := by
    refine range_all (l := l) (by omega) (fun pre suf => l.length = pre.length + suf.length → Ev (fun k => laws_markIntS.l0 k (marks pre.length m ++ suf) (m + (pre.length : Int)) (pre.length : Int)) (m + (l.length : Int), marks l.length m)) ?_ ?_
    · intro _
      refine ev_shift ?_
      simp only [laws_markIntS.l0]
      exact ev_neg (by simp [marks_length]) (ev_some (by simp))
    · intro pre x suf h hx h1 h2 h3 ih hlen
      simp only [List.length_cons] at hlen
      refine ev_shift ?_
      have e : (marks pre.length m ++ x :: suf).set (pre.length : Int).toNat (m + (pre.length : Int)) = marks (pre ++ [x]).length m ++ suf := by
        have := set_at (marks pre.length m) x (m + (pre.length : Int)) suf
        rw [marks_length] at this
        rw [this, List.length_append, List.length_singleton, marks_snoc]; simp
      simp only [laws_markIntS.l0, h3, e]
      refine ev_pos (by simp [marks_length]; omega) (ev_pos h2 ?_)
      rw [w64 (by omega) (by omega)]
      have := ih (by simp; omega)
      simp only [List.length_append, List.length_singleton] at this ⊢
      rw [show m + (pre.length : Int) + 1 = m + ((pre.length + 1 : Nat) : Int) by omega]
      exact this
  have := key (by simp)
  unfold laws_markIntS.f
  simpa [marks] using this
theorem laws_heldIntS_ev (n : Nat) (m : Int) (h0 : 0 ≤ m) (h1 : m ≤ 1000000000000000000) (hl : n ≤ 1000000000000000000) : Ev (fun k => laws_heldIntS.f k (marks n m) m) (m + (n : Int)) := by
  have key : (fun (pre suf : List Int) => n = pre.length + suf.length → Ev (fun k => laws_heldIntS.l0 k (marks n m) (m + (pre.length : Int)) (pre.length : Int)) (m + (n : Int))) [] (marks n m) := by
    refine range_all (l := marks n m) (by rw [marks_length]; omega) (fun pre suf => n = pre.length + suf.length → Ev (fun k => laws_heldIntS.l0 k (marks n m) (m + (pre.length : Int)) (pre.length : Int)) (m + (n : Int))) ?_ ?_
    · intro _
      refine ev_shift ?_
      simp only [laws_heldIntS.l0, marks_length]
      exact ev_neg (by omega) (ev_some (by simp))
    · intro pre x suf h hx h1 h2 h3 ih hlen
      simp only [List.length_cons] at hlen
      refine ev_shift ?_
      have e : rd (marks n m) (pre.length : Int) = m + (pre.length : Int) := marks_rd n m pre.length (by omega)
      simp only [laws_heldIntS.l0, h3, e]
      refine ev_pos h1 (ev_pos h2 (ev_pos (by trivial) ?_))
      rw [w64 (by omega) (by omega)]
      have := ih (by simp; omega)
      simp only [List.length_append, List.length_singleton] at this ⊢
      rw [show m + (pre.length : Int) + 1 = m + ((pre.length + 1 : Nat) : Int) by omega]
      exact this
  have := key (by simp [marks_length])
  unfold laws_heldIntS.f
  simpa [marks] using this
theorem spec_l1In_eq (a b c : Int) : spec_l1In.f a b c = some (inR a b c) := in_ite a b c
theorem spec_gcBits_eq (a : Int) : spec_gcBits.f a = some (inR a 1 10) := by simp only [spec_gcBits.f, spec_l1In_eq, Option.bind_some]
theorem spec_gcWord_eq (n w : Int) (h : 0 ≤ n) : spec_gcWord.f n w = some (inR w 0 (top n)) := by simp only [spec_gcWord.f, if_pos h, spec_l1In_eq, Option.bind_some, top]
theorem spec_l1All_ev (l : List Int) (lo hi : Int) (hl : l.length ≤ 9000000000000000000) : Ev (fun k => spec_l1All.f k l lo hi) (allIn l lo hi) := by
  refine range_all hl (fun pre suf => Ev (fun k => spec_l1All.l0 k lo hi l (l.length : Int) (pre.length : Int)) (allIn suf lo hi)) ?_ ?_
  · refine ev_shift ?_
    simp only [spec_l1All.l0]
    exact ev_neg (by omega) (ev_some rfl)
  · intro pre x suf h hx h1 h2 h3 ih
    refine ev_shift ?_
    simp only [spec_l1All.l0, hx, h3, spec_l1In_eq, Option.bind_some, allIn_cons]
    refine ev_pos h1 (ev_pos h2 (ev_pos h1 ?_))
    cases inR x lo hi with
    | true => exact ev_pos rfl ih
    | false => exact ev_neg (by simp) (ev_some rfl)
theorem impl_within_eq (a b c : Int) : impl_within.f a b c = some (inR a b c) := in_ite a b c
theorem impl_isBits_eq (a : Int) : impl_isBits.f a = some (inR a 1 10) := by simp only [impl_isBits.f, impl_within_eq, Option.bind_some]
theorem impl_isWord_eq (n w : Int) : impl_isWord.f n w = some (isW n w) := by
  simp only [impl_isWord.f, impl_isBits_eq, impl_within_eq, Option.bind_some, isW, top]
  by_cases h : inR n 1 10 = true
  · have := inR_iff.1 h
    rw [if_pos h, if_pos (by omega), h, Bool.true_and]
  · simp only [Bool.not_eq_true] at h
    simp [h]
theorem impl_allWithin_ev (l : List Int) (lo hi : Int) (hl : l.length ≤ 9000000000000000000) : Ev (fun k => impl_allWithin.f k l lo hi) (allIn l lo hi) := by
  refine range_all hl (fun pre suf => Ev (fun k => impl_allWithin.l0 k lo hi l (l.length : Int) (pre.length : Int)) (allIn suf lo hi)) ?_ ?_
  · refine ev_shift ?_
    simp only [impl_allWithin.l0]
    exact ev_neg (by omega) (ev_some rfl)
  · intro pre x suf h hx h1 h2 h3 ih
    refine ev_shift ?_
    simp only [impl_allWithin.l0, hx, h3, impl_within_eq, Option.bind_some, allIn_cons]
    refine ev_pos h1 (ev_pos h2 (ev_pos h1 ?_))
    cases inR x lo hi with
    | true => exact ev_pos rfl ih
    | false => exact ev_neg (by simp) (ev_some rfl)
def fromD (n s : Int) (l : List Int) : List Int × Bool := if isW n s = true ∧ (l.length : Int) ≤ 1099 ∧ allIn l 0 (n - 1) = true then (s :: scanX s l, true) else ([], false)
theorem spec_FromDeltas_ev (n s : Int) (l : List Int) (hl : l.length ≤ 9000000000000000000) : Ev (fun k => spec_FromDeltas.f k n s l) (fromD n s l) := by
  have bad : (¬ (isW n s = true ∧ (l.length : Int) ≤ 1099 ∧ allIn l 0 (n - 1) = true)) → Ev (fun k => spec_FromDeltas.j0 k s l true) (fromD n s l) := by
    intro h
    unfold fromD
    rw [if_neg h]
    refine ev_shift ?_
    simp only [spec_FromDeltas.j0]
    exact ev_pos (by trivial) (ev_some rfl)
  unfold spec_FromDeltas.f
  refine ev_bind0 (spec_gcBits_eq _) ?_
  by_cases hn : inR n 1 10 = true
  case neg =>
    exact ev_neg hn (bad (fun h => hn (by have := h.1; simp only [isW, Bool.and_eq_true] at this; exact this.1)))
  have hn' := inR_iff.1 hn
  refine ev_pos hn (ev_bind0 (spec_gcWord_eq n s (by omega)) ?_)
  by_cases hw : inR s 0 (top n) = true
  case neg =>
    exact ev_neg hw (bad (fun h => hw (by have := h.1; simp only [isW, Bool.and_eq_true] at this; exact this.2)))
  refine ev_pos hw ?_
  by_cases hlen : (l.length : Int) > 1099
  · exact ev_pos hlen (bad (fun h => by omega))
  refine ev_neg hlen ?_
  rw [w64 (by omega) (by omega)]
  refine ev_bind (spec_l1All_ev l 0 (n - 1) hl) ?_
  by_cases ha : allIn l 0 (n - 1) = true
  case neg =>
    simp only [Bool.not_eq_true] at ha
    rw [ha]
    exact bad (fun h => by rw [ha] at h; exact absurd h.2.2 (by simp))
  have good : fromD n s l = (s :: scanX s l, true) := by
    unfold fromD
    rw [if_pos ⟨by simp only [isW, hn, hw, Bool.and_self], by omega, ha⟩]
  rw [ha, good]
  have hge : ∀ x ∈ l, 0 ≤ x := fun x hx => (allIn_iff.1 ha x hx).1
  refine ev_shift ?_
  simp only [spec_FromDeltas.j0]
  refine ev_neg (by simp) ?_
  have key : ∀ suf pre, l = pre ++ suf → ∀ (t : Int) (out : List Int), out.length = pre.length + 1 → Ev (fun k => spec_FromDeltas.l0 k t out l (l.length : Int) (pre.length : Int)) (out ++ scanX t suf, true) := by
    refine range_ind hl (fun pre suf => ∀ (t : Int) (out : List Int), out.length = pre.length + 1 → Ev (fun k => spec_FromDeltas.l0 k t out l (l.length : Int) (pre.length : Int)) (out ++ scanX t suf, true)) ?_ ?_
    · intro t out _
      refine ev_shift ?_
      simp only [spec_FromDeltas.l0]
      exact ev_neg (by omega) (ev_some (by simp [scanX]))
    · intro pre x suf h hx h1 h2 h3 ih t out ho
      have hx0 : 0 ≤ x := hge x (by rw [h]; simp)
      refine ev_shift ?_
      simp only [spec_FromDeltas.l0, hx, h3]
      refine ev_pos h1 (ev_pos h2 (ev_pos h1 (ev_pos hx0 (ev_pos (by omega) ?_))))
      have := ih (Go.bits .xor .i64 t (shl .i64 1 x)) (out ++ [Go.bits .xor .i64 t (shl .i64 1 x)]) (by simp [ho])
      simpa only [scanX, List.append_assoc, List.singleton_append] using this
  exact key l [] rfl s [s] rfl
theorem impl_FromDeltas_ev (n s : Int) (l : List Int) (hl : l.length ≤ 9000000000000000000) : Ev (fun k => impl_FromDeltas.f k n s l) (fromD n s l) := by
  have bad : (¬ (isW n s = true ∧ (l.length : Int) ≤ 1099 ∧ allIn l 0 (n - 1) = true)) → Ev (fun k => impl_FromDeltas.j0 k s l true) (fromD n s l) := by
    intro h
    unfold fromD
    rw [if_neg h]
    refine ev_shift ?_
    simp only [impl_FromDeltas.j0]
    exact ev_pos (by trivial) (ev_some rfl)
  unfold impl_FromDeltas.f
  refine ev_bind0 (impl_isWord_eq _ _) ?_
  by_cases hw : isW n s = true
  case neg =>
    exact ev_neg hw (bad (fun h => hw h.1))
  have hn' := (isW_iff.1 hw).1
  refine ev_pos hw ?_
  by_cases hlen : (l.length : Int) > 1099
  · exact ev_pos hlen (bad (fun h => by omega))
  refine ev_neg hlen ?_
  rw [w64 (by omega) (by omega)]
  refine ev_bind (impl_allWithin_ev l 0 (n - 1) hl) ?_
  by_cases ha : allIn l 0 (n - 1) = true
  case neg =>
    simp only [Bool.not_eq_true] at ha
    rw [ha]
    exact bad (fun h => by rw [ha] at h; exact absurd h.2.2 (by simp))
  have good : fromD n s l = (s :: scanX s l, true) := by
    unfold fromD
    rw [if_pos ⟨hw, by omega, ha⟩]
  rw [ha, good]
  have hge : ∀ x ∈ l, 0 ≤ x := fun x hx => (allIn_iff.1 ha x hx).1
  refine ev_shift ?_
  simp only [impl_FromDeltas.j0]
  refine ev_neg (by simp) ?_
  have key : ∀ suf pre, l = pre ++ suf → ∀ (t : Int) (out : List Int), out.length = pre.length → Ev (fun k => impl_FromDeltas.l0 k (out ++ [t]) l (l.length : Int) (pre.length : Int)) (out ++ t :: scanX t suf, true) := by
    refine range_ind hl (fun pre suf => ∀ (t : Int) (out : List Int), out.length = pre.length → Ev (fun k => impl_FromDeltas.l0 k (out ++ [t]) l (l.length : Int) (pre.length : Int)) (out ++ t :: scanX t suf, true)) ?_ ?_
    · intro t out _
      refine ev_shift ?_
      simp only [impl_FromDeltas.l0]
      exact ev_neg (by omega) (ev_some (by simp [scanX]))
    · intro pre x suf h hx h1 h2 h3 ih t out ho
      have hx0 : 0 ≤ x := hge x (by rw [h]; simp)
      have ht : rd (out ++ [t]) (pre.length : Int) = t := by rw [← ho]; exact rd_at out t []
      refine ev_shift ?_
      simp only [impl_FromDeltas.l0, hx, h3, ht]
      refine ev_pos h1 (ev_pos h2 (ev_pos h1 (ev_pos (by simp; omega) (ev_pos hx0 (ev_pos (by simp [ho]; omega) ?_)))))
      have := ih (Go.bits .xor .i64 t (shl .i64 1 x)) (out ++ [t]) (by simp [ho])
      simpa only [scanX, List.append_assoc, List.singleton_append] using this
  exact key l [] rfl s [] rfl
theorem scanX_length (s : Int) (l : List Int) : (scanX s l).length = l.length := by
  induction l generalizing s with
  | nil => rfl
  | cons d r ih => simp [scanX, ih]
theorem fromD_length (n s : Int) (l : List Int) : (fromD n s l).1.length ≤ l.length + 1 := by
  unfold fromD
  split
  · simp [scanX_length]
  · simp
theorem FnExactFromDeltas : laws_FnExactFromDeltas.Pure := by
  intro n s l hn hs hl1 hl2 hl
  apply ev_le
  unfold laws_FnExactFromDeltas.f
  by_cases hb : (l.length : Int) > 1048576
  · exact ev_pos hb (ev_some rfl)
  have hs := spec_FromDeltas_ev n s l (by omega)
  have hi := impl_FromDeltas_ev n s l (by omega)
  have hlen := fromD_length n s l
  generalize fromD n s l = p at hs hi hlen
  obtain ⟨out, ok⟩ := p
  simp only at hlen
  refine ev_neg hb ?_
  repeat (first
      | exact ev_some rfl
      | refine ev_bind (laws_toIntS_ev _ (by omega)) ?_
      | refine ev_bind (laws_eqIntS_ev _ (by omega)) ?_
      | refine ev_bind (laws_markIntS_ev _ _ (by omega) (by omega) (by omega)) ?_
      | refine ev_bind (laws_heldIntS_ev _ _ (by omega) (by omega) (by omega)) ?_
      | refine ev_bind hs ?_
      | refine ev_bind hi ?_
      | refine ev_pos rfl ?_
      | refine ev_pos trivial ?_
      | refine ev_neg neq_self ?_
      | dsimp only
      | refine ev_neg (by omega) ?_
      | (refine ev_shift ?_; simp only [laws_FnExactFromDeltas.j0, laws_FnExactFromDeltas.j1, laws_FnExactFromDeltas.j2]))

end Go.Proofs.Ytgecmdnjgoekjaa.Pure
