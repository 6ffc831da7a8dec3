/- The law FnExactColexAt returns true for all numbers; no condition of ours. -/
import Derived.Test.YtgecmdnjgoekjaaPFnExactColexAtx2
import Derived.Test.YtgecmdnjgoekjaaMth
import Derived.Test.YtgecmdnjgoekjaaMthComb
set_option linter.unusedVariables false
set_option linter.unusedSimpArgs false
namespace Go.Proofs.Ytgecmdnjgoekjaa.Pure
open Go.RowKit Go.Proofs.Ytgecmdnjgoekjaa.Mth Go.Proofs.Ytgecmdnjgoekjaa.PFnExactColexAt Go.Proofs.YtgecmdnjgoekjaaW.PrintWords Go.Proofs.YtgecmdnjgoekjaaW.PrintLast

theorem laws_eqIntS_ev (l : List Int) (hl : l.length ≤ 9000000000000000000) : Ev (fun k => laws_eqIntS.f k l l) true := by
  unfold laws_eqIntS.f
  refine ev_pos rfl ?_
  refine range_all hl (fun pre suf => Ev (fun k => laws_eqIntS.l0 k l l (pre.length : Int)) true) ?_ ?_
  · refine ev_shift ?_
    simp only [laws_eqIntS.l0]
    exact ev_neg (by omega) (ev_some rfl)
  · intro pre x suf h hx h1 h2 h3 ih
    refine ev_shift ?_
    simp only [laws_eqIntS.l0, h3]
    exact ev_pos h1 (ev_pos h2 (ev_pos h1 (ev_pos (by trivial) ih)))
theorem laws_markIntS_ev (l : List Int) (m : Int) (h0 : 0 ≤ m) (h1 : m ≤ 1000000000000000000) (hl : l.length ≤ 1000000000000000000) : Ev (fun k => laws_markIntS.f k l m) (m + (l.length : Int), marks l.length m) := by
  have key : (fun (pre suf : List Int) => l.length = pre.length + suf.length → Ev (fun k => laws_markIntS.l0 k (marks pre.length m ++ suf) (m + (pre.length : Int)) (pre.length : Int)) (m + (l.length : Int), marks l.length m)) [] l := by
    refine range_all (l := l) (by omega) (fun pre suf => l.length = pre.length + suf.length → Ev (fun k => laws_markIntS.l0 k (marks pre.length m ++ suf) (m + (pre.length : Int)) (pre.length : Int)) (m + (l.length : Int), marks l.length m)) ?_ ?_
    · intro _
      refine ev_shift ?_
      simp only [laws_markIntS.l0]
      exact ev_neg (by simp [marks_length]) (ev_some (by simp))
    · intro pre x suf h hx h1 h2 h3 ih hlen
      simp only [List.length_cons] at hlen
      refine ev_shift ?_
      have e : (marks pre.length m ++ x :: suf).set (pre.length : Int).toNat (m + (pre.length : Int)) = marks (pre ++ [x]).length m ++ suf := by
        have := set_at (marks pre.length m) x (m + (pre.length : Int)) suf
        rw [marks_length] at this
        rw [this, List.length_append, List.length_singleton, marks_snoc]; simp
      simp only [laws_markIntS.l0, h3, e]
      refine ev_pos (by simp [marks_length]; omega) (ev_pos h2 ?_)
      rw [w64 (by omega) (by omega)]
      have := ih (by simp; omega)
      simp only [List.length_append, List.length_singleton] at this ⊢
      rw [show m + (pre.length : Int) + 1 = m + ((pre.length + 1 : Nat) : Int) by omega]
      exact this
  have := key (by simp)
  unfold laws_markIntS.f
  simpa [marks] using this
theorem laws_heldIntS_ev (n : Nat) (m : Int) (h0 : 0 ≤ m) (h1 : m ≤ 1000000000000000000) (hl : n ≤ 1000000000000000000) : Ev (fun k => laws_heldIntS.f k (marks n m) m) (m + (n : Int)) := by
  have key : (fun (pre suf : List Int) => n = pre.length + suf.length → Ev (fun k => laws_heldIntS.l0 k (marks n m) (m + (pre.length : Int)) (pre.length : Int)) (m + (n : Int))) [] (marks n m) := by
    refine range_all (l := marks n m) (by rw [marks_length]; omega) (fun pre suf => n = pre.length + suf.length → Ev (fun k => laws_heldIntS.l0 k (marks n m) (m + (pre.length : Int)) (pre.length : Int)) (m + (n : Int))) ?_ ?_
    · intro _
      refine ev_shift ?_
      simp only [laws_heldIntS.l0, marks_length]
      exact ev_neg (by omega) (ev_some (by simp))
    · intro pre x suf h hx h1 h2 h3 ih hlen
      simp only [List.length_cons] at hlen
      refine ev_shift ?_
      have e : rd (marks n m) (pre.length : Int) = m + (pre.length : Int) := marks_rd n m pre.length (by omega)
      simp only [laws_heldIntS.l0, h3, e]
      refine ev_pos h1 (ev_pos h2 (ev_pos (by trivial) ?_))
      rw [w64 (by omega) (by omega)]
      have := ih (by simp; omega)
      simp only [List.length_append, List.length_singleton] at this ⊢
      rw [show m + (pre.length : Int) + 1 = m + ((pre.length + 1 : Nat) : Int) by omega]
      exact this
  have := key (by simp [marks_length])
  unfold laws_heldIntS.f
  simpa [marks] using this
theorem spec_l1In_eq (a b c : Int) : spec_l1In.f a b c = some (inR a b c) := in_ite a b c
theorem spec_raItems_eq (a : Int) : spec_raItems.f a = some (inR a 0 12) := by simp only [spec_raItems.f, spec_l1In_eq, Option.bind_some]
theorem spec_l1Own_eq (l : List Int) (h : l.length < 17592186044416) : spec_l1Own.f l = some l := by
  simp only [spec_l1Own.f, Option.bind_some, List.length_nil, Nat.zero_add, List.nil_append]
  rw [if_pos h]
theorem spec_raOf_eq (l : List (List Int)) (i : Int) (h : l.length ≤ 1000000) (hr : ∀ r ∈ l, r.length ≤ 1000000) : spec_raOf.f l i = some (ofL l i) := by
  simp only [spec_raOf.f, spec_l1In_eq, Option.bind_some]
  rw [w64 (by omega) (by omega)]
  unfold ofL
  by_cases hi : inR i 0 ((l.length : Int) - 1) = true
  · have hi' := inR_iff.1 hi
    rw [if_pos hi, if_pos hi, if_pos hi'.1, if_pos (by omega)]
    have e : rd_L1 l i = rdL l i := rfl
    have hm : rdL l i ∈ l := by
      unfold rdL
      rw [List.getD_eq_getElem?_getD, List.getElem?_eq_getElem (by omega)]
      exact List.getElem_mem _
    rw [e, spec_l1Own_eq _ (by have := hr _ hm; omega), Option.bind_some]
  · rw [if_neg hi, if_neg hi]
theorem spec_raColex_ev (n : Nat) (hn : n ≤ 12) : ∀ k : Nat, k ≤ 12 → Ev (fun j => spec_raColex.f j (n : Int) (k : Int)) (colL n k) := by
  induction n with
  | zero =>
    intro k hk
    refine ev_shift ?_
    simp only [spec_raColex.f]
    cases k with
    | zero => exact ev_pos rfl (ev_some rfl)
    | succ k => exact ev_neg (by omega) (ev_pos rfl (ev_some rfl))
  | succ n ih =>
    intro k hk
    refine ev_shift ?_
    simp only [spec_raColex.f]
    cases k with
    | zero => exact ev_pos rfl (ev_some rfl)
    | succ k =>
      have e1 : wrap64 (((n + 1 : Nat) : Int) - 1) = (n : Int) := by rw [w64 (by omega) (by omega)]; omega
      have e2 : wrap64 (((k + 1 : Nat) : Int) - 1) = (k : Int) := by rw [w64 (by omega) (by omega)]; omega
      rw [e1, e2]
      refine ev_neg (by omega) (ev_neg (by omega) (ev_bind (ih (by omega) (k + 1) (by omega)) (ev_bind (ih (by omega) k (by omega)) ?_)))
      rw [colL_succ]
      have hl := colL_length n k
      have hl' := colL_length n (k + 1)
      have b := C_12 k (n := n) (by omega)
      have b' := C_12 (k + 1) (n := n) (by omega)
      have key : ∀ suf pre, colL n k = pre ++ suf → ∀ out : List (List Int), out.length + suf.length ≤ 100000 → Ev (fun j => spec_raColex.l0 j ((n + 1 : Nat) : Int) out (colL n k) ((colL n k).length : Int) (pre.length : Int)) (out ++ suf.map (fun r => r ++ [(n : Int)])) := by
        refine rangeL_ind (by omega) (fun pre suf => ∀ out : List (List Int), out.length + suf.length ≤ 100000 → Ev (fun j => spec_raColex.l0 j ((n + 1 : Nat) : Int) out (colL n k) ((colL n k).length : Int) (pre.length : Int)) (out ++ suf.map (fun r => r ++ [(n : Int)]))) ?_ ?_
        · intro out _
          refine ev_shift ?_
          simp only [spec_raColex.l0]
          exact ev_neg (by omega) (ev_some (by simp))
        · intro pre r suf h hx h1 h2 h3 ih out ho
          simp only [List.length_cons] at ho
          have hr : r.length = k := colL_mem_length (n := n) (by rw [h]; simp)
          have e : rd_L1 (colL n k) (pre.length : Int) = r := hx
          refine ev_shift ?_
          simp only [spec_raColex.l0, e, h3, e1, spec_l1Own_eq r (by omega), Option.bind_some]
          refine ev_pos h1 (ev_pos h2 (ev_pos h1 (ev_pos (by omega) (ev_pos (by omega) ?_))))
          have := ih (out ++ [r ++ [(n : Int)]]) (by simp; omega)
          simpa using this
      exact key _ [] rfl _ (by omega)
theorem impl_within_eq (a b c : Int) : impl_within.f a b c = some (inR a b c) := in_ite a b c
theorem impl_binomial_ev (n : Nat) (k : Nat) (h : n ≤ 13) (hk : k ≤ 14) : Ev (fun j => impl_binomial.f j (n : Int) (k : Int)) (C n k : Int) := by
  have t : ∀ (a : Fin 14) (b : Fin 15), impl_binomial.f 20 ((a.1 : Nat) : Int) ((b.1 : Nat) : Int) = some (C a.1 b.1 : Int) := by decide +kernel
  exact Ev.of (impl_binomial.mono _ _) (t ⟨n, by omega⟩ ⟨k, by omega⟩)
def isRk (n k r : Int) : Bool := decide ((0 ≤ n ∧ n ≤ 12) ∧ (0 ≤ k ∧ k ≤ n) ∧ 0 ≤ r ∧ r < (C n.toNat k.toNat : Int))
theorem impl_isRank_ev (n k r : Int) : Ev (fun j => impl_isRank.f j n k r) (isRk n k r) := by
  unfold impl_isRank.f isRk
  refine ev_bind0 (impl_within_eq _ _ _) ?_
  by_cases h : inR n 0 12 = true
  · have h' := inR_iff.1 h
    refine ev_pos h (ev_bind0 (impl_within_eq _ _ _) ?_)
    by_cases hk : inR k 0 n = true
    · have hk' := inR_iff.1 hk
      obtain ⟨m, rfl⟩ := Int.eq_ofNat_of_zero_le h'.1
      obtain ⟨i, rfl⟩ := Int.eq_ofNat_of_zero_le hk'.1
      refine ev_pos hk (ev_bind (impl_binomial_ev m i (by omega) (by omega)) (ev_bind0 (impl_within_eq _ _ _) (ev_some ?_)))
      have b := C_12 i (n := m) (by omega)
      rw [w64 (by omega) (by omega)]
      simp only [Int.toNat_natCast]
      unfold inR
      rw [← Bool.decide_and]
      exact decide_eq_decide.2 ⟨fun a => ⟨h', hk', by omega, by omega⟩, fun a => ⟨by omega, by omega⟩⟩
    · exact ev_neg hk (ev_some (by rw [eq_comm, decide_eq_false_iff_not]; intro c; exact hk (inR_iff.2 c.2.1)))
  · exact ev_neg h (ev_some (by rw [eq_comm, decide_eq_false_iff_not]; intro c; exact h (inR_iff.2 c.1)))
theorem isRk_iff {n k r : Int} : isRk n k r = true ↔ (0 ≤ n ∧ n ≤ 12) ∧ (0 ≤ k ∧ k ≤ n) ∧ 0 ≤ r ∧ r < (C n.toNat k.toNat : Int) := by simp [isRk]
def colAt (k r : Int) : List Int × Bool := if isRk 12 k r = true then (uncolL 12 k.toNat r.toNat, true) else ([], false)
theorem colAt_len (k r : Int) : (colAt k r).1.length ≤ 12 := by
  unfold colAt
  by_cases h : isRk 12 k r = true
  · rw [if_pos h]
    have h' := isRk_iff.1 h
    obtain ⟨i, rfl⟩ := Int.eq_ofNat_of_zero_le h'.2.1.1
    obtain ⟨q, rfl⟩ := Int.eq_ofNat_of_zero_le h'.2.2.1
    simp only [Int.toNat_natCast] at h' ⊢
    have : (12 : Int).toNat = 12 := rfl
    rw [this] at h'
    rw [uncolL_length _ _ _ (by omega)]; omega
  · rw [if_neg h]; exact Nat.zero_le _
theorem ofL_colL (k : Nat) (hk : k ≤ 12) (r : Int) : ofL (colL 12 k) r = colAt (k : Int) r := by
  unfold colAt
  have e12 : (12 : Int).toNat = 12 := rfl
  by_cases h : isRk 12 (k : Int) r = true
  · rw [if_pos h]
    have h' := isRk_iff.1 h
    obtain ⟨q, rfl⟩ := Int.eq_ofNat_of_zero_le h'.2.2.1
    simp only [Int.toNat_natCast, e12] at h' ⊢
    exact ofL_some (colL_at _ _ _ (by omega))
  · rw [if_neg h]
    refine ofL_none ?_
    rw [colL_length]
    rw [isRk_iff] at h
    simp only [Int.toNat_natCast, e12] at h
    omega
theorem spec_ColexAt_ev (k r : Int) : Ev (fun j => spec_ColexAt.f j k r) (colAt k r) := by
  unfold spec_ColexAt.f
  refine ev_bind0 (spec_raItems_eq _) ?_
  by_cases h : inR k 0 12 = true
  · have h' := inR_iff.1 h
    obtain ⟨i, rfl⟩ := Int.eq_ofNat_of_zero_le h'.1
    refine ev_pos h (ev_bind (spec_raColex_ev 12 (by omega) i (by omega)) (ev_bind0 (spec_raOf_eq _ _ (by rw [colL_length]; have := C_12 i (n := 12) (by omega); omega) (fun r hr => by rw [colL_mem_length hr]; omega)) (ev_some ?_)))
    exact ofL_colL i (by omega) r
  · refine ev_neg h (ev_some ?_)
    unfold colAt
    rw [if_neg]
    intro c
    have c' := isRk_iff.1 c
    exact h (inR_iff.2 ⟨by omega, by omega⟩)
theorem impl_ColexAt_l1 (j r : Nat) (done : List Int) (hj : j + 1 ≤ 12) (R : List Int × Bool) (hr : r < C 12 (j + 1))
    (hk : ∀ x : Nat, C x (j + 1) ≤ r → r < C (x + 1) (j + 1) → x < 12 → Ev (fun k => impl_ColexAt.l0 k ((r - C x (j + 1) : Nat) : Int) (List.replicate j 0 ++ (x : Int) :: done) ((j : Int) - 1)) R) :
    ∀ d x : Nat, x + d = 12 → C x (j + 1) ≤ r → Ev (fun k => impl_ColexAt.l1 k (r : Int) (List.replicate (j + 1) 0 ++ done) (j : Int) (x : Int)) R := by
  intro d
  induction d with
  | zero =>
    intro x hx hle
    have : x = 12 := by omega
    subst this
    omega
  | succ d ih =>
    intro x hx hle
    have e1 : wrap64 ((x : Int) + 1) = ((x + 1 : Nat) : Int) := by rw [w64 (by omega) (by omega)]; omega
    have e2 : wrap64 ((j : Int) + 1) = ((j + 1 : Nat) : Int) := by rw [w64 (by omega) (by omega)]; omega
    have e3 : wrap64 ((j : Int) - 1) = (j : Int) - 1 := w64 (by omega) (by omega)
    refine ev_shift ?_
    simp only [impl_ColexAt.l1, e1, e2, e3]
    refine ev_bind (impl_binomial_ev (x + 1) (j + 1) (by omega) (by omega)) ?_
    by_cases h : C (x + 1) (j + 1) ≤ r
    · exact ev_pos (by omega) (ih (x + 1) (by omega) h)
    · refine ev_neg (by omega) (ev_pos (by omega) (ev_pos (by simp; omega) (ev_bind (impl_binomial_ev x (j + 1) (by omega) (by omega)) ?_)))
      have e4 : wrap64 ((r : Int) - (C x (j + 1) : Int)) = ((r - C x (j + 1) : Nat) : Int) := by
        have b := C_12 (j + 1) (n := 12) (by omega)
        rw [w64 (by omega) (by omega)]; omega
      have e5 : (List.replicate (j + 1) (0 : Int) ++ done).set (j : Int).toNat (x : Int) = List.replicate j 0 ++ (x : Int) :: done := by
        rw [List.replicate_succ', List.append_assoc, List.singleton_append]
        have := set_at (List.replicate j (0 : Int)) 0 (x : Int) done
        rw [List.length_replicate] at this
        exact this
      rw [e4, e5]
      exact hk x hle (by omega) (by omega)
theorem impl_ColexAt_l0 (j : Nat) : ∀ (n r : Nat) (done : List Int), n ≤ 12 → j ≤ 12 → r < C n j →
    Ev (fun k => impl_ColexAt.l0 k (r : Int) (List.replicate j 0 ++ done) ((j : Int) - 1)) (uncolL n j r ++ done, true) := by
  induction j with
  | zero =>
    intro n r done hn hj hr
    refine ev_shift ?_
    simp only [impl_ColexAt.l0]
    exact ev_neg (by omega) (ev_some (by rw [uncolL_zero]; rfl))
  | succ j ih =>
    intro n r done hn hj hr
    refine ev_shift ?_
    have e : (((j + 1 : Nat) : Int) - 1) = (j : Int) := by omega
    simp only [impl_ColexAt.l0, e]
    refine ev_pos (by omega) ?_
    refine impl_ColexAt_l1 j r done (by omega) _ (Nat.lt_of_lt_of_le hr (C_mono (j + 1) hn)) ?_ (12 - j) j (by omega) (by rw [C_gt (by omega)]; omega)
    intro x h1 h2 hx
    have hxn : x < n := by
      rcases Nat.lt_or_ge x n with h | h
      · exact h
      · have := C_mono (j + 1) h; omega
    rw [uncolL_step n j x r h1 h2 hxn, List.append_assoc, List.singleton_append]
    rw [C_succ] at h2
    exact ih x (r - C x (j + 1)) ((x : Int) :: done) (by omega) (by omega) (by omega)
theorem impl_ColexAt_ev (k r : Int) : Ev (fun j => impl_ColexAt.f j k r) (colAt k r) := by
  unfold impl_ColexAt.f colAt
  refine ev_bind (impl_isRank_ev _ _ _) ?_
  by_cases h : isRk 12 k r = true
  · have h' := isRk_iff.1 h
    obtain ⟨i, rfl⟩ := Int.eq_ofNat_of_zero_le h'.2.1.1
    obtain ⟨q, rfl⟩ := Int.eq_ofNat_of_zero_le h'.2.2.1
    have e12 : (12 : Int).toNat = 12 := rfl
    rw [if_pos h]
    simp only [Int.toNat_natCast, e12] at h' ⊢
    refine ev_pos h (ev_pos (by omega) (ev_pos (by omega) ?_))
    rw [w64 (by omega) (by omega)]
    have := impl_ColexAt_l0 i 12 q [] (by omega) (by omega) (by omega)
    simpa using this
  · exact ev_neg h (ev_some (by rw [if_neg h]))
theorem FnExactColexAt : laws_FnExactColexAt.Pure := by
  intro k r hk hr
  apply ev_le
  unfold laws_FnExactColexAt.f
  have hs := spec_ColexAt_ev k r
  have hi := impl_ColexAt_ev k r
  have hlen := colAt_len k r
  generalize colAt k r = p at hs hi hlen
  obtain ⟨out, ok⟩ := p
  simp only at hlen
  repeat (first
      | exact ev_some rfl
      | refine ev_bind (laws_eqIntS_ev _ (by omega)) ?_
      | refine ev_bind (laws_markIntS_ev _ _ (by omega) (by omega) (by omega)) ?_
      | refine ev_bind (laws_heldIntS_ev _ _ (by omega) (by omega) (by omega)) ?_
      | refine ev_bind hs ?_
      | refine ev_bind hi ?_
      | refine ev_pos rfl ?_
      | refine ev_pos trivial ?_
      | refine ev_neg neq_self ?_
      | dsimp only
      | refine ev_neg (by omega) ?_
      | (refine ev_shift ?_; simp only [laws_FnExactColexAt.j0, laws_FnExactColexAt.j1]))

end Go.Proofs.Ytgecmdnjgoekjaa.Pure
