/- Plain facts on permutations with ranks and with inversions. No condition. -/
-- plain: PermRank
import Derived.Test.YtnhifbopicjicaaMthPermRank
set_option linter.unusedVariables false
set_option linter.unusedSimpArgs false
namespace Go.Proofs.Ytnhifbopicjicaa.Mth
open Go.RowKit Go.Proofs.YtnhifbopicjicaaW.PrintWords Go.Proofs.YtnhifbopicjicaaW.PrintLast

/-! ### The order with a rank -/
theorem cons_erase_perm {l : List Int} : ∀ {q : Nat} (h : q < l.length), (l[q] :: l.eraseIdx q).Perm l := by
  induction l with
  | nil => intro q h; simp at h
  | cons a t ih =>
    intro q h
    cases q with
    | zero => exact List.Perm.refl _
    | succ q =>
      simp only [List.getElem_cons_succ, List.eraseIdx_cons_succ]
      exact (List.Perm.swap _ _ _).trans ((ih (by simpa using h)).cons a)
theorem cntLt_perm {x : Int} {a b : List Int} (h : a.Perm b) : cntLt x a = cntLt x b := by
  induction h with
  | nil => rfl
  | cons y _ ih => rw [cntLt_cons, cntLt_cons, ih]
  | swap y z l => simp only [cntLt_cons]; omega
  | trans _ _ h1 h2 => exact h1.trans h2
theorem cntGt_perm {x : Int} {a b : List Int} (h : a.Perm b) : cntGt x a = cntGt x b := by
  induction h with
  | nil => rfl
  | cons y _ ih => rw [cntGt_cons, cntGt_cons, ih]
  | swap y z l => simp only [cntGt_cons]; omega
  | trans _ _ h1 h2 => exact h1.trans h2
theorem cntLt_none {x : Int} {l : List Int} (h : ∀ y ∈ l, ¬ y < x) : cntLt x l = 0 := by
  induction l with
  | nil => exact cntLt_nil x
  | cons y r ih => rw [cntLt_cons, if_neg (h y (by simp)), ih (fun z hz => h z (by simp [hz]))]
theorem cntGt_all {x : Int} {l : List Int} (h : ∀ y ∈ l, y > x) : cntGt x l = l.length := by
  induction l with
  | nil => exact cntGt_nil x
  | cons y r ih => rw [cntGt_cons, if_pos (h y (by simp)), ih (fun z hz => h z (by simp [hz])), List.length_cons]; omega
theorem cntLt_sorted (l : List Int) (h : l.Pairwise (· < ·)) : ∀ (q : Nat) (hq : q < l.length), cntLt l[q] (l.eraseIdx q) = q := by
  induction l with
  | nil => intro q hq; simp at hq
  | cons a t ih =>
    intro q hq
    rw [List.pairwise_cons] at h
    cases q with
    | zero =>
      simp only [List.getElem_cons_zero, List.eraseIdx_cons_zero]
      exact cntLt_none (fun y hy => by have := h.1 y hy; omega)
    | succ q =>
      simp only [List.length_cons] at hq
      simp only [List.getElem_cons_succ, List.eraseIdx_cons_succ]
      rw [cntLt_cons, if_pos (h.1 _ (List.getElem_mem _)), ih h.2 q (by omega)]; omega
theorem cntGt_sorted (l : List Int) (h : l.Pairwise (· < ·)) : ∀ (q : Nat) (hq : q < l.length), cntGt l[q] (l.eraseIdx q) + q + 1 = l.length := by
  induction l with
  | nil => intro q hq; simp at hq
  | cons a t ih =>
    intro q hq
    rw [List.pairwise_cons] at h
    cases q with
    | zero =>
      simp only [List.getElem_cons_zero, List.eraseIdx_cons_zero]
      rw [cntGt_all (fun y hy => by have := h.1 y hy; omega), List.length_cons]
    | succ q =>
      simp only [List.length_cons] at hq
      simp only [List.getElem_cons_succ, List.eraseIdx_cons_succ, List.length_cons]
      have := h.1 _ (List.getElem_mem (l := t) (n := q) (by omega))
      have h2 := ih h.2 q (by omega)
      rw [cntGt_cons, if_neg (by omega)]; omega
def atL : Nat → List Int → Nat → List Int
  | 0, _, _ => []
  | n + 1, l, r => l.getD (r / fact n) 0 :: atL n (l.eraseIdx (r / fact n)) (r % fact n)
theorem atL_length : ∀ (n : Nat) (l : List Int) (r : Nat), (atL n l r).length = n
  | 0, _, _ => rfl
  | n + 1, l, r => by rw [atL, List.length_cons, atL_length n]
theorem fact_div {n r : Nat} (h : r < fact (n + 1)) : r / fact n < n + 1 := by
  rw [Nat.div_lt_iff_lt_mul (fact_pos n)]
  simpa [fact] using h
theorem getD_of_lt {l : List Int} {q : Nat} (h : q < l.length) : l.getD q 0 = l[q] := by simp [List.getD_eq_getElem?_getD, h]
theorem atL_perm : ∀ (n : Nat) (l : List Int) (r : Nat), l.length = n → r < fact n → (atL n l r).Perm l
  | 0, l, r, hl, _ => by simp [atL, List.eq_nil_of_length_eq_zero hl]
  | n + 1, l, r, hl, hr => by
    have hq : r / fact n < l.length := by rw [hl]; exact fact_div hr
    have ih := atL_perm n (l.eraseIdx (r / fact n)) (r % fact n) (by rw [List.length_eraseIdx_of_lt hq, hl]; rfl) (Nat.mod_lt _ (fact_pos n))
    rw [atL, getD_of_lt hq]
    exact (ih.cons _).trans (cons_erase_perm hq)
theorem rankP_atL : ∀ (n : Nat) (l : List Int) (r : Nat), l.length = n → l.Pairwise (· < ·) → r < fact n → rankP (atL n l r) = r
  | 0, l, r, hl, _, hr => by simp [fact] at hr; subst hr; exact rankP_nil
  | n + 1, l, r, hl, hs, hr => by
    have hq : r / fact n < l.length := by rw [hl]; exact fact_div hr
    have hel : (l.eraseIdx (r / fact n)).length = n := by rw [List.length_eraseIdx_of_lt hq, hl]; rfl
    have hm := Nat.mod_lt r (fact_pos n)
    have hp := atL_perm n (l.eraseIdx (r / fact n)) (r % fact n) hel hm
    have ih := rankP_atL n (l.eraseIdx (r / fact n)) (r % fact n) hel (hs.sublist (List.eraseIdx_sublist _ _)) hm
    rw [atL, getD_of_lt hq, rankP_cons, ih, cntLt_perm hp, cntLt_sorted l hs _ hq, atL_length, Nat.mul_comm]
    exact Nat.div_add_mod _ _
theorem atL_rankP : ∀ (n : Nat) (l p : List Int), l.length = n → l.Pairwise (· < ·) → p.Perm l → atL n l (rankP p) = p
  | 0, l, p, hl, _, hp => by
    have : p = [] := List.eq_nil_of_length_eq_zero (by rw [hp.length_eq, hl])
    subst this; rfl
  | n + 1, l, p, hl, hs, hp => by
    cases p with
    | nil => have := hp.length_eq; simp at this; omega
    | cons x r =>
      have hx : x ∈ l := hp.mem_iff.1 (by simp)
      obtain ⟨j, hj, rfl⟩ := List.mem_iff_getElem.1 hx
      have hpr : r.Perm (l.eraseIdx j) := (hp.trans (cons_erase_perm hj).symm).cons_inv
      have hrl : r.length = n := by have := hp.length_eq; simp only [List.length_cons] at this; omega
      have hel : (l.eraseIdx j).length = n := by rw [List.length_eraseIdx_of_lt hj, hl]; rfl
      have hc : cntLt l[j] r = j := by rw [cntLt_perm hpr, cntLt_sorted l hs j hj]
      have hlt := rankP_lt r
      rw [hrl] at hlt
      have hrk : rankP (l[j] :: r) = fact n * j + rankP r := by rw [rankP_cons, hc, hrl, Nat.mul_comm]
      have hd : rankP (l[j] :: r) / fact n = j := by rw [hrk, Nat.mul_add_div (fact_pos n), Nat.div_eq_of_lt hlt]; rfl
      have hmo : rankP (l[j] :: r) % fact n = rankP r := by rw [hrk, Nat.mul_add_mod, Nat.mod_eq_of_lt hlt]
      rw [atL, hd, hmo, getD_of_lt hj, atL_rankP n _ r hel (hs.sublist (List.eraseIdx_sublist _ _)) hpr]
/-- What PermutationAt answers. -/
def atPm (n r : Int) : List Int × Bool := if inR n 0 12 = true ∧ inR r 0 ((fact n.toNat : Int) - 1) = true then (atL n.toNat (idL n.toNat) r.toNat, true) else ([], false)
theorem atPm_len (n r : Int) : (atPm n r).1.length ≤ 12 := by
  unfold atPm
  split
  · rename_i h
    have := inR_iff.1 h.1
    simp only [atL_length]; omega
  · exact Nat.zero_le _
def nextPm (l : List Int) : List Int × Bool := if isPermB l = true then atPm (l.length : Int) ((rankP l : Int) + 1) else ([], false)
theorem nextPm_len (l : List Int) : (nextPm l).1.length ≤ 12 := by
  unfold nextPm
  split
  · exact atPm_len _ _
  · exact Nat.zero_le _

/-! ### The permutation with given inversions -/
/-- Counts are those of some permutation. -/
def cntOk : Nat → List Int → Bool
  | _, [] => true
  | i, c :: r => inR c 0 (i : Int) && cntOk (i + 1) r
/-- The last m elements' choice, from the last on, out of some items. -/
def frL : Nat → List Int → List Int → List Int
  | 0, _, _ => []
  | m + 1, items, cs => frL m (items.eraseIdx (m - (cs.getD m 0).toNat)) cs ++ [items.getD (m - (cs.getD m 0).toNat) 0]
theorem frL_length : ∀ (m : Nat) (items cs : List Int), (frL m items cs).length = m
  | 0, _, _ => rfl
  | m + 1, items, cs => by rw [frL, List.length_append, frL_length m]; rfl
theorem frL_perm : ∀ (m : Nat) (items cs : List Int), items.length = m → (frL m items cs).Perm items
  | 0, items, cs, h => by simp [frL, List.eq_nil_of_length_eq_zero h]
  | m + 1, items, cs, h => by
    have hq : m - (cs.getD m 0).toNat < items.length := by omega
    have ih := frL_perm m (items.eraseIdx (m - (cs.getD m 0).toNat)) cs (by rw [List.length_eraseIdx_of_lt hq, h]; rfl)
    rw [frL, getD_of_lt hq]
    exact (List.perm_append_singleton _ _).trans ((ih.cons _).trans (cons_erase_perm hq))
theorem invF_snoc (l : List Int) (x : Int) : ∀ pre : List Int, invF pre (l ++ [x]) = invF pre l ++ [(cntGt x (pre ++ l) : Int)] := by
  induction l with
  | nil => intro pre; simp [invF]
  | cons y r ih => intro pre; simp [invF, ih]
theorem cntOk_at {l : List Int} : ∀ {i : Nat}, cntOk i l = true → ∀ j, j < l.length → 0 ≤ l.getD j 0 ∧ l.getD j 0 ≤ (i : Int) + (j : Int) := by
  induction l with
  | nil => intro i _ j hj; simp at hj
  | cons c r ih =>
    intro i h j hj
    simp only [cntOk, Bool.and_eq_true, inR_iff] at h
    cases j with
    | zero => simp only [List.getD_cons_zero]; omega
    | succ j =>
      have := ih h.2 j (by simpa using hj)
      simp only [List.getD_cons_succ]; omega
theorem cntOk_iff {l : List Int} : ∀ {i : Nat}, cntOk i l = true ↔ ∀ j, j < l.length → 0 ≤ l.getD j 0 ∧ l.getD j 0 ≤ (i : Int) + (j : Int) := by
  induction l with
  | nil => intro i; exact ⟨fun _ j hj => by simp at hj, fun _ => rfl⟩
  | cons c r ih =>
    intro i
    refine ⟨fun h j hj => cntOk_at h j hj, fun h => ?_⟩
    simp only [cntOk, Bool.and_eq_true, inR_iff]
    have h0 := h 0 (by simp)
    simp only [List.getD_cons_zero] at h0
    refine ⟨⟨h0.1, by omega⟩, ih.2 (fun j hj => ?_)⟩
    have := h (j + 1) (by simpa using hj)
    simp only [List.getD_cons_succ] at this
    omega
/-- The same, from the last one on. -/
def okTo : Nat → List Int → Bool
  | 0, _ => true
  | m + 1, cs => inR (cs.getD m 0) 0 (m : Int) && okTo m cs
theorem okTo_iff (cs : List Int) : ∀ m : Nat, okTo m cs = true ↔ ∀ j, j < m → 0 ≤ cs.getD j 0 ∧ cs.getD j 0 ≤ (j : Int)
  | 0 => by simp [okTo]
  | m + 1 => by
    simp only [okTo, Bool.and_eq_true, inR_iff, okTo_iff cs m]
    constructor
    · rintro ⟨h1, h2⟩ j hj
      by_cases e : j = m
      · subst e; exact h1
      · exact h2 j (by omega)
    · intro h
      exact ⟨h m (by omega), fun j hj => h j (by omega)⟩
theorem okTo_cntOk (cs : List Int) : okTo cs.length cs = cntOk 0 cs := by
  rw [Bool.eq_iff_iff, okTo_iff, cntOk_iff]
  simp
theorem invF_ok (l : List Int) : ∀ pre : List Int, cntOk pre.length (invF pre l) = true := by
  induction l with
  | nil => intro pre; rfl
  | cons x r ih =>
    intro pre
    have := cntGt_le x pre
    have h2 := ih (pre ++ [x])
    rw [List.length_append, List.length_singleton] at h2
    simp only [invF, cntOk, Bool.and_eq_true, inR_iff]
    exact ⟨⟨by omega, by omega⟩, h2⟩
theorem take_snoc_getD {l : List Int} {m : Nat} (h : m < l.length) : l.take (m + 1) = l.take m ++ [l.getD m 0] := by
  rw [List.take_add_one, getD_of_lt h, List.getElem?_eq_getElem h]; rfl
theorem invF_frL : ∀ (m : Nat) (items cs : List Int), items.length = m → items.Pairwise (· < ·) → m ≤ cs.length → (∀ j, j < m → 0 ≤ cs.getD j 0 ∧ cs.getD j 0 ≤ (j : Int)) → invF [] (frL m items cs) = cs.take m
  | 0, items, cs, _, _, _, _ => rfl
  | m + 1, items, cs, h, hs, hm, hc => by
    have hcm := hc m (by omega)
    have hq : m - (cs.getD m 0).toNat < items.length := by omega
    have hel : (items.eraseIdx (m - (cs.getD m 0).toNat)).length = m := by rw [List.length_eraseIdx_of_lt hq, h]; rfl
    have ih := invF_frL m (items.eraseIdx (m - (cs.getD m 0).toNat)) cs hel (hs.sublist (List.eraseIdx_sublist _ _)) (by omega) (fun j hj => hc j (by omega))
    have hp := frL_perm m (items.eraseIdx (m - (cs.getD m 0).toNat)) cs hel
    have hg := cntGt_sorted items hs _ hq
    rw [frL, invF_snoc, ih, List.nil_append, getD_of_lt hq, cntGt_perm hp, take_snoc_getD (by omega)]
    congr 2
    omega
theorem frL_congr : ∀ (m : Nat) (items a b : List Int), (∀ j, j < m → a.getD j 0 = b.getD j 0) → frL m items a = frL m items b
  | 0, _, _, _, _ => rfl
  | m + 1, items, a, b, h => by rw [frL, frL, h m (by omega), frL_congr m _ a b (fun j hj => h j (by omega))]
theorem frL_invF : ∀ (m : Nat) (items p : List Int), items.length = m → items.Pairwise (· < ·) → p.Perm items → frL m items (invF [] p) = p
  | 0, items, p, h, _, hp => by
    have : p = [] := List.eq_nil_of_length_eq_zero (by rw [hp.length_eq, h])
    subst this; rfl
  | m + 1, items, p, h, hs, hp => by
    rcases List.eq_nil_or_concat p with rfl | ⟨a, x, rfl⟩
    · have := hp.length_eq; simp at this; omega
    rw [List.concat_eq_append] at hp ⊢
    have hal : a.length = m := by have := hp.length_eq; simp at this; omega
    have hx : x ∈ items := hp.mem_iff.1 (by simp)
    obtain ⟨j, hj, rfl⟩ := List.mem_iff_getElem.1 hx
    have hpa : a.Perm (items.eraseIdx j) := (((List.perm_append_singleton _ _).symm.trans hp).trans (cons_erase_perm hj).symm).cons_inv
    have hg := cntGt_sorted items hs j hj
    have hcg : cntGt items[j] a = m - j := by rw [cntGt_perm hpa]; omega
    have hel : (items.eraseIdx j).length = m := by rw [List.length_eraseIdx_of_lt hj, h]; rfl
    have e1 : (invF [] (a ++ [items[j]])).getD m 0 = ((m - j : Nat) : Int) := by
      rw [invF_snoc, List.nil_append, hcg]
      have : (invF [] a).length = m := by rw [invF_length, hal]
      simp [List.getD_eq_getElem?_getD, List.getElem?_append_right, this]
    have e2 : ∀ k, k < m → (invF [] (a ++ [items[j]])).getD k 0 = (invF [] a).getD k 0 := by
      intro k hk
      rw [invF_snoc]
      simp [List.getD_eq_getElem?_getD, List.getElem?_append_left (show k < (invF [] a).length by rw [invF_length, hal]; exact hk)]
    rw [frL, e1, show m - ((m - j : Nat) : Int).toNat = j by omega, getD_of_lt hj, frL_congr m _ _ _ e2, frL_invF m _ a hel (hs.sublist (List.eraseIdx_sublist _ _)) hpa]
/-- What FromInversions answers. -/
def frPm (cs : List Int) : List Int × Bool := if cs.length ≤ 12 ∧ cntOk 0 cs = true then (frL cs.length (idL cs.length) cs, true) else ([], false)
theorem frPm_len (cs : List Int) : (frPm cs).1.length ≤ 12 := by
  unfold frPm
  split
  · rename_i h; simp only [frL_length]; exact h.1
  · exact Nat.zero_le _
/-- What AllPermutations answers. -/
def ordersL (n : Nat) : List (List Int) := (List.range (fact n)).map fun r => atL n (idL n) r
def allPm (n : Int) : List (List Int) × Bool := if inR n 0 6 = true then (ordersL n.toNat, true) else ([], false)
theorem allPm_len (n : Int) : (allPm n).1.length ≤ 4096 ∧ ∀ x ∈ (allPm n).1, x.length ≤ 12 := by
  unfold allPm
  split
  · rename_i h
    have h1 := inR_iff.1 h
    have hf : fact n.toNat ≤ 720 := fact_mono (m := 6) (by omega)
    refine ⟨by simp [ordersL]; omega, fun x hx => ?_⟩
    simp only [ordersL, List.mem_map] at hx
    obtain ⟨r, _, rfl⟩ := hx
    rw [atL_length]; omega
  · exact ⟨by simp, fun x hx => by simp at hx⟩

end Go.Proofs.Ytnhifbopicjicaa.Mth
