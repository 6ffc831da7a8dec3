/- Plain facts on sorted lists, lists without doubles and permutations. No condition. -/
import Derived.Test.YtbibabekmpipdaaMth
set_option linter.unusedVariables false
set_option linter.unusedSimpArgs false
namespace Go.Proofs.Ytbibabekmpipdaa.Mth
open Go.RowKit Go.Proofs.YtbibabekmpipdaaW.PrintWords Go.Proofs.YtbibabekmpipdaaW.PrintLast

/-! ### Sorting -/
def sortZ (l : List Int) : List Int := l.mergeSort fun x y => decide (x ≤ y)
theorem sortZ_perm (l : List Int) : (sortZ l).Perm l := List.mergeSort_perm l _
theorem sortZ_length (l : List Int) : (sortZ l).length = l.length := (sortZ_perm l).length_eq
theorem sortZ_sorted (l : List Int) : (sortZ l).Pairwise (· ≤ ·) := by
  have := List.pairwise_mergeSort (le := fun x y : Int => decide (x ≤ y)) (fun a b c h1 h2 => by simp only [decide_eq_true_eq] at *; omega) (fun a b => by simp only [Bool.or_eq_true, decide_eq_true_eq]; omega) l
  exact this.imp (fun h => by simpa using h)
theorem sorted_unique {a b : List Int} (ha : a.Pairwise (· ≤ ·)) (hb : b.Pairwise (· ≤ ·)) (h : a.Perm b) : a = b :=
  List.Perm.eq_of_pairwise (le := fun x y : Int => x ≤ y) (fun a b _ _ h1 h2 => by omega) ha hb h
theorem sortZ_eq {l s : List Int} (hs : s.Pairwise (· ≤ ·)) (h : l.Perm s) : sortZ l = s := sorted_unique (sortZ_sorted l) hs ((sortZ_perm l).trans h)
theorem incrF_iff (p : Int) (l : List Int) : incrF p l = true ↔ (∀ x ∈ l, p < x) ∧ l.Pairwise (· < ·) := by
  induction l generalizing p with
  | nil => simp [incrF]
  | cons x r ih =>
    simp only [incrF, Bool.and_eq_true, decide_eq_true_eq, ih, List.mem_cons, List.pairwise_cons]
    constructor
    · rintro ⟨h1, h2, h3⟩
      refine ⟨?_, h2, h3⟩
      rintro y (rfl | hy)
      · exact h1
      · have := h2 y hy; omega
    · rintro ⟨h1, h2, h3⟩
      exact ⟨h1 x (.inl rfl), h2, h3⟩
theorem incr_iff (l : List Int) : incr l = true ↔ l.Pairwise (· < ·) := by
  cases l with
  | nil => simp [incr]
  | cons x r => simp only [incr, incrF_iff, List.pairwise_cons]
theorem lt_of_sorted_nodup {l : List Int} (h : l.Pairwise (· ≤ ·)) (hn : l.Nodup) : l.Pairwise (· < ·) := by
  have := h.and hn
  exact this.imp (fun ⟨a, b⟩ => by omega)
theorem nodup_of_lt {l : List Int} (h : l.Pairwise (· < ·)) : l.Nodup := h.imp (fun h => by omega)
theorem incr_sortZ (l : List Int) : incr (sortZ l) = decide l.Nodup := by
  rw [Bool.eq_iff_iff, incr_iff, decide_eq_true_eq]
  constructor
  · intro h; exact (sortZ_perm l).nodup_iff.1 (nodup_of_lt h)
  · intro h; exact lt_of_sorted_nodup (sortZ_sorted l) ((sortZ_perm l).nodup_iff.2 h)

/-! ### Permutations -/
def idL (n : Nat) : List Int := (List.range n).map fun (i : Nat) => (i : Int)
theorem idL_length (n : Nat) : (idL n).length = n := by simp [idL]
theorem idL_succ (n : Nat) : idL (n + 1) = idL n ++ [(n : Int)] := by simp [idL, List.range_succ]
theorem idL_mem {n : Nat} {x : Int} : x ∈ idL n ↔ 0 ≤ x ∧ x < n := by
  simp only [idL, List.mem_map, List.mem_range]
  constructor
  · rintro ⟨i, hi, rfl⟩; omega
  · rintro ⟨h0, h1⟩; exact ⟨x.toNat, by omega, by omega⟩
theorem idL_lt (n : Nat) : (idL n).Pairwise (· < ·) := by
  induction n with
  | zero => simp [idL]
  | succ n ih =>
    rw [idL_succ, List.pairwise_append]
    refine ⟨ih, by simp, ?_⟩
    intro a ha b hb
    have := (idL_mem.1 ha).2
    simp at hb; omega
theorem idL_sorted (n : Nat) : (idL n).Pairwise (· ≤ ·) := (idL_lt n).imp (fun h => by omega)
theorem idL_nodup (n : Nat) : (idL n).Nodup := nodup_of_lt (idL_lt n)
theorem pigeon (n : Nat) : ∀ l : List Int, l.Nodup → (∀ x ∈ l, 0 ≤ x ∧ x < (n : Int)) → l.length ≤ n ∧ (l.length = n → l.Perm (idL n)) := by
  induction n with
  | zero =>
    intro l _ hx
    cases l with
    | nil => exact ⟨Nat.le_refl _, fun _ => List.Perm.refl _⟩
    | cons a r => have := hx a (by simp); omega
  | succ n ih =>
    intro l hn hx
    by_cases hm : (n : Int) ∈ l
    · have he := ih (l.erase (n : Int)) (hn.erase _) (fun x h => by
        have h1 := (hn.mem_erase_iff).1 h
        have h2 := hx x h1.2
        have := h1.1
        omega)
      have hl := List.length_erase_of_mem hm
      have hpos : 0 < l.length := List.length_pos_of_mem hm
      refine ⟨by omega, fun h => ?_⟩
      have h1 := he.2 (by omega)
      refine (List.perm_cons_erase hm).trans ?_
      refine (h1.cons _).trans ?_
      rw [idL_succ]
      exact (List.perm_append_singleton _ _).symm
    · have := ih l hn (fun x h => by
        have h2 := hx x h
        have : x ≠ (n : Int) := fun e => hm (by rw [← e]; exact h)
        omega)
      exact ⟨by omega, fun h => by omega⟩
def isPermB (l : List Int) : Bool := decide (l.length ≤ 12) && decide (sortZ l = idL l.length)
theorem isPermB_iff {l : List Int} : isPermB l = true ↔ l.length ≤ 12 ∧ l.Perm (idL l.length) := by
  simp only [isPermB, Bool.and_eq_true, decide_eq_true_eq]
  constructor
  · rintro ⟨h1, h2⟩
    exact ⟨h1, by have := sortZ_perm l; rw [h2] at this; exact this.symm⟩
  · rintro ⟨h1, h2⟩
    exact ⟨h1, sortZ_eq (idL_sorted _) h2⟩
theorem isPermB_iff' {l : List Int} : isPermB l = true ↔ l.length ≤ 12 ∧ (∀ x ∈ l, 0 ≤ x ∧ x < (l.length : Int)) ∧ l.Nodup := by
  rw [isPermB_iff]
  constructor
  · rintro ⟨h1, h2⟩
    exact ⟨h1, fun x hx => idL_mem.1 (h2.mem_iff.1 hx), h2.nodup_iff.2 (idL_nodup _)⟩
  · rintro ⟨h1, h2, h3⟩
    exact ⟨h1, (pigeon l.length l h3 h2).2 rfl⟩
/-- The reference's own test, number by number. -/
def raPermF (n : Int) : List Int → List Int → Bool
  | _, [] => true
  | seen, x :: r => inR x 0 (n - 1) && (!seen.contains x && raPermF n (seen ++ [x]) r)
theorem raPermF_iff (n : Int) (l : List Int) : ∀ seen : List Int, raPermF n seen l = true ↔ (∀ x ∈ l, 0 ≤ x ∧ x < n) ∧ (∀ x ∈ l, x ∉ seen) ∧ l.Nodup := by
  induction l with
  | nil => intro seen; simp [raPermF]
  | cons x r ih =>
    intro seen
    simp only [raPermF, Bool.and_eq_true, inR_iff, Bool.not_eq_true', List.contains_eq_mem, decide_eq_false_iff_not, ih, List.mem_cons, List.nodup_cons, List.mem_append, List.mem_singleton, List.not_mem_nil, or_false]
    constructor
    · rintro ⟨h1, h2, h3, h4, h5⟩
      refine ⟨?_, ?_, ?_, h5⟩
      · rintro y (rfl | hy)
        · omega
        · exact h3 y hy
      · rintro y (rfl | hy)
        · exact h2
        · exact fun c => h4 y hy (.inl c)
      · exact fun c => h4 x c (.inr rfl)
    · rintro ⟨h1, h2, h3, h4⟩
      refine ⟨by have := h1 x (.inl rfl); omega, h2 x (.inl rfl), fun y hy => h1 y (.inr hy), ?_, h4⟩
      rintro y hy (c | c)
      · exact h2 y (.inr hy) c
      · subst c; exact h3 hy
theorem raPerm_eq (l : List Int) : (decide (l.length ≤ 12) && raPermF (l.length : Int) [] l) = isPermB l := by
  rw [Bool.eq_iff_iff, isPermB_iff', Bool.and_eq_true, decide_eq_true_eq, raPermF_iff]
  simp

end Go.Proofs.Ytbibabekmpipdaa.Mth
