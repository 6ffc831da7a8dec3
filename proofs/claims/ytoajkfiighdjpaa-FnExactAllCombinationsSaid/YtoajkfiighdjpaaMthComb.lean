/- Plain facts on binomial numbers and on lists of combinations in lexicographic and colexicographic order. No condition. -/
import Derived.Test.YtoajkfiighdjpaaMth
set_option linter.unusedVariables false
set_option linter.unusedSimpArgs false
namespace Go.Proofs.Ytoajkfiighdjpaa.Mth
open Go.RowKit Go.Proofs.YtoajkfiighdjpaaW.PrintWords Go.Proofs.YtoajkfiighdjpaaW.PrintLast

def C : Nat → Nat → Nat
  | _, 0 => 1
  | 0, _ + 1 => 0
  | n + 1, k + 1 => C n (k + 1) + C n k
theorem C_zero (n : Nat) : C n 0 = 1 := by cases n <;> rfl
theorem C_succ (n k : Nat) : C (n + 1) (k + 1) = C n (k + 1) + C n k := rfl
theorem C_le (n k : Nat) : C n k ≤ 2 ^ n := by
  induction n generalizing k with
  | zero => cases k <;> simp [C]
  | succ n ih =>
    cases k with
    | zero => rw [C_zero]; exact Nat.one_le_two_pow
    | succ k => rw [C_succ, Nat.pow_succ]; have := ih (k + 1); have := ih k; omega
theorem C_gt {n k : Nat} (h : n < k) : C n k = 0 := by
  induction n generalizing k with
  | zero => obtain ⟨k, rfl⟩ : ∃ m, k = m + 1 := ⟨k - 1, by omega⟩; rfl
  | succ n ih =>
    obtain ⟨k, rfl⟩ : ∃ m, k = m + 1 := ⟨k - 1, by omega⟩
    rw [C_succ, ih (by omega), ih (by omega)]
theorem C_self (n : Nat) : C n n = 1 := by
  induction n with
  | zero => rfl
  | succ n ih => rw [C_succ, C_gt (by omega), ih]
theorem C_mono1 (n k : Nat) : C n k ≤ C (n + 1) k := by
  cases k with
  | zero => rw [C_zero, C_zero]; exact Nat.le_refl 1
  | succ k => rw [C_succ]; omega
theorem C_mono {n m : Nat} (k : Nat) (h : n ≤ m) : C n k ≤ C m k := by
  induction m with
  | zero => have : n = 0 := by omega
            subst this; exact Nat.le_refl _
  | succ m ih =>
    by_cases e : n = m + 1
    · subst e; exact Nat.le_refl _
    · exact Nat.le_trans (ih (by omega)) (C_mono1 m k)
theorem C_12 (k : Nat) {n : Nat} (h : n ≤ 12) : C n k ≤ 4096 := Nat.le_trans (C_le n k) (Nat.le_trans (Nat.pow_le_pow_right (by omega) h) (by decide))

/-! ### All combinations of the numbers from f on, m of them, in order -/
def lexL : Nat → Nat → Nat → List (List Int)
  | _, _, 0 => [[]]
  | _, 0, _ + 1 => []
  | f, m + 1, k + 1 => (lexL (f + 1) m k).map (fun r => (f : Int) :: r) ++ lexL (f + 1) m (k + 1)
theorem lexL_zero (f m : Nat) : lexL f m 0 = [[]] := by cases m <;> rfl
theorem lexL_none (f k : Nat) : lexL f 0 (k + 1) = [] := rfl
theorem lexL_succ (f m k : Nat) : lexL f (m + 1) (k + 1) = (lexL (f + 1) m k).map (fun r => (f : Int) :: r) ++ lexL (f + 1) m (k + 1) := rfl
theorem lexL_length (f m k : Nat) : (lexL f m k).length = C m k := by
  induction m generalizing f k with
  | zero => cases k <;> rfl
  | succ m ih =>
    cases k with
    | zero => rw [lexL_zero, C_zero]; rfl
    | succ k => rw [lexL_succ, List.length_append, List.length_map, ih, ih, C_succ]; omega
def unrankL : Nat → Nat → Nat → Nat → List Int
  | _, _, 0, _ => []
  | _, 0, _ + 1, _ => []
  | f, m + 1, k + 1, r => if r < C m k then (f : Int) :: unrankL (f + 1) m k r else unrankL (f + 1) m (k + 1) (r - C m k)
theorem unrankL_zero (f m r : Nat) : unrankL f m 0 r = [] := by cases m <;> rfl
theorem unrankL_succ (f m k r : Nat) : unrankL f (m + 1) (k + 1) r = if r < C m k then (f : Int) :: unrankL (f + 1) m k r else unrankL (f + 1) m (k + 1) (r - C m k) := rfl
theorem lexL_at (f m k r : Nat) (h : r < C m k) : (lexL f m k)[r]? = some (unrankL f m k r) := by
  induction m generalizing f k r with
  | zero =>
    cases k with
    | zero => rw [C_zero] at h; obtain rfl : r = 0 := by omega
              rfl
    | succ k => exact absurd h (by simp [C])
  | succ m ih =>
    cases k with
    | zero => rw [C_zero] at h; obtain rfl : r = 0 := by omega
              rfl
    | succ k =>
      rw [lexL_succ, unrankL_succ]
      rw [C_succ] at h
      by_cases hr : r < C m k
      · rw [if_pos hr, List.getElem?_append_left (by rw [List.length_map, lexL_length]; exact hr), List.getElem?_map, ih _ _ _ hr]; rfl
      · rw [if_neg hr, List.getElem?_append_right (by rw [List.length_map, lexL_length]; omega), List.length_map, lexL_length]
        exact ih _ _ _ (by omega)
theorem unrankL_length (f m k r : Nat) (h : r < C m k) : (unrankL f m k r).length = k := by
  induction m generalizing f k r with
  | zero =>
    cases k with
    | zero => rfl
    | succ k => exact absurd h (by simp [C])
  | succ m ih =>
    cases k with
    | zero => rfl
    | succ k =>
      rw [unrankL_succ]
      rw [C_succ] at h
      by_cases hr : r < C m k
      · rw [if_pos hr, List.length_cons, ih _ _ _ hr]
      · rw [if_neg hr]; exact ih _ _ _ (by omega)
theorem lexL_mem_length {f m k : Nat} {l : List Int} (h : l ∈ lexL f m k) : l.length = k := by
  obtain ⟨r, hr⟩ := List.getElem?_of_mem h
  have hlt : r < (lexL f m k).length := by
    rcases Nat.lt_or_ge r (lexL f m k).length with h1 | h1
    · exact h1
    · rw [List.getElem?_eq_none h1] at hr; cases hr
  rw [lexL_length] at hlt
  rw [lexL_at f m k r hlt] at hr
  cases hr
  exact unrankL_length _ _ _ _ hlt

/-! ### Colexicographic order -/
def colL : Nat → Nat → List (List Int)
  | _, 0 => [[]]
  | 0, _ + 1 => []
  | n + 1, k + 1 => colL n (k + 1) ++ (colL n k).map (fun r => r ++ [(n : Int)])
theorem colL_zero (n : Nat) : colL n 0 = [[]] := by cases n <;> rfl
theorem colL_succ (n k : Nat) : colL (n + 1) (k + 1) = colL n (k + 1) ++ (colL n k).map (fun r => r ++ [(n : Int)]) := rfl
theorem colL_length (n k : Nat) : (colL n k).length = C n k := by
  induction n generalizing k with
  | zero => cases k <;> rfl
  | succ n ih =>
    cases k with
    | zero => rw [colL_zero, C_zero]; rfl
    | succ k => rw [colL_succ, List.length_append, List.length_map, ih, ih, C_succ]
def uncolL : Nat → Nat → Nat → List Int
  | _, 0, _ => []
  | 0, _ + 1, _ => []
  | n + 1, k + 1, r => if r < C n (k + 1) then uncolL n (k + 1) r else uncolL n k (r - C n (k + 1)) ++ [(n : Int)]
theorem uncolL_zero (n r : Nat) : uncolL n 0 r = [] := by cases n <;> rfl
theorem uncolL_succ (n k r : Nat) : uncolL (n + 1) (k + 1) r = if r < C n (k + 1) then uncolL n (k + 1) r else uncolL n k (r - C n (k + 1)) ++ [(n : Int)] := rfl
theorem colL_at (n k r : Nat) (h : r < C n k) : (colL n k)[r]? = some (uncolL n k r) := by
  induction n generalizing k r with
  | zero =>
    cases k with
    | zero => rw [C_zero] at h; obtain rfl : r = 0 := by omega
              rfl
    | succ k => exact absurd h (by simp [C])
  | succ n ih =>
    cases k with
    | zero => rw [C_zero] at h; obtain rfl : r = 0 := by omega
              rfl
    | succ k =>
      rw [colL_succ, uncolL_succ]
      rw [C_succ] at h
      by_cases hr : r < C n (k + 1)
      · rw [if_pos hr, List.getElem?_append_left (by rw [colL_length]; exact hr)]; exact ih _ _ hr
      · rw [if_neg hr, List.getElem?_append_right (by rw [colL_length]; omega), colL_length, List.getElem?_map, ih _ _ (by omega)]; rfl
theorem uncolL_length (n k r : Nat) (h : r < C n k) : (uncolL n k r).length = k := by
  induction n generalizing k r with
  | zero =>
    cases k with
    | zero => rfl
    | succ k => exact absurd h (by simp [C])
  | succ n ih =>
    cases k with
    | zero => rfl
    | succ k =>
      rw [uncolL_succ]
      rw [C_succ] at h
      by_cases hr : r < C n (k + 1)
      · rw [if_pos hr]; exact ih _ _ hr
      · rw [if_neg hr, List.length_append, ih _ _ (by omega)]; rfl
/-- The greatest number whose binomial number is not greater. -/
theorem uncolL_step (n k x r : Nat) (h1 : C x (k + 1) ≤ r) (h2 : r < C (x + 1) (k + 1)) (hx : x < n) : uncolL n (k + 1) r = uncolL x k (r - C x (k + 1)) ++ [(x : Int)] := by
  induction n with
  | zero => omega
  | succ n ih =>
    rw [uncolL_succ]
    by_cases e : x = n
    · subst e; rw [if_neg (by omega)]
    · rw [if_pos (Nat.lt_of_lt_of_le h2 (C_mono (k + 1) (by omega)))]
      exact ih (by omega)
theorem colL_mem_length {n k : Nat} {l : List Int} (h : l ∈ colL n k) : l.length = k := by
  obtain ⟨r, hr⟩ := List.getElem?_of_mem h
  have hlt : r < (colL n k).length := by
    rcases Nat.lt_or_ge r (colL n k).length with h1 | h1
    · exact h1
    · rw [List.getElem?_eq_none h1] at hr; cases hr
  rw [colL_length] at hlt
  rw [colL_at n k r hlt] at hr
  cases hr
  exact uncolL_length _ _ _ hlt

/-! ### What the calls answer -/
def isRk (n k r : Int) : Bool := decide ((0 ≤ n ∧ n ≤ 12) ∧ (0 ≤ k ∧ k ≤ n) ∧ 0 ≤ r ∧ r < (C n.toNat k.toNat : Int))
theorem isRk_iff {n k r : Int} : isRk n k r = true ↔ (0 ≤ n ∧ n ≤ 12) ∧ (0 ≤ k ∧ k ≤ n) ∧ 0 ≤ r ∧ r < (C n.toNat k.toNat : Int) := by simp [isRk]
def combAt (n k r : Int) : List Int × Bool := if isRk n k r = true then (unrankL 0 n.toNat k.toNat r.toNat, true) else ([], false)
theorem combAt_len (n k r : Int) : (combAt n k r).1.length ≤ 12 := by
  unfold combAt
  by_cases h : isRk n k r = true
  · rw [if_pos h]
    have h' := isRk_iff.1 h
    obtain ⟨m, rfl⟩ := Int.eq_ofNat_of_zero_le h'.1.1
    obtain ⟨i, rfl⟩ := Int.eq_ofNat_of_zero_le h'.2.1.1
    obtain ⟨q, rfl⟩ := Int.eq_ofNat_of_zero_le h'.2.2.1
    simp only [Int.toNat_natCast] at h' ⊢
    rw [unrankL_length _ _ _ _ (by omega)]; omega
  · rw [if_neg h]; exact Nat.zero_le _
theorem ofL_lexL (n k : Nat) (hn : n ≤ 12) (r : Int) : ofL (lexL 0 n k) r = combAt (n : Int) (k : Int) r := by
  unfold combAt
  by_cases h : isRk (n : Int) (k : Int) r = true
  · rw [if_pos h]
    have h' := isRk_iff.1 h
    obtain ⟨q, rfl⟩ := Int.eq_ofNat_of_zero_le h'.2.2.1
    simp only [Int.toNat_natCast] at h' ⊢
    exact ofL_some (lexL_at _ _ _ _ (by omega))
  · rw [if_neg h]
    refine ofL_none ?_
    rw [lexL_length]
    rw [isRk_iff] at h
    simp only [Int.toNat_natCast] at h
    by_cases hkn : k ≤ n
    · omega
    · rw [C_gt (by omega)]; omega
def colAt (k r : Int) : List Int × Bool := if isRk 12 k r = true then (uncolL 12 k.toNat r.toNat, true) else ([], false)
theorem colAt_len (k r : Int) : (colAt k r).1.length ≤ 12 := by
  unfold colAt
  by_cases h : isRk 12 k r = true
  · rw [if_pos h]
    have h' := isRk_iff.1 h
    obtain ⟨i, rfl⟩ := Int.eq_ofNat_of_zero_le h'.2.1.1
    obtain ⟨q, rfl⟩ := Int.eq_ofNat_of_zero_le h'.2.2.1
    simp only [Int.toNat_natCast] at h' ⊢
    have : (12 : Int).toNat = 12 := rfl
    rw [this] at h'
    rw [uncolL_length _ _ _ (by omega)]; omega
  · rw [if_neg h]; exact Nat.zero_le _
theorem ofL_colL (k : Nat) (hk : k ≤ 12) (r : Int) : ofL (colL 12 k) r = colAt (k : Int) r := by
  unfold colAt
  have e12 : (12 : Int).toNat = 12 := rfl
  by_cases h : isRk 12 (k : Int) r = true
  · rw [if_pos h]
    have h' := isRk_iff.1 h
    obtain ⟨q, rfl⟩ := Int.eq_ofNat_of_zero_le h'.2.2.1
    simp only [Int.toNat_natCast, e12] at h' ⊢
    exact ofL_some (colL_at _ _ _ (by omega))
  · rw [if_neg h]
    refine ofL_none ?_
    rw [colL_length]
    rw [isRk_iff] at h
    simp only [Int.toNat_natCast, e12] at h
    omega

end Go.Proofs.Ytoajkfiighdjpaa.Mth
