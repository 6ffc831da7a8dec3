/- Plain facts on ranks of permutations, inversions, signs. No condition. -/
-- plain: Perm Fact
import Derived.Test.YtnhifbopicjicaaMthPerm
import Derived.Test.YtnhifbopicjicaaMthFact
set_option linter.unusedVariables false
set_option linter.unusedSimpArgs false
namespace Go.Proofs.Ytnhifbopicjicaa.Mth
open Go.RowKit Go.Proofs.YtnhifbopicjicaaW.PrintWords Go.Proofs.YtnhifbopicjicaaW.PrintLast

def cntLt (x : Int) : List Int → Nat
  | [] => 0
  | y :: r => (if y < x then 1 else 0) + cntLt x r
theorem cntLt_le (x : Int) (l : List Int) : cntLt x l ≤ l.length := by
  induction l with
  | nil => exact Nat.le_refl _
  | cons y r ih => simp only [cntLt, List.length_cons]; split <;> omega
def rankP : List Int → Nat
  | [] => 0
  | x :: r => cntLt x r * fact r.length + rankP r
theorem rankP_lt (l : List Int) : rankP l < fact l.length := by
  induction l with
  | nil => decide
  | cons x r ih =>
    have h := cntLt_le x r
    have h2 : cntLt x r * fact r.length ≤ r.length * fact r.length := Nat.mul_le_mul_right _ h
    simp only [rankP, List.length_cons, fact]
    rw [Nat.add_mul, Nat.one_mul]
    omega
def cntGt (x : Int) : List Int → Nat
  | [] => 0
  | y :: r => (if y > x then 1 else 0) + cntGt x r
theorem cntGt_le (x : Int) (l : List Int) : cntGt x l ≤ l.length := by
  induction l with
  | nil => exact Nat.le_refl _
  | cons y r ih => simp only [cntGt, List.length_cons]; split <;> omega
/-- The inversions of what follows a beginning. -/
def invF : List Int → List Int → List Int
  | _, [] => []
  | pre, x :: r => (cntGt x pre : Int) :: invF (pre ++ [x]) r
theorem invF_length (l : List Int) : ∀ pre : List Int, (invF pre l).length = l.length := by
  induction l with
  | nil => intro pre; rfl
  | cons x r ih => intro pre; simp [invF, ih]
theorem invF_range (l : List Int) : ∀ pre : List Int, ∀ c ∈ invF pre l, 0 ≤ c ∧ c ≤ (pre.length : Int) + (l.length : Int) := by
  induction l with
  | nil => intro pre c hc; simp [invF] at hc
  | cons x r ih =>
    intro pre c hc
    simp only [invF, List.mem_cons] at hc
    have := cntGt_le x pre
    simp only [List.length_cons]
    rcases hc with rfl | hc
    · omega
    · have := ih _ c hc
      simp only [List.length_append, List.length_singleton] at this
      omega
def sumZ : List Int → Int
  | [] => 0
  | x :: r => x + sumZ r
theorem sumZ_range (l : List Int) (m : Int) (h : ∀ c ∈ l, 0 ≤ c ∧ c ≤ m) : 0 ≤ sumZ l ∧ sumZ l ≤ m * (l.length : Int) := by
  induction l with
  | nil => simp [sumZ]
  | cons x r ih =>
    have h1 := h x (by simp)
    have h2 := ih (fun c hc => h c (by simp [hc]))
    simp only [sumZ, List.length_cons]
    have e : m * ((r.length + 1 : Nat) : Int) = m * (r.length : Int) + m := by rw [Int.natCast_add, Int.mul_add]; simp
    omega
def setAll : List Int → Nat → List Int → List Int
  | out, _, [] => out
  | out, i, x :: r => setAll (out.set x.toNat (i : Int)) (i + 1) r
theorem setAll_length (l : List Int) : ∀ (out : List Int) (i : Nat), (setAll out i l).length = out.length := by
  induction l with
  | nil => intro out i; rfl
  | cons x r ih => intro out i; simp [setAll, ih]

/-! ### What the calls answer -/
def rankPm (l : List Int) : Int × Bool := if isPermB l = true then ((rankP l : Int), true) else (0, false)
def invPm (l : List Int) : List Int × Bool := if isPermB l = true then (invF [] l, true) else ([], false)
def signPm (l : List Int) : Int × Bool := if isPermB l = true then (if sumZ (invF [] l) % 2 = 1 then -1 else 1, true) else (0, false)
def invsPm (l : List Int) : List Int × Bool := if isPermB l = true then (setAll (List.replicate l.length 0) 0 l, true) else ([], false)
theorem invPm_len (l : List Int) : (invPm l).1.length ≤ 12 := by
  unfold invPm
  split
  · rename_i h; have := (isPermB_iff.1 h).1; simp only [invF_length]; exact this
  · exact Nat.zero_le _
theorem invsPm_len (l : List Int) : (invsPm l).1.length ≤ 12 := by
  unfold invsPm
  split
  · rename_i h; have := (isPermB_iff.1 h).1; simp only [setAll_length, List.length_replicate]; exact this
  · exact Nat.zero_le _

theorem cntLt_nil (x : Int) : cntLt x [] = 0 := rfl
theorem cntLt_cons (x y : Int) (r : List Int) : cntLt x (y :: r) = (if y < x then 1 else 0) + cntLt x r := rfl
theorem cntGt_nil (x : Int) : cntGt x [] = 0 := rfl
theorem cntGt_cons (x y : Int) (r : List Int) : cntGt x (y :: r) = (if y > x then 1 else 0) + cntGt x r := rfl
theorem rankP_nil : rankP [] = 0 := rfl
theorem rankP_cons (x : Int) (r : List Int) : rankP (x :: r) = cntLt x r * fact r.length + rankP r := rfl
attribute [irreducible] cntLt cntGt rankP

end Go.Proofs.Ytnhifbopicjicaa.Mth
