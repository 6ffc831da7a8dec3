/- Plain facts on rows that are marked one behind the other. No condition. -/
import Derived.Test.YtoajkfiighdjpaaMth
set_option linter.unusedVariables false
set_option linter.unusedSimpArgs false
namespace Go.Proofs.Ytoajkfiighdjpaa.Mth
open Go.RowKit Go.Proofs.YtoajkfiighdjpaaW.PrintWords Go.Proofs.YtoajkfiighdjpaaW.PrintLast

def totL : List (List Int) → Nat
  | [] => 0
  | x :: r => x.length + totL r
def marksL : Int → List (List Int) → List (List Int)
  | _, [] => []
  | m, x :: r => marks x.length m :: marksL (m + (x.length : Int)) r
theorem marksL_length (l : List (List Int)) : ∀ m : Int, (marksL m l).length = l.length := by
  induction l with
  | nil => intro m; rfl
  | cons x r ih => intro m; simp [marksL, ih]
theorem totL_le (l : List (List Int)) (b : Nat) (h : ∀ x ∈ l, x.length ≤ b) : totL l ≤ b * l.length := by
  induction l with
  | nil => simp [totL]
  | cons x r ih =>
    have h1 := h x (by simp)
    have h2 := ih (fun y hy => h y (by simp [hy]))
    simp only [totL, List.length_cons, Nat.mul_add, Nat.mul_one]
    omega
theorem totL_append (a b : List (List Int)) : totL (a ++ b) = totL a + totL b := by
  induction a with
  | nil => simp [totL]
  | cons x r ih => simp only [List.cons_append, totL, ih]; omega
theorem marksL_snoc (l : List (List Int)) (x : List Int) : ∀ m : Int, marksL m (l ++ [x]) = marksL m l ++ [marks x.length (m + (totL l : Int))] := by
  induction l with
  | nil => intro m; simp [marksL, totL]
  | cons y r ih =>
    intro m
    simp only [List.cons_append, marksL, ih, totL]
    congr 3
    congr 1
    omega
theorem rowset_at (pre : List (List Int)) (x y : List Int) (suf : List (List Int)) : (pre ++ x :: suf).set ((pre.length : Int)).toNat y = pre ++ y :: suf := by simp
theorem rowget_at (pre : List (List Int)) (x : List Int) (suf : List (List Int)) : (pre ++ x :: suf).getD ((pre.length : Int)).toNat [] = x := by simp [List.getD_eq_getElem?_getD]

end Go.Proofs.Ytoajkfiighdjpaa.Mth
