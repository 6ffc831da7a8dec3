/- Plain facts on words of bits: how many are set, and lists of words. No condition. -/
import Derived.Test.YtbibabekmpipdaaMth
set_option linter.unusedVariables false
set_option linter.unusedSimpArgs false
namespace Go.Proofs.Ytbibabekmpipdaa.Mth
open Go.RowKit Go.Proofs.YtbibabekmpipdaaW.PrintWords Go.Proofs.YtbibabekmpipdaaW.PrintLast

def popc : Nat → Nat → Nat
  | 0, _ => 0
  | k + 1, w => w % 2 + popc k (w / 2)
def oddC : List Int → Nat
  | [] => 0
  | x :: r => popc 10 x.toNat % 2 + oddC r
theorem oddC_le (l : List Int) : oddC l ≤ l.length := by
  induction l with
  | nil => exact Nat.le_refl _
  | cons x r ih => simp only [oddC, List.length_cons]; omega
theorem top_table2 : ∀ n : Fin 11, top (n.1 : Int) ≤ 1023 := by decide +kernel
theorem areW_range {n : Int} {l : List Int} (h : areW n l = true) : ∀ x ∈ l, 0 ≤ x ∧ x < 1024 := by
  have h' := areW_iff.1 h
  intro x hx
  have hr := allIn_iff.1 h'.2.2 x hx
  obtain ⟨m, rfl⟩ := Int.eq_ofNat_of_zero_le (show 0 ≤ n by omega)
  have := top_table2 ⟨m, by omega⟩
  simp only at this
  omega
def hvP (n : Int) (l : List Int) : Int × Int × Bool := if areW n l = true then ((l.length : Int) - (oddC l : Int), (oddC l : Int), true) else (0, 0, false)

end Go.Proofs.Ytbibabekmpipdaa.Mth
