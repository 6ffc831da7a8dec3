/- Plain facts on words of bits that differ in one bit, and on codes. No condition. -/
import Derived.Test.YtbibabekmpipdaaMthMoved
import Derived.Test.YtbibabekmpipdaaMthGray
import Derived.Lib.TrailingZeros
set_option linter.unusedVariables false
set_option linter.unusedSimpArgs false
namespace Go.Proofs.Ytbibabekmpipdaa.Mth
open Go.RowKit Go.Proofs.YtbibabekmpipdaaW.PrintWords Go.Proofs.YtbibabekmpipdaaW.PrintLast

/-- The number of the only bit of a word, or -1. -/
def bitOf (x : Nat) : Int := if popc 10 x = 1 then (Lib.ctz 64 x : Int) else -1
theorem bitOf_table : ∀ x : Fin 1024, bitOf x.1 = (-1 : Int) ∧ (∀ i : Fin 10, x.1 ≠ 2 ^ i.1) ∨ ∃ i : Fin 10, bitOf x.1 = ((i.1 : Nat) : Int) ∧ x.1 = (2 ^ i.1 : Nat) := by decide +kernel
theorem bitOf_pow_table : ∀ i : Fin 10, bitOf (2 ^ i.1) = (i.1 : Int) := by decide +kernel
theorem bitOf_pow {i : Nat} (h : i < 10) : bitOf (2 ^ i) = (i : Int) := bitOf_pow_table ⟨i, h⟩
theorem bitOf_cases {x : Nat} (h : x < 1024) : (bitOf x = -1 ∧ ∀ i, i < 10 → x ≠ 2 ^ i) ∨ ∃ i : Nat, i < 10 ∧ bitOf x = (i : Int) ∧ x = (2 ^ i : Nat) := by
  rcases bitOf_table ⟨x, h⟩ with ⟨h1, h2⟩ | ⟨i, h1, h2⟩
  · exact .inl ⟨h1, fun i hi => h2 ⟨i, hi⟩⟩
  · exact .inr ⟨i.1, i.2, h1, h2⟩

end Go.Proofs.Ytbibabekmpipdaa.Mth
