/- Plain facts on words of bits: or, and, exclusive or, and words whose bits are moved. No condition. -/
import Derived.Test.YtbibabekmpipdaaMthPop
import Derived.Test.YtbibabekmpipdaaMthPerm
set_option linter.unusedVariables false
set_option linter.unusedSimpArgs false
namespace Go.Proofs.Ytbibabekmpipdaa.Mth
open Go.RowKit Go.Proofs.YtbibabekmpipdaaW.PrintWords Go.Proofs.YtbibabekmpipdaaW.PrintLast

theorem wr62 (n : Int) (h0 : 0 ≤ n) (h1 : n < 2 ^ 62) : IntKind.i64.wrap n = n := by rw [IntKind.wrap_i64]; omega
theorem or_nat {a b : Nat} (ha : a < 2 ^ 62) (hb : b < 2 ^ 62) : Go.bits .or .i64 (a : Int) (b : Int) = ((a ||| b : Nat) : Int) := (bits_nat .i64 62 (by decide) wr62 a b ha hb).2
theorem and_nat {a b : Nat} (ha : a < 2 ^ 62) (hb : b < 2 ^ 62) : Go.bits .and .i64 (a : Int) (b : Int) = ((a &&& b : Nat) : Int) := (bits_nat .i64 62 (by decide) wr62 a b ha hb).1
theorem xor_nat {a b : Nat} (ha : a < 2 ^ 62) (hb : b < 2 ^ 62) : Go.bits .xor .i64 (a : Int) (b : Int) = ((a ^^^ b : Nat) : Int) := by
  have hp : 2 ^ 62 ≤ 2 ^ IntKind.i64.bits := Nat.pow_le_pow_right (by decide) (by decide)
  have ha' : a % 2 ^ IntKind.i64.bits = a := Nat.mod_eq_of_lt (Nat.lt_of_lt_of_le ha hp)
  have hb' : b % 2 ^ IntKind.i64.bits = b := Nat.mod_eq_of_lt (Nat.lt_of_lt_of_le hb hp)
  simp only [Go.bits, BitVec.ofInt_natCast, BitVec.toNat_xor, BitVec.toNat_ofNat, ha', hb']
  refine wr62 _ (Int.natCast_nonneg _) ?_
  have := Nat.xor_lt_two_pow ha hb
  exact_mod_cast this
theorem or_add {x k : Nat} (h : x.testBit k = false) : x ||| 2 ^ k = x + 2 ^ k := by
  have h2 : x / 2 ^ k % 2 = 0 := by
    rw [Nat.testBit_eq_decide_div_mod_eq, decide_eq_false_iff_not] at h
    omega
  have hm : x % 2 ^ (k + 1) = x % 2 ^ k := by rw [Nat.mod_pow_succ, h2]; simp
  have hlt : x % 2 ^ k < 2 ^ k := Nat.mod_lt _ (Nat.two_pow_pos k)
  have hd := Nat.div_add_mod x (2 ^ (k + 1))
  rw [hm] at hd
  have hk : 2 ^ (k + 1) = 2 * 2 ^ k := by rw [Nat.pow_succ, Nat.mul_comm]
  have e1 : 2 ^ k + x % 2 ^ k = 2 ^ k ||| x % 2 ^ k := by
    have := Nat.two_pow_add_eq_or_of_lt hlt 1
    rwa [Nat.mul_one] at this
  have e2 := Nat.two_pow_add_eq_or_of_lt (i := k + 1) (b := x % 2 ^ k) (by omega) (x / 2 ^ (k + 1))
  have e3 := Nat.two_pow_add_eq_or_of_lt (i := k + 1) (b := 2 ^ k + x % 2 ^ k) (by omega) (x / 2 ^ (k + 1))
  have ex : x = 2 ^ (k + 1) * (x / 2 ^ (k + 1)) ||| x % 2 ^ k := by rw [← e2]; exact hd.symm
  calc x ||| 2 ^ k = (2 ^ (k + 1) * (x / 2 ^ (k + 1)) ||| x % 2 ^ k) ||| 2 ^ k := by rw [← ex]
    _ = 2 ^ (k + 1) * (x / 2 ^ (k + 1)) ||| (2 ^ k ||| x % 2 ^ k) := by rw [Nat.or_assoc, Nat.or_comm (x % 2 ^ k)]
    _ = 2 ^ (k + 1) * (x / 2 ^ (k + 1)) + (2 ^ k + x % 2 ^ k) := by rw [← e1, e3]
    _ = x + 2 ^ k := by omega
/-- A word with its bits moved, from bit i on. -/
def mvO (w : Nat) : Nat → List Int → Nat
  | _, [] => 0
  | i, k :: r => (if w.testBit i = true then 2 ^ k.toNat else 0) ||| mvO w (i + 1) r
theorem pow_lt12 {k : Nat} (h : k < 12) : 2 ^ k < 2 ^ 12 := Nat.pow_lt_pow_right (by decide) h
theorem mvO_lt (w n : Nat) (l : List Int) : ∀ i : Nat, (∀ x ∈ l, x.toNat < n) → mvO w i l < 2 ^ n := by
  induction l with
  | nil => intro i _; exact Nat.two_pow_pos n
  | cons k r ih =>
    intro i h
    refine Nat.or_lt_two_pow ?_ (ih (i + 1) (fun x hx => h x (by simp [hx])))
    split
    · exact Nat.pow_lt_pow_right (by decide) (h k (by simp))
    · exact Nat.two_pow_pos n
theorem mvO_bit (w : Nat) (l : List Int) : ∀ (i b : Nat), (mvO w i l).testBit b = true ↔ ∃ j, ∃ h : j < l.length, (l[j]).toNat = b ∧ w.testBit (i + j) = true := by
  induction l with
  | nil => intro i b; simp [mvO]
  | cons k r ih =>
    intro i b
    rw [mvO, Nat.testBit_or, Bool.or_eq_true, ih]
    constructor
    · rintro (h | ⟨j, hj, h1, h2⟩)
      · by_cases hw : w.testBit i = true
        · rw [if_pos hw, Nat.testBit_two_pow, decide_eq_true_eq] at h
          exact ⟨0, by simp, h, hw⟩
        · rw [if_neg hw] at h; simp at h
      · exact ⟨j + 1, by simpa using hj, h1, by rw [← h2]; congr 1; omega⟩
    · rintro ⟨j, hj, h1, h2⟩
      cases j with
      | zero =>
        left
        simp only [Nat.add_zero] at h2
        rw [if_pos h2, Nat.testBit_two_pow, decide_eq_true_eq]
        exact h1
      | succ j =>
        right
        exact ⟨j, by simpa using hj, h1, by rw [← h2]; congr 1; omega⟩
def mvP (n : Int) (l tt : List Int) : List Int × Bool := if areW n l = true ∧ isPermB tt = true ∧ (tt.length : Int) = n then (l.map fun w => (mvO w.toNat 0 tt : Int), true) else ([], false)
theorem mvP_len (n : Int) (l tt : List Int) : (mvP n l tt).1.length ≤ 1100 := by
  unfold mvP
  split
  · rename_i h
    have := (areW_iff.1 h.1).2.1
    simp only [List.length_map]; omega
  · exact Nat.zero_le _

end Go.Proofs.Ytbibabekmpipdaa.Mth
