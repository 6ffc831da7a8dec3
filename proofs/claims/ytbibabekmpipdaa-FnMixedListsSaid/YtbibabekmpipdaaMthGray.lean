/- Plain facts on the reflected list of words. No condition. -/
import Derived.Test.YtbibabekmpipdaaMth
set_option linter.unusedVariables false
set_option linter.unusedSimpArgs false
namespace Go.Proofs.Ytbibabekmpipdaa.Mth
open Go.RowKit Go.Proofs.YtbibabekmpipdaaW.PrintWords Go.Proofs.YtbibabekmpipdaaW.PrintLast

def gray (r : Nat) : Int := Go.bits .xor .i64 (r : Int) ((r : Int) / 2)
def grL : Nat → List Int
  | 0 => [0]
  | n + 1 => grL n ++ (grL n).reverse.map (fun x => x + 2 ^ n)
theorem grL_map : ∀ n : Fin 11, grL n.1 = (List.range (2 ^ n.1)).map gray := by decide +kernel
def rkLoop : Nat → Int → Int → Int
  | 0, _, r => r
  | k + 1, w, r => if w > 0 then rkLoop k (w / 2) (Go.bits .xor .i64 r w) else r
theorem rk_gray : ∀ r : Fin 1024, rkLoop 20 (gray r.1) 0 = (r.1 : Int) := by decide +kernel
theorem gray_rk : ∀ w : Fin 1024, gray (rkLoop 20 (w.1 : Int) 0).toNat = (w.1 : Int) := by decide +kernel
theorem gray_range : ∀ n : Fin 11, ((List.range (2 ^ n.1)).all fun r => decide (0 ≤ gray r) && decide (gray r < 2 ^ n.1)) = true := by decide +kernel
theorem rk_range : ∀ n : Fin 11, ((List.range (2 ^ n.1)).all fun w => decide (0 ≤ rkLoop 20 (w : Int) 0) && decide (rkLoop 20 (w : Int) 0 < 2 ^ n.1)) = true := by decide +kernel
theorem shl_table : ∀ n : Fin 20, shl .i64 1 (n.1 : Int) = 2 ^ n.1 := by decide +kernel
theorem top_table : ∀ n : Fin 11, top (n.1 : Int) = 2 ^ n.1 - 1 := by decide +kernel
theorem shl_pow {n : Nat} (h : n < 20) : shl .i64 1 (n : Int) = 2 ^ n := shl_table ⟨n, h⟩
theorem top_pow {n : Nat} (h : n < 11) : top (n : Int) = 2 ^ n - 1 := top_table ⟨n, h⟩
theorem pow_le_1024 {n : Nat} (h : n ≤ 10) : 2 ^ n ≤ 1024 := Nat.pow_le_pow_right (n := 2) (by omega) h
theorem gray_lt {n r : Nat} (hn : n ≤ 10) (hr : r < 2 ^ n) : 0 ≤ gray r ∧ gray r < 2 ^ n := by
  have h := gray_range ⟨n, by omega⟩
  rw [List.all_eq_true] at h
  have := h r (List.mem_range.2 hr)
  simpa using this
theorem rk_lt {n w : Nat} (hn : n ≤ 10) (hw : w < 2 ^ n) : 0 ≤ rkLoop 20 (w : Int) 0 ∧ rkLoop 20 (w : Int) 0 < 2 ^ n := by
  have h := rk_range ⟨n, by omega⟩
  rw [List.all_eq_true] at h
  have := h w (List.mem_range.2 hw)
  simpa using this
theorem grL_eq {n : Nat} (hn : n ≤ 10) : grL n = (List.range (2 ^ n)).map gray := grL_map ⟨n, by omega⟩
theorem grL_length {n : Nat} (hn : n ≤ 10) : (grL n).length = 2 ^ n := by rw [grL_eq hn]; simp
theorem grL_rd {n r : Nat} (hn : n ≤ 10) (hr : r < 2 ^ n) : rd (grL n) (r : Int) = gray r := by
  rw [grL_eq hn, rd_nat, List.getD_eq_getElem?_getD, List.getElem?_map, List.getElem?_range hr]; rfl
theorem grL_mem {n : Nat} (hn : n ≤ 10) {x : Int} (hx : x ∈ grL n) : 0 ≤ x ∧ x < 2 ^ n := by
  rw [grL_eq hn, List.mem_map] at hx
  obtain ⟨r, hr, rfl⟩ := hx
  exact gray_lt hn (List.mem_range.1 hr)
theorem isW_nat {n r : Int} (h : isW n r = true) : ∃ m q : Nat, n = (m : Int) ∧ r = (q : Int) ∧ 1 ≤ m ∧ m ≤ 10 ∧ q < 2 ^ m := by
  have h' := isW_iff.1 h
  obtain ⟨m, rfl⟩ := Int.eq_ofNat_of_zero_le (show 0 ≤ n by omega)
  obtain ⟨q, rfl⟩ := Int.eq_ofNat_of_zero_le h'.2.1
  have ht := top_pow (n := m) (by omega)
  rw [ht] at h'
  have e : ((2 ^ m : Nat) : Int) = (2 : Int) ^ m := by simp
  exact ⟨m, q, rfl, rfl, by omega, by omega, by omega⟩
def refAt (n r : Int) : Int × Bool := if isW n r = true then (Go.bits .xor .i64 r (r / 2), true) else (0, false)
def refRk (n w : Int) : Int × Bool := if isW n w = true then (rkLoop 20 w 0, true) else (0, false)

end Go.Proofs.Ytbibabekmpipdaa.Mth
