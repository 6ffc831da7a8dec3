/- Plain facts on the bits that change along a list of words. No condition. -/
import Derived.Test.YtbibabekmpipdaaMthCode
import Derived.Test.YtbibabekmpipdaaMthPop
import Derived.Test.YtbibabekmpipdaaMthPerm
set_option linter.unusedVariables false
set_option linter.unusedSimpArgs false
namespace Go.Proofs.Ytbibabekmpipdaa.Mth
open Go.RowKit Go.Proofs.YtbibabekmpipdaaW.PrintWords Go.Proofs.YtbibabekmpipdaaW.PrintLast

/-- The number of the only bit in which two words differ, or -1. -/
def dl (a b : Int) : Int := bitOf (a.toNat ^^^ b.toNat)
def dlF : Int → List Int → Option (List Int)
  | _, [] => some []
  | p, w :: r => if dl p w < 0 then none else (dlF w r).map (dl p w :: ·)
def dls : List Int → Option (List Int)
  | [] => some []
  | w :: r => dlF w r
def pairR (out : List Int) (o : Option (List Int)) : List Int × Bool := match o with
  | some d => (out ++ d, true)
  | none => ([], false)
theorem pairR_cons (out : List Int) (d : Int) (o : Option (List Int)) : pairR out (o.map (d :: ·)) = pairR (out ++ [d]) o := by cases o <;> simp [pairR]
theorem xor_pow {a b : Int} {n : Nat} (ha : 0 ≤ a ∧ a < (2 ^ n : Nat)) (hb : 0 ≤ b ∧ b < (2 ^ n : Nat)) : a.toNat ^^^ b.toNat < 2 ^ n := Nat.xor_lt_two_pow (by omega) (by omega)
theorem dl_lt {a b : Int} {n : Nat} (hn : n ≤ 10) (ha : 0 ≤ a ∧ a < (2 ^ n : Nat)) (hb : 0 ≤ b ∧ b < (2 ^ n : Nat)) : dl a b < n ∧ -1 ≤ dl a b := by
  have hx := xor_pow ha hb
  have hp : 2 ^ n ≤ 2 ^ 10 := Nat.pow_le_pow_right (by decide) hn
  rcases bitOf_cases (x := a.toNat ^^^ b.toNat) (by omega) with h | ⟨i, hi, h1, h2⟩
  · unfold dl; rw [h.1]; omega
  · unfold dl; rw [h1]
    rw [h2] at hx
    have := (Nat.pow_lt_pow_iff_right (a := 2) (by decide)).1 hx
    omega
theorem top_nat : ∀ n : Fin 11, top (n.1 : Int) + 1 = ((2 ^ n.1 : Nat) : Int) := by decide +kernel
theorem areW_nat {n : Int} {l : List Int} (h : areW n l = true) : ∃ m : Nat, n = m ∧ 1 ≤ m ∧ m ≤ 10 ∧ l.length ≤ 1100 ∧ ∀ x ∈ l, 0 ≤ x ∧ x < ((2 ^ m : Nat) : Int) := by
  have h' := areW_iff.1 h
  obtain ⟨m, rfl⟩ := Int.eq_ofNat_of_zero_le (show 0 ≤ n by omega)
  refine ⟨m, rfl, by omega, by omega, by omega, fun x hx => ?_⟩
  have hr := allIn_iff.1 h'.2.2 x hx
  have := top_nat ⟨m, by omega⟩
  simp only at this
  omega
theorem dlF_len {p : Int} {l d : List Int} (h : dlF p l = some d) : d.length = l.length := by
  induction l generalizing p d with
  | nil => simp only [dlF, Option.some.injEq] at h; subst h; rfl
  | cons w r ih =>
    simp only [dlF] at h
    split at h
    · cases h
    · obtain ⟨e, he, rfl⟩ := Option.map_eq_some_iff.1 h
      simp [ih he]
theorem dls_len {l d : List Int} (h : dls l = some d) : d.length ≤ l.length := by
  cases l with
  | nil => simp only [dls, Option.some.injEq] at h; subst h; exact Nat.le_refl _
  | cons w r => have := dlF_len h; simp; omega
theorem dlF_mem {n : Nat} (hn : n ≤ 10) {p : Int} {l d : List Int} (hp : 0 ≤ p ∧ p < ((2 ^ n : Nat) : Int)) (hl : ∀ x ∈ l, 0 ≤ x ∧ x < ((2 ^ n : Nat) : Int)) (h : dlF p l = some d) : ∀ x ∈ d, 0 ≤ x ∧ x < n := by
  induction l generalizing p d with
  | nil => simp only [dlF, Option.some.injEq] at h; subst h; simp
  | cons w r ih =>
    simp only [dlF] at h
    have hw := hl w (by simp)
    split at h
    · cases h
    · rename_i hd
      obtain ⟨e, he, rfl⟩ := Option.map_eq_some_iff.1 h
      intro x hx
      rcases List.mem_cons.1 hx with rfl | hx
      · have := dl_lt hn hp hw; omega
      · exact ih hw (fun y hy => hl y (by simp [hy])) he x hx
theorem dls_mem {n : Nat} (hn : n ≤ 10) {l d : List Int} (hl : ∀ x ∈ l, 0 ≤ x ∧ x < ((2 ^ n : Nat) : Int)) (h : dls l = some d) : ∀ x ∈ d, 0 ≤ x ∧ x < n := by
  cases l with
  | nil => simp only [dls, Option.some.injEq] at h; subst h; simp
  | cons w r => exact dlF_mem hn (hl w (by simp)) (fun x hx => hl x (by simp [hx])) h
def dfP (n : Int) (l : List Int) : List Int × Bool := if areW n l = true then pairR [] (dls l) else ([], false)
theorem pairR_len {l : List Int} : (pairR [] (dls l)).1.length ≤ l.length := by
  cases h : dls l with
  | none => simp [pairR]
  | some d => have := dls_len h; simp [pairR]; omega
theorem dfP_len (n : Int) (l : List Int) : (dfP n l).1.length ≤ 1100 := by
  unfold dfP
  split
  · rename_i h
    have := (areW_iff.1 h).2.1
    have := @pairR_len l
    omega
  · exact Nat.zero_le _
/-- How often each bit changes. -/
def cnts (m : Nat) (l : List Int) : List Int := (List.range m).map fun i => (l.count ((i : Nat) : Int) : Int)
theorem cnts_length (m : Nat) (l : List Int) : (cnts m l).length = m := by simp [cnts]
theorem cnts_nil (m : Nat) : List.replicate m 0 = cnts m [] := by
  refine List.ext_getElem (by simp [cnts]) (fun i h1 h2 => ?_)
  simp [cnts]
theorem cnts_rd {m d : Nat} (l : List Int) (h : d < m) : rd (cnts m l) (d : Int) = (l.count ((d : Nat) : Int) : Int) := by
  rw [rd_nat, List.getD_eq_getElem?_getD, List.getElem?_eq_getElem (by simp [cnts]; exact h)]
  simp [cnts]
theorem cnts_step {m d : Nat} (l : List Int) (h : d < m) : (cnts m l).set d (rd (cnts m l) (d : Int) + 1) = cnts m (l ++ [(d : Int)]) := by
  rw [cnts_rd l h]
  refine List.ext_getElem (by simp [cnts]) (fun i h1 h2 => ?_)
  rw [List.getElem_set]
  simp only [cnts, List.getElem_map, List.getElem_range, List.count_append, List.count_singleton]
  by_cases e : d = i
  · subst e; simp
  · rw [if_neg e]
    have : ((d : Int) == (i : Int)) = false := by simp; omega
    rw [this]; simp
def chP (n : Int) (l : List Int) : List Int × Bool := if areW n l = true then (match dls l with | some d => (cnts n.toNat d, true) | none => ([], false)) else ([], false)
theorem chP_len (n : Int) (l : List Int) : (chP n l).1.length ≤ 10 := by
  unfold chP
  split
  · rename_i h
    have := (areW_iff.1 h).1
    cases dls l with
    | none => simp
    | some d => simp only [cnts_length]; omega
  · exact Nat.zero_le _
/-! ### Codes -/
def codeB (n : Int) (l : List Int) : Bool := decide l.Nodup && ((dls l).isSome && decide ((l.length : Int) = shl .i64 1 n))
theorem shl_one : ∀ n : Fin 11, shl .i64 1 (n.1 : Int) = ((2 ^ n.1 : Nat) : Int) := by decide +kernel
theorem shl_one' {n : Nat} (h : n ≤ 10) : shl .i64 1 (n : Int) = ((2 ^ n : Nat) : Int) := shl_one ⟨n, by omega⟩
def icP (n : Int) (l : List Int) : Bool × Bool := if areW n l = true then (codeB n l, true) else (false, false)
def lastZ (l : List Int) : Int := rd l ((l.length : Int) - 1)
def roundB (n : Int) (l : List Int) : Bool := codeB n l && decide (dl (lastZ l) (rd l 0) ≥ 0)
def irP (n : Int) (l : List Int) : Bool × Bool := if areW n l = true then (roundB n l, true) else (false, false)

end Go.Proofs.Ytbibabekmpipdaa.Mth
