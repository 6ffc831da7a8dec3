/- Plain facts on round codes: the bits that change on the way around, and the least run between two changes of one bit. No condition. -/
import Derived.Test.YtnhifbopicjicaaDoorMthDeltas
set_option linter.unusedVariables false
set_option linter.unusedSimpArgs false
namespace Go.Proofs.YtnhifbopicjicaaDoor.Mth
open Go.RowKit Go.Proofs.YtnhifbopicjicaaDoorW.PrintWords Go.Proofs.YtnhifbopicjicaaDoorW.PrintLast

theorem dlF_snoc (x : Int) (l : List Int) : ∀ p : Int, dlF p (l ++ [x]) = (dlF p l).bind fun d => if dl ((p :: l).getLast (by simp)) x < 0 then none else some (d ++ [dl ((p :: l).getLast (by simp)) x]) := by
  induction l with
  | nil =>
    intro p
    rfl
  | cons w r ih =>
    intro p
    have e : (p :: w :: r).getLast (by simp) = (w :: r).getLast (by simp) := List.getLast_cons (by simp)
    rw [List.cons_append, dlF, dlF, ih w, e]
    generalize dl ((w :: r).getLast (by simp)) x = z
    by_cases h : dl p w < 0
    · rw [if_pos h, if_pos h]; rfl
    · rw [if_neg h, if_neg h]
      cases dlF w r with
      | none => rfl
      | some d =>
        simp only [Option.bind_some, Option.map_some]
        by_cases hz : z < 0
        · rw [if_pos hz, if_pos hz]; rfl
        · rw [if_neg hz, if_neg hz]; rfl
theorem last_get (w : Int) (r : List Int) : lastZ (w :: r) = (w :: r).getLast (by simp) := by
  unfold lastZ
  rw [show ((w :: r).length : Int) - 1 = ((r.length : Nat) : Int) by simp, rd_nat, List.getLast_eq_getElem, List.getD_eq_getElem?_getD, List.getElem?_eq_getElem (by simp)]
  simp
def ringD (l : List Int) : List Int := (dls (l ++ [rd l 0])).getD []
theorem ring_some {l d : List Int} (h : dls l = some d) (h0 : l ≠ []) (h1 : ¬ dl (lastZ l) (rd l 0) < 0) : dls (l ++ [rd l 0]) = some (d ++ [dl (lastZ l) (rd l 0)]) := by
  cases l with
  | nil => exact absurd rfl h0
  | cons w r =>
    simp only [List.cons_append, dls] at h ⊢
    rw [last_get] at h1 ⊢
    rw [dlF_snoc, h, Option.bind_some, if_neg h1]
theorem round_ring {n : Int} {l : List Int} (h : roundB n l = true) (h0 : l ≠ []) : dls (l ++ [rd l 0]) = some (ringD l) ∧ (ringD l).length = l.length := by
  simp only [roundB, codeB, Bool.and_eq_true, decide_eq_true_eq] at h
  obtain ⟨d, hd⟩ := Option.isSome_iff_exists.1 h.1.2.1
  have e := ring_some hd h0 (by omega)
  have e2 : ringD l = d ++ [dl (lastZ l) (rd l 0)] := by unfold ringD; rw [e]; rfl
  rw [e2]
  refine ⟨e, ?_⟩
  cases l with
  | nil => exact absurd rfl h0
  | cons w r => have := dlF_len hd; simp; omega
def lst (d : List Int) (i : Nat) : Nat → Nat → Nat
  | 0, k => k
  | f + 1, k => if rd d (((i + k) % d.length : Nat) : Int) = rd d (i : Int) then k else lst d i f (k + 1)
theorem lst_ge (d : List Int) (i f : Nat) : ∀ k, k ≤ lst d i f k := by
  induction f with
  | zero => intro k; exact Nat.le_refl _
  | succ f ih =>
    intro k
    simp only [lst]
    split
    · exact Nat.le_refl _
    · exact Nat.le_trans (Nat.le_succ k) (ih (k + 1))
def lrF (d : List Int) : Nat → Nat → Nat → Nat
  | 0, _, b => b
  | c + 1, i, b => lrF d c (i + 1) (min b (lst d i (d.length - 1) 1))
def lrP (n : Int) (l : List Int) : Int × Bool := if areW n l = true ∧ roundB n l = true then ((lrF (ringD l) l.length 0 l.length : Int), true) else (0, false)

end Go.Proofs.YtnhifbopicjicaaDoor.Mth
