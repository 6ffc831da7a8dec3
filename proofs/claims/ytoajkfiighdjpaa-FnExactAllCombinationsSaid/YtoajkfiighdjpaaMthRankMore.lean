/- Plain facts on ranks of combinations: there, back and in order. No condition. -/
-- plain: Place
import Derived.Test.YtoajkfiighdjpaaMthPlace
set_option linter.unusedVariables false
set_option linter.unusedSimpArgs false
namespace Go.Proofs.Ytoajkfiighdjpaa.Mth
open Go.RowKit Go.Proofs.YtoajkfiighdjpaaW.PrintWords Go.Proofs.YtoajkfiighdjpaaW.PrintLast

theorem plc_get {A : List (List Int)} {l : List Int} (h : plc A l < A.length) : A[plc A l]? = some l := by
  induction A with
  | nil => simp at h
  | cons x r ih =>
    simp only [plc] at h ⊢
    by_cases e : x = l
    · rw [if_pos e, e]; rfl
    · rw [if_neg e] at h ⊢
      simp only [List.length_cons] at h
      rw [List.getElem?_cons_succ]
      exact ih (by omega)
theorem incrF_of_cmb {p n : Int} {l : List Int} (h : Cmb (p + 1) n l) : incrF p l = true := by
  induction l generalizing p with
  | nil => rfl
  | cons x r ih =>
    obtain ⟨a, b, c⟩ := h
    simp only [incrF, Bool.and_eq_true, decide_eq_true_eq]
    exact ⟨by omega, ih c⟩
theorem isComb_of_cmb {n : Int} {l : List Int} (h0 : 0 ≤ n) (h1 : n ≤ 12) (h : Cmb 0 n l) : isComb n l = true := by
  refine isComb_iff.2 ⟨⟨h0, h1⟩, allIn_iff.2 (fun x hx => by have := cmb_range h x hx; omega), ?_⟩
  cases l with
  | nil => rfl
  | cons x r => exact incrF_of_cmb h.2.2
theorem unrankL_back (m : Nat) : ∀ (f k r : Nat), r < C m k → Cmb (f : Int) ((f + m : Nat) : Int) (unrankL f m k r) ∧ rankL f m (unrankL f m k r) = r := by
  induction m with
  | zero =>
    intro f k r h
    cases k with
    | zero => rw [unrankL_zero]; rw [C_zero] at h; exact ⟨trivial, by rw [rankL_nil]; omega⟩
    | succ k => simp [C] at h
  | succ m ih =>
    intro f k r h
    cases k with
    | zero => rw [unrankL_zero]; rw [C_zero] at h; exact ⟨trivial, by rw [rankL_nil]; omega⟩
    | succ k =>
      rw [C_succ] at h
      rw [unrankL_succ]
      have e : ((f + 1 + m : Nat) : Int) = ((f + (m + 1) : Nat) : Int) := by omega
      by_cases hr : r < C m k
      · rw [if_pos hr]
        obtain ⟨a, b⟩ := ih (f + 1) k r hr
        rw [e] at a
        refine ⟨⟨by omega, by omega, a⟩, ?_⟩
        rw [rankL_succ, if_pos rfl]; exact b
      · rw [if_neg hr]
        obtain ⟨a, b⟩ := ih (f + 1) (k + 1) (r - C m k) (by omega)
        have hlen := unrankL_length (f + 1) m (k + 1) (r - C m k) (by omega)
        rw [e] at a
        generalize unrankL (f + 1) m (k + 1) (r - C m k) = l at a b hlen
        cases l with
        | nil => simp at hlen
        | cons x t =>
          obtain ⟨a1, a2, a3⟩ := a
          simp only [List.length_cons, Nat.add_right_cancel_iff] at hlen
          refine ⟨⟨by omega, a2, a3⟩, ?_⟩
          rw [rankL_succ, if_neg (by omega), b, hlen]; omega
theorem rankL_lt {n : Nat} {l : List Int} (h : isComb (n : Int) l = true) : rankL 0 n l < C n l.length := (plc_lexL n 0 l (by rw [Nat.zero_add]; exact cmb_of_isComb h)).2
theorem combAt_rank {n : Nat} {l : List Int} (h : isComb (n : Int) l = true) : combAt (n : Int) (l.length : Int) (rankL 0 n l : Int) = (l, true) := by
  have hlt := rankL_lt h
  have hl := isComb_len h
  have hn := (isComb_iff.1 h).1
  unfold combAt
  rw [if_pos (isRk_iff.2 ⟨hn, ⟨by omega, hl⟩, by omega, by simp only [Int.toNat_natCast]; omega⟩)]
  simp only [Int.toNat_natCast]
  rw [unrankL_rankL n 0 l (by rw [Nat.zero_add]; exact cmb_of_isComb h)]
theorem combAt_back {n k r : Int} (h : isRk n k r = true) : rankC n (combAt n k r).1 = (r, true) := by
  have h' := isRk_iff.1 h
  unfold combAt
  rw [if_pos h]
  obtain ⟨m, rfl⟩ := Int.eq_ofNat_of_zero_le h'.1.1
  obtain ⟨i, rfl⟩ := Int.eq_ofNat_of_zero_le h'.2.1.1
  obtain ⟨q, rfl⟩ := Int.eq_ofNat_of_zero_le h'.2.2.1
  simp only [Int.toNat_natCast] at h' ⊢
  obtain ⟨a, b⟩ := unrankL_back m 0 i q (by omega)
  rw [Nat.zero_add] at a
  unfold rankC
  rw [if_pos (isComb_of_cmb h'.1.1 h'.1.2 a), Int.toNat_natCast, b]
theorem colAt_rank {l : List Int} (h : isComb 12 l = true) : colAt (l.length : Int) (crk 0 l : Int) = (l, true) := by
  have hl := isComb_len h
  obtain ⟨a, b⟩ := plc_colL 12 l (cmb_of_isComb h)
  rw [← ofL_colL l.length (by omega)]
  refine ofL_some ?_
  rw [← a]
  exact plc_get (by rw [colL_length, a]; exact b)
/-- Two combinations of one length: the last index at which they differ decides. -/
theorem crk_lt {p q : List Int} {x y : Int} (hp : Cmb 0 12 (p ++ [x])) (hq : Cmb 0 12 (q ++ [y])) (hl : p.length = q.length) (h : x < y) : crk 0 (p ++ [x]) < crk 0 (q ++ [y]) := by
  obtain ⟨a1, a2, a3⟩ := cmb_snoc hp
  obtain ⟨b1, b2, b3⟩ := cmb_snoc hq
  obtain ⟨n, rfl⟩ := Int.eq_ofNat_of_zero_le a2
  obtain ⟨m, rfl⟩ := Int.eq_ofNat_of_zero_le b2
  have h1 := (plc_colL n p a1).2
  rw [crk_snoc, crk_snoc]
  simp only [Int.toNat_natCast, Nat.zero_add]
  rw [← hl]
  have h2 : C (n + 1) (p.length + 1) = C n (p.length + 1) + C n p.length := C_succ _ _
  have h3 := C_mono (p.length + 1) (show n + 1 ≤ m by omega)
  omega

end Go.Proofs.Ytoajkfiighdjpaa.Mth
