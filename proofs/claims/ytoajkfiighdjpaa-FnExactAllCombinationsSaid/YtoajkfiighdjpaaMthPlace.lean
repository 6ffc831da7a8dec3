/- Plain facts on places in lists of combinations. No condition. -/
import Derived.Test.YtoajkfiighdjpaaMthComb
set_option linter.unusedVariables false
set_option linter.unusedSimpArgs false
namespace Go.Proofs.Ytoajkfiighdjpaa.Mth
open Go.RowKit Go.Proofs.YtoajkfiighdjpaaW.PrintWords Go.Proofs.YtoajkfiighdjpaaW.PrintLast

def plc : List (List Int) → List Int → Nat
  | [], _ => 0
  | x :: r, l => if x = l then 0 else plc r l + 1
theorem plc_le (A : List (List Int)) (l : List Int) : plc A l ≤ A.length := by
  induction A with
  | nil => exact Nat.le_refl _
  | cons x r ih =>
    simp only [plc, List.length_cons]
    split <;> omega
theorem plc_append (A B : List (List Int)) (l : List Int) : plc (A ++ B) l = if plc A l < A.length then plc A l else A.length + plc B l := by
  induction A with
  | nil => simp [plc]
  | cons x r ih =>
    simp only [List.cons_append, plc, List.length_cons, ih]
    by_cases h : x = l
    · simp [h]
    · simp only [if_neg h]
      by_cases h2 : plc r l < r.length
      · rw [if_pos h2, if_pos (by omega)]
      · rw [if_neg h2, if_neg (by omega)]; omega
theorem plc_map_cons (A : List (List Int)) (x : Int) (r : List Int) : plc (A.map fun q => x :: q) (x :: r) = plc A r := by
  induction A with
  | nil => rfl
  | cons a A ih => simp [plc, ih]
theorem plc_out {A : List (List Int)} {l : List Int} (h : ∀ a ∈ A, a ≠ l) : plc A l = A.length := by
  induction A with
  | nil => rfl
  | cons a A ih =>
    simp only [plc, List.length_cons]
    rw [if_neg (h a (by simp)), ih (fun b hb => h b (by simp [hb]))]
theorem plc_map_snoc (A : List (List Int)) (x : Int) (r : List Int) : plc (A.map fun q => q ++ [x]) (r ++ [x]) = plc A r := by
  induction A with
  | nil => rfl
  | cons a A ih => simp [plc, ih]
def placeI (A : List (List Int)) (l : List Int) : Int := if plc A l < A.length then (plc A l : Int) else -1

/-- Increasing, from f on, below n. -/
def Cmb : Int → Int → List Int → Prop
  | _, _, [] => True
  | f, n, x :: r => f ≤ x ∧ x < n ∧ Cmb (x + 1) n r
theorem cmb_mk {f n x : Int} {r : List Int} (a : f ≤ x) (b : x < n) (c : Cmb (x + 1) n r) : Cmb f n (x :: r) := ⟨a, b, c⟩
theorem cmb_of_incrF {n p : Int} {l : List Int} (h : incrF p l = true) (ha : allIn l 0 (n - 1) = true) : Cmb (p + 1) n l := by
  induction l generalizing p with
  | nil => trivial
  | cons x r ih =>
    simp only [incrF, Bool.and_eq_true, decide_eq_true_eq] at h
    simp only [allIn_cons, Bool.and_eq_true, inR_iff] at ha
    exact ⟨by omega, by omega, ih h.2 ha.2⟩
theorem cmb_of_isComb {n : Int} {l : List Int} (h : isComb n l = true) : Cmb 0 n l := by
  have h' := isComb_iff.1 h
  cases l with
  | nil => trivial
  | cons x r =>
    have ha := h'.2.1
    simp only [allIn_cons, Bool.and_eq_true, inR_iff] at ha
    exact ⟨by omega, by omega, cmb_of_incrF h'.2.2 ha.2⟩
theorem cmb_weaken {f g n : Int} {l : List Int} (h : Cmb f n l) (hg : ∀ x r, l = x :: r → g ≤ x) : Cmb g n l := by
  cases l with
  | nil => trivial
  | cons x r => exact ⟨hg x r rfl, h.2⟩
theorem cmb_mono {f g n m : Int} {l : List Int} (h : Cmb f n l) (hg : g ≤ f) (hm : n ≤ m) : Cmb g m l := by
  induction l generalizing f g with
  | nil => trivial
  | cons x r ih => obtain ⟨a, b, c⟩ := h; exact ⟨by omega, by omega, ih c (by omega)⟩
theorem cmb_snoc {f n x : Int} {l : List Int} (h : Cmb f n (l ++ [x])) : Cmb f x l ∧ f ≤ x ∧ x < n := by
  induction l generalizing f with
  | nil => exact ⟨trivial, h.1, h.2.1⟩
  | cons y l ih =>
    obtain ⟨a, b, c⟩ := h
    obtain ⟨d, e, g⟩ := ih c
    exact ⟨⟨a, by omega, d⟩, by omega, g⟩
theorem cmb_range {f n : Int} {l : List Int} (h : Cmb f n l) : ∀ x ∈ l, f ≤ x ∧ x < n := by
  induction l generalizing f with
  | nil => intro x hx; cases hx
  | cons y l ih =>
    obtain ⟨a, b, c⟩ := h
    intro x hx
    rcases List.mem_cons.1 hx with rfl | hx
    · exact ⟨a, b⟩
    · have := ih c x hx; omega
def rankL : Nat → Nat → List Int → Nat
  | _, 0, _ => 0
  | _, _ + 1, [] => 0
  | f, m + 1, x :: r => if x = (f : Int) then rankL (f + 1) m r else C m r.length + rankL (f + 1) m (x :: r)
theorem rankL_nil (f m : Nat) : rankL f m [] = 0 := by cases m <;> rfl
theorem rankL_succ (f m : Nat) (x : Int) (r : List Int) : rankL f (m + 1) (x :: r) = if x = (f : Int) then rankL (f + 1) m r else C m r.length + rankL (f + 1) m (x :: r) := rfl
theorem plc_lexL (m : Nat) : ∀ (f : Nat) (l : List Int), Cmb (f : Int) ((f + m : Nat) : Int) l → plc (lexL f m l.length) l = rankL f m l ∧ rankL f m l < C m l.length := by
  induction m with
  | zero =>
    intro f l h
    cases l with
    | nil => exact ⟨rfl, by simp [rankL, C]⟩
    | cons x r => obtain ⟨a, b, _⟩ := h; omega
  | succ m ih =>
    intro f l h
    cases l with
    | nil => rw [rankL_nil]; exact ⟨by rw [List.length_nil, lexL_zero]; rfl, by rw [List.length_nil, C_zero]; omega⟩
    | cons x r =>
      obtain ⟨a, b, c⟩ := h
      have hl := lexL_length (f + 1) m r.length
      rw [rankL_succ, List.length_cons, lexL_succ, C_succ, plc_append, List.length_map, hl]
      by_cases e : x = (f : Int)
      · subst e
        have := ih (f + 1) r (by rw [show ((f + 1 + m : Nat) : Int) = ((f + (m + 1) : Nat) : Int) by omega]; exact c)
        rw [plc_map_cons, this.1, if_pos this.2, if_pos rfl]
        exact ⟨rfl, by omega⟩
      · have := ih (f + 1) (x :: r) (by rw [show ((f + 1 + m : Nat) : Int) = ((f + (m + 1) : Nat) : Int) by omega]; exact ⟨by omega, b, c⟩)
        rw [plc_out (A := (lexL (f + 1) m r.length).map fun q => (f : Int) :: q) (l := x :: r) (by
          intro q hq hc
          rw [List.mem_map] at hq
          obtain ⟨q', _, rfl⟩ := hq
          exact e (by have := (List.cons.inj hc).1; omega))]
        rw [List.length_map, hl, if_neg (by omega), if_neg e]
        rw [List.length_cons] at this
        exact ⟨by rw [this.1], by omega⟩
theorem unrankL_rankL (m : Nat) : ∀ (f : Nat) (l : List Int), Cmb (f : Int) ((f + m : Nat) : Int) l → unrankL f m l.length (rankL f m l) = l := by
  induction m with
  | zero =>
    intro f l h
    cases l with
    | nil => rfl
    | cons x r => obtain ⟨a, b, _⟩ := h; omega
  | succ m ih =>
    intro f l h
    cases l with
    | nil => rw [List.length_nil, unrankL_zero]
    | cons x r =>
      obtain ⟨a, b, c⟩ := h
      rw [rankL_succ, List.length_cons, unrankL_succ]
      by_cases e : x = (f : Int)
      · have hc : Cmb ((f + 1 : Nat) : Int) ((f + 1 + m : Nat) : Int) r := by
          rw [show ((f + 1 + m : Nat) : Int) = ((f + (m + 1) : Nat) : Int) by omega]
          rw [e] at c; exact c
        have h1 := ih (f + 1) r hc
        have h2 := (plc_lexL m (f + 1) r hc).2
        rw [if_pos e, if_pos h2, h1, e]
      · have hc : Cmb ((f + 1 : Nat) : Int) ((f + 1 + m : Nat) : Int) (x :: r) := by
          rw [show ((f + 1 + m : Nat) : Int) = ((f + (m + 1) : Nat) : Int) by omega]; exact ⟨by omega, b, c⟩
        have h1 := ih (f + 1) (x :: r) hc
        rw [if_neg e, if_neg (by omega), Nat.add_sub_cancel_left]
        exact h1

/-! ### Colexicographic ranks -/
def crk : Nat → List Int → Nat
  | _, [] => 0
  | i, x :: r => C x.toNat (i + 1) + crk (i + 1) r
theorem crk_snoc (i : Nat) (l : List Int) (x : Int) : crk i (l ++ [x]) = crk i l + C x.toNat (i + l.length + 1) := by
  induction l generalizing i with
  | nil => simp [crk]
  | cons y l ih =>
    simp only [List.cons_append, crk, ih, List.length_cons]
    rw [show i + 1 + l.length + 1 = i + (l.length + 1) + 1 by omega]; omega
theorem crk_le (i : Nat) (l : List Int) (h : ∀ x ∈ l, x ≤ 12) : crk i l ≤ 4096 * l.length := by
  induction l generalizing i with
  | nil => exact Nat.le_refl _
  | cons x r ih =>
    have h1 := ih (i + 1) (fun y hy => h y (by simp [hy]))
    have h2 := C_12 (i + 1) (n := x.toNat) (by have := h x (by simp); omega)
    simp only [crk, List.length_cons]; omega
theorem colL_lt {n k : Nat} {l : List Int} (h : l ∈ colL n k) : ∀ x ∈ l, x < (n : Int) := by
  induction n generalizing k l with
  | zero =>
    cases k with
    | zero => rw [colL_zero] at h; simp at h; subst h; intro x hx; cases hx
    | succ k => simp [colL] at h
  | succ n ih =>
    cases k with
    | zero => rw [colL_zero] at h; simp at h; subst h; intro x hx; cases hx
    | succ k =>
      rw [colL_succ, List.mem_append] at h
      intro x hx
      rcases h with h | h
      · have := ih h x hx; omega
      · rw [List.mem_map] at h
        obtain ⟨q, hq, rfl⟩ := h
        rw [List.mem_append] at hx
        rcases hx with hx | hx
        · have := ih hq x hx; omega
        · simp at hx; omega
theorem plc_colL (n : Nat) : ∀ l : List Int, Cmb 0 (n : Int) l → plc (colL n l.length) l = crk 0 l ∧ crk 0 l < C n l.length := by
  induction n with
  | zero =>
    intro l h
    cases l with
    | nil => exact ⟨rfl, by decide⟩
    | cons x r => obtain ⟨a, b, _⟩ := h; omega
  | succ n ih =>
    intro l h
    rcases List.eq_nil_or_concat l with rfl | ⟨l', x, rfl⟩
    · exact ⟨by rw [List.length_nil, colL_zero]; rfl, by rw [List.length_nil, C_zero]; decide⟩
    · rw [List.concat_eq_append] at h ⊢
      obtain ⟨hc, h0, h1⟩ := cmb_snoc h
      have hl := colL_length n (l'.length + 1)
      rw [List.length_append, List.length_singleton, colL_succ, plc_append, C_succ, hl]
      by_cases e : x = (n : Int)
      · have := ih l' (by rw [e] at hc; exact hc)
        have hx : x.toNat = n := by omega
        rw [plc_out (A := colL n (l'.length + 1)) (l := l' ++ [x]) (by
          intro q hq hc
          have := colL_lt hq x (by rw [hc]; simp)
          omega)]
        rw [hl, if_neg (by omega), e, plc_map_snoc, this.1, crk_snoc, Nat.zero_add]
        have : (n : Int).toNat = n := rfl
        rw [this]
        exact ⟨by omega, by omega⟩
      · have := ih (l' ++ [x]) (by
          have : Cmb 0 ((n : Int)) (l' ++ [x]) := by
            have hgen : ∀ (g : Int) (q : List Int), Cmb g ((n + 1 : Nat) : Int) (q ++ [x]) → x < (n : Int) → Cmb g (n : Int) (q ++ [x]) := by
              intro g q
              induction q generalizing g with
              | nil => intro a b; exact ⟨a.1, b, trivial⟩
              | cons y q ihq =>
                intro a b
                have := cmb_snoc a.2.2
                exact ⟨a.1, by omega, ihq _ a.2.2 b⟩
            exact hgen 0 l' h (by omega)
          exact this)
        rw [List.length_append, List.length_singleton] at this
        rw [this.1, if_pos this.2]
        exact ⟨rfl, by omega⟩

/-! ### What the calls answer -/
def rankC (n : Int) (l : List Int) : Int × Bool := if isComb n l = true then ((rankL 0 n.toNat l : Int), true) else (0, false)
theorem placeI_lexL {n : Nat} {l : List Int} (h : isComb (n : Int) l = true) : placeI (lexL 0 n l.length) l = (rankL 0 n l : Int) := by
  have hc := cmb_of_isComb h
  have := plc_lexL n 0 l (by rw [Nat.zero_add]; exact hc)
  unfold placeI
  rw [lexL_length, this.1, if_pos this.2]
def rankX (l : List Int) : Int × Bool := if isComb 12 l = true then ((crk 0 l : Int), true) else (0, false)
theorem placeI_colL {l : List Int} (h : isComb 12 l = true) : placeI (colL 12 l.length) l = (crk 0 l : Int) := by
  have := plc_colL 12 l (cmb_of_isComb h)
  unfold placeI
  rw [colL_length, this.1, if_pos this.2]
def nextC (n : Int) (l : List Int) : List Int × Bool := if isComb n l = true then combAt n (l.length : Int) ((rankL 0 n.toNat l : Int) + 1) else ([], false)
theorem nextC_len (n : Int) (l : List Int) : (nextC n l).1.length ≤ 12 := by
  unfold nextC
  split
  · exact combAt_len _ _ _
  · exact Nat.zero_le _

end Go.Proofs.Ytoajkfiighdjpaa.Mth
