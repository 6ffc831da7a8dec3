/- Plain facts on products of bases, on digits and on the reflected list of digits. No condition. -/
import Derived.Test.YtbibabekmpipdaaMth
set_option linter.unusedVariables false
set_option linter.unusedSimpArgs false
namespace Go.Proofs.Ytbibabekmpipdaa.Mth
open Go.RowKit Go.Proofs.YtbibabekmpipdaaW.PrintWords Go.Proofs.YtbibabekmpipdaaW.PrintLast

def prod : List Int → Int
  | [] => 1
  | b :: r => b * prod r
theorem prod_pos {l : List Int} (h : allIn l 2 12 = true) : 1 ≤ prod l := by
  induction l with
  | nil => decide
  | cons b r ih =>
    simp only [allIn_cons, Bool.and_eq_true, inR_iff] at h
    have := ih h.2
    have : 1 * 1 ≤ b * prod r := Int.mul_le_mul (by omega) this (by omega) (by omega)
    simpa [prod] using this
theorem prod_tail {b : Int} {r : List Int} (h : allIn (b :: r) 2 12 = true) : prod r ≤ prod (b :: r) := by
  have h' := h
  simp only [allIn_cons, Bool.and_eq_true, inR_iff] at h'
  have h1 := prod_pos h'.2
  have : 1 * prod r ≤ b * prod r := Int.mul_le_mul_of_nonneg_right (by omega) (by omega)
  simpa [prod] using this
def sizeF : Int → List Int → Int
  | acc, [] => acc
  | acc, b :: r => sizeF (mn (acc * b) 1000001) r
def prF : Int → List Int → Int
  | acc, [] => acc
  | acc, b :: r => if acc * b > 1000000 then acc * b else prF (acc * b) r
theorem acc_mul {acc b : Int} (h0 : 1 ≤ acc) (h1 : acc ≤ 1000001) (h2 : 2 ≤ b) (h3 : b ≤ 12) : acc ≤ acc * b ∧ acc * b ≤ 12000012 := by
  constructor
  · have : acc * 1 ≤ acc * b := Int.mul_le_mul_of_nonneg_left (by omega) (by omega)
    omega
  · have : acc * b ≤ 1000001 * 12 := Int.mul_le_mul h1 h3 (by omega) (by omega)
    omega
theorem sizeF_eq {l : List Int} (h : allIn l 2 12 = true) : ∀ acc : Int, 1 ≤ acc → acc ≤ 1000001 → sizeF acc l = if acc * prod l ≤ 1000000 then acc * prod l else 1000001 := by
  induction l with
  | nil =>
    intro acc h0 h1
    simp only [sizeF, prod, Int.mul_one]
    split <;> omega
  | cons b r ih =>
    intro acc h0 h1
    have h' := h
    simp only [allIn_cons, Bool.and_eq_true, inR_iff] at h'
    have hb := acc_mul h0 h1 h'.1.1 h'.1.2
    have hp := prod_pos h'.2
    have e : acc * prod (b :: r) = acc * b * prod r := by simp only [prod]; rw [Int.mul_assoc]
    simp only [sizeF]
    rw [e]
    by_cases hc : acc * b ≤ 1000001
    · have hm : mn (acc * b) 1000001 = acc * b := by unfold mn; rw [if_neg (by omega)]
      rw [hm, ih h'.2 _ (by omega) hc]
    · have hm : mn (acc * b) 1000001 = 1000001 := by unfold mn; rw [if_pos (by omega)]
      rw [hm, ih h'.2 _ (by omega) (by omega)]
      have h5 : 1000001 * 1 ≤ 1000001 * prod r := Int.mul_le_mul_of_nonneg_left hp (by omega)
      have h6 : acc * b * 1 ≤ acc * b * prod r := Int.mul_le_mul_of_nonneg_left hp (by omega)
      rw [if_neg (by omega), if_neg (by omega)]
theorem prF_eq {l : List Int} (h : allIn l 2 12 = true) : ∀ acc : Int, 1 ≤ acc → acc ≤ 1000000 → (acc * prod l ≤ 1000000 → prF acc l = acc * prod l) ∧ (¬ acc * prod l ≤ 1000000 → 1000000 < prF acc l) := by
  induction l with
  | nil =>
    intro acc h0 h1
    simp only [prF, prod, Int.mul_one]
    exact ⟨fun _ => by trivial, fun h => by omega⟩
  | cons b r ih =>
    intro acc h0 h1
    have h' := h
    simp only [allIn_cons, Bool.and_eq_true, inR_iff] at h'
    have hb := acc_mul h0 (by omega) h'.1.1 h'.1.2
    have hp := prod_pos h'.2
    have e : acc * prod (b :: r) = acc * b * prod r := by simp only [prod]; rw [Int.mul_assoc]
    have h6 : acc * b * 1 ≤ acc * b * prod r := Int.mul_le_mul_of_nonneg_left hp (by omega)
    simp only [prF]
    rw [e]
    by_cases hc : acc * b > 1000000
    · rw [if_pos hc]
      exact ⟨fun _ => by omega, fun _ => hc⟩
    · rw [if_neg hc]
      exact ih h'.2 _ (by omega) (by omega)
def areB (l : List Int) : Bool := decide ((l.length : Int) ≤ 12) && (allIn l 2 12 && decide (prod l ≤ 1000000))
theorem areB_iff {l : List Int} : areB l = true ↔ (l.length : Int) ≤ 12 ∧ allIn l 2 12 = true ∧ prod l ≤ 1000000 := by simp [areB]
theorem areB_tail {b : Int} {r : List Int} (h : areB (b :: r) = true) : areB r = true := by
  rw [areB_iff] at *
  have h1 := prod_tail h.2.1
  have h2 := h.2.1
  simp only [allIn_cons, Bool.and_eq_true] at h2
  simp only [List.length_cons] at h
  exact ⟨by omega, h2.2, by omega⟩
theorem areB_drop {l : List Int} (h : areB l = true) (n : Nat) : areB (l.drop n) = true := by
  induction n generalizing l with
  | zero => exact h
  | succ n ih =>
    cases l with
    | nil => exact h
    | cons b r => exact ih (areB_tail h)
theorem areB_head {b : Int} {r : List Int} (h : areB (b :: r) = true) : (2 ≤ b ∧ b ≤ 12) ∧ 1 ≤ prod r ∧ prod r ≤ 1000000 ∧ b * prod r ≤ 1000000 ∧ areB r = true := by
  have ht := areB_tail h
  have ht' := areB_iff.1 ht
  have h' := areB_iff.1 h
  have h2 := h'.2.1
  simp only [allIn_cons, Bool.and_eq_true, inR_iff] at h2
  exact ⟨h2.1, prod_pos ht'.2.1, ht'.2.2, h'.2.2, ht⟩
def digs : List Int → List Int → Bool
  | [], [] => true
  | b :: bs, d :: ds => inR d 0 (b - 1) && digs bs ds
  | _, _ => false
theorem digs_length {bs ds : List Int} (h : digs bs ds = true) : ds.length = bs.length := by
  induction bs generalizing ds with
  | nil => cases ds with
    | nil => rfl
    | cons d ds => simp [digs] at h
  | cons b bs ih => cases ds with
    | nil => simp [digs] at h
    | cons d ds =>
      simp only [digs, Bool.and_eq_true] at h
      simp [ih h.2]

/-! ### The reflected list -/
def mixL : List Int → Int → List Int
  | [], _ => []
  | b :: bs, r => r / prod bs :: mixL bs (if (r / prod bs) % 2 = 1 then prod bs - 1 - r % prod bs else r % prod bs)
def mixR : List Int → List Int → Int
  | b :: bs, d :: ds => d * prod bs + (if d % 2 = 1 then prod bs - 1 - mixR bs ds else mixR bs ds)
  | _, _ => 0
theorem mixL_length (bs : List Int) (r : Int) : (mixL bs r).length = bs.length := by
  induction bs generalizing r with
  | nil => rfl
  | cons b bs ih => simp [mixL, ih]
theorem mod_range {r s : Int} (hs : 1 ≤ s) : 0 ≤ r % s ∧ r % s < s := ⟨Int.emod_nonneg _ (by omega), Int.emod_lt_of_pos _ (by omega)⟩
theorem div_range {r s b : Int} (hs : 1 ≤ s) (h0 : 0 ≤ r) (h1 : r < b * s) : 0 ≤ r / s ∧ r / s < b := ⟨Int.ediv_nonneg h0 (by omega), Int.ediv_lt_of_lt_mul (by omega) h1⟩
theorem div_mod (r s : Int) : r / s * s + r % s = r := by
  have := Int.mul_ediv_add_emod r s
  rw [Int.mul_comm] at this; exact this
theorem div_of {d s q : Int} (hs : 1 ≤ s) (h0 : 0 ≤ q) (h1 : q < s) : (d * s + q) / s = d ∧ (d * s + q) % s = q := by
  constructor
  · rw [Int.add_comm, Int.add_mul_ediv_right _ _ (by omega), Int.ediv_eq_zero_of_lt h0 h1]; omega
  · rw [Int.add_comm, Int.add_mul_emod_self_right, Int.emod_eq_of_lt h0 h1]
theorem mixR_range {bs ds : List Int} (hb : areB bs = true) (hd : digs bs ds = true) : 0 ≤ mixR bs ds ∧ mixR bs ds < prod bs := by
  induction bs generalizing ds with
  | nil =>
    cases ds with
    | nil => exact ⟨Int.le_refl _, by decide⟩
    | cons d ds => simp [digs] at hd
  | cons b bs ih =>
    cases ds with
    | nil => simp [digs] at hd
    | cons d ds =>
      obtain ⟨hb1, hp1, hp2, hp3, hb2⟩ := areB_head hb
      simp only [digs, Bool.and_eq_true, inR_iff] at hd
      obtain ⟨i0, i1⟩ := ih hb2 hd.2
      have h0 : 0 ≤ d * prod bs := Int.mul_nonneg (by omega) (by omega)
      have h1 : (d + 1) * prod bs ≤ b * prod bs := Int.mul_le_mul_of_nonneg_right (by omega) (by omega)
      rw [Int.add_mul, Int.one_mul] at h1
      simp only [mixR, prod]
      split <;> omega
theorem mixL_mixR {bs ds : List Int} (hb : areB bs = true) (hd : digs bs ds = true) : mixL bs (mixR bs ds) = ds := by
  induction bs generalizing ds with
  | nil =>
    cases ds with
    | nil => rfl
    | cons d ds => simp [digs] at hd
  | cons b bs ih =>
    cases ds with
    | nil => simp [digs] at hd
    | cons d ds =>
      obtain ⟨hb1, hp1, hp2, hp3, hb2⟩ := areB_head hb
      simp only [digs, Bool.and_eq_true, inR_iff] at hd
      obtain ⟨i0, i1⟩ := mixR_range hb2 hd.2
      simp only [mixR]
      by_cases hodd : d % 2 = 1
      · rw [if_pos hodd]
        obtain ⟨e1, e2⟩ := div_of (d := d) (s := prod bs) (q := prod bs - 1 - mixR bs ds) hp1 (by omega) (by omega)
        simp only [mixL, e1, e2, if_pos hodd]
        rw [show prod bs - 1 - (prod bs - 1 - mixR bs ds) = mixR bs ds by omega, ih hb2 hd.2]
      · rw [if_neg hodd]
        obtain ⟨e1, e2⟩ := div_of (d := d) (s := prod bs) (q := mixR bs ds) hp1 i0 i1
        simp only [mixL, e1, e2, if_neg hodd]
        rw [ih hb2 hd.2]
theorem mixL_digs {bs : List Int} (hb : areB bs = true) : ∀ r : Int, 0 ≤ r → r < prod bs → digs bs (mixL bs r) = true := by
  induction bs with
  | nil => intro r _ _; rfl
  | cons b bs ih =>
    intro r h0 h1
    obtain ⟨hb1, hp1, hp2, hp3, hb2⟩ := areB_head hb
    have hm := mod_range (r := r) hp1
    have hd := div_range hp1 h0 (show r < b * prod bs from h1)
    simp only [mixL, digs, Bool.and_eq_true, inR_iff]
    refine ⟨⟨hd.1, by omega⟩, ih hb2 _ ?_ ?_⟩
    · split <;> omega
    · split <;> omega
theorem mixR_mixL {bs : List Int} (hb : areB bs = true) : ∀ r : Int, 0 ≤ r → r < prod bs → mixR bs (mixL bs r) = r := by
  induction bs with
  | nil => intro r h0 h1; simp only [prod] at h1; simp only [mixL, mixR]; omega
  | cons b bs ih =>
    intro r h0 h1
    obtain ⟨hb1, hp1, hp2, hp3, hb2⟩ := areB_head hb
    have hm := mod_range (r := r) hp1
    have hd := div_range hp1 h0 (show r < b * prod bs from h1)
    have hdm := div_mod r (prod bs)
    simp only [mixL, mixR]
    by_cases hodd : r / prod bs % 2 = 1
    · simp only [if_pos hodd]
      rw [ih hb2 _ (by omega) (by omega)]; omega
    · simp only [if_neg hodd]
      rw [ih hb2 _ (by omega) (by omega)]; omega
/-- Two lists that differ at one index alone, by 1. -/
def stepAt : List Int → List Int → Nat → Prop
  | a :: as, b :: bs, 0 => (a = b + 1 ∨ b = a + 1) ∧ as = bs
  | a :: as, b :: bs, i + 1 => a = b ∧ stepAt as bs i
  | _, _, _ => False
theorem stepAt_symm {a b : List Int} {i : Nat} (h : stepAt a b i) : stepAt b a i := by
  induction i generalizing a b with
  | zero =>
    cases a with
    | nil => simp [stepAt] at h
    | cons x a => cases b with
      | nil => simp [stepAt] at h
      | cons y b => exact ⟨h.1.symm, h.2.symm⟩
  | succ i ih =>
    cases a with
    | nil => simp [stepAt] at h
    | cons x a => cases b with
      | nil => simp [stepAt] at h
      | cons y b => exact ⟨h.1.symm, ih h.2⟩
theorem mixL_step {bs : List Int} (hb : areB bs = true) : ∀ r : Int, 0 ≤ r → r + 1 < prod bs → ∃ i, stepAt (mixL bs r) (mixL bs (r + 1)) i := by
  induction bs with
  | nil => intro r h0 h1; simp only [prod] at h1; omega
  | cons b bs ih =>
    intro r h0 h1
    obtain ⟨hb1, hp1, hp2, hp3, hb2⟩ := areB_head hb
    have hm := mod_range (r := r) hp1
    have hdm := div_mod r (prod bs)
    by_cases hx : r % prod bs + 1 < prod bs
    · obtain ⟨e1, e2⟩ := div_of (d := r / prod bs) (s := prod bs) (q := r % prod bs + 1) hp1 (by omega) hx
      rw [← Int.add_assoc, hdm] at e1 e2
      by_cases hodd : r / prod bs % 2 = 1
      · obtain ⟨i, hi⟩ := ih hb2 (prod bs - 1 - (r % prod bs + 1)) (by omega) (by omega)
        refine ⟨i + 1, ?_⟩
        simp only [mixL, e1, e2, if_pos hodd]
        refine ⟨rfl, ?_⟩
        have := stepAt_symm hi
        rw [show prod bs - 1 - (r % prod bs + 1) + 1 = prod bs - 1 - r % prod bs by omega] at this
        exact this
      · obtain ⟨i, hi⟩ := ih hb2 (r % prod bs) (by omega) (by omega)
        refine ⟨i + 1, ?_⟩
        simp only [mixL, e1, e2, if_neg hodd]
        exact ⟨rfl, hi⟩
    · obtain ⟨e1, e2⟩ := div_of (d := r / prod bs + 1) (s := prod bs) (q := 0) hp1 (by omega) (by omega)
      rw [Int.add_mul, Int.one_mul, show r / prod bs * prod bs + prod bs + 0 = r + 1 by omega] at e1 e2
      refine ⟨0, ?_⟩
      simp only [mixL, e1, e2]
      refine ⟨.inr rfl, ?_⟩
      by_cases hodd : r / prod bs % 2 = 1
      · rw [if_pos hodd, if_neg (by omega)]
        congr 1
        omega
      · rw [if_neg hodd, if_pos (by omega)]
        congr 1
        omega

/-! ### Digits and ranks -/
def dgo (bs : List Int) : Nat → Int → List Int → List Int
  | 0, _, out => out
  | j + 1, r, out => dgo bs j (wrap64 (Int.tdiv r (rd bs (j : Int)))) (out.set j (Int.tmod r (rd bs (j : Int))))
theorem dgo_length (bs : List Int) (j : Nat) : ∀ (r : Int) (out : List Int), (dgo bs j r out).length = out.length := by
  induction j with
  | zero => intro r out; rfl
  | succ j ih => intro r out; rw [dgo, ih, List.length_set]
def digsAt (bs : List Int) (r : Int) : List Int × Bool := if areB bs = true ∧ inR r 0 (prod bs - 1) = true then (dgo bs bs.length r (List.replicate bs.length 0), true) else ([], false)
theorem digsAt_len (bs : List Int) (r : Int) : (digsAt bs r).1.length ≤ 12 := by
  unfold digsAt
  split
  · rename_i h
    have := (areB_iff.1 h.1).1
    simp only [dgo_length, List.length_replicate]; omega
  · exact Nat.zero_le _
def rkgo : Int → List Int → List Int → Int
  | r, b :: bs, d :: ds => rkgo (wrap64 (wrap64 (r * b) + d)) bs ds
  | r, _, _ => r
def rkOf (bs ds : List Int) : Int × Bool := if areB bs = true ∧ digs bs ds = true then (rkgo 0 bs ds, true) else (0, false)
def mixAt (bs : List Int) (r : Int) : List Int × Bool := if areB bs = true ∧ inR r 0 (prod bs - 1) = true then (mixL bs r, true) else ([], false)
theorem mixAt_len (bs : List Int) (r : Int) : (mixAt bs r).1.length ≤ 12 := by
  unfold mixAt
  split
  · rename_i h
    have := (areB_iff.1 h.1).1
    simp only [mixL_length]; omega
  · exact Nat.zero_le _
def mixRk (bs ds : List Int) : Int × Bool := if areB bs = true ∧ digs bs ds = true then (mixR bs ds, true) else (0, false)
def digR : List Int → List Int → Int
  | b :: bs, d :: ds => d * prod bs + digR bs ds
  | _, _ => 0

end Go.Proofs.Ytbibabekmpipdaa.Mth
