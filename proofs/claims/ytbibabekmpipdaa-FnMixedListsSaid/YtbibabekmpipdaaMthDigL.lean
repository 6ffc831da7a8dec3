/- Plain facts on the digits of a number: there and back, and in order. No condition. -/
-- plain: Digits
import Derived.Test.YtbibabekmpipdaaMthDigits
set_option linter.unusedVariables false
set_option linter.unusedSimpArgs false
namespace Go.Proofs.Ytbibabekmpipdaa.Mth
open Go.RowKit Go.Proofs.YtbibabekmpipdaaW.PrintWords Go.Proofs.YtbibabekmpipdaaW.PrintLast

def digL : List Int → Int → List Int
  | [], _ => []
  | _ :: bs, r => r / prod bs :: digL bs (r % prod bs)
theorem digL_length (bs : List Int) (r : Int) : (digL bs r).length = bs.length := by
  induction bs generalizing r with
  | nil => rfl
  | cons b bs ih => simp [digL, ih]
theorem prod_snoc (l : List Int) (b : Int) : prod (l ++ [b]) = prod l * b := by
  induction l with
  | nil => simp [prod]
  | cons a l ih => simp only [List.cons_append, prod, ih, Int.mul_assoc]
theorem digL_snoc {l : List Int} {b : Int} (hl : allIn l 2 12 = true) (hb : 1 ≤ b) : ∀ r : Int, 0 ≤ r → r < prod (l ++ [b]) → digL (l ++ [b]) r = digL l (r / b) ++ [r % b] := by
  induction l with
  | nil =>
    intro r h0 h1
    have h2 : r < b := by simpa [prod] using h1
    simp only [List.nil_append, digL, prod, Int.ediv_one, Int.emod_eq_of_lt h0 h2]
  | cons a l ih =>
    intro r h0 h1
    have hl' := hl
    simp only [allIn_cons, Bool.and_eq_true, inR_iff] at hl'
    have hp := prod_pos hl'.2
    have eP : prod (l ++ [b]) = prod l * b := prod_snoc l b
    have hPb : 1 ≤ prod l * b := by
      have : 1 * 1 ≤ prod l * b := Int.mul_le_mul hp hb (by omega) (by omega)
      omega
    have e1 := div_mod r b
    have m1 := mod_range (r := r) hb
    have e2 := div_mod (r / b) (prod l)
    have m2 := mod_range (r := r / b) hp
    have m3 : (r / b % prod l) * b + r % b < prod l * b := by
      have : (r / b % prod l + 1) * b ≤ prod l * b := Int.mul_le_mul_of_nonneg_right (by omega) (by omega)
      rw [Int.add_mul, Int.one_mul] at this
      omega
    have m4 : 0 ≤ (r / b % prod l) * b := Int.mul_nonneg m2.1 (by omega)
    have eR : r = (r / b / prod l) * (prod l * b) + ((r / b % prod l) * b + r % b) := by
      have : (r / b / prod l * prod l + r / b % prod l) * b + r % b = r := by rw [e2, e1]
      rw [Int.add_mul, Int.mul_assoc] at this
      omega
    obtain ⟨d1, d2⟩ := div_of (d := r / b / prod l) (s := prod l * b) (q := (r / b % prod l) * b + r % b) hPb (by omega) m3
    rw [← eR] at d1 d2
    obtain ⟨d3, d4⟩ := div_of (d := r / b % prod l) (s := b) (q := r % b) hb m1.1 m1.2
    simp only [List.cons_append, digL, eP]
    rw [d1, d2, ih hl'.2 _ (by omega) (by rw [eP]; exact m3), d3, d4]
theorem dgo_digL {bs : List Int} (hb : areB bs = true) (j : Nat) : ∀ (r : Int) (out : List Int), j ≤ bs.length → out.length = bs.length → 0 ≤ r → r < prod (bs.take j) → dgo bs j r out = digL (bs.take j) r ++ out.drop j := by
  have hb' := areB_iff.1 hb
  induction j with
  | zero => intro r out _ _ _ _; simp [dgo, digL]
  | succ j ih =>
    intro r out hj ho h0 h1
    have hlt : j < bs.length := by omega
    have hm := allIn_iff.1 hb'.2.1 _ (rd_mem (l := bs) (j := j) (by omega))
    have et : bs.take (j + 1) = bs.take j ++ [rd bs (j : Int)] := by
      rw [List.take_add_one, rd_nat, List.getD_eq_getElem?_getD, List.getElem?_eq_getElem hlt]; rfl
    have hall : allIn (bs.take j) 2 12 = true := allIn_iff.2 (fun x hx => allIn_iff.1 hb'.2.1 x (List.mem_of_mem_take hx))
    have hsz : prod (bs.take (j + 1)) ≤ 1000000 := by
      have key : ∀ (l : List Int) (i : Nat), allIn l 2 12 = true → prod (l.take i) ≤ prod l := by
        intro l
        induction l with
        | nil => intro i _; simp
        | cons a l ihl =>
          intro i hl
          cases i with
          | zero => simp only [List.take_zero, prod]; have := prod_pos hl; simpa [prod] using this
          | succ i =>
            simp only [allIn_cons, Bool.and_eq_true, inR_iff] at hl
            have := ihl i hl.2
            simp only [List.take_succ_cons, prod]
            exact Int.mul_le_mul_of_nonneg_left this (by omega)
      have := key bs (j + 1) hb'.2.1
      omega
    rw [et] at h1 hsz ⊢
    rw [dgo]
    generalize rd bs (j : Int) = b at *
    have hq : 0 ≤ r / b := Int.ediv_nonneg h0 (by omega)
    have hq1 : r / b < prod (bs.take j) := by rw [prod_snoc] at h1; exact Int.ediv_lt_of_lt_mul (by omega) h1
    have hq2 : r / b ≤ r := Int.ediv_le_self _ h0
    rw [Int.tdiv_eq_ediv_of_nonneg h0, Int.tmod_eq_emod_of_nonneg h0, w64 (by omega) (by omega)]
    rw [ih (r / b) (out.set j (r % b)) (by omega) (by simpa using ho) hq hq1, digL_snoc hall (by omega) r h0 h1]
    have hd : (out.set j (r % b)).drop j = r % b :: out.drop (j + 1) := by
      rw [List.drop_eq_getElem_cons (by simp; omega)]
      congr 1
      · simp
      · rw [List.drop_set_of_lt (by omega)]
    rw [hd, List.append_assoc]; rfl
theorem digsAt_eq {bs : List Int} {r : Int} (hb : areB bs = true) (h0 : 0 ≤ r) (h1 : r < prod bs) : digsAt bs r = (digL bs r, true) := by
  unfold digsAt
  rw [if_pos ⟨hb, inR_iff.2 ⟨h0, by omega⟩⟩, dgo_digL hb bs.length r _ (Nat.le_refl _) (by simp) h0 (by rw [List.take_length]; exact h1)]
  rw [List.take_length, List.drop_of_length_le (by simp), List.append_nil]
theorem digsAt_none {bs : List Int} {r : Int} (h : ¬ (areB bs = true ∧ 0 ≤ r ∧ r < prod bs)) : digsAt bs r = ([], false) := by
  unfold digsAt
  rw [if_neg (fun c => h ⟨c.1, (inR_iff.1 c.2).1, by have := (inR_iff.1 c.2).2; omega⟩)]
theorem digL_digs {bs : List Int} (hb : areB bs = true) : ∀ r : Int, 0 ≤ r → r < prod bs → digs bs (digL bs r) = true := by
  induction bs with
  | nil => intro r _ _; rfl
  | cons b bs ih =>
    intro r h0 h1
    obtain ⟨hb1, hp1, hp2, hp3, hb2⟩ := areB_head hb
    have hm := mod_range (r := r) hp1
    have hd := div_range hp1 h0 (show r < b * prod bs from h1)
    simp only [digL, digs, Bool.and_eq_true, inR_iff]
    exact ⟨⟨hd.1, by omega⟩, ih hb2 _ hm.1 hm.2⟩
theorem digR_range {bs ds : List Int} (hb : areB bs = true) (hd : digs bs ds = true) : 0 ≤ digR bs ds ∧ digR bs ds < prod bs := by
  induction bs generalizing ds with
  | nil =>
    cases ds with
    | nil => exact ⟨Int.le_refl _, by decide⟩
    | cons d ds => simp [digs] at hd
  | cons b bs ih =>
    cases ds with
    | nil => simp [digs] at hd
    | cons d ds =>
      obtain ⟨hb1, hp1, hp2, hp3, hb2⟩ := areB_head hb
      simp only [digs, Bool.and_eq_true, inR_iff] at hd
      obtain ⟨i0, i1⟩ := ih hb2 hd.2
      have h0 : 0 ≤ d * prod bs := Int.mul_nonneg (by omega) (by omega)
      have h1 : (d + 1) * prod bs ≤ b * prod bs := Int.mul_le_mul_of_nonneg_right (by omega) (by omega)
      rw [Int.add_mul, Int.one_mul] at h1
      simp only [digR, prod]
      omega
theorem digL_digR {bs ds : List Int} (hb : areB bs = true) (hd : digs bs ds = true) : digL bs (digR bs ds) = ds := by
  induction bs generalizing ds with
  | nil =>
    cases ds with
    | nil => rfl
    | cons d ds => simp [digs] at hd
  | cons b bs ih =>
    cases ds with
    | nil => simp [digs] at hd
    | cons d ds =>
      obtain ⟨hb1, hp1, hp2, hp3, hb2⟩ := areB_head hb
      simp only [digs, Bool.and_eq_true, inR_iff] at hd
      obtain ⟨i0, i1⟩ := digR_range hb2 hd.2
      obtain ⟨e1, e2⟩ := div_of (d := d) (s := prod bs) (q := digR bs ds) hp1 i0 i1
      simp only [digR, digL, e1, e2, ih hb2 hd.2]
theorem digR_digL {bs : List Int} (hb : areB bs = true) : ∀ r : Int, 0 ≤ r → r < prod bs → digR bs (digL bs r) = r := by
  induction bs with
  | nil => intro r h0 h1; simp only [prod] at h1; simp only [digL, digR]; omega
  | cons b bs ih =>
    intro r h0 h1
    obtain ⟨hb1, hp1, hp2, hp3, hb2⟩ := areB_head hb
    have hm := mod_range (r := r) hp1
    have hdm := div_mod r (prod bs)
    simp only [digL, digR, ih hb2 _ hm.1 hm.2]
    exact hdm
theorem rkgo_digR {bs : List Int} (hb : areB bs = true) : ∀ (ds : List Int) (acc : Int), digs bs ds = true → 0 ≤ acc → (acc + 1) * prod bs ≤ 1000000 → rkgo acc bs ds = acc * prod bs + digR bs ds := by
  induction bs with
  | nil =>
    intro ds acc hd _ _
    cases ds with
    | nil => simp [rkgo, digR, prod]
    | cons d ds => simp [digs] at hd
  | cons b bs ih =>
    intro ds acc hd h0 h1
    cases ds with
    | nil => simp [digs] at hd
    | cons d ds =>
      obtain ⟨hb1, hp1, hp2, hp3, hb2⟩ := areB_head hb
      simp only [digs, Bool.and_eq_true, inR_iff] at hd
      simp only [prod] at h1 ⊢
      have g0 : 0 ≤ acc * b := Int.mul_nonneg h0 (by omega)
      have g1 : (acc * b + d + 1) * prod bs ≤ (acc + 1) * (b * prod bs) := by
        rw [← Int.mul_assoc]
        refine Int.mul_le_mul_of_nonneg_right ?_ (by omega)
        rw [Int.add_mul, Int.one_mul]; omega
      have g2 : (acc * b + d + 1) * 1 ≤ (acc * b + d + 1) * prod bs := Int.mul_le_mul_of_nonneg_left hp1 (by omega)
      simp only [rkgo]
      rw [w64 (x := acc * b) (by omega) (by omega), w64 (by omega) (by omega), ih hb2 ds _ hd.2 (by omega) (by omega)]
      simp only [digR]
      rw [Int.add_mul, Int.mul_assoc]; omega
theorem rkOf_eq {bs ds : List Int} (hb : areB bs = true) (hd : digs bs ds = true) : rkOf bs ds = (digR bs ds, true) := by
  unfold rkOf
  have := (areB_iff.1 hb).2.2
  rw [if_pos ⟨hb, hd⟩, rkgo_digR hb ds 0 hd (by omega) (by omega)]
  simp
def lexB : List Int → List Int → Bool
  | x :: a, y :: b => if x = y then lexB a b else decide (x < y)
  | _, _ => false
theorem digL_lex {bs : List Int} (hb : areB bs = true) : ∀ r r' : Int, 0 ≤ r → r < r' → r' < prod bs → lexB (digL bs r) (digL bs r') = true := by
  induction bs with
  | nil => intro r r' h0 h1 h2; simp only [prod] at h2; omega
  | cons b bs ih =>
    intro r r' h0 h1 h2
    obtain ⟨hb1, hp1, hp2, hp3, hb2⟩ := areB_head hb
    have e1 := div_mod r (prod bs)
    have e2 := div_mod r' (prod bs)
    have m1 := mod_range (r := r) hp1
    have m2 := mod_range (r := r') hp1
    have hle : r / prod bs ≤ r' / prod bs := Int.ediv_le_ediv (by omega) (by omega)
    simp only [digL, lexB]
    by_cases hq : r / prod bs = r' / prod bs
    · rw [if_pos hq]
      rw [hq] at e1
      exact ih hb2 _ _ m1.1 (by omega) m2.2
    · rw [if_neg hq]; exact decide_eq_true (by omega)

end Go.Proofs.Ytbibabekmpipdaa.Mth
