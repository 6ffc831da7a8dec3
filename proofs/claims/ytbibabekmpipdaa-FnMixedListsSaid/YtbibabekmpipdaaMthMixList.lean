/- Plain facts on lists of digits with small changes: two ways to tell that all are there. No condition. -/
import Derived.Test.YtbibabekmpipdaaMthDigL
import Derived.Test.YtbibabekmpipdaaMthCodeMore
set_option linter.unusedVariables false
set_option linter.unusedSimpArgs false
namespace Go.Proofs.Ytbibabekmpipdaa.Mth
open Go.RowKit Go.Proofs.YtbibabekmpipdaaW.PrintWords Go.Proofs.YtbibabekmpipdaaW.PrintLast

def adZ (x y : Int) : Int := if x ≤ y then y - x else x - y
def chg : List Int → List Int → Int
  | x :: a, y :: b => adZ x y + chg a b
  | _, _ => 0
theorem adZ_pos (x y : Int) : 0 ≤ adZ x y := by unfold adZ; split <;> omega
theorem chg_pos (a : List Int) : ∀ b : List Int, 0 ≤ chg a b := by
  induction a with
  | nil => intro b; exact Int.le_refl _
  | cons x a ih =>
    intro b
    cases b with
    | nil => exact Int.le_refl _
    | cons y b => have := ih b; have := adZ_pos x y; simp only [chg]; omega
theorem chg_zero {a : List Int} : ∀ {b : List Int}, a.length = b.length → (chg a b = 0 ↔ a = b) := by
  induction a with
  | nil => intro b h; cases b with
    | nil => simp [chg]
    | cons y b => simp at h
  | cons x a ih =>
    intro b h
    cases b with
    | nil => simp at h
    | cons y b =>
      have h1 := ih (b := b) (by simpa using h)
      have h2 := chg_pos a b
      have h3 := adZ_pos x y
      simp only [chg, List.cons.injEq]
      constructor
      · intro h4
        have h5 : adZ x y = 0 := by omega
        refine ⟨?_, h1.1 (by omega)⟩
        unfold adZ at h5
        split at h5 <;> omega
      · rintro ⟨rfl, h4⟩
        rw [h1.2 h4]
        unfold adZ; simp
/-- The reference's walk through two lists: the index of their only difference, if it is one of 1. -/
def gsF : Int → Int → List Int → List Int → Int
  | p, i, x :: a, y :: b => if x = y then gsF p (i + 1) a b else if p ≥ 0 ∨ adZ x y ≠ 1 then -1 else gsF i (i + 1) a b
  | p, _, _, _ => p
theorem gsF_on {a : List Int} : ∀ {b : List Int} {p i : Int}, a.length = b.length → 0 ≤ p → (0 ≤ gsF p i a b ↔ a = b) := by
  induction a with
  | nil => intro b p i h hp; cases b with
    | nil => simp [gsF, hp]
    | cons y b => simp at h
  | cons x a ih =>
    intro b p i h hp
    cases b with
    | nil => simp at h
    | cons y b =>
      simp only [gsF, List.cons.injEq]
      by_cases e : x = y
      · rw [if_pos e]
        rw [ih (by simpa using h) hp]
        simp [e]
      · rw [if_neg e, if_pos (.inl hp)]
        simp [e]
theorem gsF_one {a : List Int} : ∀ {b : List Int} {i : Int}, a.length = b.length → 0 ≤ i → (0 ≤ gsF (-1) i a b ↔ chg a b = 1) := by
  induction a with
  | nil => intro b i h hi; cases b with
    | nil => simp [gsF, chg]
    | cons y b => simp at h
  | cons x a ih =>
    intro b i h hi
    cases b with
    | nil => simp at h
    | cons y b =>
      have hl : a.length = b.length := by simpa using h
      simp only [gsF, chg]
      by_cases e : x = y
      · rw [if_pos e, ih hl (by omega)]
        have : adZ x y = 0 := by unfold adZ; rw [if_pos (by omega)]; omega
        omega
      · rw [if_neg e]
        have h3 : 1 ≤ adZ x y := by unfold adZ; split <;> omega
        by_cases e1 : adZ x y = 1
        · rw [if_neg (by omega), gsF_on hl hi, ← chg_zero hl]
          omega
        · rw [if_pos (.inr e1)]
          have := chg_pos a b
          omega
def nextB (p : Option (List Int)) (l : List Int) : Bool := match p with
  | none => true
  | some q => decide (chg l q = 1)
/-- All are digits, neighbours are near. -/
def okT (bs : List Int) : Option (List Int) → List (List Int) → Bool
  | _, [] => true
  | p, l :: r => digs bs l && (nextB p l && okT bs (some l) r)
/-- .. and none has an index among S or comes twice. -/
def okS (bs : List Int) : Option (List Int) → List Int → List (List Int) → Bool
  | _, _, [] => true
  | p, S, l :: r => digs bs l && (!S.contains (mixR bs l) && (nextB p l && okS bs (some l) (mixR bs l :: S) r))
theorem okT_digs {bs : List Int} : ∀ {ls : List (List Int)} {p : Option (List Int)}, okT bs p ls = true → ∀ l ∈ ls, digs bs l = true := by
  intro ls
  induction ls with
  | nil => intro p _ l hl; simp at hl
  | cons x r ih =>
    intro p h l hl
    simp only [okT, Bool.and_eq_true] at h
    rcases List.mem_cons.1 hl with rfl | hl
    · exact h.1
    · exact ih h.2.2 l hl
theorem okS_iff {bs : List Int} : ∀ {ls : List (List Int)} {p : Option (List Int)} {S : List Int}, okS bs p S ls = true ↔ okT bs p ls = true ∧ (ls.map (mixR bs)).Nodup ∧ ∀ l ∈ ls, mixR bs l ∉ S := by
  intro ls
  induction ls with
  | nil => intro p S; simp [okS, okT]
  | cons x r ih =>
    intro p S
    simp only [okS, okT, Bool.and_eq_true, ih, List.map_cons, List.nodup_cons, List.mem_cons, Bool.not_eq_true', List.contains_eq_mem, decide_eq_false_iff_not, List.mem_map]
    constructor
    · rintro ⟨h1, h2, h3, h4, h5, h6⟩
      refine ⟨⟨h1, h3, h4⟩, ⟨?_, h5⟩, ?_⟩
      · rintro ⟨l, hl, he⟩
        exact h6 l hl (.inl he)
      · rintro l (rfl | hl)
        · exact h2
        · exact fun hm => h6 l hl (.inr hm)
    · rintro ⟨⟨h1, h3, h4⟩, ⟨h5, h6⟩, h7⟩
      refine ⟨h1, h7 x (.inl rfl), h3, h4, h6, ?_⟩
      rintro l hl (he | hm)
      · exact h5 ⟨l, hl, he⟩
      · exact h7 l (.inr hl) hm
theorem perm_of_sub : ∀ {A L : List Int}, A.Nodup → (∀ x ∈ A, x ∈ L) → ∃ r, L.Perm (A ++ r) := by
  intro A
  induction A with
  | nil => intro L _ _; exact ⟨L, List.Perm.refl _⟩
  | cons a A ih =>
    intro L hn h
    have hn' := List.nodup_cons.1 hn
    have ha := h a (by simp)
    obtain ⟨r, hr⟩ := ih (L := L.erase a) hn'.2 (fun x hx => by
      have hne : x ≠ a := by intro e; subst e; exact hn'.1 hx
      exact (List.mem_erase_of_ne hne).2 (h x (by simp [hx])))
    exact ⟨r, (List.perm_cons_erase ha).trans (hr.cons a)⟩
theorem nodup_of_all {L : List Int} {N : Nat} (hl : L.length = N) (h : ∀ j : Nat, j < N → (j : Int) ∈ L) : L.Nodup := by
  obtain ⟨r, hr⟩ := perm_of_sub (A := idL N) (L := L) (nodup_of_lt (idL_lt N)) (fun x hx => by
    have := idL_mem.1 hx
    have h1 := h x.toNat (by omega)
    rwa [show ((x.toNat : Nat) : Int) = x by omega] at h1)
  have := hr.length_eq
  rw [List.length_append, idL_length] at this
  have h0 : r = [] := List.length_eq_zero_iff.1 (by omega)
  subst h0
  rw [List.append_nil] at hr
  exact hr.nodup_iff.2 (nodup_of_lt (idL_lt N))
theorem nodup_inj {f g : List Int → Int} {ls : List (List Int)} (h : ∀ a ∈ ls, ∀ b ∈ ls, f a = f b → g a = g b) : (ls.map g).Nodup → (ls.map f).Nodup := by
  induction ls with
  | nil => intro _; simp
  | cons x r ih =>
    simp only [List.map_cons, List.nodup_cons, List.mem_map]
    rintro ⟨h1, h2⟩
    refine ⟨?_, ih (fun a ha b hb => h a (by simp [ha]) b (by simp [hb])) h2⟩
    rintro ⟨y, hy, he⟩
    exact h1 ⟨y, hy, h y (by simp [hy]) x (by simp) he⟩
/-- The two ways are one. -/
theorem ok_same {bs : List Int} (hb : areB bs = true) {ls : List (List Int)} (hl : (ls.length : Int) = prod bs) :
    okS bs none [] ls = (okT bs none ls && decide (∀ j : Nat, j < ls.length → (j : Int) ∈ ls.map (digR bs))) := by
  rw [Bool.eq_iff_iff, okS_iff, Bool.and_eq_true, decide_eq_true_eq]
  constructor
  · rintro ⟨h1, h2, _⟩
    refine ⟨h1, fun j hj => ?_⟩
    have hd := okT_digs h1
    have hn : (ls.map (digR bs)).Nodup := nodup_inj (f := digR bs) (g := mixR bs) (fun a ha b hb' he => by
      have e1 := digL_digR hb (hd a ha)
      have e2 := digL_digR hb (hd b hb')
      rw [he, e2] at e1
      rw [e1]) h2
    refine holds_all (N := ls.length) hn ?_ (by simp) (by omega) (by omega)
    intro x hx
    obtain ⟨l, hm, rfl⟩ := List.mem_map.1 hx
    have := digR_range hb (hd l hm)
    omega
  · rintro ⟨h1, h2⟩
    refine ⟨h1, ?_, by simp⟩
    have hd := okT_digs h1
    have hn : (ls.map (digR bs)).Nodup := nodup_of_all (N := ls.length) (by simp) h2
    exact nodup_inj (f := mixR bs) (g := digR bs) (fun a ha b hb' he => by
      have e1 := mixL_mixR hb (hd a ha)
      have e2 := mixL_mixR hb (hd b hb')
      rw [he, e2] at e1
      rw [e1]) hn
def imP (bs : List Int) (ls : List (List Int)) : Bool × Bool := if areB bs = true ∧ (ls.length : Int) ≤ 1100 then (if (ls.length : Int) = prod bs then (okS bs none [] ls, true) else (false, true)) else (false, false)

end Go.Proofs.Ytbibabekmpipdaa.Mth
