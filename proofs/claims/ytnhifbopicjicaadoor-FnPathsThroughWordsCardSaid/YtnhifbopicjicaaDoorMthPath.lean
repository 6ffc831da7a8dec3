/- Plain facts on paths through words: the first path that goes on, by trying and by a table of ends. No condition. -/
import Derived.Test.YtnhifbopicjicaaDoorMthCodeMore
import Derived.Test.YtnhifbopicjicaaDoorMthMoved
set_option linter.unusedVariables false
set_option linter.unusedSimpArgs false
namespace Go.Proofs.YtnhifbopicjicaaDoor.Mth
open Go.RowKit Go.Proofs.YtnhifbopicjicaaDoorW.PrintWords Go.Proofs.YtnhifbopicjicaaDoorW.PrintLast

/-! ### Words put in order -/
def putZ : List Int → Int → List Int
  | [], n => [n]
  | x :: r, n => if x < n then x :: putZ r n else if x = n then x :: r else n :: x :: r
theorem putZ_mem {l : List Int} {n y : Int} : y ∈ putZ l n ↔ y = n ∨ y ∈ l := by
  induction l with
  | nil => simp [putZ]
  | cons x r ih =>
    simp only [putZ]
    split
    · simp only [List.mem_cons, ih]
      constructor
      · rintro (h | h | h) <;> simp [h]
      · rintro (h | h | h) <;> simp [h]
    · split
      · rename_i h; subst h
        simp
      · simp
theorem putZ_lt {l : List Int} {n : Int} (h : l.Pairwise (· < ·)) : (putZ l n).Pairwise (· < ·) := by
  induction l with
  | nil => simp [putZ]
  | cons x r ih =>
    have h' := List.pairwise_cons.1 h
    simp only [putZ]
    split
    · refine List.pairwise_cons.2 ⟨fun y hy => ?_, ih h'.2⟩
      rcases putZ_mem.1 hy with rfl | hy
      · assumption
      · exact h'.1 y hy
    · split
      · exact h
      · refine List.pairwise_cons.2 ⟨fun y hy => ?_, h⟩
        rcases List.mem_cons.1 hy with rfl | hy
        · omega
        · have := h'.1 y hy; omega
theorem putZ_perm {l : List Int} {n : Int} (h : n ∉ l) : (putZ l n).Perm (l ++ [n]) := by
  induction l with
  | nil => simp [putZ]
  | cons x r ih =>
    simp only [List.mem_cons, not_or] at h
    simp only [putZ]
    split
    · exact (ih h.2).cons x
    · rw [if_neg (fun e => h.1 e.symm)]
      exact (List.perm_append_comm (l₁ := [n]) (l₂ := x :: r))
theorem putZ_len (l : List Int) (n : Int) : (putZ l n).length ≤ l.length + 1 := by
  induction l with
  | nil => simp [putZ]
  | cons x r ih =>
    simp only [putZ]
    split
    · simp only [List.length_cons]; omega
    · split <;> simp
theorem putZ_same {l : List Int} {n : Int} (h : l.Pairwise (· < ·)) (hm : n ∈ l) : putZ l n = l := by
  induction l with
  | nil => simp at hm
  | cons x r ih =>
    have h' := List.pairwise_cons.1 h
    simp only [putZ]
    rcases List.mem_cons.1 hm with rfl | hm
    · rw [if_neg (by omega), if_pos rfl]
    · have := h'.1 n hm
      rw [if_pos this, ih h'.2 hm]
def putA (l : List Int) : List Int := l.foldl putZ []
theorem putA_snoc (l : List Int) (x : Int) : putA (l ++ [x]) = putZ (putA l) x := by simp [putA, List.foldl_append]
theorem putA_all : ∀ (k : Nat) (l : List Int), l.length = k → (putA l).Pairwise (· < ·) ∧ (∀ y, y ∈ putA l ↔ y ∈ l) ∧ (putA l).length ≤ l.length ∧ (l.Nodup → (putA l).Perm l) ∧ (¬ l.Nodup → (putA l).length < l.length) := by
  intro k
  induction k with
  | zero =>
    intro l h
    obtain rfl := List.length_eq_zero_iff.1 h
    simp [putA]
  | succ k ih =>
    intro l h
    have hne : l ≠ [] := by intro e; subst e; simp at h
    obtain ⟨pre, x, rfl⟩ : ∃ pre x, l = pre ++ [x] := ⟨l.dropLast, l.getLast hne, (List.dropLast_concat_getLast hne).symm⟩
    obtain ⟨h1, h2, h3, h4, h5⟩ := ih pre (by simpa using h)
    rw [putA_snoc]
    refine ⟨putZ_lt h1, fun y => ?_, ?_, fun hn => ?_, fun hn => ?_⟩
    · rw [putZ_mem, h2 y]; simp [or_comm]
    · have := putZ_len (putA pre) x; simp only [List.length_append, List.length_singleton]; omega
    · have hn' := List.nodup_append.1 hn
      have hx : x ∉ putA pre := by
        rw [h2 x]; intro hc
        exact hn'.2.2 x hc x (by simp) rfl
      exact (putZ_perm hx).trans ((h4 hn'.1).append_right [x])
    · by_cases hx : x ∈ pre
      · rw [putZ_same h1 ((h2 x).2 hx)]; simp only [List.length_append, List.length_singleton]; omega
      · have hp : ¬ pre.Nodup := by
          intro hp
          apply hn
          rw [List.nodup_append]
          refine ⟨hp, by simp, fun a ha b hb => ?_⟩
          simp only [List.mem_singleton] at hb
          subst hb; intro e; subst e; exact hx ha
        have := h5 hp
        have := putZ_len (putA pre) x; simp only [List.length_append, List.length_singleton]; omega
theorem putA_sort {l : List Int} (h : l.Nodup) : putA l = sortZ l := by
  obtain ⟨h1, h2, h3, h4, h5⟩ := putA_all _ l rfl
  exact (sortZ_eq (h1.imp (fun h => by omega)) (h4 h).symm).symm
theorem putA_length {l : List Int} : (putA l).length = l.length ↔ l.Nodup := by
  obtain ⟨h1, h2, h3, h4, h5⟩ := putA_all _ l rfl
  constructor
  · intro h
    by_cases c : l.Nodup
    · exact c
    · have := h5 c; omega
  · intro h; exact (h4 h).length_eq

/-! ### The first path -/
def okl (last : Option Int) (w : Int) : Bool := match last with
  | none => true
  | some a => decide (0 ≤ dl a w)
def bst : Nat → Option Int → List Int → Option (List Int)
  | 0, _, _ => some []
  | f + 1, last, rem => rem.findSome? fun w => if okl last w = true then (bst f (some w) (rem.erase w)).map (w :: ·) else none
theorem bst_some {f : Nat} {last : Option Int} {rem s : List Int} (h : bst (f + 1) last rem = some s) : ∃ w t, w ∈ rem ∧ okl last w = true ∧ bst f (some w) (rem.erase w) = some t ∧ s = w :: t := by
  simp only [bst] at h
  obtain ⟨w, hw, h⟩ := List.exists_of_findSome?_eq_some h
  split at h
  · rename_i ho
    obtain ⟨t, ht, rfl⟩ := Option.map_eq_some_iff.1 h
    exact ⟨w, t, hw, ho, ht, rfl⟩
  · cases h
theorem bst_perm : ∀ {f : Nat} {last : Option Int} {rem s : List Int}, bst f last rem = some s → rem.length = f → s.Perm rem := by
  intro f
  induction f with
  | zero =>
    intro last rem s h hl
    simp only [bst, Option.some.injEq] at h
    subst h
    rw [List.length_eq_zero_iff.1 hl]
  | succ f ih =>
    intro last rem s h hl
    obtain ⟨w, t, hw, ho, ht, rfl⟩ := bst_some h
    have := ih ht (by rw [List.length_erase_of_mem hw]; omega)
    exact (this.cons w).trans (List.perm_cons_erase hw).symm
theorem bst_dlF : ∀ {f : Nat} {a : Int} {rem s : List Int}, bst f (some a) rem = some s → (dlF a s).isSome = true := by
  intro f
  induction f with
  | zero =>
    intro a rem s h
    simp only [bst, Option.some.injEq] at h
    subst h; rfl
  | succ f ih =>
    intro a rem s h
    obtain ⟨w, t, hw, ho, ht, rfl⟩ := bst_some h
    simp only [okl, decide_eq_true_eq] at ho
    simp only [dlF]
    rw [if_neg (by omega), Option.isSome_map]
    exact ih ht
theorem bst_dls {f : Nat} {rem s : List Int} (h : bst f none rem = some s) : (dls s).isSome = true := by
  cases f with
  | zero =>
    simp only [bst, Option.some.injEq] at h
    subst h; rfl
  | succ f =>
    obtain ⟨w, t, hw, ho, ht, rfl⟩ := bst_some h
    exact bst_dlF ht

/-! ### Halves -/
theorem pop_flip_table : ∀ i : Fin 10, ∀ p : Fin 1024, (popc 10 (p.1 ^^^ 2 ^ i.1) + popc 10 p.1) % 2 = 1 := by decide +kernel
theorem pop_flip {a b : Int} (ha : 0 ≤ a ∧ a < 1024) (hb : 0 ≤ b ∧ b < 1024) (h : ¬ dl a b < 0) : (popc 10 b.toNat + popc 10 a.toNat) % 2 = 1 := by
  have hx : a.toNat ^^^ b.toNat < 1024 := Nat.xor_lt_two_pow (n := 10) (by omega) (by omega)
  rcases bitOf_cases hx with h1 | ⟨i, hi, h1, h2⟩
  · unfold dl at h; omega
  · have := pop_flip_table ⟨i, hi⟩ ⟨a.toNat, by omega⟩
    simp only at this
    rw [← h2, ← Nat.xor_assoc, Nat.xor_self, Nat.zero_xor] at this
    exact this
theorem oddC_path : ∀ {l : List Int} {p : Int} {d : List Int}, (0 ≤ p ∧ p < 1024) → (∀ x ∈ l, 0 ≤ x ∧ x < 1024) → dlF p l = some d → 2 * oddC l + (l.length % 2) * (popc 10 p.toNat % 2) = l.length + (l.length % 2) * (1 - popc 10 p.toNat % 2) := by
  intro l
  induction l with
  | nil => intro p d _ _ _; simp [oddC]
  | cons x r ih =>
    intro p d hp hl h
    simp only [dlF] at h
    split at h
    · cases h
    · rename_i hd
      obtain ⟨e, he, rfl⟩ := Option.map_eq_some_iff.1 h
      have hx := hl x (by simp)
      have h1 := ih hx (fun y hy => hl y (by simp [hy])) he
      have h2 := pop_flip hp hx hd
      simp only [oddC, List.length_cons]
      generalize oddC r = o at h1 ⊢
      generalize r.length = n at h1 ⊢
      generalize popc 10 x.toNat = u at h1 h2 ⊢
      generalize popc 10 p.toNat = v at h2 ⊢
      rcases Nat.mod_two_eq_zero_or_one n with a | a <;> rcases Nat.mod_two_eq_zero_or_one u with b | b <;> rcases Nat.mod_two_eq_zero_or_one v with c | c <;> simp only [a, b, c, show (n + 1) % 2 = 1 - n % 2 by omega] at h1 ⊢ <;> omega
theorem oddC_near {l d : List Int} (hl : ∀ x ∈ l, 0 ≤ x ∧ x < 1024) (h : dls l = some d) : 2 * oddC l ≤ l.length + 1 ∧ l.length ≤ 2 * oddC l + 1 := by
  cases l with
  | nil => simp [oddC]
  | cons x r =>
    have h1 := oddC_path (hl x (by simp)) (fun y hy => hl y (by simp [hy])) h
    simp only [oddC, List.length_cons]
    generalize oddC r = o at h1 ⊢
    generalize r.length = n at h1 ⊢
    generalize popc 10 x.toNat = u at h1 ⊢
    rcases Nat.mod_two_eq_zero_or_one n with a | a <;> rcases Nat.mod_two_eq_zero_or_one u with b | b <;> simp only [a, b] at h1 ⊢ <;> omega
theorem oddC_perm {a b : List Int} (h : a.Perm b) : oddC a = oddC b := by
  induction h with
  | nil => rfl
  | cons x _ ih => simp only [oddC, ih]
  | swap x y l => simp only [oddC]; omega
  | trans _ _ h1 h2 => exact h1.trans h2

/-! ### Sets of words, told by bits -/
def remM (ws : List Int) (s : Nat) : List Int := ((List.range ws.length).filter fun i => s.testBit i).map fun i : Nat => rd ws (i : Int)
theorem rd_lt {ws : List Int} {i : Nat} (h : i < ws.length) : rd ws (i : Int) = ws[i] := by
  rw [rd_nat, List.getD_eq_getElem?_getD, List.getElem?_eq_getElem h]; rfl
theorem rd_inj {ws : List Int} (hn : ws.Nodup) {i j : Nat} (hi : i < ws.length) (hj : j < ws.length) (h : rd ws (i : Int) = rd ws (j : Int)) : i = j := by
  rw [rd_lt hi, rd_lt hj] at h
  exact (List.getElem_inj hn).1 h
theorem map_rd (ws : List Int) : (List.range ws.length).map (fun i : Nat => rd ws (i : Int)) = ws := by
  apply List.ext_getElem
  · simp
  · intro i h1 h2
    simp only [List.getElem_map, List.getElem_range]
    exact rd_lt h2
theorem remM_nodup {ws : List Int} (hn : ws.Nodup) (s : Nat) : (remM ws s).Nodup := by
  have h : (remM ws s).Sublist ((List.range ws.length).map (fun i : Nat => rd ws (i : Int))) := (List.filter_sublist).map _
  rw [map_rd] at h
  exact hn.sublist h
theorem remM_mem {ws : List Int} {s : Nat} {w : Int} : w ∈ remM ws s ↔ ∃ i, i < ws.length ∧ s.testBit i = true ∧ rd ws (i : Int) = w := by
  simp only [remM, List.mem_map, List.mem_filter, List.mem_range, and_assoc]
theorem remM_zero (ws : List Int) : remM ws 0 = [] := by simp [remM]
theorem remM_full (ws : List Int) : remM ws (2 ^ ws.length - 1) = ws := by
  unfold remM
  rw [List.filter_eq_self.2 (fun i hi => by rw [Nat.testBit_two_pow_sub_one]; simpa using hi)]
  exact map_rd ws
theorem remM_clr {ws : List Int} (hn : ws.Nodup) {s i : Nat} (hi : i < ws.length) (hb : s.testBit i = true) : remM ws (s ^^^ 2 ^ i) = (remM ws s).erase (rd ws (i : Int)) := by
  rw [(remM_nodup hn s).erase_eq_filter]
  unfold remM
  rw [List.filter_map, List.filter_filter]
  congr 1
  apply List.filter_congr
  intro j hj
  rw [Nat.testBit_xor, Nat.testBit_two_pow]
  simp only [Function.comp_apply]
  by_cases e : j = i
  · subst e; simp [hb]
  · have : rd ws (j : Int) ≠ rd ws (i : Int) := fun h => e (rd_inj hn (by simpa using hj) hi h)
    simp [this, Ne.symm e]
theorem remM_pos {ws : List Int} {s : Nat} (hs : s < 2 ^ ws.length) (h0 : s ≠ 0) : 0 < (remM ws s).length := by
  obtain ⟨i, hi⟩ := Nat.exists_testBit_of_ne_zero h0
  have hlt : i < ws.length := by
    rcases Nat.lt_or_ge i ws.length with h | h
    · exact h
    · rw [Nat.testBit_lt_two_pow (Nat.lt_of_lt_of_le hs (Nat.pow_le_pow_right (by decide) h))] at hi; cases hi
  have := remM_mem.2 ⟨i, hlt, hi, rfl⟩
  exact List.length_pos_of_mem this
theorem clr_lt {s i m : Nat} (hs : s < 2 ^ m) (hi : i < m) : s ^^^ 2 ^ i < 2 ^ m := Nat.xor_lt_two_pow hs (Nat.pow_lt_pow_right (by decide) hi)
theorem clr_lt_self {s i : Nat} (hb : s.testBit i = true) : s ^^^ 2 ^ i < s := by
  have h : (s ^^^ 2 ^ i).testBit i = false := by rw [Nat.testBit_xor, hb]; simp [Nat.testBit_two_pow]
  have := or_add h
  have e : (s ^^^ 2 ^ i) ||| 2 ^ i = s := by
    apply Nat.eq_of_testBit_eq
    intro j
    rw [Nat.testBit_or, Nat.testBit_xor, Nat.testBit_two_pow]
    by_cases c : i = j
    · subst c; simp [hb]
    · simp [c]
  rw [e] at this
  have := Nat.two_pow_pos i
  omega

/-! ### Ends -/
def can (ws : List Int) (s i : Nat) : Bool := s.testBit i && (bst ((remM ws s).length - 1) (some (rd ws (i : Int))) ((remM ws s).erase (rd ws (i : Int)))).isSome
theorem isSome_first {α β : Type} (g : α → Option β) (l : List α) : (l.findSome? g).isSome = l.any fun x => (g x).isSome := by
  induction l with
  | nil => rfl
  | cons x r ih =>
    simp only [List.findSome?_cons, List.any_cons]
    cases h : g x with
    | none => simp [ih]
    | some y => simp
theorem first_at {α β : Type} (p : Nat → Bool) (g : Nat → α) (h : α → Option β) (l : List Nat) : ((l.filter p).map g).findSome? h = (match l.find? (fun i => p i && (h (g i)).isSome) with | none => none | some i => h (g i)) := by
  induction l with
  | nil => rfl
  | cons x r ih =>
    cases hp : p x with
    | false => simp only [List.filter_cons, hp, Bool.false_eq_true, if_false, List.find?_cons, Bool.false_and, ih]
    | true =>
      simp only [List.filter_cons, hp, if_true, List.map_cons, List.findSome?_cons, List.find?_cons, Bool.true_and]
      cases e : h (g x) with
      | none => simp only [Option.isSome_none, ih]
      | some y => simp only [Option.isSome_some, e]
theorem can_step {ws : List Int} (hn : ws.Nodup) {s i : Nat} (hs : s < 2 ^ ws.length) (hi : i < ws.length) (hb : s.testBit i = true) :
    can ws s i = (decide (s ^^^ 2 ^ i = 0) || (List.range ws.length).any fun k => (s ^^^ 2 ^ i).testBit k && can ws (s ^^^ 2 ^ i) k && decide (0 ≤ dl (rd ws (i : Int)) (rd ws (k : Int)))) := by
  have hm : rd ws (i : Int) ∈ remM ws s := remM_mem.2 ⟨i, hi, hb, rfl⟩
  have hlen : (remM ws s).length - 1 = (remM ws (s ^^^ 2 ^ i)).length := by rw [remM_clr hn hi hb, List.length_erase_of_mem hm]
  have h1 : can ws s i = (bst (remM ws (s ^^^ 2 ^ i)).length (some (rd ws (i : Int))) (remM ws (s ^^^ 2 ^ i))).isSome := by
    unfold can
    rw [hb, hlen, remM_clr hn hi hb, Bool.true_and]
  rw [h1]
  clear h1 hlen hm
  generalize hr : s ^^^ 2 ^ i = r
  have hr2 : r < 2 ^ ws.length := by rw [← hr]; exact clr_lt hs hi
  by_cases h0 : r = 0
  · subst h0
    rw [remM_zero]
    rfl
  · have hp := remM_pos hr2 h0
    obtain ⟨f, hf⟩ : ∃ f, (remM ws r).length = f + 1 := ⟨(remM ws r).length - 1, by omega⟩
    rw [hf, bst, isSome_first, decide_eq_false h0, Bool.false_or]
    have h2 : ∀ k, k ∈ List.range ws.length → (r.testBit k && can ws r k && decide (0 ≤ dl (rd ws (i : Int)) (rd ws (k : Int)))) = (r.testBit k && (if okl (some (rd ws (i : Int))) (rd ws (k : Int)) = true then (bst f (some (rd ws (k : Int))) ((remM ws r).erase (rd ws (k : Int)))).map (rd ws (k : Int) :: ·) else none).isSome) := by
      intro k hk
      unfold can
      rw [hf, Nat.add_sub_cancel]
      cases r.testBit k with
      | false => rfl
      | true =>
        simp only [okl, decide_eq_true_eq, Bool.true_and]
        by_cases c : 0 ≤ dl (rd ws (i : Int)) (rd ws (k : Int))
        · rw [if_pos c, Option.isSome_map, decide_eq_true c, Bool.and_true]
        · rw [if_neg c, decide_eq_false c, Bool.and_false]; rfl
    have h3 : ∀ (l : List Nat) (p q : Nat → Bool), (∀ k ∈ l, p k = q k) → l.any p = l.any q := by
      intro l p q h
      induction l with
      | nil => rfl
      | cons x t ih => simp only [List.any_cons, h x (by simp), ih (fun k hk => h k (by simp [hk]))]
    have hany : ∀ g : Int → Bool, (remM ws r).any g = (List.range ws.length).any fun k => r.testBit k && g (rd ws (k : Int)) := by
      intro g
      unfold remM
      rw [List.any_map, List.any_filter]
      rfl
    rw [h3 _ _ _ h2, hany]
theorem bst_first {ws : List Int} {s f : Nat} (hf : (remM ws s).length = f + 1) (last : Option Int) :
    bst (f + 1) last (remM ws s) = (match (List.range ws.length).find? (fun i => can ws s i && okl last (rd ws (i : Int))) with
      | none => none
      | some i => (bst f (some (rd ws (i : Int))) ((remM ws s).erase (rd ws (i : Int)))).map (rd ws (i : Int) :: ·)) := by
  rw [bst]
  generalize hR : remM ws s = R
  conv => lhs; arg 2; rw [← hR]
  unfold remM
  rw [first_at]
  have h2 : (fun i : Nat => s.testBit i && (if okl last (rd ws (i : Int)) = true then (bst f (some (rd ws (i : Int))) (R.erase (rd ws (i : Int)))).map (rd ws (i : Int) :: ·) else none).isSome) = (fun i => can ws s i && okl last (rd ws (i : Int))) := by
    funext i
    unfold can
    rw [hf, Nat.add_sub_cancel, hR]
    cases s.testBit i with
    | false => rfl
    | true =>
      simp only [Bool.true_and]
      by_cases c : okl last (rd ws (i : Int)) = true
      · rw [if_pos c, Option.isSome_map, c, Bool.and_true]
      · rw [if_neg c]
        simp only [Bool.not_eq_true] at c
        rw [c, Bool.and_false]; rfl
  rw [h2]
  cases h : (List.range ws.length).find? (fun i => can ws s i && okl last (rd ws (i : Int))) with
  | none => rfl
  | some i =>
    have := List.find?_some h
    simp only [Bool.and_eq_true] at this
    simp only [this.2, if_true]
def en (ws : List Int) (s : Nat) : Nat → Nat
  | 0 => 0
  | t + 1 => en ws s t ||| (if can ws s t = true then 2 ^ t else 0)
theorem en_lt (ws : List Int) (s t : Nat) : en ws s t < 2 ^ t := by
  induction t with
  | zero => simp [en]
  | succ t ih =>
    rw [en]
    have h1 : 2 ^ t < 2 ^ (t + 1) := Nat.pow_lt_pow_right (by decide) (by omega)
    refine Nat.or_lt_two_pow (by omega) ?_
    split
    · exact h1
    · exact Nat.two_pow_pos _
theorem en_bit (ws : List Int) (s t j : Nat) : (en ws s t).testBit j = (decide (j < t) && can ws s j) := by
  induction t with
  | zero => simp [en]
  | succ t ih =>
    rw [en, Nat.testBit_or, ih]
    by_cases c : can ws s t = true
    · rw [if_pos c, Nat.testBit_two_pow]
      by_cases e : t = j
      · subst e; simp [c]
      · have : (decide (j < t + 1)) = decide (j < t) := by rw [decide_eq_decide]; omega
        rw [this]; simp [e]
    · rw [if_neg c, Nat.zero_testBit, Bool.or_false]
      by_cases e : t = j
      · subst e
        simp only [Bool.not_eq_true] at c
        simp [c]
      · have : (decide (j < t + 1)) = decide (j < t) := by rw [decide_eq_decide]; omega
        rw [this]
def ppP (n : Int) (l : List Int) : List Int × Bool := if areW n l = true ∧ inR (l.length : Int) 1 12 = true ∧ l.Nodup then (match bst l.length none (sortZ l) with | some s => (s, true) | none => ([], false)) else ([], false)
theorem ppP_len (n : Int) (l : List Int) : (ppP n l).1.length ≤ 12 := by
  unfold ppP
  split
  · rename_i h
    cases hb : bst l.length none (sortZ l) with
    | none => simp
    | some s =>
      have := (bst_perm hb (sortZ_length l)).length_eq
      rw [sortZ_length] at this
      have h2 := inR_iff.1 h.2.1
      simp only; omega
  · simp
theorem bst_halves {l s : List Int} (hr : ∀ x ∈ l, 0 ≤ x ∧ x < 1024) (h : bst l.length none (sortZ l) = some s) : 2 * oddC l ≤ l.length + 1 ∧ l.length ≤ 2 * oddC l + 1 := by
  have hp := (bst_perm h (sortZ_length l)).trans (sortZ_perm l)
  obtain ⟨d, hd⟩ := Option.isSome_iff_exists.1 (bst_dls h)
  have := oddC_near (fun x hx => hr x (hp.mem_iff.1 hx)) hd
  rw [oddC_perm hp, hp.length_eq] at this
  exact this

end Go.Proofs.YtnhifbopicjicaaDoor.Mth
