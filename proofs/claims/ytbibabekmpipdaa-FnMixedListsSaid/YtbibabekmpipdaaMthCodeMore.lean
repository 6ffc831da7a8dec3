/- Plain facts on codes: from the changes back to the words, how many changes there are, and that a code holds every word. No condition. -/
import Derived.Test.YtbibabekmpipdaaMthDeltas
set_option linter.unusedVariables false
set_option linter.unusedSimpArgs false
namespace Go.Proofs.Ytbibabekmpipdaa.Mth
open Go.RowKit Go.Proofs.YtbibabekmpipdaaW.PrintWords Go.Proofs.YtbibabekmpipdaaW.PrintLast

theorem xor_shl {a b : Int} (ha : 0 ≤ a ∧ a < 1024) (hb : 0 ≤ b ∧ b < 1024) (h : 0 ≤ dl a b) : Go.bits .xor .i64 a (shl .i64 1 (dl a b)) = b := by
  obtain ⟨a, rfl⟩ := Int.eq_ofNat_of_zero_le ha.1
  obtain ⟨b, rfl⟩ := Int.eq_ofNat_of_zero_le hb.1
  have hx : a ^^^ b < 1024 := Nat.xor_lt_two_pow (n := 10) (by omega) (by omega)
  unfold dl at h ⊢
  simp only [Int.toNat_natCast] at h ⊢
  rcases bitOf_cases hx with h1 | ⟨i, hi, h1, h2⟩
  · rw [h1.1] at h; omega
  · rw [h1, shl_one' (by omega), ← h2, xor_nat (by omega) (by omega), ← Nat.xor_assoc, Nat.xor_self, Nat.zero_xor]
theorem scan_dlF {l d : List Int} : ∀ {p : Int}, 0 ≤ p ∧ p < 1024 → (∀ x ∈ l, 0 ≤ x ∧ x < 1024) → dlF p l = some d → scanX p d = l := by
  induction l generalizing d with
  | nil => intro p _ _ h; simp only [dlF, Option.some.injEq] at h; subst h; rfl
  | cons w r ih =>
    intro p hp hl h
    have hw := hl w (by simp)
    simp only [dlF] at h
    split at h
    · cases h
    · rename_i hd
      obtain ⟨e, he, rfl⟩ := Option.map_eq_some_iff.1 h
      simp only [scanX]
      rw [xor_shl hp hw (by omega), ih hw (fun y hy => hl y (by simp [hy])) he]
def sumI : List Int → Int
  | [] => 0
  | x :: r => x + sumI r
theorem sumI_append (a b : List Int) : sumI (a ++ b) = sumI a + sumI b := by
  induction a with
  | nil => simp [sumI]
  | cons x a ih => simp only [List.cons_append, sumI, ih]; omega
theorem sumI_range (l : List Int) (B : Nat) (h : ∀ x ∈ l, 0 ≤ x ∧ x ≤ B) : 0 ≤ sumI l ∧ sumI l ≤ (l.length * B : Nat) := by
  induction l with
  | nil => simp [sumI]
  | cons x r ih =>
    have h1 := h x (by simp)
    have h2 := ih (fun y hy => h y (by simp [hy]))
    simp only [sumI, List.length_cons, Nat.add_mul, Nat.one_mul]
    omega
theorem sum_one (q : Nat) : ∀ m : Nat, q < m → sumI ((List.range m).map fun i => if q = i then (1 : Int) else 0) = 1 := by
  have z : ∀ m : Nat, m ≤ q → sumI ((List.range m).map fun i => if q = i then (1 : Int) else 0) = 0 := by
    intro m
    induction m with
    | zero => intro _; rfl
    | succ m ih =>
      intro h
      rw [List.range_succ, List.map_append, sumI_append, ih (by omega)]
      simp only [List.map_cons, List.map_nil, sumI]
      rw [if_neg (by omega)]; rfl
  intro m
  induction m with
  | zero => intro h; omega
  | succ m ih =>
    intro h
    rw [List.range_succ, List.map_append, sumI_append]
    simp only [List.map_cons, List.map_nil, sumI]
    by_cases e : q = m
    · rw [z m (by omega), if_pos e]; rfl
    · rw [ih (by omega), if_neg e]; rfl
theorem sumI_add (f g : Nat → Int) (l : List Nat) : sumI (l.map fun i => f i + g i) = sumI (l.map f) + sumI (l.map g) := by
  induction l with
  | nil => rfl
  | cons x r ih => simp only [List.map_cons, sumI, ih]; omega
theorem sumI_cnts {m : Nat} {d : List Int} (h : ∀ x ∈ d, 0 ≤ x ∧ x < m) : sumI (cnts m d) = d.length := by
  induction d with
  | nil =>
    unfold cnts
    have : ∀ l : List Nat, sumI (l.map fun i => (([] : List Int).count ((i : Nat) : Int) : Int)) = 0 := by
      intro l
      induction l with
      | nil => rfl
      | cons x r ih => simp only [List.map_cons, sumI, ih]; simp
    rw [this]; rfl
  | cons x d ih =>
    have hx := h x (by simp)
    obtain ⟨q, rfl⟩ := Int.eq_ofNat_of_zero_le hx.1
    have e : cnts m ((q : Int) :: d) = (List.range m).map fun i => ((d.count ((i : Nat) : Int) : Int) + if q = i then (1 : Int) else 0) := by
      unfold cnts
      refine List.map_congr_left (fun i _ => ?_)
      rw [List.count_cons]
      by_cases c : q = i
      · subst c; simp
      · have : ((q : Int) == (i : Int)) = false := by simp; omega
        rw [this, if_neg c]; simp
    rw [e, sumI_add, sum_one q m (by omega)]
    have := ih (fun y hy => h y (by simp [hy]))
    unfold cnts at this
    rw [this]; simp
theorem nodup_len {l : List Int} {N : Nat} (hn : l.Nodup) (h : ∀ x ∈ l, 0 ≤ x ∧ x < N) : l.length ≤ N := by
  have h1 : incr (sortZ l) = true := by rw [incr_sortZ]; exact decide_eq_true hn
  have h2 : allIn (sortZ l) 0 ((N : Int) - 1) = true := allIn_iff.2 (fun x hx => by
    have := h x ((sortZ_perm l).mem_iff.1 hx)
    omega)
  have := incr_len h1 h2 (by omega)
  rw [sortZ_length] at this
  omega
theorem holds_all {l : List Int} {N : Nat} (hn : l.Nodup) (h : ∀ x ∈ l, 0 ≤ x ∧ x < N) (hl : l.length = N) {x : Int} (h0 : 0 ≤ x) (h1 : x < N) : x ∈ l := by
  by_cases c : x ∈ l
  · exact c
  · have := nodup_len (l := x :: l) (N := N) (List.nodup_cons.2 ⟨c, hn⟩) (fun y hy => by
      rcases List.mem_cons.1 hy with rfl | hy
      · exact ⟨h0, h1⟩
      · exact h y hy)
    simp only [List.length_cons] at this
    omega

end Go.Proofs.Ytbibabekmpipdaa.Mth
