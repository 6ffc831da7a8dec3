/- Plain facts on a permutation's inverse and on the number of its inversions. No condition. -/
import Derived.Test.YtnhifbopicjicaaMthPermAt
set_option linter.unusedVariables false
set_option linter.unusedSimpArgs false
namespace Go.Proofs.Ytnhifbopicjicaa.Mth
open Go.RowKit Go.Proofs.YtnhifbopicjicaaW.PrintWords Go.Proofs.YtnhifbopicjicaaW.PrintLast

/-! ### Pairs, counted -/
abbrev IP := Int × Int
def cntB (f : IP → Bool) : List IP → Nat
  | [] => 0
  | v :: b => (if f v = true then 1 else 0) + cntB f b
def cnt2 (R : IP → IP → Bool) (b : List IP) : List IP → Nat
  | [] => 0
  | u :: a => cntB (R u) b + cnt2 R b a
theorem cntB_perm (f : IP → Bool) {a b : List IP} (h : a.Perm b) : cntB f a = cntB f b := by
  induction h with
  | nil => rfl
  | cons y _ ih => simp only [cntB, ih]
  | swap y z l => simp only [cntB]; omega
  | trans _ _ h1 h2 => exact h1.trans h2
theorem cntB_append (f : IP → Bool) (a b : List IP) : cntB f (a ++ b) = cntB f a + cntB f b := by
  induction a with
  | nil => simp [cntB]
  | cons u a ih => simp only [List.cons_append, cntB, ih]; omega
theorem cntB_none {f : IP → Bool} {a : List IP} (h : ∀ u ∈ a, f u = false) : cntB f a = 0 := by
  induction a with
  | nil => rfl
  | cons u a ih => rw [cntB, h u (by simp), ih (fun v hv => h v (by simp [hv]))]; simp
theorem cnt2_perm_l (R : IP → IP → Bool) (c : List IP) {a b : List IP} (h : a.Perm b) : cnt2 R c a = cnt2 R c b := by
  induction h with
  | nil => rfl
  | cons y _ ih => simp only [cnt2, ih]
  | swap y z l => simp only [cnt2]; omega
  | trans _ _ h1 h2 => exact h1.trans h2
theorem cnt2_perm_r (R : IP → IP → Bool) {b c : List IP} (h : b.Perm c) (a : List IP) : cnt2 R b a = cnt2 R c a := by
  induction a with
  | nil => rfl
  | cons u a ih => simp only [cnt2, ih, cntB_perm _ h]
theorem cnt2_append (R : IP → IP → Bool) (c a b : List IP) : cnt2 R c (a ++ b) = cnt2 R c a + cnt2 R c b := by
  induction a with
  | nil => simp [cnt2]
  | cons u a ih => simp only [List.cons_append, cnt2, ih]; omega
theorem cnt2_cons_r (R : IP → IP → Bool) (v : IP) (b a : List IP) : cnt2 R (v :: b) a = cntB (fun u => R u v) a + cnt2 R b a := by
  induction a with
  | nil => rfl
  | cons u a ih => simp only [cnt2, cntB, ih]; omega
theorem cnt2_nil_r (R : IP → IP → Bool) (a : List IP) : cnt2 R [] a = 0 := by
  induction a with
  | nil => rfl
  | cons u a ih => simp only [cnt2, cntB, ih]
theorem cnt2_flip (R : IP → IP → Bool) (b a : List IP) : cnt2 R b a = cnt2 (fun u v => R v u) a b := by
  induction b with
  | nil => rw [cnt2_nil_r]; rfl
  | cons v b ih => rw [cnt2_cons_r, ih]; rfl
/-- Pairs that stand the other way round. -/
def invR (u v : IP) : Bool := decide (u.1 < v.1) && decide (v.2 < u.2)
def gr : Int → List Int → List IP
  | _, [] => []
  | i, x :: r => (i, x) :: gr (i + 1) r
theorem gr_snoc (a : List Int) (x : Int) : ∀ i : Int, gr i (a ++ [x]) = gr i a ++ [(i + (a.length : Int), x)] := by
  induction a with
  | nil => intro i; simp [gr]
  | cons y r ih => intro i; simp only [List.cons_append, gr, ih, List.length_cons]; simp; omega
theorem gr_lt (a : List Int) : ∀ i : Int, ∀ u ∈ gr i a, i ≤ u.1 ∧ u.1 < i + (a.length : Int) := by
  induction a with
  | nil => intro i u hu; simp [gr] at hu
  | cons y r ih =>
    intro i u hu
    simp only [gr, List.mem_cons] at hu
    simp only [List.length_cons]
    rcases hu with rfl | hu
    · simp only; omega
    · have := ih _ u hu; omega
theorem sumZ_append (a b : List Int) : sumZ (a ++ b) = sumZ a + sumZ b := by
  induction a with
  | nil => simp [sumZ]
  | cons x a ih => simp only [List.cons_append, sumZ, ih]; omega
theorem cntGt_gr (x : Int) (a : List Int) : ∀ i n : Int, (∀ u ∈ gr i a, u.1 < n) → cntB (fun u => invR u (n, x)) (gr i a) = cntGt x a := by
  induction a with
  | nil => intro i n _; rw [cntGt_nil]; rfl
  | cons y r ih =>
    intro i n h
    have h0 := h (i, y) (by simp [gr])
    simp only [gr, cntB]
    rw [ih (i + 1) n (fun u hu => h u (by simp [gr, hu])), cntGt_cons]
    have : invR (i, y) (n, x) = decide (x < y) := by simp only [invR]; rw [decide_eq_true h0]; rfl
    rw [this]
    by_cases hc : x < y
    · rw [if_pos (decide_eq_true hc), if_pos hc]
    · rw [if_neg (by simpa using hc), if_neg hc]
theorem invs_gr (l : List Int) : sumZ (invF [] l) = (cnt2 invR (gr 0 l) (gr 0 l) : Nat) := by
  have key : ∀ (n : Nat) (l : List Int), l.length = n → sumZ (invF [] l) = (cnt2 invR (gr 0 l) (gr 0 l) : Nat) := by
    intro n
    induction n with
    | zero => intro l h; rw [List.eq_nil_of_length_eq_zero h]; rfl
    | succ n ih =>
      intro l h
      rcases List.eq_nil_or_concat l with rfl | ⟨a, x, rfl⟩
      · simp at h
      rw [List.concat_eq_append] at h ⊢
      have hal : a.length = n := by simpa using h
      have hlt : ∀ u ∈ gr 0 a, u.1 < (0 : Int) + (a.length : Int) := fun u hu => (gr_lt a 0 u hu).2
      have hp : (gr 0 a ++ [((0 : Int) + (a.length : Int), x)]).Perm (((0 : Int) + (a.length : Int), x) :: gr 0 a) := List.perm_append_singleton _ _
      have z1 : invR ((0 : Int) + (a.length : Int), x) ((0 : Int) + (a.length : Int), x) = false := by simp [invR]
      have z2 : cntB (invR ((0 : Int) + (a.length : Int), x)) (gr 0 a) = 0 := cntB_none (fun u hu => by
        have := hlt u hu
        simp only [invR, Bool.and_eq_false_iff, decide_eq_false_iff_not]
        left; omega)
      rw [invF_snoc, sumZ_append, ih a hal, gr_snoc, cnt2_perm_r _ hp, cnt2_perm_l _ _ hp, cnt2_cons_r]
      simp only [cntB, cnt2, z1, z2, cntGt_gr x a 0 _ hlt, List.nil_append, sumZ]
      simp; omega
  exact key _ l rfl

/-! ### The inverse -/
theorem setAll_far (l : List Int) : ∀ (out : List Int) (i : Nat) (j : Nat), (∀ x ∈ l, x.toNat ≠ j) → (setAll out i l).getD j 0 = out.getD j 0 := by
  induction l with
  | nil => intro out i j _; rfl
  | cons x r ih =>
    intro out i j h
    rw [setAll, ih _ _ _ (fun y hy => h y (by simp [hy]))]
    have := h x (by simp)
    simp [List.getD_eq_getElem?_getD, List.getElem?_set_ne this]
theorem setAll_at (l : List Int) : ∀ (out : List Int) (i : Nat), l.Nodup → (∀ x ∈ l, 0 ≤ x ∧ x.toNat < out.length) → ∀ k, (h : k < l.length) → (setAll out i l).getD (l[k]).toNat 0 = ((i + k : Nat) : Int) := by
  induction l with
  | nil => intro out i _ _ k h; simp at h
  | cons x r ih =>
    intro out i hn hx k hk
    rw [List.nodup_cons] at hn
    rw [setAll]
    cases k with
    | zero =>
      simp only [List.getElem_cons_zero]
      rw [setAll_far r _ _ _ (fun y hy he => by
        have h1 := hx x (by simp)
        have h2 := hx y (by simp [hy])
        have : x = y := by omega
        exact hn.1 (by rw [this]; exact hy))]
      have := (hx x (by simp)).2
      simp [List.getD_eq_getElem?_getD, List.getElem?_set_self this]
    | succ k =>
      simp only [List.length_cons] at hk
      simp only [List.getElem_cons_succ]
      rw [ih _ _ hn.2 (fun y hy => by rw [List.length_set]; exact hx y (by simp [hy])) k (by omega)]
      omega
def invL (l : List Int) : List Int := setAll (List.replicate l.length 0) 0 l
theorem invL_length (l : List Int) : (invL l).length = l.length := by simp [invL, setAll_length]
theorem invL_at {l : List Int} (h : isPermB l = true) (k : Nat) (hk : k < l.length) : (invL l).getD (l[k]).toNat 0 = (k : Int) := by
  obtain ⟨_, h1, h2⟩ := isPermB_iff'.1 h
  have := setAll_at l (List.replicate l.length 0) 0 h2 (fun x hx => by have := h1 x hx; simp; omega) k hk
  rw [Nat.zero_add] at this
  exact this
theorem list_as_map (q : List Int) : q = (idL q.length).map fun j => q.getD j.toNat 0 := by
  apply List.ext_getElem
  · simp [idL]
  · intro i h1 h2
    simp [idL, h1]
theorem gr_as_map (q : List Int) (i : Nat) : gr (i : Int) q = (List.range q.length).map fun j => (((i + j : Nat) : Int), q.getD j 0) := by
  induction q generalizing i with
  | nil => rfl
  | cons x r ih =>
    have := ih (i + 1)
    rw [gr, show ((i : Int) + 1) = ((i + 1 : Nat) : Int) by omega, this, List.length_cons, List.range_succ_eq_map, List.map_cons, List.map_map]
    congr 1
    apply List.map_congr_left
    intro j _
    simp; omega
theorem invL_map {l : List Int} (h : isPermB l = true) : l.map (fun x => (invL l).getD x.toNat 0) = idL l.length := by
  apply List.ext_getElem
  · simp [idL]
  · intro i h1 h2
    have := invL_at h i (by simpa using h1)
    simp only [List.getElem_map, idL, List.getElem_range]
    exact this
theorem invL_perm {l : List Int} (h : isPermB l = true) : isPermB (invL l) = true := by
  obtain ⟨h0, h1⟩ := isPermB_iff.1 h
  refine isPermB_iff.2 ⟨by rw [invL_length]; exact h0, ?_⟩
  have e := list_as_map (invL l)
  rw [invL_length] at e ⊢
  rw [← invL_map h]
  refine (List.Perm.of_eq e).trans ?_
  exact (h1.map _).symm
theorem invL_invL {l : List Int} (h : isPermB l = true) : invL (invL l) = l := by
  have h2 := invL_perm h
  apply List.ext_getElem
  · rw [invL_length, invL_length]
  · intro i h1 h3
    have ha := invL_at h i h3
    obtain ⟨_, hr, _⟩ := isPermB_iff'.1 h
    have hx := hr _ (List.getElem_mem h3)
    have hlt : (l[i]).toNat < (invL l).length := by rw [invL_length]; omega
    have hb := invL_at h2 (l[i]).toNat hlt
    rw [getD_of_lt hlt] at ha
    rw [ha, Int.toNat_natCast, getD_of_lt h1] at hb
    rw [hb]; omega
theorem gr_invL {l : List Int} (h : isPermB l = true) : (gr 0 (invL l)).Perm ((gr 0 l).map fun u => (u.2, u.1)) := by
  obtain ⟨h0, h1⟩ := isPermB_iff.1 h
  have e1 : gr 0 (invL l) = (List.range l.length).map fun (j : Nat) => ((j : Int), (invL l).getD j 0) := by
    have := gr_as_map (invL l) 0
    rw [invL_length] at this
    simpa using this
  have e2 : gr 0 l = (List.range l.length).map fun (j : Nat) => ((j : Int), l.getD j 0) := by
    have := gr_as_map l 0
    simpa using this
  have f1 : gr 0 (invL l) = (idL l.length).map fun j => (j, (invL l).getD j.toNat 0) := by
    rw [e1, idL, List.map_map]
    apply List.map_congr_left
    intro j _
    simp
  have f2 : ((gr 0 l).map fun u => (u.2, u.1)) = l.map fun x => (x, (invL l).getD x.toNat 0) := by
    rw [e2, List.map_map]
    apply List.ext_getElem
    · simp
    · intro i h1 h2
      have hi : i < l.length := by simpa using h1
      have ha := invL_at h i hi
      simp only [List.getElem_map, List.getElem_range, Function.comp, getD_of_lt hi, ha]
  rw [f1, f2]
  exact (h1.map _).symm
theorem cntB_map (g : IP → IP) (f : IP → Bool) (b : List IP) : cntB f (b.map g) = cntB (fun v => f (g v)) b := by
  induction b with
  | nil => rfl
  | cons v b ih => simp only [List.map_cons, cntB, ih]
theorem cnt2_map (g : IP → IP) (R : IP → IP → Bool) (b a : List IP) : cnt2 R (b.map g) (a.map g) = cnt2 (fun u v => R (g u) (g v)) b a := by
  induction a with
  | nil => rfl
  | cons u a ih => simp only [List.map_cons, cnt2, cntB_map, ih]
theorem invs_invL {l : List Int} (h : isPermB l = true) : sumZ (invF [] (invL l)) = sumZ (invF [] l) := by
  rw [invs_gr, invs_gr, cnt2_perm_r _ (gr_invL h), cnt2_perm_l _ _ (gr_invL h), cnt2_map]
  rw [cnt2_flip]
  congr 2
  funext u v
  simp only [invR]
  exact Bool.and_comm _ _

end Go.Proofs.Ytnhifbopicjicaa.Mth
