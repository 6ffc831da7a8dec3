/- Plain facts on runs: no run is longer than the code has bits, and none is of one word. No condition. -/
import Derived.Test.YtnhifbopicjicaaDoorMthRuns
import Derived.Test.YtnhifbopicjicaaDoorMthCodeMore
set_option linter.unusedVariables false
set_option linter.unusedSimpArgs false
namespace Go.Proofs.YtnhifbopicjicaaDoor.Mth
open Go.RowKit Go.Proofs.YtnhifbopicjicaaDoorW.PrintWords Go.Proofs.YtnhifbopicjicaaDoorW.PrintLast

theorem lst_le {d : List Int} {i : Nat} : ∀ f k j : Nat, k ≤ j → j ≤ k + f → rd d (((i + j) % d.length : Nat) : Int) = rd d (i : Int) → lst d i f k ≤ j := by
  intro f
  induction f with
  | zero => intro k j h1 h2 _; exact h1
  | succ f ih =>
    intro k j h1 h2 h
    simp only [lst]
    split
    · exact h1
    · rename_i hc
      have hkj : k ≠ j := by intro e; subst e; exact hc h
      exact ih (k + 1) j (by omega) (by omega) h
theorem lrF_le (d : List Int) : ∀ c i b : Nat, lrF d c i b ≤ b ∧ ∀ j, i ≤ j → j < i + c → lrF d c i b ≤ lst d j (d.length - 1) 1 := by
  intro c
  induction c with
  | zero => intro i b; exact ⟨Nat.le_refl _, fun j h1 h2 => by omega⟩
  | succ c ih =>
    intro i b
    obtain ⟨h1, h2⟩ := ih (i + 1) (min b (lst d i (d.length - 1) 1))
    simp only [lrF]
    refine ⟨Nat.le_trans h1 (Nat.min_le_left _ _), fun j h3 h4 => ?_⟩
    by_cases e : i = j
    · subst e; exact Nat.le_trans h1 (Nat.min_le_right _ _)
    · exact h2 j (by omega) (by omega)
theorem le_lrF {d : List Int} {m : Nat} : ∀ c i b : Nat, m ≤ b → (∀ j, i ≤ j → j < i + c → m ≤ lst d j (d.length - 1) 1) → m ≤ lrF d c i b := by
  intro c
  induction c with
  | zero => intro i b h _; exact h
  | succ c ih =>
    intro i b h1 h2
    simp only [lrF]
    exact ih (i + 1) _ (Nat.le_min.2 ⟨h1, h2 i (Nat.le_refl _) (by omega)⟩) (fun j h3 h4 => h2 j (by omega) (by omega))
theorem rd_cons (x : Int) (l : List Int) (i : Nat) : rd (x :: l) ((i + 1 : Nat) : Int) = rd l (i : Int) := by
  rw [rd_nat, rd_nat]; simp
theorem dlF_at : ∀ {l d : List Int} {p : Int}, dlF p l = some d → ∀ i, i < l.length → rd d (i : Int) = dl (rd (p :: l) (i : Int)) (rd (p :: l) ((i + 1 : Nat) : Int)) ∧ 0 ≤ rd d (i : Int) := by
  intro l
  induction l with
  | nil => intro d p _ i hi; simp at hi
  | cons w r ih =>
    intro d p h i hi
    simp only [dlF] at h
    split at h
    · cases h
    · rename_i hd
      obtain ⟨e, he, rfl⟩ := Option.map_eq_some_iff.1 h
      cases i with
      | zero =>
        have e0 : rd (dl p w :: e) ((0 : Nat) : Int) = dl p w := rfl
        have e1 : rd (p :: w :: r) ((0 : Nat) : Int) = p := rfl
        have e2 : rd (p :: w :: r) ((0 + 1 : Nat) : Int) = w := rfl
        rw [e0, e1, e2]
        exact ⟨rfl, by omega⟩
      | succ i =>
        have := ih he i (by simpa using hi)
        rw [rd_cons, rd_cons, rd_cons p (w :: r) (i + 1)]
        exact this
theorem dls_at {l d : List Int} (h : dls l = some d) {i : Nat} (hi : i + 1 < l.length) : rd d (i : Int) = dl (rd l (i : Int)) (rd l ((i + 1 : Nat) : Int)) ∧ 0 ≤ rd d (i : Int) := by
  cases l with
  | nil => simp at hi
  | cons w r => exact dlF_at h i (by simpa using hi)
theorem dl_comm (a b : Int) : dl a b = dl b a := by unfold dl; rw [Nat.xor_comm]
theorem back_again {x y z : Int} (hx : 0 ≤ x ∧ x < 1024) (hy : 0 ≤ y ∧ y < 1024) (hz : 0 ≤ z ∧ z < 1024) (h0 : 0 ≤ dl x y) (h : dl x y = dl y z) : x = z := by
  have h1 := xor_shl hy hz (by omega)
  have h2 := xor_shl hy hx (by rw [dl_comm]; exact h0)
  rw [dl_comm y x, h, h1] at h2
  exact h2.symm
theorem rd_left {a b : List Int} {i : Nat} (h : i < a.length) : rd (a ++ b) (i : Int) = rd a (i : Int) := by
  rw [rd_nat, rd_nat, List.getD_eq_getElem?_getD, List.getD_eq_getElem?_getD, List.getElem?_append_left h]
theorem rd_end (a : List Int) (x : Int) : rd (a ++ [x]) (a.length : Int) = x := rd_at a x []
theorem rd_eq_inj {ws : List Int} (hn : ws.Nodup) {i j : Nat} (hi : i < ws.length) (hj : j < ws.length) (h : rd ws (i : Int) = rd ws (j : Int)) : i = j := by
  rw [rd_nat, rd_nat, List.getD_eq_getElem?_getD, List.getD_eq_getElem?_getD, List.getElem?_eq_getElem hi, List.getElem?_eq_getElem hj] at h
  exact (List.getElem_inj hn).1 h
/-- What the changes round a code are. -/
theorem ring_at {l d : List Int} (hd : dls (l ++ [rd l 0]) = some d) {i : Nat} (hi : i < l.length) : rd d (i : Int) = dl (rd l (i : Int)) (rd l (((i + 1) % l.length : Nat) : Int)) ∧ 0 ≤ rd d (i : Int) := by
  have h := dls_at hd (i := i) (by simp; omega)
  rw [rd_left hi] at h
  by_cases c : i + 1 < l.length
  · rw [rd_left c] at h
    rw [Nat.mod_eq_of_lt c]
    exact h
  · have e : i + 1 = l.length := by omega
    rw [e, rd_end] at h
    rw [e, Nat.mod_self]
    exact h
/-- No change comes twice, one behind the other. -/
theorem ring_two {l d : List Int} (hn : l.Nodup) (hr : ∀ x ∈ l, 0 ≤ x ∧ x < 1024) (h3 : 3 ≤ l.length) (hd : dls (l ++ [rd l 0]) = some d) {i : Nat} (hi : i < l.length) : rd d (((i + 1) % l.length : Nat) : Int) ≠ rd d (i : Int) := by
  intro he
  have hq : (i + 1) % l.length < l.length := Nat.mod_lt _ (by omega)
  have hz : ((i + 1) % l.length + 1) % l.length < l.length := Nat.mod_lt _ (by omega)
  have h1 := ring_at hd hi
  have h2 := ring_at hd hq
  rw [h2.1, h1.1] at he
  rw [h1.1] at h1
  have := back_again (hr _ (rd_mem hi)) (hr _ (rd_mem hq)) (hr _ (rd_mem hz)) h1.2 he.symm
  have e := rd_eq_inj hn hi hz this
  by_cases c : i + 1 < l.length
  · rw [Nat.mod_eq_of_lt c] at e
    by_cases c2 : i + 1 + 1 < l.length
    · rw [Nat.mod_eq_of_lt c2] at e; omega
    · rw [show i + 1 + 1 = l.length by omega, Nat.mod_self] at e; omega
  · rw [show i + 1 = l.length by omega, Nat.mod_self, Nat.mod_eq_of_lt (by omega)] at e; omega
theorem lr_two {l d : List Int} (hn : l.Nodup) (hr : ∀ x ∈ l, 0 ≤ x ∧ x < 1024) (h3 : 3 ≤ l.length) (hd : dls (l ++ [rd l 0]) = some d) (hl : d.length = l.length) : 2 ≤ lrF d l.length 0 l.length := by
  refine le_lrF _ _ _ (by omega) (fun j _ hj => ?_)
  obtain ⟨f, hf⟩ : ∃ f, d.length - 1 = f + 1 := ⟨d.length - 2, by omega⟩
  rw [hf]
  simp only [lst]
  rw [if_neg]
  · exact lst_ge d j f (1 + 1)
  · rw [hl]; exact ring_two hn hr h3 hd (by omega)
theorem lr_one {d : List Int} {c b : Nat} (hb : 1 ≤ b) : 1 ≤ lrF d c 0 b := le_lrF _ _ _ hb (fun j _ _ => lst_ge d j _ 1)
theorem lr_most {d : List Int} {n : Nat} (hd : ∀ x ∈ d, 0 ≤ x ∧ x < (n : Int)) (hl : n < d.length) : lrF d d.length 0 d.length ≤ n := by
  by_cases c : lrF d d.length 0 d.length ≤ n
  · exact c
  · exfalso
    have hall : ∀ a b : Nat, a < b → b ≤ n → rd d (a : Int) ≠ rd d (b : Int) := by
      intro a b hab hbn he
      have h1 := (lrF_le d d.length 0 d.length).2 a (Nat.zero_le _) (by omega)
      have h2 : lst d a (d.length - 1) 1 ≤ b - a := lst_le _ _ _ (by omega) (by omega) (by
        rw [show a + (b - a) = b by omega, Nat.mod_eq_of_lt (by omega)]; exact he.symm)
      omega
    have hnd : (d.take (n + 1)).Nodup := by
      rw [List.nodup_iff_pairwise_ne, List.pairwise_iff_getElem]
      intro i j hi hj hij
      simp only [List.length_take] at hi hj
      rw [List.getElem_take, List.getElem_take]
      have := hall i j hij (by omega)
      rw [rd_nat, rd_nat, List.getD_eq_getElem?_getD, List.getD_eq_getElem?_getD, List.getElem?_eq_getElem (by omega), List.getElem?_eq_getElem (by omega)] at this
      exact this
    have := nodup_len hnd (N := n) (fun x hx => hd x (List.mem_of_mem_take hx))
    rw [List.length_take] at this
    omega

end Go.Proofs.YtnhifbopicjicaaDoor.Mth
