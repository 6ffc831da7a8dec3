/- Plain facts on the list of all combinations: each one, and their order; and on factorials. No condition. -/
-- plain: RankMore DigL Fact
import Derived.Test.YtoajkfiighdjpaaMthRankMore
import Derived.Test.YtoajkfiighdjpaaMthDigL
import Derived.Test.YtoajkfiighdjpaaMthFact
set_option linter.unusedVariables false
set_option linter.unusedSimpArgs false
namespace Go.Proofs.Ytoajkfiighdjpaa.Mth
open Go.RowKit Go.Proofs.YtoajkfiighdjpaaW.PrintWords Go.Proofs.YtoajkfiighdjpaaW.PrintLast

theorem lexL_cmb {f m k : Nat} {l : List Int} (h : l ∈ lexL f m k) : Cmb (f : Int) ((f + m : Nat) : Int) l := by
  obtain ⟨i, hi⟩ := List.mem_iff_getElem?.1 h
  have hlt : i < C m k := by
    rcases Nat.lt_or_ge i (C m k) with h1 | h1
    · exact h1
    · rw [List.getElem?_eq_none (by rw [lexL_length]; exact h1)] at hi; cases hi
  rw [lexL_at f m k i hlt] at hi
  injection hi with hi
  rw [← hi]
  exact (unrankL_back m f k i hlt).1
theorem lexL_sorted (m : Nat) : ∀ f k : Nat, List.Pairwise (fun a b => lexB a b = true) (lexL f m k) := by
  induction m with
  | zero =>
    intro f k
    cases k with
    | zero => rw [lexL_zero]; exact List.pairwise_singleton _ _
    | succ k => rw [lexL_none]; exact List.Pairwise.nil
  | succ m ih =>
    intro f k
    cases k with
    | zero => rw [lexL_zero]; exact List.pairwise_singleton _ _
    | succ k =>
      rw [lexL_succ, List.pairwise_append]
      refine ⟨?_, ih _ _, ?_⟩
      · rw [List.pairwise_map]
        refine (ih (f + 1) k).imp ?_
        intro a b hab
        simp only [lexB, if_pos]
        exact hab
      · intro a ha b hb
        rw [List.mem_map] at ha
        obtain ⟨r, hr, rfl⟩ := ha
        have hc := lexL_cmb hb
        have hlen := lexL_mem_length hb
        cases b with
        | nil => simp at hlen
        | cons y t =>
          obtain ⟨h1, h2, h3⟩ := hc
          simp only [lexB]
          rw [if_neg (by omega)]
          exact decide_eq_true (by omega)
theorem C_fact (n k : Nat) (hn : n ≤ 12) (hk : k ≤ n) : C n k * fact k * fact (n - k) = fact n := by
  have t : ∀ (a b : Fin 13), b.1 ≤ a.1 → C a.1 b.1 * fact b.1 * fact (a.1 - b.1) = fact a.1 := by decide +kernel
  exact t ⟨n, by omega⟩ ⟨k, by omega⟩ hk
def allC (n k : Int) : List (List Int) × Bool := if inR n 0 12 = true ∧ inR k 0 12 = true then (lexL 0 n.toNat k.toNat, true) else ([], false)
theorem allC_len (n k : Int) : (allC n k).1.length ≤ 4096 ∧ ∀ x ∈ (allC n k).1, x.length ≤ 12 := by
  unfold allC
  split
  · rename_i h
    have h1 := inR_iff.1 h.1
    have h2 := inR_iff.1 h.2
    refine ⟨by rw [lexL_length]; exact C_12 _ (by omega), fun x hx => ?_⟩
    have := lexL_mem_length hx
    omega
  · exact ⟨by simp, fun x hx => by simp at hx⟩

end Go.Proofs.Ytoajkfiighdjpaa.Mth
