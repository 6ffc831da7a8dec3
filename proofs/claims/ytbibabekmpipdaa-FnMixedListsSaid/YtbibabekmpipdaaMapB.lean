/- A map from numbers to truths that the call makes: what is looked up is what was stored. No condition. -/
import Derived.Maps.OwnOps
import Derived.Maps.Views
import Derived.WalkKit
set_option linter.unusedVariables false
set_option linter.unusedSimpArgs false
namespace Go.Proofs.Ytbibabekmpipdaa.MapB
open Go Go.Maps Go.RowKit

/-- Block b is a map of at most n entries; the numbers of S are true in it, all others false. -/
def Is (P : Program) (k e : TypeId) (w : World) (b n : Nat) (S : List Int) : Prop :=
  ∃ D : DataW Unit, w.ownsMap P k (plainElem P e) b n D ∧ IsMap D ∧ ∀ x : Int, D.atKey (.int .i64 x) (.lit (.bool false)) = .lit (.bool (S.contains x))
theorem Is.made (w : World) (P : Program) (k e : TypeId) : Is P k e (w.alloc (.map #[] 0)) w.heap.size 0 [] := by
  refine ⟨.map [], World.ownsMap_made _ _ _ _, ⟨[], rfl⟩, fun x => ?_⟩
  rfl
theorem Is.drew {P : Program} {k e : TypeId} {w : World} {b n : Nat} {S : List Int} (h : Is P k e w b n S) : Is P k e w.drew b n S := h
theorem Is.lt {P : Program} {k e : TypeId} {w : World} {b n : Nat} {S : List Int} (h : Is P k e w b n S) : b < w.heap.size := by
  obtain ⟨D, hD, _⟩ := h
  exact hD.lt
theorem Is.below {P : Program} {k e : TypeId} {w w' : World} {b n : Nat} {S : List Int} (h : Is P k e w b n S) (hb : Below w.heap.size w w') : Is P k e w' b n S := by
  obtain ⟨D, ⟨es, clock, h1, h2⟩, hM, hS⟩ := h
  have hlt : b < w.heap.size := by
    rcases Nat.lt_or_ge b w.heap.size with h | h
    · exact h
    · rw [Array.getElem?_eq_none h] at h1; cases h1
  exact ⟨D, ⟨es, clock, (hb.block b hlt).trans h1, h2⟩, hM, hS⟩
theorem bool_inv {P : Program} {e : TypeId} (he : P.underlying e = some .bool) {v : Value} {z : DataW Unit × List MemPlace} (h : plainElem P e v = some z) : ∃ x, v = .bool x ∧ z = (.lit (.bool x), []) := by
  unfold plainElem at h
  rw [he] at h
  cases v <;> simp at h
  exact ⟨_, rfl, h.symm⟩
/-- The look-up, at the operation. -/
theorem wpList_look {P : Program} (w : World) {ops : Array Oper} {rest : List Oper} {o : Oper} {a : Act} {Q : Exit → Act → World → Prop}
    (hg : o.guard = none) (m x : Operand) (t : TypeId) (hop : o.op = Op.lookup t m x false)
    (k e : TypeId) (hk : P.underlying k = some (.int .i64)) (ht : P.underlying t = some (.map k e)) (he : P.underlying e = some .bool) (hz : (zeroValue e).run P w = .ok (.bool false) w) (b n : Nat) (S : List Int)
    (hm : a.eval m = .map (some b)) (hown : Is P k e w b n S) (key : Int) (hx : a.eval x = .int .i64 key) (hwf : (Lit.int .i64 key).wf = true)
    (hK : wpList P ops Q rest (a.put o.dst (.bool (S.contains key))) w) :
    wpList P ops Q (o :: rest) a w := by
  obtain ⟨D, hD, hM, hS⟩ := hown
  refine wpList_plain hg fun K' hK' => ?_
  obtain ⟨v, ps, hrun, hv⟩ := hD.lookup (int_keyed hk) ht hz (plainElem_bool he false) (keyOf_int_mk hk hwf)
  obtain ⟨y, rfl, hy⟩ := bool_inv he hv
  rw [hS key] at hy
  simp only [Prod.mk.injEq, DataW.lit.injEq, Lit.bool.injEq] at hy
  obtain ⟨rfl, _⟩ := hy
  unfold Oper.wp
  simp [execOp, hop, hm, hx, hrun, Result.andThen]
  exact hK' _ _ (by simpa using hK)
/-- The store of true, at the operation. -/
theorem wpList_put {P : Program} (w : World) {ops : Array Oper} {rest : List Oper} {o : Oper} {a : Act} {Q : Exit → Act → World → Prop}
    (hg : o.guard = none) (m x v : Operand) (t : TypeId) (hop : o.op = Op.mapUpdate t m x v)
    (k e : TypeId) (hk : P.underlying k = some (.int .i64)) (ht : P.underlying t = some (.map k e)) (he : P.underlying e = some .bool) (b n : Nat) (S : List Int)
    (hm : a.eval m = .map (some b)) (hown : Is P k e w b n S) (hn : n < maxLen) (key : Int) (hx : a.eval x = .int .i64 key) (hv : a.eval v = .bool true) (hwf : (Lit.int .i64 key).wf = true)
    (hK : ∀ w', Is P k e w' b (n + 1) (key :: S) → w.grownBy w' (some b) → wpList P ops Q rest (a.put o.dst undef) w') :
    wpList P ops Q (o :: rest) a w := by
  obtain ⟨D, hD, hM, hS⟩ := hown
  refine wpList_mapUpdate_own w hg m x v t hop k e (int_keyed hk) ht _ b n D hm hD hn _ _ _ hx hv (keyOf_int_mk hk hwf) _ [] (plainElem_bool he true) (fun w' h1 h2 => hK w' ⟨_, h1, ?_, fun y => ?_⟩ h2)
  · exact hM.put _ _
  · by_cases c : y = key
    · subst c
      rw [atKey_put_same hM (by trivial)]
      simp
    · rw [atKey_put_other (fun e => c (by cases e; rfl)), hS y]
      have : (key :: S).contains y = S.contains y := by simp [c]
      rw [this]

end Go.Proofs.Ytbibabekmpipdaa.MapB
