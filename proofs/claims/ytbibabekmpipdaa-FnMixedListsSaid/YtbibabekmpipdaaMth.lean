/- Plain tools: rounds that are enough, lists read at an index, the laws' own helpers. No condition. -/
import Derived.Test.YtbibabekmpipdaaWMore
import Derived.Test.YtbibabekmpipdaaWSized
import Derived.Laws.BitsLemmas
set_option linter.unusedVariables false
set_option linter.unusedSimpArgs false
namespace Go.Proofs.Ytbibabekmpipdaa.Mth
open Go.RowKit Go.Proofs.YtbibabekmpipdaaW.PrintWords Go.Proofs.YtbibabekmpipdaaW.PrintLast

/-! ### Rounds -/
theorem ev_shift {α : Type} {g : Nat → Option α} {r : α} (h : Ev (fun k => g (k + 1)) r) : Ev g r := Ev.step (fun _ => rfl) h
theorem ev_eq {α : Type} {a : Option α} {r : α} (h : a = some r) : Ev (fun _ => a) r := ⟨0, fun _ _ => h⟩
theorem ev_some {α : Type} {a r : α} (h : a = r) : Ev (fun _ => some a) r := ⟨0, fun _ _ => by rw [h]⟩
theorem ev_bind {α β : Type} {g : Nat → Option α} {f : Nat → α → Option β} {a : α} {r : β} (h : Ev g a) (k : Ev (fun n => f n a) r) : Ev (fun n => (g n).bind (f n)) r := Ev.bind h k
theorem ev_bind0 {α β : Type} {g : Option α} {f : Nat → α → Option β} {a : α} {r : β} (h : g = some a) (k : Ev (fun n => f n a) r) : Ev (fun n => g.bind (f n)) r := Ev.bind (ev_eq h) k
theorem ev_pos {α : Type} {c : Prop} [Decidable c] {f g : Nat → Option α} {r : α} (h : c) (k : Ev f r) : Ev (fun n => if c then f n else g n) r := by
  simp only [if_pos h]; exact k
theorem ev_neg {α : Type} {c : Prop} [Decidable c] {f g : Nat → Option α} {r : α} (h : ¬ c) (k : Ev g r) : Ev (fun n => if c then f n else g n) r := by
  simp only [if_neg h]; exact k
theorem ev_ite {α : Type} {c : Prop} [Decidable c] {f g : Nat → Option α} {r : α} (h1 : c → Ev f r) (h2 : ¬ c → Ev g r) : Ev (fun n => if c then f n else g n) r := by
  by_cases h : c
  · exact ev_pos h (h1 h)
  · exact ev_neg h (h2 h)
theorem ev_le {α : Type} {g : Nat → Option α} {r : α} (h : Ev g r) : ∃ k, g k = some r := Ev.rounds h

/-! ### Numbers -/
theorem w64 {x : Int} (h0 : -9223372036854775808 ≤ x) (h1 : x ≤ 9223372036854775807) : wrap64 x = x := by unfold wrap64; omega
theorem wf_range {x : Int} (h : (Lit.int .i64 x).wf = true) : -9223372036854775808 ≤ x ∧ x ≤ 9223372036854775807 := by
  simp only [Lit.wf, Bool.and_eq_true, decide_eq_true_eq] at h
  have e0 : IntKind.min .i64 = -9223372036854775808 := by decide
  have e1 : IntKind.max .i64 = 9223372036854775807 := by decide
  omega
theorem neq_self {b : Bool} : ¬ ((b != b) = true) := by simp

/-! ### Lists -/
theorem rd_nat (l : List Int) (n : Nat) : rd l (n : Int) = l.getD n 0 := by simp [rd]
theorem rd_at (pre : List Int) (x : Int) (suf : List Int) : rd (pre ++ x :: suf) (pre.length : Int) = x := by simp [rd_nat, List.getD_eq_getElem?_getD]
theorem rd_mem {l : List Int} {j : Nat} (h : j < l.length) : rd l (j : Int) ∈ l := by
  rw [rd_nat, List.getD_eq_getElem?_getD, List.getElem?_eq_getElem h]
  exact List.getElem_mem _
/-- A list gone through from the front. -/
theorem range_ind {l : List Int} (hl : l.length ≤ 9000000000000000000) (P : List Int → List Int → Prop) (h0 : P l [])
    (hs : ∀ pre x suf, l = pre ++ x :: suf → rd l (pre.length : Int) = x → (pre.length : Int) < (l.length : Int) → 0 ≤ (pre.length : Int) →
      wrap64 ((pre.length : Int) + 1) = ((pre ++ [x]).length : Int) → P (pre ++ [x]) suf → P pre (x :: suf)) : ∀ suf pre, l = pre ++ suf → P pre suf := by
  intro suf
  induction suf with
  | nil => intro pre h; simp at h; subst h; exact h0
  | cons x suf ih =>
    intro pre h
    have hlen : l.length = pre.length + suf.length + 1 := by rw [h]; simp; omega
    refine hs pre x suf h (by rw [h]; exact rd_at _ _ _) (by omega) (by omega) ?_ (ih _ (by simp [h]))
    rw [w64 (by omega) (by omega)]; simp
theorem range_all {l : List Int} (hl : l.length ≤ 9000000000000000000) (P : List Int → List Int → Prop) (h0 : P l [])
    (hs : ∀ pre x suf, l = pre ++ x :: suf → rd l (pre.length : Int) = x → (pre.length : Int) < (l.length : Int) → 0 ≤ (pre.length : Int) →
      wrap64 ((pre.length : Int) + 1) = ((pre ++ [x]).length : Int) → P (pre ++ [x]) suf → P pre (x :: suf)) : P [] l := range_ind hl P h0 hs l [] rfl
def inR (n lo hi : Int) : Bool := decide (lo ≤ n) && decide (n ≤ hi)
theorem inR_iff {n lo hi : Int} : inR n lo hi = true ↔ lo ≤ n ∧ n ≤ hi := by simp [inR]
theorem in_ite (a b c : Int) : (if a ≥ b then (some (decide (a ≤ c))) else (some false)) = some (inR a b c) := by
  unfold inR
  split
  · rename_i h; simp [show b ≤ a from h]
  · rename_i h; simp [show ¬ b ≤ a from h]
def allIn (l : List Int) (lo hi : Int) : Bool := l.all fun x => inR x lo hi
theorem allIn_nil (lo hi : Int) : allIn [] lo hi = true := rfl
theorem allIn_cons (x : Int) (l : List Int) (lo hi : Int) : allIn (x :: l) lo hi = (inR x lo hi && allIn l lo hi) := rfl
theorem allIn_iff {l : List Int} {lo hi : Int} : allIn l lo hi = true ↔ ∀ x ∈ l, lo ≤ x ∧ x ≤ hi := by simp [allIn, inR_iff]
/-- What the laws' marking leaves. -/
def marks : Nat → Int → List Int
  | 0, _ => []
  | n + 1, m => m :: marks n (m + 1)
theorem marks_length (n : Nat) (m : Int) : (marks n m).length = n := by
  induction n generalizing m with
  | zero => rfl
  | succ n ih => simp [marks, ih]
theorem marks_snoc (n : Nat) (m : Int) : marks (n + 1) m = marks n m ++ [m + (n : Int)] := by
  induction n generalizing m with
  | zero => simp [marks]
  | succ n ih =>
    rw [marks, ih (m + 1), marks]
    simp; omega
theorem marks_rd (n : Nat) (m : Int) (i : Nat) (hi : i < n) : rd (marks n m) (i : Int) = m + (i : Int) := by
  rw [rd_nat]
  induction n generalizing m i with
  | zero => omega
  | succ n ih =>
    cases i with
    | zero => simp [marks]
    | succ i =>
      have := ih (m + 1) i (by omega)
      simp only [marks, List.getD_cons_succ, this]; omega
theorem set_at (pre : List Int) (x y : Int) (suf : List Int) : (pre ++ x :: suf).set ((pre.length : Int)).toNat y = pre ++ y :: suf := by simp

/-! ### Lists of lists -/
def rdL (xs : List (List Int)) (i : Int) : List Int := xs.getD i.toNat []
theorem rdL_at (pre : List (List Int)) (x : List Int) (suf : List (List Int)) : rdL (pre ++ x :: suf) (pre.length : Int) = x := by simp [rdL, List.getD_eq_getElem?_getD]
theorem rangeL_ind {l : List (List Int)} (hl : l.length ≤ 9000000000000000000) (P : List (List Int) → List (List Int) → Prop) (h0 : P l [])
    (hs : ∀ pre x suf, l = pre ++ x :: suf → rdL l (pre.length : Int) = x → (pre.length : Int) < (l.length : Int) → 0 ≤ (pre.length : Int) →
      wrap64 ((pre.length : Int) + 1) = ((pre ++ [x]).length : Int) → P (pre ++ [x]) suf → P pre (x :: suf)) : ∀ suf pre, l = pre ++ suf → P pre suf := by
  intro suf
  induction suf with
  | nil => intro pre h; simp at h; subst h; exact h0
  | cons x suf ih =>
    intro pre h
    have hlen : l.length = pre.length + suf.length + 1 := by rw [h]; simp; omega
    refine hs pre x suf h (by rw [h]; exact rdL_at _ _ _) (by omega) (by omega) ?_ (ih _ (by simp [h]))
    rw [w64 (by omega) (by omega)]; simp
def ofL (l : List (List Int)) (i : Int) : List Int × Bool := if inR i 0 ((l.length : Int) - 1) = true then (rdL l i, true) else ([], false)
theorem ofL_some {l : List (List Int)} {r : Nat} {x : List Int} (h : l[r]? = some x) : ofL l (r : Int) = (x, true) := by
  have hlt : r < l.length := by
    rcases Nat.lt_or_ge r l.length with h1 | h1
    · exact h1
    · rw [List.getElem?_eq_none h1] at h; cases h
  unfold ofL
  rw [if_pos (inR_iff.2 ⟨by omega, by omega⟩)]
  simp [rdL, List.getD_eq_getElem?_getD, h]
theorem ofL_none {l : List (List Int)} {i : Int} (h : i < 0 ∨ (l.length : Int) ≤ i) : ofL l i = ([], false) := by
  unfold ofL
  rw [if_neg]
  rw [inR_iff]; omega

/-! ### Increasing lists -/
def incrF : Int → List Int → Bool
  | _, [] => true
  | p, x :: r => decide (p < x) && incrF x r
def incr : List Int → Bool
  | [] => true
  | x :: r => incrF x r
def risF (lo hi : Int) : Option Int → List Int → Bool
  | _, [] => true
  | none, x :: r => inR x lo hi && risF lo hi (some x) r
  | some p, x :: r => inR x lo hi && (decide (p < x) && risF lo hi (some x) r)
theorem risF_some (lo hi p : Int) (l : List Int) : risF lo hi (some p) l = (allIn l lo hi && incrF p l) := by
  induction l generalizing p with
  | nil => rfl
  | cons x r ih =>
    simp only [risF, ih, allIn_cons, incrF]
    cases inR x lo hi <;> cases decide (p < x) <;> simp
theorem risF_none (lo hi : Int) (l : List Int) : risF lo hi none l = (allIn l lo hi && incr l) := by
  cases l with
  | nil => rfl
  | cons x r => simp only [risF, risF_some, allIn_cons, incr, Bool.and_assoc]
theorem incrF_len {lo hi p : Int} {l : List Int} (h : incrF p l = true) (ha : allIn l lo hi = true) (hp : p ≤ hi) : p + (l.length : Int) ≤ hi := by
  induction l generalizing p with
  | nil => simpa using hp
  | cons x r ih =>
    simp only [incrF, Bool.and_eq_true, decide_eq_true_eq] at h
    simp only [allIn_cons, Bool.and_eq_true, inR_iff] at ha
    have := ih h.2 ha.2 ha.1.2
    simp only [List.length_cons]
    omega
theorem incr_len {hi : Int} {l : List Int} (h : incr l = true) (ha : allIn l 0 hi = true) (hhi : -1 ≤ hi) : (l.length : Int) ≤ hi + 1 := by
  cases l with
  | nil => simp; omega
  | cons x r =>
    simp only [allIn_cons, Bool.and_eq_true, inR_iff] at ha
    have := incrF_len h ha.2 ha.1.2
    simp only [List.length_cons]
    omega
theorem rd_prev (pre : List Int) (p : Int) (suf : List Int) (h : (pre ++ [p]).length ≤ 9000000000000000000) : wrap64 (((pre ++ [p]).length : Int) - 1) = (pre.length : Int) ∧ rd ((pre ++ [p]) ++ suf) (pre.length : Int) = p := by
  simp only [List.length_append, List.length_singleton] at *
  constructor
  · rw [w64 (by omega) (by omega)]; omega
  · rw [List.append_assoc]; exact rd_at _ _ _
def isComb (n : Int) (l : List Int) : Bool := inR n 0 12 && (allIn l 0 (n - 1) && incr l)
theorem isComb_iff {n : Int} {l : List Int} : isComb n l = true ↔ (0 ≤ n ∧ n ≤ 12) ∧ allIn l 0 (n - 1) = true ∧ incr l = true := by simp [isComb, inR_iff]
theorem isComb_len {n : Int} {l : List Int} (h : isComb n l = true) : (l.length : Int) ≤ n := by
  rw [isComb_iff] at h
  have := incr_len h.2.2 h.2.1 (by omega)
  omega

/-! ### Words of bits -/
def top (n : Int) : Int := wrap64 (shl .i64 1 n - 1)
def isW (n w : Int) : Bool := inR n 1 10 && inR w 0 (top n)
theorem isW_iff {n w : Int} : isW n w = true ↔ (1 ≤ n ∧ n ≤ 10) ∧ 0 ≤ w ∧ w ≤ top n := by simp [isW, inR_iff]
def areW (n : Int) (l : List Int) : Bool := inR n 1 10 && (decide ((l.length : Int) ≤ 1100) && allIn l 0 (top n))
theorem areW_iff {n : Int} {l : List Int} : areW n l = true ↔ (1 ≤ n ∧ n ≤ 10) ∧ (l.length : Int) ≤ 1100 ∧ allIn l 0 (top n) = true := by simp [areW, inR_iff]
def scanX : Int → List Int → List Int
  | _, [] => []
  | s, d :: r => Go.bits .xor .i64 s (shl .i64 1 d) :: scanX (Go.bits .xor .i64 s (shl .i64 1 d)) r

end Go.Proofs.Ytbibabekmpipdaa.Mth

namespace Go.Proofs.Ytbibabekmpipdaa.PrintWords
open Go.ChangeShapes Go.WideShapes
/-- The printed row names this word so. -/
theorem sized_ints {H : Type} {enc : TypeId × Value → H} {P : Program} {W : World} {base : Nat} {spare : Nat → Bool} {held : Bool} {t e : TypeId} {k : IntKind} {a : Option Addr} {len cap : Nat} {d : DataW H} {ps : List MemPlace} {ts : List TypeId} {ds : List (DataW H)} {j : Nat}
    (hsz : (DataW.weightsEach P ts ds).all (· ≤ reachBytes) = true) (ht : ts[j]? = some t) (hd : ds[j]? = some d) (hu : P.underlying t = some (.slice e)) (he : P.underlying e = some (.int k)) (hc : P.cellsOf e = 1) {B : Nat} (hB : P.bytesOf e = B)
    (h : DataW.Trod enc P W base spare held t (.slice a len cap) d ps) : len * B ≤ 140737488351232 := Go.Proofs.YtbibabekmpipdaaW.PrintWords.sized_ints hsz ht hd hu he hc hB h
end Go.Proofs.Ytbibabekmpipdaa.PrintWords
