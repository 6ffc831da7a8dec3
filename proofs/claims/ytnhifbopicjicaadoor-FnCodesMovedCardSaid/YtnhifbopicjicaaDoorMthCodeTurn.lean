/- Plain facts on codes whose bits are moved or flipped, and on codes that are turned. No condition. -/
import Derived.Test.YtnhifbopicjicaaDoorMthCodeMore
import Derived.Test.YtnhifbopicjicaaDoorMthRuns
import Derived.Test.YtnhifbopicjicaaDoorMthMoved
set_option linter.unusedVariables false
set_option linter.unusedSimpArgs false
namespace Go.Proofs.YtnhifbopicjicaaDoor.Mth
open Go.RowKit Go.Proofs.YtnhifbopicjicaaDoorW.PrintWords Go.Proofs.YtnhifbopicjicaaDoorW.PrintLast

/-! ### Bits moved -/
structure PermN (m : Nat) (tt : List Int) : Prop where
  len : tt.length = m
  mem : ∀ x ∈ tt, 0 ≤ x ∧ x < (m : Int)
  nd : tt.Nodup
theorem PermN.at_ {m : Nat} {tt : List Int} (h : PermN m tt) {i : Nat} (hi : i < m) : ∃ q : Nat, q < m ∧ rd tt (i : Int) = (q : Int) ∧ ∃ hl : i < tt.length, tt[i] = (q : Int) := by
  have hl : i < tt.length := by rw [h.len]; exact hi
  have hm := h.mem _ (List.getElem_mem hl)
  obtain ⟨q, hq⟩ := Int.eq_ofNat_of_zero_le hm.1
  refine ⟨q, by omega, ?_, hl, hq⟩
  rw [rd_nat, List.getD_eq_getElem?_getD, List.getElem?_eq_getElem hl, ← hq]; rfl
theorem PermN.inj {m : Nat} {tt : List Int} (h : PermN m tt) {i j : Nat} (hi : i < m) (hj : j < m) (e : rd tt (i : Int) = rd tt (j : Int)) : i = j := by
  obtain ⟨q, _, h1, hl1, e1⟩ := h.at_ hi
  obtain ⟨p, _, h2, hl2, e2⟩ := h.at_ hj
  rw [h1, h2] at e
  exact (List.getElem_inj h.nd).1 (by rw [e1, e2, e])
theorem mvO_bits {m : Nat} {tt : List Int} (h : PermN m tt) (w b : Nat) : (mvO w 0 tt).testBit b = true ↔ ∃ i, i < m ∧ rd tt (i : Int) = (b : Int) ∧ w.testBit i = true := by
  rw [mvO_bit]
  constructor
  · rintro ⟨j, hj, h1, h2⟩
    rw [Nat.zero_add] at h2
    have hjm : j < m := by rw [← h.len]; exact hj
    obtain ⟨q, _, e1, hl, e2⟩ := h.at_ hjm
    refine ⟨j, hjm, ?_, h2⟩
    rw [e2] at h1
    rw [e1]; simp at h1; rw [h1]
  · rintro ⟨i, hi, h1, h2⟩
    obtain ⟨q, _, e1, hl, e2⟩ := h.at_ hi
    refine ⟨i, hl, ?_, by rw [Nat.zero_add]; exact h2⟩
    rw [e2, ← e1, h1]; simp
theorem mvO_xor {m : Nat} {tt : List Int} (h : PermN m tt) (a b : Nat) : mvO a 0 tt ^^^ mvO b 0 tt = mvO (a ^^^ b) 0 tt := by
  refine Nat.eq_of_testBit_eq (fun k => ?_)
  rw [Nat.testBit_xor, Bool.eq_iff_iff]
  by_cases hk : ∃ i, i < m ∧ rd tt (i : Int) = (k : Int)
  · obtain ⟨i, hi, hik⟩ := hk
    have key : ∀ w : Nat, (mvO w 0 tt).testBit k = w.testBit i := by
      intro w
      rw [Bool.eq_iff_iff, mvO_bits h]
      constructor
      · rintro ⟨j, hj, h1, h2⟩
        have := h.inj hj hi (by rw [h1, hik])
        rw [← this]; exact h2
      · intro h2; exact ⟨i, hi, hik, h2⟩
    rw [key, key, key, Nat.testBit_xor]
  · have key : ∀ w : Nat, (mvO w 0 tt).testBit k = false := by
      intro w
      cases hc : (mvO w 0 tt).testBit k with
      | false => rfl
      | true => exact absurd (let ⟨i, a, b, _⟩ := (mvO_bits h w k).1 hc; ⟨i, a, b⟩) hk
    rw [key, key, key]; simp
theorem mvO_pow {m : Nat} {tt : List Int} (h : PermN m tt) {i : Nat} (hi : i < m) : mvO (2 ^ i) 0 tt = 2 ^ (rd tt (i : Int)).toNat := by
  obtain ⟨q, hq, e1, hl, e2⟩ := h.at_ hi
  refine Nat.eq_of_testBit_eq (fun k => ?_)
  rw [Bool.eq_iff_iff, mvO_bits h, e1, Int.toNat_natCast, Nat.testBit_two_pow, decide_eq_true_eq]
  constructor
  · rintro ⟨j, hj, h1, h2⟩
    rw [Nat.testBit_two_pow, decide_eq_true_eq] at h2
    subst h2
    rw [e1] at h1
    exact_mod_cast h1
  · intro e
    subst e
    exact ⟨i, hi, e1, by rw [Nat.testBit_two_pow]; simp⟩
theorem mvO_zero {m : Nat} {tt : List Int} (h : PermN m tt) {x : Nat} (hx : x < 2 ^ m) (h0 : mvO x 0 tt = 0) : x = 0 := by
  refine Nat.eq_of_testBit_eq (fun i => ?_)
  rw [Nat.zero_testBit]
  cases hc : x.testBit i with
  | false => rfl
  | true =>
    have hi : i < m := by
      by_cases c : i < m
      · exact c
      · rw [Nat.testBit_lt_two_pow (Nat.lt_of_lt_of_le hx (Nat.pow_le_pow_right (by decide) (by omega)))] at hc
        cases hc
    obtain ⟨q, hq, e1, _⟩ := h.at_ hi
    have := (mvO_bits h x q).2 ⟨i, hi, e1, hc⟩
    rw [h0, Nat.zero_testBit] at this
    cases this
theorem mvO_pow_inv {m : Nat} {tt : List Int} (h : PermN m tt) {x k : Nat} (hx : x < 2 ^ m) (he : mvO x 0 tt = 2 ^ k) : ∃ i, i < m ∧ x = 2 ^ i := by
  have hk : (mvO x 0 tt).testBit k = true := by rw [he, Nat.testBit_two_pow]; simp
  obtain ⟨i, hi, h1, h2⟩ := (mvO_bits h x k).1 hk
  refine ⟨i, hi, ?_⟩
  have hp := mvO_pow h hi
  rw [h1, Int.toNat_natCast] at hp
  have hz : mvO (x ^^^ 2 ^ i) 0 tt = 0 := by rw [← mvO_xor h, he, hp, Nat.xor_self]
  have hz2 := mvO_zero h (Nat.xor_lt_two_pow hx (Nat.pow_lt_pow_right (by decide) hi)) hz
  have : x ^^^ 2 ^ i ^^^ 2 ^ i = 2 ^ i := by rw [hz2, Nat.zero_xor]
  rwa [Nat.xor_assoc, Nat.xor_self, Nat.xor_zero] at this
def mvd (tt : List Int) (d : Int) : Int := if d < 0 then -1 else rd tt d
theorem bitOf_mvO {m : Nat} (hm : m ≤ 10) {tt : List Int} (h : PermN m tt) {x : Nat} (hx : x < 2 ^ m) : bitOf (mvO x 0 tt) = mvd tt (bitOf x) := by
  have hp : 2 ^ m ≤ 2 ^ 10 := Nat.pow_le_pow_right (by decide) hm
  have hy : mvO x 0 tt < 2 ^ m := mvO_lt x m tt 0 (fun z hz => by have := h.mem z hz; omega)
  rcases bitOf_cases (x := x) (by omega) with ⟨h1, h2⟩ | ⟨i, hi, h1, h2⟩
  · have e : bitOf (mvO x 0 tt) = -1 := by
      rcases bitOf_cases (x := mvO x 0 tt) (by omega) with ⟨h3, _⟩ | ⟨k, hk, _, h4⟩
      · exact h3
      · obtain ⟨i, hi, e⟩ := mvO_pow_inv h hx h4
        exact absurd e (h2 i (by omega))
    rw [e, h1]; rfl
  · have him : i < m := by
      rw [h2] at hx
      exact (Nat.pow_lt_pow_iff_right (a := 2) (by decide)).1 hx
    obtain ⟨q, hq, e1, _⟩ := h.at_ him
    have e2 : mvd tt (i : Int) = (q : Int) := by unfold mvd; rw [if_neg (by omega), e1]
    rw [h1, e2, h2, mvO_pow h him, e1, Int.toNat_natCast, bitOf_pow (by omega)]
def mvW (tt : List Int) (w : Int) : Int := (mvO w.toNat 0 tt : Int)
theorem dl_mvW {m : Nat} (hm : m ≤ 10) {tt : List Int} (h : PermN m tt) {a b : Int} (ha : 0 ≤ a ∧ a < ((2 ^ m : Nat) : Int)) (hb : 0 ≤ b ∧ b < ((2 ^ m : Nat) : Int)) : dl (mvW tt a) (mvW tt b) = mvd tt (dl a b) := by
  unfold dl mvW
  rw [Int.toNat_natCast, Int.toNat_natCast, mvO_xor h, bitOf_mvO hm h (xor_pow ha hb)]
theorem mvW_range {m : Nat} {tt : List Int} (h : PermN m tt) (a : Int) : 0 ≤ mvW tt a ∧ mvW tt a < ((2 ^ m : Nat) : Int) := by
  have hy : mvO a.toNat 0 tt < 2 ^ m := mvO_lt _ m tt 0 (fun z hz => by have := h.mem z hz; omega)
  unfold mvW
  constructor
  · exact Int.natCast_nonneg _
  · exact_mod_cast hy
theorem mvW_inj {m : Nat} {tt : List Int} (h : PermN m tt) {a b : Int} (ha : 0 ≤ a ∧ a < ((2 ^ m : Nat) : Int)) (hb : 0 ≤ b ∧ b < ((2 ^ m : Nat) : Int)) (e : mvW tt a = mvW tt b) : a = b := by
  unfold mvW at e
  have e' : mvO a.toNat 0 tt = mvO b.toNat 0 tt := by exact_mod_cast e
  have hz : mvO (a.toNat ^^^ b.toNat) 0 tt = 0 := by rw [← mvO_xor h, e', Nat.xor_self]
  have := mvO_zero h (xor_pow ha hb) hz
  have e3 : a.toNat ^^^ b.toNat ^^^ b.toNat = b.toNat := by rw [this, Nat.zero_xor]
  rw [Nat.xor_assoc, Nat.xor_self, Nat.xor_zero] at e3
  omega
theorem nodup_map {f : Int → Int} {l : List Int} (h : ∀ a ∈ l, ∀ b ∈ l, f a = f b → a = b) : decide (l.map f).Nodup = decide l.Nodup := by
  refine decide_eq_decide.2 ⟨fun hn => ?_, fun hn => ?_⟩
  · exact List.Pairwise.of_map f (fun a b hab e => hab (by rw [e])) hn
  · refine List.pairwise_map.2 (List.Pairwise.imp_of_mem ?_ hn)
    intro a b ha hb hab e
    exact hab (h a ha b hb e)
theorem dlF_map {f g : Int → Int} {P : Int → Prop} (hfg : ∀ a b, P a → P b → dl (f a) (f b) = g (dl a b)) (hg : ∀ d : Int, -1 ≤ d → d < 10 → (g d < 0 ↔ d < 0)) (hd : ∀ a b, P a → P b → -1 ≤ dl a b ∧ dl a b < 10) {l : List Int} : ∀ {p : Int}, P p → (∀ x ∈ l, P x) → dlF (f p) (l.map f) = (dlF p l).map (·.map g) := by
  induction l with
  | nil => intro p _ _; rfl
  | cons w r ih =>
    intro p hp hl
    have hw := hl w (by simp)
    have hb := hd p w hp hw
    have hgd := hg (dl p w) hb.1 hb.2
    simp only [List.map_cons, dlF]
    rw [hfg p w hp hw, ih hw (fun y hy => hl y (by simp [hy]))]
    by_cases c : dl p w < 0
    · rw [if_pos c, if_pos (hgd.2 c)]; rfl
    · rw [if_neg c, if_neg (fun e => c (hgd.1 e))]
      cases dlF w r <;> rfl
theorem dls_map {f g : Int → Int} {P : Int → Prop} (hfg : ∀ a b, P a → P b → dl (f a) (f b) = g (dl a b)) (hg : ∀ d : Int, -1 ≤ d → d < 10 → (g d < 0 ↔ d < 0)) (hd : ∀ a b, P a → P b → -1 ≤ dl a b ∧ dl a b < 10) {l : List Int} (hl : ∀ x ∈ l, P x) : dls (l.map f) = (dls l).map (·.map g) := by
  cases l with
  | nil => rfl
  | cons w r => exact dlF_map hfg hg hd (hl w (by simp)) (fun x hx => hl x (by simp [hx]))
theorem codeB_map {f g : Int → Int} {P : Int → Prop} (hfg : ∀ a b, P a → P b → dl (f a) (f b) = g (dl a b)) (hg : ∀ d : Int, -1 ≤ d → d < 10 → (g d < 0 ↔ d < 0)) (hd : ∀ a b, P a → P b → -1 ≤ dl a b ∧ dl a b < 10) (hi : ∀ a b, P a → P b → f a = f b → a = b) (n : Int) {l : List Int} (hl : ∀ x ∈ l, P x) : codeB n (l.map f) = codeB n l := by
  unfold codeB
  rw [nodup_map (fun a ha b hb => hi a b (hl a ha) (hl b hb)), dls_map hfg hg hd hl, List.length_map]
  cases dls l <;> rfl
theorem rd_map {f : Int → Int} {l : List Int} {i : Nat} (h : i < l.length) : rd (l.map f) (i : Int) = f (rd l (i : Int)) := by
  rw [rd_nat, rd_nat, List.getD_eq_getElem?_getD, List.getD_eq_getElem?_getD, List.getElem?_map, List.getElem?_eq_getElem h]; rfl
theorem mvd_sign {m : Nat} {tt : List Int} (h : PermN m tt) (d : Int) (h1 : d < m) : mvd tt d < 0 ↔ d < 0 := by
  unfold mvd
  by_cases c : d < 0
  · rw [if_pos c]; omega
  · rw [if_neg c]
    obtain ⟨i, rfl⟩ := Int.eq_ofNat_of_zero_le (show 0 ≤ d by omega)
    obtain ⟨q, _, e, _⟩ := h.at_ (show i < m by omega)
    rw [e]; omega
theorem count_mvd {m : Nat} {tt : List Int} (h : PermN m tt) {i : Nat} (hi : i < m) {d : List Int} (hd : ∀ x ∈ d, 0 ≤ x ∧ x < (m : Int)) : (d.map (mvd tt)).count (rd tt (i : Int)) = d.count (i : Int) := by
  induction d with
  | nil => rfl
  | cons x r ih =>
    have hx := hd x (by simp)
    obtain ⟨q, rfl⟩ := Int.eq_ofNat_of_zero_le hx.1
    rw [List.map_cons, List.count_cons, List.count_cons, ih (fun y hy => hd y (by simp [hy]))]
    have e : mvd tt (q : Int) = rd tt (q : Int) := by unfold mvd; rw [if_neg (by omega)]
    rw [e]
    by_cases c : q = i
    · subst c; simp
    · have c1 : (rd tt (q : Int) == rd tt (i : Int)) = false := by
        rw [beq_eq_false_iff_ne]; exact fun e => c (h.inj (by omega) hi e)
      have c2 : ((q : Int) == (i : Int)) = false := by simp; omega
      rw [c1, c2]
/-! ### Words flipped -/
def flW (m x : Int) : Int := Go.bits .xor .i64 x m
theorem flW_nat {a m : Int} {n : Nat} (hn : n ≤ 10) (ha : 0 ≤ a ∧ a < ((2 ^ n : Nat) : Int)) (hm : 0 ≤ m ∧ m < ((2 ^ n : Nat) : Int)) : flW m a = ((a.toNat ^^^ m.toNat : Nat) : Int) ∧ a.toNat ^^^ m.toNat < 2 ^ n := by
  have hp : 2 ^ n ≤ 2 ^ 10 := Nat.pow_le_pow_right (by decide) hn
  obtain ⟨a, rfl⟩ := Int.eq_ofNat_of_zero_le ha.1
  obtain ⟨m, rfl⟩ := Int.eq_ofNat_of_zero_le hm.1
  exact ⟨xor_nat (by omega) (by omega), xor_pow ha hm⟩
theorem xor_cancel_r (a b m : Nat) : (a ^^^ m) ^^^ (b ^^^ m) = a ^^^ b := by
  rw [Nat.xor_assoc, ← Nat.xor_assoc m b m, Nat.xor_comm m b, Nat.xor_assoc b m m, Nat.xor_self, Nat.xor_zero]
theorem dl_flW {a b m : Int} {n : Nat} (hn : n ≤ 10) (ha : 0 ≤ a ∧ a < ((2 ^ n : Nat) : Int)) (hb : 0 ≤ b ∧ b < ((2 ^ n : Nat) : Int)) (hm : 0 ≤ m ∧ m < ((2 ^ n : Nat) : Int)) : dl (flW m a) (flW m b) = dl a b := by
  unfold dl
  rw [(flW_nat hn ha hm).1, (flW_nat hn hb hm).1, Int.toNat_natCast, Int.toNat_natCast, xor_cancel_r]
theorem flW_inj {a b m : Int} {n : Nat} (hn : n ≤ 10) (ha : 0 ≤ a ∧ a < ((2 ^ n : Nat) : Int)) (hb : 0 ≤ b ∧ b < ((2 ^ n : Nat) : Int)) (hm : 0 ≤ m ∧ m < ((2 ^ n : Nat) : Int)) (e : flW m a = flW m b) : a = b := by
  rw [(flW_nat hn ha hm).1, (flW_nat hn hb hm).1] at e
  have e' : a.toNat ^^^ m.toNat = b.toNat ^^^ m.toNat := by exact_mod_cast e
  have e2 : (a.toNat ^^^ m.toNat) ^^^ m.toNat = (b.toNat ^^^ m.toNat) ^^^ m.toNat := by rw [e']
  rw [Nat.xor_assoc, Nat.xor_assoc, Nat.xor_self, Nat.xor_zero, Nat.xor_zero] at e2
  omega
/-! ### Codes turned -/
theorem dlF_append (w : Int) (s : List Int) : ∀ (r : List Int) (p : Int), dlF p (r ++ w :: s) = (dlF p r).bind fun d1 => if dl ((p :: r).getLast (by simp)) w < 0 then none else (dlF w s).map fun d2 => d1 ++ dl ((p :: r).getLast (by simp)) w :: d2 := by
  intro r
  induction r with
  | nil =>
    intro p
    rfl
  | cons x r ih =>
    intro p
    have e : (p :: x :: r).getLast (by simp) = (x :: r).getLast (by simp) := List.getLast_cons (by simp)
    rw [List.cons_append, dlF, dlF, ih x, e]
    generalize dl ((x :: r).getLast (by simp)) w = z
    by_cases h : dl p x < 0
    · rw [if_pos h, if_pos h]; rfl
    · rw [if_neg h, if_neg h]
      cases dlF x r with
      | none => rfl
      | some d =>
        simp only [Option.bind_some, Option.map_some]
        by_cases hz : z < 0
        · rw [if_pos hz, if_pos hz]; rfl
        · rw [if_neg hz, if_neg hz]
          cases dlF w s <;> rfl
/-- The words around: what changes on the way around a list that is turned. -/
theorem turn_ring {n : Int} {p q : List Int} (hp : p ≠ []) (hq : q ≠ []) (h : roundB n (p ++ q) = true) : roundB n (q ++ p) = true ∧ (ringD (q ++ p)).Perm (ringD (p ++ q)) := by
  obtain ⟨a, p', rfl⟩ : ∃ a p', p = a :: p' := by cases p with | nil => exact absurd rfl hp | cons a p' => exact ⟨a, p', rfl⟩
  obtain ⟨b, q', rfl⟩ : ∃ b q', q = b :: q' := by cases q with | nil => exact absurd rfl hq | cons b q' => exact ⟨b, q', rfl⟩
  have hr := round_ring h (by simp)
  have l1 : lastZ ((a :: p') ++ (b :: q')) = (b :: q').getLast (by simp) := by
    rw [List.cons_append, last_get]
    exact List.getLast_append_of_ne_nil (l := a :: p') (l' := b :: q') (by simp) (by simp)
  have l2 : lastZ ((b :: q') ++ (a :: p')) = (a :: p').getLast (by simp) := by
    rw [List.cons_append, last_get]
    exact List.getLast_append_of_ne_nil (l := b :: q') (l' := a :: p') (by simp) (by simp)
  have r1 : rd ((a :: p') ++ (b :: q')) 0 = a := by simp [rd]
  have r2 : rd ((b :: q') ++ (a :: p')) 0 = b := by simp [rd]
  simp only [roundB, codeB, Bool.and_eq_true, decide_eq_true_eq] at h
  rw [l1, r1] at h
  obtain ⟨d, hd⟩ := Option.isSome_iff_exists.1 h.1.2.1
  have hd' := hd
  simp only [List.cons_append, dls] at hd
  rw [dlF_append] at hd
  generalize hz : dl ((a :: p').getLast (by simp)) b = z at hd
  generalize hy : dl ((b :: q').getLast (by simp)) a = y at h
  cases e1 : dlF a p' with
  | none => rw [e1] at hd; cases hd
  | some d1 =>
    rw [e1, Option.bind_some] at hd
    by_cases cz : z < 0
    · rw [if_pos cz] at hd; cases hd
    · rw [if_neg cz] at hd
      cases e2 : dlF b q' with
      | none => rw [e2] at hd; cases hd
      | some d2 =>
        rw [e2] at hd
        simp only [Option.map_some, Option.some.injEq] at hd
        have hd2 : dls ((b :: q') ++ (a :: p')) = some (d2 ++ y :: d1) := by
          simp only [List.cons_append, dls]
          rw [dlF_append, e2, Option.bind_some, hy, if_neg (by omega), e1]; rfl
        have hround : roundB n ((b :: q') ++ (a :: p')) = true := by
          simp only [roundB, codeB, Bool.and_eq_true, decide_eq_true_eq]
          rw [l2, r2, hz, hd2]
          refine ⟨⟨?_, rfl, ?_⟩, by omega⟩
          · exact (List.perm_append_comm.nodup_iff).1 h.1.1
          · rw [← h.1.2.2]; simp; omega
        refine ⟨hround, ?_⟩
        have g1 : ringD ((a :: p') ++ (b :: q')) = (d1 ++ z :: d2) ++ [y] := by
          have := ring_some hd' (by simp) (by rw [l1, r1, hy]; omega)
          unfold ringD; rw [this, l1, r1, hy, ← hd]; rfl
        have g2 : ringD ((b :: q') ++ (a :: p')) = (d2 ++ y :: d1) ++ [z] := by
          have := ring_some hd2 (by simp) (by rw [l2, r2, hz]; omega)
          unfold ringD; rw [this, l2, r2, hz]; rfl
        rw [g1, g2]
        have : ((d2 ++ y :: d1) ++ [z]) = (d2 ++ [y]) ++ (d1 ++ [z]) := by simp
        rw [this]
        have : ((d1 ++ z :: d2) ++ [y]) = (d1 ++ [z]) ++ (d2 ++ [y]) := by simp
        rw [this]
        exact List.perm_append_comm
theorem cnts_perm {m : Nat} {a b : List Int} (h : a.Perm b) : cnts m a = cnts m b := by
  unfold cnts
  refine List.map_congr_left (fun i _ => ?_)
  rw [h.count_eq]

end Go.Proofs.YtnhifbopicjicaaDoor.Mth
