/- The law FnExactIsEvenlyChanged returns true for every number and every list (reach and kinds as the row says); no condition of ours. -/
import Derived.Test.YtnhifbopicjicaaDoorQFnExactIsEvenlyChangedx6
import Derived.Test.YtnhifbopicjicaaDoorMth
import Derived.Test.YtnhifbopicjicaaDoorMthCode
import Derived.Test.YtnhifbopicjicaaDoorMthDeltas
import Derived.Test.YtnhifbopicjicaaDoorMthRuns
set_option linter.unusedVariables false
set_option linter.unusedSimpArgs false
namespace Go.Proofs.YtnhifbopicjicaaDoor.Pure
open Go.RowKit Go.Proofs.YtnhifbopicjicaaDoor.Mth Go.Proofs.YtnhifbopicjicaaDoor.PFnExactIsEvenlyChanged Go.Proofs.YtnhifbopicjicaaDoorW.PrintWords Go.Proofs.YtnhifbopicjicaaDoorW.PrintLast

theorem laws_toIntS_ev (l : List Int) (hl : l.length ≤ 1048576) : Ev (fun k => laws_toIntS.f k l) l := by
  unfold laws_toIntS.f
  refine ev_pos (by omega) (ev_pos (by omega) ?_)
  refine range_all (l := l) (by omega) (fun pre suf => Ev (fun k => laws_toIntS.l0 k l (pre ++ List.replicate suf.length 0) (pre.length : Int)) l) ?_ ?_
  · refine ev_shift ?_
    simp only [laws_toIntS.l0]
    exact ev_neg (by omega) (ev_some (by simp))
  · intro pre x suf h hx h1 h2 h3 ih
    refine ev_shift ?_
    simp only [laws_toIntS.l0, hx, h3, List.length_cons, List.replicate_succ, set_at]
    refine ev_pos h1 (ev_pos h2 (ev_pos (by simp; omega) ?_))
    simpa using ih
theorem laws_eqIntS_ev (l : List Int) (hl : l.length ≤ 9000000000000000000) : Ev (fun k => laws_eqIntS.f k l l) true := by
  unfold laws_eqIntS.f
  refine ev_pos rfl ?_
  refine range_all hl (fun pre suf => Ev (fun k => laws_eqIntS.l0 k l l (pre.length : Int)) true) ?_ ?_
  · refine ev_shift ?_
    simp only [laws_eqIntS.l0]
    exact ev_neg (by omega) (ev_some rfl)
  · intro pre x suf h hx h1 h2 h3 ih
    refine ev_shift ?_
    simp only [laws_eqIntS.l0, h3]
    exact ev_pos h1 (ev_pos h2 (ev_pos h1 (ev_pos (by trivial) ih)))
theorem spec_gcBit_ev (a b : Nat) (ha : a < 1024) (hb : b < 1024) : Ev (fun k => spec_gcBit.f k (a : Int) (b : Int)) (bitOf (a ^^^ b)) := by
  have hx : a ^^^ b < 1024 := Nat.xor_lt_two_pow (n := 10) ha hb
  have hxx : Go.bits .xor .i64 (a : Int) (b : Int) = ((a ^^^ b : Nat) : Int) := xor_nat (by omega) (by omega)
  have t : ∀ x : Fin 1024, ∀ i : Fin 10, (((x.1 : Nat) : Int) = shl .i64 1 (i.1 : Int)) = (x.1 = 2 ^ i.1) := by
    intro x i
    have t2 : ∀ i : Fin 10, shl .i64 1 (i.1 : Int) = ((2 ^ i.1 : Nat) : Int) := by decide +kernel
    rw [t2 i]
    exact propext ⟨fun h => by exact_mod_cast h, fun h => by rw [h]⟩
  have key : ∀ d i : Nat, i + d = 10 → (∀ j, j < i → a ^^^ b ≠ 2 ^ j) → Ev (fun k => spec_gcBit.l0 k (a : Int) (b : Int) (i : Int)) (bitOf (a ^^^ b)) := by
    intro d
    induction d with
    | zero =>
      intro i hi hn
      refine ev_shift ?_
      simp only [spec_gcBit.l0]
      refine ev_neg (by omega) (ev_some ?_)
      rcases bitOf_cases hx with h | ⟨j, hj, _, he⟩
      · exact h.1.symm
      · exact absurd he (hn j (by omega))
    | succ d ih =>
      intro i hi hn
      have e1 : wrap64 ((i : Int) + 1) = ((i + 1 : Nat) : Int) := by rw [w64 (by omega) (by omega)]; omega
      refine ev_shift ?_
      simp only [spec_gcBit.l0, hxx, e1]
      refine ev_pos (by omega) (ev_pos (by omega) ?_)
      by_cases he : a ^^^ b = 2 ^ i
      · refine ev_pos (by rw [t ⟨_, hx⟩ ⟨i, by omega⟩]; exact he) (ev_some ?_)
        rw [he]; exact (bitOf_pow (by omega)).symm
      · refine ev_neg (by rw [t ⟨_, hx⟩ ⟨i, by omega⟩]; exact he) (ih (i + 1) (by omega) (fun j hj => ?_))
        by_cases e : j = i
        · subst e; exact he
        · exact hn j (by omega)
  exact key 10 0 rfl (fun j hj => by omega)
theorem spec_l1In_eq (a b c : Int) : spec_l1In.f a b c = some (inR a b c) := in_ite a b c
theorem spec_gcBits_eq (a : Int) : spec_gcBits.f a = some (inR a 1 10) := by simp only [spec_gcBits.f, spec_l1In_eq, Option.bind_some]
theorem spec_l1All_ev (l : List Int) (lo hi : Int) (hl : l.length ≤ 9000000000000000000) : Ev (fun k => spec_l1All.f k l lo hi) (allIn l lo hi) := by
  refine range_all hl (fun pre suf => Ev (fun k => spec_l1All.l0 k lo hi l (l.length : Int) (pre.length : Int)) (allIn suf lo hi)) ?_ ?_
  · refine ev_shift ?_
    simp only [spec_l1All.l0]
    exact ev_neg (by omega) (ev_some rfl)
  · intro pre x suf h hx h1 h2 h3 ih
    refine ev_shift ?_
    simp only [spec_l1All.l0, hx, h3, spec_l1In_eq, Option.bind_some, allIn_cons]
    refine ev_pos h1 (ev_pos h2 (ev_pos h1 ?_))
    cases inR x lo hi with
    | true => exact ev_pos rfl ih
    | false => exact ev_neg (by simp) (ev_some rfl)
theorem spec_gcWords_ev (n : Int) (l : List Int) (hl : l.length ≤ 9000000000000000000) : Ev (fun k => spec_gcWords.f k n l) (areW n l) := by
  unfold spec_gcWords.f areW
  refine ev_bind0 (spec_gcBits_eq _) ?_
  by_cases h : inR n 1 10 = true
  · have h' := inR_iff.1 h
    refine ev_pos h ?_
    rw [h, Bool.true_and]
    by_cases hlen : (l.length : Int) ≤ 1100
    · refine ev_pos hlen (ev_pos (by omega) (ev_bind (spec_l1All_ev l 0 _ hl) (ev_some ?_)))
      rw [decide_eq_true hlen, Bool.true_and]; rfl
    · exact ev_neg hlen (ev_some (by rw [decide_eq_false hlen]; rfl))
  · refine ev_neg h (ev_some ?_)
    simp only [Bool.not_eq_true] at h
    rw [h]; rfl
theorem impl_within_eq (a b c : Int) : impl_within.f a b c = some (inR a b c) := in_ite a b c
theorem impl_isBits_eq (a : Int) : impl_isBits.f a = some (inR a 1 10) := by simp only [impl_isBits.f, impl_within_eq, Option.bind_some]
theorem impl_allWithin_ev (l : List Int) (lo hi : Int) (hl : l.length ≤ 9000000000000000000) : Ev (fun k => impl_allWithin.f k l lo hi) (allIn l lo hi) := by
  refine range_all hl (fun pre suf => Ev (fun k => impl_allWithin.l0 k lo hi l (l.length : Int) (pre.length : Int)) (allIn suf lo hi)) ?_ ?_
  · refine ev_shift ?_
    simp only [impl_allWithin.l0]
    exact ev_neg (by omega) (ev_some rfl)
  · intro pre x suf h hx h1 h2 h3 ih
    refine ev_shift ?_
    simp only [impl_allWithin.l0, hx, h3, impl_within_eq, Option.bind_some, allIn_cons]
    refine ev_pos h1 (ev_pos h2 (ev_pos h1 ?_))
    cases inR x lo hi with
    | true => exact ev_pos rfl ih
    | false => exact ev_neg (by simp) (ev_some rfl)
theorem impl_areWords_ev (n : Int) (l : List Int) (hl : l.length ≤ 9000000000000000000) : Ev (fun k => impl_areWords.f k n l) (areW n l) := by
  unfold impl_areWords.f areW
  refine ev_bind0 (impl_isBits_eq _) ?_
  by_cases h : inR n 1 10 = true
  · have h' := inR_iff.1 h
    refine ev_pos h ?_
    rw [h, Bool.true_and]
    by_cases hlen : (l.length : Int) ≤ 1100
    · refine ev_pos hlen (ev_pos (by omega) (ev_bind (impl_allWithin_ev l 0 _ hl) (ev_some ?_)))
      rw [decide_eq_true hlen, Bool.true_and]; rfl
    · exact ev_neg hlen (ev_some (by rw [decide_eq_false hlen]; rfl))
  · refine ev_neg h (ev_some ?_)
    simp only [Bool.not_eq_true] at h
    rw [h]; rfl
theorem u64_of (x : Nat) (h : x < 1000000) : IntKind.u64.wrap (x : Int) = (x : Int) := by
  have : IntKind.u64.wrap (x : Int) = (x : Int) % 18446744073709551616 := by simp [IntKind.wrap, IntKind.bits, IntKind.signed]
  rw [this]; omega
theorem tz_of (x : Nat) (h : x < 1000000) : bits_TrailingZeros.f (x : Int) = some (Lib.ctz 64 x : Int) := by
  unfold bits_TrailingZeros.f
  rw [if_pos ⟨by omega, by omega⟩, Int.toNat_natCast]
theorem oc_table : ∀ w : Fin 1024, bits_OnesCount.f (IntKind.u64.wrap (w.1 : Int)) = some (popc 10 w.1 : Int) := by decide +kernel
theorem spec_gcBit_int (a b : Int) (ha : 0 ≤ a ∧ a < 1024) (hb : 0 ≤ b ∧ b < 1024) : Ev (fun k => spec_gcBit.f k a b) (dl a b) := by
  obtain ⟨a, rfl⟩ := Int.eq_ofNat_of_zero_le ha.1
  obtain ⟨b, rfl⟩ := Int.eq_ofNat_of_zero_le hb.1
  exact spec_gcBit_ev a b (by omega) (by omega)
theorem impl_delta_int (a b : Int) (ha : 0 ≤ a ∧ a < 1024) (hb : 0 ≤ b ∧ b < 1024) : impl_delta.f a b = some (dl a b) := by
  obtain ⟨a, rfl⟩ := Int.eq_ofNat_of_zero_le ha.1
  obtain ⟨b, rfl⟩ := Int.eq_ofNat_of_zero_le hb.1
  have hx : a ^^^ b < 1024 := Nat.xor_lt_two_pow (n := 10) (by omega) (by omega)
  have hxx : Go.bits .xor .i64 (a : Int) (b : Int) = ((a ^^^ b : Nat) : Int) := xor_nat (by omega) (by omega)
  have h1 := oc_table ⟨a ^^^ b, hx⟩
  simp only at h1
  unfold impl_delta.f dl bitOf
  rw [hxx, h1, Int.toNat_natCast, Int.toNat_natCast, Option.bind_some, u64_of _ (by omega), tz_of _ (by omega)]
  by_cases hc : popc 10 (a ^^^ b) = 1
  · rw [if_pos hc, if_pos (by omega)]; rfl
  · rw [if_neg hc, if_neg (by omega)]
theorem spec_gcDeltas_ev (l : List Int) (hr : ∀ x ∈ l, 0 ≤ x ∧ x < 1024) (hl : l.length ≤ 1000000) : Ev (fun k => spec_gcDeltas.f k l) (pairR [] (dls l)) := by
  cases l with
  | nil =>
    unfold spec_gcDeltas.f
    refine ev_shift ?_
    simp only [spec_gcDeltas.l0]
    exact ev_neg (by simp) (ev_some rfl)
  | cons y r =>
    have key : ∀ suf pre, y :: r = pre ++ suf → ∀ q p out, pre = q ++ [p] → out.length = q.length → Ev (fun k => spec_gcDeltas.l0 k (y :: r) out (pre.length : Int)) (pairR out (dlF p suf)) := by
      refine range_ind (l := y :: r) (by omega) (fun pre suf => ∀ q p out, pre = q ++ [p] → out.length = q.length → Ev (fun k => spec_gcDeltas.l0 k (y :: r) out (pre.length : Int)) (pairR out (dlF p suf))) ?_ ?_
      · intro q p out _ _
        refine ev_shift ?_
        simp only [spec_gcDeltas.l0]
        exact ev_neg (by omega) (ev_some (by simp [pairR, dlF]))
      · intro pre x suf h hx h1 h2 h3 ih q p out hq ho
        have hp := rd_prev q p (x :: suf) (by rw [← hq]; rw [h] at hl; simp at hl ⊢; omega)
        rw [← hq, ← h] at hp
        have hql : pre.length = q.length + 1 := by rw [hq]; simp
        have hpr := hr p (by rw [h, hq]; simp)
        have hxr := hr x (by rw [h]; simp)
        refine ev_shift ?_
        simp only [spec_gcDeltas.l0, hx, h3, hp.1, hp.2, dlF]
        refine ev_pos h1 (ev_pos (by omega) (ev_pos (by omega) (ev_pos h2 (ev_bind (spec_gcBit_int p x hpr hxr) ?_))))
        by_cases hlt : dl p x < 0
        · refine ev_pos hlt (ev_some ?_)
          rw [if_pos hlt]; rfl
        · refine ev_neg hlt (ev_pos (by omega) ?_)
          rw [if_neg hlt, pairR_cons]
          exact ih pre x (out ++ [dl p x]) rfl (by simp; omega)
    exact key r [y] rfl [] y [] rfl rfl
theorem impl_deltas_ev (l : List Int) (hr : ∀ x ∈ l, 0 ≤ x ∧ x < 1024) (hl : l.length ≤ 1000000) : Ev (fun k => impl_deltas.f k l) (pairR [] (dls l)) := by
  cases l with
  | nil =>
    unfold impl_deltas.f
    refine ev_shift ?_
    simp only [impl_deltas.l0]
    exact ev_neg (by simp) (ev_some rfl)
  | cons y r =>
    have key : ∀ suf pre, y :: r = pre ++ suf → ∀ q p out, pre = q ++ [p] → out.length = q.length → Ev (fun k => impl_deltas.l0 k (y :: r) out (pre.length : Int)) (pairR out (dlF p suf)) := by
      refine range_ind (l := y :: r) (by omega) (fun pre suf => ∀ q p out, pre = q ++ [p] → out.length = q.length → Ev (fun k => impl_deltas.l0 k (y :: r) out (pre.length : Int)) (pairR out (dlF p suf))) ?_ ?_
      · intro q p out _ _
        refine ev_shift ?_
        simp only [impl_deltas.l0]
        exact ev_neg (by omega) (ev_some (by simp [pairR, dlF]))
      · intro pre x suf h hx h1 h2 h3 ih q p out hq ho
        have hp := rd_prev q p (x :: suf) (by rw [← hq]; rw [h] at hl; simp at hl ⊢; omega)
        rw [← hq, ← h] at hp
        have hql : pre.length = q.length + 1 := by rw [hq]; simp
        have hpr := hr p (by rw [h, hq]; simp)
        have hxr := hr x (by rw [h]; simp)
        refine ev_shift ?_
        simp only [impl_deltas.l0, hx, h3, hp.1, hp.2, dlF]
        refine ev_pos h1 (ev_pos (by omega) (ev_pos (by omega) (ev_pos h2 (ev_bind0 (impl_delta_int p x hpr hxr) ?_))))
        by_cases hlt : dl p x < 0
        · refine ev_pos hlt (ev_some ?_)
          rw [if_pos hlt]; rfl
        · refine ev_neg hlt (ev_pos (by omega) ?_)
          rw [if_neg hlt, pairR_cons]
          exact ih pre x (out ++ [dl p x]) rfl (by simp; omega)
    exact key r [y] rfl [] y [] rfl rfl
theorem spec_l1Has_ev (l : List Int) (x : Int) (hl : l.length ≤ 9000000000000000000) : Ev (fun k => spec_l1Has.f k l x) (l.contains x) := by
  refine range_all hl (fun pre suf => Ev (fun k => spec_l1Has.l0 k x l (l.length : Int) (pre.length : Int)) (suf.contains x)) ?_ ?_
  · refine ev_shift ?_
    simp only [spec_l1Has.l0]
    exact ev_neg (by omega) (ev_some rfl)
  · intro pre y suf h hx h1 h2 h3 ih
    refine ev_shift ?_
    simp only [spec_l1Has.l0, hx, h3]
    refine ev_pos h1 (ev_pos h2 (ev_pos h1 ?_))
    by_cases e : y = x
    · exact ev_pos e (ev_some (by simp [e]))
    · refine ev_neg e ?_
      have : (y :: suf).contains x = suf.contains x := by simp [Ne.symm e]
      rw [this]; exact ih
theorem rd_last (l : List Int) (h : 0 < l.length) (h2 : l.length ≤ 1000000) : wrap64 ((l.length : Int) - 1) = ((l.length - 1 : Nat) : Int) ∧ rd l ((l.length - 1 : Nat) : Int) = lastZ l := by
  have e : ((l.length - 1 : Nat) : Int) = (l.length : Int) - 1 := by omega
  refine ⟨by rw [w64 (by omega) (by omega), e], ?_⟩
  unfold lastZ; rw [e]
theorem spec_gcCode_ev (n : Nat) (hn : n ≤ 10) (l : List Int) (hr : ∀ x ∈ l, 0 ≤ x ∧ x < 1024) (hl : l.length ≤ 1000000) : Ev (fun k => spec_gcCode.f k (n : Int) l) (codeB (n : Int) l) := by
  unfold spec_gcCode.f
  have hle : l.length ≤ 9000000000000000000 := by omega
  have key : ∀ suf pre, l = pre ++ suf → pre.Nodup → Ev (fun k => spec_gcCode.l0 k (n : Int) l l (l.length : Int) (pre.length : Int)) (codeB (n : Int) l) := by
    refine range_ind hle (fun pre suf => pre.Nodup → Ev (fun k => spec_gcCode.l0 k (n : Int) l l (l.length : Int) (pre.length : Int)) (codeB (n : Int) l)) ?_ ?_
    · intro hnd
      refine ev_shift ?_
      simp only [spec_gcCode.l0]
      refine ev_neg (by omega) (ev_bind (spec_gcDeltas_ev l hr hl) ?_)
      unfold codeB
      rw [decide_eq_true hnd, Bool.true_and]
      cases hd : dls l with
      | none => exact ev_neg (by simp [pairR]) (ev_some rfl)
      | some d =>
        refine ev_pos (by simp [pairR]) (ev_pos (by omega) (ev_some ?_))
        rw [Bool.eq_iff_iff]; simp
    · intro pre x suf h hx h1 h2 h3 ih hnd
      have ht : l.take pre.length = pre := by rw [h]; simp
      refine ev_shift ?_
      simp only [spec_gcCode.l0, hx, h3, Int.toNat_natCast, ht]
      refine ev_pos h1 (ev_pos h2 (ev_pos h1 (ev_pos (by omega) (ev_bind (spec_l1Has_ev pre x (by omega)) ?_))))
      by_cases hc : pre.contains x = true
      · refine ev_pos hc (ev_some ?_)
        have : ¬ l.Nodup := by
          rw [h, List.nodup_append]
          rintro ⟨_, _, h5⟩
          exact h5 x (by simpa using hc) x (by simp) rfl
        unfold codeB
        rw [decide_eq_false this, Bool.false_and]
      · refine ev_neg hc (ih ?_)
        rw [List.nodup_append]
        refine ⟨hnd, by simp, ?_⟩
        intro a ha b hb e
        simp only [List.mem_singleton] at hb
        subst hb; subst e
        exact hc (by simpa using ha)
  exact key l [] rfl (by simp)
theorem impl_isCode_ev (n : Nat) (hn : n ≤ 10) (l : List Int) (hr : ∀ x ∈ l, 0 ≤ x ∧ x < 1024) (hl : l.length ≤ 1000000) : Ev (fun k => impl_isCode.f k (n : Int) l) (codeB (n : Int) l) := by
  unfold impl_isCode.f codeB
  refine ev_bind (impl_deltas_ev l hr hl) ?_
  cases hd : dls l with
  | none => exact ev_neg (by simp [pairR]) (ev_some (by simp))
  | some d =>
    refine ev_pos (by simp [pairR]) (ev_pos (by omega) ?_)
    by_cases h : (l.length : Int) = shl .i64 1 (n : Int)
    · refine ev_pos h (ev_bind0 (a := incr (sortZ l)) (by unfold impl_different.f; rw [if_pos hl]) (ev_some ?_))
      rw [incr_sortZ, decide_eq_true h]; simp
    · refine ev_neg h (ev_some ?_)
      rw [decide_eq_false h]; simp
theorem code_len {n : Nat} (hn : n ≤ 10) {l : List Int} (h : codeB (n : Int) l = true) : l.length = 2 ^ n := by
  simp only [codeB, Bool.and_eq_true, decide_eq_true_eq] at h
  have := h.2.2
  rw [shl_one' hn] at this
  exact_mod_cast this
theorem spec_gcRound_ev (n : Nat) (hn : n ≤ 10) (l : List Int) (hr : ∀ x ∈ l, 0 ≤ x ∧ x < 1024) (hl : l.length ≤ 1000000) : Ev (fun k => spec_gcRound.f k (n : Int) l) (roundB (n : Int) l) := by
  unfold spec_gcRound.f roundB
  refine ev_bind (spec_gcCode_ev n hn l hr hl) ?_
  by_cases h : codeB (n : Int) l = true
  · have hlen := code_len hn h
    have hp := Nat.two_pow_pos n
    have hla := rd_last l (by omega) hl
    rw [h, Bool.true_and, hla.1, hla.2]
    refine ev_pos rfl (ev_pos (by omega) (ev_pos (by omega) (ev_pos (by omega) (ev_bind (spec_gcBit_int _ _ (hr _ ?_) (hr _ ?_)) (ev_some rfl)))))
    · rw [← hla.2]; exact rd_mem (by omega)
    · exact rd_mem (j := 0) (by omega)
  · simp only [Bool.not_eq_true] at h
    rw [h]
    exact ev_neg (by simp) (ev_some rfl)
theorem impl_isRoundCode_ev (n : Nat) (hn : n ≤ 10) (l : List Int) (hr : ∀ x ∈ l, 0 ≤ x ∧ x < 1024) (hl : l.length ≤ 1000000) : Ev (fun k => impl_isRoundCode.f k (n : Int) l) (roundB (n : Int) l) := by
  unfold impl_isRoundCode.f roundB
  refine ev_bind (impl_isCode_ev n hn l hr hl) ?_
  by_cases h : codeB (n : Int) l = true
  · have hlen := code_len hn h
    have hp := Nat.two_pow_pos n
    have hla := rd_last l (by omega) hl
    rw [h, Bool.true_and, hla.1, hla.2]
    refine ev_pos rfl (ev_pos (by omega) (ev_pos (by omega) (ev_pos (by omega) (ev_bind0 (impl_delta_int _ _ (hr _ ?_) (hr _ ?_)) (ev_some rfl)))))
    · rw [← hla.2]; exact rd_mem (by omega)
    · exact rd_mem (j := 0) (by omega)
  · simp only [Bool.not_eq_true] at h
    rw [h]
    exact ev_neg (by simp) (ev_some rfl)
theorem tmod_at {a L : Nat} (h : a < 100000) : Int.tmod (wrap64 ((a : Int))) (L : Int) = ((a % L : Nat) : Int) := by
  rw [w64 (by omega) (by omega)]; rfl
theorem hit_full {d : List Int} {i : Nat} (hi : i < d.length) : rd d (((i + d.length) % d.length : Nat) : Int) = rd d (i : Int) := by
  rw [Nat.add_mod_right, Nat.mod_eq_of_lt hi]
theorem ring_mem {l : List Int} (h0 : l ≠ []) {P : Int → Prop} (h : ∀ x ∈ l, P x) : ∀ x ∈ l ++ [rd l 0], P x := by
  intro x hx
  rcases List.mem_append.1 hx with hx | hx
  · exact h x hx
  · simp only [List.mem_singleton] at hx
    subst hx
    exact h _ (rd_mem (j := 0) (by cases l with | nil => exact absurd rfl h0 | cons _ _ => simp))
theorem round_len {n : Nat} (hn : n ≤ 10) {l : List Int} (h : roundB (n : Int) l = true) : l.length = 2 ^ n ∧ l ≠ [] := by
  simp only [roundB, Bool.and_eq_true] at h
  have := code_len hn h.1
  refine ⟨this, ?_⟩
  intro e; subst e
  have h2 := Nat.two_pow_pos n
  simp only [List.length_nil] at this
  omega
theorem spec_gcAround_ev (l : List Int) (h0 : l ≠ []) (hr : ∀ x ∈ l, 0 ≤ x ∧ x < 1024) (hl : l.length ≤ 100000) (hd : dls (l ++ [rd l 0]) = some (ringD l)) : Ev (fun k => spec_gcAround.f k l) (ringD l) := by
  have hpos : 0 < l.length := by cases l with | nil => exact absurd rfl h0 | cons _ _ => simp
  unfold spec_gcAround.f
  refine ev_bind0 (a := l) (by unfold spec_l1Own.f; simp; omega) ?_
  refine ev_pos (by omega) (ev_bind0 rfl (ev_pos (by simp; omega) ?_))
  have := spec_gcDeltas_ev (l ++ [rd l 0]) (ring_mem h0 hr) (by simp; omega)
  rw [hd] at this
  exact ev_bind this (ev_some (by simp [pairR]))
theorem impl_roundDeltas_ev (n : Int) (l : List Int) (hl : l.length ≤ 9000000000000000000) : Ev (fun k => impl_roundDeltas.f k n l) (if areW n l = true ∧ roundB n l = true then (ringD l, true) else ([], false)) := by
  unfold impl_roundDeltas.f
  refine ev_bind (impl_areWords_ev n l hl) ?_
  by_cases h : areW n l = true
  · obtain ⟨m, rfl, h1, h2, h3, h4⟩ := areW_nat h
    refine ev_pos h (ev_bind (impl_isRoundCode_ev m h2 l (areW_range h) (by omega)) (ev_shift ?_))
    simp only [impl_roundDeltas.j0]
    by_cases hb : roundB (m : Int) l = true
    · rw [if_pos ⟨h, hb⟩]
      have h5 := round_len h2 hb
      have h6 := round_ring hb h5.2
      have hp := Nat.two_pow_pos m
      refine ev_neg (by simp [hb]) (ev_bind0 (a := l) (by unfold impl_copied.f; simp; omega) ?_)
      refine ev_pos (by omega) (ev_bind0 rfl (ev_pos (by simp; omega) ?_))
      have := impl_deltas_ev (l ++ [rd l 0]) (ring_mem h5.2 (areW_range h)) (by simp; omega)
      rw [h6.1] at this
      exact ev_bind this (ev_some (by simp [pairR]))
    · rw [if_neg (fun c => hb c.2)]
      simp only [Bool.not_eq_true] at hb
      exact ev_pos (by simp [hb]) (ev_some rfl)
  · rw [if_neg (fun c => h c.1)]
    refine ev_neg h (ev_shift ?_)
    simp only [impl_roundDeltas.j0]
    exact ev_pos (by trivial) (ev_some rfl)
theorem spec_gcChanges_ev (m : Nat) (hm : m ≤ 10) (d : List Int) (hr : ∀ x ∈ d, 0 ≤ x ∧ x < m) (hl : d.length ≤ 1000000) : Ev (fun k => spec_gcChanges.f k (m : Int) d) (cnts m d) := by
  unfold spec_gcChanges.f
  refine ev_pos (by omega) (ev_pos (by omega) ?_)
  rw [Int.toNat_natCast, cnts_nil]
  have hle : d.length ≤ 9000000000000000000 := by omega
  refine range_all hle (fun pre suf => Ev (fun k => spec_gcChanges.l0 k (cnts m pre) d (d.length : Int) (pre.length : Int)) (cnts m d)) ?_ ?_
  · refine ev_shift ?_
    simp only [spec_gcChanges.l0]
    exact ev_neg (by omega) (ev_some rfl)
  · intro pre x suf h hx h1 h2 h3 ih
    have hxr := hr x (by rw [h]; simp)
    obtain ⟨q, rfl⟩ := Int.eq_ofNat_of_zero_le hxr.1
    have hc : pre.count ((q : Nat) : Int) ≤ pre.length := List.count_le_length
    refine ev_shift ?_
    simp only [spec_gcChanges.l0, hx, h3]
    refine ev_pos h1 (ev_pos h2 (ev_pos h1 (ev_pos hxr.1 (ev_pos (by rw [cnts_length]; exact hxr.2) ?_))))
    have hq : q < m := by omega
    rw [w64 (by rw [cnts_rd _ hq]; omega) (by rw [cnts_rd _ hq]; omega), Int.toNat_natCast, cnts_step _ hq]
    exact ih
theorem impl_counted_ev (m : Nat) (hm : m ≤ 10) (d : List Int) (hr : ∀ x ∈ d, 0 ≤ x ∧ x < m) (hl : d.length ≤ 1000000) : Ev (fun k => impl_counted.f k (m : Int) d) (cnts m d) := by
  unfold impl_counted.f
  refine ev_pos (by omega) (ev_pos (by omega) ?_)
  rw [Int.toNat_natCast, cnts_nil]
  have hle : d.length ≤ 9000000000000000000 := by omega
  refine range_all hle (fun pre suf => Ev (fun k => impl_counted.l0 k (cnts m pre) d (d.length : Int) (pre.length : Int)) (cnts m d)) ?_ ?_
  · refine ev_shift ?_
    simp only [impl_counted.l0]
    exact ev_neg (by omega) (ev_some rfl)
  · intro pre x suf h hx h1 h2 h3 ih
    have hxr := hr x (by rw [h]; simp)
    obtain ⟨q, rfl⟩ := Int.eq_ofNat_of_zero_le hxr.1
    have hc : pre.count ((q : Nat) : Int) ≤ pre.length := List.count_le_length
    refine ev_shift ?_
    simp only [impl_counted.l0, hx, h3]
    refine ev_pos h1 (ev_pos h2 (ev_pos h1 (ev_pos hxr.1 (ev_pos (by rw [cnts_length]; exact hxr.2) ?_))))
    have hq : q < m := by omega
    rw [w64 (by rw [cnts_rd _ hq]; omega) (by rw [cnts_rd _ hq]; omega), Int.toNat_natCast, cnts_step _ hq]
    exact ih
theorem maxZ_facts (l : List Int) : ∀ a : Int, a ≤ l.foldl max a ∧ (∀ x ∈ l, x ≤ l.foldl max a) ∧ (l.foldl max a = a ∨ l.foldl max a ∈ l) := by
  induction l with
  | nil => intro a; simp
  | cons x r ih =>
    intro a
    obtain ⟨h1, h2, h3⟩ := ih (max a x)
    simp only [List.foldl_cons]
    refine ⟨by omega, ?_, ?_⟩
    · intro y hy
      rcases List.mem_cons.1 hy with rfl | hy
      · omega
      · exact h2 y hy
    · rcases h3 with h | h
      · rw [h]
        by_cases c : a ≤ x
        · right; rw [Int.max_eq_right c]; simp
        · left; exact Int.max_eq_left (by omega)
      · right; exact List.mem_cons_of_mem _ h
theorem minZ_facts (l : List Int) : ∀ a : Int, l.foldl min a ≤ a ∧ (∀ x ∈ l, l.foldl min a ≤ x) ∧ (l.foldl min a = a ∨ l.foldl min a ∈ l) := by
  induction l with
  | nil => intro a; simp
  | cons x r ih =>
    intro a
    obtain ⟨h1, h2, h3⟩ := ih (min a x)
    simp only [List.foldl_cons]
    refine ⟨by omega, ?_, ?_⟩
    · intro y hy
      rcases List.mem_cons.1 hy with rfl | hy
      · omega
      · exact h2 y hy
    · rcases h3 with h | h
      · rw [h]
        by_cases c : x ≤ a
        · right; rw [Int.min_eq_right c]; simp
        · left; exact Int.min_eq_left (by omega)
      · right; exact List.mem_cons_of_mem _ h
theorem max_min_all {l : List Int} (h0 : l ≠ []) : decide (maxZ l - minZ l ≤ 2) = l.all fun a => l.all fun b => decide (a ≤ b + 2) := by
  cases l with
  | nil => exact absurd rfl h0
  | cons x r =>
    obtain ⟨a1, a2, a3⟩ := maxZ_facts (x :: r) x
    obtain ⟨b1, b2, b3⟩ := minZ_facts (x :: r) x
    have ea : maxZ (x :: r) = (x :: r).foldl max x := rfl
    have eb : minZ (x :: r) = (x :: r).foldl min x := rfl
    rw [ea, eb]
    have ma : (x :: r).foldl max x ∈ x :: r := by rcases a3 with h | h; rw [h]; simp; exact h
    have mb : (x :: r).foldl min x ∈ x :: r := by rcases b3 with h | h; rw [h]; simp; exact h
    generalize (x :: r).foldl max x = A at *
    generalize (x :: r).foldl min x = B at *
    rw [Bool.eq_iff_iff, decide_eq_true_eq, List.all_eq_true]
    constructor
    · intro h a ha
      rw [List.all_eq_true]
      intro b hb
      have := a2 a ha; have := b2 b hb
      exact decide_eq_true (by omega)
    · intro h
      have h1 := h A ma
      rw [List.all_eq_true] at h1
      have := of_decide_eq_true (h1 B mb)
      omega
theorem maxZ_mem {l : List Int} (h0 : l ≠ []) : maxZ l ∈ l ∧ minZ l ∈ l := by
  cases l with
  | nil => exact absurd rfl h0
  | cons x r =>
    constructor
    · have := (maxZ_facts (x :: r) x).2.2
      have ea : maxZ (x :: r) = (x :: r).foldl max x := rfl
      rw [ea]; rcases this with h | h; rw [h]; simp; exact h
    · have := (minZ_facts (x :: r) x).2.2
      have ea : minZ (x :: r) = (x :: r).foldl min x := rfl
      rw [ea]; rcases this with h | h; rw [h]; simp; exact h
def evP (n : Int) (l : List Int) : Bool × Bool := if areW n l = true ∧ roundB n l = true then ((cnts n.toNat (ringD l)).all (fun a => (cnts n.toNat (ringD l)).all fun b => decide (a ≤ b + 2)), true) else (false, false)
theorem spec_Even_in (cs : List Int) (hl : cs.length ≤ 100) (hc : ∀ c ∈ cs, 0 ≤ c ∧ c ≤ 100000) (a : Int) (i : Nat) (hi : i < cs.length) (R : Bool × Bool)
    (ho : Ev (fun k => spec_IsEvenlyChanged.l0 k cs cs (cs.length : Int) ((i + 1 : Nat) : Int)) R) :
    Ev (fun k => spec_IsEvenlyChanged.l1 k cs a cs (cs.length : Int) (i : Int) cs (cs.length : Int) 0) (if (cs.all fun b => decide (a ≤ b + 2)) = true then R else (false, true)) := by
  have ew : wrap64 ((i : Int) + 1) = ((i + 1 : Nat) : Int) := by rw [w64 (by omega) (by omega)]; omega
  refine range_all (l := cs) (by omega) (fun pre suf => Ev (fun k => spec_IsEvenlyChanged.l1 k cs a cs (cs.length : Int) (i : Int) cs (cs.length : Int) (pre.length : Int)) (if (suf.all fun b => decide (a ≤ b + 2)) = true then R else (false, true))) ?_ ?_
  · refine ev_shift ?_
    simp only [spec_IsEvenlyChanged.l1, ew]
    exact ev_neg (by omega) (by simpa using ho)
  · intro pre x suf h hx h1 h2 h3 ih
    have hxr := hc x (by rw [h]; simp)
    refine ev_shift ?_
    simp only [spec_IsEvenlyChanged.l1, hx, h3, ew]
    rw [w64 (x := x + 2) (by omega) (by omega)]
    refine ev_pos h1 (ev_pos h2 (ev_pos h1 ?_))
    by_cases e : a > x + 2
    · refine ev_pos e (ev_some ?_)
      rw [List.all_cons, decide_eq_false (by omega), Bool.false_and, if_neg (by decide)]
    · refine ev_neg e ?_
      rw [List.all_cons, decide_eq_true (by omega), Bool.true_and]
      exact ih
theorem spec_Even_out (cs : List Int) (hl : cs.length ≤ 100) (hc : ∀ c ∈ cs, 0 ≤ c ∧ c ≤ 100000) : Ev (fun k => spec_IsEvenlyChanged.l0 k cs cs (cs.length : Int) 0) (cs.all fun a => cs.all fun b => decide (a ≤ b + 2), true) := by
  refine range_all (l := cs) (by omega) (fun pre suf => Ev (fun k => spec_IsEvenlyChanged.l0 k cs cs (cs.length : Int) (pre.length : Int)) (suf.all fun a => cs.all fun b => decide (a ≤ b + 2), true)) ?_ ?_
  · refine ev_shift ?_
    simp only [spec_IsEvenlyChanged.l0]
    exact ev_neg (by omega) (ev_some rfl)
  · intro pre x suf h hx h1 h2 h3 ih
    refine ev_shift ?_
    simp only [spec_IsEvenlyChanged.l0, hx]
    rw [List.length_append, List.length_singleton] at ih
    have := spec_Even_in cs hl hc x pre.length (by omega) _ ih
    refine ev_pos h1 (ev_pos h2 (ev_pos h1 ?_))
    rw [List.all_cons]
    by_cases e : (cs.all fun b => decide (x ≤ b + 2)) = true
    · rw [if_pos e] at this
      rw [e, Bool.true_and]; exact this
    · rw [if_neg e] at this
      simp only [Bool.not_eq_true] at e
      rw [e, Bool.false_and]; exact this
theorem ringD_mem {m : Nat} (h2 : m ≤ 10) {l : List Int} (h0 : l ≠ []) (h4 : ∀ x ∈ l, 0 ≤ x ∧ x < ((2 ^ m : Nat) : Int)) (hd : dls (l ++ [rd l 0]) = some (ringD l)) : ∀ x ∈ ringD l, 0 ≤ x ∧ x < m := dls_mem h2 (ring_mem h0 h4) hd
theorem cnts_mem {m : Nat} {d : List Int} {c : Int} (h : c ∈ cnts m d) : 0 ≤ c ∧ c ≤ d.length := by
  simp only [cnts, List.mem_map, List.mem_range] at h
  obtain ⟨i, _, rfl⟩ := h
  have : d.count ((i : Nat) : Int) ≤ d.length := List.count_le_length
  omega
theorem spec_IsEvenlyChanged_ev (n : Int) (l : List Int) (hl : l.length ≤ 9000000000000000000) : Ev (fun k => spec_IsEvenlyChanged.f k n l) (evP n l) := by
  unfold spec_IsEvenlyChanged.f evP
  refine ev_bind (spec_gcWords_ev n l hl) ?_
  by_cases h : areW n l = true
  · obtain ⟨m, rfl, h1, h2, h3, h4⟩ := areW_nat h
    refine ev_pos h (ev_bind (spec_gcRound_ev m h2 l (areW_range h) (by omega)) (ev_shift ?_))
    simp only [spec_IsEvenlyChanged.j0]
    by_cases hb : roundB (m : Int) l = true
    · rw [if_pos ⟨h, hb⟩, Int.toNat_natCast]
      have h5 := round_len h2 hb
      have h6 := round_ring hb h5.2
      refine ev_neg (by simp [hb]) (ev_bind (spec_gcAround_ev l h5.2 (areW_range h) (by omega) h6.1) (ev_bind (spec_gcChanges_ev m h2 (ringD l) (ringD_mem h2 h5.2 h4 h6.1) (by omega)) ?_))
      exact spec_Even_out (cnts m (ringD l)) (by rw [cnts_length]; omega) (fun c hc => by have := cnts_mem hc; omega)
    · rw [if_neg (fun c => hb c.2)]
      simp only [Bool.not_eq_true] at hb
      exact ev_pos (by simp [hb]) (ev_some rfl)
  · rw [if_neg (fun c => h c.1)]
    refine ev_neg h (ev_shift ?_)
    simp only [spec_IsEvenlyChanged.j0]
    exact ev_pos (by trivial) (ev_some rfl)
theorem impl_IsEvenlyChanged_ev (n : Int) (l : List Int) (hl : l.length ≤ 9000000000000000000) : Ev (fun k => impl_IsEvenlyChanged.f k n l) (evP n l) := by
  unfold impl_IsEvenlyChanged.f evP
  refine ev_bind (impl_roundDeltas_ev n l hl) ?_
  by_cases h : areW n l = true ∧ roundB n l = true
  · obtain ⟨m, rfl, h1, h2, h3, h4⟩ := areW_nat h.1
    have h5 := round_len h2 h.2
    have h6 := round_ring h.2 h5.2
    rw [if_pos h, if_pos h, Int.toNat_natCast]
    have hne : cnts m (ringD l) ≠ [] := by
      intro e
      have := cnts_length m (ringD l)
      rw [e] at this
      simp at this; omega
    have hmm := maxZ_mem hne
    have b1 := cnts_mem hmm.1
    have b2 := cnts_mem hmm.2
    refine ev_pos rfl (ev_bind (impl_counted_ev m h2 (ringD l) (ringD_mem h2 h5.2 h4 h6.1) (by omega)) ?_)
    refine ev_bind0 (a := maxZ (cnts m (ringD l))) (by unfold slices_Max_int_int.f; rw [if_pos (by rw [cnts_length]; omega)]) ?_
    refine ev_bind0 (a := minZ (cnts m (ringD l))) (by unfold slices_Min_int_int.f; rw [if_pos (by rw [cnts_length]; omega)]) (ev_some ?_)
    rw [w64 (by omega) (by omega), max_min_all hne]
  · rw [if_neg h, if_neg h]
    exact ev_neg (by simp) (ev_some rfl)
theorem FnExactIsEvenlyChanged : laws_FnExactIsEvenlyChanged.Pure := by
  intro n l hn hl1 hl2 hl
  apply ev_le
  unfold laws_FnExactIsEvenlyChanged.f
  by_cases hb : (l.length : Int) > 1048576
  · exact ev_pos hb (ev_some rfl)
  have hs := spec_IsEvenlyChanged_ev n l (by omega)
  have hi := impl_IsEvenlyChanged_ev n l (by omega)
  generalize evP n l = p at hs hi
  obtain ⟨out, ok⟩ := p
  refine ev_neg hb ?_
  repeat (first
      | exact ev_some rfl
      | refine ev_bind (laws_toIntS_ev _ (by omega)) ?_
      | refine ev_bind (laws_eqIntS_ev _ (by omega)) ?_
      | refine ev_bind hs ?_
      | refine ev_bind hi ?_
      | refine ev_pos rfl ?_
      | refine ev_pos trivial ?_
      | refine ev_neg neq_self ?_
      | dsimp only
      | refine ev_neg (by omega) ?_
      | (refine ev_shift ?_; simp only [laws_FnExactIsEvenlyChanged.j0]))

end Go.Proofs.YtnhifbopicjicaaDoor.Pure
