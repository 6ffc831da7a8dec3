/- The law FnExactLeastRun returns true for every number and every list (reach and kinds as the row says); no condition of ours. -/
import Derived.Test.YtnhifbopicjicaaDoorQFnExactLeastRunx6
import Derived.Test.YtnhifbopicjicaaDoorMth
import Derived.Test.YtnhifbopicjicaaDoorMthCode
import Derived.Test.YtnhifbopicjicaaDoorMthDeltas
import Derived.Test.YtnhifbopicjicaaDoorMthRuns
set_option linter.unusedVariables false
set_option linter.unusedSimpArgs false
namespace Go.Proofs.YtnhifbopicjicaaDoor.Pure
open Go.RowKit Go.Proofs.YtnhifbopicjicaaDoor.Mth Go.Proofs.YtnhifbopicjicaaDoor.PFnExactLeastRun Go.Proofs.YtnhifbopicjicaaDoorW.PrintWords Go.Proofs.YtnhifbopicjicaaDoorW.PrintLast

theorem laws_toIntS_ev (l : List Int) (hl : l.length ≤ 1048576) : Ev (fun k => laws_toIntS.f k l) l := by
  unfold laws_toIntS.f
  refine ev_pos (by omega) (ev_pos (by omega) ?_)
  refine range_all (l := l) (by omega) (fun pre suf => Ev (fun k => laws_toIntS.l0 k l (pre ++ List.replicate suf.length 0) (pre.length : Int)) l) ?_ ?_
  · refine ev_shift ?_
    simp only [laws_toIntS.l0]
    exact ev_neg (by omega) (ev_some (by simp))
  · intro pre x suf h hx h1 h2 h3 ih
    refine ev_shift ?_
    simp only [laws_toIntS.l0, hx, h3, List.length_cons, List.replicate_succ, set_at]
    refine ev_pos h1 (ev_pos h2 (ev_pos (by simp; omega) ?_))
    simpa using ih
theorem laws_eqIntS_ev (l : List Int) (hl : l.length ≤ 9000000000000000000) : Ev (fun k => laws_eqIntS.f k l l) true := by
  unfold laws_eqIntS.f
  refine ev_pos rfl ?_
  refine range_all hl (fun pre suf => Ev (fun k => laws_eqIntS.l0 k l l (pre.length : Int)) true) ?_ ?_
  · refine ev_shift ?_
    simp only [laws_eqIntS.l0]
    exact ev_neg (by omega) (ev_some rfl)
  · intro pre x suf h hx h1 h2 h3 ih
    refine ev_shift ?_
    simp only [laws_eqIntS.l0, h3]
    exact ev_pos h1 (ev_pos h2 (ev_pos h1 (ev_pos (by trivial) ih)))
theorem spec_gcBit_ev (a b : Nat) (ha : a < 1024) (hb : b < 1024) : Ev (fun k => spec_gcBit.f k (a : Int) (b : Int)) (bitOf (a ^^^ b)) := by
  have hx : a ^^^ b < 1024 := Nat.xor_lt_two_pow (n := 10) ha hb
  have hxx : Go.bits .xor .i64 (a : Int) (b : Int) = ((a ^^^ b : Nat) : Int) := xor_nat (by omega) (by omega)
  have t : ∀ x : Fin 1024, ∀ i : Fin 10, (((x.1 : Nat) : Int) = shl .i64 1 (i.1 : Int)) = (x.1 = 2 ^ i.1) := by
    intro x i
    have t2 : ∀ i : Fin 10, shl .i64 1 (i.1 : Int) = ((2 ^ i.1 : Nat) : Int) := by decide +kernel
    rw [t2 i]
    exact propext ⟨fun h => by exact_mod_cast h, fun h => by rw [h]⟩
  have key : ∀ d i : Nat, i + d = 10 → (∀ j, j < i → a ^^^ b ≠ 2 ^ j) → Ev (fun k => spec_gcBit.l0 k (a : Int) (b : Int) (i : Int)) (bitOf (a ^^^ b)) := by
    intro d
    induction d with
    | zero =>
      intro i hi hn
      refine ev_shift ?_
      simp only [spec_gcBit.l0]
      refine ev_neg (by omega) (ev_some ?_)
      rcases bitOf_cases hx with h | ⟨j, hj, _, he⟩
      · exact h.1.symm
      · exact absurd he (hn j (by omega))
    | succ d ih =>
      intro i hi hn
      have e1 : wrap64 ((i : Int) + 1) = ((i + 1 : Nat) : Int) := by rw [w64 (by omega) (by omega)]; omega
      refine ev_shift ?_
      simp only [spec_gcBit.l0, hxx, e1]
      refine ev_pos (by omega) (ev_pos (by omega) ?_)
      by_cases he : a ^^^ b = 2 ^ i
      · refine ev_pos (by rw [t ⟨_, hx⟩ ⟨i, by omega⟩]; exact he) (ev_some ?_)
        rw [he]; exact (bitOf_pow (by omega)).symm
      · refine ev_neg (by rw [t ⟨_, hx⟩ ⟨i, by omega⟩]; exact he) (ih (i + 1) (by omega) (fun j hj => ?_))
        by_cases e : j = i
        · subst e; exact he
        · exact hn j (by omega)
  exact key 10 0 rfl (fun j hj => by omega)
theorem spec_l1In_eq (a b c : Int) : spec_l1In.f a b c = some (inR a b c) := in_ite a b c
theorem spec_gcBits_eq (a : Int) : spec_gcBits.f a = some (inR a 1 10) := by simp only [spec_gcBits.f, spec_l1In_eq, Option.bind_some]
theorem spec_l1All_ev (l : List Int) (lo hi : Int) (hl : l.length ≤ 9000000000000000000) : Ev (fun k => spec_l1All.f k l lo hi) (allIn l lo hi) := by
  refine range_all hl (fun pre suf => Ev (fun k => spec_l1All.l0 k lo hi l (l.length : Int) (pre.length : Int)) (allIn suf lo hi)) ?_ ?_
  · refine ev_shift ?_
    simp only [spec_l1All.l0]
    exact ev_neg (by omega) (ev_some rfl)
  · intro pre x suf h hx h1 h2 h3 ih
    refine ev_shift ?_
    simp only [spec_l1All.l0, hx, h3, spec_l1In_eq, Option.bind_some, allIn_cons]
    refine ev_pos h1 (ev_pos h2 (ev_pos h1 ?_))
    cases inR x lo hi with
    | true => exact ev_pos rfl ih
    | false => exact ev_neg (by simp) (ev_some rfl)
theorem spec_gcWords_ev (n : Int) (l : List Int) (hl : l.length ≤ 9000000000000000000) : Ev (fun k => spec_gcWords.f k n l) (areW n l) := by
  unfold spec_gcWords.f areW
  refine ev_bind0 (spec_gcBits_eq _) ?_
  by_cases h : inR n 1 10 = true
  · have h' := inR_iff.1 h
    refine ev_pos h ?_
    rw [h, Bool.true_and]
    by_cases hlen : (l.length : Int) ≤ 1100
    · refine ev_pos hlen (ev_pos (by omega) (ev_bind (spec_l1All_ev l 0 _ hl) (ev_some ?_)))
      rw [decide_eq_true hlen, Bool.true_and]; rfl
    · exact ev_neg hlen (ev_some (by rw [decide_eq_false hlen]; rfl))
  · refine ev_neg h (ev_some ?_)
    simp only [Bool.not_eq_true] at h
    rw [h]; rfl
theorem impl_within_eq (a b c : Int) : impl_within.f a b c = some (inR a b c) := in_ite a b c
theorem impl_isBits_eq (a : Int) : impl_isBits.f a = some (inR a 1 10) := by simp only [impl_isBits.f, impl_within_eq, Option.bind_some]
theorem impl_allWithin_ev (l : List Int) (lo hi : Int) (hl : l.length ≤ 9000000000000000000) : Ev (fun k => impl_allWithin.f k l lo hi) (allIn l lo hi) := by
  refine range_all hl (fun pre suf => Ev (fun k => impl_allWithin.l0 k lo hi l (l.length : Int) (pre.length : Int)) (allIn suf lo hi)) ?_ ?_
  · refine ev_shift ?_
    simp only [impl_allWithin.l0]
    exact ev_neg (by omega) (ev_some rfl)
  · intro pre x suf h hx h1 h2 h3 ih
    refine ev_shift ?_
    simp only [impl_allWithin.l0, hx, h3, impl_within_eq, Option.bind_some, allIn_cons]
    refine ev_pos h1 (ev_pos h2 (ev_pos h1 ?_))
    cases inR x lo hi with
    | true => exact ev_pos rfl ih
    | false => exact ev_neg (by simp) (ev_some rfl)
theorem impl_areWords_ev (n : Int) (l : List Int) (hl : l.length ≤ 9000000000000000000) : Ev (fun k => impl_areWords.f k n l) (areW n l) := by
  unfold impl_areWords.f areW
  refine ev_bind0 (impl_isBits_eq _) ?_
  by_cases h : inR n 1 10 = true
  · have h' := inR_iff.1 h
    refine ev_pos h ?_
    rw [h, Bool.true_and]
    by_cases hlen : (l.length : Int) ≤ 1100
    · refine ev_pos hlen (ev_pos (by omega) (ev_bind (impl_allWithin_ev l 0 _ hl) (ev_some ?_)))
      rw [decide_eq_true hlen, Bool.true_and]; rfl
    · exact ev_neg hlen (ev_some (by rw [decide_eq_false hlen]; rfl))
  · refine ev_neg h (ev_some ?_)
    simp only [Bool.not_eq_true] at h
    rw [h]; rfl
theorem u64_of (x : Nat) (h : x < 1000000) : IntKind.u64.wrap (x : Int) = (x : Int) := by
  have : IntKind.u64.wrap (x : Int) = (x : Int) % 18446744073709551616 := by simp [IntKind.wrap, IntKind.bits, IntKind.signed]
  rw [this]; omega
theorem tz_of (x : Nat) (h : x < 1000000) : bits_TrailingZeros.f (x : Int) = some (Lib.ctz 64 x : Int) := by
  unfold bits_TrailingZeros.f
  rw [if_pos ⟨by omega, by omega⟩, Int.toNat_natCast]
theorem oc_table : ∀ w : Fin 1024, bits_OnesCount.f (IntKind.u64.wrap (w.1 : Int)) = some (popc 10 w.1 : Int) := by decide +kernel
theorem spec_gcBit_int (a b : Int) (ha : 0 ≤ a ∧ a < 1024) (hb : 0 ≤ b ∧ b < 1024) : Ev (fun k => spec_gcBit.f k a b) (dl a b) := by
  obtain ⟨a, rfl⟩ := Int.eq_ofNat_of_zero_le ha.1
  obtain ⟨b, rfl⟩ := Int.eq_ofNat_of_zero_le hb.1
  exact spec_gcBit_ev a b (by omega) (by omega)
theorem impl_delta_int (a b : Int) (ha : 0 ≤ a ∧ a < 1024) (hb : 0 ≤ b ∧ b < 1024) : impl_delta.f a b = some (dl a b) := by
  obtain ⟨a, rfl⟩ := Int.eq_ofNat_of_zero_le ha.1
  obtain ⟨b, rfl⟩ := Int.eq_ofNat_of_zero_le hb.1
  have hx : a ^^^ b < 1024 := Nat.xor_lt_two_pow (n := 10) (by omega) (by omega)
  have hxx : Go.bits .xor .i64 (a : Int) (b : Int) = ((a ^^^ b : Nat) : Int) := xor_nat (by omega) (by omega)
  have h1 := oc_table ⟨a ^^^ b, hx⟩
  simp only at h1
  unfold impl_delta.f dl bitOf
  rw [hxx, h1, Int.toNat_natCast, Int.toNat_natCast, Option.bind_some, u64_of _ (by omega), tz_of _ (by omega)]
  by_cases hc : popc 10 (a ^^^ b) = 1
  · rw [if_pos hc, if_pos (by omega)]; rfl
  · rw [if_neg hc, if_neg (by omega)]
theorem spec_gcDeltas_ev (l : List Int) (hr : ∀ x ∈ l, 0 ≤ x ∧ x < 1024) (hl : l.length ≤ 1000000) : Ev (fun k => spec_gcDeltas.f k l) (pairR [] (dls l)) := by
  cases l with
  | nil =>
    unfold spec_gcDeltas.f
    refine ev_shift ?_
    simp only [spec_gcDeltas.l0]
    exact ev_neg (by simp) (ev_some rfl)
  | cons y r =>
    have key : ∀ suf pre, y :: r = pre ++ suf → ∀ q p out, pre = q ++ [p] → out.length = q.length → Ev (fun k => spec_gcDeltas.l0 k (y :: r) out (pre.length : Int)) (pairR out (dlF p suf)) := by
      refine range_ind (l := y :: r) (by omega) (fun pre suf => ∀ q p out, pre = q ++ [p] → out.length = q.length → Ev (fun k => spec_gcDeltas.l0 k (y :: r) out (pre.length : Int)) (pairR out (dlF p suf))) ?_ ?_
      · intro q p out _ _
        refine ev_shift ?_
        simp only [spec_gcDeltas.l0]
        exact ev_neg (by omega) (ev_some (by simp [pairR, dlF]))
      · intro pre x suf h hx h1 h2 h3 ih q p out hq ho
        have hp := rd_prev q p (x :: suf) (by rw [← hq]; rw [h] at hl; simp at hl ⊢; omega)
        rw [← hq, ← h] at hp
        have hql : pre.length = q.length + 1 := by rw [hq]; simp
        have hpr := hr p (by rw [h, hq]; simp)
        have hxr := hr x (by rw [h]; simp)
        refine ev_shift ?_
        simp only [spec_gcDeltas.l0, hx, h3, hp.1, hp.2, dlF]
        refine ev_pos h1 (ev_pos (by omega) (ev_pos (by omega) (ev_pos h2 (ev_bind (spec_gcBit_int p x hpr hxr) ?_))))
        by_cases hlt : dl p x < 0
        · refine ev_pos hlt (ev_some ?_)
          rw [if_pos hlt]; rfl
        · refine ev_neg hlt (ev_pos (by omega) ?_)
          rw [if_neg hlt, pairR_cons]
          exact ih pre x (out ++ [dl p x]) rfl (by simp; omega)
    exact key r [y] rfl [] y [] rfl rfl
theorem impl_deltas_ev (l : List Int) (hr : ∀ x ∈ l, 0 ≤ x ∧ x < 1024) (hl : l.length ≤ 1000000) : Ev (fun k => impl_deltas.f k l) (pairR [] (dls l)) := by
  cases l with
  | nil =>
    unfold impl_deltas.f
    refine ev_shift ?_
    simp only [impl_deltas.l0]
    exact ev_neg (by simp) (ev_some rfl)
  | cons y r =>
    have key : ∀ suf pre, y :: r = pre ++ suf → ∀ q p out, pre = q ++ [p] → out.length = q.length → Ev (fun k => impl_deltas.l0 k (y :: r) out (pre.length : Int)) (pairR out (dlF p suf)) := by
      refine range_ind (l := y :: r) (by omega) (fun pre suf => ∀ q p out, pre = q ++ [p] → out.length = q.length → Ev (fun k => impl_deltas.l0 k (y :: r) out (pre.length : Int)) (pairR out (dlF p suf))) ?_ ?_
      · intro q p out _ _
        refine ev_shift ?_
        simp only [impl_deltas.l0]
        exact ev_neg (by omega) (ev_some (by simp [pairR, dlF]))
      · intro pre x suf h hx h1 h2 h3 ih q p out hq ho
        have hp := rd_prev q p (x :: suf) (by rw [← hq]; rw [h] at hl; simp at hl ⊢; omega)
        rw [← hq, ← h] at hp
        have hql : pre.length = q.length + 1 := by rw [hq]; simp
        have hpr := hr p (by rw [h, hq]; simp)
        have hxr := hr x (by rw [h]; simp)
        refine ev_shift ?_
        simp only [impl_deltas.l0, hx, h3, hp.1, hp.2, dlF]
        refine ev_pos h1 (ev_pos (by omega) (ev_pos (by omega) (ev_pos h2 (ev_bind0 (impl_delta_int p x hpr hxr) ?_))))
        by_cases hlt : dl p x < 0
        · refine ev_pos hlt (ev_some ?_)
          rw [if_pos hlt]; rfl
        · refine ev_neg hlt (ev_pos (by omega) ?_)
          rw [if_neg hlt, pairR_cons]
          exact ih pre x (out ++ [dl p x]) rfl (by simp; omega)
    exact key r [y] rfl [] y [] rfl rfl
theorem spec_l1Has_ev (l : List Int) (x : Int) (hl : l.length ≤ 9000000000000000000) : Ev (fun k => spec_l1Has.f k l x) (l.contains x) := by
  refine range_all hl (fun pre suf => Ev (fun k => spec_l1Has.l0 k x l (l.length : Int) (pre.length : Int)) (suf.contains x)) ?_ ?_
  · refine ev_shift ?_
    simp only [spec_l1Has.l0]
    exact ev_neg (by omega) (ev_some rfl)
  · intro pre y suf h hx h1 h2 h3 ih
    refine ev_shift ?_
    simp only [spec_l1Has.l0, hx, h3]
    refine ev_pos h1 (ev_pos h2 (ev_pos h1 ?_))
    by_cases e : y = x
    · exact ev_pos e (ev_some (by simp [e]))
    · refine ev_neg e ?_
      have : (y :: suf).contains x = suf.contains x := by simp [Ne.symm e]
      rw [this]; exact ih
theorem rd_last (l : List Int) (h : 0 < l.length) (h2 : l.length ≤ 1000000) : wrap64 ((l.length : Int) - 1) = ((l.length - 1 : Nat) : Int) ∧ rd l ((l.length - 1 : Nat) : Int) = lastZ l := by
  have e : ((l.length - 1 : Nat) : Int) = (l.length : Int) - 1 := by omega
  refine ⟨by rw [w64 (by omega) (by omega), e], ?_⟩
  unfold lastZ; rw [e]
theorem spec_gcCode_ev (n : Nat) (hn : n ≤ 10) (l : List Int) (hr : ∀ x ∈ l, 0 ≤ x ∧ x < 1024) (hl : l.length ≤ 1000000) : Ev (fun k => spec_gcCode.f k (n : Int) l) (codeB (n : Int) l) := by
  unfold spec_gcCode.f
  have hle : l.length ≤ 9000000000000000000 := by omega
  have key : ∀ suf pre, l = pre ++ suf → pre.Nodup → Ev (fun k => spec_gcCode.l0 k (n : Int) l l (l.length : Int) (pre.length : Int)) (codeB (n : Int) l) := by
    refine range_ind hle (fun pre suf => pre.Nodup → Ev (fun k => spec_gcCode.l0 k (n : Int) l l (l.length : Int) (pre.length : Int)) (codeB (n : Int) l)) ?_ ?_
    · intro hnd
      refine ev_shift ?_
      simp only [spec_gcCode.l0]
      refine ev_neg (by omega) (ev_bind (spec_gcDeltas_ev l hr hl) ?_)
      unfold codeB
      rw [decide_eq_true hnd, Bool.true_and]
      cases hd : dls l with
      | none => exact ev_neg (by simp [pairR]) (ev_some rfl)
      | some d =>
        refine ev_pos (by simp [pairR]) (ev_pos (by omega) (ev_some ?_))
        rw [Bool.eq_iff_iff]; simp
    · intro pre x suf h hx h1 h2 h3 ih hnd
      have ht : l.take pre.length = pre := by rw [h]; simp
      refine ev_shift ?_
      simp only [spec_gcCode.l0, hx, h3, Int.toNat_natCast, ht]
      refine ev_pos h1 (ev_pos h2 (ev_pos h1 (ev_pos (by omega) (ev_bind (spec_l1Has_ev pre x (by omega)) ?_))))
      by_cases hc : pre.contains x = true
      · refine ev_pos hc (ev_some ?_)
        have : ¬ l.Nodup := by
          rw [h, List.nodup_append]
          rintro ⟨_, _, h5⟩
          exact h5 x (by simpa using hc) x (by simp) rfl
        unfold codeB
        rw [decide_eq_false this, Bool.false_and]
      · refine ev_neg hc (ih ?_)
        rw [List.nodup_append]
        refine ⟨hnd, by simp, ?_⟩
        intro a ha b hb e
        simp only [List.mem_singleton] at hb
        subst hb; subst e
        exact hc (by simpa using ha)
  exact key l [] rfl (by simp)
theorem impl_isCode_ev (n : Nat) (hn : n ≤ 10) (l : List Int) (hr : ∀ x ∈ l, 0 ≤ x ∧ x < 1024) (hl : l.length ≤ 1000000) : Ev (fun k => impl_isCode.f k (n : Int) l) (codeB (n : Int) l) := by
  unfold impl_isCode.f codeB
  refine ev_bind (impl_deltas_ev l hr hl) ?_
  cases hd : dls l with
  | none => exact ev_neg (by simp [pairR]) (ev_some (by simp))
  | some d =>
    refine ev_pos (by simp [pairR]) (ev_pos (by omega) ?_)
    by_cases h : (l.length : Int) = shl .i64 1 (n : Int)
    · refine ev_pos h (ev_bind0 (a := incr (sortZ l)) (by unfold impl_different.f; rw [if_pos hl]) (ev_some ?_))
      rw [incr_sortZ, decide_eq_true h]; simp
    · refine ev_neg h (ev_some ?_)
      rw [decide_eq_false h]; simp
theorem code_len {n : Nat} (hn : n ≤ 10) {l : List Int} (h : codeB (n : Int) l = true) : l.length = 2 ^ n := by
  simp only [codeB, Bool.and_eq_true, decide_eq_true_eq] at h
  have := h.2.2
  rw [shl_one' hn] at this
  exact_mod_cast this
theorem spec_gcRound_ev (n : Nat) (hn : n ≤ 10) (l : List Int) (hr : ∀ x ∈ l, 0 ≤ x ∧ x < 1024) (hl : l.length ≤ 1000000) : Ev (fun k => spec_gcRound.f k (n : Int) l) (roundB (n : Int) l) := by
  unfold spec_gcRound.f roundB
  refine ev_bind (spec_gcCode_ev n hn l hr hl) ?_
  by_cases h : codeB (n : Int) l = true
  · have hlen := code_len hn h
    have hp := Nat.two_pow_pos n
    have hla := rd_last l (by omega) hl
    rw [h, Bool.true_and, hla.1, hla.2]
    refine ev_pos rfl (ev_pos (by omega) (ev_pos (by omega) (ev_pos (by omega) (ev_bind (spec_gcBit_int _ _ (hr _ ?_) (hr _ ?_)) (ev_some rfl)))))
    · rw [← hla.2]; exact rd_mem (by omega)
    · exact rd_mem (j := 0) (by omega)
  · simp only [Bool.not_eq_true] at h
    rw [h]
    exact ev_neg (by simp) (ev_some rfl)
theorem impl_isRoundCode_ev (n : Nat) (hn : n ≤ 10) (l : List Int) (hr : ∀ x ∈ l, 0 ≤ x ∧ x < 1024) (hl : l.length ≤ 1000000) : Ev (fun k => impl_isRoundCode.f k (n : Int) l) (roundB (n : Int) l) := by
  unfold impl_isRoundCode.f roundB
  refine ev_bind (impl_isCode_ev n hn l hr hl) ?_
  by_cases h : codeB (n : Int) l = true
  · have hlen := code_len hn h
    have hp := Nat.two_pow_pos n
    have hla := rd_last l (by omega) hl
    rw [h, Bool.true_and, hla.1, hla.2]
    refine ev_pos rfl (ev_pos (by omega) (ev_pos (by omega) (ev_pos (by omega) (ev_bind0 (impl_delta_int _ _ (hr _ ?_) (hr _ ?_)) (ev_some rfl)))))
    · rw [← hla.2]; exact rd_mem (by omega)
    · exact rd_mem (j := 0) (by omega)
  · simp only [Bool.not_eq_true] at h
    rw [h]
    exact ev_neg (by simp) (ev_some rfl)
theorem tmod_at {a L : Nat} (h : a < 100000) : Int.tmod (wrap64 ((a : Int))) (L : Int) = ((a % L : Nat) : Int) := by
  rw [w64 (by omega) (by omega)]; rfl
theorem spec_l1Least_nat (a b : Nat) : spec_l1Least.f (a : Int) (b : Int) = some ((min a b : Nat) : Int) := by
  unfold spec_l1Least.f
  split
  · rw [Nat.min_eq_left (by omega)]
  · rw [Nat.min_eq_right (by omega)]
theorem hit_full {d : List Int} {i : Nat} (hi : i < d.length) : rd d (((i + d.length) % d.length : Nat) : Int) = rd d (i : Int) := by
  rw [Nat.add_mod_right, Nat.mod_eq_of_lt hi]
theorem spec_LeastRun_in (d : List Int) (hd : d.length ≤ 2000) (i : Nat) (hi : i < d.length) (b : Nat) (r : Int × Bool)
    (ho : ∀ m : Nat, m = min b (lst d i (d.length - 1) 1) → Ev (fun k => spec_LeastRun.l0 k d (m : Int) d (d.length : Int) ((i + 1 : Nat) : Int)) r) :
    Ev (fun k => spec_LeastRun.l1 k d (b : Int) (i : Int) (rd d (i : Int)) ((1 : Nat) : Int) d (d.length : Int) (i : Int)) r := by
  have key : ∀ f t : Nat, t + f = d.length → lst d i (d.length - 1) 1 = lst d i f t → Ev (fun k => spec_LeastRun.l1 k d (b : Int) (i : Int) (rd d (i : Int)) (t : Int) d (d.length : Int) (i : Int)) r := by
    intro f
    induction f with
    | zero =>
      intro t ht he
      have e1 : wrap64 ((i : Int) + 1) = ((i + 1 : Nat) : Int) := by rw [w64 (by omega) (by omega)]; omega
      have hm := Nat.mod_lt (i + t) (show 0 < d.length by omega)
      refine ev_shift ?_
      simp only [spec_LeastRun.l1]
      rw [← Int.natCast_add, tmod_at (by omega), e1]
      refine ev_neg (by omega) (ev_pos (by omega) (ev_pos (by omega) (ev_pos ?_ (ev_bind0 (spec_l1Least_nat b t) (ho _ ?_)))))
      · rw [show t = d.length by omega]; exact hit_full hi
      · rw [he]; rfl
    | succ f ih =>
      intro t ht he
      have e1 : wrap64 ((i : Int) + 1) = ((i + 1 : Nat) : Int) := by rw [w64 (by omega) (by omega)]; omega
      have e2 : wrap64 ((t : Int) + 1) = ((t + 1 : Nat) : Int) := by rw [w64 (by omega) (by omega)]; omega
      have hm := Nat.mod_lt (i + t) (show 0 < d.length by omega)
      refine ev_shift ?_
      simp only [spec_LeastRun.l1]
      rw [← Int.natCast_add, tmod_at (by omega), e1, e2]
      simp only [lst] at he
      refine ev_neg (by omega) (ev_pos (by omega) (ev_pos (by omega) ?_))
      by_cases h : rd d (((i + t) % d.length : Nat) : Int) = rd d (i : Int)
      · rw [if_pos h] at he
        exact ev_pos h (ev_bind0 (spec_l1Least_nat b t) (ho _ (by rw [he])))
      · rw [if_neg h] at he
        exact ev_neg h (ih (t + 1) (by omega) he)
  exact key (d.length - 1) 1 (by omega) rfl
theorem spec_LeastRun_out (d : List Int) (hd : d.length ≤ 2000) : ∀ c i b : Nat, i + c = d.length → Ev (fun k => spec_LeastRun.l0 k d (b : Int) d (d.length : Int) (i : Int)) ((lrF d c i b : Int), true) := by
  intro c
  induction c with
  | zero =>
    intro i b hi
    refine ev_shift ?_
    simp only [spec_LeastRun.l0]
    exact ev_neg (by omega) (ev_some rfl)
  | succ c ih =>
    intro i b hi
    refine ev_shift ?_
    simp only [spec_LeastRun.l0]
    refine ev_pos (by omega) (ev_pos (by omega) (ev_pos (by omega) (spec_LeastRun_in d hd i (by omega) b _ ?_)))
    intro m hm
    rw [lrF, ← hm]
    exact ih (i + 1) m (by omega)
theorem impl_LeastRun_in (d : List Int) (hd : d.length ≤ 2000) (i : Nat) (hi : i < d.length) (b : Nat) (hb : b ≤ d.length) (r : Int × Bool)
    (ho : ∀ m : Nat, m = min b (lst d i (d.length - 1) 1) → Ev (fun k => impl_LeastRun.l0 k d (m : Int) d (d.length : Int) ((i + 1 : Nat) : Int)) r) :
    Ev (fun k => impl_LeastRun.l1 k d (b : Int) (i : Int) (rd d (i : Int)) ((1 : Nat) : Int) d (d.length : Int) (i : Int)) r := by
  have e1 : wrap64 ((i : Int) + 1) = ((i + 1 : Nat) : Int) := by rw [w64 (by omega) (by omega)]; omega
  have key : ∀ f t : Nat, t + f = d.length → lst d i (d.length - 1) 1 = lst d i f t → Ev (fun k => impl_LeastRun.l1 k d (b : Int) (i : Int) (rd d (i : Int)) (t : Int) d (d.length : Int) (i : Int)) r := by
    intro f
    induction f with
    | zero =>
      intro t ht he
      refine ev_shift ?_
      simp only [impl_LeastRun.l1, e1]
      refine ev_neg (by omega) (ho _ ?_)
      rw [he]; simp only [lst]; omega
    | succ f ih =>
      intro t ht he
      have e2 : wrap64 ((t : Int) + 1) = ((t + 1 : Nat) : Int) := by rw [w64 (by omega) (by omega)]; omega
      have hm := Nat.mod_lt (i + t) (show 0 < d.length by omega)
      refine ev_shift ?_
      simp only [impl_LeastRun.l1]
      rw [← Int.natCast_add, tmod_at (by omega), e1, e2]
      by_cases hk : t < b
      · simp only [lst] at he
        refine ev_pos (by omega) (ev_neg (by omega) (ev_pos (by omega) (ev_pos (by omega) ?_)))
        by_cases h : rd d (((i + t) % d.length : Nat) : Int) = rd d (i : Int)
        · rw [if_pos h] at he
          refine ev_pos h (ev_shift ?_)
          simp only [impl_LeastRun.l1, e1]
          refine ev_neg (by omega) (ho _ ?_)
          rw [he]; omega
        · rw [if_neg h] at he
          exact ev_neg h (ih (t + 1) (by omega) he)
      · refine ev_neg (by omega) (ho _ ?_)
        have := lst_ge d i (f + 1) t
        rw [he]; omega
  exact key (d.length - 1) 1 (by omega) rfl
theorem impl_LeastRun_out (d : List Int) (hd : d.length ≤ 2000) : ∀ c i b : Nat, i + c = d.length → b ≤ d.length → Ev (fun k => impl_LeastRun.l0 k d (b : Int) d (d.length : Int) (i : Int)) ((lrF d c i b : Int), true) := by
  intro c
  induction c with
  | zero =>
    intro i b hi hb
    refine ev_shift ?_
    simp only [impl_LeastRun.l0]
    exact ev_neg (by omega) (ev_some rfl)
  | succ c ih =>
    intro i b hi hb
    refine ev_shift ?_
    simp only [impl_LeastRun.l0]
    refine ev_pos (by omega) (ev_pos (by omega) (ev_pos (by omega) (impl_LeastRun_in d hd i (by omega) b hb _ ?_)))
    intro m hm
    rw [lrF, ← hm]
    exact ih (i + 1) m (by omega) (by omega)
theorem ring_mem {l : List Int} (h0 : l ≠ []) {P : Int → Prop} (h : ∀ x ∈ l, P x) : ∀ x ∈ l ++ [rd l 0], P x := by
  intro x hx
  rcases List.mem_append.1 hx with hx | hx
  · exact h x hx
  · simp only [List.mem_singleton] at hx
    subst hx
    exact h _ (rd_mem (j := 0) (by cases l with | nil => exact absurd rfl h0 | cons _ _ => simp))
theorem round_len {n : Nat} (hn : n ≤ 10) {l : List Int} (h : roundB (n : Int) l = true) : l.length = 2 ^ n ∧ l ≠ [] := by
  simp only [roundB, Bool.and_eq_true] at h
  have := code_len hn h.1
  refine ⟨this, ?_⟩
  intro e; subst e
  have h2 := Nat.two_pow_pos n
  simp only [List.length_nil] at this
  omega
theorem spec_gcAround_ev (l : List Int) (h0 : l ≠ []) (hr : ∀ x ∈ l, 0 ≤ x ∧ x < 1024) (hl : l.length ≤ 100000) (hd : dls (l ++ [rd l 0]) = some (ringD l)) : Ev (fun k => spec_gcAround.f k l) (ringD l) := by
  have hpos : 0 < l.length := by cases l with | nil => exact absurd rfl h0 | cons _ _ => simp
  unfold spec_gcAround.f
  refine ev_bind0 (a := l) (by unfold spec_l1Own.f; simp; omega) ?_
  refine ev_pos (by omega) (ev_bind0 rfl (ev_pos (by simp; omega) ?_))
  have := spec_gcDeltas_ev (l ++ [rd l 0]) (ring_mem h0 hr) (by simp; omega)
  rw [hd] at this
  exact ev_bind this (ev_some (by simp [pairR]))
theorem spec_LeastRun_ev (n : Int) (l : List Int) (hl : l.length ≤ 9000000000000000000) : Ev (fun k => spec_LeastRun.f k n l) (lrP n l) := by
  unfold spec_LeastRun.f lrP
  refine ev_bind (spec_gcWords_ev n l hl) ?_
  by_cases h : areW n l = true
  · obtain ⟨m, rfl, h1, h2, h3, h4⟩ := areW_nat h
    refine ev_pos h (ev_bind (spec_gcRound_ev m h2 l (areW_range h) (by omega)) (ev_shift ?_))
    simp only [spec_LeastRun.j0]
    by_cases hb : roundB (m : Int) l = true
    · rw [if_pos ⟨h, hb⟩]
      have h5 := round_len h2 hb
      have h6 := round_ring hb h5.2
      refine ev_neg (by simp [hb]) (ev_bind (spec_gcAround_ev l h5.2 (areW_range h) (by omega) h6.1) ?_)
      have := spec_LeastRun_out (ringD l) (by omega) (ringD l).length 0 (ringD l).length (by omega)
      rw [h6.2] at this ⊢
      exact this
    · rw [if_neg (fun c => hb c.2)]
      simp only [Bool.not_eq_true] at hb
      exact ev_pos (by simp [hb]) (ev_some rfl)
  · rw [if_neg (fun c => h c.1)]
    refine ev_neg h (ev_shift ?_)
    simp only [spec_LeastRun.j0]
    exact ev_pos (by trivial) (ev_some rfl)
theorem impl_roundDeltas_ev (n : Int) (l : List Int) (hl : l.length ≤ 9000000000000000000) : Ev (fun k => impl_roundDeltas.f k n l) (if areW n l = true ∧ roundB n l = true then (ringD l, true) else ([], false)) := by
  unfold impl_roundDeltas.f
  refine ev_bind (impl_areWords_ev n l hl) ?_
  by_cases h : areW n l = true
  · obtain ⟨m, rfl, h1, h2, h3, h4⟩ := areW_nat h
    refine ev_pos h (ev_bind (impl_isRoundCode_ev m h2 l (areW_range h) (by omega)) (ev_shift ?_))
    simp only [impl_roundDeltas.j0]
    by_cases hb : roundB (m : Int) l = true
    · rw [if_pos ⟨h, hb⟩]
      have h5 := round_len h2 hb
      have h6 := round_ring hb h5.2
      have hp := Nat.two_pow_pos m
      refine ev_neg (by simp [hb]) (ev_bind0 (a := l) (by unfold impl_copied.f; simp; omega) ?_)
      refine ev_pos (by omega) (ev_bind0 rfl (ev_pos (by simp; omega) ?_))
      have := impl_deltas_ev (l ++ [rd l 0]) (ring_mem h5.2 (areW_range h)) (by simp; omega)
      rw [h6.1] at this
      exact ev_bind this (ev_some (by simp [pairR]))
    · rw [if_neg (fun c => hb c.2)]
      simp only [Bool.not_eq_true] at hb
      exact ev_pos (by simp [hb]) (ev_some rfl)
  · rw [if_neg (fun c => h c.1)]
    refine ev_neg h (ev_shift ?_)
    simp only [impl_roundDeltas.j0]
    exact ev_pos (by trivial) (ev_some rfl)
theorem impl_LeastRun_ev (n : Int) (l : List Int) (hl : l.length ≤ 9000000000000000000) : Ev (fun k => impl_LeastRun.f k n l) (lrP n l) := by
  unfold impl_LeastRun.f lrP
  refine ev_bind (impl_roundDeltas_ev n l hl) ?_
  by_cases h : areW n l = true ∧ roundB n l = true
  · obtain ⟨m, rfl, h1, h2, h3, h4⟩ := areW_nat h.1
    have h5 := round_len h2 h.2
    have h6 := round_ring h.2 h5.2
    rw [if_pos h, if_pos h]
    refine ev_pos rfl ?_
    have := impl_LeastRun_out (ringD l) (by omega) (ringD l).length 0 (ringD l).length (by omega) (Nat.le_refl _)
    simp only
    rw [h6.2] at this ⊢
    exact this
  · rw [if_neg h, if_neg h]
    exact ev_neg (by simp) (ev_some rfl)
theorem FnExactLeastRun : laws_FnExactLeastRun.Pure := by
  intro n l hn hl1 hl2 hl
  apply ev_le
  unfold laws_FnExactLeastRun.f
  by_cases hb : (l.length : Int) > 1048576
  · exact ev_pos hb (ev_some rfl)
  have hs := spec_LeastRun_ev n l (by omega)
  have hi := impl_LeastRun_ev n l (by omega)
  generalize lrP n l = p at hs hi
  obtain ⟨out, ok⟩ := p
  refine ev_neg hb ?_
  repeat (first
      | exact ev_some rfl
      | refine ev_bind (laws_toIntS_ev _ (by omega)) ?_
      | refine ev_bind (laws_eqIntS_ev _ (by omega)) ?_
      | refine ev_bind hs ?_
      | refine ev_bind hi ?_
      | refine ev_pos rfl ?_
      | refine ev_pos trivial ?_
      | refine ev_neg neq_self ?_
      | dsimp only
      | refine ev_neg (by omega) ?_
      | (refine ev_shift ?_; simp only [laws_FnExactLeastRun.j0]))

end Go.Proofs.YtnhifbopicjicaaDoor.Pure
