/- What the law's functions compute, and that the calls come to just that: turned from a printed text. No condition. -/
import Derived.Test.YtbibabekmpipdaaQFnMixedListsx0
import Derived.Test.YtbibabekmpipdaaQFnMixedListsx2
import Derived.Test.YtbibabekmpipdaaQFnMixedListsx3
import Derived.Test.YtbibabekmpipdaaQFnMixedListsx4
namespace Go.Proofs.Ytbibabekmpipdaa.PFnMixedLists
open Go.RowKit Go.Proofs.YtbibabekmpipdaaW.PrintWords Go.Proofs.YtbibabekmpipdaaW.PrintLast Go.Proofs.YtbibabekmpipdaaW.PrintMore
attribute [local go_sem] max2_int min2_int max_two min_two max_three min_three max_four min_four   -- for this text's walks alone
set_option linter.unusedVariables false
set_option linter.unusedSimpArgs false

section
open Go.Proofs.Ytbibabekmpipdaa.Mth
theorem impl_within_eq (a b c : Int) : impl_within.f a b c = some (inR a b c) := in_ite a b c
theorem impl_allWithin_ev (l : List Int) (lo hi : Int) (hl : l.length ≤ 9000000000000000000) : Ev (fun k => impl_allWithin.f k l lo hi) (allIn l lo hi) := by
  refine range_all hl (fun pre suf => Ev (fun k => impl_allWithin.l0 k lo hi l (l.length : Int) (pre.length : Int)) (allIn suf lo hi)) ?_ ?_
  · refine ev_shift ?_
    simp only [impl_allWithin.l0]
    exact ev_neg (by omega) (ev_some rfl)
  · intro pre x suf h hx h1 h2 h3 ih
    refine ev_shift ?_
    simp only [impl_allWithin.l0, hx, h3, impl_within_eq, Option.bind_some, allIn_cons]
    refine ev_pos h1 (ev_pos h2 (ev_pos h1 ?_))
    cases inR x lo hi with
    | true => exact ev_pos rfl ih
    | false => exact ev_neg (by simp) (ev_some rfl)
theorem impl_size_F (l : List Int) (h : allIn l 2 12 = true) (hl : l.length ≤ 9000000000000000000) : Ev (fun k => impl_size.f k l) (sizeF 1 l) := by
  have hge := allIn_iff.1 h
  have key : ∀ suf pre, l = pre ++ suf → ∀ acc : Int, 1 ≤ acc → acc ≤ 1000001 → Ev (fun k => impl_size.l0 k acc l (l.length : Int) (pre.length : Int)) (sizeF acc suf) := by
    refine range_ind hl (fun pre suf => ∀ acc : Int, 1 ≤ acc → acc ≤ 1000001 → Ev (fun k => impl_size.l0 k acc l (l.length : Int) (pre.length : Int)) (sizeF acc suf)) ?_ ?_
    · intro acc _ _
      refine ev_shift ?_
      simp only [impl_size.l0]
      exact ev_neg (by omega) (ev_some rfl)
    · intro pre x suf hh hx h1 h2 h3 ih acc a0 a1
      have hx0 := hge x (by rw [hh]; simp)
      have hm := acc_mul a0 a1 hx0.1 hx0.2
      refine ev_shift ?_
      simp only [impl_size.l0, hx, h3]
      rw [w64 (by omega) (by omega)]
      refine ev_pos h1 (ev_pos h2 (ev_pos h1 ?_))
      simp only [sizeF]
      refine ih _ ?_ ?_
      · unfold mn; split <;> omega
      · unfold mn; split <;> omega
  exact key l [] rfl 1 (by omega) (by omega)
theorem impl_size_ev (l : List Int) (h : areB l = true) : Ev (fun k => impl_size.f k l) (prod l) := by
  have h' := areB_iff.1 h
  have := impl_size_F l h'.2.1 (by omega)
  rw [sizeF_eq h'.2.1 1 (by omega) (by omega), Int.one_mul, if_pos h'.2.2] at this
  exact this
theorem impl_areBases_ev (l : List Int) (hl : l.length ≤ 9000000000000000000) : Ev (fun k => impl_areBases.f k l) (areB l) := by
  unfold impl_areBases.f areB
  by_cases hlen : (l.length : Int) ≤ 12
  · refine ev_pos hlen (ev_bind (impl_allWithin_ev l 2 12 hl) ?_)
    cases ha : allIn l 2 12 with
    | false => exact ev_neg (by simp) (ev_some (by simp))
    | true =>
      refine ev_pos rfl (ev_bind (impl_size_F l ha hl) (ev_some ?_))
      rw [sizeF_eq ha 1 (by omega) (by omega), Int.one_mul]
      rw [decide_eq_true hlen, Bool.true_and, Bool.true_and]
      by_cases hp : prod l ≤ 1000000
      · rw [if_pos hp]
      · rw [if_neg hp, decide_eq_false hp]; decide
  · exact ev_neg hlen (ev_some (by rw [decide_eq_false hlen]; rfl))
theorem bases_wf {bs : List Int} (h : areB bs = true) : ∀ b ∈ bs, (Lit.int .i64 (b - 1)).wf = true := by
  intro b hb
  have := allIn_iff.1 (areB_iff.1 h).2.1 b hb
  simp only [Lit.wf, Bool.and_eq_true, decide_eq_true_eq]
  have e0 : IntKind.min .i64 = -9223372036854775808 := by decide
  have e1 : IntKind.max .i64 = 9223372036854775807 := by decide
  omega
theorem impl_areDigits_ev (bs ds : List Int) (hb : ∀ b ∈ bs, (Lit.int .i64 (b - 1)).wf = true) (hl : ds.length ≤ 9000000000000000000) : Ev (fun k => impl_areDigits.f k bs ds) (digs bs ds) := by
  have key : ∀ suf pre, ds = pre ++ suf → ∀ p s : List Int, bs = p ++ s → p.length = pre.length → Ev (fun k => impl_areDigits.l0 k bs ds ds (ds.length : Int) (pre.length : Int)) (digs s suf) := by
    refine range_ind hl (fun pre suf => ∀ p s : List Int, bs = p ++ s → p.length = pre.length → Ev (fun k => impl_areDigits.l0 k bs ds ds (ds.length : Int) (pre.length : Int)) (digs s suf)) ?_ ?_
    · intro p s hps hpl
      refine ev_shift ?_
      simp only [impl_areDigits.l0]
      refine ev_neg (by omega) (ev_some ?_)
      cases s with
      | nil => simp at hps; subst hps; simp [digs, hpl]
      | cons b s => simp [digs, hps]; omega
    · intro pre x suf hh hx h1 h2 h3 ih p s hps hpl
      refine ev_shift ?_
      simp only [impl_areDigits.l0, hx, h3]
      refine ev_pos h1 (ev_pos h2 (ev_pos h1 ?_))
      cases s with
      | nil =>
        simp at hps; subst hps
        exact ev_pos (by omega) (ev_some rfl)
      | cons b s =>
        have hbl : bs.length = p.length + s.length + 1 := by rw [hps]; simp; omega
        have hrb : rd bs (pre.length : Int) = b := by rw [hps, ← hpl]; exact rd_at _ _ _
        have hbw := wf_range (hb b (by rw [hps]; simp))
        refine ev_neg (by omega) (ev_pos (by omega) ?_)
        rw [hrb, w64 (by omega) (by omega)]
        refine ev_bind0 (impl_within_eq _ _ _) ?_
        simp only [digs]
        cases inR x 0 (b - 1) with
        | false => exact ev_neg (by simp) (ev_some rfl)
        | true => exact ev_pos rfl (ih (p ++ [b]) s (by simp [hps]) (by simp [hpl]))
  exact key ds [] rfl [] bs rfl rfl
theorem impl_mixedRank_ev (bs : List Int) : ∀ ds : List Int, areB bs = true → digs bs ds = true → Ev (fun k => impl_mixedRank.f k bs ds) (mixR bs ds) := by
  induction bs with
  | nil =>
    intro ds _ hd
    cases ds with
    | cons d ds => simp [digs] at hd
    | nil =>
      refine ev_shift ?_
      simp only [impl_mixedRank.f]
      exact ev_pos rfl (ev_some rfl)
  | cons b bs ih =>
    intro ds hb hd
    cases ds with
    | nil => simp [digs] at hd
    | cons d ds =>
      obtain ⟨hb1, hp1, hp2, hp3, hb2⟩ := areB_head hb
      have hr := mixR_range hb hd
      simp only [digs, Bool.and_eq_true, inR_iff] at hd
      have hr2 := mixR_range hb2 hd.2
      have h0 : 0 ≤ d * prod bs := Int.mul_nonneg (by omega) (by omega)
      have h1 : (d + 1) * prod bs ≤ b * prod bs := Int.mul_le_mul_of_nonneg_right (by omega) (by omega)
      rw [Int.add_mul, Int.one_mul] at h1
      have hrd : rd (d :: ds) 0 = d := rfl
      refine ev_shift ?_
      simp only [impl_mixedRank.f, List.drop_succ_cons, List.drop_zero, List.length_cons, hrd]
      rw [Int.tmod_eq_emod_of_nonneg hd.1.1]
      refine ev_neg (by omega) (ev_pos (by omega) (ev_bind (impl_size_ev bs hb2) (ev_pos (by omega) (ev_bind (ih ds hb2 hd.2) (ev_pos (by omega) ?_)))))
      rw [w64 (x := d * prod bs) (by omega) (by omega), w64 (x := prod bs - 1) (by omega) (by omega), w64 (x := prod bs - 1 - mixR bs ds) (by omega) (by omega), w64 (x := d * prod bs + (prod bs - 1 - mixR bs ds)) (by omega) (by omega), w64 (x := d * prod bs + mixR bs ds) (by omega) (by omega)]
      by_cases hodd : d % 2 = 1
      · exact ev_pos hodd (ev_some (by simp only [mixR, if_pos hodd]))
      · exact ev_neg hodd (ev_some (by simp only [mixR, if_neg hodd]))
/-! ### impl_IsMixedList: function 13, by hand -/
def impl_IsMixedList.f (l0 : List Int) (l1 : List (List Int)) : Option (Bool × Bool) := if l0.length ≤ 2000000 ∧ l1.length ≤ 2000000 ∧ ∀ l ∈ l1, l.length ≤ 2000000 then some (Mth.imP l0 l1) else none
def ml_rd (xs : List (List Int)) (i : Nat) : List Int := xs.getD i []
theorem ml_at {w : World} {A : Option Addr} {n : Nat} {xs : List (List Int)} (h : Kd.C (Kd.slice 3 (Kd.int .i64)) w A n xs) (i : Nat) (h1 : i < n) : ∃ ad A0 c0, A = some ad ∧ w.cell? (ad.add i) = some (.slice A0 (ml_rd xs i).length c0) ∧ (ml_rd xs i).length ≤ c0 ∧ (Kd.int .i64).C w A0 (ml_rd xs i).length (ml_rd xs i) := by
  obtain ⟨ad, c, e, _, hK, hc0⟩ := Kd.C_get h ([] : List Int) (i : Int) (Int.natCast_nonneg i) (by exact_mod_cast h1)
  have hc : ∀ j u, c[j]? = some u → w.cell? (ad.add (i * 1 + j)) = some u := hc0
  obtain ⟨A0, c0, rfl, l0, g0⟩ := hK
  exact ⟨ad, A0, c0, e, by have hq := hc 0 _ rfl; rwa [Nat.mul_one, Nat.add_zero] at hq, l0, g0⟩
theorem ml_zero (w : World) : (zeroValue 4).run Try.prog w = .ok (.bool false) w := by kernel_rfl
/-- What the call has done behind its map's block Bm: the two lists are as they were, the map holds S. -/
structure MlSt (l0 : List Int) (A0 : Option Addr) (l1 : List (List Int)) (A1 : Option Addr) (Bm n : Nat) (S : List Int) (w w' : World) : Prop where
  hb : Below w.heap.size w w'
  hm : MapB.Is Try.prog 3 4 w' Bm n S
theorem MlSt.below {l0 : List Int} {A0 : Option Addr} {l1 : List (List Int)} {A1 : Option Addr} {Bm n : Nat} {S : List Int} {w w' w2 : World} (h : MlSt l0 A0 l1 A1 Bm n S w w') (hb : Below w'.heap.size w' w2) : MlSt l0 A0 l1 A1 Bm n S w w2 := ⟨below_step h.hb hb, h.hm.below hb⟩
theorem MlSt.put {l0 : List Int} {A0 : Option Addr} {l1 : List (List Int)} {A1 : Option Addr} {Bm n : Nat} {S : List Int} {rk : Int} {w w' w2 : World} (h : MlSt l0 A0 l1 A1 Bm n S w w') (hBm : w.heap.size ≤ Bm) (hm : MapB.Is Try.prog 3 4 w2 Bm (n + 1) (rk :: S)) (hg : w'.grownBy w2 (some Bm)) : MlSt l0 A0 l1 A1 Bm (n + 1) (rk :: S) w w2 :=
  ⟨h.hb.grown hg h.hb.size (fun j hj => by cases hj; exact hBm), hm⟩
def ml_prev (l1 : List (List Int)) (k : Nat) : Option (List Int) := if k = 0 then none else some (ml_rd l1 (k - 1))
theorem ml_drop {l1 : List (List Int)} {k : Nat} (h : k < l1.length) : l1.drop k = ml_rd l1 k :: l1.drop (k + 1) := by
  unfold ml_rd
  rw [List.getD_eq_getElem?_getD, List.getElem?_eq_getElem h]
  exact List.drop_eq_getElem_cons h
theorem ml_mem {l1 : List (List Int)} {k : Nat} (h : k < l1.length) : ml_rd l1 k ∈ l1 := by
  unfold ml_rd
  rw [List.getD_eq_getElem?_getD, List.getElem?_eq_getElem h]
  exact List.getElem_mem h
theorem ml_next (x : Int) (h0 : 0 ≤ x) {l1 : List (List Int)} {l : List Int} (hl : ml_rd l1 x.toNat = l) : (x + 1).toNat = x.toNat + 1 ∧ ml_prev l1 (x.toNat + 1) = some l := by
  refine ⟨by omega, ?_⟩
  unfold ml_prev
  rw [if_neg (by omega), Nat.add_sub_cancel, hl]
theorem ml_dig : ∀ {bs ds : List Int}, Mth.allIn bs 2 12 = true → Mth.digs bs ds = true → ∀ y ∈ ds, 0 ≤ y ∧ y ≤ 11 := by
  intro bs
  induction bs with
  | nil => intro ds _ h y hy; cases ds with
    | nil => simp at hy
    | cons d ds => simp [Mth.digs] at h
  | cons b bs ih =>
    intro ds hb h y hy
    cases ds with
    | nil => simp at hy
    | cons d ds =>
      simp only [Mth.digs, Bool.and_eq_true, Mth.inR_iff] at h
      simp only [Mth.allIn_cons, Bool.and_eq_true, Mth.inR_iff] at hb
      rcases List.mem_cons.1 hy with rfl | hy
      · omega
      · exact ih hb.2 h.2 y hy
theorem MlSt.drew {l0 : List Int} {A0 : Option Addr} {l1 : List (List Int)} {A1 : Option Addr} {Bm n : Nat} {S : List Int} {w w' : World} (h : MlSt l0 A0 l1 A1 Bm n S w w') : MlSt l0 A0 l1 A1 Bm n S w w'.drew := ⟨h.hb.drew, h.hm.drew⟩
theorem ml_rdm {l : List Int} {j : Int} (h0 : 0 ≤ j) (h : j < (l.length : Int)) : rd l j ∈ l := by
  unfold rd
  rw [List.getD_eq_getElem?_getD, List.getElem?_eq_getElem (show j.toNat < l.length by omega)]
  exact List.getElem_mem _
theorem ml_take {l : List Int} {k : Nat} (h : k < l.length) : l.take (k + 1) = l.take k ++ [l[k]] := by
  rw [List.take_add_one, List.getElem?_eq_getElem h]; rfl
theorem ml_chg_snoc {a b : List Int} : ∀ {x y : Int}, a.length = b.length → Mth.chg (a ++ [x]) (b ++ [y]) = Mth.chg a b + Mth.adZ x y := by
  induction a generalizing b with
  | nil => intro x y h; cases b with
    | nil => simp [Mth.chg]
    | cons z b => simp at h
  | cons z a ih =>
    intro x y h
    cases b with
    | nil => simp at h
    | cons u b =>
      have := ih (b := b) (x := x) (y := y) (by simpa using h)
      simp only [List.cons_append, Mth.chg]
      omega
theorem ml_step {l p : List Int} {j : Int} (h0 : 0 ≤ j) (h1 : j < (l.length : Int)) (h2 : j < (p.length : Int)) : Mth.chg (l.take (j + 1).toNat) (p.take (j + 1).toNat) = Mth.chg (l.take j.toNat) (p.take j.toNat) + Mth.adZ (rd l j) (rd p j) := by
  rw [show (j + 1).toNat = j.toNat + 1 by omega, ml_take (show j.toNat < l.length by omega), ml_take (show j.toNat < p.length by omega), ml_chg_snoc (by simp; omega)]
  unfold rd
  rw [List.getD_eq_getElem?_getD, List.getD_eq_getElem?_getD, List.getElem?_eq_getElem (show j.toNat < l.length by omega), List.getElem?_eq_getElem (show j.toNat < p.length by omega)]
  rfl
theorem ml_bound' : ∀ {a b : List Int}, (∀ y ∈ a, 0 ≤ y ∧ y ≤ 11) → (∀ y ∈ b, 0 ≤ y ∧ y ≤ 11) → 0 ≤ Mth.chg a b ∧ Mth.chg a b ≤ 11 * (a.length : Int) := by
  intro a
  induction a with
  | nil => intro b _ _; simp [Mth.chg]
  | cons x a ih =>
    intro b ha hb
    cases b with
    | nil => simp only [Mth.chg, List.length_cons]; omega
    | cons y b =>
      have h1 := ih (b := b) (fun z hz => ha z (by simp [hz])) (fun z hz => hb z (by simp [hz]))
      have h2 := ha x (by simp)
      have h3 := hb y (by simp)
      have h4 : 0 ≤ Mth.adZ x y ∧ Mth.adZ x y ≤ 11 := by unfold Mth.adZ; split <;> omega
      simp only [Mth.chg, List.length_cons]
      omega
theorem ml_bound {l p : List Int} {j : Nat} (hl : ∀ y ∈ l, 0 ≤ y ∧ y ≤ 11) (hp : ∀ y ∈ p, 0 ≤ y ∧ y ≤ 11) (h12 : l.length ≤ 12) : 0 ≤ Mth.chg (l.take j) (p.take j) ∧ Mth.chg (l.take j) (p.take j) ≤ 132 := by
  have := ml_bound' (a := l.take j) (b := p.take j) (fun y hy => hl y (List.mem_of_mem_take hy)) (fun y hy => hp y (List.mem_of_mem_take hy))
  have h2 := List.length_take_le' j l
  omega
set_option maxHeartbeats 4000000 in
set_option maxRecDepth 100000 in
theorem impl_IsMixedList.calls (A0 : Option Addr) (c0 : Nat) (l0 : List Int) (A1 : Option Addr) (c1 : Nat) (l1 : List (List Int)) (r1 r2 : Bool) (w : World) (hr0 : Kd.C (Kd.int .i64) w A0 l0.length l0) (hc0 : l0.length ≤ c0) (hr1 : Kd.C (Kd.slice 3 (Kd.int .i64)) w A1 l1.length l1) (hc1 : l1.length ≤ c1) (h : impl_IsMixedList.f l0 l1 = some (r1, r2)) :
    Calls Try.prog 13 #[.slice A0 l0.length c0, .slice A1 l1.length c1] w fun e w' => e = .returned (.tuple #[.bool r1, .bool r2]) ∧ Below w.heap.size w w' := by
  unfold impl_IsMixedList.f at h
  by_cases hlen : l0.length ≤ 2000000 ∧ l1.length ≤ 2000000 ∧ ∀ l ∈ l1, l.length ≤ 2000000
  · rw [if_pos hlen] at h
    obtain ⟨g0, g1, g2⟩ := hlen
    obtain ⟨k1, hk1⟩ := Ev.rounds (impl_areBases_ev l0 (by omega))
    have HR0 := Aside0.mk hr0
    have HC0 := Aside0.mk hc0
    have HR1 := Aside0.mk hr1
    have HC1 := Aside0.mk hc1
    have HK1 := Aside0.mk hk1
    have HG1 := Aside0.mk g1
    have HG2 := Aside0.mk g2
    clear hr0 hc0 hr1 hc1 hk1 g2
    simp only [Option.some.injEq] at h
    unfold Mth.imP at h
    cases hB : Mth.areB l0 with
    | false =>
      rw [if_neg (by rw [hB]; simp)] at h
      simp only [Prod.mk.injEq] at h
      obtain ⟨rfl, rfl⟩ := h
      rw [hB] at HK1
      clear hB
      go_enter Try.func13, Try.ntmps13
      go_wp2_with (first | (go_at_call 18; refine (impl_areBases.calls k1 A0 c0 l0 false _ HR0.out HC0.out HK1.out).mono ?_; rintro e w' ⟨rfl, hb⟩; have HB := Aside0.mk hb; clear hb))
      go_ret2
      exact ⟨rfl, HB.out⟩
    | true =>
      rw [hB] at HK1
      by_cases hL : (l1.length : Int) ≤ 1100
      · rw [if_pos ⟨hB, hL⟩] at h
        obtain ⟨k2, hk2⟩ := Ev.rounds (impl_size_ev l0 hB)
        have HK2 := Aside0.mk hk2
        have cL : decide ((l1.length : Int) > 1100) = false := decide_eq_false (by omega)
        have cL2 : decide (1100 < (l1.length : Int)) = false := decide_eq_false (by omega)
        have cL3 : decide (1100 < l1.length) = false := decide_eq_false (by omega)
        clear hk2
        by_cases hS : (l1.length : Int) = Mth.prod l0
        · rw [if_pos hS] at h
          simp only [Prod.mk.injEq] at h
          obtain ⟨hr, rfl⟩ := h
          obtain ⟨sz, hsz⟩ : ∃ sz, Mth.prod l0 = sz := ⟨_, rfl⟩
          rw [hsz] at hS HK2
          have cS : ((l1.length : Int) != sz) = false := bne_eq_false_iff_eq.mpr hS
          have cS2 : ((l1.length : Int) == sz) = true := beq_iff_eq.mpr hS
          have HR := Aside0.mk hr
          have HBB := Aside0.mk hB
          have HLL := Aside0.mk hL
          clear hS hsz hB hL hr g0 g1
          have hmm := @run_makeMap Try.prog
          go_enter Try.func13, Try.ntmps13
          go_upto_region 6 with (first | (go_at_call 18; refine (impl_areBases.calls k1 A0 c0 l0 true _ HR0.out HC0.out HK1.out).mono ?_; rintro e w' ⟨rfl, hb⟩; have HB := Aside0.mk hb; clear hb) | (go_at_call 20; refine (impl_size.calls k2 A0 c0 l0 sz _ (Kd.C_below HR0.out HB.out) HC0.out HK2.out).mono ?_; rintro e w2 ⟨rfl, hb⟩; have n0_ := Aside0.mk (below_step HB.out hb); clear HB hb; have HB := n0_; clear n0_))
          have HS := Aside0.mk (show MlSt l0 A0 l1 A1 w2.heap.size 0 [] w (w2.alloc (.map #[] 0)) from ⟨below_alloc HB.out _, MapB.Is.made _ _ _ _⟩)
          have HBm := Aside0.mk HB.out.size
          clear HB hmm cS cS2 HK1 HK2 cL cL2 cL3
          generalize w2.heap.size = Bm at HS HBm ⊢
          generalize w2.alloc (.map #[] 0) = w3 at HS ⊢
          go_wp2
          go_loopw [28] (fun v28 wr => ∃ (x : Int) (S : List Int), v28 = .int .i64 x ∧ Aside0 (0 ≤ x ∧ x ≤ (l1.length : Int)) ∧ Aside0 (MlSt l0 A0 l1 A1 Bm x.toNat S w wr) ∧ Aside0 (Mth.okS l0 (ml_prev l1 x.toNat) S (l1.drop x.toNat) = r1) ∧ Aside0 (0 < x → Mth.digs l0 (ml_rd l1 (x.toNat - 1)) = true)) (fun v28 _ => l1.length - (intOf v28).toNat)
          case atStart => exact ⟨0, [], rfl, ⟨⟨Int.le_refl _, Int.natCast_nonneg _⟩⟩, HS, HR, ⟨fun h => absurd h (by decide)⟩⟩
          case round =>
            clear HS HR
            obtain ⟨x, S, rfl, HX, HS, HR, HP⟩ := hrel
            obtain ⟨h0, h1⟩ := HX.out
            clear HX
            have hx1 : wrap64 (x + 1) = x + 1 := by unfold wrap64; have := HLL.out; omega
            by_cases c4 : x < (l1.length : Int)
            · have c4b0 : decide (x < (l1.length : Int)) = true := decide_eq_true c4
              obtain ⟨l, hl⟩ : ∃ l, ml_rd l1 x.toNat = l := ⟨_, rfl⟩
              obtain ⟨ad1, Al, cl, e1, hcell, hcl, hCl⟩ := ml_at HR1.out x.toNat (by omega)
              subst e1
              rw [hl] at hcell hcl hCl
              have hdrop := ml_drop (show x.toNat < l1.length by omega)
              rw [hl] at hdrop
              have hR := HR.out
              rw [hdrop] at hR
              simp only [Mth.okS] at hR
              have hcellw := pw_cell_below HS.out.hb hcell
              have hll : l.length ≤ 2000000 := HG2.out l (by rw [← hl]; exact ml_mem (by omega))
              have HCl := Aside0.mk hCl
              have HCL := Aside0.mk hcl
              have HLN := Aside0.mk hl
              have HLE := Aside0.mk hll
              have HNX := Aside0.mk (ml_next x h0 hl)
              have HMX := Aside0.mk (show x.toNat < maxLen by unfold maxLen; have := HLL.out; omega)
              have HXR := Aside0.mk (show 0 ≤ x + 1 ∧ x + 1 ≤ (l1.length : Int) by omega)
              have HME := Aside0.mk (show l1.length - (x + 1).toNat < l1.length - x.toNat by omega)
              obtain ⟨k3, hk3⟩ := Ev.rounds (impl_areDigits_ev l0 l (bases_wf HBB.out) (by omega))
              have q0 := eq_true h0
              have q1 := eq_true c4
              clear hcell hcl hCl hl hll hdrop HR
              cases hd : Mth.digs l0 l with
              | false =>
                rw [hd] at hR hk3
                have hr1 : r1 = false := hR.symm
                subst hr1
                have HK3 := Aside0.mk hk3
                clear hR hk3 hd
                go_wp2_with (first | (go_at_call 26; refine (impl_areDigits.calls k3 A0 c0 l0 Al cl l false _ (Kd.C_below HR0.out HS.out.hb) HC0.out (Kd.C_below HCl.out HS.out.hb) HCL.out HK3.out).mono ?_; rintro e w' ⟨rfl, hd_⟩; have n0_ := Aside0.mk (HS.out.below hd_.below); clear HS hd_; have HS := n0_; clear n0_))
                go_ret2
                exact ⟨rfl, HS.out.hb⟩
              | true =>
                rw [hd, Bool.true_and] at hR
                obtain ⟨k4, hk4⟩ := Ev.rounds (impl_mixedRank_ev l0 l HBB.out hd)
                have hrg := Mth.mixR_range HBB.out hd
                have hpr := (Mth.areB_iff.1 HBB.out).2.2
                obtain ⟨rk, hrk⟩ : ∃ rk, Mth.mixR l0 l = rk := ⟨_, rfl⟩
                rw [hrk] at hR hk4 hrg
                rw [hd] at hk3
                have HK3 := Aside0.mk hk3
                have HK4 := Aside0.mk hk4
                have HWF := Aside0.mk (show (Lit.int .i64 rk).wf = true from WalkArith.wf_i64 (by omega))
                have HD := Aside0.mk hd
                clear hk3 hk4 hrg hpr hrk hd
                cases hsc : S.contains rk with
                | true =>
                  rw [hsc] at hR
                  have hr1 : r1 = false := hR.symm
                  subst hr1
                  have HSC := Aside0.mk hsc
                  clear hsc hR
                  go_wp2_with (first | (go_at_call 26; refine (impl_areDigits.calls k3 A0 c0 l0 Al cl l true _ (Kd.C_below HR0.out HS.out.hb) HC0.out (Kd.C_below HCl.out HS.out.hb) HCL.out HK3.out).mono ?_; rintro e w' ⟨rfl, hd_⟩; have n0_ := Aside0.mk (HS.out.below hd_.below); clear HS hd_; have HS := n0_; clear n0_) | (go_at_call 27; refine (impl_mixedRank.calls k4 A0 c0 l0 Al cl l rk _ (Kd.C_below HR0.out HS.out.hb) HC0.out (Kd.C_below HCl.out HS.out.hb) HCL.out HK4.out).mono ?_; rintro e w' ⟨rfl, hd_⟩; have n0_ := Aside0.mk (HS.out.below hd_); clear HS hd_; have HS := n0_; clear n0_) | (at_lookup; (try (refine gate_guard (by rfl) ?_; dsimp only)); refine MapB.wpList_look _ rfl _ _ 55 rfl 3 4 Try.underlying3 Try.underlying55 Try.underlying4 (ml_zero _) Bm x.toNat S rfl HS.out.hm rk rfl HWF.out ?_; rw [HSC.out]))
                  go_ret2
                  exact ⟨rfl, HS.out.hb⟩
                | false =>
                  rw [hsc, Bool.not_false, Bool.true_and] at hR
                  have HSC := Aside0.mk hsc
                  have HR := Aside0.mk hR
                  clear hsc hR
                  by_cases hx0 : x = 0
                  · have x0b : (x == 0) = true := beq_iff_eq.mpr hx0
                    have HR2 := Aside0.mk (show Mth.okS l0 (some l) (rk :: S) (l1.drop (x.toNat + 1)) = r1 from by have h_ := HR.out; rw [show x.toNat = 0 by omega] at h_; rw [show x.toNat = 0 by omega]; exact h_)
                    clear hx0 h0 h1 c4
                    go_wp2_with (first | (go_at_call 26; refine (impl_areDigits.calls k3 A0 c0 l0 Al cl l true _ (Kd.C_below HR0.out HS.out.hb) HC0.out (Kd.C_below HCl.out HS.out.hb) HCL.out HK3.out).mono ?_; rintro e w' ⟨rfl, hd_⟩; have n0_ := Aside0.mk (HS.out.below hd_.below); clear HS hd_; have HS := n0_; clear n0_) | (go_at_call 27; refine (impl_mixedRank.calls k4 A0 c0 l0 Al cl l rk _ (Kd.C_below HR0.out HS.out.hb) HC0.out (Kd.C_below HCl.out HS.out.hb) HCL.out HK4.out).mono ?_; rintro e w' ⟨rfl, hd_⟩; have n0_ := Aside0.mk (HS.out.below hd_); clear HS hd_; have HS := n0_; clear n0_) | (at_lookup; (try (refine gate_guard (by rfl) ?_; dsimp only)); refine MapB.wpList_look _ rfl _ _ 55 rfl 3 4 Try.underlying3 Try.underlying55 Try.underlying4 (ml_zero _) Bm x.toNat S rfl HS.out.hm rk rfl HWF.out ?_; rw [HSC.out]) | (at_mapUpdate; refine MapB.wpList_put _ rfl _ _ _ 55 rfl 3 4 Try.underlying3 Try.underlying55 Try.underlying4 Bm x.toNat S rfl HS.out.hm HMX.out rk rfl rfl HWF.out ?_; intro w5 hm5 hg5; have n0_ := Aside0.mk (HS.out.put HBm.out hm5 hg5); clear HS hm5 hg5; have HS := n0_; clear n0_))
                    go_roundw
                    case rel => exact ⟨x + 1, rk :: S, by rw [hx1], HXR, by rw [HNX.out.1]; exact HS, by rw [HNX.out.1, HNX.out.2]; exact HR2, ⟨fun _ => by rw [HNX.out.1, Nat.add_sub_cancel, HLN.out]; exact HD.out⟩⟩
                    case measure => rw [hx1]; exact HME.out
                  · have x0b : (x == 0) = false := beq_eq_false_iff_ne.mpr hx0
                    obtain ⟨p, hp⟩ : ∃ p, ml_rd l1 (x.toNat - 1) = p := ⟨_, rfl⟩
                    have hpd : Mth.digs l0 p = true := by rw [← hp]; exact HP.out (by omega)
                    have hb3 := Mth.areB_iff.1 HBB.out
                    have hpl := Mth.digs_length hpd
                    have hll := Mth.digs_length HD.out
                    have hpr := ml_dig hb3.2.1 hpd
                    have hlr := ml_dig hb3.2.1 HD.out
                    obtain ⟨ad2, Ap, cp, e2, hcp, hcpl, hCp⟩ := ml_at HR1.out (x.toNat - 1) (by omega)
                    cases e2
                    rw [hp] at hcp hcpl hCp
                    obtain ⟨z, hz⟩ : ∃ z, z = x - 1 := ⟨_, rfl⟩
                    have hxm : wrap64 (x - 1) = z := by rw [hz]; unfold wrap64; have := HLL.out; omega
                    have hxt : z.toNat = x.toNat - 1 := by omega
                    rw [← hxt] at hcp
                    have HCP := Aside0.mk hCp
                    have HCPC := Aside0.mk hcp
                    have HPR := Aside0.mk hpr
                    have HLR := Aside0.mk hlr
                    have HPL := Aside0.mk (show p.length = l.length by omega)
                    have HL12 := Aside0.mk (show l.length ≤ 12 by omega)
                    have HR3 := Aside0.mk (show (decide (Mth.chg l p = 1) && Mth.okS l0 (some l) (rk :: S) (l1.drop (x.toNat + 1))) = r1 from by
                      have h_ := HR.out
                      rw [show ml_prev l1 x.toNat = some p from by unfold ml_prev; rw [if_neg (by omega), hp]] at h_
                      exact h_)
                    have xm0 := eq_true (show 0 ≤ z by omega)
                    have xm1 := eq_true (show z < (l1.length : Int) by omega)
                    have xm2 : decide (z < (l1.length : Int)) = true := decide_eq_true (by omega)
                    clear hx0 h0 h1 c4 hp hpd hb3 hpl hll hpr hlr hcp hcpl hCp HR hxt hz
                    go_wp2_with (first | (go_at_call 26; refine (impl_areDigits.calls k3 A0 c0 l0 Al cl l true _ (Kd.C_below HR0.out HS.out.hb) HC0.out (Kd.C_below HCl.out HS.out.hb) HCL.out HK3.out).mono ?_; rintro e w' ⟨rfl, hd_⟩; have n0_ := Aside0.mk (HS.out.below hd_.below); clear HS hd_; have HS := n0_; clear n0_) | (go_at_call 27; refine (impl_mixedRank.calls k4 A0 c0 l0 Al cl l rk _ (Kd.C_below HR0.out HS.out.hb) HC0.out (Kd.C_below HCl.out HS.out.hb) HCL.out HK4.out).mono ?_; rintro e w' ⟨rfl, hd_⟩; have n0_ := Aside0.mk (HS.out.below hd_); clear HS hd_; have HS := n0_; clear n0_) | (at_lookup; (try (refine gate_guard (by rfl) ?_; dsimp only)); refine MapB.wpList_look _ rfl _ _ 55 rfl 3 4 Try.underlying3 Try.underlying55 Try.underlying4 (ml_zero _) Bm x.toNat S rfl HS.out.hm rk rfl HWF.out ?_; rw [HSC.out]) | (at_mapUpdate; refine MapB.wpList_put _ rfl _ _ _ 55 rfl 3 4 Try.underlying3 Try.underlying55 Try.underlying4 Bm x.toNat S rfl HS.out.hm HMX.out rk rfl rfl HWF.out ?_; intro w5 hm5 hg5; have n0_ := Aside0.mk (HS.out.put HBm.out hm5 hg5); clear HS hm5 hg5; have HS := n0_; clear n0_))
                    go_loopw [9, 52] (fun v9 v52 w5 => ∃ (j : Int), v52 = .int .i64 j ∧ Aside0 (0 ≤ j ∧ j ≤ (l.length : Int)) ∧ v9 = .int .i64 (Mth.chg (l.take j.toNat) (p.take j.toNat)) ∧ Aside0 (MlSt l0 A0 l1 (some ad1) Bm (x.toNat + 1) (rk :: S) w w5)) (fun _ v52 _ => l.length - (intOf v52).toNat)
                    case atStart => exact ⟨0, rfl, ⟨⟨Int.le_refl _, Int.natCast_nonneg _⟩⟩, rfl, HS⟩
                    case round =>
                      clear HS
                      obtain ⟨j, rfl, HJ, rfl, HS⟩ := hrel
                      obtain ⟨j0, j1⟩ := HJ.out
                      clear HJ
                      by_cases c5 : j < (l.length : Int)
                      · have c5b0 : decide (j < (l.length : Int)) = true := decide_eq_true c5
                        have hj1 : wrap64 (j + 1) = j + 1 := by unfold wrap64; have := HL12.out; omega
                        obtain ⟨adl, e3, hlc⟩ := Kd.at_int HCl.out j j0 c5
                        subst e3
                        obtain ⟨adp, e4, hpc⟩ := Kd.at_int HCP.out j j0 (by have := HPL.out; omega)
                        subst e4
                        have hdm := HLR.out _ (ml_rdm j0 c5)
                        have hem := HPR.out _ (ml_rdm (l := p) j0 (by have := HPL.out; omega))
                        have hstep := ml_step j0 c5 (by have := HPL.out; omega : j < (p.length : Int))
                        obtain ⟨d, hd1⟩ : ∃ d, rd l j = d := ⟨_, rfl⟩
                        obtain ⟨e, he1⟩ : ∃ e, rd p j = e := ⟨_, rfl⟩
                        rw [hd1] at hlc hdm hstep
                        rw [he1] at hpc hem hstep
                        have hcb := ml_bound (l := l) (p := p) (j := j.toNat) HLR.out HPR.out (by have := HL12.out; omega)
                        obtain ⟨g, hg1⟩ : ∃ g, Mth.chg (l.take j.toNat) (p.take j.toNat) = g := ⟨_, rfl⟩
                        rw [hg1] at hcb hstep ⊢
                        have w1 : wrap64 (d - e) = d - e := by unfold wrap64; omega
                        have w2 : wrap64 (e - d) = e - d := by unfold wrap64; omega
                        have w3 : wrap64 (g + Mth.adZ d e) = g + Mth.adZ d e := by unfold wrap64; have := Mth.adZ_pos d e; have : Mth.adZ d e ≤ 11 := (by unfold Mth.adZ; split <;> omega); omega
                        have HST := Aside0.mk hstep
                        have HJ2 := Aside0.mk (show 0 ≤ j + 1 ∧ j + 1 ≤ (l.length : Int) by omega)
                        have HMJ := Aside0.mk (show l.length - (j + 1).toNat < l.length - j.toNat by omega)
                        have hlcw := pw_cell_below HS.out.hb hlc
                        have hxcw := pw_cell_below HS.out.drew.hb HCPC.out
                        have hpcw := pw_cell_below HS.out.drew.hb hpc
                        have y0 := eq_true j0
                        have y1 := eq_true c5
                        have y2 := eq_true (show j < (p.length : Int) by have := HPL.out; omega)
                        have y2b : decide (j < (p.length : Int)) = true := decide_eq_true (by have := HPL.out; omega)
                        have y0b : decide (0 ≤ j) = true := decide_eq_true j0
                        clear hlc hpc hdm hem hstep hd1 he1 hcb hg1
                        go_wp2
                        have HSd := Aside0.mk HS.out.drew
                        clear HS hlcw
                        refine start_ (n := 24) (S := fun w' => w'.cell? (ad1.add z.toNat) = some (.slice (some adp) p.length cp) ∧ w'.cell? (adp.add j.toNat) = some (.int .i64 e)) (ds := []) #[false, false, false, false, false, false, false, false, false, false, false, false, false, false, false, false, false, false, false, false, false, false, false, false] (by kernel_rfl) rfl rfl ⟨hxcw, hpcw⟩ (fun hHeld => ?_)
                        clear hxcw hpcw
                        refine pure_ (i := 0) (N := some 57) (v := ?_) (a' := ?_) #[true, false, false, false, false, false, false, false, false, false, false, false, false, false, false, false, false, false, false, false, false, false, false, false] rfl rfl (by kernel_rfl) (fun _ _ _ h => h) (Or.inl ⟨by rfl, ?_⟩) ?_ ?_
                        rotate_left
                        · intro w'
                          go_simp
                          with_reducible rfl
                        rotate_left
                        · simp only [Act.put, List.setIfInBounds_toArray, List.set_cons_zero, List.set_cons_succ, i64_w, i32_w]
                          rfl
                        refine pure_ (i := 1) (N := some 58) (v := ?_) (a' := ?_) #[true, true, false, false, false, false, false, false, false, false, false, false, false, false, false, false, false, false, false, false, false, false, false, false] rfl rfl (by kernel_rfl) (fun _ _ _ h => h) (Or.inl ⟨by rfl, ?_⟩) ?_ ?_
                        rotate_left
                        · intro w'
                          go_simp
                          with_reducible rfl
                        rotate_left
                        · simp only [Act.put, List.setIfInBounds_toArray, List.set_cons_zero, List.set_cons_succ, i64_w, i32_w]
                          rfl
                        refine pure_ (i := 2) (N := some 59) (v := ?_) (a' := ?_) #[true, true, true, false, false, false, false, false, false, false, false, false, false, false, false, false, false, false, false, false, false, false, false, false] rfl rfl (by kernel_rfl) (fun _ _ _ h => h) (Or.inl ⟨by rfl, ?_⟩) ?_ ?_
                        rotate_left
                        · intro w'
                          go_simp
                          with_reducible rfl
                        rotate_left
                        · simp only [Act.put, List.setIfInBounds_toArray, List.set_cons_zero, List.set_cons_succ, i64_w, i32_w]
                          rfl
                        refine pure_ (i := 3) (N := some 60) (v := ?_) (a' := ?_) #[true, true, true, true, false, false, false, false, false, false, false, false, false, false, false, false, false, false, false, false, false, false, false, false] rfl rfl (by kernel_rfl) (fun _ _ _ h => h) (Or.inl ⟨by rfl, ?_⟩) ?_ ?_
                        rotate_left
                        · intro w'
                          go_simp
                          with_reducible rfl
                        rotate_left
                        · simp only [Act.put, List.setIfInBounds_toArray, List.set_cons_zero, List.set_cons_succ, i64_w, i32_w]
                          rfl
                        refine pure_ (i := 4) (N := some 61) (v := ?_) (a' := ?_) #[true, true, true, true, true, false, false, false, false, false, false, false, false, false, false, false, false, false, false, false, false, false, false, false] rfl rfl (by kernel_rfl) (fun _ _ _ h => h) (Or.inl ⟨by rfl, ?_⟩) ?_ ?_
                        rotate_left
                        · intro w'
                          go_simp
                          with_reducible rfl
                        rotate_left
                        · simp only [Act.put, List.setIfInBounds_toArray, List.set_cons_zero, List.set_cons_succ, i64_w, i32_w]
                          rfl
                        refine pure_ (i := 5) (N := some 62) (v := ?_) (a' := ?_) #[true, true, true, true, true, true, false, false, false, false, false, false, false, false, false, false, false, false, false, false, false, false, false, false] rfl rfl (by kernel_rfl) (fun _ _ _ h => h) (Or.inl ⟨by rfl, ?_⟩) ?_ ?_
                        rotate_left
                        · intro w'
                          go_simp
                          with_reducible rfl
                        rotate_left
                        · simp only [Act.put, List.setIfInBounds_toArray, List.set_cons_zero, List.set_cons_succ, i64_w, i32_w]
                          rfl
                        refine take_ (i := 6) (N := some 63) (v := ?_) (a' := ?_) #[true, true, true, true, true, true, true, false, false, false, false, false, false, false, false, false, false, false, false, false, false, false, false, false] rfl rfl (by kernel_rfl) (fun _ _ _ h => h) (Or.inl ⟨by rfl, ?_⟩) hHeld ?_ ?_
                        rotate_left
                        · rintro w' ⟨s0, s1⟩
                          go_simp
                          with_reducible rfl
                        rotate_left
                        · simp only [Act.put, List.setIfInBounds_toArray, List.set_cons_zero, List.set_cons_succ, i64_w, i32_w]
                          rfl
                        refine pure_ (i := 7) (N := some 64) (v := ?_) (a' := ?_) #[true, true, true, true, true, true, true, true, false, false, false, false, false, false, false, false, false, false, false, false, false, false, false, false] rfl rfl (by kernel_rfl) (fun _ _ _ h => h) (Or.inl ⟨by rfl, ?_⟩) ?_ ?_
                        rotate_left
                        · intro w'
                          go_simp
                          with_reducible rfl
                        rotate_left
                        · simp only [Act.put, List.setIfInBounds_toArray, List.set_cons_zero, List.set_cons_succ, i64_w, i32_w]
                          rfl
                        refine pure_ (i := 8) (N := some 65) (v := ?_) (a' := ?_) #[true, true, true, true, true, true, true, true, true, false, false, false, false, false, false, false, false, false, false, false, false, false, false, false] rfl rfl (by kernel_rfl) (fun _ _ _ h => h) (Or.inl ⟨by rfl, ?_⟩) ?_ ?_
                        rotate_left
                        · intro w'
                          go_simp
                          with_reducible rfl
                        rotate_left
                        · simp only [Act.put, List.setIfInBounds_toArray, List.set_cons_zero, List.set_cons_succ, i64_w, i32_w]
                          rfl
                        refine take_ (i := 9) (N := some 66) (v := ?_) (a' := ?_) #[true, true, true, true, true, true, true, true, true, true, false, false, false, false, false, false, false, false, false, false, false, false, false, false] rfl rfl (by kernel_rfl) (fun _ _ _ h => h) (Or.inl ⟨by rfl, ?_⟩) hHeld ?_ ?_
                        rotate_left
                        · rintro w' ⟨s0, s1⟩
                          go_simp
                          with_reducible rfl
                        rotate_left
                        · simp only [Act.put, List.setIfInBounds_toArray, List.set_cons_zero, List.set_cons_succ, i64_w, i32_w]
                          rfl
                        refine pure_ (i := 10) (N := some 67) (v := ?_) (a' := ?_) #[true, true, true, true, true, true, true, true, true, true, true, false, false, false, false, false, false, false, false, false, false, false, false, false] rfl rfl (by kernel_rfl) (fun _ _ _ h => h) (Or.inl ⟨by rfl, ?_⟩) ?_ ?_
                        rotate_left
                        · intro w'
                          go_simp
                          with_reducible rfl
                        rotate_left
                        · simp only [Act.put, List.setIfInBounds_toArray, List.set_cons_zero, List.set_cons_succ, i64_w, i32_w]
                          rfl
                        refine pure_ (i := 11) (N := some 68) (v := ?_) (a' := ?_) #[true, true, true, true, true, true, true, true, true, true, true, true, false, false, false, false, false, false, false, false, false, false, false, false] rfl rfl (by kernel_rfl) (fun _ _ _ h => h) (Or.inl ⟨by rfl, ?_⟩) ?_ ?_
                        rotate_left
                        · intro w'
                          go_simp
                          with_reducible rfl
                        rotate_left
                        · simp only [Act.put, List.setIfInBounds_toArray, List.set_cons_zero, List.set_cons_succ, i64_w, i32_w]
                          rfl
                        refine pure_ (i := 12) (N := some 69) (v := ?_) (a' := ?_) #[true, true, true, true, true, true, true, true, true, true, true, true, true, false, false, false, false, false, false, false, false, false, false, false] rfl rfl (by kernel_rfl) (fun _ _ _ h => h) (Or.inl ⟨by rfl, ?_⟩) ?_ ?_
                        rotate_left
                        · intro w'
                          go_simp
                          with_reducible rfl
                        rotate_left
                        · simp only [Act.put, List.setIfInBounds_toArray, List.set_cons_zero, List.set_cons_succ, i64_w, i32_w]
                          rfl
                        refine pure_ (i := 13) (N := some 70) (v := ?_) (a' := ?_) #[true, true, true, true, true, true, true, true, true, true, true, true, true, true, false, false, false, false, false, false, false, false, false, false] rfl rfl (by kernel_rfl) (fun _ _ _ h => h) (Or.inl ⟨by rfl, ?_⟩) ?_ ?_
                        rotate_left
                        · intro w'
                          go_simp
                          with_reducible rfl
                        rotate_left
                        · simp only [Act.put, List.setIfInBounds_toArray, List.set_cons_zero, List.set_cons_succ, i64_w, i32_w]
                          rfl
                        refine pure_ (i := 14) (N := some 71) (v := ?_) (a' := ?_) #[true, true, true, true, true, true, true, true, true, true, true, true, true, true, true, false, false, false, false, false, false, false, false, false] rfl rfl (by kernel_rfl) (fun _ _ _ h => h) (Or.inl ⟨by rfl, ?_⟩) ?_ ?_
                        rotate_left
                        · intro w'
                          go_simp
                          with_reducible rfl
                        rotate_left
                        · simp only [Act.put, List.setIfInBounds_toArray, List.set_cons_zero, List.set_cons_succ, i64_w, i32_w]
                          rfl
                        refine take_ (i := 15) (N := some 72) (v := ?_) (a' := ?_) #[true, true, true, true, true, true, true, true, true, true, true, true, true, true, true, true, false, false, false, false, false, false, false, false] rfl rfl (by kernel_rfl) (fun _ _ _ h => h) (Or.inl ⟨by rfl, ?_⟩) hHeld ?_ ?_
                        rotate_left
                        · rintro w' ⟨s0, s1⟩
                          go_simp
                          with_reducible rfl
                        rotate_left
                        · simp only [Act.put, List.setIfInBounds_toArray, List.set_cons_zero, List.set_cons_succ, i64_w, i32_w]
                          rfl
                        refine pure_ (i := 16) (N := some 73) (v := ?_) (a' := ?_) #[true, true, true, true, true, true, true, true, true, true, true, true, true, true, true, true, true, false, false, false, false, false, false, false] rfl rfl (by kernel_rfl) (fun _ _ _ h => h) (Or.inl ⟨by rfl, ?_⟩) ?_ ?_
                        rotate_left
                        · intro w'
                          go_simp
                          with_reducible rfl
                        rotate_left
                        · simp only [Act.put, List.setIfInBounds_toArray, List.set_cons_zero, List.set_cons_succ, i64_w, i32_w]
                          rfl
                        refine pure_ (i := 17) (N := some 74) (v := ?_) (a' := ?_) #[true, true, true, true, true, true, true, true, true, true, true, true, true, true, true, true, true, true, false, false, false, false, false, false] rfl rfl (by kernel_rfl) (fun _ _ _ h => h) (Or.inl ⟨by rfl, ?_⟩) ?_ ?_
                        rotate_left
                        · intro w'
                          go_simp
                          with_reducible rfl
                        rotate_left
                        · simp only [Act.put, List.setIfInBounds_toArray, List.set_cons_zero, List.set_cons_succ, i64_w, i32_w]
                          rfl
                        refine take_ (i := 18) (N := some 75) (v := ?_) (a' := ?_) #[true, true, true, true, true, true, true, true, true, true, true, true, true, true, true, true, true, true, true, false, false, false, false, false] rfl rfl (by kernel_rfl) (fun _ _ _ h => h) (Or.inl ⟨by rfl, ?_⟩) hHeld ?_ ?_
                        rotate_left
                        · rintro w' ⟨s0, s1⟩
                          go_simp
                          with_reducible rfl
                        rotate_left
                        · simp only [Act.put, List.setIfInBounds_toArray, List.set_cons_zero, List.set_cons_succ, i64_w, i32_w]
                          rfl
                        refine pure_ (i := 19) (N := some 76) (v := ?_) (a' := ?_) #[true, true, true, true, true, true, true, true, true, true, true, true, true, true, true, true, true, true, true, true, false, false, false, false] rfl rfl (by kernel_rfl) (fun _ _ _ h => h) (Or.inl ⟨by rfl, ?_⟩) ?_ ?_
                        rotate_left
                        · intro w'
                          go_simp
                          with_reducible rfl
                        rotate_left
                        · simp only [Act.put, List.setIfInBounds_toArray, List.set_cons_zero, List.set_cons_succ, i64_w, i32_w]
                          rfl
                        refine pure_ (i := 20) (N := some 77) (v := ?_) (a' := ?_) #[true, true, true, true, true, true, true, true, true, true, true, true, true, true, true, true, true, true, true, true, true, false, false, false] rfl rfl (by kernel_rfl) (fun _ _ _ h => h) (Or.inl ⟨by rfl, ?_⟩) ?_ ?_
                        rotate_left
                        · intro w'
                          go_simp
                          with_reducible rfl
                        rotate_left
                        · simp only [Act.put, List.setIfInBounds_toArray, List.set_cons_zero, List.set_cons_succ, i64_w, i32_w]
                          rfl
                        refine pure_ (i := 21) (N := some 78) (v := ?_) (a' := ?_) #[true, true, true, true, true, true, true, true, true, true, true, true, true, true, true, true, true, true, true, true, true, true, false, false] rfl rfl (by kernel_rfl) (fun _ _ _ h => h) (Or.inl ⟨by rfl, ?_⟩) ?_ ?_
                        rotate_left
                        · intro w'
                          go_simp
                          with_reducible rfl
                        rotate_left
                        · simp only [Act.put, List.setIfInBounds_toArray, List.set_cons_zero, List.set_cons_succ, i64_w, i32_w]
                          rfl
                        refine pure_ (i := 22) (N := some 79) (v := ?_) (a' := ?_) #[true, true, true, true, true, true, true, true, true, true, true, true, true, true, true, true, true, true, true, true, true, true, true, false] rfl rfl (by kernel_rfl) (fun _ _ _ h => h) (Or.inl ⟨by rfl, ?_⟩) ?_ ?_
                        rotate_left
                        · intro w'
                          go_simp
                          with_reducible rfl
                        rotate_left
                        · simp only [Act.put, List.setIfInBounds_toArray, List.set_cons_zero, List.set_cons_succ, i64_w, i32_w]
                          rfl
                        refine pure_ (i := 23) (N := some 9) (v := ?_) (a' := ?_) #[true, true, true, true, true, true, true, true, true, true, true, true, true, true, true, true, true, true, true, true, true, true, true, true] rfl rfl (by kernel_rfl) (fun _ _ _ h => h) (Or.inl ⟨by rfl, ?_⟩) ?_ ?_
                        rotate_left
                        · intro w'
                          go_simp
                          with_reducible rfl
                        rotate_left
                        · simp only [Act.put, List.setIfInBounds_toArray, List.set_cons_zero, List.set_cons_succ, i64_w, i32_w]
                          rfl
                        refine done_ (by kernel_rfl) ?_
                        go_wp2
                        have hmx : (if d - e < e - d then e - d else d - e) = Mth.adZ d e := by unfold Mth.adZ; split <;> split <;> omega
                        exact ⟨⟨j + 1, by rw [hj1], HJ2, by rw [HST.out, hmx, w3], HSd⟩, by rw [hj1]; exact HMJ.out⟩
                      · have c5b0 : decide (j < (l.length : Int)) = false := decide_eq_false c5
                        have hjt : Mth.chg (l.take j.toNat) (p.take j.toNat) = Mth.chg l p := by
                          have := HPL.out
                          rw [List.take_of_length_le (by omega), List.take_of_length_le (by omega)]
                        rw [hjt]
                        obtain ⟨ch, hch⟩ : ∃ ch, Mth.chg l p = ch := ⟨_, rfl⟩
                        rw [hch] at HR3 ⊢
                        clear c5 j0 j1 hjt hch
                        by_cases hc1 : ch = 1
                        · have c6 : (ch != 1) = false := bne_eq_false_iff_eq.mpr hc1
                          have c6b : (ch == 1) = true := beq_iff_eq.mpr hc1
                          have HR2 := Aside0.mk (show Mth.okS l0 (some l) (rk :: S) (l1.drop (x.toNat + 1)) = r1 from by have h_ := HR3.out; rw [decide_eq_true hc1, Bool.true_and] at h_; exact h_)
                          clear hc1
                          go_wp2
                          go_roundw
                          case rel => exact ⟨x + 1, rk :: S, by rw [hx1], HXR, by rw [HNX.out.1]; exact HS, by rw [HNX.out.1, HNX.out.2]; exact HR2, ⟨fun _ => by rw [HNX.out.1, Nat.add_sub_cancel, HLN.out]; exact HD.out⟩⟩
                          case measure => rw [hx1]; exact HME.out
                        · have c6 : (ch != 1) = true := bne_iff_ne.mpr hc1
                          have c6b : (ch == 1) = false := beq_eq_false_iff_ne.mpr hc1
                          have hr1 : r1 = false := by have h_ := HR3.out; rw [decide_eq_false hc1, Bool.false_and] at h_; exact h_.symm
                          subst hr1
                          clear hc1
                          go_wp2
                          go_ret2
                          exact ⟨rfl, HS.out.hb⟩
            · have c4b0 : decide (x < (l1.length : Int)) = false := decide_eq_false c4
              have hr1 : r1 = true := by
                have h_ := HR.out
                rw [List.drop_eq_nil_of_le (by omega)] at h_
                exact h_.symm
              subst hr1
              clear c4 h0 h1
              go_wp2
              go_ret2
              exact ⟨rfl, HS.out.hb⟩
        · rw [if_neg hS] at h
          simp only [Prod.mk.injEq] at h
          obtain ⟨rfl, rfl⟩ := h
          obtain ⟨sz, hsz⟩ : ∃ sz, Mth.prod l0 = sz := ⟨_, rfl⟩
          rw [hsz] at hS HK2
          have cS : ((l1.length : Int) != sz) = true := bne_iff_ne.mpr hS
          have cS2 : ((l1.length : Int) == sz) = false := beq_eq_false_iff_ne.mpr hS
          clear hS hsz hB hL
          go_enter Try.func13, Try.ntmps13
          go_wp2_with (first | (go_at_call 18; refine (impl_areBases.calls k1 A0 c0 l0 true _ HR0.out HC0.out HK1.out).mono ?_; rintro e w' ⟨rfl, hb⟩; have HB := Aside0.mk hb; clear hb) | (go_at_call 20; refine (impl_size.calls k2 A0 c0 l0 sz _ (Kd.C_below HR0.out HB.out) HC0.out HK2.out).mono ?_; rintro e w2 ⟨rfl, hb⟩; have n0_ := Aside0.mk (below_step HB.out hb); clear HB hb; have HB := n0_; clear n0_))
          go_ret2
          exact ⟨rfl, HB.out⟩
      · rw [if_neg (fun c => hL c.2)] at h
        simp only [Prod.mk.injEq] at h
        obtain ⟨rfl, rfl⟩ := h
        have cL : decide ((l1.length : Int) > 1100) = true := decide_eq_true (by omega)
        have cL2 : decide (1100 < (l1.length : Int)) = true := decide_eq_true (by omega)
        have cL3 : decide (1100 < l1.length) = true := decide_eq_true (by omega)
        clear hL hB
        go_enter Try.func13, Try.ntmps13
        go_wp2_with (first | (go_at_call 18; refine (impl_areBases.calls k1 A0 c0 l0 true _ HR0.out HC0.out HK1.out).mono ?_; rintro e w' ⟨rfl, hb⟩; have HB := Aside0.mk hb; clear hb))
        go_ret2
        exact ⟨rfl, HB.out⟩
  · rw [if_neg hlen] at h
    cases h
end

/-! ### spec_raAreDigits: function 32 -/
def spec_raAreDigits.l0 : Nat → List Int → List Int → Int → Int → Option (Bool)
  | 0, _, _, _, _ => none
  | k + 1, x0, x12, x13, x14 => if x14 < x13 then (if 0 ≤ x14 then (if x14 < (x12.length : Int) then (if x14 < (x0.length : Int) then ((spec_l1In.f (rd x12 x14) 0 (wrap64 ((rd x0 x14) - 1))).bind fun t309 => (if t309 = true then (spec_raAreDigits.l0 k x0 x12 x13 (wrap64 (x14 + 1))) else (some false))) else (none)) else (none)) else (none)) else (some true)
def spec_raAreDigits.f (k : Nat) (l0 : List Int) (l1 : List Int) : Option (Bool) := if (l1.length : Int) = (l0.length : Int) then (spec_raAreDigits.l0 k l0 l1 (l1.length : Int) 0) else (some false)
theorem spec_raAreDigits.mono_l : ∀ k, (∀ y0 y1 y2 y3, LeO (spec_raAreDigits.l0 k y0 y1 y2 y3) (spec_raAreDigits.l0 (k + 1) y0 y1 y2 y3))
  | 0 => fun _ _ _ _ r h => by simp [spec_raAreDigits.l0] at h
  | k + 1 => by
    have ih0 := spec_raAreDigits.mono_l k
    · intro y0 y1 y2 y3
      unfold spec_raAreDigits.l0
      repeat' first
      | (with_reducible exact ih0 _ _ _ _)
      | (with_reducible exact LeO.refl _)
      | (with_reducible exact LeO.none _)
      | (with_reducible refine LeO.ite ?_ ?_)
      | (with_reducible refine LeO.bind ?_ (fun _ => ?_))
      | exact ih0 _ _ _ _
      | exact LeO.none _
      | refine LeO.ite ?_ ?_
      | refine LeO.bind ?_ (fun _ => ?_)
theorem spec_raAreDigits.mono : ∀ a0 a1 k, LeO (spec_raAreDigits.f k a0 a1) (spec_raAreDigits.f (k + 1) a0 a1) := by
  intro a0 a1 k
  have ih0 := spec_raAreDigits.mono_l k
  unfold spec_raAreDigits.f
  repeat' first
      | (with_reducible exact ih0 _ _ _ _)
      | (with_reducible exact LeO.refl _)
      | (with_reducible exact LeO.none _)
      | (with_reducible refine LeO.ite ?_ ?_)
      | (with_reducible refine LeO.bind ?_ (fun _ => ?_))
      | exact ih0 _ _ _ _
      | exact LeO.none _
      | refine LeO.ite ?_ ?_
      | refine LeO.bind ?_ (fun _ => ?_)
set_option maxHeartbeats 8000000 in
set_option maxRecDepth 100000 in
theorem spec_raAreDigits.calls (k : Nat) (A0 : Option Addr) (c0 : Nat) (l0 : List Int) (A1 : Option Addr) (c1 : Nat) (l1 : List Int) (r : Bool) (w : World) (hr0 : Kd.C (Kd.int .i64) w A0 l0.length l0) (hc0 : l0.length ≤ c0) (hr1 : Kd.C (Kd.int .i64) w A1 l1.length l1) (hc1 : l1.length ≤ c1) (h : spec_raAreDigits.f k l0 l1 = some r) :
    Calls Try.prog 32 #[.slice A0 l0.length c0, .slice A1 l1.length c1] w fun e w' => e = .returned (.bool r) ∧ Drawn0 w w' := by
  have HR0 := Aside0.mk hr0
  have HC0 := Aside0.mk hc0
  clear hr0 hc0
  have HR1 := Aside0.mk hr1
  have HC1 := Aside0.mk hc1
  clear hr1 hc1
  have H : (if (l1.length : Int) = (l0.length : Int) then (spec_raAreDigits.l0 k l0 l1 (l1.length : Int) 0) else (some false)) = some r := h
  clear h
  by_cases c3 : (l1.length : Int) = (l0.length : Int)
  · rw [if_pos c3] at H
    have c3b0 : ((l1.length : Int) == (l0.length : Int)) = true := beq_iff_eq.mpr c3
    have c3b1 : ((l1.length : Int) != (l0.length : Int)) = false := bne_eq_false_iff_eq.mpr c3
    have c3b2 : (l1.length == l0.length) = true := by first | simpa using c3 | (simp at c3 ⊢; omega)
    clear c3
    have H' := Aside0.mk H
    clear H
    go_enter Try.func32, Try.ntmps32
    go_wp2
    go_loopg [14] k (fun kq v14 w' => ∃ (x14_1 : Int), v14 = .int .i64 x14_1 ∧ Aside0 (spec_raAreDigits.l0 kq l0 l1 (l1.length : Int) x14_1 = some r) ∧ Aside0 (kq ≤ k) ∧ Drawn0 w w')
    case atStart => exact ⟨(0), (by first | rfl | (simp; done) | (simp [*]; done)), H', ⟨Nat.le_refl _⟩, by repeat (first | exact Drawn0.refl _ | apply Drawn0.step)⟩
    case round =>
      clear H'
      try clear c1
      try clear p2
      try clear c3
      try clear c3b0
      try clear c3b1
      try clear c3b2
      obtain ⟨x14_1, rfl, HA, HK1, ⟨m1, rfl⟩⟩ := hrel
      cases gk with
      | zero => exact absurd HA.out (by simp [spec_raAreDigits.l0])
      | succ k1 =>
        have H := HA.out
        clear HA
        simp only [spec_raAreDigits.l0] at H
        by_cases c4 : x14_1 < (l1.length : Int)
        · rw [if_pos c4] at H
          have c4b0 : decide (x14_1 < (l1.length : Int)) = true := decide_eq_true c4
          clear c4
          by_cases c5 : 0 ≤ x14_1
          · rw [if_pos c5] at H
            have c5b0 : decide (0 ≤ x14_1) = true := decide_eq_true c5
            clear c5
            by_cases c6 : x14_1 < (l1.length : Int)
            · rw [if_pos c6] at H
              have c6b0 : decide (x14_1 < (l1.length : Int)) = true := decide_eq_true c6
              clear c6
              by_cases c7 : x14_1 < (l0.length : Int)
              · rw [if_pos c7] at H
                have c7b0 : decide (x14_1 < (l0.length : Int)) = true := decide_eq_true c7
                clear c7
                replace H := Option.bind_eq_some_iff.mp H
                obtain ⟨t309, A80, H⟩ := H
                replace H : (if t309 = true then (spec_raAreDigits.l0 k1 l0 l1 (l1.length : Int) (wrap64 (x14_1 + 1))) else (some false)) = some r := H
                have A8 := Aside0.mk A80
                clear A80
                by_cases c9 : t309 = true
                · subst c9
                  have H1 : (spec_raAreDigits.l0 k1 l0 l1 (l1.length : Int) (wrap64 (x14_1 + 1))) = some r := by rw [if_pos rfl] at H; exact H
                  clear H
                  have H := H1
                  clear H1
                  have H' := Aside0.mk H
                  clear H
                  have p307 : 0 ≤ (x14_1 : Int) := of_decide_eq_true (by first | (with_reducible assumption) | assumption)
                  have q307 : x14_1 < (l1.length : Int) := of_decide_eq_true (by first | (with_reducible assumption) | assumption)
                  obtain ⟨ad307, e307, hx307_0⟩ := Kd.at_int HR1.out x14_1 p307 q307
                  cases e307
                  replace p307 := eq_true p307
                  replace q307 := eq_true q307
                  have p308 : 0 ≤ (x14_1 : Int) := of_decide_eq_true (by first | (with_reducible assumption) | assumption)
                  have q308 : x14_1 < (l0.length : Int) := of_decide_eq_true (by first | (with_reducible assumption) | assumption)
                  obtain ⟨ad308, e308, hx308_0⟩ := Kd.at_int HR0.out x14_1 p308 q308
                  cases e308
                  replace p308 := eq_true p308
                  replace q308 := eq_true q308
                  go_wp2_with (first | ((with_reducible refine gate_callee (f := 23) rfl ?_); refine goesL_ (some 25) rfl rfl Try.func23 (by kernel_rfl) rfl #[.int .i64 (rd l1 x14_1), .int .i64 0, .int .i64 (wrap64 ((rd l0 x14_1) - 1))] rfl (by (try simp only [List.map_toArray, List.map_cons, List.map_nil]); first | done | rfl | (simp only [List.length_drop, List.length_take]; rfl)) ?_; (with_reducible refine (spec_l1In.calls (rd l1 x14_1) 0 (wrap64 ((rd l0 x14_1) - 1)) true _ A8.out).mono ?_); rintro e w' ⟨rfl, ⟨nd, rfl⟩⟩; refine ⟨_, rfl, ?_⟩))
                  go_roundg k1
                  case measure => have := HK1.out; omega
                  case rel => exact ⟨(wrap64 (x14_1 + 1)), (by first | rfl | (simp; done) | (simp [*]; done)), H', ⟨by have := HK1.out; omega⟩, by repeat (first | exact Drawn0.refl _ | apply Drawn0.step)⟩
                · replace c9 := Bool.eq_false_iff.mpr c9
                  subst c9
                  have H1 : (some false) = some r := by rw [if_neg (show ¬ (false = true) by decide)] at H; exact H
                  clear H
                  have H := H1
                  clear H1
                  obtain rfl := Option.some.inj H
                  have p307 : 0 ≤ (x14_1 : Int) := of_decide_eq_true (by first | (with_reducible assumption) | assumption)
                  have q307 : x14_1 < (l1.length : Int) := of_decide_eq_true (by first | (with_reducible assumption) | assumption)
                  obtain ⟨ad307, e307, hx307_0⟩ := Kd.at_int HR1.out x14_1 p307 q307
                  cases e307
                  replace p307 := eq_true p307
                  replace q307 := eq_true q307
                  have p308 : 0 ≤ (x14_1 : Int) := of_decide_eq_true (by first | (with_reducible assumption) | assumption)
                  have q308 : x14_1 < (l0.length : Int) := of_decide_eq_true (by first | (with_reducible assumption) | assumption)
                  obtain ⟨ad308, e308, hx308_0⟩ := Kd.at_int HR0.out x14_1 p308 q308
                  cases e308
                  replace p308 := eq_true p308
                  replace q308 := eq_true q308
                  go_wp2_with (first | ((with_reducible refine gate_callee (f := 23) rfl ?_); refine goesL_ (some 25) rfl rfl Try.func23 (by kernel_rfl) rfl #[.int .i64 (rd l1 x14_1), .int .i64 0, .int .i64 (wrap64 ((rd l0 x14_1) - 1))] rfl (by (try simp only [List.map_toArray, List.map_cons, List.map_nil]); first | done | rfl | (simp only [List.length_drop, List.length_take]; rfl)) ?_; (with_reducible refine (spec_l1In.calls (rd l1 x14_1) 0 (wrap64 ((rd l0 x14_1) - 1)) false _ A8.out).mono ?_); rintro e w' ⟨rfl, ⟨nd, rfl⟩⟩; refine ⟨_, rfl, ?_⟩))
                  go_ret
                  exact ⟨by first | rfl | (simp; done) | (simp [*]; done), by repeat (first | exact Drawn0.refl _ | apply Drawn0.step)⟩
              · rw [if_neg c7] at H
                exact absurd H (by simp)
            · rw [if_neg c6] at H
              exact absurd H (by simp)
          · rw [if_neg c5] at H
            exact absurd H (by simp)
        · rw [if_neg c4] at H
          have c4b0 : decide (x14_1 < (l1.length : Int)) = false := decide_eq_false c4
          clear c4
          obtain rfl := Option.some.inj H
          go_wp2
          go_ret
          exact ⟨by first | rfl | (simp; done) | (simp [*]; done), by repeat (first | exact Drawn0.refl _ | apply Drawn0.step)⟩
  · rw [if_neg c3] at H
    have c3b0 : ((l1.length : Int) == (l0.length : Int)) = false := beq_eq_false_iff_ne.mpr c3
    have c3b1 : ((l1.length : Int) != (l0.length : Int)) = true := bne_iff_ne.mpr c3
    have c3b2 : (l1.length == l0.length) = false := by first | simpa using c3 | (simp at c3 ⊢; omega)
    obtain rfl := Option.some.inj H
    go_enter Try.func32, Try.ntmps32
    go_wp2
    go_ret
    exact ⟨by first | rfl | (simp; done) | (simp [*]; done), by repeat (first | exact Drawn0.refl _ | apply Drawn0.step)⟩

/-! ### spec_l1Most: function 44 -/
def spec_l1Most.f (a0 : Int) (a1 : Int) : Option (Int) := if a0 > a1 then (some a0) else (some a1)
set_option maxHeartbeats 8000000 in
set_option maxRecDepth 100000 in
theorem spec_l1Most.calls (a0 : Int) (a1 : Int) (r : Int) (w : World) (h : spec_l1Most.f a0 a1 = some r) :
    Calls Try.prog 44 #[.int .i64 a0, .int .i64 a1] w fun e w' => e = .returned (.int .i64 r) ∧ Drawn0 w w' := by
  have H : (if a0 > a1 then (some a0) else (some a1)) = some r := h
  clear h
  by_cases c3 : a0 > a1
  · rw [if_pos c3] at H
    have c3b0 : decide (a1 < a0) = true := decide_eq_true c3
    clear c3
    obtain rfl := Option.some.inj H
    go_enter Try.func44, Try.ntmps44
    go_wp2
    go_ret
    exact ⟨by first | rfl | (simp; done) | (simp [*]; done), by repeat (first | exact Drawn0.refl _ | apply Drawn0.step)⟩
  · rw [if_neg c3] at H
    have c3b0 : decide (a1 < a0) = false := decide_eq_false c3
    clear c3
    obtain rfl := Option.some.inj H
    go_enter Try.func44, Try.ntmps44
    go_wp2
    go_ret
    exact ⟨by first | rfl | (simp; done) | (simp [*]; done), by repeat (first | exact Drawn0.refl _ | apply Drawn0.step)⟩

/-! ### spec_l1Abs: function 43 -/
def spec_l1Abs.f (a0 : Int) : Option (Int) := (spec_l1Most.f a0 (wrap64 (-a0))).bind fun t310 => (some t310)
set_option maxHeartbeats 8000000 in
set_option maxRecDepth 100000 in
theorem spec_l1Abs.calls (a0 : Int) (r : Int) (w : World) (h : spec_l1Abs.f a0 = some r) :
    Calls Try.prog 43 #[.int .i64 a0] w fun e w' => e = .returned (.int .i64 r) ∧ Drawn0 w w' := by
  have H : ((spec_l1Most.f a0 (wrap64 (-a0))).bind fun t310 => (some t310)) = some r := h
  clear h
  replace H := Option.bind_eq_some_iff.mp H
  obtain ⟨t310, A20, H⟩ := H
  replace H : (some t310) = some r := H
  have A2 := Aside0.mk A20
  clear A20
  obtain rfl := Option.some.inj H
  go_enter Try.func43, Try.ntmps43
  go_wp2_with (first | ((with_reducible refine gate_callee (f := 44) rfl ?_); refine goesL_ (some 6) rfl rfl Try.func44 (by kernel_rfl) rfl #[.int .i64 a0, .int .i64 (wrap64 (-a0))] rfl (by (try simp only [List.map_toArray, List.map_cons, List.map_nil]); first | done | rfl | (simp only [List.length_drop, List.length_take]; rfl)) ?_; (with_reducible refine (spec_l1Most.calls a0 (wrap64 (-a0)) t310 _ A2.out).mono ?_); rintro e w' ⟨rfl, ⟨nd, rfl⟩⟩; refine ⟨_, rfl, ?_⟩))
  go_ret
  exact ⟨by first | rfl | (simp; done) | (simp [*]; done), by repeat (first | exact Drawn0.refl _ | apply Drawn0.step)⟩

end Go.Proofs.Ytbibabekmpipdaa.PFnMixedLists
