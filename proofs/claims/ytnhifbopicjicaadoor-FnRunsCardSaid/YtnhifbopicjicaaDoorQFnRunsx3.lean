/- What the law's functions compute, and that the calls come to just that: turned from a printed text. No condition. -/
import Derived.Test.YtnhifbopicjicaaDoorQFnRunsx0
import Derived.Test.YtnhifbopicjicaaDoorQFnRunsx1
import Derived.Test.YtnhifbopicjicaaDoorQFnRunsx2
namespace Go.Proofs.YtnhifbopicjicaaDoor.PFnRuns
open Go.RowKit Go.Proofs.YtnhifbopicjicaaDoorW.PrintWords Go.Proofs.YtnhifbopicjicaaDoorW.PrintLast Go.Proofs.YtnhifbopicjicaaDoorW.PrintMore
attribute [local go_sem] max2_int min2_int max_two min_two max_three min_three max_four min_four   -- for this text's walks alone
set_option linter.unusedVariables false
set_option linter.unusedSimpArgs false

/-! ### impl_CountCodes: functions 20, 77, by hand -/
/-- What the closure leaves in its two counters: p as it found them, f words still to come. -/
def cc_step (g : Nat → Nat → Int × Int → Int × Int) (x u : Nat) : Nat → Int × Int → Int × Int
  | 0, p => p
  | i + 1, p => if u.testBit (x ^^^ 2 ^ i) = true then cc_step g x u i p else g (x ^^^ 2 ^ i) (u ||| 2 ^ (x ^^^ 2 ^ i)) (cc_step g x u i p)
def cc_all (n : Nat) : Nat → Nat → Nat → Int × Int → Int × Int
  | 0, x, _, p => (wrap64 (p.1 + 1), if 0 ≤ Mth.dl (x : Int) 0 then wrap64 (p.2 + 1) else p.2)
  | f + 1, x, u, p => cc_step (cc_all n f) x u n p
def impl_CountCodes.f (a0 : Int) : Option (Int × Int × Bool) := if 1 ≤ a0 ∧ a0 ≤ 3 then some ((cc_all a0.toNat (2 ^ a0.toNat - 1) 0 1 (0, 0)).1, (cc_all a0.toNat (2 ^ a0.toNat - 1) 0 1 (0, 0)).2, true) else some (0, 0, false)
abbrev cc_cap (Bn Ba Br Be : Nat) : Value := .func (.func 77) #[] #[.pointer (some ⟨Bn, 0, none⟩), .pointer (some ⟨Ba, 0, none⟩), .pointer (some ⟨Br, 0, none⟩), .pointer (some ⟨Be, 0, none⟩)]
structure CcSt (B Bn Ba Br Be n : Nat) (p : Int × Int) (w0 W : World) : Prop where
  hn : W.heap[Bn]? = some (.cells #[.int .i64 (n : Int)] 3 (0, 0))
  ha : W.heap[Ba]? = some (.cells #[.int .i64 p.1] 3 (0, 0))
  hr : W.heap[Br]? = some (.cells #[.int .i64 p.2] 3 (0, 0))
  he : W.heap[Be]? = some (.cells #[cc_cap Bn Ba Br Be] 64 (0, 0))
  hb : Below B w0 W
structure CcB (B Bn Ba Br Be : Nat) (w0 : World) : Prop where
  h1 : 1 < B
  hBn : B ≤ Bn
  hBa : B ≤ Ba
  hBr : B ≤ Br
  hBe : B ≤ Be
  an : Bn ≠ Ba
  ar : Br ≠ Ba
  ae : Be ≠ Ba
  rn : Bn ≠ Br
  re : Be ≠ Br
  ra : Ba ≠ Br
  tab : Tab_ w0
theorem CcSt.setA {B Bn Ba Br Be n : Nat} {p : Int × Int} {w0 W : World} (h : CcSt B Bn Ba Br Be n p w0 W) (c : CcB B Bn Ba Br Be w0) (a : Int) : CcSt B Bn Ba Br Be n (a, p.2) w0 (W.setCell ⟨Ba, 0, none⟩ (.int .i64 a)) :=
  ⟨(Below.heap_setCell _ _ _ _ c.an).trans h.hn, one_setCell h.ha, (Below.heap_setCell _ _ _ _ c.ar).trans h.hr, (Below.heap_setCell _ _ _ _ c.ae).trans h.he, h.hb.setCell c.hBa _⟩
theorem CcSt.setR {B Bn Ba Br Be n : Nat} {p : Int × Int} {w0 W : World} (h : CcSt B Bn Ba Br Be n p w0 W) (c : CcB B Bn Ba Br Be w0) (r : Int) : CcSt B Bn Ba Br Be n (p.1, r) w0 (W.setCell ⟨Br, 0, none⟩ (.int .i64 r)) :=
  ⟨(Below.heap_setCell _ _ _ _ c.rn).trans h.hn, (Below.heap_setCell _ _ _ _ c.ra).trans h.ha, one_setCell h.hr, (Below.heap_setCell _ _ _ _ c.re).trans h.he, h.hb.setCell c.hBr _⟩
theorem CcSt.drewN {B Bn Ba Br Be n : Nat} {p : Int × Int} {w0 W : World} (h : CcSt B Bn Ba Br Be n p w0 W) (k : Nat) : CcSt B Bn Ba Br Be n p w0 (W.drewN k) := ⟨h.hn, h.ha, h.hr, h.he, pw_below_drewN h.hb k⟩
theorem CcSt.drew {B Bn Ba Br Be n : Nat} {p : Int × Int} {w0 W : World} (h : CcSt B Bn Ba Br Be n p w0 W) : CcSt B Bn Ba Br Be n p w0 W.drew := ⟨h.hn, h.ha, h.hr, h.he, h.hb.drew⟩
theorem CcSt.tab {B Bn Ba Br Be n : Nat} {p : Int × Int} {w0 W : World} (h : CcSt B Bn Ba Br Be n p w0 W) (c : CcB B Bn Ba Br Be w0) : Tab_ W := ⟨fun j hj => (h.hb.cell (by exact c.h1)).trans (c.tab.out j hj)⟩
theorem cc_delta (x : Nat) (hx : x < 8) : impl_delta.f (x : Int) 0 = some (Mth.dl (x : Int) 0) := by
  have t : ∀ x : Fin 8, impl_delta.f (x.1 : Int) 0 = some (Mth.dl (x.1 : Int) 0) := by decide +kernel
  exact t ⟨x, hx⟩
theorem cc_shl (i : Nat) (hi : i < 20) : shl .i64 1 (i : Int) = ((2 ^ i : Nat) : Int) := by
  have t : ∀ i : Fin 20, shl .i64 1 (i.1 : Int) = ((2 ^ i.1 : Nat) : Int) := by decide +kernel
  exact t ⟨i, hi⟩
theorem cc_xor (x i : Nat) (hx : x < 8) (hi : i < 3) : Go.bits .xor .i64 (x : Int) ((2 ^ i : Nat) : Int) = ((x ^^^ 2 ^ i : Nat) : Int) ∧ x ^^^ 2 ^ i < 8 := by
  have t : ∀ x : Fin 8, ∀ i : Fin 3, Go.bits .xor .i64 (x.1 : Int) ((2 ^ i.1 : Nat) : Int) = ((x.1 ^^^ 2 ^ i.1 : Nat) : Int) ∧ x.1 ^^^ 2 ^ i.1 < 8 := by decide +kernel
  exact t ⟨x, hx⟩ ⟨i, hi⟩
theorem cc_bit (u y : Nat) (hu : u < 256) (hy : y < 8) : ((Go.bits .and .i64 (shr .i64 (u : Int) (y : Int)) 1 == 0) = !u.testBit y) ∧ Go.bits .or .i64 (u : Int) ((2 ^ y : Nat) : Int) = ((u ||| 2 ^ y : Nat) : Int) ∧ u ||| 2 ^ y < 256 := by
  have t : ∀ u : Fin 256, ∀ y : Fin 8, ((Go.bits .and .i64 (shr .i64 (u.1 : Int) (y.1 : Int)) 1 == 0) = !u.1.testBit y.1) ∧ Go.bits .or .i64 (u.1 : Int) ((2 ^ y.1 : Nat) : Int) = ((u.1 ||| 2 ^ y.1 : Nat) : Int) ∧ u.1 ||| 2 ^ y.1 < 256 := by decide +kernel
  exact t ⟨u, hu⟩ ⟨y, hy⟩
set_option maxHeartbeats 2000000 in
/-- The closure where the list is full. -/
theorem cc_end (B Bn Ba Br Be n : Nat) (w0 : World) (c : CcB B Bn Ba Br Be w0) (hn : n ≤ 3) (x u : Nat) (hx : x < 8) (l : Int) (hl : l = ((2 ^ n : Nat) : Int)) (p : Int × Int) (W : World) (S : CcSt B Bn Ba Br Be n p w0 W) :
    Calls Tryd.prog 77 #[.int .i64 (x : Int), .int .i64 (u : Int), .int .i64 l, .pointer (some ⟨Bn, 0, none⟩), .pointer (some ⟨Ba, 0, none⟩), .pointer (some ⟨Br, 0, none⟩), .pointer (some ⟨Be, 0, none⟩)] W fun e w' => e = .returned (.tuple #[]) ∧ CcSt B Bn Ba Br Be n (cc_all n 0 x u p) w0 w' := by
  have cN := cell_of_one S.hn
  have cA := cell_of_one S.ha
  have fA := free_of_one S.ha
  have n0 : (0 : Int) ≤ (n : Int) := Int.natCast_nonneg n
  have hj := cc_shl n (by omega)
  rw [← hl] at hj
  have hj_ : (IntKind.i64.wrap (1 * 2 ^ min (n : Int).toNat 64)) = l := hj
  have hjz : (n : Int) ≤ 64 → (IntKind.i64.wrap (1 * 2 ^ (n : Int).toNat)) = l := shl_small hj
  have hjp : (IntKind.i64.wrap (1 * 2 ^ min n 64)) = l := hj_
  have hjq : (n : Int) ≤ 64 → (IntKind.i64.wrap (1 * 2 ^ n)) = l := hjz
  have hjr : (IntKind.i64.wrap (2 ^ min n 64)) = l := by have h_ := hjp; rw [Int.one_mul] at h_; exact h_
  have hjs : (n : Int) ≤ 64 → (IntKind.i64.wrap (2 ^ n)) = l := fun hle_ => by have h_ := hjq hle_; rw [Int.one_mul] at h_; exact h_
  have hju : (IntKind.i64.wrap (2 ^ min (n : Int).toNat 64)) = l := by have h_ := hj_; rw [Int.one_mul] at h_; exact h_
  have hjy : (wrap64 (1 * 2 ^ min (n : Int).toNat 64)) = l := (i64_w _).symm.trans hj_
  have hjw : wrap64 (2 ^ n) = l := (i64_w _).symm.trans (hjs (by omega))
  have hjx : wrap64 (1 * 2 ^ n) = l := (i64_w _).symm.trans (hjq (by omega))
  have c0 := eq_true n0
  have c1 : (l == l) = true := by simp
  have S1 := S.setA c (wrap64 (p.1 + 1))
  have hd := cc_delta x hx
  clear hl
  by_cases hg : 0 ≤ Mth.dl (x : Int) 0
  · have c2 : decide (Mth.dl (x : Int) 0 ≥ 0) = true := decide_eq_true hg
    have c2' : decide (0 ≤ Mth.dl (x : Int) 0) = true := decide_eq_true hg
    have c2b := eq_true hg
    have e0 : cc_all n 0 x u p = (wrap64 (p.1 + 1), wrap64 (p.2 + 1)) := by simp only [cc_all]; rw [if_pos hg]
    rw [e0]
    generalize Mth.dl (x : Int) 0 = d at *
    go_enter Tryd.func77, Tryd.ntmps77
    go_wp2_with (first | (go_at_call 78; refine (impl_delta.calls (x : Int) 0 _ _ hd (S1.tab c)).mono ?_; rintro e w2 ⟨rfl, ⟨nd, rfl⟩⟩; have S2 := S1.drewN nd; have cR := cell_of_one S2.hr; have fR := free_of_one S2.hr; have S3 := S2.setR c (wrap64 (p.2 + 1))))
    first | go_end0 | refine bodyPost_ret (results_none rfl _ _ _) rfl ?_
    exact ⟨rfl, S3⟩
  · have c2 : decide (Mth.dl (x : Int) 0 ≥ 0) = false := decide_eq_false hg
    have c2' : decide (0 ≤ Mth.dl (x : Int) 0) = false := decide_eq_false hg
    have c2b := eq_false hg
    have e0 : cc_all n 0 x u p = (wrap64 (p.1 + 1), p.2) := by simp only [cc_all]; rw [if_neg hg]
    rw [e0]
    generalize Mth.dl (x : Int) 0 = d at *
    go_enter Tryd.func77, Tryd.ntmps77
    go_wp2_with (first | (go_at_call 78; refine (impl_delta.calls (x : Int) 0 _ _ hd (S1.tab c)).mono ?_; rintro e w2 ⟨rfl, ⟨nd, rfl⟩⟩; have S2 := S1.drewN nd))
    first | go_end0 | refine bodyPost_ret (results_none rfl _ _ _) rfl ?_
    exact ⟨rfl, S2⟩
set_option maxHeartbeats 4000000 in
set_option maxRecDepth 100000 in
/-- The closure, with f words still to come. -/
theorem cc_ext (B Bn Ba Br Be n : Nat) (w0 : World) (c : CcB B Bn Ba Br Be w0) (hn : n ≤ 3) : ∀ (f x u : Nat) (l : Int) (p : Int × Int) (W : World), l + f = ((2 ^ n : Nat) : Int) → 0 ≤ l → x < 8 → u < 256 → CcSt B Bn Ba Br Be n p w0 W →
    Calls Tryd.prog 77 #[.int .i64 (x : Int), .int .i64 (u : Int), .int .i64 l, .pointer (some ⟨Bn, 0, none⟩), .pointer (some ⟨Ba, 0, none⟩), .pointer (some ⟨Br, 0, none⟩), .pointer (some ⟨Be, 0, none⟩)] W fun e w' => e = .returned (.tuple #[]) ∧ CcSt B Bn Ba Br Be n (cc_all n f x u p) w0 w' := by
  intro f
  induction f with
  | zero => intro x u l p W hl _ hx hu S; exact cc_end B Bn Ba Br Be n w0 c hn x u hx l (by omega) p W S
  | succ f ih =>
    intro x u l p W hl h0 hx hu S
    have hp8 : 2 ^ n ≤ 8 := Nat.pow_le_pow_right (n := 2) (by omega) hn
    have hl1 : wrap64 (l + 1) = l + 1 := by unfold wrap64; omega
    have hl2 : l + 1 + (f : Int) = ((2 ^ n : Nat) : Int) := by omega
    have hl3 : (0 : Int) ≤ l + 1 := by omega
    have cN := cell_of_one S.hn
    have n0 : (0 : Int) ≤ (n : Int) := Int.natCast_nonneg n
    have hj := cc_shl n (by omega)
    obtain ⟨J, hJ⟩ : ∃ J : Int, ((2 ^ n : Nat) : Int) = J := ⟨_, rfl⟩
    have hlJ : (l == J) = false := by rw [beq_eq_false_iff_ne]; omega
    have HL2 := Aside0.mk hl2
    rw [hJ] at hj hl2
    have HL3 := Aside0.mk hl3
    have HN3 := Aside0.mk hn
    have HX := Aside0.mk hx
    have HU := Aside0.mk hu
    have hj_ : (IntKind.i64.wrap (1 * 2 ^ min (n : Int).toNat 64)) = J := hj
    have hjz : (n : Int) ≤ 64 → (IntKind.i64.wrap (1 * 2 ^ (n : Int).toNat)) = J := shl_small hj
    have hjp : (IntKind.i64.wrap (1 * 2 ^ min n 64)) = J := hj_
    have hjq : (n : Int) ≤ 64 → (IntKind.i64.wrap (1 * 2 ^ n)) = J := hjz
    have hjr : (IntKind.i64.wrap (2 ^ min n 64)) = J := by have h_ := hjp; rw [Int.one_mul] at h_; exact h_
    have hjs : (n : Int) ≤ 64 → (IntKind.i64.wrap (2 ^ n)) = J := fun hle_ => by have h_ := hjq hle_; rw [Int.one_mul] at h_; exact h_
    have hjw : wrap64 (2 ^ n) = J := (i64_w _).symm.trans (hjs (by omega))
    have hjx : wrap64 (1 * 2 ^ n) = J := (i64_w _).symm.trans (hjq (by omega))
    have c0 := eq_true n0
    have HI := Aside0.mk ih
    have HS0 := Aside0.mk S
    clear ih hl hJ hl2 hl3 hp8 hj hj_ S
    rw [show cc_all n (f + 1) x u p = cc_step (cc_all n f) x u n p from rfl]
    generalize cc_all n f = g at HI ⊢
    go_enter Tryd.func77, Tryd.ntmps77
    go_wp2
    go_loopw [24] (fun i wr => ∃ k : Nat, k ≤ n ∧ i = .int .i64 (k : Int) ∧ Aside0 (CcSt B Bn Ba Br Be n (cc_step g x u k p) w0 wr)) (fun i _ => n - (intOf i).toNat)
    case atStart => exact ⟨0, Nat.zero_le _, rfl, HS0⟩
    case round =>
      obtain ⟨k, hk, rfl, HS⟩ := hrel
      clear cN hjz hjp hjq hjr hjs hjw hjx c0 HS0
      by_cases hlt : k < n
      · have cI : decide ((k : Int) < (n : Int)) = true := decide_eq_true (by omega)
        have k0 : (0 : Int) ≤ (k : Int) := Int.natCast_nonneg k
        have hq := cc_shl k (by omega)
        obtain ⟨hxo, hy8⟩ := cc_xor x k hx (by omega)
        obtain ⟨q, hq1⟩ : ∃ q : Int, ((2 ^ k : Nat) : Int) = q := ⟨_, rfl⟩
        have hstep : cc_step g x u (k + 1) p = if u.testBit (x ^^^ 2 ^ k) = true then cc_step g x u k p else g (x ^^^ 2 ^ k) (u ||| 2 ^ (x ^^^ 2 ^ k)) (cc_step g x u k p) := rfl
        rw [hq1] at hq hxo
        generalize x ^^^ 2 ^ k = y at hxo hy8 hstep
        obtain ⟨hb1, hb2, hb3⟩ := cc_bit u y hu hy8
        have HST := Aside0.mk hstep
        have HY8 := Aside0.mk hy8
        have HB3 := Aside0.mk hb3
        have y0 : (0 : Int) ≤ (y : Int) := Int.natCast_nonneg y
        have hsv := cc_shl y (by omega)
        obtain ⟨v, hv1⟩ : ∃ v : Int, ((2 ^ y : Nat) : Int) = v := ⟨_, rfl⟩
        rw [hv1] at hsv hb2
        obtain ⟨sv, hs1⟩ : ∃ sv : Int, shr .i64 (u : Int) (y : Int) = sv := ⟨_, rfl⟩
        rw [hs1] at hb1
        clear hq1 hv1 hstep hy8 hb3
        have hq_ : (IntKind.i64.wrap (1 * 2 ^ min (k : Int).toNat 64)) = q := hq
        have hqz : (k : Int) ≤ 64 → (IntKind.i64.wrap (1 * 2 ^ (k : Int).toNat)) = q := shl_small hq
        have hqp : (IntKind.i64.wrap (1 * 2 ^ min k 64)) = q := hq_
        have hqq : (k : Int) ≤ 64 → (IntKind.i64.wrap (1 * 2 ^ k)) = q := hqz
        have hqs : (k : Int) ≤ 64 → (IntKind.i64.wrap (2 ^ k)) = q := fun hle_ => by have h_ := hqq hle_; rw [Int.one_mul] at h_; exact h_
        have hqr : (IntKind.i64.wrap (2 ^ min k 64)) = q := by have h_ := hqp; rw [Int.one_mul] at h_; exact h_
        have hqw : wrap64 (2 ^ k) = q := (i64_w _).symm.trans (hqs (by omega))
        have hqx : wrap64 (1 * 2 ^ k) = q := (i64_w _).symm.trans (hqq (by omega))
        have hv_ : (IntKind.i64.wrap (1 * 2 ^ min (y : Int).toNat 64)) = v := hsv
        have hvz : (y : Int) ≤ 64 → (IntKind.i64.wrap (1 * 2 ^ (y : Int).toNat)) = v := shl_small hsv
        have hvp : (IntKind.i64.wrap (1 * 2 ^ min y 64)) = v := hv_
        have hvq : (y : Int) ≤ 64 → (IntKind.i64.wrap (1 * 2 ^ y)) = v := hvz
        have hvs : (y : Int) ≤ 64 → (IntKind.i64.wrap (2 ^ y)) = v := fun hle_ => by have h_ := hvq hle_; rw [Int.one_mul] at h_; exact h_
        have hvr : (IntKind.i64.wrap (2 ^ min y 64)) = v := by have h_ := hvp; rw [Int.one_mul] at h_; exact h_
        have hvw : wrap64 (2 ^ y) = v := (i64_w _).symm.trans (hvs (by have := HY8.out; omega))
        have hvx : wrap64 (1 * 2 ^ y) = v := (i64_w _).symm.trans (hvq (by have := HY8.out; omega))
        have hs_ : ((u : Int) / 2 ^ min (y : Int).toNat 64) = sv := hs1
        have hsz : (y : Int) ≤ 64 → ((u : Int) / 2 ^ (y : Int).toNat) = sv := shr_small hs1
        have hsp : ((u : Int) / 2 ^ min y 64) = sv := hs_
        have hsq : (y : Int) ≤ 64 → ((u : Int) / 2 ^ y) = sv := hsz
        have hsw : (u : Int) / 2 ^ y = sv := hsq (by have := HY8.out; omega)
        have k0b := eq_true k0
        have y0b := eq_true y0
        clear hq hsv hs1
        by_cases hbit : u.testBit y = true
        · rw [hbit] at hb1
          have hb1' : (Go.bits .and .i64 sv 1 == 0) = false := hb1
          clear hb1
          go_wp2
          go_roundw
          case rel => exact ⟨k + 1, hlt, by simp, ⟨by rw [HST.out, if_pos hbit]; exact HS.out⟩⟩
          case measure => simp [intOf]; omega
        · have hbf : u.testBit y = false := by simpa using hbit
          rw [hbf] at hb1
          have hb1' : (Go.bits .and .i64 sv 1 == 0) = true := hb1
          clear hb1
          go_wp2
          have HE := cell_of_one HS.out.drew.he
          have HSd := Aside0.mk HS.out.drew
          refine start_ (n := 9) (S := fun w' => w'.cell? ⟨Be, 0, none⟩ = some (cc_cap Bn Ba Br Be)) (ds := [8]) #[false, false, false, false, false, false, false, false, false] (by kernel_rfl) rfl rfl HE (fun hHeld => ?_)
          clear HE
          generalize wr.drew = w9 at HSd hHeld ⊢
          refine pure_ (i := 1) (N := some 37) (v := ?_) (a' := ?_) #[false, true, false, false, false, false, false, false, false] rfl rfl (by kernel_rfl) (fun _ _ _ h => h) (Or.inl ⟨by rfl, ?_⟩) ?_ ?_
          rotate_left
          · intro w'
            go_simp
            with_reducible rfl
          rotate_left
          · simp only [Act.put, List.setIfInBounds_toArray, List.set_cons_zero, List.set_cons_succ, i64_w, i32_w]
            rfl
          refine pure_ (i := 2) (N := some 38) (v := ?_) (a' := ?_) #[false, true, true, false, false, false, false, false, false] rfl rfl (by kernel_rfl) (fun _ _ _ h => h) (Or.inl ⟨by rfl, ?_⟩) ?_ ?_
          rotate_left
          · intro w'
            go_simp
            with_reducible rfl
          rotate_left
          · simp only [Act.put, List.setIfInBounds_toArray, List.set_cons_zero, List.set_cons_succ, i64_w, i32_w]
            rfl
          refine pure_ (i := 3) (N := some 39) (v := ?_) (a' := ?_) #[false, true, true, true, false, false, false, false, false] rfl rfl (by kernel_rfl) (fun _ _ _ h => h) (Or.inl ⟨by rfl, ?_⟩) ?_ ?_
          rotate_left
          · intro w'
            go_simp
            with_reducible rfl
          rotate_left
          · simp only [Act.put, List.setIfInBounds_toArray, List.set_cons_zero, List.set_cons_succ, i64_w, i32_w]
            rfl
          refine pure_ (i := 4) (N := some 40) (v := ?_) (a' := ?_) #[false, true, true, true, true, false, false, false, false] rfl rfl (by kernel_rfl) (fun _ _ _ h => h) (Or.inl ⟨by rfl, ?_⟩) ?_ ?_
          rotate_left
          · intro w'
            go_simp
            with_reducible rfl
          rotate_left
          · simp only [Act.put, List.setIfInBounds_toArray, List.set_cons_zero, List.set_cons_succ, i64_w, i32_w]
            rfl
          refine pure_ (i := 5) (N := some 41) (v := ?_) (a' := ?_) #[false, true, true, true, true, true, false, false, false] rfl rfl (by kernel_rfl) (fun _ _ _ h => h) (Or.inl ⟨by rfl, ?_⟩) ?_ ?_
          rotate_left
          · intro w'
            go_simp
            with_reducible rfl
          rotate_left
          · simp only [Act.put, List.setIfInBounds_toArray, List.set_cons_zero, List.set_cons_succ, i64_w, i32_w]
            rfl
          refine pure_ (i := 6) (N := some 42) (v := ?_) (a' := ?_) #[false, true, true, true, true, true, true, false, false] rfl rfl (by kernel_rfl) (fun _ _ _ h => h) (Or.inl ⟨by rfl, ?_⟩) ?_ ?_
          rotate_left
          · intro w'
            go_simp
            with_reducible rfl
          rotate_left
          · simp only [Act.put, List.setIfInBounds_toArray, List.set_cons_zero, List.set_cons_succ, i64_w, i32_w]
            rfl
          refine pure_ (i := 7) (N := some 43) (v := ?_) (a' := ?_) #[false, true, true, true, true, true, true, true, false] rfl rfl (by kernel_rfl) (fun _ _ _ h => h) (Or.inl ⟨by rfl, ?_⟩) ?_ ?_
          rotate_left
          · intro w'
            go_simp
            with_reducible rfl
          rotate_left
          · simp only [Act.put, List.setIfInBounds_toArray, List.set_cons_zero, List.set_cons_succ, i64_w, i32_w]
            rfl
          refine take_ (i := 0) (N := some 36) (v := ?_) (a' := ?_) #[true, true, true, true, true, true, true, true, false] rfl rfl (by kernel_rfl) (fun _ _ _ h => h) (Or.inl ⟨by rfl, ?_⟩) hHeld ?_ ?_
          rotate_left
          · intro w' s0
            go_simp
            with_reducible rfl
          rotate_left
          · simp only [Act.put, List.setIfInBounds_toArray, List.set_cons_zero, List.set_cons_succ, i64_w, i32_w]
            rfl
          refine last_ (i := 8) (N := some 44) #[true, true, true, true, true, true, true, true, true] rfl rfl (by kernel_rfl) (by decide) (fun K hK => ?_)
          have Hc := HI.out y (u ||| 2 ^ y) (l + 1) (cc_step g x u k p) w9 HL2.out HL3.out HY8.out HB3.out HSd.out
          refine call_ 77 #[.int .i64 (y : Int), .int .i64 ((u ||| 2 ^ y : Nat) : Int), .int .i64 (l + 1), .pointer (some ⟨Bn, 0, none⟩), .pointer (some ⟨Ba, 0, none⟩), .pointer (some ⟨Br, 0, none⟩), .pointer (some ⟨Be, 0, none⟩)] (by rfl) rfl ?run (Hc.mono ?_)
          case run =>
            have he := enters_ Tryd.func77 (by kernel_rfl) rfl #[.int .i64 (y : Int), .int .i64 ((u ||| 2 ^ y : Nat) : Int), .int .i64 (l + 1), .pointer (some ⟨Bn, 0, none⟩), .pointer (some ⟨Ba, 0, none⟩), .pointer (some ⟨Br, 0, none⟩), .pointer (some ⟨Be, 0, none⟩)] w9
            unfold execOp
            simp [resolve, Deferred.ofValue, invoke, Act.eval, he, hl1]
          rintro e w' ⟨rfl, S'⟩
          refine ⟨_, rfl, ?_⟩
          refine hK.out _ _ ?_
          clear hK K Hc
          refine done_ (by kernel_rfl) ?_
          have HS2 := Aside0.mk S'
          clear S' hHeld
          go_wp2
          go_roundw
          case rel => exact ⟨k + 1, hlt, by simp, ⟨by rw [HST.out, if_neg hbit]; exact HS2.out⟩⟩
          case measure => simp [intOf]; omega
      · have cI : decide ((k : Int) < (n : Int)) = false := decide_eq_false (by omega)
        obtain rfl : k = n := by omega
        go_wp2
        first | go_end0 | refine bodyPost_ret (results_none rfl _ _ _) rfl ?_
        exact ⟨rfl, HS.out⟩
set_option maxHeartbeats 1000000 in
set_option maxRecDepth 100000 in
theorem impl_CountCodes.calls (a0 : Int) (r1 r2 : Int) (r3 : Bool) (w : World) (h : impl_CountCodes.f a0 = some (r1, r2, r3)) (hT_ : Tab_ w) :
    Calls Tryd.prog 20 #[.int .i64 a0] w fun e w' => e = .returned (.tuple #[.int .i64 r1, .int .i64 r2, .bool r3]) ∧ Below w.heap.size w w' := by
  -- what reads the table: (impl_delta.calls , in cc_end
  have HT := Aside0.mk hT_
  clear hT_
  obtain ⟨W0, hW0⟩ : ∃ W0, w.alloc (.cells #[.int .i64 a0] 3) = W0 := ⟨_, rfl⟩
  have hb0 : Below w.heap.size w W0 := by rw [← hW0]; exact (Below.refl _ _).alloc (Nat.le_refl _) _
  have hbn : W0.heap[w.heap.size]? = some (.cells #[.int .i64 a0] 3 (0, 0)) := by rw [← hW0]; exact heap_alloc_new _ _
  have hs0 : W0.heap.size = w.heap.size + 1 := by rw [← hW0]; simp
  unfold impl_CountCodes.f at h
  by_cases hc : 1 ≤ a0 ∧ a0 ≤ 3
  · obtain ⟨n, rfl⟩ := Int.eq_ofNat_of_zero_le (show 0 ≤ a0 by omega)
    rw [if_pos hc, Int.toNat_natCast] at h
    simp only [Option.some.injEq, Prod.mk.injEq] at h
    obtain ⟨hr1, hr2, rfl⟩ := h
    have hwi : impl_within.f (n : Int) 1 3 = some true := by
      unfold impl_within.f
      rw [if_pos hc.1, decide_eq_true hc.2]
    have cN := cell_of_one hbn
    have HB0 := Aside0.mk hb0
    have HW0 := Aside0.mk hW0
    have HBN := Aside0.mk hbn
    have HS0 := Aside0.mk hs0
    have HR1 := Aside0.mk hr1
    have HR2 := Aside0.mk hr2
    have HC := Aside0.mk hc
    clear hbn hs0 hc hb0 hW0 hr1 hr2
    have hmf : ∀ (fn : Fn) (first cap : Array Value) (w : World), (Instr.makeFunc fn first cap).run Tryd.prog w = .ok (.func fn first cap) w := fun _ _ _ _ => rfl
    go_enter Tryd.func20, Tryd.ntmps20
    go_upto_region 1 with (fail)
    rw [HW0.out]
    go_upto_region 3 with (first | (go_at_call 76; refine (impl_within.calls (n : Int) 1 3 true _ hwi).mono ?_; rintro e w' ⟨rfl, ⟨nd, rfl⟩⟩))
    have hb1 : Below w.heap.size w (W0.drewN nd) := pw_below_drewN HB0.out nd
    have hn1 : (W0.drewN nd).heap[w.heap.size]? = some (.cells #[.int .i64 (n : Int)] 3 (0, 0)) := HBN.out
    have hs1 : (W0.drewN nd).heap.size = w.heap.size + 1 := HS0.out
    generalize W0.drewN nd = w1 at hb1 hn1 hs1 ⊢
    have z1 : (w1.alloc (.cells #[.int .i64 0] 3)).heap.size = w1.heap.size + 1 := by simp
    have kA : ((w1.alloc (.cells #[.int .i64 0] 3)).alloc (.cells #[.int .i64 0] 3)).heap[w1.heap.size]? = some (.cells #[.int .i64 0] 3 (0, 0)) := (Below.heap_alloc _ _ _ (by rw [z1]; omega)).trans (heap_alloc_new w1 (.cells #[.int .i64 0] 3))
    have kB : ((w1.alloc (.cells #[.int .i64 0] 3)).alloc (.cells #[.int .i64 0] 3)).heap[w1.heap.size + 1]? = some (.cells #[.int .i64 0] 3 (0, 0)) := by
      have h_ := heap_alloc_new (w1.alloc (.cells #[.int .i64 0] 3)) (.cells #[.int .i64 0] 3)
      rw [z1] at h_; exact h_
    have kN : ((w1.alloc (.cells #[.int .i64 0] 3)).alloc (.cells #[.int .i64 0] 3)).heap[w.heap.size]? = some (.cells #[.int .i64 (n : Int)] 3 (0, 0)) := (Below.heap_alloc _ _ _ (by rw [z1]; omega)).trans ((Below.heap_alloc _ _ _ (by omega)).trans hn1)
    have kb : Below w.heap.size w ((w1.alloc (.cells #[.int .i64 0] 3)).alloc (.cells #[.int .i64 0] 3)) := below_alloc (below_alloc hb1 _) _
    have kz : ((w1.alloc (.cells #[.int .i64 0] 3)).alloc (.cells #[.int .i64 0] 3)).heap.size = w1.heap.size + 2 := by simp
    have cA0 := cell_of_one (heap_alloc_new w1 (.cells #[.int .i64 0] 3))
    have fA0 := free_of_one (heap_alloc_new w1 (.cells #[.int .i64 0] 3))
    have cA := cell_of_one kA
    have fA := free_of_one kA
    have cB0 := cell_of_one kB
    have fB0 := free_of_one kB
    have kB3 := (Below.heap_setCell ((w1.alloc (.cells #[.int .i64 0] 3)).alloc (.cells #[.int .i64 0] 3)) ⟨w1.heap.size, 0, none⟩ (.int .i64 0) (w1.heap.size + 1) (by show w1.heap.size + 1 ≠ w1.heap.size; omega)).trans kB
    have cB := cell_of_one kB3
    have fB := free_of_one kB3
    have HK := Aside0.mk (And.intro kA (And.intro kB (And.intro kN (And.intro kb kz))))
    clear cN hmf HW0 kA kB kN kb kz kB3 z1 hb1 hn1
    go_upto_region 4 with (fail)
    generalize (w1.alloc (.cells #[.int .i64 0] 3)).alloc (.cells #[.int .i64 0] 3) = w2 at HK ⊢
    clear cA0 fA0 cA fA cB0 fB0 cB fB
    obtain ⟨kA, kB, kN, kb, kz⟩ := HK.out
    clear HK
    rw [hs1] at kA kB kz
    have kE : (w2.alloc (.cells #[.nilFunc] 64)).heap[w.heap.size + 1 + 2]? = some (.cells #[.nilFunc] 64 (0, 0)) := by
      have h_ := heap_alloc_new w2 (.cells #[.nilFunc] 64)
      rw [kz] at h_; exact h_
    have cE := cell_of_one kE
    have fE := free_of_one kE
    have kF : (w2.alloc (.cells #[cc_cap w.heap.size (w.heap.size + 1) (w.heap.size + 1 + 1) (w.heap.size + 1 + 2)] 64)).heap[w.heap.size + 1 + 2]? = some (.cells #[cc_cap w.heap.size (w.heap.size + 1) (w.heap.size + 1 + 1) (w.heap.size + 1 + 2)] 64 (0, 0)) := by
      have h_ := heap_alloc_new w2 (.cells #[cc_cap w.heap.size (w.heap.size + 1) (w.heap.size + 1 + 1) (w.heap.size + 1 + 2)] 64)
      rw [kz] at h_; exact h_
    have S5 : CcSt w.heap.size w.heap.size (w.heap.size + 1) (w.heap.size + 1 + 1) (w.heap.size + 1 + 2) n (0, 0) w (w2.alloc (.cells #[cc_cap w.heap.size (w.heap.size + 1) (w.heap.size + 1 + 1) (w.heap.size + 1 + 2)] 64)) :=
      ⟨(Below.heap_alloc w2 (.cells #[cc_cap w.heap.size (w.heap.size + 1) (w.heap.size + 1 + 1) (w.heap.size + 1 + 2)] 64) w.heap.size (by omega)).trans kN, (Below.heap_alloc w2 (.cells #[cc_cap w.heap.size (w.heap.size + 1) (w.heap.size + 1 + 1) (w.heap.size + 1 + 2)] 64) (w.heap.size + 1) (by omega)).trans kA, (Below.heap_alloc w2 (.cells #[cc_cap w.heap.size (w.heap.size + 1) (w.heap.size + 1 + 1) (w.heap.size + 1 + 2)] 64) (w.heap.size + 1 + 1) (by omega)).trans kB, kF, below_alloc kb (.cells #[cc_cap w.heap.size (w.heap.size + 1) (w.heap.size + 1 + 1) (w.heap.size + 1 + 2)] 64)⟩
    have h1w : 1 < w.heap.size := World.block_lt_of_cell? w _ (HT.out.out 0 (by decide))
    have CB : CcB w.heap.size w.heap.size (w.heap.size + 1) (w.heap.size + 1 + 1) (w.heap.size + 1 + 2) w := ⟨h1w, by omega, by omega, by omega, by omega, by omega, by omega, by omega, by omega, by omega, by omega, HT.out⟩
    have Hc := cc_ext _ _ _ _ _ n w CB (by have := HC.out; omega) (2 ^ n - 1) 0 1 1 (0, 0) _ (by have := Nat.two_pow_pos n; omega) (by decide) (by decide) (by decide) S5
    rw [Int.natCast_zero, Int.natCast_one] at Hc
    have HHc := Aside0.mk Hc
    have cF : (w2.alloc (.cells #[cc_cap w.heap.size (w.heap.size + 1) (w.heap.size + 1 + 1) (w.heap.size + 1 + 2)] 64)).cell? ⟨w.heap.size + 1 + 2, 0, none⟩ = some (.func (.func 77) #[] #[.pointer (some ⟨w.heap.size, 0, none⟩), .pointer (some ⟨w.heap.size + 1, 0, none⟩), .pointer (some ⟨w.heap.size + 1 + 1, 0, none⟩), .pointer (some ⟨w.heap.size + 1 + 2, 0, none⟩)]) := cell_of_one kF
    clear S5 kE kF kA kB kN kb Hc CB h1w
    have hst := fun (W : World) (a : Addr) (fn : Fn) (f_ c_ : Array Value) => run_store Tryd.prog W a (.func fn f_ c_) .plain rfl
    go_wp2_with (first | (go_at_call 77; refine HHc.out.mono ?_; rintro e w6 ⟨rfl, S6⟩; have HS6 := Aside0.mk S6; have dA := cell_of_one S6.drew.ha; have dB := cell_of_one S6.drew.hr; clear S6))
    have dN := Aside0.mk HS6.out.drew.hb
    generalize hr1 : (cc_all n (2 ^ n - 1) 0 1 (0, 0)).1 = q1 at dA HR1
    generalize hr2 : (cc_all n (2 ^ n - 1) 0 1 (0, 0)).2 = q2 at dB HR2
    clear hr1 hr2 HS6
    refine start_ (n := 5) (S := fun w' => w'.cell? ⟨w.heap.size + 1, 0, none⟩ = some (.int .i64 q1) ∧ w'.cell? ⟨w.heap.size + 1 + 1, 0, none⟩ = some (.int .i64 q2)) (ds := []) #[false, false, false, false, false] (by kernel_rfl) rfl rfl ⟨dA, dB⟩ (fun hHeld => ?_)
    clear dA dB
    generalize w6.drew = w7 at dN hHeld ⊢
    refine take_ (i := 0) (N := some 14) (v := ?_) (a' := ?_) #[true, false, false, false, false] rfl rfl (by kernel_rfl) (fun _ _ _ h => h) (Or.inl ⟨by rfl, ?_⟩) hHeld ?_ ?_
    rotate_left
    · rintro w' ⟨s0, s1⟩
      go_simp
      with_reducible rfl
    rotate_left
    · simp only [Act.put, List.setIfInBounds_toArray, List.set_cons_zero, List.set_cons_succ, i64_w, i32_w]
      rfl
    refine take_ (i := 1) (N := some 15) (v := ?_) (a' := ?_) #[true, true, false, false, false] rfl rfl (by kernel_rfl) (fun _ _ _ h => h) (Or.inl ⟨by rfl, ?_⟩) hHeld ?_ ?_
    rotate_left
    · rintro w' ⟨s0, s1⟩
      go_simp
      with_reducible rfl
    rotate_left
    · simp only [Act.put, List.setIfInBounds_toArray, List.set_cons_zero, List.set_cons_succ, i64_w, i32_w]
      rfl
    refine pure_ (i := 2) (N := some 2) (v := ?_) (a' := ?_) #[true, true, true, false, false] rfl rfl (by kernel_rfl) (fun _ _ _ h => h) (Or.inl ⟨by rfl, ?_⟩) ?_ ?_
    rotate_left
    · intro w'
      go_simp
      with_reducible rfl
    rotate_left
    · simp only [Act.put, List.setIfInBounds_toArray, List.set_cons_zero, List.set_cons_succ, i64_w, i32_w]
      rfl
    refine pure_ (i := 3) (N := some 3) (v := ?_) (a' := ?_) #[true, true, true, true, false] rfl rfl (by kernel_rfl) (fun _ _ _ h => h) (Or.inl ⟨by rfl, ?_⟩) ?_ ?_
    rotate_left
    · intro w'
      go_simp
      with_reducible rfl
    rotate_left
    · simp only [Act.put, List.setIfInBounds_toArray, List.set_cons_zero, List.set_cons_succ, i64_w, i32_w]
      rfl
    refine pure_ (i := 4) (N := some 4) (v := ?_) (a' := ?_) #[true, true, true, true, true] rfl rfl (by kernel_rfl) (fun _ _ _ h => h) (Or.inl ⟨by rfl, ?_⟩) ?_ ?_
    rotate_left
    · intro w'
      go_simp
      with_reducible rfl
    rotate_left
    · simp only [Act.put, List.setIfInBounds_toArray, List.set_cons_zero, List.set_cons_succ, i64_w, i32_w]
      rfl
    refine done_ (by kernel_rfl) ?_
    go_wp2
    go_ret3
    exact ⟨by rw [HR1.out, HR2.out]; rfl, dN.out⟩
  · rw [if_neg hc] at h
    simp only [Option.some.injEq, Prod.mk.injEq] at h
    obtain ⟨rfl, rfl, rfl⟩ := h
    have hwi : impl_within.f a0 1 3 = some false := by
      unfold impl_within.f
      by_cases h1 : a0 ≥ 1
      · rw [if_pos h1, decide_eq_false (by omega)]
      · rw [if_neg h1]
    have cN := cell_of_one hbn
    have HB0 := Aside0.mk hb0
    have HW0 := Aside0.mk hW0
    clear hbn hs0 hc hb0 hW0
    go_enter Tryd.func20, Tryd.ntmps20
    go_upto_region 1 with (fail)
    rw [HW0.out]
    go_wp2_with (first | (go_at_call 76; refine (impl_within.calls a0 1 3 false _ hwi).mono ?_; rintro e w' ⟨rfl, ⟨nd, rfl⟩⟩))
    go_ret3
    exact ⟨rfl, pw_below_drewN HB0.out _⟩

/-! ### spec_gcBits: function 66 -/
def spec_gcBits.f (a0 : Int) : Option (Bool) := (spec_l1In.f a0 1 10).bind fun t145 => (some t145)
set_option maxHeartbeats 8000000 in
set_option maxRecDepth 100000 in
theorem spec_gcBits.calls (a0 : Int) (r : Bool) (w : World) (h : spec_gcBits.f a0 = some r) :
    Calls Tryd.prog 66 #[.int .i64 a0] w fun e w' => e = .returned (.bool r) ∧ Drawn0 w w' := by
  have H : ((spec_l1In.f a0 1 10).bind fun t145 => (some t145)) = some r := h
  clear h
  replace H := Option.bind_eq_some_iff.mp H
  obtain ⟨t145, A20, H⟩ := H
  replace H : (some t145) = some r := H
  have A2 := Aside0.mk A20
  clear A20
  obtain rfl := Option.some.inj H
  go_enter Tryd.func66, Tryd.ntmps66
  go_wp2_with (first | ((with_reducible refine gate_callee (f := 74) rfl ?_); refine goesL_ (some 4) rfl rfl Tryd.func74 (by kernel_rfl) rfl #[.int .i64 a0, .int .i64 1, .int .i64 10] rfl (by (try simp only [List.map_toArray, List.map_cons, List.map_nil]); first | done | rfl | (simp only [List.length_drop, List.length_take]; rfl)) ?_; (with_reducible refine (spec_l1In.calls a0 1 10 t145 _ A2.out).mono ?_); rintro e w' ⟨rfl, ⟨nd, rfl⟩⟩; refine ⟨_, rfl, ?_⟩))
  go_ret
  exact ⟨by first | rfl | (simp; done) | (simp [*]; done), by repeat (first | exact Drawn0.refl _ | apply Drawn0.step)⟩

/-! ### spec_l1All: function 108 -/
def spec_l1All.l0 : Nat → Int → Int → List Int → Int → Int → Option (Bool)
  | 0, _, _, _, _, _ => none
  | k + 1, x1, x2, x9, x10, x11 => if x11 < x10 then (if 0 ≤ x11 then (if x11 < (x9.length : Int) then ((spec_l1In.f (rd x9 x11) x1 x2).bind fun t147 => (if t147 = true then (spec_l1All.l0 k x1 x2 x9 x10 (wrap64 (x11 + 1))) else (some false))) else (none)) else (none)) else (some true)
def spec_l1All.f (k : Nat) (l0 : List Int) (a1 : Int) (a2 : Int) : Option (Bool) := spec_l1All.l0 k a1 a2 l0 (l0.length : Int) 0
theorem spec_l1All.mono_l : ∀ k, (∀ y0 y1 y2 y3 y4, LeO (spec_l1All.l0 k y0 y1 y2 y3 y4) (spec_l1All.l0 (k + 1) y0 y1 y2 y3 y4))
  | 0 => fun _ _ _ _ _ r h => by simp [spec_l1All.l0] at h
  | k + 1 => by
    have ih0 := spec_l1All.mono_l k
    · intro y0 y1 y2 y3 y4
      unfold spec_l1All.l0
      repeat' first
      | (with_reducible exact ih0 _ _ _ _ _)
      | (with_reducible exact LeO.refl _)
      | (with_reducible exact LeO.none _)
      | (with_reducible refine LeO.ite ?_ ?_)
      | (with_reducible refine LeO.bind ?_ (fun _ => ?_))
      | exact ih0 _ _ _ _ _
      | exact LeO.none _
      | refine LeO.ite ?_ ?_
      | refine LeO.bind ?_ (fun _ => ?_)
theorem spec_l1All.mono : ∀ a0 a1 a2 k, LeO (spec_l1All.f k a0 a1 a2) (spec_l1All.f (k + 1) a0 a1 a2) := by
  intro a0 a1 a2 k
  have ih0 := spec_l1All.mono_l k
  unfold spec_l1All.f
  repeat' first
      | (with_reducible exact ih0 _ _ _ _ _)
      | (with_reducible exact LeO.refl _)
      | (with_reducible exact LeO.none _)
      | (with_reducible refine LeO.ite ?_ ?_)
      | (with_reducible refine LeO.bind ?_ (fun _ => ?_))
      | exact ih0 _ _ _ _ _
      | exact LeO.none _
      | refine LeO.ite ?_ ?_
      | refine LeO.bind ?_ (fun _ => ?_)
set_option maxHeartbeats 8000000 in
set_option maxRecDepth 100000 in
theorem spec_l1All.calls (k : Nat) (A0 : Option Addr) (c0 : Nat) (l0 : List Int) (a1 : Int) (a2 : Int) (r : Bool) (w : World) (hr0 : Kd.C (Kd.int .i64) w A0 l0.length l0) (hc0 : l0.length ≤ c0) (h : spec_l1All.f k l0 a1 a2 = some r) :
    Calls Tryd.prog 108 #[.slice A0 l0.length c0, .int .i64 a1, .int .i64 a2] w fun e w' => e = .returned (.bool r) ∧ Drawn0 w w' := by
  have HR0 := Aside0.mk hr0
  have HC0 := Aside0.mk hc0
  clear hr0 hc0
  have H : (spec_l1All.l0 k a1 a2 l0 (l0.length : Int) 0) = some r := h
  clear h
  have H' := Aside0.mk H
  clear H
  go_enter Tryd.func108, Tryd.ntmps108
  go_wp2
  go_loopg [11] k (fun kq v11 w' => ∃ (x11_1 : Int), v11 = .int .i64 x11_1 ∧ Aside0 (spec_l1All.l0 kq a1 a2 l0 (l0.length : Int) x11_1 = some r) ∧ Aside0 (kq ≤ k) ∧ Drawn0 w w')
  case atStart => exact ⟨(0), (by first | rfl | (simp; done) | (simp [*]; done)), H', ⟨Nat.le_refl _⟩, by repeat (first | exact Drawn0.refl _ | apply Drawn0.step)⟩
  case round =>
    clear H'
    try clear c1
    try clear p2
    obtain ⟨x11_1, rfl, HA, HK1, ⟨m1, rfl⟩⟩ := hrel
    cases gk with
    | zero => exact absurd HA.out (by simp [spec_l1All.l0])
    | succ k1 =>
      have H := HA.out
      clear HA
      simp only [spec_l1All.l0] at H
      by_cases c4 : x11_1 < (l0.length : Int)
      · rw [if_pos c4] at H
        have c4b0 : decide (x11_1 < (l0.length : Int)) = true := decide_eq_true c4
        clear c4
        by_cases c5 : 0 ≤ x11_1
        · rw [if_pos c5] at H
          have c5b0 : decide (0 ≤ x11_1) = true := decide_eq_true c5
          clear c5
          by_cases c6 : x11_1 < (l0.length : Int)
          · rw [if_pos c6] at H
            have c6b0 : decide (x11_1 < (l0.length : Int)) = true := decide_eq_true c6
            clear c6
            replace H := Option.bind_eq_some_iff.mp H
            obtain ⟨t147, A70, H⟩ := H
            replace H : (if t147 = true then (spec_l1All.l0 k1 a1 a2 l0 (l0.length : Int) (wrap64 (x11_1 + 1))) else (some false)) = some r := H
            have A7 := Aside0.mk A70
            clear A70
            by_cases c8 : t147 = true
            · subst c8
              have H1 : (spec_l1All.l0 k1 a1 a2 l0 (l0.length : Int) (wrap64 (x11_1 + 1))) = some r := by rw [if_pos rfl] at H; exact H
              clear H
              have H := H1
              clear H1
              have H' := Aside0.mk H
              clear H
              have p146 : 0 ≤ (x11_1 : Int) := of_decide_eq_true (by first | (with_reducible assumption) | assumption)
              have q146 : x11_1 < (l0.length : Int) := of_decide_eq_true (by first | (with_reducible assumption) | assumption)
              obtain ⟨ad146, e146, hx146_0⟩ := Kd.at_int HR0.out x11_1 p146 q146
              cases e146
              replace p146 := eq_true p146
              replace q146 := eq_true q146
              go_wp2_with (first | ((with_reducible refine gate_callee (f := 74) rfl ?_); refine goesL_ (some 18) rfl rfl Tryd.func74 (by kernel_rfl) rfl #[.int .i64 (rd l0 x11_1), .int .i64 a1, .int .i64 a2] rfl (by (try simp only [List.map_toArray, List.map_cons, List.map_nil]); first | done | rfl | (simp only [List.length_drop, List.length_take]; rfl)) ?_; (with_reducible refine (spec_l1In.calls (rd l0 x11_1) a1 a2 true _ A7.out).mono ?_); rintro e w' ⟨rfl, ⟨nd, rfl⟩⟩; refine ⟨_, rfl, ?_⟩))
              go_roundg k1
              case measure => have := HK1.out; omega
              case rel => exact ⟨(wrap64 (x11_1 + 1)), (by first | rfl | (simp; done) | (simp [*]; done)), H', ⟨by have := HK1.out; omega⟩, by repeat (first | exact Drawn0.refl _ | apply Drawn0.step)⟩
            · replace c8 := Bool.eq_false_iff.mpr c8
              subst c8
              have H1 : (some false) = some r := by rw [if_neg (show ¬ (false = true) by decide)] at H; exact H
              clear H
              have H := H1
              clear H1
              obtain rfl := Option.some.inj H
              have p146 : 0 ≤ (x11_1 : Int) := of_decide_eq_true (by first | (with_reducible assumption) | assumption)
              have q146 : x11_1 < (l0.length : Int) := of_decide_eq_true (by first | (with_reducible assumption) | assumption)
              obtain ⟨ad146, e146, hx146_0⟩ := Kd.at_int HR0.out x11_1 p146 q146
              cases e146
              replace p146 := eq_true p146
              replace q146 := eq_true q146
              go_wp2_with (first | ((with_reducible refine gate_callee (f := 74) rfl ?_); refine goesL_ (some 18) rfl rfl Tryd.func74 (by kernel_rfl) rfl #[.int .i64 (rd l0 x11_1), .int .i64 a1, .int .i64 a2] rfl (by (try simp only [List.map_toArray, List.map_cons, List.map_nil]); first | done | rfl | (simp only [List.length_drop, List.length_take]; rfl)) ?_; (with_reducible refine (spec_l1In.calls (rd l0 x11_1) a1 a2 false _ A7.out).mono ?_); rintro e w' ⟨rfl, ⟨nd, rfl⟩⟩; refine ⟨_, rfl, ?_⟩))
              go_ret
              exact ⟨by first | rfl | (simp; done) | (simp [*]; done), by repeat (first | exact Drawn0.refl _ | apply Drawn0.step)⟩
          · rw [if_neg c6] at H
            exact absurd H (by simp)
        · rw [if_neg c5] at H
          exact absurd H (by simp)
      · rw [if_neg c4] at H
        have c4b0 : decide (x11_1 < (l0.length : Int)) = false := decide_eq_false c4
        clear c4
        obtain rfl := Option.some.inj H
        go_wp2
        go_ret
        exact ⟨by first | rfl | (simp; done) | (simp [*]; done), by repeat (first | exact Drawn0.refl _ | apply Drawn0.step)⟩

/-! ### spec_gcWords: function 79 -/
def spec_gcWords.f (k : Nat) (a0 : Int) (l1 : List Int) : Option (Bool) := (spec_gcBits.f a0).bind fun t148 => (if t148 = true then (if (l1.length : Int) ≤ 1100 then (if 0 ≤ a0 then ((spec_l1All.f k l1 0 (wrap64 ((shl .i64 1 a0) - 1))).bind fun t149 => (some t149)) else (none)) else (some false)) else (some false))
theorem spec_gcWords.mono : ∀ a0 a1 k, LeO (spec_gcWords.f k a0 a1) (spec_gcWords.f (k + 1) a0 a1) := by
  intro a0 a1 k
  unfold spec_gcWords.f
  repeat' first
      | (with_reducible exact spec_l1All.mono _ _ _ _)
      | (with_reducible exact LeO.refl _)
      | (with_reducible exact LeO.none _)
      | (with_reducible refine LeO.ite ?_ ?_)
      | (with_reducible refine LeO.bind ?_ (fun _ => ?_))
      | exact spec_l1All.mono _ _ _ _
      | exact LeO.none _
      | refine LeO.ite ?_ ?_
      | refine LeO.bind ?_ (fun _ => ?_)
set_option maxHeartbeats 8000000 in
set_option maxRecDepth 100000 in
theorem spec_gcWords.calls (k : Nat) (a0 : Int) (A1 : Option Addr) (c1 : Nat) (l1 : List Int) (r : Bool) (w : World) (hr1 : Kd.C (Kd.int .i64) w A1 l1.length l1) (hc1 : l1.length ≤ c1) (h : spec_gcWords.f k a0 l1 = some r) :
    Calls Tryd.prog 79 #[.int .i64 a0, .slice A1 l1.length c1] w fun e w' => e = .returned (.bool r) ∧ Drawn0 w w' := by
  have HR1 := Aside0.mk hr1
  have HC1 := Aside0.mk hc1
  clear hr1 hc1
  have H : ((spec_gcBits.f a0).bind fun t148 => (if t148 = true then (if (l1.length : Int) ≤ 1100 then (if 0 ≤ a0 then ((spec_l1All.f k l1 0 (wrap64 ((shl .i64 1 a0) - 1))).bind fun t149 => (some t149)) else (none)) else (some false)) else (some false))) = some r := h
  clear h
  replace H := Option.bind_eq_some_iff.mp H
  obtain ⟨t148, A30, H⟩ := H
  replace H : (if t148 = true then (if (l1.length : Int) ≤ 1100 then (if 0 ≤ a0 then ((spec_l1All.f k l1 0 (wrap64 ((shl .i64 1 a0) - 1))).bind fun t149 => (some t149)) else (none)) else (some false)) else (some false)) = some r := H
  have A3 := Aside0.mk A30
  clear A30
  by_cases c4 : t148 = true
  · subst c4
    have H1 : (if (l1.length : Int) ≤ 1100 then (if 0 ≤ a0 then ((spec_l1All.f k l1 0 (wrap64 ((shl .i64 1 a0) - 1))).bind fun t149 => (some t149)) else (none)) else (some false)) = some r := by rw [if_pos rfl] at H; exact H
    clear H
    have H := H1
    clear H1
    by_cases c5 : (l1.length : Int) ≤ 1100
    · rw [if_pos c5] at H
      have c5b0 : decide ((l1.length : Int) ≤ 1100) = true := decide_eq_true c5
      have c5b1 : decide (l1.length ≤ 1100) = true := decide_eq_true (by omega)
      clear c5
      by_cases c6 : 0 ≤ a0
      · rw [if_pos c6] at H
        have c6b0 := eq_true c6
        have c6b1 : decide (0 ≤ a0) = true := decide_eq_true c6
        clear c6
        obtain ⟨ji7, hji7⟩ : ∃ j_ : Int, (shl .i64 1 a0) = j_ := ⟨_, rfl⟩
        replace H : ((spec_l1All.f k l1 0 (wrap64 ((ji7) - 1))).bind fun t149 => (some t149)) = some r := by first | (rw [hji7] at H; exact H) | (simp only [hji7] at H ⊢; exact H)
        (try rw [hji7] at A3)
        have hji7_ : (IntKind.i64.wrap (1 * 2 ^ min a0.toNat 64)) = ji7 := hji7
        have hji7z : a0 ≤ 64 → (IntKind.i64.wrap (1 * 2 ^ a0.toNat)) = ji7 := shl_small hji7
        have hji7u : (IntKind.i64.wrap (2 ^ min a0.toNat 64)) = ji7 := by have h_ := hji7_; rw [Int.one_mul] at h_; exact h_
        have hji7v : a0 ≤ 64 → (IntKind.i64.wrap (2 ^ a0.toNat)) = ji7 := fun hle_ => by have h_ := hji7z hle_; rw [Int.one_mul] at h_; exact h_
        have hji7y : (wrap64 (1 * 2 ^ min a0.toNat 64)) = ji7 := (i64_w _).symm.trans hji7_
        have hji7x : a0 ≤ 64 → (wrap64 (1 * 2 ^ a0.toNat)) = ji7 := fun h_ => (i64_w _).symm.trans (hji7z h_)
        replace H := Option.bind_eq_some_iff.mp H
        obtain ⟨t149, A80, H⟩ := H
        replace H : (some t149) = some r := H
        have A8 := Aside0.mk A80
        clear A80
        obtain rfl := Option.some.inj H
        go_enter Tryd.func79, Tryd.ntmps79
        go_wp2_with (first | ((with_reducible refine gate_callee (f := 66) rfl ?_); refine goesL_ (some 6) rfl rfl Tryd.func66 (by kernel_rfl) rfl #[.int .i64 a0] rfl (by (try simp only [List.map_toArray, List.map_cons, List.map_nil]); first | done | rfl | (simp only [List.length_drop, List.length_take]; rfl)) ?_; (with_reducible refine (spec_gcBits.calls a0 true _ A3.out).mono ?_); rintro e w' ⟨rfl, ⟨nd, rfl⟩⟩; refine ⟨_, rfl, ?_⟩) | (go_at_call 108; (with_reducible refine (spec_l1All.calls k _ _ l1 0 (wrap64 ((ji7) - 1)) t149 _ ?side1 ?side2 A8.out).mono ?_); (case side1 => repeat (first | exact HR1.out | (with_reducible refine Kd.C_alloc ?_ _) | (with_reducible refine Kd.C_drewN ?_ _) | (with_reducible refine Kd.C_drew ?_))); (case side2 => exact HC1.out); rintro e w' ⟨rfl, ⟨nd, rfl⟩⟩))
        go_ret
        exact ⟨by first | rfl | (simp; done) | (simp only [← hji7] <;> (first | rfl | simp)) | (simp [*]; done), by repeat (first | exact Drawn0.refl _ | apply Drawn0.step)⟩
      · rw [if_neg c6] at H
        exact absurd H (by simp)
    · rw [if_neg c5] at H
      have c5b0 : decide ((l1.length : Int) ≤ 1100) = false := decide_eq_false c5
      have c5b1 : decide (l1.length ≤ 1100) = false := decide_eq_false (by omega)
      clear c5
      obtain rfl := Option.some.inj H
      go_enter Tryd.func79, Tryd.ntmps79
      go_wp2_with (first | ((with_reducible refine gate_callee (f := 66) rfl ?_); refine goesL_ (some 6) rfl rfl Tryd.func66 (by kernel_rfl) rfl #[.int .i64 a0] rfl (by (try simp only [List.map_toArray, List.map_cons, List.map_nil]); first | done | rfl | (simp only [List.length_drop, List.length_take]; rfl)) ?_; (with_reducible refine (spec_gcBits.calls a0 true _ A3.out).mono ?_); rintro e w' ⟨rfl, ⟨nd, rfl⟩⟩; refine ⟨_, rfl, ?_⟩))
      go_ret
      exact ⟨by first | rfl | (simp; done) | (simp [*]; done), by repeat (first | exact Drawn0.refl _ | apply Drawn0.step)⟩
  · replace c4 := Bool.eq_false_iff.mpr c4
    subst c4
    have H1 : (some false) = some r := by rw [if_neg (show ¬ (false = true) by decide)] at H; exact H
    clear H
    have H := H1
    clear H1
    obtain rfl := Option.some.inj H
    go_enter Tryd.func79, Tryd.ntmps79
    go_wp2_with (first | ((with_reducible refine gate_callee (f := 66) rfl ?_); refine goesL_ (some 6) rfl rfl Tryd.func66 (by kernel_rfl) rfl #[.int .i64 a0] rfl (by (try simp only [List.map_toArray, List.map_cons, List.map_nil]); first | done | rfl | (simp only [List.length_drop, List.length_take]; rfl)) ?_; (with_reducible refine (spec_gcBits.calls a0 false _ A3.out).mono ?_); rintro e w' ⟨rfl, ⟨nd, rfl⟩⟩; refine ⟨_, rfl, ?_⟩))
    go_ret
    exact ⟨by first | rfl | (simp; done) | (simp [*]; done), by repeat (first | exact Drawn0.refl _ | apply Drawn0.step)⟩

end Go.Proofs.YtnhifbopicjicaaDoor.PFnRuns
