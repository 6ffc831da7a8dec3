/- What the law's functions compute, and that the calls come to just that: turned from a printed text. No condition. -/
import Derived.Test.YtnhifbopicjicaaDoorQFnPathsThroughWordsx0
import Derived.Test.YtnhifbopicjicaaDoorQFnPathsThroughWordsx1
import Derived.Test.YtnhifbopicjicaaDoorQFnPathsThroughWordsx2
import Derived.Test.YtnhifbopicjicaaDoorQFnPathsThroughWordsx6
namespace Go.Proofs.YtnhifbopicjicaaDoor.PFnPathsThroughWords
open Go.RowKit Go.Proofs.YtnhifbopicjicaaDoorW.PrintWords Go.Proofs.YtnhifbopicjicaaDoorW.PrintLast Go.Proofs.YtnhifbopicjicaaDoorW.PrintMore
attribute [local go_sem] max2_int min2_int max_two min_two max_three min_three max_four min_four   -- for this text's walks alone
set_option linter.unusedVariables false
set_option linter.unusedSimpArgs false

/-! ### spec_DrawPathThrough: function 63 -/
mutual
def spec_DrawPathThrough.l0 : Nat → Int → List Int → Int → Int → List Int → Int → Int → Option (Int × List Int)
 | 0, _, _, _, _, _, _, _ => none
 | k + 1, x5, x6, x7, x8, x268000, x268001, x268002 => if x8 > 0 then ((spec_l1Cur_one.f x268000 x268001 x268002 5).bind fun bt286 => (if bt286.1 = true then ((spec_l1Cur_pick.f x268000 bt286.2.1 bt286.2.2 16).bind fun bt289 => (spec_DrawPathThrough.j1 k x5 x6 bt289.1 x8 x268000 bt289.2.1 bt289.2.2)) else (spec_DrawPathThrough.j1 k x5 x6 x7 x8 x268000 bt286.2.1 bt286.2.2))) else ((spec_l1Cur_one.f x268000 x268001 x268002 3).bind fun bt283 => (if bt283.1 = true then (some (4, x6)) else (some (x5, x6))))
def spec_DrawPathThrough.j1 : Nat → Int → List Int → Int → Int → List Int → Int → Int → Option (Int × List Int)
 | 0, _, _, _, _, _, _, _ => none
 | k + 1, x5, x6, x7, x8, x268000, x268001, x268002 => (spec_l1Cur_pick.f x268000 x268001 x268002 4).bind fun bt292 => (if 0 ≤ bt292.1 then ((spec_l1Has.f k x6 (Go.bits .xor .i64 x7 (shl .i64 1 bt292.1))).bind fun t295 => (if t295 = true then ((spec_l1Cur_one.f x268000 bt292.2.1 bt292.2.2 30).bind fun bt296 => (if bt296.1 = true then (if x6.length < 17592186044416 then (spec_DrawPathThrough.l0 k x5 (x6 ++ [Go.bits .xor .i64 x7 (shl .i64 1 bt292.1)]) (Go.bits .xor .i64 x7 (shl .i64 1 bt292.1)) (wrap64 (x8 - 1)) x268000 bt296.2.1 bt296.2.2) else (none)) else (spec_DrawPathThrough.l0 k x5 x6 (Go.bits .xor .i64 x7 (shl .i64 1 bt292.1)) (wrap64 (x8 - 1)) x268000 bt296.2.1 bt296.2.2))) else (if x6.length < 17592186044416 then (spec_DrawPathThrough.l0 k x5 (x6 ++ [Go.bits .xor .i64 x7 (shl .i64 1 bt292.1)]) (Go.bits .xor .i64 x7 (shl .i64 1 bt292.1)) (wrap64 (x8 - 1)) x268000 bt292.2.1 bt292.2.2) else (none)))) else (none))
end
def spec_DrawPathThrough.f (k : Nat) (l0 : List Int) : Option (Int × List Int) := (spec_l1Cur_bits2.f l0 0 0 4).bind fun bt268 => ((spec_l1Cur_pick.f l0 bt268.2.1 bt268.2.2 16).bind fun bt271 => ((spec_l1Cur_among.f l0 bt271.2.1 bt271.2.2 (([4, 8, 13] : List Int))).bind fun bt277 => ((spec_l1Cur_pick.f l0 bt277.2.1 bt277.2.2 bt277.1).bind fun bt280 => (spec_DrawPathThrough.l0 k bt268.1 ([] : List Int) bt271.1 bt280.1 l0 bt280.2.1 bt280.2.2))))
theorem spec_DrawPathThrough.mono_l : ∀ k, (∀ y0 y1 y2 y3 y4 y5 y6, LeO (spec_DrawPathThrough.l0 k y0 y1 y2 y3 y4 y5 y6) (spec_DrawPathThrough.l0 (k + 1) y0 y1 y2 y3 y4 y5 y6)) ∧ (∀ y0 y1 y2 y3 y4 y5 y6, LeO (spec_DrawPathThrough.j1 k y0 y1 y2 y3 y4 y5 y6) (spec_DrawPathThrough.j1 (k + 1) y0 y1 y2 y3 y4 y5 y6))
 | 0 => ⟨fun _ _ _ _ _ _ _ r h => by simp [spec_DrawPathThrough.l0] at h, fun _ _ _ _ _ _ _ r h => by simp [spec_DrawPathThrough.j1] at h⟩
 | k + 1 => by
  obtain ⟨ih0, ih1⟩ := spec_DrawPathThrough.mono_l k
  refine ⟨?_, ?_⟩
  ·intro y0 y1 y2 y3 y4 y5 y6
   unfold spec_DrawPathThrough.l0
   repeat' first
   | (with_reducible exact ih0 _ _ _ _ _ _ _)
   | (with_reducible exact ih1 _ _ _ _ _ _ _)
   | (with_reducible exact spec_l1Has.mono _ _ _)
   | (with_reducible exact LeO.refl _)
   | (with_reducible exact LeO.none _)
   | (with_reducible refine LeO.ite ?_ ?_)
   | (with_reducible refine LeO.bind ?_ (fun _ => ?_))
   | exact ih0 _ _ _ _ _ _ _
   | exact ih1 _ _ _ _ _ _ _
   | exact spec_l1Has.mono _ _ _
   | exact LeO.none _
   | refine LeO.ite ?_ ?_
   | refine LeO.bind ?_ (fun _ => ?_)
  ·intro y0 y1 y2 y3 y4 y5 y6
   unfold spec_DrawPathThrough.j1
   repeat' first
   | (with_reducible exact ih0 _ _ _ _ _ _ _)
   | (with_reducible exact ih1 _ _ _ _ _ _ _)
   | (with_reducible exact spec_l1Has.mono _ _ _)
   | (with_reducible exact LeO.refl _)
   | (with_reducible exact LeO.none _)
   | (with_reducible refine LeO.ite ?_ ?_)
   | (with_reducible refine LeO.bind ?_ (fun _ => ?_))
   | exact ih0 _ _ _ _ _ _ _
   | exact ih1 _ _ _ _ _ _ _
   | exact spec_l1Has.mono _ _ _
   | exact LeO.none _
   | refine LeO.ite ?_ ?_
   | refine LeO.bind ?_ (fun _ => ?_)
theorem spec_DrawPathThrough.mono : ∀ a0 k, LeO (spec_DrawPathThrough.f k a0) (spec_DrawPathThrough.f (k + 1) a0) := by
 intro a0 k
 obtain ⟨ih0, ih1⟩ := spec_DrawPathThrough.mono_l k
 unfold spec_DrawPathThrough.f
 repeat' first
   | (with_reducible exact ih0 _ _ _ _ _ _ _)
   | (with_reducible exact ih1 _ _ _ _ _ _ _)
   | (with_reducible exact spec_l1Has.mono _ _ _)
   | (with_reducible exact LeO.refl _)
   | (with_reducible exact LeO.none _)
   | (with_reducible refine LeO.ite ?_ ?_)
   | (with_reducible refine LeO.bind ?_ (fun _ => ?_))
   | exact ih0 _ _ _ _ _ _ _
   | exact ih1 _ _ _ _ _ _ _
   | exact spec_l1Has.mono _ _ _
   | exact LeO.none _
   | refine LeO.ite ?_ ?_
   | refine LeO.bind ?_ (fun _ => ?_)
set_option maxHeartbeats 8000000 in
set_option maxRecDepth 100000 in
theorem spec_DrawPathThrough.calls (k : Nat) (A0 : Option Addr) (c0 : Nat) (l0 : List Int) (r1 : Int) (r2 : List Int) (w : World) (hr0 : Kd.C (Kd.int .u8) w A0 l0.length l0) (hc0 : l0.length ≤ c0) (h : spec_DrawPathThrough.f k l0 = some (r1, r2)) :
  Calls Tryd.prog 63 #[.slice A0 l0.length c0] w fun e w' => ∃ v1_ : Value, e = .returned (.tuple #[.int .i64 r1, v1_]) ∧ Kd.R (Kd.int .i64) 3 w' w.heap.size (fun _ => True) v1_ r2 ∧ Below w.heap.size w w' := by
 have hu79 := Tryd.underlying79; have HR0 := Aside0.mk hr0; have HC0 := Aside0.mk hc0; clear hr0 hc0
 have HB := Aside0.mk (Below.refl w.heap.size w)
 have H : ((spec_l1Cur_bits2.f l0 0 0 4).bind fun bt268 => ((spec_l1Cur_pick.f l0 bt268.2.1 bt268.2.2 16).bind fun bt271 => ((spec_l1Cur_among.f l0 bt271.2.1 bt271.2.2 (([4, 8, 13] : List Int))).bind fun bt277 => ((spec_l1Cur_pick.f l0 bt277.2.1 bt277.2.2 bt277.1).bind fun bt280 => (spec_DrawPathThrough.l0 k bt268.1 ([] : List Int) bt271.1 bt280.1 l0 bt280.2.1 bt280.2.2))))) = some (r1, r2) := h
 clear h; replace H := Option.bind_eq_some_iff.mp H
 obtain ⟨⟨t268, t269, t270⟩, A20, H⟩ := H
 replace H : ((spec_l1Cur_pick.f l0 t269 t270 16).bind fun bt271 => ((spec_l1Cur_among.f l0 bt271.2.1 bt271.2.2 (([4, 8, 13] : List Int))).bind fun bt277 => ((spec_l1Cur_pick.f l0 bt277.2.1 bt277.2.2 bt277.1).bind fun bt280 => (spec_DrawPathThrough.l0 k t268 ([] : List Int) bt271.1 bt280.1 l0 bt280.2.1 bt280.2.2)))) = some (r1, r2) := H
 have A2 := Aside0.mk A20; clear A20; replace H := Option.bind_eq_some_iff.mp H
 obtain ⟨⟨t271, t272, t273⟩, A30, H⟩ := H
 replace H : ((spec_l1Cur_among.f l0 t272 t273 (([4, 8, 13] : List Int))).bind fun bt277 => ((spec_l1Cur_pick.f l0 bt277.2.1 bt277.2.2 bt277.1).bind fun bt280 => (spec_DrawPathThrough.l0 k t268 ([] : List Int) t271 bt280.1 l0 bt280.2.1 bt280.2.2))) = some (r1, r2) := H
 have A3 := Aside0.mk A30; clear A30
 obtain ⟨y274, hy274⟩ : ∃ y_ : List Int, y_ = (([4, 8, 13] : List Int)) := ⟨_, rfl⟩
 replace H : ((spec_l1Cur_among.f l0 t272 t273 y274).bind fun bt277 => ((spec_l1Cur_pick.f l0 bt277.2.1 bt277.2.2 bt277.1).bind fun bt280 => (spec_DrawPathThrough.l0 k t268 ([] : List Int) t271 bt280.1 l0 bt280.2.1 bt280.2.2))) = some (r1, r2) := by first | (rw [hy274]; with_reducible exact H) | (have H2_ := (Option.bind_some _ _).symm.trans H; rw [hy274]; with_reducible exact H2_) | (have H2_ := (Option.bind_some _ _).symm.trans H; with_reducible exact H2_) | with_reducible exact H | (rw [hy274]; exact H) | exact H
 have Ny274 := Aside0.mk hy274; clear hy274; replace H := Option.bind_eq_some_iff.mp H
 obtain ⟨⟨t277, t278, t279⟩, A40, H⟩ := H
 replace H : ((spec_l1Cur_pick.f l0 t278 t279 t277).bind fun bt280 => (spec_DrawPathThrough.l0 k t268 ([] : List Int) t271 bt280.1 l0 bt280.2.1 bt280.2.2)) = some (r1, r2) := H
 have A4 := Aside0.mk A40; clear A40; replace H := Option.bind_eq_some_iff.mp H
 obtain ⟨⟨t280, t281, t282⟩, A50, H⟩ := H
 replace H : (spec_DrawPathThrough.l0 k t268 ([] : List Int) t271 t280 l0 t281 t282) = some (r1, r2) := H
 have A5 := Aside0.mk A50; clear A50; have H' := Aside0.mk H; clear H
 go_enter Tryd.func63, Tryd.ntmps63
 go_wp2_with (first | ((with_reducible refine gate_dst (N := 11) rfl ?_); refine box_event ?hg (N := 11) ?hd (cs := #[.slice A0 l0.length c0, .int .i64 0, .int .u64 0]) (t := 79) ?hr ?_; (case hd => rfl); (case hg => rfl); (case hr => first | (go_simp; done) | (go_simp; rfl)); intro gb267 hg w6 hbox hb; have n0_ := Aside0.mk (below_step (by repeat (first | (with_reducible first | exact HB.out | apply below_alloc | apply pw_below_drewN | apply below_drew1) | exact HB.out | exact Below.refl _ _)) hb); have n1_ := Aside0.mk (hbox); have n2_ := Aside0.mk ((by rw [hg]; exact (below_size (by repeat (first | (with_reducible first | exact HB.out | apply below_alloc | apply pw_below_drewN | apply below_drew1) | exact HB.out | exact Below.refl _ _))) : w.heap.size ≤ gb267)); have n3_ := Aside0.mk ((by rw [hg]; exact (below_size (by repeat (first | (with_reducible first | exact HB.out | apply below_alloc | apply pw_below_drewN | apply below_drew1) | exact HB.out | exact Below.refl _ _))) : w.heap.size ≤ gb267)); clear HB; have HB := n0_; have BK267 := n1_; have GW267 := n2_; have GE267 := n3_; clear n0_ n1_ n2_ n3_; clear hb hbox hg) | (have HI267 := Aside0.mk (show IsS79 w w6 gb267 l0 0 0 from ⟨_, _, BK267.out, GE267.out, HR0.out⟩); go_at_call 103; (with_reducible refine (spec_l1Cur_bits2.calls gb267 l0 0 0 4 t268 t269 t270 w _ ?side1 ?side2 A2.out).mono ?_); (case side1 => repeat (first | (with_reducible first | exact HI267.out | apply IsS79.alloc | apply IsS79.drewN | apply IsS79.drew | apply IsS79.set_1 | apply IsS79.set_2) | exact HI267.out)); (case side2 => repeat (first | (with_reducible first | exact HB.out | apply below_alloc | apply pw_below_drewN | apply below_drew1 | refine below_set ?_ (IsS79.ge HI267.out)) | exact HB.out)); rintro e w7 ⟨rfl, hi, hb, hk⟩; have n0_ := Aside0.mk (hb); have n1_ := Aside0.mk (hi); clear HB; clear HI267; clear BK267; have HB := n0_; have HI267 := n1_; clear n0_ n1_; (try clear hb); (try clear hb2); (try clear hk); (try clear hi)) | ((with_reducible refine gate_callee (f := 104) rfl ?_); refine goesL_ (some 15) rfl rfl Tryd.func104 (by kernel_rfl) rfl #[.pointer (some ⟨gb267, 0, none⟩), .int .i64 16] rfl (by (try simp only [List.map_toArray, List.map_cons, List.map_nil]); first | done | rfl | (simp only [List.length_drop, List.length_take]; rfl)) ?_; (with_reducible refine (spec_l1Cur_pick.calls gb267 l0 t269 t270 16 t271 t272 t273 w _ ?side1 ?side2 A3.out).mono ?_); (case side1 => repeat (first | (with_reducible first | exact HI267.out | apply IsS79.alloc | apply IsS79.drewN | apply IsS79.drew | apply IsS79.set_1 | apply IsS79.set_2) | exact HI267.out)); (case side2 => repeat (first | (with_reducible first | exact HB.out | apply below_alloc | apply pw_below_drewN | apply below_drew1 | refine below_set ?_ (IsS79.ge HI267.out)) | exact HB.out)); rintro e w8 ⟨rfl, hi, hb, hk⟩; refine ⟨_, rfl, ?_⟩; have n0_ := Aside0.mk (hb); have n1_ := Aside0.mk (hi); clear HB; clear HI267; have HB := n0_; have HI267 := n1_; clear n0_ n1_; (try clear hb); (try clear hb2); (try clear hk); (try clear hi)) | ((with_reducible refine gate_dst (N := 18) rfl ?_); refine Kd.R_lit (Kd.int .i64) _ 3 ?hg (N := 18) ?hd (xs := ([4, 8, 13] : List Int)) (inner := [.int .i64 4, .int .i64 8, .int .i64 13]) (ok := fun _ => True) (okp := fun _ => True) ?hr ?hp (fun _ hk => hk) trivial (Below.refl _ _) (Nat.le_refl _) (by simp) ?_; (case hd => rfl); (case hg => rfl); (case hr => first | (go_simp; done) | (go_simp; rfl)); (case hp => exact (Reps.one (show Kd.M (Kd.int .i64) _ _ _ 4 [.int .i64 4] from rfl) (Reps.one (show Kd.M (Kd.int .i64) _ _ _ 8 [.int .i64 8] from rfl) (Reps.one (show Kd.M (Kd.int .i64) _ _ _ 13 [.int .i64 13] from rfl) (Reps.none _ _))))); intro v275 w9 ho10 hb hg_ hnew_; clear hg_ hnew_; (first | rw [← Ny274.out] at ho10 | (simp only [Int.reduceToNat] at ho10; rw [← Ny274.out] at ho10)); have n0_ := Aside0.mk (Kd.R_lower ho10 (below_size (by repeat (first | (with_reducible first | exact HB.out | apply below_alloc | apply pw_below_drewN | apply below_drew1 | refine below_set ?_ (IsS79.ge HI267.out)) | exact HB.out)))); have n1_ := Aside0.mk (IsS79.below (by repeat (first | (with_reducible first | exact HI267.out | apply IsS79.alloc | apply IsS79.drewN | apply IsS79.drew | apply IsS79.set_1 | apply IsS79.set_2) | exact HI267.out)) hb); have n2_ := Aside0.mk (below_step (by repeat (first | (with_reducible first | exact HB.out | apply below_alloc | apply pw_below_drewN | apply below_drew1 | refine below_set ?_ (IsS79.ge HI267.out)) | exact HB.out)) hb); clear HI267; clear HB; have HO276 := n0_; have HI267 := n1_; have HB := n2_; clear n0_ n1_ n2_; clear hb ho10; obtain ⟨Ao11, co11, eo11⟩ := Kd.R_slice HO276.out; subst eo11) | ((with_reducible refine gate_callee (f := 105) rfl ?_); refine goesL_ (some 19) rfl rfl Tryd.func105 (by kernel_rfl) rfl #[.pointer (some ⟨gb267, 0, none⟩), .slice Ao11 y274.length co11] rfl (by (try simp only [List.map_toArray, List.map_cons, List.map_nil]); first | done | rfl | (simp only [List.length_drop, List.length_take]; rfl)) ?_; (with_reducible refine (spec_l1Cur_among.calls gb267 l0 t272 t273 _ _ y274 t277 t278 t279 w _ ?side1 ?side2 ?side3 ?side4 ?side5 A4.out).mono ?_); (case side1 => repeat (first | (with_reducible first | exact HI267.out | apply IsS79.alloc | apply IsS79.drewN | apply IsS79.drew | apply IsS79.set_1 | apply IsS79.set_2) | exact HI267.out)); (case side2 => repeat (first | (with_reducible first | exact HB.out | apply below_alloc | apply pw_below_drewN | apply below_drew1 | refine below_set ?_ (IsS79.ge HI267.out)) | exact HB.out)); (case side3 => repeat (first | exact (Kd.R_reads' HO276.out).2.2 | (with_reducible refine Kd.C_alloc ?_ _) | (with_reducible refine Kd.C_drewN ?_ _) | (with_reducible refine Kd.C_drew ?_))); (case side4 => exact (Kd.R_reads' HO276.out).2.1); (case side5 => exact far_slice (IsS79.own_ne HI267.out HO276.out (by decide))); rintro e w12 ⟨rfl, hi, hb, hk⟩; refine ⟨_, rfl, ?_⟩; have n0_ := Aside0.mk (Kd.R_mono (Kd.R_keep (IsS79.apart (show IsS79 w _ gb267 l0 t272 t273 from by repeat (first | (with_reducible first | exact HI267.out | apply IsS79.alloc | apply IsS79.drewN | apply IsS79.drew | apply IsS79.set_1 | apply IsS79.set_2) | exact HI267.out)) (by (with_reducible repeat (first | apply Kd.R_alloc | apply Kd.R_drewN | apply Kd.R_drew)); exact HO276.out) (by decide)) hk (fun _ h => h.2)) (fun _ h => h.1)); have n1_ := Aside0.mk (hb); have n2_ := Aside0.mk (hi); clear HO276; clear HB; clear HI267; have HO276 := n0_; have HB := n1_; have HI267 := n2_; clear n0_ n1_ n2_; (try clear hb); (try clear hb2); (try clear hk); (try clear hi)) | ((with_reducible refine gate_callee (f := 104) rfl ?_); refine goesL_ (some 20) rfl rfl Tryd.func104 (by kernel_rfl) rfl #[.pointer (some ⟨gb267, 0, none⟩), .int .i64 t277] rfl (by (try simp only [List.map_toArray, List.map_cons, List.map_nil]); first | done | rfl | (simp only [List.length_drop, List.length_take]; rfl)) ?_; (with_reducible refine (spec_l1Cur_pick.calls gb267 l0 t278 t279 t277 t280 t281 t282 w _ ?side1 ?side2 A5.out).mono ?_); (case side1 => repeat (first | (with_reducible first | exact HI267.out | apply IsS79.alloc | apply IsS79.drewN | apply IsS79.drew | apply IsS79.set_1 | apply IsS79.set_2) | exact HI267.out)); (case side2 => repeat (first | (with_reducible first | exact HB.out | apply below_alloc | apply pw_below_drewN | apply below_drew1 | refine below_set ?_ (IsS79.ge HI267.out)) | exact HB.out)); rintro e w13 ⟨rfl, hi, hb, hk⟩; refine ⟨_, rfl, ?_⟩; have n0_ := Aside0.mk (Kd.R_mono (Kd.R_keep (IsS79.apart (show IsS79 w _ gb267 l0 t278 t279 from by repeat (first | (with_reducible first | exact HI267.out | apply IsS79.alloc | apply IsS79.drewN | apply IsS79.drew | apply IsS79.set_1 | apply IsS79.set_2) | exact HI267.out)) (by (with_reducible repeat (first | apply Kd.R_alloc | apply Kd.R_drewN | apply Kd.R_drew)); exact HO276.out) (by decide)) hk (fun _ h => h.2)) (fun _ h => h.1)); have n1_ := Aside0.mk (hb); have n2_ := Aside0.mk (hi); clear HO276; clear HB; clear HI267; have HO276 := n0_; have HB := n1_; have HI267 := n2_; clear n0_ n1_ n2_; (try clear hb); (try clear hb2); (try clear hk); (try clear hi)))
 go_loopg [6, 7, 8] k (fun kq v6 v7 v8 w' => ∃ (x6_1 : List Int) (x7_1 : Int) (x8_1 : Int) (x268001_1 : Int) (x268002_1 : Int), v7 = .int .i64 x7_1 ∧ v8 = .int .i64 x8_1 ∧ Aside0 (spec_DrawPathThrough.l0 kq t268 x6_1 x7_1 x8_1 l0 x268001_1 x268002_1 = some (r1, r2)) ∧ Aside0 (kq ≤ k) ∧ Aside0 (Kd.R (Kd.int .i64) 3 w' w.heap.size (fun _ => True) v6 x6_1) ∧ Aside0 (IsS79 w w' gb267 l0 x268001_1 x268002_1) ∧ Aside0 (Below w.heap.size w w'))
 case atStart => exact ⟨(([] : List Int)), (t271), (t280), (t281), (t282), (by first | rfl | (simp; done) | (simp [*]; done)), (by first | rfl | (simp; done) | (simp [*]; done)), H', ⟨Nat.le_refl _⟩, ⟨by first | exact Kd.R_nil _ _ _ _ _ | exact Kd.N_nil _ _ _ _ _ | exact Kd.V_nil _ _ _ _ _ | exact Kd.Q_nil _ _ _ _ _ | exact Kd.S_nil _ _ _ _ _⟩, ⟨by repeat (first | (with_reducible first | exact HI267.out | apply IsS79.alloc | apply IsS79.drewN | apply IsS79.drew | apply IsS79.set_1 | apply IsS79.set_2) | exact HI267.out)⟩, ⟨by repeat (first | (with_reducible first | exact HB.out | apply below_alloc | apply pw_below_drewN | apply below_drew1 | refine below_set ?_ (IsS79.ge HI267.out)) | exact HB.out)⟩⟩
 case round =>
  clear H'; (try clear c1); (try clear p2); (try clear c6); (try clear c10); obtain ⟨x6_1, x7_1, x8_1, x268001_1, x268002_1, rfl, rfl, HA, HK1, HO_6, HI267, HB⟩ := hrel
  cases gk with
  | zero => exact absurd HA.out (by simp [spec_DrawPathThrough.l0])
  | succ k1 =>
   have H := HA.out; clear HA
   simp only [spec_DrawPathThrough.l0] at H
   by_cases c14 : x8_1 > 0
   ·rw [if_pos c14] at H
    have c14b0 : decide (0 < x8_1) = true := decide_eq_true c14
    clear c14; replace H := Option.bind_eq_some_iff.mp H
    obtain ⟨⟨t286, t287, t288⟩, A150, H⟩ := H
    replace H : (if t286 = true then ((spec_l1Cur_pick.f l0 t287 t288 16).bind fun bt289 => (spec_DrawPathThrough.j1 k1 t268 x6_1 bt289.1 x8_1 l0 bt289.2.1 bt289.2.2)) else (spec_DrawPathThrough.j1 k1 t268 x6_1 x7_1 x8_1 l0 t287 t288)) = some (r1, r2) := H
    have A15 := Aside0.mk A150; clear A150; have HC16 := Aside0.mk H; clear H
    go_upto_if 26 with (first | ((with_reducible refine gate_callee (f := 118) rfl ?_); refine goesL_ (some 26) rfl rfl Tryd.func118 (by kernel_rfl) rfl #[.pointer (some ⟨gb267, 0, none⟩), .int .i64 5] rfl (by (try simp only [List.map_toArray, List.map_cons, List.map_nil]); first | done | rfl | (simp only [List.length_drop, List.length_take]; rfl)) ?_; (with_reducible refine (spec_l1Cur_one.calls gb267 l0 x268001_1 x268002_1 5 t286 t287 t288 w _ ?side1 ?side2 A15.out).mono ?_); (case side1 => repeat (first | (with_reducible first | exact HI267.out | apply IsS79.alloc | apply IsS79.drewN | apply IsS79.drew | apply IsS79.set_1 | apply IsS79.set_2) | exact HI267.out)); (case side2 => repeat (first | (with_reducible first | exact HB.out | apply below_alloc | apply pw_below_drewN | apply below_drew1 | refine below_set ?_ (IsS79.ge HI267.out)) | exact HB.out)); rintro e w17 ⟨rfl, hi, hb, hk⟩; refine ⟨_, rfl, ?_⟩; have n0_ := Aside0.mk (Kd.R_mono (Kd.R_keep (IsS79.apart (show IsS79 w _ gb267 l0 x268001_1 x268002_1 from by repeat (first | (with_reducible first | exact HI267.out | apply IsS79.alloc | apply IsS79.drewN | apply IsS79.drew | apply IsS79.set_1 | apply IsS79.set_2) | exact HI267.out)) (by (with_reducible repeat (first | apply Kd.R_alloc | apply Kd.R_drewN | apply Kd.R_drew)); exact HO_6.out) (by decide)) hk (fun _ h => h.2)) (fun _ h => h.1)); have n1_ := Aside0.mk (hb); have n2_ := Aside0.mk (hi); clear HO_6; clear HB; clear HI267; have HO_6 := n0_; have HB := n1_; have HI267 := n2_; clear n0_ n1_ n2_; (try clear hb); (try clear hb2); (try clear hk); (try clear hi)))
    (try simp only [Act.put, List.setIfInBounds_toArray, List.set_cons_zero, List.set_cons_succ])
    go_cut [7] (fun v7 wc => ∃ (kq : Nat) (x7_15 : Int) (x268001_15 : Int) (x268002_15 : Int), v7 = .int .i64 x7_15 ∧ Aside0 (spec_DrawPathThrough.j1 kq t268 x6_1 x7_15 x8_1 l0 x268001_15 x268002_15 = some (r1, r2)) ∧ Aside0 (kq ≤ k1) ∧ Aside0 (Kd.R (Kd.int .i64) 3 wc w.heap.size (fun _ => True) u6 x6_1) ∧ Aside0 (IsS79 w wc gb267 l0 x268001_15 x268002_15) ∧ Aside0 (Below w.heap.size w wc))
    case first =>
     have H := HC16.out; clear HC16
     by_cases c18 : t286 = true
     ·subst c18
      have H1 : ((spec_l1Cur_pick.f l0 t287 t288 16).bind fun bt289 => (spec_DrawPathThrough.j1 k1 t268 x6_1 bt289.1 x8_1 l0 bt289.2.1 bt289.2.2)) = some (r1, r2) := by rw [if_pos rfl] at H; exact H
      clear H; have H := H1; clear H1; replace H := Option.bind_eq_some_iff.mp H
      obtain ⟨⟨t289, t290, t291⟩, A190, H⟩ := H
      replace H : (spec_DrawPathThrough.j1 k1 t268 x6_1 t289 x8_1 l0 t290 t291) = some (r1, r2) := H
      have A19 := Aside0.mk A190; clear A190; have H' := Aside0.mk H; clear H
      go_wp2_with (first | ((with_reducible refine gate_callee (f := 104) rfl ?_); refine goesL_ (some 28) rfl rfl Tryd.func104 (by kernel_rfl) rfl #[.pointer (some ⟨gb267, 0, none⟩), .int .i64 16] rfl (by (try simp only [List.map_toArray, List.map_cons, List.map_nil]); first | done | rfl | (simp only [List.length_drop, List.length_take]; rfl)) ?_; (with_reducible refine (spec_l1Cur_pick.calls gb267 l0 t287 t288 16 t289 t290 t291 w _ ?side1 ?side2 A19.out).mono ?_); (case side1 => repeat (first | (with_reducible first | exact HI267.out | apply IsS79.alloc | apply IsS79.drewN | apply IsS79.drew | apply IsS79.set_1 | apply IsS79.set_2) | exact HI267.out)); (case side2 => repeat (first | (with_reducible first | exact HB.out | apply below_alloc | apply pw_below_drewN | apply below_drew1 | refine below_set ?_ (IsS79.ge HI267.out)) | exact HB.out)); rintro e w20 ⟨rfl, hi, hb, hk⟩; refine ⟨_, rfl, ?_⟩; have n0_ := Aside0.mk (Kd.R_mono (Kd.R_keep (IsS79.apart (show IsS79 w _ gb267 l0 t287 t288 from by repeat (first | (with_reducible first | exact HI267.out | apply IsS79.alloc | apply IsS79.drewN | apply IsS79.drew | apply IsS79.set_1 | apply IsS79.set_2) | exact HI267.out)) (by (with_reducible repeat (first | apply Kd.R_alloc | apply Kd.R_drewN | apply Kd.R_drew)); exact HO_6.out) (by decide)) hk (fun _ h => h.2)) (fun _ h => h.1)); have n1_ := Aside0.mk (hb); have n2_ := Aside0.mk (hi); clear HO_6; clear HB; clear HI267; have HO_6 := n0_; have HB := n1_; have HI267 := n2_; clear n0_ n1_ n2_; (try clear hb); (try clear hb2); (try clear hk); (try clear hi)))
      go_meet
      case rel => exact ⟨_, (t289), (t290), (t291), (by first | rfl | (simp; done) | (simp [*]; done)), H', ⟨by have := HK1.out; first | omega | exact Nat.le_refl _⟩, ⟨by (with_reducible repeat (first | apply Kd.R_alloc | apply Kd.R_drewN | apply Kd.R_drew)); exact HO_6.out⟩, ⟨by repeat (first | (with_reducible first | exact HI267.out | apply IsS79.alloc | apply IsS79.drewN | apply IsS79.drew | apply IsS79.set_1 | apply IsS79.set_2) | exact HI267.out)⟩, ⟨by repeat (first | (with_reducible first | exact HB.out | apply below_alloc | apply pw_below_drewN | apply below_drew1 | refine below_set ?_ (IsS79.ge HI267.out)) | exact HB.out)⟩⟩
     ·replace c18 := Bool.eq_false_iff.mpr c18; subst c18
      have H1 : (spec_DrawPathThrough.j1 k1 t268 x6_1 x7_1 x8_1 l0 t287 t288) = some (r1, r2) := by rw [if_neg (show ¬ (false = true) by decide)] at H; exact H
      clear H; have H := H1; clear H1; have H' := Aside0.mk H; clear H
      go_wp2
      go_meet
      case rel => exact ⟨_, (x7_1), (t287), (t288), (by first | rfl | (simp; done) | (simp [*]; done)), H', ⟨by have := HK1.out; first | omega | exact Nat.le_refl _⟩, ⟨by (with_reducible repeat (first | apply Kd.R_alloc | apply Kd.R_drewN | apply Kd.R_drew)); exact HO_6.out⟩, ⟨by repeat (first | (with_reducible first | exact HI267.out | apply IsS79.alloc | apply IsS79.drewN | apply IsS79.drew | apply IsS79.set_1 | apply IsS79.set_2) | exact HI267.out)⟩, ⟨by repeat (first | (with_reducible first | exact HB.out | apply below_alloc | apply pw_below_drewN | apply below_drew1 | refine below_set ?_ (IsS79.ge HI267.out)) | exact HB.out)⟩⟩
    case rest =>
     clear HC16; (try clear c1); (try clear p2); (try clear c6); (try clear c10); (try clear c11); (try clear c14); (try clear c14b0); (try clear c18); (try clear p2); obtain ⟨kq, x7_15, x268001_15, x268002_15, rfl, HA, HJ15, HO_6, HI267, HB⟩ := hcut
     cases kq with
     | zero => exact absurd HA.out (by simp [spec_DrawPathThrough.j1])
     | succ kj15 =>
      have H := HA.out; clear HA
      simp only [spec_DrawPathThrough.j1] at H
      replace H := Option.bind_eq_some_iff.mp H
      obtain ⟨⟨t292, t293, t294⟩, A210, H⟩ := H
      replace H : (if 0 ≤ t292 then ((spec_l1Has.f kj15 x6_1 (Go.bits .xor .i64 x7_15 (shl .i64 1 t292))).bind fun t295 => (if t295 = true then ((spec_l1Cur_one.f l0 t293 t294 30).bind fun bt296 => (if bt296.1 = true then (if x6_1.length < 17592186044416 then (spec_DrawPathThrough.l0 kj15 t268 (x6_1 ++ [Go.bits .xor .i64 x7_15 (shl .i64 1 t292)]) (Go.bits .xor .i64 x7_15 (shl .i64 1 t292)) (wrap64 (x8_1 - 1)) l0 bt296.2.1 bt296.2.2) else (none)) else (spec_DrawPathThrough.l0 kj15 t268 x6_1 (Go.bits .xor .i64 x7_15 (shl .i64 1 t292)) (wrap64 (x8_1 - 1)) l0 bt296.2.1 bt296.2.2))) else (if x6_1.length < 17592186044416 then (spec_DrawPathThrough.l0 kj15 t268 (x6_1 ++ [Go.bits .xor .i64 x7_15 (shl .i64 1 t292)]) (Go.bits .xor .i64 x7_15 (shl .i64 1 t292)) (wrap64 (x8_1 - 1)) l0 t293 t294) else (none)))) else (none)) = some (r1, r2) := H
      have A21 := Aside0.mk A210; clear A210
      by_cases c22 : 0 ≤ t292
      ·rw [if_pos c22] at H; have c22b0 := eq_true c22
       have c22b1 : decide (0 ≤ t292) = true := decide_eq_true c22
       clear c22
       obtain ⟨ji23, hji23⟩ : ∃ j_ : Int, (shl .i64 1 t292) = j_ := ⟨_, rfl⟩
       replace H : ((spec_l1Has.f kj15 x6_1 (Go.bits .xor .i64 x7_15 (ji23))).bind fun t295 => (if t295 = true then ((spec_l1Cur_one.f l0 t293 t294 30).bind fun bt296 => (if bt296.1 = true then (if x6_1.length < 17592186044416 then (spec_DrawPathThrough.l0 kj15 t268 (x6_1 ++ [Go.bits .xor .i64 x7_15 (ji23)]) (Go.bits .xor .i64 x7_15 (ji23)) (wrap64 (x8_1 - 1)) l0 bt296.2.1 bt296.2.2) else (none)) else (spec_DrawPathThrough.l0 kj15 t268 x6_1 (Go.bits .xor .i64 x7_15 (ji23)) (wrap64 (x8_1 - 1)) l0 bt296.2.1 bt296.2.2))) else (if x6_1.length < 17592186044416 then (spec_DrawPathThrough.l0 kj15 t268 (x6_1 ++ [Go.bits .xor .i64 x7_15 (ji23)]) (Go.bits .xor .i64 x7_15 (ji23)) (wrap64 (x8_1 - 1)) l0 t293 t294) else (none)))) = some (r1, r2) := by first | (rw [hji23] at H; exact H) | (simp only [hji23] at H ⊢; exact H)
       (try rw [hji23] at A21)
       have hji23_ : (IntKind.i64.wrap (1 * 2 ^ min t292.toNat 64)) = ji23 := hji23
       have hji23z : t292 ≤ 64 → (IntKind.i64.wrap (1 * 2 ^ t292.toNat)) = ji23 := shl_small hji23
       have hji23u : (IntKind.i64.wrap (2 ^ min t292.toNat 64)) = ji23 := by have h_ := hji23_; rw [Int.one_mul] at h_; exact h_
       have hji23v : t292 ≤ 64 → (IntKind.i64.wrap (2 ^ t292.toNat)) = ji23 := fun hle_ => by have h_ := hji23z hle_; rw [Int.one_mul] at h_; exact h_
       have hji23y : (wrap64 (1 * 2 ^ min t292.toNat 64)) = ji23 := (i64_w _).symm.trans hji23_
       have hji23x : t292 ≤ 64 → (wrap64 (1 * 2 ^ t292.toNat)) = ji23 := fun h_ => (i64_w _).symm.trans (hji23z h_)
       replace H := Option.bind_eq_some_iff.mp H; obtain ⟨t295, A240, H⟩ := H
       replace H : (if t295 = true then ((spec_l1Cur_one.f l0 t293 t294 30).bind fun bt296 => (if bt296.1 = true then (if x6_1.length < 17592186044416 then (spec_DrawPathThrough.l0 kj15 t268 (x6_1 ++ [Go.bits .xor .i64 x7_15 (ji23)]) (Go.bits .xor .i64 x7_15 (ji23)) (wrap64 (x8_1 - 1)) l0 bt296.2.1 bt296.2.2) else (none)) else (spec_DrawPathThrough.l0 kj15 t268 x6_1 (Go.bits .xor .i64 x7_15 (ji23)) (wrap64 (x8_1 - 1)) l0 bt296.2.1 bt296.2.2))) else (if x6_1.length < 17592186044416 then (spec_DrawPathThrough.l0 kj15 t268 (x6_1 ++ [Go.bits .xor .i64 x7_15 (ji23)]) (Go.bits .xor .i64 x7_15 (ji23)) (wrap64 (x8_1 - 1)) l0 t293 t294) else (none))) = some (r1, r2) := H
       have A24 := Aside0.mk A240; clear A240
       by_cases c25 : t295 = true
       ·subst c25
        have H1 : ((spec_l1Cur_one.f l0 t293 t294 30).bind fun bt296 => (if bt296.1 = true then (if x6_1.length < 17592186044416 then (spec_DrawPathThrough.l0 kj15 t268 (x6_1 ++ [Go.bits .xor .i64 x7_15 (ji23)]) (Go.bits .xor .i64 x7_15 (ji23)) (wrap64 (x8_1 - 1)) l0 bt296.2.1 bt296.2.2) else (none)) else (spec_DrawPathThrough.l0 kj15 t268 x6_1 (Go.bits .xor .i64 x7_15 (ji23)) (wrap64 (x8_1 - 1)) l0 bt296.2.1 bt296.2.2))) = some (r1, r2) := by rw [if_pos rfl] at H; exact H
        clear H; have H := H1; clear H1; replace H := Option.bind_eq_some_iff.mp H
        obtain ⟨⟨t296, t297, t298⟩, A260, H⟩ := H
        replace H : (if t296 = true then (if x6_1.length < 17592186044416 then (spec_DrawPathThrough.l0 kj15 t268 (x6_1 ++ [Go.bits .xor .i64 x7_15 (ji23)]) (Go.bits .xor .i64 x7_15 (ji23)) (wrap64 (x8_1 - 1)) l0 t297 t298) else (none)) else (spec_DrawPathThrough.l0 kj15 t268 x6_1 (Go.bits .xor .i64 x7_15 (ji23)) (wrap64 (x8_1 - 1)) l0 t297 t298)) = some (r1, r2) := H
        have A26 := Aside0.mk A260; clear A260
        by_cases c27 : t296 = true
        ·subst c27
         have H1 : (if x6_1.length < 17592186044416 then (spec_DrawPathThrough.l0 kj15 t268 (x6_1 ++ [Go.bits .xor .i64 x7_15 (ji23)]) (Go.bits .xor .i64 x7_15 (ji23)) (wrap64 (x8_1 - 1)) l0 t297 t298) else (none)) = some (r1, r2) := by rw [if_pos rfl] at H; exact H
         clear H; have H := H1; clear H1
         by_cases c28 : x6_1.length < 17592186044416
         ·rw [if_pos c28] at H; have LMc28 := Aside0.mk c28; clear c28
          obtain ⟨y299, hy299⟩ : ∃ y_ : List Int, y_ = (x6_1 ++ [Go.bits .xor .i64 x7_15 (ji23)]) := ⟨_, rfl⟩
          replace H : (spec_DrawPathThrough.l0 kj15 t268 y299 (Go.bits .xor .i64 x7_15 (ji23)) (wrap64 (x8_1 - 1)) l0 t297 t298) = some (r1, r2) := by first | (rw [hy299]; with_reducible exact H) | (have H2_ := (Option.bind_some _ _).symm.trans H; rw [hy299]; with_reducible exact H2_) | (have H2_ := (Option.bind_some _ _).symm.trans H; with_reducible exact H2_) | with_reducible exact H | (rw [hy299]; exact H) | exact H
          have Ny299 := Aside0.mk hy299; clear hy299; have H' := Aside0.mk H; clear H
          go_wp2_with (first | ((with_reducible refine gate_callee (f := 104) rfl ?_); refine goesL_ (some 31) rfl rfl Tryd.func104 (by kernel_rfl) rfl #[.pointer (some ⟨gb267, 0, none⟩), .int .i64 4] rfl (by (try simp only [List.map_toArray, List.map_cons, List.map_nil]); first | done | rfl | (simp only [List.length_drop, List.length_take]; rfl)) ?_; (with_reducible refine (spec_l1Cur_pick.calls gb267 l0 x268001_15 x268002_15 4 t292 t293 t294 w _ ?side1 ?side2 A21.out).mono ?_); (case side1 => repeat (first | (with_reducible first | exact HI267.out | apply IsS79.alloc | apply IsS79.drewN | apply IsS79.drew | apply IsS79.set_1 | apply IsS79.set_2) | exact HI267.out)); (case side2 => repeat (first | (with_reducible first | exact HB.out | apply below_alloc | apply pw_below_drewN | apply below_drew1 | refine below_set ?_ (IsS79.ge HI267.out)) | exact HB.out)); rintro e w29 ⟨rfl, hi, hb, hk⟩; refine ⟨_, rfl, ?_⟩; have n0_ := Aside0.mk (Kd.R_mono (Kd.R_keep (IsS79.apart (show IsS79 w _ gb267 l0 x268001_15 x268002_15 from by repeat (first | (with_reducible first | exact HI267.out | apply IsS79.alloc | apply IsS79.drewN | apply IsS79.drew | apply IsS79.set_1 | apply IsS79.set_2) | exact HI267.out)) (by (with_reducible repeat (first | apply Kd.R_alloc | apply Kd.R_drewN | apply Kd.R_drew)); exact HO_6.out) (by decide)) hk (fun _ h => h.2)) (fun _ h => h.1)); have n1_ := Aside0.mk (hb); have n2_ := Aside0.mk (hi); clear HO_6; clear HB; clear HI267; have HO_6 := n0_; have HB := n1_; have HI267 := n2_; clear n0_ n1_ n2_; (try clear hb); (try clear hb2); (try clear hk); (try clear hi); obtain ⟨Ao30, co30, eo30⟩ := Kd.R_slice HO_6.out; subst eo30) | ((with_reducible refine gate_callee (f := 119) rfl ?_); refine goesL_ (some 36) rfl rfl Tryd.func119 (by kernel_rfl) rfl #[.slice Ao30 x6_1.length co30, .int .i64 (Go.bits .xor .i64 x7_15 (ji23))] rfl (by (try simp only [List.map_toArray, List.map_cons, List.map_nil]); first | done | (simp only [hji23]; rfl) | rfl | (simp only [List.length_drop, List.length_take]; rfl)) ?_; (with_reducible refine (spec_l1Has.calls kj15 _ _ x6_1 (Go.bits .xor .i64 x7_15 (ji23)) true _ ?side1 ?side2 A24.out).mono ?_); (case side1 => repeat (first | exact (Kd.R_reads' HO_6.out).2.2 | (with_reducible refine Kd.C_alloc ?_ _) | (with_reducible refine Kd.C_drewN ?_ _) | (with_reducible refine Kd.C_drew ?_))); (case side2 => exact (Kd.R_reads' HO_6.out).2.1); rintro e w' ⟨rfl, ⟨nd, rfl⟩⟩; refine ⟨_, rfl, ?_⟩) | (go_at_call 118; (with_reducible refine (spec_l1Cur_one.calls gb267 l0 t293 t294 30 true t297 t298 w _ ?side1 ?side2 A26.out).mono ?_); (case side1 => repeat (first | (with_reducible first | exact HI267.out | apply IsS79.alloc | apply IsS79.drewN | apply IsS79.drew | apply IsS79.set_1 | apply IsS79.set_2) | exact HI267.out)); (case side2 => repeat (first | (with_reducible first | exact HB.out | apply below_alloc | apply pw_below_drewN | apply below_drew1 | refine below_set ?_ (IsS79.ge HI267.out)) | exact HB.out)); rintro e w31 ⟨rfl, hi, hb, hk⟩; have n0_ := Aside0.mk (Kd.R_mono (Kd.R_keep (IsS79.apart (show IsS79 w _ gb267 l0 t293 t294 from by repeat (first | (with_reducible first | exact HI267.out | apply IsS79.alloc | apply IsS79.drewN | apply IsS79.drew | apply IsS79.set_1 | apply IsS79.set_2) | exact HI267.out)) (by (with_reducible repeat (first | apply Kd.R_alloc | apply Kd.R_drewN | apply Kd.R_drew)); exact HO_6.out) (by decide)) hk (fun _ h => h.2)) (fun _ h => h.1)); have n1_ := Aside0.mk (hb); have n2_ := Aside0.mk (hi); clear HO_6; clear HB; clear HI267; have HO_6 := n0_; have HB := n1_; have HI267 := n2_; clear n0_ n1_ n2_; (try clear hb); (try clear hb2); (try clear hk); (try clear hi)) | ((with_reducible refine gate_builtin (b := .append) (xs := #[.tmp 42, .tmp 44]) rfl ?_); at_builtin; refine Kd.R_append (Kd.int .i64) (w0 := w) w.heap.size rfl (.tmp 42) (.tmp 44) 27 3 (.int .i64 0) 8 rfl Tryd.underlying27 info3 rfl (by decide) (by omega) (.slice Ao30 x6_1.length co30) x6_1 (Go.bits .xor .i64 x7_15 (ji23)) [.int .i64 (Go.bits .xor .i64 x7_15 (ji23))] (fun _ => True) (fun _ => False) rfl rfl ?aP (fun _ hk => hk.elim) ?aF ?aO ?aB ?aS ?aL ?_; (case aP => exact rfl); (case aB => exact (by repeat (first | (with_reducible first | exact HB.out | apply below_alloc | apply pw_below_drewN | apply below_drew1 | refine below_set ?_ (IsS79.ge HI267.out)) | exact HB.out))); (case aF => exact (fun _ _ => trivial)); (case aO => exact (by (with_reducible repeat (first | apply Kd.R_alloc | apply Kd.R_drewN | apply Kd.R_drew)); exact HO_6.out)); (case aS => exact (below_size (by repeat (first | (with_reducible first | exact HB.out | apply below_alloc | apply pw_below_drewN | apply below_drew1 | refine below_set ?_ (IsS79.ge HI267.out)) | exact HB.out)))); (case aL => have := LMc28.out; omega); intro v300 w32 ho hb hg hat; rw [← Ny299.out] at ho; have n0_ := Aside0.mk (IsS79.grown (by repeat (first | (with_reducible first | exact HI267.out | apply IsS79.alloc | apply IsS79.drewN | apply IsS79.drew | apply IsS79.set_1 | apply IsS79.set_2) | exact HI267.out)) hg (IsS79.own_ne HI267.out HO_6.out (by decide))); have n1_ := Aside0.mk (hb); have n2_ := Aside0.mk (ho); clear HI267; clear HB; clear HO_6; have HI267 := n0_; have HB := n1_; have HO301 := n2_; clear n0_ n1_ n2_; clear ho hb hg hat))
          go_roundg kj15
          case measure => have := HK1.out; have := HJ15.out; omega
          case rel => exact ⟨(y299), (Go.bits .xor .i64 x7_15 (ji23)), (wrap64 (x8_1 - 1)), (t297), (t298), (by first | rfl | (simp; done) | (simp only [← hji23] <;> (first | rfl | simp)) | (simp [*]; done)), (by first | rfl | (simp; done) | (simp [*]; done)), H', ⟨by have := HK1.out; have := HJ15.out; omega⟩, ⟨by (with_reducible repeat (first | apply Kd.R_alloc | apply Kd.R_drewN | apply Kd.R_drew)); exact HO301.out⟩, ⟨by repeat (first | (with_reducible first | exact HI267.out | apply IsS79.alloc | apply IsS79.drewN | apply IsS79.drew | apply IsS79.set_1 | apply IsS79.set_2) | exact HI267.out)⟩, ⟨by repeat (first | (with_reducible first | exact HB.out | apply below_alloc | apply pw_below_drewN | apply below_drew1 | refine below_set ?_ (IsS79.ge HI267.out)) | exact HB.out)⟩⟩
         ·rw [if_neg c28] at H
          exact absurd H (by simp)
        ·replace c27 := Bool.eq_false_iff.mpr c27; subst c27
         have H1 : (spec_DrawPathThrough.l0 kj15 t268 x6_1 (Go.bits .xor .i64 x7_15 (ji23)) (wrap64 (x8_1 - 1)) l0 t297 t298) = some (r1, r2) := by rw [if_neg (show ¬ (false = true) by decide)] at H; exact H
         clear H; have H := H1; clear H1; have H' := Aside0.mk H; clear H
         go_wp2_with (first | ((with_reducible refine gate_callee (f := 104) rfl ?_); refine goesL_ (some 31) rfl rfl Tryd.func104 (by kernel_rfl) rfl #[.pointer (some ⟨gb267, 0, none⟩), .int .i64 4] rfl (by (try simp only [List.map_toArray, List.map_cons, List.map_nil]); first | done | rfl | (simp only [List.length_drop, List.length_take]; rfl)) ?_; (with_reducible refine (spec_l1Cur_pick.calls gb267 l0 x268001_15 x268002_15 4 t292 t293 t294 w _ ?side1 ?side2 A21.out).mono ?_); (case side1 => repeat (first | (with_reducible first | exact HI267.out | apply IsS79.alloc | apply IsS79.drewN | apply IsS79.drew | apply IsS79.set_1 | apply IsS79.set_2) | exact HI267.out)); (case side2 => repeat (first | (with_reducible first | exact HB.out | apply below_alloc | apply pw_below_drewN | apply below_drew1 | refine below_set ?_ (IsS79.ge HI267.out)) | exact HB.out)); rintro e w33 ⟨rfl, hi, hb, hk⟩; refine ⟨_, rfl, ?_⟩; have n0_ := Aside0.mk (Kd.R_mono (Kd.R_keep (IsS79.apart (show IsS79 w _ gb267 l0 x268001_15 x268002_15 from by repeat (first | (with_reducible first | exact HI267.out | apply IsS79.alloc | apply IsS79.drewN | apply IsS79.drew | apply IsS79.set_1 | apply IsS79.set_2) | exact HI267.out)) (by (with_reducible repeat (first | apply Kd.R_alloc | apply Kd.R_drewN | apply Kd.R_drew)); exact HO_6.out) (by decide)) hk (fun _ h => h.2)) (fun _ h => h.1)); have n1_ := Aside0.mk (hb); have n2_ := Aside0.mk (hi); clear HO_6; clear HB; clear HI267; have HO_6 := n0_; have HB := n1_; have HI267 := n2_; clear n0_ n1_ n2_; (try clear hb); (try clear hb2); (try clear hk); (try clear hi); obtain ⟨Ao34, co34, eo34⟩ := Kd.R_slice HO_6.out; subst eo34) | ((with_reducible refine gate_callee (f := 119) rfl ?_); refine goesL_ (some 36) rfl rfl Tryd.func119 (by kernel_rfl) rfl #[.slice Ao34 x6_1.length co34, .int .i64 (Go.bits .xor .i64 x7_15 (ji23))] rfl (by (try simp only [List.map_toArray, List.map_cons, List.map_nil]); first | done | (simp only [hji23]; rfl) | rfl | (simp only [List.length_drop, List.length_take]; rfl)) ?_; (with_reducible refine (spec_l1Has.calls kj15 _ _ x6_1 (Go.bits .xor .i64 x7_15 (ji23)) true _ ?side1 ?side2 A24.out).mono ?_); (case side1 => repeat (first | exact (Kd.R_reads' HO_6.out).2.2 | (with_reducible refine Kd.C_alloc ?_ _) | (with_reducible refine Kd.C_drewN ?_ _) | (with_reducible refine Kd.C_drew ?_))); (case side2 => exact (Kd.R_reads' HO_6.out).2.1); rintro e w' ⟨rfl, ⟨nd, rfl⟩⟩; refine ⟨_, rfl, ?_⟩) | (go_at_call 118; (with_reducible refine (spec_l1Cur_one.calls gb267 l0 t293 t294 30 false t297 t298 w _ ?side1 ?side2 A26.out).mono ?_); (case side1 => repeat (first | (with_reducible first | exact HI267.out | apply IsS79.alloc | apply IsS79.drewN | apply IsS79.drew | apply IsS79.set_1 | apply IsS79.set_2) | exact HI267.out)); (case side2 => repeat (first | (with_reducible first | exact HB.out | apply below_alloc | apply pw_below_drewN | apply below_drew1 | refine below_set ?_ (IsS79.ge HI267.out)) | exact HB.out)); rintro e w35 ⟨rfl, hi, hb, hk⟩; have n0_ := Aside0.mk (Kd.R_mono (Kd.R_keep (IsS79.apart (show IsS79 w _ gb267 l0 t293 t294 from by repeat (first | (with_reducible first | exact HI267.out | apply IsS79.alloc | apply IsS79.drewN | apply IsS79.drew | apply IsS79.set_1 | apply IsS79.set_2) | exact HI267.out)) (by (with_reducible repeat (first | apply Kd.R_alloc | apply Kd.R_drewN | apply Kd.R_drew)); exact HO_6.out) (by decide)) hk (fun _ h => h.2)) (fun _ h => h.1)); have n1_ := Aside0.mk (hb); have n2_ := Aside0.mk (hi); clear HO_6; clear HB; clear HI267; have HO_6 := n0_; have HB := n1_; have HI267 := n2_; clear n0_ n1_ n2_; (try clear hb); (try clear hb2); (try clear hk); (try clear hi)))
         go_roundg kj15
         case measure => have := HK1.out; have := HJ15.out; omega
         case rel => exact ⟨(x6_1), (Go.bits .xor .i64 x7_15 (ji23)), (wrap64 (x8_1 - 1)), (t297), (t298), (by first | rfl | (simp; done) | (simp only [← hji23] <;> (first | rfl | simp)) | (simp [*]; done)), (by first | rfl | (simp; done) | (simp [*]; done)), H', ⟨by have := HK1.out; have := HJ15.out; omega⟩, ⟨by (with_reducible repeat (first | apply Kd.R_alloc | apply Kd.R_drewN | apply Kd.R_drew)); exact HO_6.out⟩, ⟨by repeat (first | (with_reducible first | exact HI267.out | apply IsS79.alloc | apply IsS79.drewN | apply IsS79.drew | apply IsS79.set_1 | apply IsS79.set_2) | exact HI267.out)⟩, ⟨by repeat (first | (with_reducible first | exact HB.out | apply below_alloc | apply pw_below_drewN | apply below_drew1 | refine below_set ?_ (IsS79.ge HI267.out)) | exact HB.out)⟩⟩
       ·replace c25 := Bool.eq_false_iff.mpr c25; subst c25
        have H1 : (if x6_1.length < 17592186044416 then (spec_DrawPathThrough.l0 kj15 t268 (x6_1 ++ [Go.bits .xor .i64 x7_15 (ji23)]) (Go.bits .xor .i64 x7_15 (ji23)) (wrap64 (x8_1 - 1)) l0 t293 t294) else (none)) = some (r1, r2) := by rw [if_neg (show ¬ (false = true) by decide)] at H; exact H
        clear H; have H := H1; clear H1
        by_cases c36 : x6_1.length < 17592186044416
        ·rw [if_pos c36] at H; have LMc36 := Aside0.mk c36; clear c36
         obtain ⟨y302, hy302⟩ : ∃ y_ : List Int, y_ = (x6_1 ++ [Go.bits .xor .i64 x7_15 (ji23)]) := ⟨_, rfl⟩
         replace H : (spec_DrawPathThrough.l0 kj15 t268 y302 (Go.bits .xor .i64 x7_15 (ji23)) (wrap64 (x8_1 - 1)) l0 t293 t294) = some (r1, r2) := by first | (rw [hy302]; with_reducible exact H) | (have H2_ := (Option.bind_some _ _).symm.trans H; rw [hy302]; with_reducible exact H2_) | (have H2_ := (Option.bind_some _ _).symm.trans H; with_reducible exact H2_) | with_reducible exact H | (rw [hy302]; exact H) | exact H
         have Ny302 := Aside0.mk hy302; clear hy302; have H' := Aside0.mk H; clear H
         go_wp2_with (first | ((with_reducible refine gate_callee (f := 104) rfl ?_); refine goesL_ (some 31) rfl rfl Tryd.func104 (by kernel_rfl) rfl #[.pointer (some ⟨gb267, 0, none⟩), .int .i64 4] rfl (by (try simp only [List.map_toArray, List.map_cons, List.map_nil]); first | done | rfl | (simp only [List.length_drop, List.length_take]; rfl)) ?_; (with_reducible refine (spec_l1Cur_pick.calls gb267 l0 x268001_15 x268002_15 4 t292 t293 t294 w _ ?side1 ?side2 A21.out).mono ?_); (case side1 => repeat (first | (with_reducible first | exact HI267.out | apply IsS79.alloc | apply IsS79.drewN | apply IsS79.drew | apply IsS79.set_1 | apply IsS79.set_2) | exact HI267.out)); (case side2 => repeat (first | (with_reducible first | exact HB.out | apply below_alloc | apply pw_below_drewN | apply below_drew1 | refine below_set ?_ (IsS79.ge HI267.out)) | exact HB.out)); rintro e w37 ⟨rfl, hi, hb, hk⟩; refine ⟨_, rfl, ?_⟩; have n0_ := Aside0.mk (Kd.R_mono (Kd.R_keep (IsS79.apart (show IsS79 w _ gb267 l0 x268001_15 x268002_15 from by repeat (first | (with_reducible first | exact HI267.out | apply IsS79.alloc | apply IsS79.drewN | apply IsS79.drew | apply IsS79.set_1 | apply IsS79.set_2) | exact HI267.out)) (by (with_reducible repeat (first | apply Kd.R_alloc | apply Kd.R_drewN | apply Kd.R_drew)); exact HO_6.out) (by decide)) hk (fun _ h => h.2)) (fun _ h => h.1)); have n1_ := Aside0.mk (hb); have n2_ := Aside0.mk (hi); clear HO_6; clear HB; clear HI267; have HO_6 := n0_; have HB := n1_; have HI267 := n2_; clear n0_ n1_ n2_; (try clear hb); (try clear hb2); (try clear hk); (try clear hi); obtain ⟨Ao38, co38, eo38⟩ := Kd.R_slice HO_6.out; subst eo38) | ((with_reducible refine gate_callee (f := 119) rfl ?_); refine goesL_ (some 36) rfl rfl Tryd.func119 (by kernel_rfl) rfl #[.slice Ao38 x6_1.length co38, .int .i64 (Go.bits .xor .i64 x7_15 (ji23))] rfl (by (try simp only [List.map_toArray, List.map_cons, List.map_nil]); first | done | (simp only [hji23]; rfl) | rfl | (simp only [List.length_drop, List.length_take]; rfl)) ?_; (with_reducible refine (spec_l1Has.calls kj15 _ _ x6_1 (Go.bits .xor .i64 x7_15 (ji23)) false _ ?side1 ?side2 A24.out).mono ?_); (case side1 => repeat (first | exact (Kd.R_reads' HO_6.out).2.2 | (with_reducible refine Kd.C_alloc ?_ _) | (with_reducible refine Kd.C_drewN ?_ _) | (with_reducible refine Kd.C_drew ?_))); (case side2 => exact (Kd.R_reads' HO_6.out).2.1); rintro e w' ⟨rfl, ⟨nd, rfl⟩⟩; refine ⟨_, rfl, ?_⟩) | ((with_reducible refine gate_builtin (b := .append) (xs := #[.tmp 42, .tmp 44]) rfl ?_); at_builtin; refine Kd.R_append (Kd.int .i64) (w0 := w) w.heap.size rfl (.tmp 42) (.tmp 44) 27 3 (.int .i64 0) 8 rfl Tryd.underlying27 info3 rfl (by decide) (by omega) (.slice Ao38 x6_1.length co38) x6_1 (Go.bits .xor .i64 x7_15 (ji23)) [.int .i64 (Go.bits .xor .i64 x7_15 (ji23))] (fun _ => True) (fun _ => False) rfl rfl ?aP (fun _ hk => hk.elim) ?aF ?aO ?aB ?aS ?aL ?_; (case aP => exact rfl); (case aB => exact (by repeat (first | (with_reducible first | exact HB.out | apply below_alloc | apply pw_below_drewN | apply below_drew1 | refine below_set ?_ (IsS79.ge HI267.out)) | exact HB.out))); (case aF => exact (fun _ _ => trivial)); (case aO => exact (by (with_reducible repeat (first | apply Kd.R_alloc | apply Kd.R_drewN | apply Kd.R_drew)); exact HO_6.out)); (case aS => exact (below_size (by repeat (first | (with_reducible first | exact HB.out | apply below_alloc | apply pw_below_drewN | apply below_drew1 | refine below_set ?_ (IsS79.ge HI267.out)) | exact HB.out)))); (case aL => have := LMc36.out; omega); intro v303 w39 ho hb hg hat; rw [← Ny302.out] at ho; have n0_ := Aside0.mk (IsS79.grown (by repeat (first | (with_reducible first | exact HI267.out | apply IsS79.alloc | apply IsS79.drewN | apply IsS79.drew | apply IsS79.set_1 | apply IsS79.set_2) | exact HI267.out)) hg (IsS79.own_ne HI267.out HO_6.out (by decide))); have n1_ := Aside0.mk (hb); have n2_ := Aside0.mk (ho); clear HI267; clear HB; clear HO_6; have HI267 := n0_; have HB := n1_; have HO304 := n2_; clear n0_ n1_ n2_; clear ho hb hg hat))
         go_roundg kj15
         case measure => have := HK1.out; have := HJ15.out; omega
         case rel => exact ⟨(y302), (Go.bits .xor .i64 x7_15 (ji23)), (wrap64 (x8_1 - 1)), (t293), (t294), (by first | rfl | (simp; done) | (simp only [← hji23] <;> (first | rfl | simp)) | (simp [*]; done)), (by first | rfl | (simp; done) | (simp [*]; done)), H', ⟨by have := HK1.out; have := HJ15.out; omega⟩, ⟨by (with_reducible repeat (first | apply Kd.R_alloc | apply Kd.R_drewN | apply Kd.R_drew)); exact HO304.out⟩, ⟨by repeat (first | (with_reducible first | exact HI267.out | apply IsS79.alloc | apply IsS79.drewN | apply IsS79.drew | apply IsS79.set_1 | apply IsS79.set_2) | exact HI267.out)⟩, ⟨by repeat (first | (with_reducible first | exact HB.out | apply below_alloc | apply pw_below_drewN | apply below_drew1 | refine below_set ?_ (IsS79.ge HI267.out)) | exact HB.out)⟩⟩
        ·rw [if_neg c36] at H
         exact absurd H (by simp)
      ·rw [if_neg c22] at H
       exact absurd H (by simp)
   ·rw [if_neg c14] at H
    have c14b0 : decide (0 < x8_1) = false := decide_eq_false c14
    clear c14; replace H := Option.bind_eq_some_iff.mp H
    obtain ⟨⟨t283, t284, t285⟩, A400, H⟩ := H
    replace H : (if t283 = true then (some (4, x6_1)) else (some (t268, x6_1))) = some (r1, r2) := H
    have A40 := Aside0.mk A400; clear A400
    by_cases c41 : t283 = true
    ·subst c41
     have H1 : (some (4, x6_1)) = some (r1, r2) := by rw [if_pos rfl] at H; exact H
     clear H; have H := H1; clear H1
     simp only [Option.some.injEq, Prod.mk.injEq] at H
     obtain ⟨rfl, rfl⟩ := H
     go_wp2_with (first | ((with_reducible refine gate_callee (f := 118) rfl ?_); refine goesL_ (some 47) rfl rfl Tryd.func118 (by kernel_rfl) rfl #[.pointer (some ⟨gb267, 0, none⟩), .int .i64 3] rfl (by (try simp only [List.map_toArray, List.map_cons, List.map_nil]); first | done | rfl | (simp only [List.length_drop, List.length_take]; rfl)) ?_; (with_reducible refine (spec_l1Cur_one.calls gb267 l0 x268001_1 x268002_1 3 true t284 t285 w _ ?side1 ?side2 A40.out).mono ?_); (case side1 => repeat (first | (with_reducible first | exact HI267.out | apply IsS79.alloc | apply IsS79.drewN | apply IsS79.drew | apply IsS79.set_1 | apply IsS79.set_2) | exact HI267.out)); (case side2 => repeat (first | (with_reducible first | exact HB.out | apply below_alloc | apply pw_below_drewN | apply below_drew1 | refine below_set ?_ (IsS79.ge HI267.out)) | exact HB.out)); rintro e w42 ⟨rfl, hi, hb, hk⟩; refine ⟨_, rfl, ?_⟩; have n0_ := Aside0.mk (Kd.R_mono (Kd.R_keep (IsS79.apart (show IsS79 w _ gb267 l0 x268001_1 x268002_1 from by repeat (first | (with_reducible first | exact HI267.out | apply IsS79.alloc | apply IsS79.drewN | apply IsS79.drew | apply IsS79.set_1 | apply IsS79.set_2) | exact HI267.out)) (by (with_reducible repeat (first | apply Kd.R_alloc | apply Kd.R_drewN | apply Kd.R_drew)); exact HO_6.out) (by decide)) hk (fun _ h => h.2)) (fun _ h => h.1)); have n1_ := Aside0.mk (hb); have n2_ := Aside0.mk (hi); clear HO_6; clear HB; clear HI267; have HO_6 := n0_; have HB := n1_; have HI267 := n2_; clear n0_ n1_ n2_; (try clear hb); (try clear hb2); (try clear hk); (try clear hi)))
     go_ret2
     exact ⟨_, by first | rfl | (simp [errW_none, errW_some] <;> rfl) | (simp [*, errW_none, errW_some] <;> rfl), by (with_reducible repeat (first | apply Kd.R_alloc | apply Kd.R_drewN | apply Kd.R_drew)); exact HO_6.out, by repeat (first | (with_reducible first | exact HB.out | apply below_alloc | apply pw_below_drewN | apply below_drew1 | refine below_set ?_ (IsS79.ge HI267.out)) | exact HB.out)⟩
    ·replace c41 := Bool.eq_false_iff.mpr c41; subst c41
     have H1 : (some (t268, x6_1)) = some (r1, r2) := by rw [if_neg (show ¬ (false = true) by decide)] at H; exact H
     clear H; have H := H1; clear H1
     simp only [Option.some.injEq, Prod.mk.injEq] at H
     obtain ⟨rfl, rfl⟩ := H
     go_wp2_with (first | ((with_reducible refine gate_callee (f := 118) rfl ?_); refine goesL_ (some 47) rfl rfl Tryd.func118 (by kernel_rfl) rfl #[.pointer (some ⟨gb267, 0, none⟩), .int .i64 3] rfl (by (try simp only [List.map_toArray, List.map_cons, List.map_nil]); first | done | rfl | (simp only [List.length_drop, List.length_take]; rfl)) ?_; (with_reducible refine (spec_l1Cur_one.calls gb267 l0 x268001_1 x268002_1 3 false t284 t285 w _ ?side1 ?side2 A40.out).mono ?_); (case side1 => repeat (first | (with_reducible first | exact HI267.out | apply IsS79.alloc | apply IsS79.drewN | apply IsS79.drew | apply IsS79.set_1 | apply IsS79.set_2) | exact HI267.out)); (case side2 => repeat (first | (with_reducible first | exact HB.out | apply below_alloc | apply pw_below_drewN | apply below_drew1 | refine below_set ?_ (IsS79.ge HI267.out)) | exact HB.out)); rintro e w43 ⟨rfl, hi, hb, hk⟩; refine ⟨_, rfl, ?_⟩; have n0_ := Aside0.mk (Kd.R_mono (Kd.R_keep (IsS79.apart (show IsS79 w _ gb267 l0 x268001_1 x268002_1 from by repeat (first | (with_reducible first | exact HI267.out | apply IsS79.alloc | apply IsS79.drewN | apply IsS79.drew | apply IsS79.set_1 | apply IsS79.set_2) | exact HI267.out)) (by (with_reducible repeat (first | apply Kd.R_alloc | apply Kd.R_drewN | apply Kd.R_drew)); exact HO_6.out) (by decide)) hk (fun _ h => h.2)) (fun _ h => h.1)); have n1_ := Aside0.mk (hb); have n2_ := Aside0.mk (hi); clear HO_6; clear HB; clear HI267; have HO_6 := n0_; have HB := n1_; have HI267 := n2_; clear n0_ n1_ n2_; (try clear hb); (try clear hb2); (try clear hk); (try clear hi)))
     go_ret2
     exact ⟨_, by first | rfl | (simp [errW_none, errW_some] <;> rfl) | (simp [*, errW_none, errW_some] <;> rfl), by (with_reducible repeat (first | apply Kd.R_alloc | apply Kd.R_drewN | apply Kd.R_drew)); exact HO_6.out, by repeat (first | (with_reducible first | exact HB.out | apply below_alloc | apply pw_below_drewN | apply below_drew1 | refine below_set ?_ (IsS79.ge HI267.out)) | exact HB.out)⟩

/-! ### impl_HalvesOf: function 64 -/
def impl_HalvesOf.l0 : Nat → List Int → Int → List Int → Int → Int → Option (Int × Int × Bool)
 | 0, _, _, _, _, _ => none
 | k + 1, x1, x7, x14, x15, x16 => if x16 < x15 then (if 0 ≤ x16 then (if x16 < (x14.length : Int) then ((bits_OnesCount.f (IntKind.u64.wrap (rd x14 x16))).bind fun t307 => (impl_HalvesOf.l0 k x1 (wrap64 (x7 + (Int.tmod t307 2))) x14 x15 (wrap64 (x16 + 1)))) else (none)) else (none)) else (some (wrap64 ((x1.length : Int) - x7), x7, true))
def impl_HalvesOf.f (k : Nat) (a0 : Int) (l1 : List Int) : Option (Int × Int × Bool) := (impl_areWords.f k a0 l1).bind fun t305 => (if t305 = true then (impl_HalvesOf.l0 k l1 0 l1 (l1.length : Int) 0) else (some (0, 0, false)))
theorem impl_HalvesOf.mono_l : ∀ k, (∀ y0 y1 y2 y3 y4, LeO (impl_HalvesOf.l0 k y0 y1 y2 y3 y4) (impl_HalvesOf.l0 (k + 1) y0 y1 y2 y3 y4))
 | 0 => fun _ _ _ _ _ r h => by simp [impl_HalvesOf.l0] at h
 | k + 1 => by
  have ih0 := impl_HalvesOf.mono_l k
  ·intro y0 y1 y2 y3 y4
   unfold impl_HalvesOf.l0
   repeat' first
   | (with_reducible exact ih0 _ _ _ _ _)
   | (with_reducible exact impl_areWords.mono _ _ _)
   | (with_reducible exact LeO.refl _)
   | (with_reducible exact LeO.none _)
   | (with_reducible refine LeO.ite ?_ ?_)
   | (with_reducible refine LeO.bind ?_ (fun _ => ?_))
   | exact ih0 _ _ _ _ _
   | exact impl_areWords.mono _ _ _
   | exact LeO.none _
   | refine LeO.ite ?_ ?_
   | refine LeO.bind ?_ (fun _ => ?_)
theorem impl_HalvesOf.mono : ∀ a0 a1 k, LeO (impl_HalvesOf.f k a0 a1) (impl_HalvesOf.f (k + 1) a0 a1) := by
 intro a0 a1 k
 have ih0 := impl_HalvesOf.mono_l k
 unfold impl_HalvesOf.f
 repeat' first
   | (with_reducible exact ih0 _ _ _ _ _)
   | (with_reducible exact impl_areWords.mono _ _ _)
   | (with_reducible exact LeO.refl _)
   | (with_reducible exact LeO.none _)
   | (with_reducible refine LeO.ite ?_ ?_)
   | (with_reducible refine LeO.bind ?_ (fun _ => ?_))
   | exact ih0 _ _ _ _ _
   | exact impl_areWords.mono _ _ _
   | exact LeO.none _
   | refine LeO.ite ?_ ?_
   | refine LeO.bind ?_ (fun _ => ?_)
set_option maxHeartbeats 8000000 in
set_option maxRecDepth 100000 in
theorem impl_HalvesOf.calls (k : Nat) (a0 : Int) (A1 : Option Addr) (c1 : Nat) (l1 : List Int) (r1 : Int) (r2 : Int) (r3 : Bool) (w : World) (hr1 : Kd.C (Kd.int .i64) w A1 l1.length l1) (hc1 : l1.length ≤ c1) (h : impl_HalvesOf.f k a0 l1 = some (r1, r2, r3)) :
  Calls Tryd.prog 64 #[.int .i64 a0, .slice A1 l1.length c1] w fun e w' => e = .returned (.tuple #[.int .i64 r1, .int .i64 r2, .bool r3]) ∧ Drawn0 w w' := by
 have HR1 := Aside0.mk hr1; have HC1 := Aside0.mk hc1; clear hr1 hc1
 have H : ((impl_areWords.f k a0 l1).bind fun t305 => (if t305 = true then (impl_HalvesOf.l0 k l1 0 l1 (l1.length : Int) 0) else (some (0, 0, false)))) = some (r1, r2, r3) := h
 clear h; replace H := Option.bind_eq_some_iff.mp H; obtain ⟨t305, A30, H⟩ := H
 replace H : (if t305 = true then (impl_HalvesOf.l0 k l1 0 l1 (l1.length : Int) 0) else (some (0, 0, false))) = some (r1, r2, r3) := H
 have A3 := Aside0.mk A30; clear A30
 by_cases c4 : t305 = true
 ·subst c4
  have H1 : (impl_HalvesOf.l0 k l1 0 l1 (l1.length : Int) 0) = some (r1, r2, r3) := by rw [if_pos rfl] at H; exact H
  clear H; have H := H1; clear H1; have H' := Aside0.mk H; clear H
  go_enter Tryd.func64, Tryd.ntmps64
  go_wp2_with (first | ((with_reducible refine gate_callee (f := 81) rfl ?_); refine goesL_ (some 12) rfl rfl Tryd.func81 (by kernel_rfl) rfl #[.int .i64 a0, .slice A1 l1.length c1] rfl (by (try simp only [List.map_toArray, List.map_cons, List.map_nil]); first | done | rfl | (simp only [List.length_drop, List.length_take]; rfl)) ?_; (with_reducible refine (impl_areWords.calls k a0 _ _ l1 true _ ?side1 ?side2 A3.out).mono ?_); (case side1 => repeat (first | exact HR1.out | (with_reducible refine Kd.C_alloc ?_ _) | (with_reducible refine Kd.C_drewN ?_ _) | (with_reducible refine Kd.C_drew ?_))); (case side2 => exact HC1.out); rintro e w' ⟨rfl, ⟨nd, rfl⟩⟩; refine ⟨_, rfl, ?_⟩))
  go_loopg [7, 16] k (fun kq v7 v16 w' => ∃ (x7_1 : Int) (x16_1 : Int), v7 = .int .i64 x7_1 ∧ v16 = .int .i64 x16_1 ∧ Aside0 (impl_HalvesOf.l0 kq l1 x7_1 l1 (l1.length : Int) x16_1 = some (r1, r2, r3)) ∧ Aside0 (kq ≤ k) ∧ Drawn0 w w')
  case atStart => exact ⟨(0), (0), (by first | rfl | (simp; done) | (simp [*]; done)), (by first | rfl | (simp; done) | (simp [*]; done)), H', ⟨Nat.le_refl _⟩, by repeat (first | exact Drawn0.refl _ | apply Drawn0.step)⟩
  case round =>
   clear H'; (try clear c1); (try clear p2); (try clear c4)
   obtain ⟨x7_1, x16_1, rfl, rfl, HA, HK1, ⟨m1, rfl⟩⟩ := hrel
   cases gk with
   | zero => exact absurd HA.out (by simp [impl_HalvesOf.l0])
   | succ k1 =>
    have H := HA.out; clear HA
    simp only [impl_HalvesOf.l0] at H
    by_cases c5 : x16_1 < (l1.length : Int)
    ·rw [if_pos c5] at H
     have c5b0 : decide (x16_1 < (l1.length : Int)) = true := decide_eq_true c5
     clear c5
     by_cases c6 : 0 ≤ x16_1
     ·rw [if_pos c6] at H
      have c6b0 : decide (0 ≤ x16_1) = true := decide_eq_true c6
      clear c6
      by_cases c7 : x16_1 < (l1.length : Int)
      ·rw [if_pos c7] at H
       have c7b0 : decide (x16_1 < (l1.length : Int)) = true := decide_eq_true c7
       clear c7; replace H := Option.bind_eq_some_iff.mp H; obtain ⟨t307, A80, H⟩ := H
       replace H : (impl_HalvesOf.l0 k1 l1 (wrap64 (x7_1 + (Int.tmod t307 2))) l1 (l1.length : Int) (wrap64 (x16_1 + 1))) = some (r1, r2, r3) := H
       have A8 := Aside0.mk A80; clear A80; have H' := Aside0.mk H; clear H
       have p306 : 0 ≤ (x16_1 : Int) := of_decide_eq_true (by first | (with_reducible assumption) | assumption)
       have q306 : x16_1 < (l1.length : Int) := of_decide_eq_true (by first | (with_reducible assumption) | assumption)
       obtain ⟨ad306, e306, hx306_0⟩ := Kd.at_int HR1.out x16_1 p306 q306
       cases e306
       replace p306 := eq_true p306; replace q306 := eq_true q306
       go_wp2_with (first | ((with_reducible refine gate_callee (f := 120) rfl ?_); refine goesL_ (some 23) rfl rfl Tryd.func120 (by kernel_rfl) rfl #[.int .u64 (IntKind.u64.wrap (rd l1 x16_1))] rfl (by (try simp only [List.map_toArray, List.map_cons, List.map_nil]); first | done | rfl | (simp only [List.length_drop, List.length_take]; rfl)) ?_; (with_reducible refine (bits_OnesCount.calls (IntKind.u64.wrap (rd l1 x16_1)) t307 _ A8.out).mono ?_); rintro e w' ⟨rfl, ⟨nd, rfl⟩⟩; refine ⟨_, rfl, ?_⟩))
       go_roundg k1
       case measure => have := HK1.out; omega
       case rel => exact ⟨(wrap64 (x7_1 + (Int.tmod t307 2))), (wrap64 (x16_1 + 1)), (by first | rfl | (simp; done) | (simp [*]; done)), (by first | rfl | (simp; done) | (simp [*]; done)), H', ⟨by have := HK1.out; omega⟩, by repeat (first | exact Drawn0.refl _ | apply Drawn0.step)⟩
      ·rw [if_neg c7] at H
       exact absurd H (by simp)
     ·rw [if_neg c6] at H
      exact absurd H (by simp)
    ·rw [if_neg c5] at H
     have c5b0 : decide (x16_1 < (l1.length : Int)) = false := decide_eq_false c5
     clear c5
     simp only [Option.some.injEq, Prod.mk.injEq] at H
     obtain ⟨rfl, rfl, rfl⟩ := H
     go_wp2
     go_ret3
     exact ⟨by first | rfl | (simp; done) | (simp [*]; done), by repeat (first | exact Drawn0.refl _ | apply Drawn0.step)⟩
 ·replace c4 := Bool.eq_false_iff.mpr c4; subst c4
  have H1 : (some (0, 0, false)) = some (r1, r2, r3) := by rw [if_neg (show ¬ (false = true) by decide)] at H; exact H
  clear H; have H := H1; clear H1
  simp only [Option.some.injEq, Prod.mk.injEq] at H
  obtain ⟨rfl, rfl, rfl⟩ := H
  go_enter Tryd.func64, Tryd.ntmps64
  go_wp2_with (first | ((with_reducible refine gate_callee (f := 81) rfl ?_); refine goesL_ (some 12) rfl rfl Tryd.func81 (by kernel_rfl) rfl #[.int .i64 a0, .slice A1 l1.length c1] rfl (by (try simp only [List.map_toArray, List.map_cons, List.map_nil]); first | done | rfl | (simp only [List.length_drop, List.length_take]; rfl)) ?_; (with_reducible refine (impl_areWords.calls k a0 _ _ l1 false _ ?side1 ?side2 A3.out).mono ?_); (case side1 => repeat (first | exact HR1.out | (with_reducible refine Kd.C_alloc ?_ _) | (with_reducible refine Kd.C_drewN ?_ _) | (with_reducible refine Kd.C_drew ?_))); (case side2 => exact HC1.out); rintro e w' ⟨rfl, ⟨nd, rfl⟩⟩; refine ⟨_, rfl, ?_⟩))
  go_ret3
  exact ⟨by first | rfl | (simp; done) | (simp [*]; done), by repeat (first | exact Drawn0.refl _ | apply Drawn0.step)⟩

/-! ### spec_HalvesOf: function 65 -/
def spec_HalvesOf.f (k : Nat) (a0 : Int) (l1 : List Int) : Option (Int × Int × Bool) := (spec_gcWords.f k a0 l1).bind fun t308 => (if t308 = true then ((spec_gcHalves.f k l1).bind fun bt309 => (some (bt309.1, bt309.2, true))) else (some (0, 0, false)))
theorem spec_HalvesOf.mono : ∀ a0 a1 k, LeO (spec_HalvesOf.f k a0 a1) (spec_HalvesOf.f (k + 1) a0 a1) := by
 intro a0 a1 k
 unfold spec_HalvesOf.f
 repeat' first
   | (with_reducible exact spec_gcHalves.mono _ _)
   | (with_reducible exact spec_gcWords.mono _ _ _)
   | (with_reducible exact LeO.refl _)
   | (with_reducible exact LeO.none _)
   | (with_reducible refine LeO.ite ?_ ?_)
   | (with_reducible refine LeO.bind ?_ (fun _ => ?_))
   | exact spec_gcHalves.mono _ _
   | exact spec_gcWords.mono _ _ _
   | exact LeO.none _
   | refine LeO.ite ?_ ?_
   | refine LeO.bind ?_ (fun _ => ?_)
set_option maxHeartbeats 8000000 in
set_option maxRecDepth 100000 in
theorem spec_HalvesOf.calls (k : Nat) (a0 : Int) (A1 : Option Addr) (c1 : Nat) (l1 : List Int) (r1 : Int) (r2 : Int) (r3 : Bool) (w : World) (hr1 : Kd.C (Kd.int .i64) w A1 l1.length l1) (hc1 : l1.length ≤ c1) (h : spec_HalvesOf.f k a0 l1 = some (r1, r2, r3)) :
  Calls Tryd.prog 65 #[.int .i64 a0, .slice A1 l1.length c1] w fun e w' => e = .returned (.tuple #[.int .i64 r1, .int .i64 r2, .bool r3]) ∧ Drawn0 w w' := by
 have HR1 := Aside0.mk hr1; have HC1 := Aside0.mk hc1; clear hr1 hc1
 have H : ((spec_gcWords.f k a0 l1).bind fun t308 => (if t308 = true then ((spec_gcHalves.f k l1).bind fun bt309 => (some (bt309.1, bt309.2, true))) else (some (0, 0, false)))) = some (r1, r2, r3) := h
 clear h; replace H := Option.bind_eq_some_iff.mp H; obtain ⟨t308, A30, H⟩ := H
 replace H : (if t308 = true then ((spec_gcHalves.f k l1).bind fun bt309 => (some (bt309.1, bt309.2, true))) else (some (0, 0, false))) = some (r1, r2, r3) := H
 have A3 := Aside0.mk A30; clear A30
 by_cases c4 : t308 = true
 ·subst c4
  have H1 : ((spec_gcHalves.f k l1).bind fun bt309 => (some (bt309.1, bt309.2, true))) = some (r1, r2, r3) := by rw [if_pos rfl] at H; exact H
  clear H; have H := H1; clear H1; replace H := Option.bind_eq_some_iff.mp H
  obtain ⟨⟨t309, t310⟩, A50, H⟩ := H
  replace H : (some (t309, t310, true)) = some (r1, r2, r3) := H
  have A5 := Aside0.mk A50; clear A50
  simp only [Option.some.injEq, Prod.mk.injEq] at H
  obtain ⟨rfl, rfl, rfl⟩ := H
  go_enter Tryd.func65, Tryd.ntmps65
  go_wp2_with (first | ((with_reducible refine gate_callee (f := 79) rfl ?_); refine goesL_ (some 11) rfl rfl Tryd.func79 (by kernel_rfl) rfl #[.int .i64 a0, .slice A1 l1.length c1] rfl (by (try simp only [List.map_toArray, List.map_cons, List.map_nil]); first | done | rfl | (simp only [List.length_drop, List.length_take]; rfl)) ?_; (with_reducible refine (spec_gcWords.calls k a0 _ _ l1 true _ ?side1 ?side2 A3.out).mono ?_); (case side1 => repeat (first | exact HR1.out | (with_reducible refine Kd.C_alloc ?_ _) | (with_reducible refine Kd.C_drewN ?_ _) | (with_reducible refine Kd.C_drew ?_))); (case side2 => exact HC1.out); rintro e w' ⟨rfl, ⟨nd, rfl⟩⟩; refine ⟨_, rfl, ?_⟩) | ((with_reducible refine gate_callee (f := 95) rfl ?_); refine goesL_ (some 15) rfl rfl Tryd.func95 (by kernel_rfl) rfl #[.slice A1 l1.length c1] rfl (by (try simp only [List.map_toArray, List.map_cons, List.map_nil]); first | done | rfl | (simp only [List.length_drop, List.length_take]; rfl)) ?_; (with_reducible refine (spec_gcHalves.calls k _ _ l1 t309 t310 _ ?side1 ?side2 A5.out).mono ?_); (case side1 => repeat (first | exact HR1.out | (with_reducible refine Kd.C_alloc ?_ _) | (with_reducible refine Kd.C_drewN ?_ _) | (with_reducible refine Kd.C_drew ?_))); (case side2 => exact HC1.out); rintro e w' ⟨rfl, ⟨nd, rfl⟩⟩; refine ⟨_, rfl, ?_⟩))
  go_ret3
  exact ⟨by first | rfl | (simp; done) | (simp [*]; done), by repeat (first | exact Drawn0.refl _ | apply Drawn0.step)⟩
 ·replace c4 := Bool.eq_false_iff.mpr c4; subst c4
  have H1 : (some (0, 0, false)) = some (r1, r2, r3) := by rw [if_neg (show ¬ (false = true) by decide)] at H; exact H
  clear H; have H := H1; clear H1
  simp only [Option.some.injEq, Prod.mk.injEq] at H
  obtain ⟨rfl, rfl, rfl⟩ := H
  go_enter Tryd.func65, Tryd.ntmps65
  go_wp2_with (first | ((with_reducible refine gate_callee (f := 79) rfl ?_); refine goesL_ (some 11) rfl rfl Tryd.func79 (by kernel_rfl) rfl #[.int .i64 a0, .slice A1 l1.length c1] rfl (by (try simp only [List.map_toArray, List.map_cons, List.map_nil]); first | done | rfl | (simp only [List.length_drop, List.length_take]; rfl)) ?_; (with_reducible refine (spec_gcWords.calls k a0 _ _ l1 false _ ?side1 ?side2 A3.out).mono ?_); (case side1 => repeat (first | exact HR1.out | (with_reducible refine Kd.C_alloc ?_ _) | (with_reducible refine Kd.C_drewN ?_ _) | (with_reducible refine Kd.C_drew ?_))); (case side2 => exact HC1.out); rintro e w' ⟨rfl, ⟨nd, rfl⟩⟩; refine ⟨_, rfl, ?_⟩))
  go_ret3
  exact ⟨by first | rfl | (simp; done) | (simp [*]; done), by repeat (first | exact Drawn0.refl _ | apply Drawn0.step)⟩

end Go.Proofs.YtnhifbopicjicaaDoor.PFnPathsThroughWords
