/- What the law's functions compute, and that the calls come to just that: turned from a printed text. No condition. -/
import Derived.Test.YtnhifbopicjicaaDoorQFnPathsThroughWordsx0
import Derived.Test.YtnhifbopicjicaaDoorQFnPathsThroughWordsx1
import Derived.Test.YtnhifbopicjicaaDoorQFnPathsThroughWordsx3
import Derived.Test.YtnhifbopicjicaaDoorQFnPathsThroughWordsx5
import Derived.Test.YtnhifbopicjicaaDoorQFnPathsThroughWordsx6
import Derived.Test.YtnhifbopicjicaaDoorQFnPathsThroughWordsx7
namespace Go.Proofs.YtnhifbopicjicaaDoor.PFnPathsThroughWords
open Go.RowKit Go.Proofs.YtnhifbopicjicaaDoorW.PrintWords Go.Proofs.YtnhifbopicjicaaDoorW.PrintLast Go.Proofs.YtnhifbopicjicaaDoorW.PrintMore
attribute [local go_sem] max2_int min2_int max_two min_two max_three min_three max_four min_four   -- for this text's walks alone
set_option linter.unusedVariables false
set_option linter.unusedSimpArgs false

/-! ### laws_FnPathsThroughWords: function 16 -/
mutual
def laws_FnPathsThroughWords.j0 : Nat → Int → List Int → List Int → Bool → Int → Int → Bool → Option (Bool)
 | 0, _, _, _, _, _, _, _ => none
 | k + 1, x5, x6, x7, x8, x11, x12, x85 => if x85 = true then (some false) else (if x8 = true then (if (wrap64 (x11 + x12)) = (x6.length : Int) then (if (wrap64 (x11 - x12)) > 1 then (laws_FnPathsThroughWords.j1 k x5 x6 x7 true) else (if (wrap64 (x12 - x11)) > 1 then (laws_FnPathsThroughWords.j1 k x5 x6 x7 true) else (laws_FnPathsThroughWords.j1 k x5 x6 x7 ((x7.length : Int) != (x6.length : Int))))) else (laws_FnPathsThroughWords.j1 k x5 x6 x7 true)) else (some true))
def laws_FnPathsThroughWords.j1 : Nat → Int → List Int → List Int → Bool → Option (Bool)
 | 0, _, _, _, _ => none
 | k + 1, x5, x6, x7, x112 => if x112 = true then (some false) else (laws_FnPathsThroughWords.l0 k x5 x7 x6 (x6.length : Int) 0)
def laws_FnPathsThroughWords.l0 : Nat → Int → List Int → List Int → Int → Int → Option (Bool)
 | 0, _, _, _, _, _ => none
 | k + 1, x5, x7, x113, x114, x115 => if x115 < x114 then (if 0 ≤ x115 then (if x115 < (x113.length : Int) then ((laws_uHas.f k x7 (rd x113 x115)).bind fun t332 => (if t332 = true then (laws_FnPathsThroughWords.l0 k x5 x7 x113 x114 (wrap64 (x115 + 1))) else (some false))) else (none)) else (none)) else ((impl_DeltasOf.f k x5 x7).bind fun bt333 => (some bt333.2))
end
def laws_FnPathsThroughWords.f (k : Nat) (l0 : List Int) (l1 : List Int) : Option (Bool) := (laws_big.f l0 l1).bind fun t311 => (if t311 = true then (some true) else ((spec_DrawPathThrough.f k l0).bind fun bt312 => ((impl_PathThrough.f k bt312.1 bt312.2).bind fun bt316 => ((spec_PathThrough.f k bt312.1 bt312.2).bind fun bt320 => ((impl_HalvesOf.f k bt312.1 bt312.2).bind fun bt324 => ((spec_HalvesOf.f k bt312.1 bt312.2).bind fun bt327 => (if (bt316.2 != bt320.2) = true then (laws_FnPathsThroughWords.j0 k bt312.1 bt312.2 bt316.1 bt316.2 bt324.1 bt324.2.1 true) else ((laws_uSame.f k bt316.1 bt320.1).bind fun t330 => (if t330 = true then (if (bt324.2.2 != bt327.2.2) = true then (laws_FnPathsThroughWords.j0 k bt312.1 bt312.2 bt316.1 bt316.2 bt324.1 bt324.2.1 true) else (if bt324.1 = bt327.1 then (if bt324.2.1 = bt327.2.1 then (if bt316.2 = true then (laws_FnPathsThroughWords.j0 k bt312.1 bt312.2 bt316.1 bt316.2 bt324.1 bt324.2.1 (!bt324.2.2)) else (laws_FnPathsThroughWords.j0 k bt312.1 bt312.2 bt316.1 bt316.2 bt324.1 bt324.2.1 false)) else (laws_FnPathsThroughWords.j0 k bt312.1 bt312.2 bt316.1 bt316.2 bt324.1 bt324.2.1 true)) else (laws_FnPathsThroughWords.j0 k bt312.1 bt312.2 bt316.1 bt316.2 bt324.1 bt324.2.1 true))) else (laws_FnPathsThroughWords.j0 k bt312.1 bt312.2 bt316.1 bt316.2 bt324.1 bt324.2.1 true))))))))))
theorem laws_FnPathsThroughWords.mono_l : ∀ k, (∀ y0 y1 y2 y3 y4 y5 y6, LeO (laws_FnPathsThroughWords.j0 k y0 y1 y2 y3 y4 y5 y6) (laws_FnPathsThroughWords.j0 (k + 1) y0 y1 y2 y3 y4 y5 y6)) ∧ (∀ y0 y1 y2 y3, LeO (laws_FnPathsThroughWords.j1 k y0 y1 y2 y3) (laws_FnPathsThroughWords.j1 (k + 1) y0 y1 y2 y3)) ∧ (∀ y0 y1 y2 y3 y4, LeO (laws_FnPathsThroughWords.l0 k y0 y1 y2 y3 y4) (laws_FnPathsThroughWords.l0 (k + 1) y0 y1 y2 y3 y4))
 | 0 => ⟨fun _ _ _ _ _ _ _ r h => by simp [laws_FnPathsThroughWords.j0] at h, fun _ _ _ _ r h => by simp [laws_FnPathsThroughWords.j1] at h, fun _ _ _ _ _ r h => by simp [laws_FnPathsThroughWords.l0] at h⟩
 | k + 1 => by
  obtain ⟨ih0, ih1, ih2⟩ := laws_FnPathsThroughWords.mono_l k
  refine ⟨?_, ?_, ?_⟩
  ·intro y0 y1 y2 y3 y4 y5 y6
   unfold laws_FnPathsThroughWords.j0
   repeat' first
   | (with_reducible exact ih0 _ _ _ _ _ _ _)
   | (with_reducible exact ih1 _ _ _ _)
   | (with_reducible exact ih2 _ _ _ _ _)
   | (with_reducible exact impl_DeltasOf.mono _ _ _)
   | (with_reducible exact impl_HalvesOf.mono _ _ _)
   | (with_reducible exact impl_PathThrough.mono _ _ _)
   | (with_reducible exact laws_uHas.mono _ _ _)
   | (with_reducible exact laws_uSame.mono _ _ _)
   | (with_reducible exact spec_DrawPathThrough.mono _ _)
   | (with_reducible exact spec_HalvesOf.mono _ _ _)
   | (with_reducible exact spec_PathThrough.mono _ _ _)
   | (with_reducible exact LeO.refl _)
   | (with_reducible exact LeO.none _)
   | (with_reducible refine LeO.ite ?_ ?_)
   | (with_reducible refine LeO.bind ?_ (fun _ => ?_))
   | exact ih0 _ _ _ _ _ _ _
   | exact ih1 _ _ _ _
   | exact ih2 _ _ _ _ _
   | exact impl_DeltasOf.mono _ _ _
   | exact impl_HalvesOf.mono _ _ _
   | exact impl_PathThrough.mono _ _ _
   | exact laws_uHas.mono _ _ _
   | exact laws_uSame.mono _ _ _
   | exact spec_DrawPathThrough.mono _ _
   | exact spec_HalvesOf.mono _ _ _
   | exact spec_PathThrough.mono _ _ _
   | exact LeO.none _
   | refine LeO.ite ?_ ?_
   | refine LeO.bind ?_ (fun _ => ?_)
  ·intro y0 y1 y2 y3
   unfold laws_FnPathsThroughWords.j1
   repeat' first
   | (with_reducible exact ih0 _ _ _ _ _ _ _)
   | (with_reducible exact ih1 _ _ _ _)
   | (with_reducible exact ih2 _ _ _ _ _)
   | (with_reducible exact impl_DeltasOf.mono _ _ _)
   | (with_reducible exact impl_HalvesOf.mono _ _ _)
   | (with_reducible exact impl_PathThrough.mono _ _ _)
   | (with_reducible exact laws_uHas.mono _ _ _)
   | (with_reducible exact laws_uSame.mono _ _ _)
   | (with_reducible exact spec_DrawPathThrough.mono _ _)
   | (with_reducible exact spec_HalvesOf.mono _ _ _)
   | (with_reducible exact spec_PathThrough.mono _ _ _)
   | (with_reducible exact LeO.refl _)
   | (with_reducible exact LeO.none _)
   | (with_reducible refine LeO.ite ?_ ?_)
   | (with_reducible refine LeO.bind ?_ (fun _ => ?_))
   | exact ih0 _ _ _ _ _ _ _
   | exact ih1 _ _ _ _
   | exact ih2 _ _ _ _ _
   | exact impl_DeltasOf.mono _ _ _
   | exact impl_HalvesOf.mono _ _ _
   | exact impl_PathThrough.mono _ _ _
   | exact laws_uHas.mono _ _ _
   | exact laws_uSame.mono _ _ _
   | exact spec_DrawPathThrough.mono _ _
   | exact spec_HalvesOf.mono _ _ _
   | exact spec_PathThrough.mono _ _ _
   | exact LeO.none _
   | refine LeO.ite ?_ ?_
   | refine LeO.bind ?_ (fun _ => ?_)
  ·intro y0 y1 y2 y3 y4
   unfold laws_FnPathsThroughWords.l0
   repeat' first
   | (with_reducible exact ih0 _ _ _ _ _ _ _)
   | (with_reducible exact ih1 _ _ _ _)
   | (with_reducible exact ih2 _ _ _ _ _)
   | (with_reducible exact impl_DeltasOf.mono _ _ _)
   | (with_reducible exact impl_HalvesOf.mono _ _ _)
   | (with_reducible exact impl_PathThrough.mono _ _ _)
   | (with_reducible exact laws_uHas.mono _ _ _)
   | (with_reducible exact laws_uSame.mono _ _ _)
   | (with_reducible exact spec_DrawPathThrough.mono _ _)
   | (with_reducible exact spec_HalvesOf.mono _ _ _)
   | (with_reducible exact spec_PathThrough.mono _ _ _)
   | (with_reducible exact LeO.refl _)
   | (with_reducible exact LeO.none _)
   | (with_reducible refine LeO.ite ?_ ?_)
   | (with_reducible refine LeO.bind ?_ (fun _ => ?_))
   | exact ih0 _ _ _ _ _ _ _
   | exact ih1 _ _ _ _
   | exact ih2 _ _ _ _ _
   | exact impl_DeltasOf.mono _ _ _
   | exact impl_HalvesOf.mono _ _ _
   | exact impl_PathThrough.mono _ _ _
   | exact laws_uHas.mono _ _ _
   | exact laws_uSame.mono _ _ _
   | exact spec_DrawPathThrough.mono _ _
   | exact spec_HalvesOf.mono _ _ _
   | exact spec_PathThrough.mono _ _ _
   | exact LeO.none _
   | refine LeO.ite ?_ ?_
   | refine LeO.bind ?_ (fun _ => ?_)
theorem laws_FnPathsThroughWords.mono : ∀ a0 a1 k, LeO (laws_FnPathsThroughWords.f k a0 a1) (laws_FnPathsThroughWords.f (k + 1) a0 a1) := by
 intro a0 a1 k
 obtain ⟨ih0, ih1, ih2⟩ := laws_FnPathsThroughWords.mono_l k
 unfold laws_FnPathsThroughWords.f
 repeat' first
   | (with_reducible exact ih0 _ _ _ _ _ _ _)
   | (with_reducible exact ih1 _ _ _ _)
   | (with_reducible exact ih2 _ _ _ _ _)
   | (with_reducible exact impl_DeltasOf.mono _ _ _)
   | (with_reducible exact impl_HalvesOf.mono _ _ _)
   | (with_reducible exact impl_PathThrough.mono _ _ _)
   | (with_reducible exact laws_uHas.mono _ _ _)
   | (with_reducible exact laws_uSame.mono _ _ _)
   | (with_reducible exact spec_DrawPathThrough.mono _ _)
   | (with_reducible exact spec_HalvesOf.mono _ _ _)
   | (with_reducible exact spec_PathThrough.mono _ _ _)
   | (with_reducible exact LeO.refl _)
   | (with_reducible exact LeO.none _)
   | (with_reducible refine LeO.ite ?_ ?_)
   | (with_reducible refine LeO.bind ?_ (fun _ => ?_))
   | exact ih0 _ _ _ _ _ _ _
   | exact ih1 _ _ _ _
   | exact ih2 _ _ _ _ _
   | exact impl_DeltasOf.mono _ _ _
   | exact impl_HalvesOf.mono _ _ _
   | exact impl_PathThrough.mono _ _ _
   | exact laws_uHas.mono _ _ _
   | exact laws_uSame.mono _ _ _
   | exact spec_DrawPathThrough.mono _ _
   | exact spec_HalvesOf.mono _ _ _
   | exact spec_PathThrough.mono _ _ _
   | exact LeO.none _
   | refine LeO.ite ?_ ?_
   | refine LeO.bind ?_ (fun _ => ?_)
set_option maxHeartbeats 8000000 in
set_option maxRecDepth 100000 in
theorem laws_FnPathsThroughWords.calls (k : Nat) (A0 : Option Addr) (c0 : Nat) (l0 : List Int) (A1 : Option Addr) (c1 : Nat) (l1 : List Int) (r : Bool) (w : World) (hr0 : Kd.C (Kd.int .u8) w A0 l0.length l0) (hc0 : l0.length ≤ c0) (hr1 : Kd.C (Kd.int .u8) w A1 l1.length l1) (hc1 : l1.length ≤ c1) (h : laws_FnPathsThroughWords.f k l0 l1 = some r) (hT_ : Tab_ w) :
  Calls Tryd.prog 16 #[.slice A0 l0.length c0, .slice A1 l1.length c1] w fun e w' => e = .returned (.bool r) ∧ Below w.heap.size w w' := by
 have HTab_ := Aside0.mk hT_; clear hT_; have HR0 := Aside0.mk hr0; have HC0 := Aside0.mk hc0; clear hr0 hc0; have HR1 := Aside0.mk hr1; have HC1 := Aside0.mk hc1; clear hr1 hc1
 have HB := Aside0.mk (Below.refl w.heap.size w)
 have H : ((laws_big.f l0 l1).bind fun t311 => (if t311 = true then (some true) else ((spec_DrawPathThrough.f k l0).bind fun bt312 => ((impl_PathThrough.f k bt312.1 bt312.2).bind fun bt316 => ((spec_PathThrough.f k bt312.1 bt312.2).bind fun bt320 => ((impl_HalvesOf.f k bt312.1 bt312.2).bind fun bt324 => ((spec_HalvesOf.f k bt312.1 bt312.2).bind fun bt327 => (if (bt316.2 != bt320.2) = true then (laws_FnPathsThroughWords.j0 k bt312.1 bt312.2 bt316.1 bt316.2 bt324.1 bt324.2.1 true) else ((laws_uSame.f k bt316.1 bt320.1).bind fun t330 => (if t330 = true then (if (bt324.2.2 != bt327.2.2) = true then (laws_FnPathsThroughWords.j0 k bt312.1 bt312.2 bt316.1 bt316.2 bt324.1 bt324.2.1 true) else (if bt324.1 = bt327.1 then (if bt324.2.1 = bt327.2.1 then (if bt316.2 = true then (laws_FnPathsThroughWords.j0 k bt312.1 bt312.2 bt316.1 bt316.2 bt324.1 bt324.2.1 (!bt324.2.2)) else (laws_FnPathsThroughWords.j0 k bt312.1 bt312.2 bt316.1 bt316.2 bt324.1 bt324.2.1 false)) else (laws_FnPathsThroughWords.j0 k bt312.1 bt312.2 bt316.1 bt316.2 bt324.1 bt324.2.1 true)) else (laws_FnPathsThroughWords.j0 k bt312.1 bt312.2 bt316.1 bt316.2 bt324.1 bt324.2.1 true))) else (laws_FnPathsThroughWords.j0 k bt312.1 bt312.2 bt316.1 bt316.2 bt324.1 bt324.2.1 true))))))))))) = some r := h
 clear h; replace H := Option.bind_eq_some_iff.mp H; obtain ⟨t311, A30, H⟩ := H
 replace H : (if t311 = true then (some true) else ((spec_DrawPathThrough.f k l0).bind fun bt312 => ((impl_PathThrough.f k bt312.1 bt312.2).bind fun bt316 => ((spec_PathThrough.f k bt312.1 bt312.2).bind fun bt320 => ((impl_HalvesOf.f k bt312.1 bt312.2).bind fun bt324 => ((spec_HalvesOf.f k bt312.1 bt312.2).bind fun bt327 => (if (bt316.2 != bt320.2) = true then (laws_FnPathsThroughWords.j0 k bt312.1 bt312.2 bt316.1 bt316.2 bt324.1 bt324.2.1 true) else ((laws_uSame.f k bt316.1 bt320.1).bind fun t330 => (if t330 = true then (if (bt324.2.2 != bt327.2.2) = true then (laws_FnPathsThroughWords.j0 k bt312.1 bt312.2 bt316.1 bt316.2 bt324.1 bt324.2.1 true) else (if bt324.1 = bt327.1 then (if bt324.2.1 = bt327.2.1 then (if bt316.2 = true then (laws_FnPathsThroughWords.j0 k bt312.1 bt312.2 bt316.1 bt316.2 bt324.1 bt324.2.1 (!bt324.2.2)) else (laws_FnPathsThroughWords.j0 k bt312.1 bt312.2 bt316.1 bt316.2 bt324.1 bt324.2.1 false)) else (laws_FnPathsThroughWords.j0 k bt312.1 bt312.2 bt316.1 bt316.2 bt324.1 bt324.2.1 true)) else (laws_FnPathsThroughWords.j0 k bt312.1 bt312.2 bt316.1 bt316.2 bt324.1 bt324.2.1 true))) else (laws_FnPathsThroughWords.j0 k bt312.1 bt312.2 bt316.1 bt316.2 bt324.1 bt324.2.1 true)))))))))) = some r := H
 have A3 := Aside0.mk A30; clear A30
 by_cases c4 : t311 = true
 ·subst c4
  have H1 : (some true) = some r := by rw [if_pos rfl] at H; exact H
  clear H; have H := H1; clear H1
  obtain rfl := Option.some.inj H
  go_enter Tryd.func16, Tryd.ntmps16
  go_wp2_with (first | ((with_reducible refine gate_callee (f := 39) rfl ?_); refine goesL_ (some 23) rfl rfl Tryd.func39 (by kernel_rfl) rfl #[.slice A0 l0.length c0, .slice A1 l1.length c1] rfl (by (try simp only [List.map_toArray, List.map_cons, List.map_nil]); first | done | rfl | (simp only [List.length_drop, List.length_take]; rfl)) ?_; (with_reducible refine (laws_big.calls _ _ l0 _ _ l1 true _ ?side1 ?side2 ?side3 ?side4 A3.out).mono ?_); (case side1 => repeat (first | exact HR0.out | (with_reducible refine Kd.C_alloc ?_ _) | (with_reducible refine Kd.C_drewN ?_ _) | (with_reducible refine Kd.C_drew ?_))); (case side2 => exact HC0.out); (case side3 => repeat (first | exact HR1.out | (with_reducible refine Kd.C_alloc ?_ _) | (with_reducible refine Kd.C_drewN ?_ _) | (with_reducible refine Kd.C_drew ?_))); (case side4 => exact HC1.out); rintro e w' ⟨rfl, ⟨nd, rfl⟩⟩; refine ⟨_, rfl, ?_⟩))
  go_ret
  exact ⟨by first | rfl | (simp [errW_none, errW_some] <;> rfl) | (simp [*, errW_none, errW_some] <;> rfl), by repeat (first | (with_reducible first | exact HB.out | apply below_alloc | apply pw_below_drewN | apply below_drew1) | exact HB.out | exact Below.refl _ _)⟩
 ·replace c4 := Bool.eq_false_iff.mpr c4; subst c4
  have H1 : ((spec_DrawPathThrough.f k l0).bind fun bt312 => ((impl_PathThrough.f k bt312.1 bt312.2).bind fun bt316 => ((spec_PathThrough.f k bt312.1 bt312.2).bind fun bt320 => ((impl_HalvesOf.f k bt312.1 bt312.2).bind fun bt324 => ((spec_HalvesOf.f k bt312.1 bt312.2).bind fun bt327 => (if (bt316.2 != bt320.2) = true then (laws_FnPathsThroughWords.j0 k bt312.1 bt312.2 bt316.1 bt316.2 bt324.1 bt324.2.1 true) else ((laws_uSame.f k bt316.1 bt320.1).bind fun t330 => (if t330 = true then (if (bt324.2.2 != bt327.2.2) = true then (laws_FnPathsThroughWords.j0 k bt312.1 bt312.2 bt316.1 bt316.2 bt324.1 bt324.2.1 true) else (if bt324.1 = bt327.1 then (if bt324.2.1 = bt327.2.1 then (if bt316.2 = true then (laws_FnPathsThroughWords.j0 k bt312.1 bt312.2 bt316.1 bt316.2 bt324.1 bt324.2.1 (!bt324.2.2)) else (laws_FnPathsThroughWords.j0 k bt312.1 bt312.2 bt316.1 bt316.2 bt324.1 bt324.2.1 false)) else (laws_FnPathsThroughWords.j0 k bt312.1 bt312.2 bt316.1 bt316.2 bt324.1 bt324.2.1 true)) else (laws_FnPathsThroughWords.j0 k bt312.1 bt312.2 bt316.1 bt316.2 bt324.1 bt324.2.1 true))) else (laws_FnPathsThroughWords.j0 k bt312.1 bt312.2 bt316.1 bt316.2 bt324.1 bt324.2.1 true))))))))) = some r := by rw [if_neg (show ¬ (false = true) by decide)] at H; exact H
  clear H; have H := H1; clear H1; replace H := Option.bind_eq_some_iff.mp H
  obtain ⟨⟨t312, t313⟩, A50, H⟩ := H
  replace H : ((impl_PathThrough.f k t312 t313).bind fun bt316 => ((spec_PathThrough.f k t312 t313).bind fun bt320 => ((impl_HalvesOf.f k t312 t313).bind fun bt324 => ((spec_HalvesOf.f k t312 t313).bind fun bt327 => (if (bt316.2 != bt320.2) = true then (laws_FnPathsThroughWords.j0 k t312 t313 bt316.1 bt316.2 bt324.1 bt324.2.1 true) else ((laws_uSame.f k bt316.1 bt320.1).bind fun t330 => (if t330 = true then (if (bt324.2.2 != bt327.2.2) = true then (laws_FnPathsThroughWords.j0 k t312 t313 bt316.1 bt316.2 bt324.1 bt324.2.1 true) else (if bt324.1 = bt327.1 then (if bt324.2.1 = bt327.2.1 then (if bt316.2 = true then (laws_FnPathsThroughWords.j0 k t312 t313 bt316.1 bt316.2 bt324.1 bt324.2.1 (!bt324.2.2)) else (laws_FnPathsThroughWords.j0 k t312 t313 bt316.1 bt316.2 bt324.1 bt324.2.1 false)) else (laws_FnPathsThroughWords.j0 k t312 t313 bt316.1 bt316.2 bt324.1 bt324.2.1 true)) else (laws_FnPathsThroughWords.j0 k t312 t313 bt316.1 bt316.2 bt324.1 bt324.2.1 true))) else (laws_FnPathsThroughWords.j0 k t312 t313 bt316.1 bt316.2 bt324.1 bt324.2.1 true)))))))) = some r := H
  have A5 := Aside0.mk A50; clear A50; replace H := Option.bind_eq_some_iff.mp H
  obtain ⟨⟨t316, t317⟩, A60, H⟩ := H
  replace H : ((spec_PathThrough.f k t312 t313).bind fun bt320 => ((impl_HalvesOf.f k t312 t313).bind fun bt324 => ((spec_HalvesOf.f k t312 t313).bind fun bt327 => (if (t317 != bt320.2) = true then (laws_FnPathsThroughWords.j0 k t312 t313 t316 t317 bt324.1 bt324.2.1 true) else ((laws_uSame.f k t316 bt320.1).bind fun t330 => (if t330 = true then (if (bt324.2.2 != bt327.2.2) = true then (laws_FnPathsThroughWords.j0 k t312 t313 t316 t317 bt324.1 bt324.2.1 true) else (if bt324.1 = bt327.1 then (if bt324.2.1 = bt327.2.1 then (if t317 = true then (laws_FnPathsThroughWords.j0 k t312 t313 t316 t317 bt324.1 bt324.2.1 (!bt324.2.2)) else (laws_FnPathsThroughWords.j0 k t312 t313 t316 t317 bt324.1 bt324.2.1 false)) else (laws_FnPathsThroughWords.j0 k t312 t313 t316 t317 bt324.1 bt324.2.1 true)) else (laws_FnPathsThroughWords.j0 k t312 t313 t316 t317 bt324.1 bt324.2.1 true))) else (laws_FnPathsThroughWords.j0 k t312 t313 t316 t317 bt324.1 bt324.2.1 true))))))) = some r := H
  have A6 := Aside0.mk A60; clear A60; replace H := Option.bind_eq_some_iff.mp H
  obtain ⟨⟨t320, t321⟩, A70, H⟩ := H
  replace H : ((impl_HalvesOf.f k t312 t313).bind fun bt324 => ((spec_HalvesOf.f k t312 t313).bind fun bt327 => (if (t317 != t321) = true then (laws_FnPathsThroughWords.j0 k t312 t313 t316 t317 bt324.1 bt324.2.1 true) else ((laws_uSame.f k t316 t320).bind fun t330 => (if t330 = true then (if (bt324.2.2 != bt327.2.2) = true then (laws_FnPathsThroughWords.j0 k t312 t313 t316 t317 bt324.1 bt324.2.1 true) else (if bt324.1 = bt327.1 then (if bt324.2.1 = bt327.2.1 then (if t317 = true then (laws_FnPathsThroughWords.j0 k t312 t313 t316 t317 bt324.1 bt324.2.1 (!bt324.2.2)) else (laws_FnPathsThroughWords.j0 k t312 t313 t316 t317 bt324.1 bt324.2.1 false)) else (laws_FnPathsThroughWords.j0 k t312 t313 t316 t317 bt324.1 bt324.2.1 true)) else (laws_FnPathsThroughWords.j0 k t312 t313 t316 t317 bt324.1 bt324.2.1 true))) else (laws_FnPathsThroughWords.j0 k t312 t313 t316 t317 bt324.1 bt324.2.1 true)))))) = some r := H
  have A7 := Aside0.mk A70; clear A70; replace H := Option.bind_eq_some_iff.mp H
  obtain ⟨⟨t324, t325, t326⟩, A80, H⟩ := H
  replace H : ((spec_HalvesOf.f k t312 t313).bind fun bt327 => (if (t317 != t321) = true then (laws_FnPathsThroughWords.j0 k t312 t313 t316 t317 t324 t325 true) else ((laws_uSame.f k t316 t320).bind fun t330 => (if t330 = true then (if (t326 != bt327.2.2) = true then (laws_FnPathsThroughWords.j0 k t312 t313 t316 t317 t324 t325 true) else (if t324 = bt327.1 then (if t325 = bt327.2.1 then (if t317 = true then (laws_FnPathsThroughWords.j0 k t312 t313 t316 t317 t324 t325 (!t326)) else (laws_FnPathsThroughWords.j0 k t312 t313 t316 t317 t324 t325 false)) else (laws_FnPathsThroughWords.j0 k t312 t313 t316 t317 t324 t325 true)) else (laws_FnPathsThroughWords.j0 k t312 t313 t316 t317 t324 t325 true))) else (laws_FnPathsThroughWords.j0 k t312 t313 t316 t317 t324 t325 true))))) = some r := H
  have A8 := Aside0.mk A80; clear A80; replace H := Option.bind_eq_some_iff.mp H
  obtain ⟨⟨t327, t328, t329⟩, A90, H⟩ := H
  replace H : (if (t317 != t321) = true then (laws_FnPathsThroughWords.j0 k t312 t313 t316 t317 t324 t325 true) else ((laws_uSame.f k t316 t320).bind fun t330 => (if t330 = true then (if (t326 != t329) = true then (laws_FnPathsThroughWords.j0 k t312 t313 t316 t317 t324 t325 true) else (if t324 = t327 then (if t325 = t328 then (if t317 = true then (laws_FnPathsThroughWords.j0 k t312 t313 t316 t317 t324 t325 (!t326)) else (laws_FnPathsThroughWords.j0 k t312 t313 t316 t317 t324 t325 false)) else (laws_FnPathsThroughWords.j0 k t312 t313 t316 t317 t324 t325 true)) else (laws_FnPathsThroughWords.j0 k t312 t313 t316 t317 t324 t325 true))) else (laws_FnPathsThroughWords.j0 k t312 t313 t316 t317 t324 t325 true)))) = some r := H
  have A9 := Aside0.mk A90; clear A90; have HC10 := Aside0.mk H; clear H
  go_enter Tryd.func16, Tryd.ntmps16
  go_upto_region 8 with (first | ((with_reducible refine gate_callee (f := 39) rfl ?_); refine goesL_ (some 23) rfl rfl Tryd.func39 (by kernel_rfl) rfl #[.slice A0 l0.length c0, .slice A1 l1.length c1] rfl (by (try simp only [List.map_toArray, List.map_cons, List.map_nil]); first | done | rfl | (simp only [List.length_drop, List.length_take]; rfl)) ?_; (with_reducible refine (laws_big.calls _ _ l0 _ _ l1 false _ ?side1 ?side2 ?side3 ?side4 A3.out).mono ?_); (case side1 => repeat (first | exact HR0.out | (with_reducible refine Kd.C_alloc ?_ _) | (with_reducible refine Kd.C_drewN ?_ _) | (with_reducible refine Kd.C_drew ?_))); (case side2 => exact HC0.out); (case side3 => repeat (first | exact HR1.out | (with_reducible refine Kd.C_alloc ?_ _) | (with_reducible refine Kd.C_drewN ?_ _) | (with_reducible refine Kd.C_drew ?_))); (case side4 => exact HC1.out); rintro e w' ⟨rfl, ⟨nd, rfl⟩⟩; refine ⟨_, rfl, ?_⟩) | ((with_reducible refine gate_callee (f := 63) rfl ?_); refine goesL_ (some 26) rfl rfl Tryd.func63 (by kernel_rfl) rfl #[.slice A0 l0.length c0] rfl (by (try simp only [List.map_toArray, List.map_cons, List.map_nil]); first | done | rfl | (simp only [List.length_drop, List.length_take]; rfl)) ?_; (with_reducible refine (spec_DrawPathThrough.calls k _ _ l0 t312 t313 _ ?side1 ?side2 A5.out).mono ?_); (case side1 => repeat (first | exact HR0.out | (with_reducible refine Kd.C_alloc ?_ _) | (with_reducible refine Kd.C_drewN ?_ _) | (with_reducible refine Kd.C_drew ?_))); (case side2 => exact HC0.out); rintro e w11 ⟨v314, rfl, ho0, hb⟩; refine ⟨_, rfl, ?_⟩; have n0_ := Aside0.mk (Kd.R_lower ho0 (below_size (by repeat (first | (with_reducible first | exact HB.out | apply below_alloc | apply pw_below_drewN | apply below_drew1) | exact HB.out | exact Below.refl _ _)))); have n1_ := Aside0.mk (below_step (by repeat (first | (with_reducible first | exact HB.out | apply below_alloc | apply pw_below_drewN | apply below_drew1) | exact HB.out | exact Below.refl _ _)) hb); clear HB; have HO315 := n0_; have HB := n1_; clear n0_ n1_; (try clear hb); (try clear hb2); (try clear hk); (try clear hi); (try clear ho0); obtain ⟨Ao12, co12, eo12⟩ := Kd.R_slice HO315.out; subst eo12) | ((with_reducible refine gate_callee (f := 38) rfl ?_); refine goesL_ (some 32) rfl rfl Tryd.func38 (by kernel_rfl) rfl #[.int .i64 t312, .slice Ao12 t313.length co12] rfl (by (try simp only [List.map_toArray, List.map_cons, List.map_nil]); first | done | rfl | (simp only [List.length_drop, List.length_take]; rfl)) ?_; (with_reducible refine (impl_PathThrough.calls k t312 _ _ t313 t316 t317 _ ?side1 ?side2 A6.out ?tab_).mono ?_); (case tab_ => first | exact HTab_.out | ((repeat (first | exact HTab_.out | (with_reducible refine Tab_.drewN ?_ _) | (with_reducible refine Tab_.drew ?_) | (with_reducible refine Tab_.alloc ?_ _))); done) | (refine Tab_.below HTab_.out ?_; (repeat (first | (with_reducible first | exact HB.out | apply below_alloc | apply pw_below_drewN | apply below_drew1) | exact HB.out | exact Below.refl _ _)); done)); (case side1 => repeat (first | exact (Kd.R_reads' HO315.out).2.2 | (with_reducible refine Kd.C_alloc ?_ _) | (with_reducible refine Kd.C_drewN ?_ _) | (with_reducible refine Kd.C_drew ?_))); (case side2 => exact (Kd.R_reads' HO315.out).2.1); rintro e w13 ⟨v318, rfl, ho0, hb⟩; refine ⟨_, rfl, ?_⟩; have n0_ := Aside0.mk (Kd.R_elder' (by (with_reducible repeat (first | apply Kd.R_alloc | apply Kd.R_drewN | apply Kd.R_drew)); exact HO315.out) (Kd.R_base ho0) hb); have n1_ := Aside0.mk (Kd.R_lower (Kd.R_new' ho0 (Kd.R_lt (by (with_reducible repeat (first | apply Kd.R_alloc | apply Kd.R_drewN | apply Kd.R_drew)); exact HO315.out))) (below_size (by repeat (first | (with_reducible first | exact HB.out | apply below_alloc | apply pw_below_drewN | apply below_drew1) | exact HB.out | exact Below.refl _ _)))); have n2_ := Aside0.mk (below_step (by repeat (first | (with_reducible first | exact HB.out | apply below_alloc | apply pw_below_drewN | apply below_drew1) | exact HB.out | exact Below.refl _ _)) hb); clear HO315; clear HB; have HO315 := n0_; have HO319 := n1_; have HB := n2_; clear n0_ n1_ n2_; (try clear hb); (try clear hb2); (try clear hk); (try clear hi); (try clear ho0)) | ((with_reducible refine gate_callee (f := 37) rfl ?_); refine goesL_ (some 38) rfl rfl Tryd.func37 (by kernel_rfl) rfl #[.int .i64 t312, .slice Ao12 t313.length co12] rfl (by (try simp only [List.map_toArray, List.map_cons, List.map_nil]); first | done | rfl | (simp only [List.length_drop, List.length_take]; rfl)) ?_; (with_reducible refine (spec_PathThrough.calls k t312 _ _ t313 t320 t321 _ ?side1 ?side2 A7.out).mono ?_); (case side1 => repeat (first | exact (Kd.R_reads' HO315.out).2.2 | (with_reducible refine Kd.C_alloc ?_ _) | (with_reducible refine Kd.C_drewN ?_ _) | (with_reducible refine Kd.C_drew ?_))); (case side2 => exact (Kd.R_reads' HO315.out).2.1); rintro e w14 ⟨v322, rfl, ho0, hb⟩; refine ⟨_, rfl, ?_⟩; have n0_ := Aside0.mk (Kd.R_elder' (by (with_reducible repeat (first | apply Kd.R_alloc | apply Kd.R_drewN | apply Kd.R_drew)); exact HO315.out) (Kd.R_base ho0) hb); have n1_ := Aside0.mk (Kd.R_elder' (by (with_reducible repeat (first | apply Kd.R_alloc | apply Kd.R_drewN | apply Kd.R_drew)); exact HO319.out) (Kd.R_base ho0) hb); have n2_ := Aside0.mk (Kd.R_lower (Kd.R_new' (Kd.R_new' ho0 (Kd.R_lt (by (with_reducible repeat (first | apply Kd.R_alloc | apply Kd.R_drewN | apply Kd.R_drew)); exact HO315.out))) (Kd.R_lt (by (with_reducible repeat (first | apply Kd.R_alloc | apply Kd.R_drewN | apply Kd.R_drew)); exact HO319.out))) (below_size (by repeat (first | (with_reducible first | exact HB.out | apply below_alloc | apply pw_below_drewN | apply below_drew1) | exact HB.out | exact Below.refl _ _)))); have n3_ := Aside0.mk (below_step (by repeat (first | (with_reducible first | exact HB.out | apply below_alloc | apply pw_below_drewN | apply below_drew1) | exact HB.out | exact Below.refl _ _)) hb); clear HO315; clear HO319; clear HB; have HO315 := n0_; have HO319 := n1_; have HO323 := n2_; have HB := n3_; clear n0_ n1_ n2_ n3_; (try clear hb); (try clear hb2); (try clear hk); (try clear hi); (try clear ho0)) | ((with_reducible refine gate_callee (f := 64) rfl ?_); refine goesL_ (some 44) rfl rfl Tryd.func64 (by kernel_rfl) rfl #[.int .i64 t312, .slice Ao12 t313.length co12] rfl (by (try simp only [List.map_toArray, List.map_cons, List.map_nil]); first | done | rfl | (simp only [List.length_drop, List.length_take]; rfl)) ?_; (with_reducible refine (impl_HalvesOf.calls k t312 _ _ t313 t324 t325 t326 _ ?side1 ?side2 A8.out).mono ?_); (case side1 => repeat (first | exact (Kd.R_reads' HO315.out).2.2 | (with_reducible refine Kd.C_alloc ?_ _) | (with_reducible refine Kd.C_drewN ?_ _) | (with_reducible refine Kd.C_drew ?_))); (case side2 => exact (Kd.R_reads' HO315.out).2.1); rintro e w' ⟨rfl, ⟨nd, rfl⟩⟩; refine ⟨_, rfl, ?_⟩) | ((with_reducible refine gate_callee (f := 65) rfl ?_); refine goesL_ (some 51) rfl rfl Tryd.func65 (by kernel_rfl) rfl #[.int .i64 t312, .slice Ao12 t313.length co12] rfl (by (try simp only [List.map_toArray, List.map_cons, List.map_nil]); first | done | rfl | (simp only [List.length_drop, List.length_take]; rfl)) ?_; (with_reducible refine (spec_HalvesOf.calls k t312 _ _ t313 t327 t328 t329 _ ?side1 ?side2 A9.out).mono ?_); (case side1 => repeat (first | exact (Kd.R_reads' HO315.out).2.2 | (with_reducible refine Kd.C_alloc ?_ _) | (with_reducible refine Kd.C_drewN ?_ _) | (with_reducible refine Kd.C_drew ?_))); (case side2 => exact (Kd.R_reads' HO315.out).2.1); rintro e w' ⟨rfl, ⟨nd, rfl⟩⟩; refine ⟨_, rfl, ?_⟩))
  (try simp only [Act.put, List.setIfInBounds_toArray, List.set_cons_zero, List.set_cons_succ])
  go_cut [85] (fun v85 wc => ∃ (kq : Nat) (x85_9 : Bool), v85 = .bool x85_9 ∧ Aside0 (laws_FnPathsThroughWords.j0 kq t312 t313 t316 t317 t324 t325 x85_9 = some r) ∧ Aside0 (kq ≤ k) ∧ Aside0 (Kd.R (Kd.int .i64) 3 wc w.heap.size (fun k_ => some k_ ≠ (v318 : Value).ownBlock) (.slice Ao12 t313.length co12) t313) ∧ Aside0 (Kd.R (Kd.int .i64) 3 wc w.heap.size (fun k_ => some k_ ≠ ((.slice Ao12 t313.length co12) : Value).ownBlock) v318 t316) ∧ Aside0 (Below w.heap.size w wc))
  case first =>
   have H := HC10.out; clear HC10
   by_cases c15 : (t317 != t321) = true
   ·rw [if_pos c15] at H
    have c15b0 : (t317 != t321) = true := c15
    (try (have c15b1 : decide (t317 = t321) = false := by simpa using c15))
    (try (have c15b2 : (t317 == t321) = false := by simpa using c15))
    (try (have c15b3 : ¬ (t317 = t321) := by simpa using c15))
    clear c15
    (first | rw [c15b0] | (simp only [i64_w, i32_w]; rw [c15b0]) | skip)
    have H' := Aside0.mk H; clear H
    go_wp2
    go_meet
    case rel => exact ⟨_, (true), (by first | rfl | (simp; done) | (simp [*]; done)), H', ⟨by first | omega | exact Nat.le_refl _⟩, ⟨by (with_reducible repeat (first | apply Kd.R_alloc | apply Kd.R_drewN | apply Kd.R_drew)); exact Kd.R_mono HO315.out (fun _ hk => hk.1.2)⟩, ⟨by (with_reducible repeat (first | apply Kd.R_alloc | apply Kd.R_drewN | apply Kd.R_drew)); exact Kd.R_mono HO319.out (fun _ hk => hk.1.2)⟩, ⟨by repeat (first | (with_reducible first | exact HB.out | apply below_alloc | apply pw_below_drewN | apply below_drew1) | exact HB.out | exact Below.refl _ _)⟩⟩
   ·rw [if_neg c15] at H
    have c15b0 : (t317 != t321) = false := by simpa using c15
    (try (have c15b1 : decide (t317 = t321) = true := by simpa using c15))
    (try (have c15b2 : (t317 == t321) = true := by simpa using c15))
    clear c15
    (first | rw [c15b0] | (simp only [i64_w, i32_w]; rw [c15b0]) | skip)
    replace H := Option.bind_eq_some_iff.mp H; obtain ⟨t330, A160, H⟩ := H
    replace H : (if t330 = true then (if (t326 != t329) = true then (laws_FnPathsThroughWords.j0 k t312 t313 t316 t317 t324 t325 true) else (if t324 = t327 then (if t325 = t328 then (if t317 = true then (laws_FnPathsThroughWords.j0 k t312 t313 t316 t317 t324 t325 (!t326)) else (laws_FnPathsThroughWords.j0 k t312 t313 t316 t317 t324 t325 false)) else (laws_FnPathsThroughWords.j0 k t312 t313 t316 t317 t324 t325 true)) else (laws_FnPathsThroughWords.j0 k t312 t313 t316 t317 t324 t325 true))) else (laws_FnPathsThroughWords.j0 k t312 t313 t316 t317 t324 t325 true)) = some r := H
    have A16 := Aside0.mk A160; clear A160
    by_cases c17 : t330 = true
    ·subst c17
     have H1 : (if (t326 != t329) = true then (laws_FnPathsThroughWords.j0 k t312 t313 t316 t317 t324 t325 true) else (if t324 = t327 then (if t325 = t328 then (if t317 = true then (laws_FnPathsThroughWords.j0 k t312 t313 t316 t317 t324 t325 (!t326)) else (laws_FnPathsThroughWords.j0 k t312 t313 t316 t317 t324 t325 false)) else (laws_FnPathsThroughWords.j0 k t312 t313 t316 t317 t324 t325 true)) else (laws_FnPathsThroughWords.j0 k t312 t313 t316 t317 t324 t325 true))) = some r := by rw [if_pos rfl] at H; exact H
     clear H; have H := H1; clear H1
     by_cases c18 : (t326 != t329) = true
     ·rw [if_pos c18] at H
      have c18b0 : (t326 != t329) = true := c18
      (try (have c18b1 : decide (t326 = t329) = false := by simpa using c18))
      (try (have c18b2 : (t326 == t329) = false := by simpa using c18))
      (try (have c18b3 : ¬ (t326 = t329) := by simpa using c18))
      clear c18; have H' := Aside0.mk H; clear H
      obtain ⟨Ao19, co19, eo19⟩ := Kd.R_slice HO319.out
      subst eo19
      obtain ⟨Ao20, co20, eo20⟩ := Kd.R_slice HO323.out
      subst eo20
      go_wp2_with (first | (go_at_call 41; (with_reducible refine (laws_uSame.calls k _ _ t316 _ _ t320 true _ ?side1 ?side2 ?side3 ?side4 A16.out).mono ?_); (case side1 => repeat (first | exact (Kd.R_reads' HO319.out).2.2 | (with_reducible refine Kd.C_alloc ?_ _) | (with_reducible refine Kd.C_drewN ?_ _) | (with_reducible refine Kd.C_drew ?_))); (case side2 => exact (Kd.R_reads' HO319.out).2.1); (case side3 => repeat (first | exact (Kd.R_reads' HO323.out).2.2 | (with_reducible refine Kd.C_alloc ?_ _) | (with_reducible refine Kd.C_drewN ?_ _) | (with_reducible refine Kd.C_drew ?_))); (case side4 => exact (Kd.R_reads' HO323.out).2.1); rintro e w' ⟨rfl, ⟨nd, rfl⟩⟩))
      go_meet
      case rel => exact ⟨_, (true), (by first | rfl | (simp; done) | (simp [*]; done)), H', ⟨by first | omega | exact Nat.le_refl _⟩, ⟨by (with_reducible repeat (first | apply Kd.R_alloc | apply Kd.R_drewN | apply Kd.R_drew)); exact Kd.R_mono HO315.out (fun _ hk => hk.1.2)⟩, ⟨by (with_reducible repeat (first | apply Kd.R_alloc | apply Kd.R_drewN | apply Kd.R_drew)); exact Kd.R_mono HO319.out (fun _ hk => hk.1.2)⟩, ⟨by repeat (first | (with_reducible first | exact HB.out | apply below_alloc | apply pw_below_drewN | apply below_drew1) | exact HB.out | exact Below.refl _ _)⟩⟩
     ·rw [if_neg c18] at H
      have c18b0 : (t326 != t329) = false := by simpa using c18
      (try (have c18b1 : decide (t326 = t329) = true := by simpa using c18))
      (try (have c18b2 : (t326 == t329) = true := by simpa using c18))
      clear c18
      by_cases c21 : t324 = t327
      ·rw [if_pos c21] at H
       have c21b0 : (t324 == t327) = true := beq_iff_eq.mpr c21
       have c21b1 : (t324 != t327) = false := bne_eq_false_iff_eq.mpr c21
       clear c21
       by_cases c22 : t325 = t328
       ·rw [if_pos c22] at H
        have c22b0 : (t325 == t328) = true := beq_iff_eq.mpr c22
        have c22b1 : (t325 != t328) = false := bne_eq_false_iff_eq.mpr c22
        clear c22
        by_cases c23 : t317 = true
        ·subst c23
         have H1 : (laws_FnPathsThroughWords.j0 k t312 t313 t316 true t324 t325 (!t326)) = some r := by rw [if_pos rfl] at H; exact H
         clear H; have H := H1; clear H1; have H' := Aside0.mk H; clear H
         obtain ⟨Ao24, co24, eo24⟩ := Kd.R_slice HO319.out
         subst eo24
         obtain ⟨Ao25, co25, eo25⟩ := Kd.R_slice HO323.out
         subst eo25
         go_wp2_with (first | (go_at_call 41; (with_reducible refine (laws_uSame.calls k _ _ t316 _ _ t320 true _ ?side1 ?side2 ?side3 ?side4 A16.out).mono ?_); (case side1 => repeat (first | exact (Kd.R_reads' HO319.out).2.2 | (with_reducible refine Kd.C_alloc ?_ _) | (with_reducible refine Kd.C_drewN ?_ _) | (with_reducible refine Kd.C_drew ?_))); (case side2 => exact (Kd.R_reads' HO319.out).2.1); (case side3 => repeat (first | exact (Kd.R_reads' HO323.out).2.2 | (with_reducible refine Kd.C_alloc ?_ _) | (with_reducible refine Kd.C_drewN ?_ _) | (with_reducible refine Kd.C_drew ?_))); (case side4 => exact (Kd.R_reads' HO323.out).2.1); rintro e w' ⟨rfl, ⟨nd, rfl⟩⟩))
         go_meet
         case rel => exact ⟨_, (!t326), (by first | rfl | (simp; done) | (simp [*]; done)), H', ⟨by first | omega | exact Nat.le_refl _⟩, ⟨by (with_reducible repeat (first | apply Kd.R_alloc | apply Kd.R_drewN | apply Kd.R_drew)); exact Kd.R_mono HO315.out (fun _ hk => hk.1.2)⟩, ⟨by (with_reducible repeat (first | apply Kd.R_alloc | apply Kd.R_drewN | apply Kd.R_drew)); exact Kd.R_mono HO319.out (fun _ hk => hk.1.2)⟩, ⟨by repeat (first | (with_reducible first | exact HB.out | apply below_alloc | apply pw_below_drewN | apply below_drew1) | exact HB.out | exact Below.refl _ _)⟩⟩
        ·replace c23 := Bool.eq_false_iff.mpr c23; subst c23
         have H1 : (laws_FnPathsThroughWords.j0 k t312 t313 t316 false t324 t325 false) = some r := by rw [if_neg (show ¬ (false = true) by decide)] at H; exact H
         clear H; have H := H1; clear H1; have H' := Aside0.mk H; clear H
         obtain ⟨Ao26, co26, eo26⟩ := Kd.R_slice HO319.out
         subst eo26
         obtain ⟨Ao27, co27, eo27⟩ := Kd.R_slice HO323.out
         subst eo27
         go_wp2_with (first | (go_at_call 41; (with_reducible refine (laws_uSame.calls k _ _ t316 _ _ t320 true _ ?side1 ?side2 ?side3 ?side4 A16.out).mono ?_); (case side1 => repeat (first | exact (Kd.R_reads' HO319.out).2.2 | (with_reducible refine Kd.C_alloc ?_ _) | (with_reducible refine Kd.C_drewN ?_ _) | (with_reducible refine Kd.C_drew ?_))); (case side2 => exact (Kd.R_reads' HO319.out).2.1); (case side3 => repeat (first | exact (Kd.R_reads' HO323.out).2.2 | (with_reducible refine Kd.C_alloc ?_ _) | (with_reducible refine Kd.C_drewN ?_ _) | (with_reducible refine Kd.C_drew ?_))); (case side4 => exact (Kd.R_reads' HO323.out).2.1); rintro e w' ⟨rfl, ⟨nd, rfl⟩⟩))
         go_meet
         case rel => exact ⟨_, (false), (by first | rfl | (simp; done) | (simp [*]; done)), H', ⟨by first | omega | exact Nat.le_refl _⟩, ⟨by (with_reducible repeat (first | apply Kd.R_alloc | apply Kd.R_drewN | apply Kd.R_drew)); exact Kd.R_mono HO315.out (fun _ hk => hk.1.2)⟩, ⟨by (with_reducible repeat (first | apply Kd.R_alloc | apply Kd.R_drewN | apply Kd.R_drew)); exact Kd.R_mono HO319.out (fun _ hk => hk.1.2)⟩, ⟨by repeat (first | (with_reducible first | exact HB.out | apply below_alloc | apply pw_below_drewN | apply below_drew1) | exact HB.out | exact Below.refl _ _)⟩⟩
       ·rw [if_neg c22] at H
        have c22b0 : (t325 == t328) = false := beq_eq_false_iff_ne.mpr c22
        have c22b1 : (t325 != t328) = true := bne_iff_ne.mpr c22
        have H' := Aside0.mk H; clear H
        obtain ⟨Ao28, co28, eo28⟩ := Kd.R_slice HO319.out
        subst eo28
        obtain ⟨Ao29, co29, eo29⟩ := Kd.R_slice HO323.out
        subst eo29
        go_wp2_with (first | (go_at_call 41; (with_reducible refine (laws_uSame.calls k _ _ t316 _ _ t320 true _ ?side1 ?side2 ?side3 ?side4 A16.out).mono ?_); (case side1 => repeat (first | exact (Kd.R_reads' HO319.out).2.2 | (with_reducible refine Kd.C_alloc ?_ _) | (with_reducible refine Kd.C_drewN ?_ _) | (with_reducible refine Kd.C_drew ?_))); (case side2 => exact (Kd.R_reads' HO319.out).2.1); (case side3 => repeat (first | exact (Kd.R_reads' HO323.out).2.2 | (with_reducible refine Kd.C_alloc ?_ _) | (with_reducible refine Kd.C_drewN ?_ _) | (with_reducible refine Kd.C_drew ?_))); (case side4 => exact (Kd.R_reads' HO323.out).2.1); rintro e w' ⟨rfl, ⟨nd, rfl⟩⟩))
        go_meet
        case rel => exact ⟨_, (true), (by first | rfl | (simp; done) | (simp [*]; done)), H', ⟨by first | omega | exact Nat.le_refl _⟩, ⟨by (with_reducible repeat (first | apply Kd.R_alloc | apply Kd.R_drewN | apply Kd.R_drew)); exact Kd.R_mono HO315.out (fun _ hk => hk.1.2)⟩, ⟨by (with_reducible repeat (first | apply Kd.R_alloc | apply Kd.R_drewN | apply Kd.R_drew)); exact Kd.R_mono HO319.out (fun _ hk => hk.1.2)⟩, ⟨by repeat (first | (with_reducible first | exact HB.out | apply below_alloc | apply pw_below_drewN | apply below_drew1) | exact HB.out | exact Below.refl _ _)⟩⟩
      ·rw [if_neg c21] at H
       have c21b0 : (t324 == t327) = false := beq_eq_false_iff_ne.mpr c21
       have c21b1 : (t324 != t327) = true := bne_iff_ne.mpr c21
       have H' := Aside0.mk H; clear H
       obtain ⟨Ao30, co30, eo30⟩ := Kd.R_slice HO319.out
       subst eo30
       obtain ⟨Ao31, co31, eo31⟩ := Kd.R_slice HO323.out
       subst eo31
       go_wp2_with (first | (go_at_call 41; (with_reducible refine (laws_uSame.calls k _ _ t316 _ _ t320 true _ ?side1 ?side2 ?side3 ?side4 A16.out).mono ?_); (case side1 => repeat (first | exact (Kd.R_reads' HO319.out).2.2 | (with_reducible refine Kd.C_alloc ?_ _) | (with_reducible refine Kd.C_drewN ?_ _) | (with_reducible refine Kd.C_drew ?_))); (case side2 => exact (Kd.R_reads' HO319.out).2.1); (case side3 => repeat (first | exact (Kd.R_reads' HO323.out).2.2 | (with_reducible refine Kd.C_alloc ?_ _) | (with_reducible refine Kd.C_drewN ?_ _) | (with_reducible refine Kd.C_drew ?_))); (case side4 => exact (Kd.R_reads' HO323.out).2.1); rintro e w' ⟨rfl, ⟨nd, rfl⟩⟩))
       go_meet
       case rel => exact ⟨_, (true), (by first | rfl | (simp; done) | (simp [*]; done)), H', ⟨by first | omega | exact Nat.le_refl _⟩, ⟨by (with_reducible repeat (first | apply Kd.R_alloc | apply Kd.R_drewN | apply Kd.R_drew)); exact Kd.R_mono HO315.out (fun _ hk => hk.1.2)⟩, ⟨by (with_reducible repeat (first | apply Kd.R_alloc | apply Kd.R_drewN | apply Kd.R_drew)); exact Kd.R_mono HO319.out (fun _ hk => hk.1.2)⟩, ⟨by repeat (first | (with_reducible first | exact HB.out | apply below_alloc | apply pw_below_drewN | apply below_drew1) | exact HB.out | exact Below.refl _ _)⟩⟩
    ·replace c17 := Bool.eq_false_iff.mpr c17; subst c17
     have H1 : (laws_FnPathsThroughWords.j0 k t312 t313 t316 t317 t324 t325 true) = some r := by rw [if_neg (show ¬ (false = true) by decide)] at H; exact H
     clear H; have H := H1; clear H1; have H' := Aside0.mk H; clear H
     obtain ⟨Ao32, co32, eo32⟩ := Kd.R_slice HO319.out
     subst eo32
     obtain ⟨Ao33, co33, eo33⟩ := Kd.R_slice HO323.out
     subst eo33
     go_wp2_with (first | (go_at_call 41; (with_reducible refine (laws_uSame.calls k _ _ t316 _ _ t320 false _ ?side1 ?side2 ?side3 ?side4 A16.out).mono ?_); (case side1 => repeat (first | exact (Kd.R_reads' HO319.out).2.2 | (with_reducible refine Kd.C_alloc ?_ _) | (with_reducible refine Kd.C_drewN ?_ _) | (with_reducible refine Kd.C_drew ?_))); (case side2 => exact (Kd.R_reads' HO319.out).2.1); (case side3 => repeat (first | exact (Kd.R_reads' HO323.out).2.2 | (with_reducible refine Kd.C_alloc ?_ _) | (with_reducible refine Kd.C_drewN ?_ _) | (with_reducible refine Kd.C_drew ?_))); (case side4 => exact (Kd.R_reads' HO323.out).2.1); rintro e w' ⟨rfl, ⟨nd, rfl⟩⟩))
     go_meet
     case rel => exact ⟨_, (true), (by first | rfl | (simp; done) | (simp [*]; done)), H', ⟨by first | omega | exact Nat.le_refl _⟩, ⟨by (with_reducible repeat (first | apply Kd.R_alloc | apply Kd.R_drewN | apply Kd.R_drew)); exact Kd.R_mono HO315.out (fun _ hk => hk.1.2)⟩, ⟨by (with_reducible repeat (first | apply Kd.R_alloc | apply Kd.R_drewN | apply Kd.R_drew)); exact Kd.R_mono HO319.out (fun _ hk => hk.1.2)⟩, ⟨by repeat (first | (with_reducible first | exact HB.out | apply below_alloc | apply pw_below_drewN | apply below_drew1) | exact HB.out | exact Below.refl _ _)⟩⟩
  case rest =>
   clear HC10; (try clear c1); (try clear c2); (try clear p2); (try clear c3); (try clear c4); (try clear c6); (try clear c15); (try clear c15b0); (try clear c15b1); (try clear c15b2); (try clear c16); (try clear c17); (try clear c18); (try clear c18b0); (try clear c18b1); (try clear c18b2); (try clear c21); (try clear c21b0); (try clear c21b1); (try clear c22); (try clear c22b0); (try clear c22b1); (try clear c23); obtain ⟨kq, x85_9, rfl, HA, HJ9, HO_6, HO_7, HB⟩ := hcut
   cases kq with
   | zero => exact absurd HA.out (by simp [laws_FnPathsThroughWords.j0])
   | succ kj9 =>
    have H := HA.out; clear HA
    simp only [laws_FnPathsThroughWords.j0] at H
    by_cases c34 : x85_9 = true
    ·subst c34
     have H1 : (some false) = some r := by rw [if_pos rfl] at H; exact H
     clear H; have H := H1; clear H1
     obtain rfl := Option.some.inj H
     go_wp2
     go_ret
     exact ⟨by first | rfl | (simp [errW_none, errW_some] <;> rfl) | (simp [*, errW_none, errW_some] <;> rfl), by repeat (first | (with_reducible first | exact HB.out | apply below_alloc | apply pw_below_drewN | apply below_drew1) | exact HB.out | exact Below.refl _ _)⟩
    ·replace c34 := Bool.eq_false_iff.mpr c34; subst c34
     have H1 : (if t317 = true then (if (wrap64 (t324 + t325)) = (t313.length : Int) then (if (wrap64 (t324 - t325)) > 1 then (laws_FnPathsThroughWords.j1 kj9 t312 t313 t316 true) else (if (wrap64 (t325 - t324)) > 1 then (laws_FnPathsThroughWords.j1 kj9 t312 t313 t316 true) else (laws_FnPathsThroughWords.j1 kj9 t312 t313 t316 ((t316.length : Int) != (t313.length : Int))))) else (laws_FnPathsThroughWords.j1 kj9 t312 t313 t316 true)) else (some true)) = some r := by rw [if_neg (show ¬ (false = true) by decide)] at H; exact H
     clear H; have H := H1; clear H1
     by_cases c35 : t317 = true
     ·subst c35
      have H1 : (if (wrap64 (t324 + t325)) = (t313.length : Int) then (if (wrap64 (t324 - t325)) > 1 then (laws_FnPathsThroughWords.j1 kj9 t312 t313 t316 true) else (if (wrap64 (t325 - t324)) > 1 then (laws_FnPathsThroughWords.j1 kj9 t312 t313 t316 true) else (laws_FnPathsThroughWords.j1 kj9 t312 t313 t316 ((t316.length : Int) != (t313.length : Int))))) else (laws_FnPathsThroughWords.j1 kj9 t312 t313 t316 true)) = some r := by rw [if_pos rfl] at H; exact H
      clear H; have H := H1; clear H1; have HC36 := Aside0.mk H; clear H
      go_upto_region 12 with (fail)
      go_cut [112] (fun v112 wc => ∃ (kq : Nat) (x112_35 : Bool), v112 = .bool x112_35 ∧ Aside0 (laws_FnPathsThroughWords.j1 kq t312 t313 t316 x112_35 = some r) ∧ Aside0 (kq ≤ kj9) ∧ Aside0 (Kd.R (Kd.int .i64) 3 wc w.heap.size (fun k_ => some k_ ≠ (v318 : Value).ownBlock) (.slice Ao12 t313.length co12) t313) ∧ Aside0 (Kd.R (Kd.int .i64) 3 wc w.heap.size (fun k_ => some k_ ≠ ((.slice Ao12 t313.length co12) : Value).ownBlock) v318 t316) ∧ Aside0 (Below w.heap.size w wc))
      case first =>
       have H := HC36.out; clear HC36
       by_cases c37 : (wrap64 (t324 + t325)) = (t313.length : Int)
       ·rw [if_pos c37] at H
        have c37b0 : ((wrap64 (t324 + t325)) == (t313.length : Int)) = true := beq_iff_eq.mpr c37
        have c37b1 : ((wrap64 (t324 + t325)) != (t313.length : Int)) = false := bne_eq_false_iff_eq.mpr c37
        clear c37
        (first | rw [c37b0] | (simp only [i64_w, i32_w]; rw [c37b0]) | skip)
        by_cases c38 : (wrap64 (t324 - t325)) > 1
        ·rw [if_pos c38] at H
         have c38b0 : decide (1 < (wrap64 (t324 - t325))) = true := decide_eq_true c38
         clear c38; have H' := Aside0.mk H; clear H
         go_wp2
         go_meet
         case rel => exact ⟨_, (true), (by first | rfl | (simp; done) | (simp [*]; done)), H', ⟨by have := HJ9.out; first | omega | exact Nat.le_refl _⟩, ⟨by (with_reducible repeat (first | apply Kd.R_alloc | apply Kd.R_drewN | apply Kd.R_drew)); exact HO_6.out⟩, ⟨by (with_reducible repeat (first | apply Kd.R_alloc | apply Kd.R_drewN | apply Kd.R_drew)); exact HO_7.out⟩, ⟨by repeat (first | (with_reducible first | exact HB.out | apply below_alloc | apply pw_below_drewN | apply below_drew1) | exact HB.out | exact Below.refl _ _)⟩⟩
        ·rw [if_neg c38] at H
         have c38b0 : decide (1 < (wrap64 (t324 - t325))) = false := decide_eq_false c38
         clear c38
         by_cases c39 : (wrap64 (t325 - t324)) > 1
         ·rw [if_pos c39] at H
          have c39b0 : decide (1 < (wrap64 (t325 - t324))) = true := decide_eq_true c39
          clear c39; have H' := Aside0.mk H; clear H
          go_wp2
          go_meet
          case rel => exact ⟨_, (true), (by first | rfl | (simp; done) | (simp [*]; done)), H', ⟨by have := HJ9.out; first | omega | exact Nat.le_refl _⟩, ⟨by (with_reducible repeat (first | apply Kd.R_alloc | apply Kd.R_drewN | apply Kd.R_drew)); exact HO_6.out⟩, ⟨by (with_reducible repeat (first | apply Kd.R_alloc | apply Kd.R_drewN | apply Kd.R_drew)); exact HO_7.out⟩, ⟨by repeat (first | (with_reducible first | exact HB.out | apply below_alloc | apply pw_below_drewN | apply below_drew1) | exact HB.out | exact Below.refl _ _)⟩⟩
         ·rw [if_neg c39] at H
          have c39b0 : decide (1 < (wrap64 (t325 - t324))) = false := decide_eq_false c39
          clear c39; have H' := Aside0.mk H; clear H
          obtain ⟨Ao40, co40, eo40⟩ := Kd.R_slice HO_7.out
          subst eo40
          go_wp2
          go_meet
          case rel => exact ⟨_, (((t316.length : Int) != (t313.length : Int))), (by first | rfl | (simp; done) | (simp [*]; done)), H', ⟨by have := HJ9.out; first | omega | exact Nat.le_refl _⟩, ⟨by (with_reducible repeat (first | apply Kd.R_alloc | apply Kd.R_drewN | apply Kd.R_drew)); exact HO_6.out⟩, ⟨by (with_reducible repeat (first | apply Kd.R_alloc | apply Kd.R_drewN | apply Kd.R_drew)); exact HO_7.out⟩, ⟨by repeat (first | (with_reducible first | exact HB.out | apply below_alloc | apply pw_below_drewN | apply below_drew1) | exact HB.out | exact Below.refl _ _)⟩⟩
       ·rw [if_neg c37] at H
        have c37b0 : ((wrap64 (t324 + t325)) == (t313.length : Int)) = false := beq_eq_false_iff_ne.mpr c37
        have c37b1 : ((wrap64 (t324 + t325)) != (t313.length : Int)) = true := bne_iff_ne.mpr c37
        (first | rw [c37b0] | (simp only [i64_w, i32_w]; rw [c37b0]) | skip)
        have H' := Aside0.mk H; clear H
        go_wp2
        go_meet
        case rel => exact ⟨_, (true), (by first | rfl | (simp; done) | (simp [*]; done)), H', ⟨by have := HJ9.out; first | omega | exact Nat.le_refl _⟩, ⟨by (with_reducible repeat (first | apply Kd.R_alloc | apply Kd.R_drewN | apply Kd.R_drew)); exact HO_6.out⟩, ⟨by (with_reducible repeat (first | apply Kd.R_alloc | apply Kd.R_drewN | apply Kd.R_drew)); exact HO_7.out⟩, ⟨by repeat (first | (with_reducible first | exact HB.out | apply below_alloc | apply pw_below_drewN | apply below_drew1) | exact HB.out | exact Below.refl _ _)⟩⟩
      case rest =>
       clear HC36; (try clear c1); (try clear c2); (try clear p2); (try clear c3); (try clear c4); (try clear c6); (try clear p6); (try clear c15); (try clear c15b0); (try clear c15b1); (try clear c15b2); (try clear c16); (try clear c17); (try clear c18); (try clear c18b0); (try clear c18b1); (try clear c18b2); (try clear c21); (try clear c21b0); (try clear c21b1); (try clear c22); (try clear c22b0); (try clear c22b1); (try clear c23); (try clear c34); (try clear c35); (try clear c37); (try clear c37b0); (try clear c37b1); (try clear c38); (try clear c38b0); (try clear c39); (try clear c39b0); (try clear p2); obtain ⟨kq, x112_35, rfl, HA, HJ35, HO_6, HO_7, HB⟩ := hcut
       cases kq with
       | zero => exact absurd HA.out (by simp [laws_FnPathsThroughWords.j1])
       | succ kj35 =>
        have H := HA.out; clear HA
        simp only [laws_FnPathsThroughWords.j1] at H
        by_cases c41 : x112_35 = true
        ·subst c41
         have H1 : (some false) = some r := by rw [if_pos rfl] at H; exact H
         clear H; have H := H1; clear H1
         obtain rfl := Option.some.inj H
         go_wp2
         go_ret
         exact ⟨by first | rfl | (simp [errW_none, errW_some] <;> rfl) | (simp [*, errW_none, errW_some] <;> rfl), by repeat (first | (with_reducible first | exact HB.out | apply below_alloc | apply pw_below_drewN | apply below_drew1) | exact HB.out | exact Below.refl _ _)⟩
        ·replace c41 := Bool.eq_false_iff.mpr c41; subst c41
         have H1 : (laws_FnPathsThroughWords.l0 kj35 t312 t316 t313 (t313.length : Int) 0) = some r := by rw [if_neg (show ¬ (false = true) by decide)] at H; exact H
         clear H; have H := H1; clear H1; have H' := Aside0.mk H; clear H
         go_wp2
         go_loopg [115] kj35 (fun kq v115 w' => ∃ (x115_3 : Int), v115 = .int .i64 x115_3 ∧ Aside0 (laws_FnPathsThroughWords.l0 kq t312 t316 t313 (t313.length : Int) x115_3 = some r) ∧ Aside0 (kq ≤ kj35) ∧ Aside0 (Kd.R (Kd.int .i64) 3 w' w.heap.size (fun k_ => some k_ ≠ ((.slice Ao12 t313.length co12) : Value).ownBlock) v318 t316) ∧ Aside0 (Kd.R (Kd.int .i64) 3 w' w.heap.size (fun k_ => some k_ ≠ (v318 : Value).ownBlock) (.slice Ao12 t313.length co12) t313) ∧ Aside0 (Below w.heap.size w w'))
         case atStart => exact ⟨(0), (by first | rfl | (simp; done) | (simp [*]; done)), H', ⟨Nat.le_refl _⟩, ⟨by (with_reducible repeat (first | apply Kd.R_alloc | apply Kd.R_drewN | apply Kd.R_drew)); exact HO_7.out⟩, ⟨by (with_reducible repeat (first | apply Kd.R_alloc | apply Kd.R_drewN | apply Kd.R_drew)); exact HO_6.out⟩, ⟨by repeat (first | (with_reducible first | exact HB.out | apply below_alloc | apply pw_below_drewN | apply below_drew1) | exact HB.out | exact Below.refl _ _)⟩⟩
         case round =>
          clear H'; (try clear c1); (try clear c2); (try clear p2); (try clear c3); (try clear c4); (try clear c6); (try clear p6); (try clear c15); (try clear c15b0); (try clear c15b1); (try clear c15b2); (try clear c16); (try clear c17); (try clear c18); (try clear c18b0); (try clear c18b1); (try clear c18b2); (try clear c21); (try clear c21b0); (try clear c21b1); (try clear c22); (try clear c22b0); (try clear c22b1); (try clear c23); (try clear c34); (try clear c35); (try clear c37); (try clear c37b0); (try clear c37b1); (try clear c38); (try clear c38b0); (try clear c39); (try clear c39b0); (try clear c41); (try clear p2); (try clear p6); obtain ⟨x115_3, rfl, HA, HK3, HO_7, HO_113, HB⟩ := hrel
          cases gk with
          | zero => exact absurd HA.out (by simp [laws_FnPathsThroughWords.l0])
          | succ k3 =>
           have H := HA.out; clear HA
           simp only [laws_FnPathsThroughWords.l0] at H
           by_cases c42 : x115_3 < (t313.length : Int)
           ·rw [if_pos c42] at H
            have c42b0 : decide (x115_3 < (t313.length : Int)) = true := decide_eq_true c42
            clear c42
            by_cases c43 : 0 ≤ x115_3
            ·rw [if_pos c43] at H
             have c43b0 : decide (0 ≤ x115_3) = true := decide_eq_true c43
             clear c43
             by_cases c44 : x115_3 < (t313.length : Int)
             ·rw [if_pos c44] at H
              have c44b0 : decide (x115_3 < (t313.length : Int)) = true := decide_eq_true c44
              clear c44; replace H := Option.bind_eq_some_iff.mp H; obtain ⟨t332, A450, H⟩ := H
              replace H : (if t332 = true then (laws_FnPathsThroughWords.l0 k3 t312 t316 t313 (t313.length : Int) (wrap64 (x115_3 + 1))) else (some false)) = some r := H
              have A45 := Aside0.mk A450; clear A450
              by_cases c46 : t332 = true
              ·subst c46
               have H1 : (laws_FnPathsThroughWords.l0 k3 t312 t316 t313 (t313.length : Int) (wrap64 (x115_3 + 1))) = some r := by rw [if_pos rfl] at H; exact H
               clear H; have H := H1; clear H1; have H' := Aside0.mk H; clear H
               have p331 : 0 ≤ (x115_3 : Int) := of_decide_eq_true (by first | (with_reducible assumption) | assumption)
               have q331 : x115_3 < (t313.length : Int) := of_decide_eq_true (by first | (with_reducible assumption) | assumption)
               obtain ⟨ad331, e331, hx331_0⟩ := Kd.at_int (Kd.R_reads' HO_113.out).2.2 x115_3 p331 q331
               cases e331
               replace p331 := eq_true p331; replace q331 := eq_true q331
               obtain ⟨Ao47, co47, eo47⟩ := Kd.R_slice HO_7.out
               subst eo47
               go_wp2_with (first | ((with_reducible refine gate_callee (f := 43) rfl ?_); refine goesL_ (some 121) rfl rfl Tryd.func43 (by kernel_rfl) rfl #[.slice Ao47 t316.length co47, .int .i64 (rd t313 x115_3)] rfl (by (try simp only [List.map_toArray, List.map_cons, List.map_nil]); first | done | rfl | (simp only [List.length_drop, List.length_take]; rfl)) ?_; (with_reducible refine (laws_uHas.calls k3 _ _ t316 (rd t313 x115_3) true _ ?side1 ?side2 A45.out).mono ?_); (case side1 => repeat (first | exact (Kd.R_reads' HO_7.out).2.2 | (with_reducible refine Kd.C_alloc ?_ _) | (with_reducible refine Kd.C_drewN ?_ _) | (with_reducible refine Kd.C_drew ?_))); (case side2 => exact (Kd.R_reads' HO_7.out).2.1); rintro e w' ⟨rfl, ⟨nd, rfl⟩⟩; refine ⟨_, rfl, ?_⟩))
               go_roundg k3
               case measure => have := HJ9.out; have := HJ35.out; have := HK3.out; omega
               case rel => exact ⟨(wrap64 (x115_3 + 1)), (by first | rfl | (simp; done) | (simp [*]; done)), H', ⟨by have := HJ9.out; have := HJ35.out; have := HK3.out; omega⟩, ⟨by (with_reducible repeat (first | apply Kd.R_alloc | apply Kd.R_drewN | apply Kd.R_drew)); exact HO_7.out⟩, ⟨by (with_reducible repeat (first | apply Kd.R_alloc | apply Kd.R_drewN | apply Kd.R_drew)); exact HO_113.out⟩, ⟨by repeat (first | (with_reducible first | exact HB.out | apply below_alloc | apply pw_below_drewN | apply below_drew1) | exact HB.out | exact Below.refl _ _)⟩⟩
              ·replace c46 := Bool.eq_false_iff.mpr c46; subst c46
               have H1 : (some false) = some r := by rw [if_neg (show ¬ (false = true) by decide)] at H; exact H
               clear H; have H := H1; clear H1
               obtain rfl := Option.some.inj H
               have p331 : 0 ≤ (x115_3 : Int) := of_decide_eq_true (by first | (with_reducible assumption) | assumption)
               have q331 : x115_3 < (t313.length : Int) := of_decide_eq_true (by first | (with_reducible assumption) | assumption)
               obtain ⟨ad331, e331, hx331_0⟩ := Kd.at_int (Kd.R_reads' HO_113.out).2.2 x115_3 p331 q331
               cases e331
               replace p331 := eq_true p331; replace q331 := eq_true q331
               obtain ⟨Ao48, co48, eo48⟩ := Kd.R_slice HO_7.out
               subst eo48
               go_wp2_with (first | ((with_reducible refine gate_callee (f := 43) rfl ?_); refine goesL_ (some 121) rfl rfl Tryd.func43 (by kernel_rfl) rfl #[.slice Ao48 t316.length co48, .int .i64 (rd t313 x115_3)] rfl (by (try simp only [List.map_toArray, List.map_cons, List.map_nil]); first | done | rfl | (simp only [List.length_drop, List.length_take]; rfl)) ?_; (with_reducible refine (laws_uHas.calls k3 _ _ t316 (rd t313 x115_3) false _ ?side1 ?side2 A45.out).mono ?_); (case side1 => repeat (first | exact (Kd.R_reads' HO_7.out).2.2 | (with_reducible refine Kd.C_alloc ?_ _) | (with_reducible refine Kd.C_drewN ?_ _) | (with_reducible refine Kd.C_drew ?_))); (case side2 => exact (Kd.R_reads' HO_7.out).2.1); rintro e w' ⟨rfl, ⟨nd, rfl⟩⟩; refine ⟨_, rfl, ?_⟩))
               go_ret
               exact ⟨by first | rfl | (simp [errW_none, errW_some] <;> rfl) | (simp [*, errW_none, errW_some] <;> rfl), by repeat (first | (with_reducible first | exact HB.out | apply below_alloc | apply pw_below_drewN | apply below_drew1) | exact HB.out | exact Below.refl _ _)⟩
             ·rw [if_neg c44] at H
              exact absurd H (by simp)
            ·rw [if_neg c43] at H
             exact absurd H (by simp)
           ·rw [if_neg c42] at H
            have c42b0 : decide (x115_3 < (t313.length : Int)) = false := decide_eq_false c42
            clear c42; replace H := Option.bind_eq_some_iff.mp H
            obtain ⟨⟨t333, t334⟩, A490, H⟩ := H
            replace H : (some t334) = some r := H
            have A49 := Aside0.mk A490; clear A490
            obtain rfl := Option.some.inj H
            obtain ⟨Ao50, co50, eo50⟩ := Kd.R_slice HO_7.out
            subst eo50
            go_wp2_with (first | ((with_reducible refine gate_callee (f := 23) rfl ?_); refine goesL_ (some 127) rfl rfl Tryd.func23 (by kernel_rfl) rfl #[.int .i64 t312, .slice Ao50 t316.length co50] rfl (by (try simp only [List.map_toArray, List.map_cons, List.map_nil]); first | done | rfl | (simp only [List.length_drop, List.length_take]; rfl)) ?_; (with_reducible refine (impl_DeltasOf.calls k3 t312 _ _ t316 t333 t334 _ ?side1 ?side2 A49.out ?tab_).mono ?_); (case tab_ => first | exact HTab_.out | ((repeat (first | exact HTab_.out | (with_reducible refine Tab_.drewN ?_ _) | (with_reducible refine Tab_.drew ?_) | (with_reducible refine Tab_.alloc ?_ _))); done) | (refine Tab_.below HTab_.out ?_; (repeat (first | (with_reducible first | exact HB.out | apply below_alloc | apply pw_below_drewN | apply below_drew1) | exact HB.out | exact Below.refl _ _)); done)); (case side1 => repeat (first | exact (Kd.R_reads' HO_7.out).2.2 | (with_reducible refine Kd.C_alloc ?_ _) | (with_reducible refine Kd.C_drewN ?_ _) | (with_reducible refine Kd.C_drew ?_))); (case side2 => exact (Kd.R_reads' HO_7.out).2.1); rintro e w51 ⟨v335, rfl, ho0, hb⟩; refine ⟨_, rfl, ?_⟩; have n0_ := Aside0.mk (Kd.R_elder' (by (with_reducible repeat (first | apply Kd.R_alloc | apply Kd.R_drewN | apply Kd.R_drew)); exact HO_7.out) (Kd.R_base ho0) hb); have n1_ := Aside0.mk (Kd.R_elder' (by (with_reducible repeat (first | apply Kd.R_alloc | apply Kd.R_drewN | apply Kd.R_drew)); exact HO_113.out) (Kd.R_base ho0) hb); have n2_ := Aside0.mk (Kd.R_lower (Kd.R_new' (Kd.R_new' ho0 (Kd.R_lt (by (with_reducible repeat (first | apply Kd.R_alloc | apply Kd.R_drewN | apply Kd.R_drew)); exact HO_7.out))) (Kd.R_lt (by (with_reducible repeat (first | apply Kd.R_alloc | apply Kd.R_drewN | apply Kd.R_drew)); exact HO_113.out))) (below_size (by repeat (first | (with_reducible first | exact HB.out | apply below_alloc | apply pw_below_drewN | apply below_drew1) | exact HB.out | exact Below.refl _ _)))); have n3_ := Aside0.mk (below_step (by repeat (first | (with_reducible first | exact HB.out | apply below_alloc | apply pw_below_drewN | apply below_drew1) | exact HB.out | exact Below.refl _ _)) hb); clear HO_7; clear HO_113; clear HB; have HO_7 := n0_; have HO_113 := n1_; have HO336 := n2_; have HB := n3_; clear n0_ n1_ n2_ n3_; (try clear hb); (try clear hb2); (try clear hk); (try clear hi); (try clear ho0)))
            go_ret
            exact ⟨by first | rfl | (simp [errW_none, errW_some] <;> rfl) | (simp [*, errW_none, errW_some] <;> rfl), by repeat (first | (with_reducible first | exact HB.out | apply below_alloc | apply pw_below_drewN | apply below_drew1) | exact HB.out | exact Below.refl _ _)⟩
     ·replace c35 := Bool.eq_false_iff.mpr c35; subst c35
      have H1 : (some true) = some r := by rw [if_neg (show ¬ (false = true) by decide)] at H; exact H
      clear H; have H := H1; clear H1
      obtain rfl := Option.some.inj H
      go_wp2
      go_ret
      exact ⟨by first | rfl | (simp [errW_none, errW_some] <;> rfl) | (simp [*, errW_none, errW_some] <;> rfl), by repeat (first | (with_reducible first | exact HB.out | apply below_alloc | apply pw_below_drewN | apply below_drew1) | exact HB.out | exact Below.refl _ _)⟩

/-- THE ONE PURE STATEMENT of laws_FnPathsThroughWords: yours. -/
def laws_FnPathsThroughWords.Pure : Prop := ∀ (l0 : List Int) (l1 : List Int), l0.length ≤ maxLen → l0.length * 1 ≤ 140737488351232 → (∀ x ∈ l0, (Lit.int .u8 x).wf = true) → l1.length ≤ maxLen → l1.length * 1 ≤ 140737488351232 → (∀ x ∈ l1, (Lit.int .u8 x).wf = true) → ∃ k, laws_FnPathsThroughWords.f k l0 l1 = some true
theorem laws_FnPathsThroughWords.walk (P : laws_FnPathsThroughWords.Pure) (a0 : Option Addr) (len0 cap0 : Nat) (z0 : List Int) (a1 : Option Addr) (len1 cap1 : Nat) (z1 : List Int) (w : World) (w0 : (a0 = none ∧ len0 = 0 ∧ cap0 = 0 ∧ z0 = []) ∨ ∃ x, a0 = some x ∧ len0 ≤ cap0 ∧ cap0 ≤ maxLen ∧ z0.length = cap0 ∧ (∀ i, i < z0.length → w.cell? (x.add i) = some (.int .u8 (z0.getD i 0))) ∧ ∀ n ∈ z0, (Lit.int .u8 n).wf = true) (y0 : len0 * 1 ≤ 140737488351232) (w1 : (a1 = none ∧ len1 = 0 ∧ cap1 = 0 ∧ z1 = []) ∨ ∃ x, a1 = some x ∧ len1 ≤ cap1 ∧ cap1 ≤ maxLen ∧ z1.length = cap1 ∧ (∀ i, i < z1.length → w.cell? (x.add i) = some (.int .u8 (z1.getD i 0))) ∧ ∀ n ∈ z1, (Lit.int .u8 n).wf = true) (y1 : len1 * 1 ≤ 140737488351232) (hT_ : Tab_ w) :
  Calls Tryd.prog 16 #[.slice a0 len0 cap0, .slice a1 len1 cap1] w fun e w' => e = .returned (.bool true) ∧ Below w.heap.size w w' := by
 obtain ⟨l0, rfl, hr0, hm0, hw0, hc0⟩ := ReadsInt.ofRowC w0
 obtain ⟨l1, rfl, hr1, hm1, hw1, hc1⟩ := ReadsInt.ofRowC w1
 obtain ⟨k, h⟩ := P l0 l1 hm0 y0 hw0 hm1 y1 hw1
 refine (laws_FnPathsThroughWords.calls k _ _ l0 _ _ l1 true w (Kd.C_of_reads (d := (0 : Int)) (h1 := fun _ => rfl) hr0) hc0 (Kd.C_of_reads (d := (0 : Int)) (h1 := fun _ => rfl) hr1) hc1 h hT_).mono ?_
 rintro e w' ⟨rfl, hd⟩
 exact ⟨rfl, hd⟩

end Go.Proofs.YtnhifbopicjicaaDoor.PFnPathsThroughWords
