/- What the law's functions compute, and that the calls come to just that: turned from a printed text. No condition. -/
import Derived.Test.YtnhifbopicjicaaDoorQFnCodesx0
import Derived.Test.YtnhifbopicjicaaDoorQFnCodesx1
import Derived.Test.YtnhifbopicjicaaDoorQFnCodesx2
import Derived.Test.YtnhifbopicjicaaDoorQFnCodesx3
import Derived.Test.YtnhifbopicjicaaDoorQFnCodesx4
import Derived.Test.YtnhifbopicjicaaDoorQFnCodesx8
import Derived.Test.YtnhifbopicjicaaDoorQFnCodesx9
namespace Go.Proofs.YtnhifbopicjicaaDoor.PFnCodes
open Go.RowKit Go.Proofs.YtnhifbopicjicaaDoorW.PrintWords Go.Proofs.YtnhifbopicjicaaDoorW.PrintLast Go.Proofs.YtnhifbopicjicaaDoorW.PrintMore
attribute [local go_sem] max2_int min2_int max_two min_two max_three min_three max_four min_four   -- for this text's walks alone
set_option linter.unusedVariables false
set_option linter.unusedSimpArgs false

/-! ### laws_FnCodes: function 12 -/
mutual
def laws_FnCodes.j0 : Nat → List Int → Int → List Int → Bool → Bool → Option (Bool)
  | 0, _, _, _, _, _ => none
  | k + 1, x1, x5, x6, x7, x90 => if x90 = true then (some false) else ((impl_DeltasOf.f k x5 x6).bind fun bt472 => ((spec_DeltasOf.f k x5 x6).bind fun bt476 => (if (bt472.2 != bt476.2) = true then (laws_FnCodes.j1 k x1 x5 x6 x7 bt472.1 bt472.2 true) else ((laws_uSame.f k bt472.1 bt476.1).bind fun t480 => (if t480 = true then (if x7 = true then (laws_FnCodes.j1 k x1 x5 x6 x7 bt472.1 bt472.2 (!bt472.2)) else (laws_FnCodes.j1 k x1 x5 x6 x7 bt472.1 bt472.2 false)) else (laws_FnCodes.j1 k x1 x5 x6 x7 bt472.1 bt472.2 true))))))
def laws_FnCodes.j1 : Nat → List Int → Int → List Int → Bool → List Int → Bool → Bool → Option (Bool)
  | 0, _, _, _, _, _, _, _ => none
  | k + 1, x1, x5, x6, x7, x15, x16, x118 => if x118 = true then (some false) else (if x16 = true then (laws_FnCodes.j2 k x1 x5 x6 x7 x15 (decide ((x6.length : Int) > 0))) else (laws_FnCodes.j2 k x1 x5 x6 x7 x15 false))
def laws_FnCodes.j2 : Nat → List Int → Int → List Int → Bool → List Int → Bool → Option (Bool)
  | 0, _, _, _, _, _, _ => none
  | k + 1, x1, x5, x6, x7, x15, x124 => if x124 = true then (if 0 < (x6.length : Int) then ((impl_FromDeltas.f k x5 (rd x6 0) x15).bind fun bt482 => ((impl_ChangesOf.f k x5 x6).bind fun bt486 => (laws_FnCodes.l0 k x1 x5 x6 x7 bt482.1 bt482.2 bt486.1 bt486.2 0 bt486.1 (bt486.1.length : Int) 0))) else (none)) else (laws_FnCodes.j4 k x1 x5 x6 x7)
def laws_FnCodes.j4 : Nat → List Int → Int → List Int → Bool → Option (Bool)
  | 0, _, _, _, _ => none
  | k + 1, x1, x5, x6, x7 => if x7 = true then (laws_FnCodes.l1 k x1 x5 x6 0) else (laws_FnCodes.j6 k x1)
def laws_FnCodes.j6 : Nat → List Int → Option (Bool)
  | 0, _ => none
  | k + 1, x1 => (spec_DrawFromDeltas.f k x1).bind fun bt493 => ((impl_FromDeltas.f k bt493.1 bt493.2.1 bt493.2.2).bind fun bt498 => ((spec_FromDeltas.f k bt493.1 bt493.2.1 bt493.2.2).bind fun bt502 => (if (bt498.2 == bt502.2) = true then ((laws_uSame.f k bt498.1 bt502.1).bind fun t506 => (some t506)) else (some false))))
def laws_FnCodes.l1 : Nat → List Int → Int → List Int → Int → Option (Bool)
  | 0, _, _, _, _ => none
  | k + 1, x1, x5, x6, x26 => if 0 ≤ x5 then (if x26 < (shl .i64 1 x5) then ((laws_uHas.f k x6 x26).bind fun t492 => (if t492 = true then (laws_FnCodes.l1 k x1 x5 x6 (wrap64 (x26 + 1))) else (some false))) else (laws_FnCodes.j6 k x1)) else (none)
def laws_FnCodes.l0 : Nat → List Int → Int → List Int → Bool → List Int → Bool → List Int → Bool → Int → List Int → Int → Int → Option (Bool)
  | 0, _, _, _, _, _, _, _, _, _, _, _, _ => none
  | k + 1, x1, x5, x6, x7, x19, x20, x21, x22, x23, x140, x141, x142 => if x142 < x141 then (if 0 ≤ x142 then (if x142 < (x140.length : Int) then (laws_FnCodes.l0 k x1 x5 x6 x7 x19 x20 x21 x22 (wrap64 (x23 + (rd x140 x142))) x140 x141 (wrap64 (x142 + 1))) else (none)) else (none)) else (if x20 = true then ((laws_uSame.f k x19 x6).bind fun t491 => (if t491 = true then (if x22 = true then (if (x21.length : Int) = x5 then (if x23 = (wrap64 ((x6.length : Int) - 1)) then (laws_FnCodes.j4 k x1 x5 x6 x7) else (some false)) else (some false)) else (some false)) else (some false))) else (some false))
end
def laws_FnCodes.f (k : Nat) (l0 : List Int) (l1 : List Int) : Option (Bool) := (laws_big.f l0 l1).bind fun t459 => (if t459 = true then (some true) else ((spec_DrawIsCode.f k l0).bind fun bt460 => ((impl_IsCode.f k bt460.1 bt460.2).bind fun bt464 => ((spec_IsCode.f k bt460.1 bt460.2).bind fun bt466 => ((impl_IsRoundCode.f k bt460.1 bt460.2).bind fun bt468 => ((spec_IsRoundCode.f k bt460.1 bt460.2).bind fun bt470 => (if (bt464.2 != bt466.2) = true then (laws_FnCodes.j0 k l1 bt460.1 bt460.2 bt464.1 true) else (if (bt464.1 != bt466.1) = true then (laws_FnCodes.j0 k l1 bt460.1 bt460.2 bt464.1 true) else (if (bt468.2 != bt470.2) = true then (laws_FnCodes.j0 k l1 bt460.1 bt460.2 bt464.1 true) else (if (bt468.1 != bt470.1) = true then (laws_FnCodes.j0 k l1 bt460.1 bt460.2 bt464.1 true) else (if bt468.1 = true then (laws_FnCodes.j0 k l1 bt460.1 bt460.2 bt464.1 (!bt464.1)) else (laws_FnCodes.j0 k l1 bt460.1 bt460.2 bt464.1 false))))))))))))
theorem laws_FnCodes.mono_l : ∀ k, (∀ y0 y1 y2 y3 y4, LeO (laws_FnCodes.j0 k y0 y1 y2 y3 y4) (laws_FnCodes.j0 (k + 1) y0 y1 y2 y3 y4)) ∧ (∀ y0 y1 y2 y3 y4 y5 y6, LeO (laws_FnCodes.j1 k y0 y1 y2 y3 y4 y5 y6) (laws_FnCodes.j1 (k + 1) y0 y1 y2 y3 y4 y5 y6)) ∧ (∀ y0 y1 y2 y3 y4 y5, LeO (laws_FnCodes.j2 k y0 y1 y2 y3 y4 y5) (laws_FnCodes.j2 (k + 1) y0 y1 y2 y3 y4 y5)) ∧ (∀ y0 y1 y2 y3, LeO (laws_FnCodes.j4 k y0 y1 y2 y3) (laws_FnCodes.j4 (k + 1) y0 y1 y2 y3)) ∧ (∀ y0, LeO (laws_FnCodes.j6 k y0) (laws_FnCodes.j6 (k + 1) y0)) ∧ (∀ y0 y1 y2 y3, LeO (laws_FnCodes.l1 k y0 y1 y2 y3) (laws_FnCodes.l1 (k + 1) y0 y1 y2 y3)) ∧ (∀ y0 y1 y2 y3 y4 y5 y6 y7 y8 y9 y10 y11, LeO (laws_FnCodes.l0 k y0 y1 y2 y3 y4 y5 y6 y7 y8 y9 y10 y11) (laws_FnCodes.l0 (k + 1) y0 y1 y2 y3 y4 y5 y6 y7 y8 y9 y10 y11))
  | 0 => ⟨fun _ _ _ _ _ r h => by simp [laws_FnCodes.j0] at h, fun _ _ _ _ _ _ _ r h => by simp [laws_FnCodes.j1] at h, fun _ _ _ _ _ _ r h => by simp [laws_FnCodes.j2] at h, fun _ _ _ _ r h => by simp [laws_FnCodes.j4] at h, fun _ r h => by simp [laws_FnCodes.j6] at h, fun _ _ _ _ r h => by simp [laws_FnCodes.l1] at h, fun _ _ _ _ _ _ _ _ _ _ _ _ r h => by simp [laws_FnCodes.l0] at h⟩
  | k + 1 => by
    obtain ⟨ih0, ih1, ih2, ih3, ih4, ih5, ih6⟩ := laws_FnCodes.mono_l k
    refine ⟨?_, ?_, ?_, ?_, ?_, ?_, ?_⟩
    · intro y0 y1 y2 y3 y4
      unfold laws_FnCodes.j0
      repeat' first
      | (with_reducible exact ih0 _ _ _ _ _)
      | (with_reducible exact ih1 _ _ _ _ _ _ _)
      | (with_reducible exact ih2 _ _ _ _ _ _)
      | (with_reducible exact ih3 _ _ _ _)
      | (with_reducible exact ih4 _)
      | (with_reducible exact ih5 _ _ _ _)
      | (with_reducible exact ih6 _ _ _ _ _ _ _ _ _ _ _ _)
      | (with_reducible exact impl_ChangesOf.mono _ _ _)
      | (with_reducible exact impl_DeltasOf.mono _ _ _)
      | (with_reducible exact impl_FromDeltas.mono _ _ _ _)
      | (with_reducible exact impl_IsCode.mono _ _ _)
      | (with_reducible exact impl_IsRoundCode.mono _ _ _)
      | (with_reducible exact laws_uHas.mono _ _ _)
      | (with_reducible exact laws_uSame.mono _ _ _)
      | (with_reducible exact spec_DeltasOf.mono _ _ _)
      | (with_reducible exact spec_DrawFromDeltas.mono _ _)
      | (with_reducible exact spec_DrawIsCode.mono _ _)
      | (with_reducible exact spec_FromDeltas.mono _ _ _ _)
      | (with_reducible exact spec_IsCode.mono _ _ _)
      | (with_reducible exact spec_IsRoundCode.mono _ _ _)
      | (with_reducible exact LeO.refl _)
      | (with_reducible exact LeO.none _)
      | (with_reducible refine LeO.ite ?_ ?_)
      | (with_reducible refine LeO.bind ?_ (fun _ => ?_))
      | exact ih0 _ _ _ _ _
      | exact ih1 _ _ _ _ _ _ _
      | exact ih2 _ _ _ _ _ _
      | exact ih3 _ _ _ _
      | exact ih4 _
      | exact ih5 _ _ _ _
      | exact ih6 _ _ _ _ _ _ _ _ _ _ _ _
      | exact impl_ChangesOf.mono _ _ _
      | exact impl_DeltasOf.mono _ _ _
      | exact impl_FromDeltas.mono _ _ _ _
      | exact impl_IsCode.mono _ _ _
      | exact impl_IsRoundCode.mono _ _ _
      | exact laws_uHas.mono _ _ _
      | exact laws_uSame.mono _ _ _
      | exact spec_DeltasOf.mono _ _ _
      | exact spec_DrawFromDeltas.mono _ _
      | exact spec_DrawIsCode.mono _ _
      | exact spec_FromDeltas.mono _ _ _ _
      | exact spec_IsCode.mono _ _ _
      | exact spec_IsRoundCode.mono _ _ _
      | exact LeO.none _
      | refine LeO.ite ?_ ?_
      | refine LeO.bind ?_ (fun _ => ?_)
    · intro y0 y1 y2 y3 y4 y5 y6
      unfold laws_FnCodes.j1
      repeat' first
      | (with_reducible exact ih0 _ _ _ _ _)
      | (with_reducible exact ih1 _ _ _ _ _ _ _)
      | (with_reducible exact ih2 _ _ _ _ _ _)
      | (with_reducible exact ih3 _ _ _ _)
      | (with_reducible exact ih4 _)
      | (with_reducible exact ih5 _ _ _ _)
      | (with_reducible exact ih6 _ _ _ _ _ _ _ _ _ _ _ _)
      | (with_reducible exact impl_ChangesOf.mono _ _ _)
      | (with_reducible exact impl_DeltasOf.mono _ _ _)
      | (with_reducible exact impl_FromDeltas.mono _ _ _ _)
      | (with_reducible exact impl_IsCode.mono _ _ _)
      | (with_reducible exact impl_IsRoundCode.mono _ _ _)
      | (with_reducible exact laws_uHas.mono _ _ _)
      | (with_reducible exact laws_uSame.mono _ _ _)
      | (with_reducible exact spec_DeltasOf.mono _ _ _)
      | (with_reducible exact spec_DrawFromDeltas.mono _ _)
      | (with_reducible exact spec_DrawIsCode.mono _ _)
      | (with_reducible exact spec_FromDeltas.mono _ _ _ _)
      | (with_reducible exact spec_IsCode.mono _ _ _)
      | (with_reducible exact spec_IsRoundCode.mono _ _ _)
      | (with_reducible exact LeO.refl _)
      | (with_reducible exact LeO.none _)
      | (with_reducible refine LeO.ite ?_ ?_)
      | (with_reducible refine LeO.bind ?_ (fun _ => ?_))
      | exact ih0 _ _ _ _ _
      | exact ih1 _ _ _ _ _ _ _
      | exact ih2 _ _ _ _ _ _
      | exact ih3 _ _ _ _
      | exact ih4 _
      | exact ih5 _ _ _ _
      | exact ih6 _ _ _ _ _ _ _ _ _ _ _ _
      | exact impl_ChangesOf.mono _ _ _
      | exact impl_DeltasOf.mono _ _ _
      | exact impl_FromDeltas.mono _ _ _ _
      | exact impl_IsCode.mono _ _ _
      | exact impl_IsRoundCode.mono _ _ _
      | exact laws_uHas.mono _ _ _
      | exact laws_uSame.mono _ _ _
      | exact spec_DeltasOf.mono _ _ _
      | exact spec_DrawFromDeltas.mono _ _
      | exact spec_DrawIsCode.mono _ _
      | exact spec_FromDeltas.mono _ _ _ _
      | exact spec_IsCode.mono _ _ _
      | exact spec_IsRoundCode.mono _ _ _
      | exact LeO.none _
      | refine LeO.ite ?_ ?_
      | refine LeO.bind ?_ (fun _ => ?_)
    · intro y0 y1 y2 y3 y4 y5
      unfold laws_FnCodes.j2
      repeat' first
      | (with_reducible exact ih0 _ _ _ _ _)
      | (with_reducible exact ih1 _ _ _ _ _ _ _)
      | (with_reducible exact ih2 _ _ _ _ _ _)
      | (with_reducible exact ih3 _ _ _ _)
      | (with_reducible exact ih4 _)
      | (with_reducible exact ih5 _ _ _ _)
      | (with_reducible exact ih6 _ _ _ _ _ _ _ _ _ _ _ _)
      | (with_reducible exact impl_ChangesOf.mono _ _ _)
      | (with_reducible exact impl_DeltasOf.mono _ _ _)
      | (with_reducible exact impl_FromDeltas.mono _ _ _ _)
      | (with_reducible exact impl_IsCode.mono _ _ _)
      | (with_reducible exact impl_IsRoundCode.mono _ _ _)
      | (with_reducible exact laws_uHas.mono _ _ _)
      | (with_reducible exact laws_uSame.mono _ _ _)
      | (with_reducible exact spec_DeltasOf.mono _ _ _)
      | (with_reducible exact spec_DrawFromDeltas.mono _ _)
      | (with_reducible exact spec_DrawIsCode.mono _ _)
      | (with_reducible exact spec_FromDeltas.mono _ _ _ _)
      | (with_reducible exact spec_IsCode.mono _ _ _)
      | (with_reducible exact spec_IsRoundCode.mono _ _ _)
      | (with_reducible exact LeO.refl _)
      | (with_reducible exact LeO.none _)
      | (with_reducible refine LeO.ite ?_ ?_)
      | (with_reducible refine LeO.bind ?_ (fun _ => ?_))
      | exact ih0 _ _ _ _ _
      | exact ih1 _ _ _ _ _ _ _
      | exact ih2 _ _ _ _ _ _
      | exact ih3 _ _ _ _
      | exact ih4 _
      | exact ih5 _ _ _ _
      | exact ih6 _ _ _ _ _ _ _ _ _ _ _ _
      | exact impl_ChangesOf.mono _ _ _
      | exact impl_DeltasOf.mono _ _ _
      | exact impl_FromDeltas.mono _ _ _ _
      | exact impl_IsCode.mono _ _ _
      | exact impl_IsRoundCode.mono _ _ _
      | exact laws_uHas.mono _ _ _
      | exact laws_uSame.mono _ _ _
      | exact spec_DeltasOf.mono _ _ _
      | exact spec_DrawFromDeltas.mono _ _
      | exact spec_DrawIsCode.mono _ _
      | exact spec_FromDeltas.mono _ _ _ _
      | exact spec_IsCode.mono _ _ _
      | exact spec_IsRoundCode.mono _ _ _
      | exact LeO.none _
      | refine LeO.ite ?_ ?_
      | refine LeO.bind ?_ (fun _ => ?_)
    · intro y0 y1 y2 y3
      unfold laws_FnCodes.j4
      repeat' first
      | (with_reducible exact ih0 _ _ _ _ _)
      | (with_reducible exact ih1 _ _ _ _ _ _ _)
      | (with_reducible exact ih2 _ _ _ _ _ _)
      | (with_reducible exact ih3 _ _ _ _)
      | (with_reducible exact ih4 _)
      | (with_reducible exact ih5 _ _ _ _)
      | (with_reducible exact ih6 _ _ _ _ _ _ _ _ _ _ _ _)
      | (with_reducible exact impl_ChangesOf.mono _ _ _)
      | (with_reducible exact impl_DeltasOf.mono _ _ _)
      | (with_reducible exact impl_FromDeltas.mono _ _ _ _)
      | (with_reducible exact impl_IsCode.mono _ _ _)
      | (with_reducible exact impl_IsRoundCode.mono _ _ _)
      | (with_reducible exact laws_uHas.mono _ _ _)
      | (with_reducible exact laws_uSame.mono _ _ _)
      | (with_reducible exact spec_DeltasOf.mono _ _ _)
      | (with_reducible exact spec_DrawFromDeltas.mono _ _)
      | (with_reducible exact spec_DrawIsCode.mono _ _)
      | (with_reducible exact spec_FromDeltas.mono _ _ _ _)
      | (with_reducible exact spec_IsCode.mono _ _ _)
      | (with_reducible exact spec_IsRoundCode.mono _ _ _)
      | (with_reducible exact LeO.refl _)
      | (with_reducible exact LeO.none _)
      | (with_reducible refine LeO.ite ?_ ?_)
      | (with_reducible refine LeO.bind ?_ (fun _ => ?_))
      | exact ih0 _ _ _ _ _
      | exact ih1 _ _ _ _ _ _ _
      | exact ih2 _ _ _ _ _ _
      | exact ih3 _ _ _ _
      | exact ih4 _
      | exact ih5 _ _ _ _
      | exact ih6 _ _ _ _ _ _ _ _ _ _ _ _
      | exact impl_ChangesOf.mono _ _ _
      | exact impl_DeltasOf.mono _ _ _
      | exact impl_FromDeltas.mono _ _ _ _
      | exact impl_IsCode.mono _ _ _
      | exact impl_IsRoundCode.mono _ _ _
      | exact laws_uHas.mono _ _ _
      | exact laws_uSame.mono _ _ _
      | exact spec_DeltasOf.mono _ _ _
      | exact spec_DrawFromDeltas.mono _ _
      | exact spec_DrawIsCode.mono _ _
      | exact spec_FromDeltas.mono _ _ _ _
      | exact spec_IsCode.mono _ _ _
      | exact spec_IsRoundCode.mono _ _ _
      | exact LeO.none _
      | refine LeO.ite ?_ ?_
      | refine LeO.bind ?_ (fun _ => ?_)
    · intro y0
      unfold laws_FnCodes.j6
      repeat' first
      | (with_reducible exact ih0 _ _ _ _ _)
      | (with_reducible exact ih1 _ _ _ _ _ _ _)
      | (with_reducible exact ih2 _ _ _ _ _ _)
      | (with_reducible exact ih3 _ _ _ _)
      | (with_reducible exact ih4 _)
      | (with_reducible exact ih5 _ _ _ _)
      | (with_reducible exact ih6 _ _ _ _ _ _ _ _ _ _ _ _)
      | (with_reducible exact impl_ChangesOf.mono _ _ _)
      | (with_reducible exact impl_DeltasOf.mono _ _ _)
      | (with_reducible exact impl_FromDeltas.mono _ _ _ _)
      | (with_reducible exact impl_IsCode.mono _ _ _)
      | (with_reducible exact impl_IsRoundCode.mono _ _ _)
      | (with_reducible exact laws_uHas.mono _ _ _)
      | (with_reducible exact laws_uSame.mono _ _ _)
      | (with_reducible exact spec_DeltasOf.mono _ _ _)
      | (with_reducible exact spec_DrawFromDeltas.mono _ _)
      | (with_reducible exact spec_DrawIsCode.mono _ _)
      | (with_reducible exact spec_FromDeltas.mono _ _ _ _)
      | (with_reducible exact spec_IsCode.mono _ _ _)
      | (with_reducible exact spec_IsRoundCode.mono _ _ _)
      | (with_reducible exact LeO.refl _)
      | (with_reducible exact LeO.none _)
      | (with_reducible refine LeO.ite ?_ ?_)
      | (with_reducible refine LeO.bind ?_ (fun _ => ?_))
      | exact ih0 _ _ _ _ _
      | exact ih1 _ _ _ _ _ _ _
      | exact ih2 _ _ _ _ _ _
      | exact ih3 _ _ _ _
      | exact ih4 _
      | exact ih5 _ _ _ _
      | exact ih6 _ _ _ _ _ _ _ _ _ _ _ _
      | exact impl_ChangesOf.mono _ _ _
      | exact impl_DeltasOf.mono _ _ _
      | exact impl_FromDeltas.mono _ _ _ _
      | exact impl_IsCode.mono _ _ _
      | exact impl_IsRoundCode.mono _ _ _
      | exact laws_uHas.mono _ _ _
      | exact laws_uSame.mono _ _ _
      | exact spec_DeltasOf.mono _ _ _
      | exact spec_DrawFromDeltas.mono _ _
      | exact spec_DrawIsCode.mono _ _
      | exact spec_FromDeltas.mono _ _ _ _
      | exact spec_IsCode.mono _ _ _
      | exact spec_IsRoundCode.mono _ _ _
      | exact LeO.none _
      | refine LeO.ite ?_ ?_
      | refine LeO.bind ?_ (fun _ => ?_)
    · intro y0 y1 y2 y3
      unfold laws_FnCodes.l1
      repeat' first
      | (with_reducible exact ih0 _ _ _ _ _)
      | (with_reducible exact ih1 _ _ _ _ _ _ _)
      | (with_reducible exact ih2 _ _ _ _ _ _)
      | (with_reducible exact ih3 _ _ _ _)
      | (with_reducible exact ih4 _)
      | (with_reducible exact ih5 _ _ _ _)
      | (with_reducible exact ih6 _ _ _ _ _ _ _ _ _ _ _ _)
      | (with_reducible exact impl_ChangesOf.mono _ _ _)
      | (with_reducible exact impl_DeltasOf.mono _ _ _)
      | (with_reducible exact impl_FromDeltas.mono _ _ _ _)
      | (with_reducible exact impl_IsCode.mono _ _ _)
      | (with_reducible exact impl_IsRoundCode.mono _ _ _)
      | (with_reducible exact laws_uHas.mono _ _ _)
      | (with_reducible exact laws_uSame.mono _ _ _)
      | (with_reducible exact spec_DeltasOf.mono _ _ _)
      | (with_reducible exact spec_DrawFromDeltas.mono _ _)
      | (with_reducible exact spec_DrawIsCode.mono _ _)
      | (with_reducible exact spec_FromDeltas.mono _ _ _ _)
      | (with_reducible exact spec_IsCode.mono _ _ _)
      | (with_reducible exact spec_IsRoundCode.mono _ _ _)
      | (with_reducible exact LeO.refl _)
      | (with_reducible exact LeO.none _)
      | (with_reducible refine LeO.ite ?_ ?_)
      | (with_reducible refine LeO.bind ?_ (fun _ => ?_))
      | exact ih0 _ _ _ _ _
      | exact ih1 _ _ _ _ _ _ _
      | exact ih2 _ _ _ _ _ _
      | exact ih3 _ _ _ _
      | exact ih4 _
      | exact ih5 _ _ _ _
      | exact ih6 _ _ _ _ _ _ _ _ _ _ _ _
      | exact impl_ChangesOf.mono _ _ _
      | exact impl_DeltasOf.mono _ _ _
      | exact impl_FromDeltas.mono _ _ _ _
      | exact impl_IsCode.mono _ _ _
      | exact impl_IsRoundCode.mono _ _ _
      | exact laws_uHas.mono _ _ _
      | exact laws_uSame.mono _ _ _
      | exact spec_DeltasOf.mono _ _ _
      | exact spec_DrawFromDeltas.mono _ _
      | exact spec_DrawIsCode.mono _ _
      | exact spec_FromDeltas.mono _ _ _ _
      | exact spec_IsCode.mono _ _ _
      | exact spec_IsRoundCode.mono _ _ _
      | exact LeO.none _
      | refine LeO.ite ?_ ?_
      | refine LeO.bind ?_ (fun _ => ?_)
    · intro y0 y1 y2 y3 y4 y5 y6 y7 y8 y9 y10 y11
      unfold laws_FnCodes.l0
      repeat' first
      | (with_reducible exact ih0 _ _ _ _ _)
      | (with_reducible exact ih1 _ _ _ _ _ _ _)
      | (with_reducible exact ih2 _ _ _ _ _ _)
      | (with_reducible exact ih3 _ _ _ _)
      | (with_reducible exact ih4 _)
      | (with_reducible exact ih5 _ _ _ _)
      | (with_reducible exact ih6 _ _ _ _ _ _ _ _ _ _ _ _)
      | (with_reducible exact impl_ChangesOf.mono _ _ _)
      | (with_reducible exact impl_DeltasOf.mono _ _ _)
      | (with_reducible exact impl_FromDeltas.mono _ _ _ _)
      | (with_reducible exact impl_IsCode.mono _ _ _)
      | (with_reducible exact impl_IsRoundCode.mono _ _ _)
      | (with_reducible exact laws_uHas.mono _ _ _)
      | (with_reducible exact laws_uSame.mono _ _ _)
      | (with_reducible exact spec_DeltasOf.mono _ _ _)
      | (with_reducible exact spec_DrawFromDeltas.mono _ _)
      | (with_reducible exact spec_DrawIsCode.mono _ _)
      | (with_reducible exact spec_FromDeltas.mono _ _ _ _)
      | (with_reducible exact spec_IsCode.mono _ _ _)
      | (with_reducible exact spec_IsRoundCode.mono _ _ _)
      | (with_reducible exact LeO.refl _)
      | (with_reducible exact LeO.none _)
      | (with_reducible refine LeO.ite ?_ ?_)
      | (with_reducible refine LeO.bind ?_ (fun _ => ?_))
      | exact ih0 _ _ _ _ _
      | exact ih1 _ _ _ _ _ _ _
      | exact ih2 _ _ _ _ _ _
      | exact ih3 _ _ _ _
      | exact ih4 _
      | exact ih5 _ _ _ _
      | exact ih6 _ _ _ _ _ _ _ _ _ _ _ _
      | exact impl_ChangesOf.mono _ _ _
      | exact impl_DeltasOf.mono _ _ _
      | exact impl_FromDeltas.mono _ _ _ _
      | exact impl_IsCode.mono _ _ _
      | exact impl_IsRoundCode.mono _ _ _
      | exact laws_uHas.mono _ _ _
      | exact laws_uSame.mono _ _ _
      | exact spec_DeltasOf.mono _ _ _
      | exact spec_DrawFromDeltas.mono _ _
      | exact spec_DrawIsCode.mono _ _
      | exact spec_FromDeltas.mono _ _ _ _
      | exact spec_IsCode.mono _ _ _
      | exact spec_IsRoundCode.mono _ _ _
      | exact LeO.none _
      | refine LeO.ite ?_ ?_
      | refine LeO.bind ?_ (fun _ => ?_)
theorem laws_FnCodes.mono : ∀ a0 a1 k, LeO (laws_FnCodes.f k a0 a1) (laws_FnCodes.f (k + 1) a0 a1) := by
  intro a0 a1 k
  obtain ⟨ih0, ih1, ih2, ih3, ih4, ih5, ih6⟩ := laws_FnCodes.mono_l k
  unfold laws_FnCodes.f
  repeat' first
      | (with_reducible exact ih0 _ _ _ _ _)
      | (with_reducible exact ih1 _ _ _ _ _ _ _)
      | (with_reducible exact ih2 _ _ _ _ _ _)
      | (with_reducible exact ih3 _ _ _ _)
      | (with_reducible exact ih4 _)
      | (with_reducible exact ih5 _ _ _ _)
      | (with_reducible exact ih6 _ _ _ _ _ _ _ _ _ _ _ _)
      | (with_reducible exact impl_ChangesOf.mono _ _ _)
      | (with_reducible exact impl_DeltasOf.mono _ _ _)
      | (with_reducible exact impl_FromDeltas.mono _ _ _ _)
      | (with_reducible exact impl_IsCode.mono _ _ _)
      | (with_reducible exact impl_IsRoundCode.mono _ _ _)
      | (with_reducible exact laws_uHas.mono _ _ _)
      | (with_reducible exact laws_uSame.mono _ _ _)
      | (with_reducible exact spec_DeltasOf.mono _ _ _)
      | (with_reducible exact spec_DrawFromDeltas.mono _ _)
      | (with_reducible exact spec_DrawIsCode.mono _ _)
      | (with_reducible exact spec_FromDeltas.mono _ _ _ _)
      | (with_reducible exact spec_IsCode.mono _ _ _)
      | (with_reducible exact spec_IsRoundCode.mono _ _ _)
      | (with_reducible exact LeO.refl _)
      | (with_reducible exact LeO.none _)
      | (with_reducible refine LeO.ite ?_ ?_)
      | (with_reducible refine LeO.bind ?_ (fun _ => ?_))
      | exact ih0 _ _ _ _ _
      | exact ih1 _ _ _ _ _ _ _
      | exact ih2 _ _ _ _ _ _
      | exact ih3 _ _ _ _
      | exact ih4 _
      | exact ih5 _ _ _ _
      | exact ih6 _ _ _ _ _ _ _ _ _ _ _ _
      | exact impl_ChangesOf.mono _ _ _
      | exact impl_DeltasOf.mono _ _ _
      | exact impl_FromDeltas.mono _ _ _ _
      | exact impl_IsCode.mono _ _ _
      | exact impl_IsRoundCode.mono _ _ _
      | exact laws_uHas.mono _ _ _
      | exact laws_uSame.mono _ _ _
      | exact spec_DeltasOf.mono _ _ _
      | exact spec_DrawFromDeltas.mono _ _
      | exact spec_DrawIsCode.mono _ _
      | exact spec_FromDeltas.mono _ _ _ _
      | exact spec_IsCode.mono _ _ _
      | exact spec_IsRoundCode.mono _ _ _
      | exact LeO.none _
      | refine LeO.ite ?_ ?_
      | refine LeO.bind ?_ (fun _ => ?_)
set_option maxHeartbeats 8000000 in
set_option maxRecDepth 100000 in
theorem laws_FnCodes.calls (k : Nat) (A0 : Option Addr) (c0 : Nat) (l0 : List Int) (A1 : Option Addr) (c1 : Nat) (l1 : List Int) (r : Bool) (w : World) (hr0 : Kd.C (Kd.int .u8) w A0 l0.length l0) (hc0 : l0.length ≤ c0) (hr1 : Kd.C (Kd.int .u8) w A1 l1.length l1) (hc1 : l1.length ≤ c1) (h : laws_FnCodes.f k l0 l1 = some r) (hT_ : Tab_ w) :
    Calls Tryd.prog 12 #[.slice A0 l0.length c0, .slice A1 l1.length c1] w fun e w' => e = .returned (.bool r) ∧ Below w.heap.size w w' := by
  have HTab_ := Aside0.mk hT_
  clear hT_
  have HR0 := Aside0.mk hr0
  have HC0 := Aside0.mk hc0
  clear hr0 hc0
  have HR1 := Aside0.mk hr1
  have HC1 := Aside0.mk hc1
  clear hr1 hc1
  have HB := Aside0.mk (Below.refl w.heap.size w)
  have H : ((laws_big.f l0 l1).bind fun t459 => (if t459 = true then (some true) else ((spec_DrawIsCode.f k l0).bind fun bt460 => ((impl_IsCode.f k bt460.1 bt460.2).bind fun bt464 => ((spec_IsCode.f k bt460.1 bt460.2).bind fun bt466 => ((impl_IsRoundCode.f k bt460.1 bt460.2).bind fun bt468 => ((spec_IsRoundCode.f k bt460.1 bt460.2).bind fun bt470 => (if (bt464.2 != bt466.2) = true then (laws_FnCodes.j0 k l1 bt460.1 bt460.2 bt464.1 true) else (if (bt464.1 != bt466.1) = true then (laws_FnCodes.j0 k l1 bt460.1 bt460.2 bt464.1 true) else (if (bt468.2 != bt470.2) = true then (laws_FnCodes.j0 k l1 bt460.1 bt460.2 bt464.1 true) else (if (bt468.1 != bt470.1) = true then (laws_FnCodes.j0 k l1 bt460.1 bt460.2 bt464.1 true) else (if bt468.1 = true then (laws_FnCodes.j0 k l1 bt460.1 bt460.2 bt464.1 (!bt464.1)) else (laws_FnCodes.j0 k l1 bt460.1 bt460.2 bt464.1 false))))))))))))) = some r := h
  clear h
  replace H := Option.bind_eq_some_iff.mp H
  obtain ⟨t459, A30, H⟩ := H
  replace H : (if t459 = true then (some true) else ((spec_DrawIsCode.f k l0).bind fun bt460 => ((impl_IsCode.f k bt460.1 bt460.2).bind fun bt464 => ((spec_IsCode.f k bt460.1 bt460.2).bind fun bt466 => ((impl_IsRoundCode.f k bt460.1 bt460.2).bind fun bt468 => ((spec_IsRoundCode.f k bt460.1 bt460.2).bind fun bt470 => (if (bt464.2 != bt466.2) = true then (laws_FnCodes.j0 k l1 bt460.1 bt460.2 bt464.1 true) else (if (bt464.1 != bt466.1) = true then (laws_FnCodes.j0 k l1 bt460.1 bt460.2 bt464.1 true) else (if (bt468.2 != bt470.2) = true then (laws_FnCodes.j0 k l1 bt460.1 bt460.2 bt464.1 true) else (if (bt468.1 != bt470.1) = true then (laws_FnCodes.j0 k l1 bt460.1 bt460.2 bt464.1 true) else (if bt468.1 = true then (laws_FnCodes.j0 k l1 bt460.1 bt460.2 bt464.1 (!bt464.1)) else (laws_FnCodes.j0 k l1 bt460.1 bt460.2 bt464.1 false)))))))))))) = some r := H
  have A3 := Aside0.mk A30
  clear A30
  by_cases c4 : t459 = true
  · subst c4
    have H1 : (some true) = some r := by rw [if_pos rfl] at H; exact H
    clear H
    have H := H1
    clear H1
    obtain rfl := Option.some.inj H
    go_enter Tryd.func12, Tryd.ntmps12
    go_wp2_with (first | ((with_reducible refine gate_callee (f := 39) rfl ?_); refine goesL_ (some 36) rfl rfl Tryd.func39 (by kernel_rfl) rfl #[.slice A0 l0.length c0, .slice A1 l1.length c1] rfl (by (try simp only [List.map_toArray, List.map_cons, List.map_nil]); first | done | rfl | (simp only [List.length_drop, List.length_take]; rfl)) ?_; (with_reducible refine (laws_big.calls _ _ l0 _ _ l1 true _ ?side1 ?side2 ?side3 ?side4 A3.out).mono ?_); (case side1 => repeat (first | exact HR0.out | (with_reducible refine Kd.C_alloc ?_ _) | (with_reducible refine Kd.C_drewN ?_ _) | (with_reducible refine Kd.C_drew ?_))); (case side2 => exact HC0.out); (case side3 => repeat (first | exact HR1.out | (with_reducible refine Kd.C_alloc ?_ _) | (with_reducible refine Kd.C_drewN ?_ _) | (with_reducible refine Kd.C_drew ?_))); (case side4 => exact HC1.out); rintro e w' ⟨rfl, ⟨nd, rfl⟩⟩; refine ⟨_, rfl, ?_⟩))
    go_ret
    exact ⟨by first | rfl | (simp [errW_none, errW_some] <;> rfl) | (simp [*, errW_none, errW_some] <;> rfl), by repeat (first | (with_reducible first | exact HB.out | apply below_alloc | apply pw_below_drewN | apply below_drew1) | exact HB.out | exact Below.refl _ _)⟩
  · replace c4 := Bool.eq_false_iff.mpr c4
    subst c4
    have H1 : ((spec_DrawIsCode.f k l0).bind fun bt460 => ((impl_IsCode.f k bt460.1 bt460.2).bind fun bt464 => ((spec_IsCode.f k bt460.1 bt460.2).bind fun bt466 => ((impl_IsRoundCode.f k bt460.1 bt460.2).bind fun bt468 => ((spec_IsRoundCode.f k bt460.1 bt460.2).bind fun bt470 => (if (bt464.2 != bt466.2) = true then (laws_FnCodes.j0 k l1 bt460.1 bt460.2 bt464.1 true) else (if (bt464.1 != bt466.1) = true then (laws_FnCodes.j0 k l1 bt460.1 bt460.2 bt464.1 true) else (if (bt468.2 != bt470.2) = true then (laws_FnCodes.j0 k l1 bt460.1 bt460.2 bt464.1 true) else (if (bt468.1 != bt470.1) = true then (laws_FnCodes.j0 k l1 bt460.1 bt460.2 bt464.1 true) else (if bt468.1 = true then (laws_FnCodes.j0 k l1 bt460.1 bt460.2 bt464.1 (!bt464.1)) else (laws_FnCodes.j0 k l1 bt460.1 bt460.2 bt464.1 false))))))))))) = some r := by rw [if_neg (show ¬ (false = true) by decide)] at H; exact H
    clear H
    have H := H1
    clear H1
    replace H := Option.bind_eq_some_iff.mp H
    obtain ⟨⟨t460, t461⟩, A50, H⟩ := H
    replace H : ((impl_IsCode.f k t460 t461).bind fun bt464 => ((spec_IsCode.f k t460 t461).bind fun bt466 => ((impl_IsRoundCode.f k t460 t461).bind fun bt468 => ((spec_IsRoundCode.f k t460 t461).bind fun bt470 => (if (bt464.2 != bt466.2) = true then (laws_FnCodes.j0 k l1 t460 t461 bt464.1 true) else (if (bt464.1 != bt466.1) = true then (laws_FnCodes.j0 k l1 t460 t461 bt464.1 true) else (if (bt468.2 != bt470.2) = true then (laws_FnCodes.j0 k l1 t460 t461 bt464.1 true) else (if (bt468.1 != bt470.1) = true then (laws_FnCodes.j0 k l1 t460 t461 bt464.1 true) else (if bt468.1 = true then (laws_FnCodes.j0 k l1 t460 t461 bt464.1 (!bt464.1)) else (laws_FnCodes.j0 k l1 t460 t461 bt464.1 false)))))))))) = some r := H
    have A5 := Aside0.mk A50
    clear A50
    replace H := Option.bind_eq_some_iff.mp H
    obtain ⟨⟨t464, t465⟩, A60, H⟩ := H
    replace H : ((spec_IsCode.f k t460 t461).bind fun bt466 => ((impl_IsRoundCode.f k t460 t461).bind fun bt468 => ((spec_IsRoundCode.f k t460 t461).bind fun bt470 => (if (t465 != bt466.2) = true then (laws_FnCodes.j0 k l1 t460 t461 t464 true) else (if (t464 != bt466.1) = true then (laws_FnCodes.j0 k l1 t460 t461 t464 true) else (if (bt468.2 != bt470.2) = true then (laws_FnCodes.j0 k l1 t460 t461 t464 true) else (if (bt468.1 != bt470.1) = true then (laws_FnCodes.j0 k l1 t460 t461 t464 true) else (if bt468.1 = true then (laws_FnCodes.j0 k l1 t460 t461 t464 (!t464)) else (laws_FnCodes.j0 k l1 t460 t461 t464 false))))))))) = some r := H
    have A6 := Aside0.mk A60
    clear A60
    replace H := Option.bind_eq_some_iff.mp H
    obtain ⟨⟨t466, t467⟩, A70, H⟩ := H
    replace H : ((impl_IsRoundCode.f k t460 t461).bind fun bt468 => ((spec_IsRoundCode.f k t460 t461).bind fun bt470 => (if (t465 != t467) = true then (laws_FnCodes.j0 k l1 t460 t461 t464 true) else (if (t464 != t466) = true then (laws_FnCodes.j0 k l1 t460 t461 t464 true) else (if (bt468.2 != bt470.2) = true then (laws_FnCodes.j0 k l1 t460 t461 t464 true) else (if (bt468.1 != bt470.1) = true then (laws_FnCodes.j0 k l1 t460 t461 t464 true) else (if bt468.1 = true then (laws_FnCodes.j0 k l1 t460 t461 t464 (!t464)) else (laws_FnCodes.j0 k l1 t460 t461 t464 false)))))))) = some r := H
    have A7 := Aside0.mk A70
    clear A70
    replace H := Option.bind_eq_some_iff.mp H
    obtain ⟨⟨t468, t469⟩, A80, H⟩ := H
    replace H : ((spec_IsRoundCode.f k t460 t461).bind fun bt470 => (if (t465 != t467) = true then (laws_FnCodes.j0 k l1 t460 t461 t464 true) else (if (t464 != t466) = true then (laws_FnCodes.j0 k l1 t460 t461 t464 true) else (if (t469 != bt470.2) = true then (laws_FnCodes.j0 k l1 t460 t461 t464 true) else (if (t468 != bt470.1) = true then (laws_FnCodes.j0 k l1 t460 t461 t464 true) else (if t468 = true then (laws_FnCodes.j0 k l1 t460 t461 t464 (!t464)) else (laws_FnCodes.j0 k l1 t460 t461 t464 false))))))) = some r := H
    have A8 := Aside0.mk A80
    clear A80
    replace H := Option.bind_eq_some_iff.mp H
    obtain ⟨⟨t470, t471⟩, A90, H⟩ := H
    replace H : (if (t465 != t467) = true then (laws_FnCodes.j0 k l1 t460 t461 t464 true) else (if (t464 != t466) = true then (laws_FnCodes.j0 k l1 t460 t461 t464 true) else (if (t469 != t471) = true then (laws_FnCodes.j0 k l1 t460 t461 t464 true) else (if (t468 != t470) = true then (laws_FnCodes.j0 k l1 t460 t461 t464 true) else (if t468 = true then (laws_FnCodes.j0 k l1 t460 t461 t464 (!t464)) else (laws_FnCodes.j0 k l1 t460 t461 t464 false)))))) = some r := H
    have A9 := Aside0.mk A90
    clear A90
    have HC10 := Aside0.mk H
    clear H
    go_enter Tryd.func12, Tryd.ntmps12
    go_upto_region 8 with (first | ((with_reducible refine gate_callee (f := 39) rfl ?_); refine goesL_ (some 36) rfl rfl Tryd.func39 (by kernel_rfl) rfl #[.slice A0 l0.length c0, .slice A1 l1.length c1] rfl (by (try simp only [List.map_toArray, List.map_cons, List.map_nil]); first | done | rfl | (simp only [List.length_drop, List.length_take]; rfl)) ?_; (with_reducible refine (laws_big.calls _ _ l0 _ _ l1 false _ ?side1 ?side2 ?side3 ?side4 A3.out).mono ?_); (case side1 => repeat (first | exact HR0.out | (with_reducible refine Kd.C_alloc ?_ _) | (with_reducible refine Kd.C_drewN ?_ _) | (with_reducible refine Kd.C_drew ?_))); (case side2 => exact HC0.out); (case side3 => repeat (first | exact HR1.out | (with_reducible refine Kd.C_alloc ?_ _) | (with_reducible refine Kd.C_drewN ?_ _) | (with_reducible refine Kd.C_drew ?_))); (case side4 => exact HC1.out); rintro e w' ⟨rfl, ⟨nd, rfl⟩⟩; refine ⟨_, rfl, ?_⟩) | ((with_reducible refine gate_callee (f := 40) rfl ?_); refine goesL_ (some 39) rfl rfl Tryd.func40 (by kernel_rfl) rfl #[.slice A0 l0.length c0] rfl (by (try simp only [List.map_toArray, List.map_cons, List.map_nil]); first | done | rfl | (simp only [List.length_drop, List.length_take]; rfl)) ?_; (with_reducible refine (spec_DrawIsCode.calls k _ _ l0 t460 t461 _ ?side1 ?side2 A5.out).mono ?_); (case side1 => repeat (first | exact HR0.out | (with_reducible refine Kd.C_alloc ?_ _) | (with_reducible refine Kd.C_drewN ?_ _) | (with_reducible refine Kd.C_drew ?_))); (case side2 => exact HC0.out); rintro e w11 ⟨v462, rfl, ho0, hb⟩; refine ⟨_, rfl, ?_⟩; have n0_ := Aside0.mk (Kd.R_lower ho0 (below_size (by repeat (first | (with_reducible first | exact HB.out | apply below_alloc | apply pw_below_drewN | apply below_drew1) | exact HB.out | exact Below.refl _ _)))); have n1_ := Aside0.mk (below_step (by repeat (first | (with_reducible first | exact HB.out | apply below_alloc | apply pw_below_drewN | apply below_drew1) | exact HB.out | exact Below.refl _ _)) hb); clear HB; have HO463 := n0_; have HB := n1_; clear n0_ n1_; (try clear hb); (try clear hb2); (try clear hk); (try clear hi); (try clear ho0); obtain ⟨Ao12, co12, eo12⟩ := Kd.R_slice HO463.out; subst eo12) | ((with_reducible refine gate_callee (f := 30) rfl ?_); refine goesL_ (some 45) rfl rfl Tryd.func30 (by kernel_rfl) rfl #[.int .i64 t460, .slice Ao12 t461.length co12] rfl (by (try simp only [List.map_toArray, List.map_cons, List.map_nil]); first | done | rfl | (simp only [List.length_drop, List.length_take]; rfl)) ?_; (with_reducible refine (impl_IsCode.calls k t460 _ _ t461 t464 t465 _ ?side1 ?side2 A6.out ?tab_).mono ?_); (case tab_ => first | exact HTab_.out | ((repeat (first | exact HTab_.out | (with_reducible refine Tab_.drewN ?_ _) | (with_reducible refine Tab_.drew ?_) | (with_reducible refine Tab_.alloc ?_ _))); done) | (refine Tab_.below HTab_.out ?_; (repeat (first | (with_reducible first | exact HB.out | apply below_alloc | apply pw_below_drewN | apply below_drew1) | exact HB.out | exact Below.refl _ _)); done)); (case side1 => repeat (first | exact (Kd.R_reads' HO463.out).2.2 | (with_reducible refine Kd.C_alloc ?_ _) | (with_reducible refine Kd.C_drewN ?_ _) | (with_reducible refine Kd.C_drew ?_))); (case side2 => exact (Kd.R_reads' HO463.out).2.1); rintro e w13 ⟨rfl, hb⟩; refine ⟨_, rfl, ?_⟩; have n0_ := Aside0.mk (Kd.R_below (by (with_reducible repeat (first | apply Kd.R_alloc | apply Kd.R_drewN | apply Kd.R_drew)); exact HO463.out) hb); have n1_ := Aside0.mk (below_step (by repeat (first | (with_reducible first | exact HB.out | apply below_alloc | apply pw_below_drewN | apply below_drew1) | exact HB.out | exact Below.refl _ _)) hb); clear HO463; clear HB; have HO463 := n0_; have HB := n1_; clear n0_ n1_; (try clear hb); (try clear hb2); (try clear hk); (try clear hi)) | ((with_reducible refine gate_callee (f := 29) rfl ?_); refine goesL_ (some 51) rfl rfl Tryd.func29 (by kernel_rfl) rfl #[.int .i64 t460, .slice Ao12 t461.length co12] rfl (by (try simp only [List.map_toArray, List.map_cons, List.map_nil]); first | done | rfl | (simp only [List.length_drop, List.length_take]; rfl)) ?_; (with_reducible refine (spec_IsCode.calls k t460 _ _ t461 t466 t467 _ ?side1 ?side2 A7.out).mono ?_); (case side1 => repeat (first | exact (Kd.R_reads' HO463.out).2.2 | (with_reducible refine Kd.C_alloc ?_ _) | (with_reducible refine Kd.C_drewN ?_ _) | (with_reducible refine Kd.C_drew ?_))); (case side2 => exact (Kd.R_reads' HO463.out).2.1); rintro e w14 ⟨rfl, hb⟩; refine ⟨_, rfl, ?_⟩; have n0_ := Aside0.mk (Kd.R_below (by (with_reducible repeat (first | apply Kd.R_alloc | apply Kd.R_drewN | apply Kd.R_drew)); exact HO463.out) hb); have n1_ := Aside0.mk (below_step (by repeat (first | (with_reducible first | exact HB.out | apply below_alloc | apply pw_below_drewN | apply below_drew1) | exact HB.out | exact Below.refl _ _)) hb); clear HO463; clear HB; have HO463 := n0_; have HB := n1_; clear n0_ n1_; (try clear hb); (try clear hb2); (try clear hk); (try clear hi)) | ((with_reducible refine gate_callee (f := 32) rfl ?_); refine goesL_ (some 57) rfl rfl Tryd.func32 (by kernel_rfl) rfl #[.int .i64 t460, .slice Ao12 t461.length co12] rfl (by (try simp only [List.map_toArray, List.map_cons, List.map_nil]); first | done | rfl | (simp only [List.length_drop, List.length_take]; rfl)) ?_; (with_reducible refine (impl_IsRoundCode.calls k t460 _ _ t461 t468 t469 _ ?side1 ?side2 A8.out ?tab_).mono ?_); (case tab_ => first | exact HTab_.out | ((repeat (first | exact HTab_.out | (with_reducible refine Tab_.drewN ?_ _) | (with_reducible refine Tab_.drew ?_) | (with_reducible refine Tab_.alloc ?_ _))); done) | (refine Tab_.below HTab_.out ?_; (repeat (first | (with_reducible first | exact HB.out | apply below_alloc | apply pw_below_drewN | apply below_drew1) | exact HB.out | exact Below.refl _ _)); done)); (case side1 => repeat (first | exact (Kd.R_reads' HO463.out).2.2 | (with_reducible refine Kd.C_alloc ?_ _) | (with_reducible refine Kd.C_drewN ?_ _) | (with_reducible refine Kd.C_drew ?_))); (case side2 => exact (Kd.R_reads' HO463.out).2.1); rintro e w15 ⟨rfl, hb⟩; refine ⟨_, rfl, ?_⟩; have n0_ := Aside0.mk (Kd.R_below (by (with_reducible repeat (first | apply Kd.R_alloc | apply Kd.R_drewN | apply Kd.R_drew)); exact HO463.out) hb); have n1_ := Aside0.mk (below_step (by repeat (first | (with_reducible first | exact HB.out | apply below_alloc | apply pw_below_drewN | apply below_drew1) | exact HB.out | exact Below.refl _ _)) hb); clear HO463; clear HB; have HO463 := n0_; have HB := n1_; clear n0_ n1_; (try clear hb); (try clear hb2); (try clear hk); (try clear hi)) | ((with_reducible refine gate_callee (f := 31) rfl ?_); refine goesL_ (some 63) rfl rfl Tryd.func31 (by kernel_rfl) rfl #[.int .i64 t460, .slice Ao12 t461.length co12] rfl (by (try simp only [List.map_toArray, List.map_cons, List.map_nil]); first | done | rfl | (simp only [List.length_drop, List.length_take]; rfl)) ?_; (with_reducible refine (spec_IsRoundCode.calls k t460 _ _ t461 t470 t471 _ ?side1 ?side2 A9.out).mono ?_); (case side1 => repeat (first | exact (Kd.R_reads' HO463.out).2.2 | (with_reducible refine Kd.C_alloc ?_ _) | (with_reducible refine Kd.C_drewN ?_ _) | (with_reducible refine Kd.C_drew ?_))); (case side2 => exact (Kd.R_reads' HO463.out).2.1); rintro e w16 ⟨rfl, hb⟩; refine ⟨_, rfl, ?_⟩; have n0_ := Aside0.mk (Kd.R_below (by (with_reducible repeat (first | apply Kd.R_alloc | apply Kd.R_drewN | apply Kd.R_drew)); exact HO463.out) hb); have n1_ := Aside0.mk (below_step (by repeat (first | (with_reducible first | exact HB.out | apply below_alloc | apply pw_below_drewN | apply below_drew1) | exact HB.out | exact Below.refl _ _)) hb); clear HO463; clear HB; have HO463 := n0_; have HB := n1_; clear n0_ n1_; (try clear hb); (try clear hb2); (try clear hk); (try clear hi)))
    (try simp only [Act.put, List.setIfInBounds_toArray, List.set_cons_zero, List.set_cons_succ])
    go_cut [90] (fun v90 wc => ∃ (kq : Nat) (x90_9 : Bool), v90 = .bool x90_9 ∧ Aside0 (laws_FnCodes.j0 kq l1 t460 t461 t464 x90_9 = some r) ∧ Aside0 (kq ≤ k) ∧ Aside0 (Kd.R (Kd.int .i64) 3 wc w.heap.size (fun _ => True) (.slice Ao12 t461.length co12) t461) ∧ Aside0 (Below w.heap.size w wc))
    case first =>
      have H := HC10.out
      clear HC10
      by_cases c17 : (t465 != t467) = true
      · rw [if_pos c17] at H
        have c17b0 : (t465 != t467) = true := c17
        (try (have c17b1 : decide (t465 = t467) = false := by simpa using c17))
        (try (have c17b2 : (t465 == t467) = false := by simpa using c17))
        (try (have c17b3 : ¬ (t465 = t467) := by simpa using c17))
        clear c17
        (first | rw [c17b0] | (simp only [i64_w, i32_w]; rw [c17b0]) | skip)
        have H' := Aside0.mk H
        clear H
        go_wp2
        go_meet
        case rel => exact ⟨_, (true), (by first | rfl | (simp; done) | (simp [*]; done)), H', ⟨by first | omega | exact Nat.le_refl _⟩, ⟨by (with_reducible repeat (first | apply Kd.R_alloc | apply Kd.R_drewN | apply Kd.R_drew)); exact HO463.out⟩, ⟨by repeat (first | (with_reducible first | exact HB.out | apply below_alloc | apply pw_below_drewN | apply below_drew1) | exact HB.out | exact Below.refl _ _)⟩⟩
      · rw [if_neg c17] at H
        have c17b0 : (t465 != t467) = false := by simpa using c17
        (try (have c17b1 : decide (t465 = t467) = true := by simpa using c17))
        (try (have c17b2 : (t465 == t467) = true := by simpa using c17))
        clear c17
        (first | rw [c17b0] | (simp only [i64_w, i32_w]; rw [c17b0]) | skip)
        by_cases c18 : (t464 != t466) = true
        · rw [if_pos c18] at H
          have c18b0 : (t464 != t466) = true := c18
          (try (have c18b1 : decide (t464 = t466) = false := by simpa using c18))
          (try (have c18b2 : (t464 == t466) = false := by simpa using c18))
          (try (have c18b3 : ¬ (t464 = t466) := by simpa using c18))
          clear c18
          have H' := Aside0.mk H
          clear H
          go_wp2
          go_meet
          case rel => exact ⟨_, (true), (by first | rfl | (simp; done) | (simp [*]; done)), H', ⟨by first | omega | exact Nat.le_refl _⟩, ⟨by (with_reducible repeat (first | apply Kd.R_alloc | apply Kd.R_drewN | apply Kd.R_drew)); exact HO463.out⟩, ⟨by repeat (first | (with_reducible first | exact HB.out | apply below_alloc | apply pw_below_drewN | apply below_drew1) | exact HB.out | exact Below.refl _ _)⟩⟩
        · rw [if_neg c18] at H
          have c18b0 : (t464 != t466) = false := by simpa using c18
          (try (have c18b1 : decide (t464 = t466) = true := by simpa using c18))
          (try (have c18b2 : (t464 == t466) = true := by simpa using c18))
          clear c18
          by_cases c19 : (t469 != t471) = true
          · rw [if_pos c19] at H
            have c19b0 : (t469 != t471) = true := c19
            (try (have c19b1 : decide (t469 = t471) = false := by simpa using c19))
            (try (have c19b2 : (t469 == t471) = false := by simpa using c19))
            (try (have c19b3 : ¬ (t469 = t471) := by simpa using c19))
            clear c19
            have H' := Aside0.mk H
            clear H
            go_wp2
            go_meet
            case rel => exact ⟨_, (true), (by first | rfl | (simp; done) | (simp [*]; done)), H', ⟨by first | omega | exact Nat.le_refl _⟩, ⟨by (with_reducible repeat (first | apply Kd.R_alloc | apply Kd.R_drewN | apply Kd.R_drew)); exact HO463.out⟩, ⟨by repeat (first | (with_reducible first | exact HB.out | apply below_alloc | apply pw_below_drewN | apply below_drew1) | exact HB.out | exact Below.refl _ _)⟩⟩
          · rw [if_neg c19] at H
            have c19b0 : (t469 != t471) = false := by simpa using c19
            (try (have c19b1 : decide (t469 = t471) = true := by simpa using c19))
            (try (have c19b2 : (t469 == t471) = true := by simpa using c19))
            clear c19
            by_cases c20 : (t468 != t470) = true
            · rw [if_pos c20] at H
              have c20b0 : (t468 != t470) = true := c20
              (try (have c20b1 : decide (t468 = t470) = false := by simpa using c20))
              (try (have c20b2 : (t468 == t470) = false := by simpa using c20))
              (try (have c20b3 : ¬ (t468 = t470) := by simpa using c20))
              clear c20
              have H' := Aside0.mk H
              clear H
              go_wp2
              go_meet
              case rel => exact ⟨_, (true), (by first | rfl | (simp; done) | (simp [*]; done)), H', ⟨by first | omega | exact Nat.le_refl _⟩, ⟨by (with_reducible repeat (first | apply Kd.R_alloc | apply Kd.R_drewN | apply Kd.R_drew)); exact HO463.out⟩, ⟨by repeat (first | (with_reducible first | exact HB.out | apply below_alloc | apply pw_below_drewN | apply below_drew1) | exact HB.out | exact Below.refl _ _)⟩⟩
            · rw [if_neg c20] at H
              have c20b0 : (t468 != t470) = false := by simpa using c20
              (try (have c20b1 : decide (t468 = t470) = true := by simpa using c20))
              (try (have c20b2 : (t468 == t470) = true := by simpa using c20))
              clear c20
              by_cases c21 : t468 = true
              · subst c21
                have H1 : (laws_FnCodes.j0 k l1 t460 t461 t464 (!t464)) = some r := by rw [if_pos rfl] at H; exact H
                clear H
                have H := H1
                clear H1
                have H' := Aside0.mk H
                clear H
                go_wp2
                go_meet
                case rel => exact ⟨_, (!t464), (by first | rfl | (simp; done) | (simp [*]; done)), H', ⟨by first | omega | exact Nat.le_refl _⟩, ⟨by (with_reducible repeat (first | apply Kd.R_alloc | apply Kd.R_drewN | apply Kd.R_drew)); exact HO463.out⟩, ⟨by repeat (first | (with_reducible first | exact HB.out | apply below_alloc | apply pw_below_drewN | apply below_drew1) | exact HB.out | exact Below.refl _ _)⟩⟩
              · replace c21 := Bool.eq_false_iff.mpr c21
                subst c21
                have H1 : (laws_FnCodes.j0 k l1 t460 t461 t464 false) = some r := by rw [if_neg (show ¬ (false = true) by decide)] at H; exact H
                clear H
                have H := H1
                clear H1
                have H' := Aside0.mk H
                clear H
                go_wp2
                go_meet
                case rel => exact ⟨_, (false), (by first | rfl | (simp; done) | (simp [*]; done)), H', ⟨by first | omega | exact Nat.le_refl _⟩, ⟨by (with_reducible repeat (first | apply Kd.R_alloc | apply Kd.R_drewN | apply Kd.R_drew)); exact HO463.out⟩, ⟨by repeat (first | (with_reducible first | exact HB.out | apply below_alloc | apply pw_below_drewN | apply below_drew1) | exact HB.out | exact Below.refl _ _)⟩⟩
    case rest => as_aux_lemma =>
      clear HC10
      try clear c1
      try clear c2
      try clear p2
      try clear c3
      try clear c4
      try clear c12
      try clear c17
      try clear c17b0
      try clear c17b1
      try clear c17b2
      try clear c18
      try clear c18b0
      try clear c18b1
      try clear c18b2
      try clear c19
      try clear c19b0
      try clear c19b1
      try clear c19b2
      try clear c20
      try clear c20b0
      try clear c20b1
      try clear c20b2
      try clear c21
      obtain ⟨kq, x90_9, rfl, HA, HJ9, HO_6, HB⟩ := hcut
      cases kq with
      | zero => exact absurd HA.out (by simp [laws_FnCodes.j0])
      | succ kj9 =>
        have H := HA.out
        clear HA
        simp only [laws_FnCodes.j0] at H
        by_cases c22 : x90_9 = true
        · subst c22
          have H1 : (some false) = some r := by rw [if_pos rfl] at H; exact H
          clear H
          have H := H1
          clear H1
          obtain rfl := Option.some.inj H
          go_wp2
          go_ret
          exact ⟨by first | rfl | (simp [errW_none, errW_some] <;> rfl) | (simp [*, errW_none, errW_some] <;> rfl), by repeat (first | (with_reducible first | exact HB.out | apply below_alloc | apply pw_below_drewN | apply below_drew1) | exact HB.out | exact Below.refl _ _)⟩
        · replace c22 := Bool.eq_false_iff.mpr c22
          subst c22
          have H1 : ((impl_DeltasOf.f kj9 t460 t461).bind fun bt472 => ((spec_DeltasOf.f kj9 t460 t461).bind fun bt476 => (if (bt472.2 != bt476.2) = true then (laws_FnCodes.j1 kj9 l1 t460 t461 t464 bt472.1 bt472.2 true) else ((laws_uSame.f kj9 bt472.1 bt476.1).bind fun t480 => (if t480 = true then (if t464 = true then (laws_FnCodes.j1 kj9 l1 t460 t461 t464 bt472.1 bt472.2 (!bt472.2)) else (laws_FnCodes.j1 kj9 l1 t460 t461 t464 bt472.1 bt472.2 false)) else (laws_FnCodes.j1 kj9 l1 t460 t461 t464 bt472.1 bt472.2 true)))))) = some r := by rw [if_neg (show ¬ (false = true) by decide)] at H; exact H
          clear H
          have H := H1
          clear H1
          replace H := Option.bind_eq_some_iff.mp H
          obtain ⟨⟨t472, t473⟩, A230, H⟩ := H
          replace H : ((spec_DeltasOf.f kj9 t460 t461).bind fun bt476 => (if (t473 != bt476.2) = true then (laws_FnCodes.j1 kj9 l1 t460 t461 t464 t472 t473 true) else ((laws_uSame.f kj9 t472 bt476.1).bind fun t480 => (if t480 = true then (if t464 = true then (laws_FnCodes.j1 kj9 l1 t460 t461 t464 t472 t473 (!t473)) else (laws_FnCodes.j1 kj9 l1 t460 t461 t464 t472 t473 false)) else (laws_FnCodes.j1 kj9 l1 t460 t461 t464 t472 t473 true))))) = some r := H
          have A23 := Aside0.mk A230
          clear A230
          replace H := Option.bind_eq_some_iff.mp H
          obtain ⟨⟨t476, t477⟩, A240, H⟩ := H
          replace H : (if (t473 != t477) = true then (laws_FnCodes.j1 kj9 l1 t460 t461 t464 t472 t473 true) else ((laws_uSame.f kj9 t472 t476).bind fun t480 => (if t480 = true then (if t464 = true then (laws_FnCodes.j1 kj9 l1 t460 t461 t464 t472 t473 (!t473)) else (laws_FnCodes.j1 kj9 l1 t460 t461 t464 t472 t473 false)) else (laws_FnCodes.j1 kj9 l1 t460 t461 t464 t472 t473 true)))) = some r := H
          have A24 := Aside0.mk A240
          clear A240
          have HC25 := Aside0.mk H
          clear H
          go_upto_region 12 with (first | ((with_reducible refine gate_callee (f := 23) rfl ?_); refine goesL_ (some 94) rfl rfl Tryd.func23 (by kernel_rfl) rfl #[.int .i64 t460, .slice Ao12 t461.length co12] rfl (by (try simp only [List.map_toArray, List.map_cons, List.map_nil]); first | done | rfl | (simp only [List.length_drop, List.length_take]; rfl)) ?_; (with_reducible refine (impl_DeltasOf.calls kj9 t460 _ _ t461 t472 t473 _ ?side1 ?side2 A23.out ?tab_).mono ?_); (case tab_ => first | exact HTab_.out | ((repeat (first | exact HTab_.out | (with_reducible refine Tab_.drewN ?_ _) | (with_reducible refine Tab_.drew ?_) | (with_reducible refine Tab_.alloc ?_ _))); done) | (refine Tab_.below HTab_.out ?_; (repeat (first | (with_reducible first | exact HB.out | apply below_alloc | apply pw_below_drewN | apply below_drew1) | exact HB.out | exact Below.refl _ _)); done)); (case side1 => repeat (first | exact (Kd.R_reads' HO_6.out).2.2 | (with_reducible refine Kd.C_alloc ?_ _) | (with_reducible refine Kd.C_drewN ?_ _) | (with_reducible refine Kd.C_drew ?_))); (case side2 => exact (Kd.R_reads' HO_6.out).2.1); rintro e w26 ⟨v474, rfl, ho0, hb⟩; refine ⟨_, rfl, ?_⟩; have n0_ := Aside0.mk (Kd.R_elder' (by (with_reducible repeat (first | apply Kd.R_alloc | apply Kd.R_drewN | apply Kd.R_drew)); exact HO_6.out) (Kd.R_base ho0) hb); have n1_ := Aside0.mk (Kd.R_lower (Kd.R_new' ho0 (Kd.R_lt (by (with_reducible repeat (first | apply Kd.R_alloc | apply Kd.R_drewN | apply Kd.R_drew)); exact HO_6.out))) (below_size (by repeat (first | (with_reducible first | exact HB.out | apply below_alloc | apply pw_below_drewN | apply below_drew1) | exact HB.out | exact Below.refl _ _)))); have n2_ := Aside0.mk (below_step (by repeat (first | (with_reducible first | exact HB.out | apply below_alloc | apply pw_below_drewN | apply below_drew1) | exact HB.out | exact Below.refl _ _)) hb); clear HO_6; clear HB; have HO_6 := n0_; have HO475 := n1_; have HB := n2_; clear n0_ n1_ n2_; (try clear hb); (try clear hb2); (try clear hk); (try clear hi); (try clear ho0)) | ((with_reducible refine gate_callee (f := 21) rfl ?_); refine goesL_ (some 100) rfl rfl Tryd.func21 (by kernel_rfl) rfl #[.int .i64 t460, .slice Ao12 t461.length co12] rfl (by (try simp only [List.map_toArray, List.map_cons, List.map_nil]); first | done | rfl | (simp only [List.length_drop, List.length_take]; rfl)) ?_; (with_reducible refine (spec_DeltasOf.calls kj9 t460 _ _ t461 t476 t477 _ ?side1 ?side2 A24.out).mono ?_); (case side1 => repeat (first | exact (Kd.R_reads' HO_6.out).2.2 | (with_reducible refine Kd.C_alloc ?_ _) | (with_reducible refine Kd.C_drewN ?_ _) | (with_reducible refine Kd.C_drew ?_))); (case side2 => exact (Kd.R_reads' HO_6.out).2.1); rintro e w27 ⟨v478, rfl, ho0, hb⟩; refine ⟨_, rfl, ?_⟩; have n0_ := Aside0.mk (Kd.R_elder' (by (with_reducible repeat (first | apply Kd.R_alloc | apply Kd.R_drewN | apply Kd.R_drew)); exact HO_6.out) (Kd.R_base ho0) hb); have n1_ := Aside0.mk (Kd.R_elder' (by (with_reducible repeat (first | apply Kd.R_alloc | apply Kd.R_drewN | apply Kd.R_drew)); exact HO475.out) (Kd.R_base ho0) hb); have n2_ := Aside0.mk (Kd.R_lower (Kd.R_new' (Kd.R_new' ho0 (Kd.R_lt (by (with_reducible repeat (first | apply Kd.R_alloc | apply Kd.R_drewN | apply Kd.R_drew)); exact HO_6.out))) (Kd.R_lt (by (with_reducible repeat (first | apply Kd.R_alloc | apply Kd.R_drewN | apply Kd.R_drew)); exact HO475.out))) (below_size (by repeat (first | (with_reducible first | exact HB.out | apply below_alloc | apply pw_below_drewN | apply below_drew1) | exact HB.out | exact Below.refl _ _)))); have n3_ := Aside0.mk (below_step (by repeat (first | (with_reducible first | exact HB.out | apply below_alloc | apply pw_below_drewN | apply below_drew1) | exact HB.out | exact Below.refl _ _)) hb); clear HO_6; clear HO475; clear HB; have HO_6 := n0_; have HO475 := n1_; have HO479 := n2_; have HB := n3_; clear n0_ n1_ n2_ n3_; (try clear hb); (try clear hb2); (try clear hk); (try clear hi); (try clear ho0)))
          (try simp only [Act.put, List.setIfInBounds_toArray, List.set_cons_zero, List.set_cons_succ])
          go_cut [118] (fun v118 wc => ∃ (kq : Nat) (x118_24 : Bool), v118 = .bool x118_24 ∧ Aside0 (laws_FnCodes.j1 kq l1 t460 t461 t464 t472 t473 x118_24 = some r) ∧ Aside0 (kq ≤ kj9) ∧ Aside0 (Kd.R (Kd.int .i64) 3 wc w.heap.size (fun k_ => some k_ ≠ (v474 : Value).ownBlock) (.slice Ao12 t461.length co12) t461) ∧ Aside0 (Kd.R (Kd.int .i64) 3 wc w.heap.size (fun k_ => some k_ ≠ ((.slice Ao12 t461.length co12) : Value).ownBlock) v474 t472) ∧ Aside0 (Below w.heap.size w wc))
          case first =>
            have H := HC25.out
            clear HC25
            by_cases c28 : (t473 != t477) = true
            · rw [if_pos c28] at H
              have c28b0 : (t473 != t477) = true := c28
              (try (have c28b1 : decide (t473 = t477) = false := by simpa using c28))
              (try (have c28b2 : (t473 == t477) = false := by simpa using c28))
              (try (have c28b3 : ¬ (t473 = t477) := by simpa using c28))
              clear c28
              (first | rw [c28b0] | (simp only [i64_w, i32_w]; rw [c28b0]) | skip)
              have H' := Aside0.mk H
              clear H
              go_wp2
              go_meet
              case rel => exact ⟨_, (true), (by first | rfl | (simp; done) | (simp [*]; done)), H', ⟨by have := HJ9.out; first | omega | exact Nat.le_refl _⟩, ⟨by (with_reducible repeat (first | apply Kd.R_alloc | apply Kd.R_drewN | apply Kd.R_drew)); exact Kd.R_mono HO_6.out (fun _ hk => hk.1.2)⟩, ⟨by (with_reducible repeat (first | apply Kd.R_alloc | apply Kd.R_drewN | apply Kd.R_drew)); exact Kd.R_mono HO475.out (fun _ hk => hk.1.2)⟩, ⟨by repeat (first | (with_reducible first | exact HB.out | apply below_alloc | apply pw_below_drewN | apply below_drew1) | exact HB.out | exact Below.refl _ _)⟩⟩
            · rw [if_neg c28] at H
              have c28b0 : (t473 != t477) = false := by simpa using c28
              (try (have c28b1 : decide (t473 = t477) = true := by simpa using c28))
              (try (have c28b2 : (t473 == t477) = true := by simpa using c28))
              clear c28
              (first | rw [c28b0] | (simp only [i64_w, i32_w]; rw [c28b0]) | skip)
              replace H := Option.bind_eq_some_iff.mp H
              obtain ⟨t480, A290, H⟩ := H
              replace H : (if t480 = true then (if t464 = true then (laws_FnCodes.j1 kj9 l1 t460 t461 t464 t472 t473 (!t473)) else (laws_FnCodes.j1 kj9 l1 t460 t461 t464 t472 t473 false)) else (laws_FnCodes.j1 kj9 l1 t460 t461 t464 t472 t473 true)) = some r := H
              have A29 := Aside0.mk A290
              clear A290
              by_cases c30 : t480 = true
              · subst c30
                have H1 : (if t464 = true then (laws_FnCodes.j1 kj9 l1 t460 t461 t464 t472 t473 (!t473)) else (laws_FnCodes.j1 kj9 l1 t460 t461 t464 t472 t473 false)) = some r := by rw [if_pos rfl] at H; exact H
                clear H
                have H := H1
                clear H1
                by_cases c31 : t464 = true
                · subst c31
                  have H1 : (laws_FnCodes.j1 kj9 l1 t460 t461 true t472 t473 (!t473)) = some r := by rw [if_pos rfl] at H; exact H
                  clear H
                  have H := H1
                  clear H1
                  have H' := Aside0.mk H
                  clear H
                  obtain ⟨Ao32, co32, eo32⟩ := Kd.R_slice HO475.out
                  subst eo32
                  obtain ⟨Ao33, co33, eo33⟩ := Kd.R_slice HO479.out
                  subst eo33
                  go_wp2_with (first | (go_at_call 41; (with_reducible refine (laws_uSame.calls kj9 _ _ t472 _ _ t476 true _ ?side1 ?side2 ?side3 ?side4 A29.out).mono ?_); (case side1 => repeat (first | exact (Kd.R_reads' HO475.out).2.2 | (with_reducible refine Kd.C_alloc ?_ _) | (with_reducible refine Kd.C_drewN ?_ _) | (with_reducible refine Kd.C_drew ?_))); (case side2 => exact (Kd.R_reads' HO475.out).2.1); (case side3 => repeat (first | exact (Kd.R_reads' HO479.out).2.2 | (with_reducible refine Kd.C_alloc ?_ _) | (with_reducible refine Kd.C_drewN ?_ _) | (with_reducible refine Kd.C_drew ?_))); (case side4 => exact (Kd.R_reads' HO479.out).2.1); rintro e w' ⟨rfl, ⟨nd, rfl⟩⟩))
                  go_meet
                  case rel => exact ⟨_, (!t473), (by first | rfl | (simp; done) | (simp [*]; done)), H', ⟨by have := HJ9.out; first | omega | exact Nat.le_refl _⟩, ⟨by (with_reducible repeat (first | apply Kd.R_alloc | apply Kd.R_drewN | apply Kd.R_drew)); exact Kd.R_mono HO_6.out (fun _ hk => hk.1.2)⟩, ⟨by (with_reducible repeat (first | apply Kd.R_alloc | apply Kd.R_drewN | apply Kd.R_drew)); exact Kd.R_mono HO475.out (fun _ hk => hk.1.2)⟩, ⟨by repeat (first | (with_reducible first | exact HB.out | apply below_alloc | apply pw_below_drewN | apply below_drew1) | exact HB.out | exact Below.refl _ _)⟩⟩
                · replace c31 := Bool.eq_false_iff.mpr c31
                  subst c31
                  have H1 : (laws_FnCodes.j1 kj9 l1 t460 t461 false t472 t473 false) = some r := by rw [if_neg (show ¬ (false = true) by decide)] at H; exact H
                  clear H
                  have H := H1
                  clear H1
                  have H' := Aside0.mk H
                  clear H
                  obtain ⟨Ao34, co34, eo34⟩ := Kd.R_slice HO475.out
                  subst eo34
                  obtain ⟨Ao35, co35, eo35⟩ := Kd.R_slice HO479.out
                  subst eo35
                  go_wp2_with (first | (go_at_call 41; (with_reducible refine (laws_uSame.calls kj9 _ _ t472 _ _ t476 true _ ?side1 ?side2 ?side3 ?side4 A29.out).mono ?_); (case side1 => repeat (first | exact (Kd.R_reads' HO475.out).2.2 | (with_reducible refine Kd.C_alloc ?_ _) | (with_reducible refine Kd.C_drewN ?_ _) | (with_reducible refine Kd.C_drew ?_))); (case side2 => exact (Kd.R_reads' HO475.out).2.1); (case side3 => repeat (first | exact (Kd.R_reads' HO479.out).2.2 | (with_reducible refine Kd.C_alloc ?_ _) | (with_reducible refine Kd.C_drewN ?_ _) | (with_reducible refine Kd.C_drew ?_))); (case side4 => exact (Kd.R_reads' HO479.out).2.1); rintro e w' ⟨rfl, ⟨nd, rfl⟩⟩))
                  go_meet
                  case rel => exact ⟨_, (false), (by first | rfl | (simp; done) | (simp [*]; done)), H', ⟨by have := HJ9.out; first | omega | exact Nat.le_refl _⟩, ⟨by (with_reducible repeat (first | apply Kd.R_alloc | apply Kd.R_drewN | apply Kd.R_drew)); exact Kd.R_mono HO_6.out (fun _ hk => hk.1.2)⟩, ⟨by (with_reducible repeat (first | apply Kd.R_alloc | apply Kd.R_drewN | apply Kd.R_drew)); exact Kd.R_mono HO475.out (fun _ hk => hk.1.2)⟩, ⟨by repeat (first | (with_reducible first | exact HB.out | apply below_alloc | apply pw_below_drewN | apply below_drew1) | exact HB.out | exact Below.refl _ _)⟩⟩
              · replace c30 := Bool.eq_false_iff.mpr c30
                subst c30
                have H1 : (laws_FnCodes.j1 kj9 l1 t460 t461 t464 t472 t473 true) = some r := by rw [if_neg (show ¬ (false = true) by decide)] at H; exact H
                clear H
                have H := H1
                clear H1
                have H' := Aside0.mk H
                clear H
                obtain ⟨Ao36, co36, eo36⟩ := Kd.R_slice HO475.out
                subst eo36
                obtain ⟨Ao37, co37, eo37⟩ := Kd.R_slice HO479.out
                subst eo37
                go_wp2_with (first | (go_at_call 41; (with_reducible refine (laws_uSame.calls kj9 _ _ t472 _ _ t476 false _ ?side1 ?side2 ?side3 ?side4 A29.out).mono ?_); (case side1 => repeat (first | exact (Kd.R_reads' HO475.out).2.2 | (with_reducible refine Kd.C_alloc ?_ _) | (with_reducible refine Kd.C_drewN ?_ _) | (with_reducible refine Kd.C_drew ?_))); (case side2 => exact (Kd.R_reads' HO475.out).2.1); (case side3 => repeat (first | exact (Kd.R_reads' HO479.out).2.2 | (with_reducible refine Kd.C_alloc ?_ _) | (with_reducible refine Kd.C_drewN ?_ _) | (with_reducible refine Kd.C_drew ?_))); (case side4 => exact (Kd.R_reads' HO479.out).2.1); rintro e w' ⟨rfl, ⟨nd, rfl⟩⟩))
                go_meet
                case rel => exact ⟨_, (true), (by first | rfl | (simp; done) | (simp [*]; done)), H', ⟨by have := HJ9.out; first | omega | exact Nat.le_refl _⟩, ⟨by (with_reducible repeat (first | apply Kd.R_alloc | apply Kd.R_drewN | apply Kd.R_drew)); exact Kd.R_mono HO_6.out (fun _ hk => hk.1.2)⟩, ⟨by (with_reducible repeat (first | apply Kd.R_alloc | apply Kd.R_drewN | apply Kd.R_drew)); exact Kd.R_mono HO475.out (fun _ hk => hk.1.2)⟩, ⟨by repeat (first | (with_reducible first | exact HB.out | apply below_alloc | apply pw_below_drewN | apply below_drew1) | exact HB.out | exact Below.refl _ _)⟩⟩
          case rest => as_aux_lemma =>
            clear HC25
            try clear c1
            try clear c2
            try clear p2
            try clear c3
            try clear c4
            try clear c12
            try clear c17
            try clear c17b0
            try clear c17b1
            try clear c17b2
            try clear c18
            try clear c18b0
            try clear c18b1
            try clear c18b2
            try clear c19
            try clear c19b0
            try clear c19b1
            try clear c19b2
            try clear c20
            try clear c20b0
            try clear c20b1
            try clear c20b2
            try clear c21
            try clear c22
            try clear c23
            try clear c28
            try clear c28b0
            try clear c28b1
            try clear c28b2
            try clear c29
            try clear c30
            try clear c31
            try clear c32
            try clear p2
            obtain ⟨kq, x118_24, rfl, HA, HJ24, HO_6, HO_15, HB⟩ := hcut
            cases kq with
            | zero => exact absurd HA.out (by simp [laws_FnCodes.j1])
            | succ kj24 =>
              have H := HA.out
              clear HA
              simp only [laws_FnCodes.j1] at H
              by_cases c38 : x118_24 = true
              · subst c38
                have H1 : (some false) = some r := by rw [if_pos rfl] at H; exact H
                clear H
                have H := H1
                clear H1
                obtain rfl := Option.some.inj H
                go_wp2
                go_ret
                exact ⟨by first | rfl | (simp [errW_none, errW_some] <;> rfl) | (simp [*, errW_none, errW_some] <;> rfl), by repeat (first | (with_reducible first | exact HB.out | apply below_alloc | apply pw_below_drewN | apply below_drew1) | exact HB.out | exact Below.refl _ _)⟩
              · replace c38 := Bool.eq_false_iff.mpr c38
                subst c38
                have H1 : (if t473 = true then (laws_FnCodes.j2 kj24 l1 t460 t461 t464 t472 (decide ((t461.length : Int) > 0))) else (laws_FnCodes.j2 kj24 l1 t460 t461 t464 t472 false)) = some r := by rw [if_neg (show ¬ (false = true) by decide)] at H; exact H
                clear H
                have H := H1
                clear H1
                have HC39 := Aside0.mk H
                clear H
                go_upto_region 14 with (fail)
                go_cut [124] (fun v124 wc => ∃ (kq : Nat) (x124_38 : Bool), v124 = .bool x124_38 ∧ Aside0 (laws_FnCodes.j2 kq l1 t460 t461 t464 t472 x124_38 = some r) ∧ Aside0 (kq ≤ kj24) ∧ Aside0 (Kd.R (Kd.int .i64) 3 wc w.heap.size (fun k_ => some k_ ≠ (v474 : Value).ownBlock) (.slice Ao12 t461.length co12) t461) ∧ Aside0 (Kd.R (Kd.int .i64) 3 wc w.heap.size (fun k_ => some k_ ≠ ((.slice Ao12 t461.length co12) : Value).ownBlock) v474 t472) ∧ Aside0 (Below w.heap.size w wc))
                case first =>
                  have H := HC39.out
                  clear HC39
                  by_cases c40 : t473 = true
                  · subst c40
                    have H1 : (laws_FnCodes.j2 kj24 l1 t460 t461 t464 t472 (decide ((t461.length : Int) > 0))) = some r := by rw [if_pos rfl] at H; exact H
                    clear H
                    have H := H1
                    clear H1
                    have H' := Aside0.mk H
                    clear H
                    go_wp2
                    go_meet
                    case rel => exact ⟨_, (decide ((t461.length : Int) > 0)), (by first | rfl | (simp; done) | (simp [*]; done)), H', ⟨by have := HJ9.out; have := HJ24.out; first | omega | exact Nat.le_refl _⟩, ⟨by (with_reducible repeat (first | apply Kd.R_alloc | apply Kd.R_drewN | apply Kd.R_drew)); exact HO_6.out⟩, ⟨by (with_reducible repeat (first | apply Kd.R_alloc | apply Kd.R_drewN | apply Kd.R_drew)); exact HO_15.out⟩, ⟨by repeat (first | (with_reducible first | exact HB.out | apply below_alloc | apply pw_below_drewN | apply below_drew1) | exact HB.out | exact Below.refl _ _)⟩⟩
                  · replace c40 := Bool.eq_false_iff.mpr c40
                    subst c40
                    have H1 : (laws_FnCodes.j2 kj24 l1 t460 t461 t464 t472 false) = some r := by rw [if_neg (show ¬ (false = true) by decide)] at H; exact H
                    clear H
                    have H := H1
                    clear H1
                    have H' := Aside0.mk H
                    clear H
                    go_wp2
                    go_meet
                    case rel => exact ⟨_, (false), (by first | rfl | (simp; done) | (simp [*]; done)), H', ⟨by have := HJ9.out; have := HJ24.out; first | omega | exact Nat.le_refl _⟩, ⟨by (with_reducible repeat (first | apply Kd.R_alloc | apply Kd.R_drewN | apply Kd.R_drew)); exact HO_6.out⟩, ⟨by (with_reducible repeat (first | apply Kd.R_alloc | apply Kd.R_drewN | apply Kd.R_drew)); exact HO_15.out⟩, ⟨by repeat (first | (with_reducible first | exact HB.out | apply below_alloc | apply pw_below_drewN | apply below_drew1) | exact HB.out | exact Below.refl _ _)⟩⟩
                case rest => as_aux_lemma =>
                  clear HC39
                  try clear c1
                  try clear c2
                  try clear p2
                  try clear c3
                  try clear c4
                  try clear c12
                  try clear c17
                  try clear c17b0
                  try clear c17b1
                  try clear c17b2
                  try clear c18
                  try clear c18b0
                  try clear c18b1
                  try clear c18b2
                  try clear c19
                  try clear c19b0
                  try clear c19b1
                  try clear c19b2
                  try clear c20
                  try clear c20b0
                  try clear c20b1
                  try clear c20b2
                  try clear c21
                  try clear c22
                  try clear c23
                  try clear c28
                  try clear c28b0
                  try clear c28b1
                  try clear c28b2
                  try clear c29
                  try clear c30
                  try clear c31
                  try clear c32
                  try clear c38
                  try clear c39
                  try clear c40
                  try clear p2
                  obtain ⟨kq, x124_38, rfl, HA, HJ38, HO_6, HO_15, HB⟩ := hcut
                  cases kq with
                  | zero => exact absurd HA.out (by simp [laws_FnCodes.j2])
                  | succ kj38 =>
                    have H := HA.out
                    clear HA
                    simp only [laws_FnCodes.j2] at H
                    have HC41 := Aside0.mk H
                    clear H
                    go_upto_if 124 with (fail)
                    go_cut [] (fun wc => ∃ (kq : Nat), Aside0 (laws_FnCodes.j4 kq l1 t460 t461 t464 = some r) ∧ Aside0 (kq ≤ kj38) ∧ Aside0 (Kd.R (Kd.int .i64) 3 wc w.heap.size (fun _ => True) (.slice Ao12 t461.length co12) t461) ∧ Aside0 (Below w.heap.size w wc))
                    case first =>
                      have H := HC41.out
                      clear HC41
                      by_cases c42 : x124_38 = true
                      · subst c42
                        have H1 : (if 0 < (t461.length : Int) then ((impl_FromDeltas.f kj38 t460 (rd t461 0) t472).bind fun bt482 => ((impl_ChangesOf.f kj38 t460 t461).bind fun bt486 => (laws_FnCodes.l0 kj38 l1 t460 t461 t464 bt482.1 bt482.2 bt486.1 bt486.2 0 bt486.1 (bt486.1.length : Int) 0))) else (none)) = some r := by rw [if_pos rfl] at H; exact H
                        clear H
                        have H := H1
                        clear H1
                        by_cases c43 : 0 < (t461.length : Int)
                        · rw [if_pos c43] at H
                          have c43b0 : decide (0 < (t461.length : Int)) = true := decide_eq_true c43
                          have c43b1 : decide (0 < t461.length) = true := decide_eq_true (by omega)
                          clear c43
                          (first | rw [c43b0] | (simp only [i64_w, i32_w]; rw [c43b0]) | skip)
                          replace H := Option.bind_eq_some_iff.mp H
                          obtain ⟨⟨t482, t483⟩, A440, H⟩ := H
                          replace H : ((impl_ChangesOf.f kj38 t460 t461).bind fun bt486 => (laws_FnCodes.l0 kj38 l1 t460 t461 t464 t482 t483 bt486.1 bt486.2 0 bt486.1 (bt486.1.length : Int) 0)) = some r := H
                          have A44 := Aside0.mk A440
                          clear A440
                          replace H := Option.bind_eq_some_iff.mp H
                          obtain ⟨⟨t486, t487⟩, A450, H⟩ := H
                          replace H : (laws_FnCodes.l0 kj38 l1 t460 t461 t464 t482 t483 t486 t487 0 t486 (t486.length : Int) 0) = some r := H
                          have A45 := Aside0.mk A450
                          clear A450
                          have H' := Aside0.mk H
                          clear H
                          have p481 : 0 ≤ (0 : Int) := (by omega)
                          have q481 : 0 < (t461.length : Int) := of_decide_eq_true (by first | (with_reducible assumption) | assumption)
                          obtain ⟨ad481, e481, hx481_0⟩ := Kd.at_int (Kd.R_reads' HO_6.out).2.2 0 p481 q481
                          cases e481
                          have qi481 : (0 < t461.length) = True := eq_true (by omega)
                          (try rw [show ((0 : Int)).toNat = 0 from rfl] at hx481_0)
                          (try rw [Addr.add_zero'] at hx481_0)
                          replace p481 := eq_true p481
                          replace q481 := eq_true q481
                          obtain ⟨Ao46, co46, eo46⟩ := Kd.R_slice HO_15.out
                          subst eo46
                          go_wp2_with (first | ((with_reducible refine gate_callee (f := 42) rfl ?_); refine goesL_ (some 131) rfl rfl Tryd.func42 (by kernel_rfl) rfl #[.int .i64 t460, .int .i64 (rd t461 0), .slice Ao46 t472.length co46] rfl (by (try simp only [List.map_toArray, List.map_cons, List.map_nil]); first | done | rfl | (simp only [List.length_drop, List.length_take]; rfl)) ?_; (with_reducible refine (impl_FromDeltas.calls kj38 t460 (rd t461 0) _ _ t472 t482 t483 _ ?side1 ?side2 A44.out).mono ?_); (case side1 => repeat (first | exact (Kd.R_reads' HO_15.out).2.2 | (with_reducible refine Kd.C_alloc ?_ _) | (with_reducible refine Kd.C_drewN ?_ _) | (with_reducible refine Kd.C_drew ?_))); (case side2 => exact (Kd.R_reads' HO_15.out).2.1); rintro e w47 ⟨v484, rfl, ho0, hb⟩; refine ⟨_, rfl, ?_⟩; have n0_ := Aside0.mk (Kd.R_elder' (by (with_reducible repeat (first | apply Kd.R_alloc | apply Kd.R_drewN | apply Kd.R_drew)); exact HO_6.out) (Kd.R_base ho0) hb); have n1_ := Aside0.mk (Kd.R_elder' (by (with_reducible repeat (first | apply Kd.R_alloc | apply Kd.R_drewN | apply Kd.R_drew)); exact HO_15.out) (Kd.R_base ho0) hb); have n2_ := Aside0.mk (Kd.R_lower (Kd.R_new' (Kd.R_new' ho0 (Kd.R_lt (by (with_reducible repeat (first | apply Kd.R_alloc | apply Kd.R_drewN | apply Kd.R_drew)); exact HO_6.out))) (Kd.R_lt (by (with_reducible repeat (first | apply Kd.R_alloc | apply Kd.R_drewN | apply Kd.R_drew)); exact HO_15.out))) (below_size (by repeat (first | (with_reducible first | exact HB.out | apply below_alloc | apply pw_below_drewN | apply below_drew1) | exact HB.out | exact Below.refl _ _)))); have n3_ := Aside0.mk (below_step (by repeat (first | (with_reducible first | exact HB.out | apply below_alloc | apply pw_below_drewN | apply below_drew1) | exact HB.out | exact Below.refl _ _)) hb); clear HO_6; clear HO_15; clear HB; have HO_6 := n0_; have HO_15 := n1_; have HO485 := n2_; have HB := n3_; clear n0_ n1_ n2_ n3_; (try clear hb); (try clear hb2); (try clear hk); (try clear hi); (try clear ho0)) | ((with_reducible refine gate_callee (f := 28) rfl ?_); refine goesL_ (some 137) rfl rfl Tryd.func28 (by kernel_rfl) rfl #[.int .i64 t460, .slice (some ad481) t461.length co12] rfl (by (try simp only [List.map_toArray, List.map_cons, List.map_nil]); first | done | rfl | (simp only [List.length_drop, List.length_take]; rfl)) ?_; (with_reducible refine (impl_ChangesOf.calls kj38 t460 _ _ t461 t486 t487 _ ?side1 ?side2 A45.out ?tab_).mono ?_); (case tab_ => first | exact HTab_.out | ((repeat (first | exact HTab_.out | (with_reducible refine Tab_.drewN ?_ _) | (with_reducible refine Tab_.drew ?_) | (with_reducible refine Tab_.alloc ?_ _))); done) | (refine Tab_.below HTab_.out ?_; (repeat (first | (with_reducible first | exact HB.out | apply below_alloc | apply pw_below_drewN | apply below_drew1) | exact HB.out | exact Below.refl _ _)); done)); (case side1 => repeat (first | exact (Kd.R_reads' HO_6.out).2.2 | (with_reducible refine Kd.C_alloc ?_ _) | (with_reducible refine Kd.C_drewN ?_ _) | (with_reducible refine Kd.C_drew ?_))); (case side2 => exact (Kd.R_reads' HO_6.out).2.1); rintro e w48 ⟨v488, rfl, ho0, hb⟩; refine ⟨_, rfl, ?_⟩; have n0_ := Aside0.mk (Kd.R_elder' (by (with_reducible repeat (first | apply Kd.R_alloc | apply Kd.R_drewN | apply Kd.R_drew)); exact HO_6.out) (Kd.R_base ho0) hb); have n1_ := Aside0.mk (Kd.R_elder' (by (with_reducible repeat (first | apply Kd.R_alloc | apply Kd.R_drewN | apply Kd.R_drew)); exact HO_15.out) (Kd.R_base ho0) hb); have n2_ := Aside0.mk (Kd.R_elder' (by (with_reducible repeat (first | apply Kd.R_alloc | apply Kd.R_drewN | apply Kd.R_drew)); exact HO485.out) (Kd.R_base ho0) hb); have n3_ := Aside0.mk (Kd.R_lower (Kd.R_new' (Kd.R_new' (Kd.R_new' ho0 (Kd.R_lt (by (with_reducible repeat (first | apply Kd.R_alloc | apply Kd.R_drewN | apply Kd.R_drew)); exact HO_6.out))) (Kd.R_lt (by (with_reducible repeat (first | apply Kd.R_alloc | apply Kd.R_drewN | apply Kd.R_drew)); exact HO_15.out))) (Kd.R_lt (by (with_reducible repeat (first | apply Kd.R_alloc | apply Kd.R_drewN | apply Kd.R_drew)); exact HO485.out))) (below_size (by repeat (first | (with_reducible first | exact HB.out | apply below_alloc | apply pw_below_drewN | apply below_drew1) | exact HB.out | exact Below.refl _ _)))); have n4_ := Aside0.mk (below_step (by repeat (first | (with_reducible first | exact HB.out | apply below_alloc | apply pw_below_drewN | apply below_drew1) | exact HB.out | exact Below.refl _ _)) hb); clear HO_6; clear HO_15; clear HO485; clear HB; have HO_6 := n0_; have HO_15 := n1_; have HO485 := n2_; have HO489 := n3_; have HB := n4_; clear n0_ n1_ n2_ n3_ n4_; (try clear hb); (try clear hb2); (try clear hk); (try clear hi); (try clear ho0); obtain ⟨Ao49, co49, eo49⟩ := Kd.R_slice HO489.out; subst eo49))
                          go_loopg [23, 142] kj38 (fun kq v23 v142 w' => ∃ (x23_4 : Int) (x142_4 : Int), v23 = .int .i64 x23_4 ∧ v142 = .int .i64 x142_4 ∧ Aside0 (laws_FnCodes.l0 kq l1 t460 t461 t464 t482 t483 t486 t487 x23_4 t486 (t486.length : Int) x142_4 = some r) ∧ Aside0 (kq ≤ kj38) ∧ Aside0 (Kd.R (Kd.int .i64) 3 w' w.heap.size (fun k_ => some k_ ≠ (v484 : Value).ownBlock ∧ some k_ ≠ ((.slice Ao49 t486.length co49) : Value).ownBlock ∧ some k_ ≠ ((.slice Ao49 t486.length co49) : Value).ownBlock) (.slice (some ad481) t461.length co12) t461) ∧ Aside0 (Kd.R (Kd.int .i64) 3 w' w.heap.size (fun k_ => some k_ ≠ ((.slice (some ad481) t461.length co12) : Value).ownBlock ∧ some k_ ≠ ((.slice Ao49 t486.length co49) : Value).ownBlock ∧ some k_ ≠ ((.slice Ao49 t486.length co49) : Value).ownBlock) v484 t482) ∧ Aside0 (Kd.R (Kd.int .i64) 3 w' w.heap.size (fun k_ => some k_ ≠ ((.slice (some ad481) t461.length co12) : Value).ownBlock ∧ some k_ ≠ (v484 : Value).ownBlock) (.slice Ao49 t486.length co49) t486) ∧ Aside0 (Kd.R (Kd.int .i64) 3 w' w.heap.size (fun k_ => some k_ ≠ ((.slice (some ad481) t461.length co12) : Value).ownBlock ∧ some k_ ≠ (v484 : Value).ownBlock) (.slice Ao49 t486.length co49) t486) ∧ Aside0 (Below w.heap.size w w'))
                          case atStart => exact ⟨(0), (0), (by first | rfl | (simp; done) | (simp [*]; done)), (by first | rfl | (simp; done) | (simp [*]; done)), H', ⟨Nat.le_refl _⟩, ⟨by (with_reducible repeat (first | apply Kd.R_alloc | apply Kd.R_drewN | apply Kd.R_drew)); exact Kd.R_mono HO_6.out (fun _ hk => ⟨hk.1.2, ⟨hk.2, hk.2⟩⟩)⟩, ⟨by (with_reducible repeat (first | apply Kd.R_alloc | apply Kd.R_drewN | apply Kd.R_drew)); exact Kd.R_mono HO485.out (fun _ hk => ⟨hk.1.1.2, ⟨hk.2, hk.2⟩⟩)⟩, ⟨by (with_reducible repeat (first | apply Kd.R_alloc | apply Kd.R_drewN | apply Kd.R_drew)); exact Kd.R_mono HO489.out (fun _ hk => ⟨hk.1.1.2, hk.2⟩)⟩, ⟨by (with_reducible repeat (first | apply Kd.R_alloc | apply Kd.R_drewN | apply Kd.R_drew)); exact Kd.R_mono HO489.out (fun _ hk => ⟨hk.1.1.2, hk.2⟩)⟩, ⟨by repeat (first | (with_reducible first | exact HB.out | apply below_alloc | apply pw_below_drewN | apply below_drew1) | exact HB.out | exact Below.refl _ _)⟩⟩
                          case round =>
                            clear H'
                            try clear c1
                            try clear c2
                            try clear p2
                            try clear c3
                            try clear c4
                            try clear p4
                            try clear q4
                            try clear hx4
                            try clear qi4
                            try clear c12
                            try clear c17
                            try clear c17b0
                            try clear c17b1
                            try clear c17b2
                            try clear c18
                            try clear c18b0
                            try clear c18b1
                            try clear c18b2
                            try clear c19
                            try clear c19b0
                            try clear c19b1
                            try clear c19b2
                            try clear c20
                            try clear c20b0
                            try clear c20b1
                            try clear c20b2
                            try clear c21
                            try clear c22
                            try clear c23
                            try clear c28
                            try clear c28b0
                            try clear c28b1
                            try clear c28b2
                            try clear c29
                            try clear c30
                            try clear c31
                            try clear c32
                            try clear c38
                            try clear c39
                            try clear c40
                            try clear c42
                            try clear c43
                            try clear c43b0
                            try clear c43b1
                            try clear p48
                            try clear q48
                            try clear hx48
                            try clear qi48
                            try clear hx481_0
                            try clear p2
                            try clear p481
                            try clear q481
                            obtain ⟨x23_4, x142_4, rfl, rfl, HA, HK4, HO_6, HO_19, HO_21, HO_140, HB⟩ := hrel
                            cases gk with
                            | zero => exact absurd HA.out (by simp [laws_FnCodes.l0])
                            | succ k4 =>
                              have H := HA.out
                              clear HA
                              simp only [laws_FnCodes.l0] at H
                              by_cases c50 : x142_4 < (t486.length : Int)
                              · rw [if_pos c50] at H
                                have c50b0 : decide (x142_4 < (t486.length : Int)) = true := decide_eq_true c50
                                clear c50
                                by_cases c51 : 0 ≤ x142_4
                                · rw [if_pos c51] at H
                                  have c51b0 : decide (0 ≤ x142_4) = true := decide_eq_true c51
                                  clear c51
                                  by_cases c52 : x142_4 < (t486.length : Int)
                                  · rw [if_pos c52] at H
                                    have c52b0 : decide (x142_4 < (t486.length : Int)) = true := decide_eq_true c52
                                    clear c52
                                    have H' := Aside0.mk H
                                    clear H
                                    have p490 : 0 ≤ (x142_4 : Int) := of_decide_eq_true (by first | (with_reducible assumption) | assumption)
                                    have q490 : x142_4 < (t486.length : Int) := of_decide_eq_true (by first | (with_reducible assumption) | assumption)
                                    obtain ⟨ad490, e490, hx490_0⟩ := Kd.at_int (Kd.R_reads' HO_140.out).2.2 x142_4 p490 q490
                                    cases e490
                                    replace p490 := eq_true p490
                                    replace q490 := eq_true q490
                                    go_wp2
                                    go_roundg k4
                                    case measure => have := HJ9.out; have := HJ24.out; have := HJ38.out; have := HK4.out; omega
                                    case rel => exact ⟨(wrap64 (x23_4 + (rd t486 x142_4))), (wrap64 (x142_4 + 1)), (by first | rfl | (simp; done) | (simp [*]; done)), (by first | rfl | (simp; done) | (simp [*]; done)), H', ⟨by have := HJ9.out; have := HJ24.out; have := HJ38.out; have := HK4.out; omega⟩, ⟨by (with_reducible repeat (first | apply Kd.R_alloc | apply Kd.R_drewN | apply Kd.R_drew)); exact HO_6.out⟩, ⟨by (with_reducible repeat (first | apply Kd.R_alloc | apply Kd.R_drewN | apply Kd.R_drew)); exact HO_19.out⟩, ⟨by (with_reducible repeat (first | apply Kd.R_alloc | apply Kd.R_drewN | apply Kd.R_drew)); exact HO_21.out⟩, ⟨by (with_reducible repeat (first | apply Kd.R_alloc | apply Kd.R_drewN | apply Kd.R_drew)); exact HO_140.out⟩, ⟨by repeat (first | (with_reducible first | exact HB.out | apply below_alloc | apply pw_below_drewN | apply below_drew1) | exact HB.out | exact Below.refl _ _)⟩⟩
                                  · rw [if_neg c52] at H
                                    exact absurd H (by simp)
                                · rw [if_neg c51] at H
                                  exact absurd H (by simp)
                              · rw [if_neg c50] at H
                                have c50b0 : decide (x142_4 < (t486.length : Int)) = false := decide_eq_false c50
                                clear c50
                                by_cases c53 : t483 = true
                                · subst c53
                                  have H1 : ((laws_uSame.f k4 t482 t461).bind fun t491 => (if t491 = true then (if t487 = true then (if (t486.length : Int) = t460 then (if x23_4 = (wrap64 ((t461.length : Int) - 1)) then (laws_FnCodes.j4 k4 l1 t460 t461 t464) else (some false)) else (some false)) else (some false)) else (some false))) = some r := by rw [if_pos rfl] at H; exact H
                                  clear H
                                  have H := H1
                                  clear H1
                                  replace H := Option.bind_eq_some_iff.mp H
                                  obtain ⟨t491, A540, H⟩ := H
                                  replace H : (if t491 = true then (if t487 = true then (if (t486.length : Int) = t460 then (if x23_4 = (wrap64 ((t461.length : Int) - 1)) then (laws_FnCodes.j4 k4 l1 t460 t461 t464) else (some false)) else (some false)) else (some false)) else (some false)) = some r := H
                                  have A54 := Aside0.mk A540
                                  clear A540
                                  by_cases c55 : t491 = true
                                  · subst c55
                                    have H1 : (if t487 = true then (if (t486.length : Int) = t460 then (if x23_4 = (wrap64 ((t461.length : Int) - 1)) then (laws_FnCodes.j4 k4 l1 t460 t461 t464) else (some false)) else (some false)) else (some false)) = some r := by rw [if_pos rfl] at H; exact H
                                    clear H
                                    have H := H1
                                    clear H1
                                    by_cases c56 : t487 = true
                                    · subst c56
                                      have H1 : (if (t486.length : Int) = t460 then (if x23_4 = (wrap64 ((t461.length : Int) - 1)) then (laws_FnCodes.j4 k4 l1 t460 t461 t464) else (some false)) else (some false)) = some r := by rw [if_pos rfl] at H; exact H
                                      clear H
                                      have H := H1
                                      clear H1
                                      by_cases c57 : (t486.length : Int) = t460
                                      · rw [if_pos c57] at H
                                        have c57b0 : ((t486.length : Int) == t460) = true := beq_iff_eq.mpr c57
                                        have c57b1 : ((t486.length : Int) != t460) = false := bne_eq_false_iff_eq.mpr c57
                                        clear c57
                                        by_cases c58 : x23_4 = (wrap64 ((t461.length : Int) - 1))
                                        · rw [if_pos c58] at H
                                          have c58b0 : (x23_4 == (wrap64 ((t461.length : Int) - 1))) = true := beq_iff_eq.mpr c58
                                          have c58b1 : (x23_4 != (wrap64 ((t461.length : Int) - 1))) = false := bne_eq_false_iff_eq.mpr c58
                                          clear c58
                                          have H' := Aside0.mk H
                                          clear H
                                          obtain ⟨Ao59, co59, eo59⟩ := Kd.R_slice HO_19.out
                                          subst eo59
                                          go_wp2_with (first | (go_at_call 41; (with_reducible refine (laws_uSame.calls k4 _ _ t482 _ _ t461 true _ ?side1 ?side2 ?side3 ?side4 A54.out).mono ?_); (case side1 => repeat (first | exact (Kd.R_reads' HO_19.out).2.2 | (with_reducible refine Kd.C_alloc ?_ _) | (with_reducible refine Kd.C_drewN ?_ _) | (with_reducible refine Kd.C_drew ?_))); (case side2 => exact (Kd.R_reads' HO_19.out).2.1); (case side3 => repeat (first | exact (Kd.R_reads' HO_6.out).2.2 | (with_reducible refine Kd.C_alloc ?_ _) | (with_reducible refine Kd.C_drewN ?_ _) | (with_reducible refine Kd.C_drew ?_))); (case side4 => exact (Kd.R_reads' HO_6.out).2.1); rintro e w' ⟨rfl, ⟨nd, rfl⟩⟩))
                                          go_meet
                                          case rel => exact ⟨_, H', ⟨by have := HJ9.out; have := HJ24.out; have := HJ38.out; have := HK4.out; first | omega | exact Nat.le_refl _⟩, ⟨by (with_reducible repeat (first | apply Kd.R_alloc | apply Kd.R_drewN | apply Kd.R_drew)); exact Kd.R_mono HO_6.out (fun _ hk => trivial)⟩, ⟨by repeat (first | (with_reducible first | exact HB.out | apply below_alloc | apply pw_below_drewN | apply below_drew1) | exact HB.out | exact Below.refl _ _)⟩⟩
                                        · rw [if_neg c58] at H
                                          have c58b0 : (x23_4 == (wrap64 ((t461.length : Int) - 1))) = false := beq_eq_false_iff_ne.mpr c58
                                          have c58b1 : (x23_4 != (wrap64 ((t461.length : Int) - 1))) = true := bne_iff_ne.mpr c58
                                          obtain rfl := Option.some.inj H
                                          obtain ⟨Ao60, co60, eo60⟩ := Kd.R_slice HO_19.out
                                          subst eo60
                                          go_wp2_with (first | (go_at_call 41; (with_reducible refine (laws_uSame.calls k4 _ _ t482 _ _ t461 true _ ?side1 ?side2 ?side3 ?side4 A54.out).mono ?_); (case side1 => repeat (first | exact (Kd.R_reads' HO_19.out).2.2 | (with_reducible refine Kd.C_alloc ?_ _) | (with_reducible refine Kd.C_drewN ?_ _) | (with_reducible refine Kd.C_drew ?_))); (case side2 => exact (Kd.R_reads' HO_19.out).2.1); (case side3 => repeat (first | exact (Kd.R_reads' HO_6.out).2.2 | (with_reducible refine Kd.C_alloc ?_ _) | (with_reducible refine Kd.C_drewN ?_ _) | (with_reducible refine Kd.C_drew ?_))); (case side4 => exact (Kd.R_reads' HO_6.out).2.1); rintro e w' ⟨rfl, ⟨nd, rfl⟩⟩))
                                          go_ret
                                          exact ⟨by first | rfl | (simp [errW_none, errW_some] <;> rfl) | (simp [*, errW_none, errW_some] <;> rfl), by repeat (first | (with_reducible first | exact HB.out | apply below_alloc | apply pw_below_drewN | apply below_drew1) | exact HB.out | exact Below.refl _ _)⟩
                                      · rw [if_neg c57] at H
                                        have c57b0 : ((t486.length : Int) == t460) = false := beq_eq_false_iff_ne.mpr c57
                                        have c57b1 : ((t486.length : Int) != t460) = true := bne_iff_ne.mpr c57
                                        obtain rfl := Option.some.inj H
                                        obtain ⟨Ao61, co61, eo61⟩ := Kd.R_slice HO_19.out
                                        subst eo61
                                        go_wp2_with (first | (go_at_call 41; (with_reducible refine (laws_uSame.calls k4 _ _ t482 _ _ t461 true _ ?side1 ?side2 ?side3 ?side4 A54.out).mono ?_); (case side1 => repeat (first | exact (Kd.R_reads' HO_19.out).2.2 | (with_reducible refine Kd.C_alloc ?_ _) | (with_reducible refine Kd.C_drewN ?_ _) | (with_reducible refine Kd.C_drew ?_))); (case side2 => exact (Kd.R_reads' HO_19.out).2.1); (case side3 => repeat (first | exact (Kd.R_reads' HO_6.out).2.2 | (with_reducible refine Kd.C_alloc ?_ _) | (with_reducible refine Kd.C_drewN ?_ _) | (with_reducible refine Kd.C_drew ?_))); (case side4 => exact (Kd.R_reads' HO_6.out).2.1); rintro e w' ⟨rfl, ⟨nd, rfl⟩⟩))
                                        go_ret
                                        exact ⟨by first | rfl | (simp [errW_none, errW_some] <;> rfl) | (simp [*, errW_none, errW_some] <;> rfl), by repeat (first | (with_reducible first | exact HB.out | apply below_alloc | apply pw_below_drewN | apply below_drew1) | exact HB.out | exact Below.refl _ _)⟩
                                    · replace c56 := Bool.eq_false_iff.mpr c56
                                      subst c56
                                      have H1 : (some false) = some r := by rw [if_neg (show ¬ (false = true) by decide)] at H; exact H
                                      clear H
                                      have H := H1
                                      clear H1
                                      obtain rfl := Option.some.inj H
                                      obtain ⟨Ao62, co62, eo62⟩ := Kd.R_slice HO_19.out
                                      subst eo62
                                      go_wp2_with (first | (go_at_call 41; (with_reducible refine (laws_uSame.calls k4 _ _ t482 _ _ t461 true _ ?side1 ?side2 ?side3 ?side4 A54.out).mono ?_); (case side1 => repeat (first | exact (Kd.R_reads' HO_19.out).2.2 | (with_reducible refine Kd.C_alloc ?_ _) | (with_reducible refine Kd.C_drewN ?_ _) | (with_reducible refine Kd.C_drew ?_))); (case side2 => exact (Kd.R_reads' HO_19.out).2.1); (case side3 => repeat (first | exact (Kd.R_reads' HO_6.out).2.2 | (with_reducible refine Kd.C_alloc ?_ _) | (with_reducible refine Kd.C_drewN ?_ _) | (with_reducible refine Kd.C_drew ?_))); (case side4 => exact (Kd.R_reads' HO_6.out).2.1); rintro e w' ⟨rfl, ⟨nd, rfl⟩⟩))
                                      go_ret
                                      exact ⟨by first | rfl | (simp [errW_none, errW_some] <;> rfl) | (simp [*, errW_none, errW_some] <;> rfl), by repeat (first | (with_reducible first | exact HB.out | apply below_alloc | apply pw_below_drewN | apply below_drew1) | exact HB.out | exact Below.refl _ _)⟩
                                  · replace c55 := Bool.eq_false_iff.mpr c55
                                    subst c55
                                    have H1 : (some false) = some r := by rw [if_neg (show ¬ (false = true) by decide)] at H; exact H
                                    clear H
                                    have H := H1
                                    clear H1
                                    obtain rfl := Option.some.inj H
                                    obtain ⟨Ao63, co63, eo63⟩ := Kd.R_slice HO_19.out
                                    subst eo63
                                    go_wp2_with (first | (go_at_call 41; (with_reducible refine (laws_uSame.calls k4 _ _ t482 _ _ t461 false _ ?side1 ?side2 ?side3 ?side4 A54.out).mono ?_); (case side1 => repeat (first | exact (Kd.R_reads' HO_19.out).2.2 | (with_reducible refine Kd.C_alloc ?_ _) | (with_reducible refine Kd.C_drewN ?_ _) | (with_reducible refine Kd.C_drew ?_))); (case side2 => exact (Kd.R_reads' HO_19.out).2.1); (case side3 => repeat (first | exact (Kd.R_reads' HO_6.out).2.2 | (with_reducible refine Kd.C_alloc ?_ _) | (with_reducible refine Kd.C_drewN ?_ _) | (with_reducible refine Kd.C_drew ?_))); (case side4 => exact (Kd.R_reads' HO_6.out).2.1); rintro e w' ⟨rfl, ⟨nd, rfl⟩⟩))
                                    go_ret
                                    exact ⟨by first | rfl | (simp [errW_none, errW_some] <;> rfl) | (simp [*, errW_none, errW_some] <;> rfl), by repeat (first | (with_reducible first | exact HB.out | apply below_alloc | apply pw_below_drewN | apply below_drew1) | exact HB.out | exact Below.refl _ _)⟩
                                · replace c53 := Bool.eq_false_iff.mpr c53
                                  subst c53
                                  have H1 : (some false) = some r := by rw [if_neg (show ¬ (false = true) by decide)] at H; exact H
                                  clear H
                                  have H := H1
                                  clear H1
                                  obtain rfl := Option.some.inj H
                                  go_wp2
                                  go_ret
                                  exact ⟨by first | rfl | (simp [errW_none, errW_some] <;> rfl) | (simp [*, errW_none, errW_some] <;> rfl), by repeat (first | (with_reducible first | exact HB.out | apply below_alloc | apply pw_below_drewN | apply below_drew1) | exact HB.out | exact Below.refl _ _)⟩
                        · rw [if_neg c43] at H
                          exact absurd H (by simp)
                      · replace c42 := Bool.eq_false_iff.mpr c42
                        subst c42
                        have H1 : (laws_FnCodes.j4 kj38 l1 t460 t461 t464) = some r := by rw [if_neg (show ¬ (false = true) by decide)] at H; exact H
                        clear H
                        have H := H1
                        clear H1
                        have H' := Aside0.mk H
                        clear H
                        go_wp2
                        go_meet
                        case rel => exact ⟨_, H', ⟨by have := HJ9.out; have := HJ24.out; have := HJ38.out; first | omega | exact Nat.le_refl _⟩, ⟨by (with_reducible repeat (first | apply Kd.R_alloc | apply Kd.R_drewN | apply Kd.R_drew)); exact Kd.R_mono HO_6.out (fun _ hk => trivial)⟩, ⟨by repeat (first | (with_reducible first | exact HB.out | apply below_alloc | apply pw_below_drewN | apply below_drew1) | exact HB.out | exact Below.refl _ _)⟩⟩
                    case rest => as_aux_lemma =>
                      clear HC41
                      try clear c1
                      try clear c2
                      try clear p2
                      try clear c3
                      try clear c4
                      try clear p4
                      try clear q4
                      try clear hx4
                      try clear qi4
                      try clear c5
                      try clear p6
                      try clear c12
                      try clear c17
                      try clear c17b0
                      try clear c17b1
                      try clear c17b2
                      try clear c18
                      try clear c18b0
                      try clear c18b1
                      try clear c18b2
                      try clear c19
                      try clear c19b0
                      try clear c19b1
                      try clear c19b2
                      try clear c20
                      try clear c20b0
                      try clear c20b1
                      try clear c20b2
                      try clear c21
                      try clear c22
                      try clear c23
                      try clear c28
                      try clear c28b0
                      try clear c28b1
                      try clear c28b2
                      try clear c29
                      try clear c30
                      try clear c31
                      try clear c32
                      try clear c38
                      try clear c39
                      try clear c40
                      try clear c42
                      try clear c43
                      try clear c43b0
                      try clear c43b1
                      try clear p48
                      try clear q48
                      try clear hx48
                      try clear qi48
                      try clear p49
                      try clear q49
                      try clear hx49
                      try clear c50
                      try clear c50b0
                      try clear c51
                      try clear c51b0
                      try clear c52
                      try clear c52b0
                      try clear c53
                      try clear c55
                      try clear c56
                      try clear c57
                      try clear c57b0
                      try clear c57b1
                      try clear c58
                      try clear c58b0
                      try clear c58b1
                      try clear hx481_0
                      try clear hx490_0
                      try clear p2
                      try clear p4
                      try clear p48
                      try clear p481
                      try clear p490
                      try clear q4
                      try clear q48
                      try clear q481
                      try clear q490
                      obtain ⟨kq, HA, HJ40, HO_6, HB⟩ := hcut
                      cases kq with
                      | zero => exact absurd HA.out (by simp [laws_FnCodes.j4])
                      | succ kj40 =>
                        have H := HA.out
                        clear HA
                        simp only [laws_FnCodes.j4] at H
                        have HC64 := Aside0.mk H
                        clear H
                        go_upto_if 175 with (fail)
                        go_cut [] (fun wc => ∃ (kq : Nat), Aside0 (laws_FnCodes.j6 kq l1 = some r) ∧ Aside0 (kq ≤ kj40) ∧ Aside0 (Below w.heap.size w wc))
                        case first =>
                          have H := HC64.out
                          clear HC64
                          by_cases c65 : t464 = true
                          · subst c65
                            have H1 : (laws_FnCodes.l1 kj40 l1 t460 t461 0) = some r := by rw [if_pos rfl] at H; exact H
                            clear H
                            have H := H1
                            clear H1
                            have H' := Aside0.mk H
                            clear H
                            go_wp2
                            go_loopg [26] kj40 (fun kq v26 w' => ∃ (x26_5 : Int), v26 = .int .i64 x26_5 ∧ Aside0 (laws_FnCodes.l1 kq l1 t460 t461 x26_5 = some r) ∧ Aside0 (kq ≤ kj40) ∧ Aside0 (Kd.R (Kd.int .i64) 3 w' w.heap.size (fun _ => True) (.slice Ao12 t461.length co12) t461) ∧ Aside0 (Below w.heap.size w w'))
                            case atStart => exact ⟨(0), (by first | rfl | (simp; done) | (simp [*]; done)), H', ⟨Nat.le_refl _⟩, ⟨by (with_reducible repeat (first | apply Kd.R_alloc | apply Kd.R_drewN | apply Kd.R_drew)); exact HO_6.out⟩, ⟨by repeat (first | (with_reducible first | exact HB.out | apply below_alloc | apply pw_below_drewN | apply below_drew1) | exact HB.out | exact Below.refl _ _)⟩⟩
                            case round =>
                              clear H'
                              try clear c1
                              try clear c2
                              try clear p2
                              try clear c3
                              try clear c4
                              try clear p4
                              try clear q4
                              try clear hx4
                              try clear qi4
                              try clear c5
                              try clear c6
                              try clear p6
                              try clear c12
                              try clear c17
                              try clear c17b0
                              try clear c17b1
                              try clear c17b2
                              try clear c18
                              try clear c18b0
                              try clear c18b1
                              try clear c18b2
                              try clear c19
                              try clear c19b0
                              try clear c19b1
                              try clear c19b2
                              try clear c20
                              try clear c20b0
                              try clear c20b1
                              try clear c20b2
                              try clear c21
                              try clear c22
                              try clear c23
                              try clear c28
                              try clear c28b0
                              try clear c28b1
                              try clear c28b2
                              try clear c29
                              try clear c30
                              try clear c31
                              try clear c32
                              try clear c38
                              try clear c39
                              try clear c40
                              try clear c42
                              try clear c43
                              try clear c43b0
                              try clear c43b1
                              try clear p48
                              try clear q48
                              try clear hx48
                              try clear qi48
                              try clear p49
                              try clear q49
                              try clear hx49
                              try clear c50
                              try clear c50b0
                              try clear c51
                              try clear c51b0
                              try clear c52
                              try clear c52b0
                              try clear c53
                              try clear c55
                              try clear c56
                              try clear c57
                              try clear c57b0
                              try clear c57b1
                              try clear c58
                              try clear c58b0
                              try clear c58b1
                              try clear p64
                              try clear c65
                              try clear hx481_0
                              try clear hx490_0
                              try clear p2
                              try clear p4
                              try clear p48
                              try clear p481
                              try clear p49
                              try clear p490
                              try clear p6
                              try clear q4
                              try clear q48
                              try clear q481
                              try clear q49
                              try clear q490
                              obtain ⟨x26_5, rfl, HA, HK5, HO_6, HB⟩ := hrel
                              cases gk with
                              | zero => exact absurd HA.out (by simp [laws_FnCodes.l1])
                              | succ k5 =>
                                have H := HA.out
                                clear HA
                                simp only [laws_FnCodes.l1] at H
                                by_cases c66 : 0 ≤ t460
                                · rw [if_pos c66] at H
                                  have c66b0 := eq_true c66
                                  have c66b1 : decide (0 ≤ t460) = true := decide_eq_true c66
                                  clear c66
                                  obtain ⟨ji67, hji67⟩ : ∃ j_ : Int, (shl .i64 1 t460) = j_ := ⟨_, rfl⟩
                                  replace H : (if x26_5 < (ji67) then ((laws_uHas.f k5 t461 x26_5).bind fun t492 => (if t492 = true then (laws_FnCodes.l1 k5 l1 t460 t461 (wrap64 (x26_5 + 1))) else (some false))) else (laws_FnCodes.j6 k5 l1)) = some r := by first | (rw [hji67] at H; exact H) | (simp only [hji67] at H ⊢; exact H)
                                  have hji67_ : (IntKind.i64.wrap (1 * 2 ^ min t460.toNat 64)) = ji67 := hji67
                                  have hji67z : t460 ≤ 64 → (IntKind.i64.wrap (1 * 2 ^ t460.toNat)) = ji67 := shl_small hji67
                                  have hji67u : (IntKind.i64.wrap (2 ^ min t460.toNat 64)) = ji67 := by have h_ := hji67_; rw [Int.one_mul] at h_; exact h_
                                  have hji67v : t460 ≤ 64 → (IntKind.i64.wrap (2 ^ t460.toNat)) = ji67 := fun hle_ => by have h_ := hji67z hle_; rw [Int.one_mul] at h_; exact h_
                                  have hji67y : (wrap64 (1 * 2 ^ min t460.toNat 64)) = ji67 := (i64_w _).symm.trans hji67_
                                  have hji67x : t460 ≤ 64 → (wrap64 (1 * 2 ^ t460.toNat)) = ji67 := fun h_ => (i64_w _).symm.trans (hji67z h_)
                                  by_cases c68 : x26_5 < (ji67)
                                  · rw [if_pos c68] at H
                                    have c68b0 : decide (x26_5 < (ji67)) = true := decide_eq_true c68
                                    clear c68
                                    (first | rw [c68b0] | (simp only [i64_w, i32_w]; rw [c68b0]) | skip)
                                    replace H := Option.bind_eq_some_iff.mp H
                                    obtain ⟨t492, A690, H⟩ := H
                                    replace H : (if t492 = true then (laws_FnCodes.l1 k5 l1 t460 t461 (wrap64 (x26_5 + 1))) else (some false)) = some r := H
                                    have A69 := Aside0.mk A690
                                    clear A690
                                    by_cases c70 : t492 = true
                                    · subst c70
                                      have H1 : (laws_FnCodes.l1 k5 l1 t460 t461 (wrap64 (x26_5 + 1))) = some r := by rw [if_pos rfl] at H; exact H
                                      clear H
                                      have H := H1
                                      clear H1
                                      have H' := Aside0.mk H
                                      clear H
                                      go_wp2_with (first | ((with_reducible refine gate_callee (f := 43) rfl ?_); refine goesL_ (some 184) rfl rfl Tryd.func43 (by kernel_rfl) rfl #[.slice Ao12 t461.length co12, .int .i64 x26_5] rfl (by (try simp only [List.map_toArray, List.map_cons, List.map_nil]); first | done | rfl | (simp only [List.length_drop, List.length_take]; rfl)) ?_; (with_reducible refine (laws_uHas.calls k5 _ _ t461 x26_5 true _ ?side1 ?side2 A69.out).mono ?_); (case side1 => repeat (first | exact (Kd.R_reads' HO_6.out).2.2 | (with_reducible refine Kd.C_alloc ?_ _) | (with_reducible refine Kd.C_drewN ?_ _) | (with_reducible refine Kd.C_drew ?_))); (case side2 => exact (Kd.R_reads' HO_6.out).2.1); rintro e w' ⟨rfl, ⟨nd, rfl⟩⟩; refine ⟨_, rfl, ?_⟩))
                                      go_roundg k5
                                      case measure => have := HJ9.out; have := HJ24.out; have := HJ38.out; have := HJ40.out; have := HK5.out; omega
                                      case rel => exact ⟨(wrap64 (x26_5 + 1)), (by first | rfl | (simp; done) | (simp [*]; done)), H', ⟨by have := HJ9.out; have := HJ24.out; have := HJ38.out; have := HJ40.out; have := HK5.out; omega⟩, ⟨by (with_reducible repeat (first | apply Kd.R_alloc | apply Kd.R_drewN | apply Kd.R_drew)); exact HO_6.out⟩, ⟨by repeat (first | (with_reducible first | exact HB.out | apply below_alloc | apply pw_below_drewN | apply below_drew1) | exact HB.out | exact Below.refl _ _)⟩⟩
                                    · replace c70 := Bool.eq_false_iff.mpr c70
                                      subst c70
                                      have H1 : (some false) = some r := by rw [if_neg (show ¬ (false = true) by decide)] at H; exact H
                                      clear H
                                      have H := H1
                                      clear H1
                                      obtain rfl := Option.some.inj H
                                      go_wp2_with (first | ((with_reducible refine gate_callee (f := 43) rfl ?_); refine goesL_ (some 184) rfl rfl Tryd.func43 (by kernel_rfl) rfl #[.slice Ao12 t461.length co12, .int .i64 x26_5] rfl (by (try simp only [List.map_toArray, List.map_cons, List.map_nil]); first | done | rfl | (simp only [List.length_drop, List.length_take]; rfl)) ?_; (with_reducible refine (laws_uHas.calls k5 _ _ t461 x26_5 false _ ?side1 ?side2 A69.out).mono ?_); (case side1 => repeat (first | exact (Kd.R_reads' HO_6.out).2.2 | (with_reducible refine Kd.C_alloc ?_ _) | (with_reducible refine Kd.C_drewN ?_ _) | (with_reducible refine Kd.C_drew ?_))); (case side2 => exact (Kd.R_reads' HO_6.out).2.1); rintro e w' ⟨rfl, ⟨nd, rfl⟩⟩; refine ⟨_, rfl, ?_⟩))
                                      go_ret
                                      exact ⟨by first | rfl | (simp [errW_none, errW_some] <;> rfl) | (simp only [← hji67]; first | rfl | (simp [errW_none, errW_some] <;> rfl)) | (simp [*, errW_none, errW_some] <;> rfl), by repeat (first | (with_reducible first | exact HB.out | apply below_alloc | apply pw_below_drewN | apply below_drew1) | exact HB.out | exact Below.refl _ _)⟩
                                  · rw [if_neg c68] at H
                                    have c68b0 : decide (x26_5 < (ji67)) = false := decide_eq_false c68
                                    clear c68
                                    (first | rw [c68b0] | (simp only [i64_w, i32_w]; rw [c68b0]) | skip)
                                    have H' := Aside0.mk H
                                    clear H
                                    go_wp2
                                    go_meet
                                    case rel => exact ⟨_, H', ⟨by have := HJ9.out; have := HJ24.out; have := HJ38.out; have := HJ40.out; have := HK5.out; first | omega | exact Nat.le_refl _⟩, ⟨by repeat (first | (with_reducible first | exact HB.out | apply below_alloc | apply pw_below_drewN | apply below_drew1) | exact HB.out | exact Below.refl _ _)⟩⟩
                                · rw [if_neg c66] at H
                                  exact absurd H (by simp)
                          · replace c65 := Bool.eq_false_iff.mpr c65
                            subst c65
                            have H1 : (laws_FnCodes.j6 kj40 l1) = some r := by rw [if_neg (show ¬ (false = true) by decide)] at H; exact H
                            clear H
                            have H := H1
                            clear H1
                            have H' := Aside0.mk H
                            clear H
                            go_wp2
                            go_meet
                            case rel => exact ⟨_, H', ⟨by have := HJ9.out; have := HJ24.out; have := HJ38.out; have := HJ40.out; first | omega | exact Nat.le_refl _⟩, ⟨by repeat (first | (with_reducible first | exact HB.out | apply below_alloc | apply pw_below_drewN | apply below_drew1) | exact HB.out | exact Below.refl _ _)⟩⟩
                        case rest => as_aux_lemma =>
                          clear HC64
                          try clear c1
                          try clear c2
                          try clear p2
                          try clear c3
                          try clear c4
                          try clear p4
                          try clear q4
                          try clear hx4
                          try clear qi4
                          try clear c5
                          try clear c6
                          try clear p6
                          try clear c7
                          try clear c12
                          try clear c17
                          try clear c17b0
                          try clear c17b1
                          try clear c17b2
                          try clear c18
                          try clear c18b0
                          try clear c18b1
                          try clear c18b2
                          try clear c19
                          try clear c19b0
                          try clear c19b1
                          try clear c19b2
                          try clear c20
                          try clear c20b0
                          try clear c20b1
                          try clear c20b2
                          try clear c21
                          try clear c22
                          try clear c23
                          try clear c28
                          try clear c28b0
                          try clear c28b1
                          try clear c28b2
                          try clear c29
                          try clear c30
                          try clear c31
                          try clear c32
                          try clear c38
                          try clear c39
                          try clear c40
                          try clear c42
                          try clear c43
                          try clear c43b0
                          try clear c43b1
                          try clear p48
                          try clear q48
                          try clear hx48
                          try clear qi48
                          try clear p49
                          try clear q49
                          try clear hx49
                          try clear c50
                          try clear c50b0
                          try clear c51
                          try clear c51b0
                          try clear c52
                          try clear c52b0
                          try clear c53
                          try clear c55
                          try clear c56
                          try clear c57
                          try clear c57b0
                          try clear c57b1
                          try clear c58
                          try clear c58b0
                          try clear c58b1
                          try clear p64
                          try clear c65
                          try clear c66
                          try clear c66b0
                          try clear c66b1
                          try clear c68
                          try clear c68b0
                          try clear c70
                          try clear hx481_0
                          try clear hx490_0
                          try clear p2
                          try clear p4
                          try clear p48
                          try clear p481
                          try clear p49
                          try clear p490
                          try clear p6
                          try clear p64
                          try clear q4
                          try clear q48
                          try clear q481
                          try clear q49
                          try clear q490
                          obtain ⟨kq, HA, HJ63, HB⟩ := hcut
                          cases kq with
                          | zero => exact absurd HA.out (by simp [laws_FnCodes.j6])
                          | succ kj63 =>
                            have H := HA.out
                            clear HA
                            simp only [laws_FnCodes.j6] at H
                            replace H := Option.bind_eq_some_iff.mp H
                            obtain ⟨⟨t493, t494, t495⟩, A710, H⟩ := H
                            replace H : ((impl_FromDeltas.f kj63 t493 t494 t495).bind fun bt498 => ((spec_FromDeltas.f kj63 t493 t494 t495).bind fun bt502 => (if (bt498.2 == bt502.2) = true then ((laws_uSame.f kj63 bt498.1 bt502.1).bind fun t506 => (some t506)) else (some false)))) = some r := H
                            have A71 := Aside0.mk A710
                            clear A710
                            replace H := Option.bind_eq_some_iff.mp H
                            obtain ⟨⟨t498, t499⟩, A720, H⟩ := H
                            replace H : ((spec_FromDeltas.f kj63 t493 t494 t495).bind fun bt502 => (if (t499 == bt502.2) = true then ((laws_uSame.f kj63 t498 bt502.1).bind fun t506 => (some t506)) else (some false))) = some r := H
                            have A72 := Aside0.mk A720
                            clear A720
                            replace H := Option.bind_eq_some_iff.mp H
                            obtain ⟨⟨t502, t503⟩, A730, H⟩ := H
                            replace H : (if (t499 == t503) = true then ((laws_uSame.f kj63 t498 t502).bind fun t506 => (some t506)) else (some false)) = some r := H
                            have A73 := Aside0.mk A730
                            clear A730
                            by_cases c74 : (t499 == t503) = true
                            · rw [if_pos c74] at H
                              have c74b0 : (t499 == t503) = true := c74
                              (try (have c74b1 : decide (t499 = t503) = true := by simpa using c74))
                              (try (have c74b2 : (t499 == t503) = true := by simpa using c74))
                              clear c74
                              replace H := Option.bind_eq_some_iff.mp H
                              obtain ⟨t506, A750, H⟩ := H
                              replace H : (some t506) = some r := H
                              have A75 := Aside0.mk A750
                              clear A750
                              obtain rfl := Option.some.inj H
                              go_wp2_with (first | ((with_reducible refine gate_callee (f := 44) rfl ?_); refine goesL_ (some 188) rfl rfl Tryd.func44 (by kernel_rfl) rfl #[.slice A1 l1.length c1] rfl (by (try simp only [List.map_toArray, List.map_cons, List.map_nil]); first | done | rfl | (simp only [List.length_drop, List.length_take]; rfl)) ?_; (with_reducible refine (spec_DrawFromDeltas.calls kj63 _ _ l1 t493 t494 t495 _ ?side1 ?side2 A71.out).mono ?_); (case side1 => repeat (first | exact (Kd.C_below HR1.out HB.out) | exact HR1.out | (with_reducible refine Kd.C_alloc ?_ _) | (with_reducible refine Kd.C_drewN ?_ _) | (with_reducible refine Kd.C_drew ?_))); (case side2 => exact HC1.out); rintro e w76 ⟨v496, rfl, ho0, hb⟩; refine ⟨_, rfl, ?_⟩; have n0_ := Aside0.mk (Kd.R_lower ho0 (below_size (by repeat (first | (with_reducible first | exact HB.out | apply below_alloc | apply pw_below_drewN | apply below_drew1) | exact HB.out | exact Below.refl _ _)))); have n1_ := Aside0.mk (below_step (by repeat (first | (with_reducible first | exact HB.out | apply below_alloc | apply pw_below_drewN | apply below_drew1) | exact HB.out | exact Below.refl _ _)) hb); clear HB; have HO497 := n0_; have HB := n1_; clear n0_ n1_; (try clear hb); (try clear hb2); (try clear hk); (try clear hi); (try clear ho0); obtain ⟨Ao77, co77, eo77⟩ := Kd.R_slice HO497.out; subst eo77) | ((with_reducible refine gate_callee (f := 42) rfl ?_); refine goesL_ (some 196) rfl rfl Tryd.func42 (by kernel_rfl) rfl #[.int .i64 t493, .int .i64 t494, .slice Ao77 t495.length co77] rfl (by (try simp only [List.map_toArray, List.map_cons, List.map_nil]); first | done | rfl | (simp only [List.length_drop, List.length_take]; rfl)) ?_; (with_reducible refine (impl_FromDeltas.calls kj63 t493 t494 _ _ t495 t498 t499 _ ?side1 ?side2 A72.out).mono ?_); (case side1 => repeat (first | exact (Kd.R_reads' HO497.out).2.2 | (with_reducible refine Kd.C_alloc ?_ _) | (with_reducible refine Kd.C_drewN ?_ _) | (with_reducible refine Kd.C_drew ?_))); (case side2 => exact (Kd.R_reads' HO497.out).2.1); rintro e w78 ⟨v500, rfl, ho0, hb⟩; refine ⟨_, rfl, ?_⟩; have n0_ := Aside0.mk (Kd.R_elder' (by (with_reducible repeat (first | apply Kd.R_alloc | apply Kd.R_drewN | apply Kd.R_drew)); exact HO497.out) (Kd.R_base ho0) hb); have n1_ := Aside0.mk (Kd.R_lower (Kd.R_new' ho0 (Kd.R_lt (by (with_reducible repeat (first | apply Kd.R_alloc | apply Kd.R_drewN | apply Kd.R_drew)); exact HO497.out))) (below_size (by repeat (first | (with_reducible first | exact HB.out | apply below_alloc | apply pw_below_drewN | apply below_drew1) | exact HB.out | exact Below.refl _ _)))); have n2_ := Aside0.mk (below_step (by repeat (first | (with_reducible first | exact HB.out | apply below_alloc | apply pw_below_drewN | apply below_drew1) | exact HB.out | exact Below.refl _ _)) hb); clear HO497; clear HB; have HO497 := n0_; have HO501 := n1_; have HB := n2_; clear n0_ n1_ n2_; (try clear hb); (try clear hb2); (try clear hk); (try clear hi); (try clear ho0)) | ((with_reducible refine gate_callee (f := 45) rfl ?_); refine goesL_ (some 203) rfl rfl Tryd.func45 (by kernel_rfl) rfl #[.int .i64 t493, .int .i64 t494, .slice Ao77 t495.length co77] rfl (by (try simp only [List.map_toArray, List.map_cons, List.map_nil]); first | done | rfl | (simp only [List.length_drop, List.length_take]; rfl)) ?_; (with_reducible refine (spec_FromDeltas.calls kj63 t493 t494 _ _ t495 t502 t503 _ ?side1 ?side2 A73.out).mono ?_); (case side1 => repeat (first | exact (Kd.R_reads' HO497.out).2.2 | (with_reducible refine Kd.C_alloc ?_ _) | (with_reducible refine Kd.C_drewN ?_ _) | (with_reducible refine Kd.C_drew ?_))); (case side2 => exact (Kd.R_reads' HO497.out).2.1); rintro e w79 ⟨v504, rfl, ho0, hb⟩; refine ⟨_, rfl, ?_⟩; have n0_ := Aside0.mk (Kd.R_elder' (by (with_reducible repeat (first | apply Kd.R_alloc | apply Kd.R_drewN | apply Kd.R_drew)); exact HO497.out) (Kd.R_base ho0) hb); have n1_ := Aside0.mk (Kd.R_elder' (by (with_reducible repeat (first | apply Kd.R_alloc | apply Kd.R_drewN | apply Kd.R_drew)); exact HO501.out) (Kd.R_base ho0) hb); have n2_ := Aside0.mk (Kd.R_lower (Kd.R_new' (Kd.R_new' ho0 (Kd.R_lt (by (with_reducible repeat (first | apply Kd.R_alloc | apply Kd.R_drewN | apply Kd.R_drew)); exact HO497.out))) (Kd.R_lt (by (with_reducible repeat (first | apply Kd.R_alloc | apply Kd.R_drewN | apply Kd.R_drew)); exact HO501.out))) (below_size (by repeat (first | (with_reducible first | exact HB.out | apply below_alloc | apply pw_below_drewN | apply below_drew1) | exact HB.out | exact Below.refl _ _)))); have n3_ := Aside0.mk (below_step (by repeat (first | (with_reducible first | exact HB.out | apply below_alloc | apply pw_below_drewN | apply below_drew1) | exact HB.out | exact Below.refl _ _)) hb); clear HO497; clear HO501; clear HB; have HO497 := n0_; have HO501 := n1_; have HO505 := n2_; have HB := n3_; clear n0_ n1_ n2_ n3_; (try clear hb); (try clear hb2); (try clear hk); (try clear hi); (try clear ho0); obtain ⟨Ao80, co80, eo80⟩ := Kd.R_slice HO501.out; subst eo80; obtain ⟨Ao81, co81, eo81⟩ := Kd.R_slice HO505.out; subst eo81) | (go_at_call 41; (with_reducible refine (laws_uSame.calls kj63 _ _ t498 _ _ t502 t506 _ ?side1 ?side2 ?side3 ?side4 A75.out).mono ?_); (case side1 => repeat (first | exact (Kd.R_reads' HO501.out).2.2 | (with_reducible refine Kd.C_alloc ?_ _) | (with_reducible refine Kd.C_drewN ?_ _) | (with_reducible refine Kd.C_drew ?_))); (case side2 => exact (Kd.R_reads' HO501.out).2.1); (case side3 => repeat (first | exact (Kd.R_reads' HO505.out).2.2 | (with_reducible refine Kd.C_alloc ?_ _) | (with_reducible refine Kd.C_drewN ?_ _) | (with_reducible refine Kd.C_drew ?_))); (case side4 => exact (Kd.R_reads' HO505.out).2.1); rintro e w' ⟨rfl, ⟨nd, rfl⟩⟩))
                              go_ret
                              exact ⟨by first | rfl | (simp [errW_none, errW_some] <;> rfl) | (simp [*, errW_none, errW_some] <;> rfl), by repeat (first | (with_reducible first | exact HB.out | apply below_alloc | apply pw_below_drewN | apply below_drew1) | exact HB.out | exact Below.refl _ _)⟩
                            · rw [if_neg c74] at H
                              have c74b0 : (t499 == t503) = false := by simpa using c74
                              (try (have c74b1 : decide (t499 = t503) = false := by simpa using c74))
                              (try (have c74b2 : (t499 == t503) = false := by simpa using c74))
                              (try (have c74b3 : ¬ (t499 = t503) := by simpa using c74))
                              clear c74
                              obtain rfl := Option.some.inj H
                              go_wp2_with (first | ((with_reducible refine gate_callee (f := 44) rfl ?_); refine goesL_ (some 188) rfl rfl Tryd.func44 (by kernel_rfl) rfl #[.slice A1 l1.length c1] rfl (by (try simp only [List.map_toArray, List.map_cons, List.map_nil]); first | done | rfl | (simp only [List.length_drop, List.length_take]; rfl)) ?_; (with_reducible refine (spec_DrawFromDeltas.calls kj63 _ _ l1 t493 t494 t495 _ ?side1 ?side2 A71.out).mono ?_); (case side1 => repeat (first | exact (Kd.C_below HR1.out HB.out) | exact HR1.out | (with_reducible refine Kd.C_alloc ?_ _) | (with_reducible refine Kd.C_drewN ?_ _) | (with_reducible refine Kd.C_drew ?_))); (case side2 => exact HC1.out); rintro e w82 ⟨v496, rfl, ho0, hb⟩; refine ⟨_, rfl, ?_⟩; have n0_ := Aside0.mk (Kd.R_lower ho0 (below_size (by repeat (first | (with_reducible first | exact HB.out | apply below_alloc | apply pw_below_drewN | apply below_drew1) | exact HB.out | exact Below.refl _ _)))); have n1_ := Aside0.mk (below_step (by repeat (first | (with_reducible first | exact HB.out | apply below_alloc | apply pw_below_drewN | apply below_drew1) | exact HB.out | exact Below.refl _ _)) hb); clear HB; have HO497 := n0_; have HB := n1_; clear n0_ n1_; (try clear hb); (try clear hb2); (try clear hk); (try clear hi); (try clear ho0); obtain ⟨Ao83, co83, eo83⟩ := Kd.R_slice HO497.out; subst eo83) | ((with_reducible refine gate_callee (f := 42) rfl ?_); refine goesL_ (some 196) rfl rfl Tryd.func42 (by kernel_rfl) rfl #[.int .i64 t493, .int .i64 t494, .slice Ao83 t495.length co83] rfl (by (try simp only [List.map_toArray, List.map_cons, List.map_nil]); first | done | rfl | (simp only [List.length_drop, List.length_take]; rfl)) ?_; (with_reducible refine (impl_FromDeltas.calls kj63 t493 t494 _ _ t495 t498 t499 _ ?side1 ?side2 A72.out).mono ?_); (case side1 => repeat (first | exact (Kd.R_reads' HO497.out).2.2 | (with_reducible refine Kd.C_alloc ?_ _) | (with_reducible refine Kd.C_drewN ?_ _) | (with_reducible refine Kd.C_drew ?_))); (case side2 => exact (Kd.R_reads' HO497.out).2.1); rintro e w84 ⟨v500, rfl, ho0, hb⟩; refine ⟨_, rfl, ?_⟩; have n0_ := Aside0.mk (Kd.R_elder' (by (with_reducible repeat (first | apply Kd.R_alloc | apply Kd.R_drewN | apply Kd.R_drew)); exact HO497.out) (Kd.R_base ho0) hb); have n1_ := Aside0.mk (Kd.R_lower (Kd.R_new' ho0 (Kd.R_lt (by (with_reducible repeat (first | apply Kd.R_alloc | apply Kd.R_drewN | apply Kd.R_drew)); exact HO497.out))) (below_size (by repeat (first | (with_reducible first | exact HB.out | apply below_alloc | apply pw_below_drewN | apply below_drew1) | exact HB.out | exact Below.refl _ _)))); have n2_ := Aside0.mk (below_step (by repeat (first | (with_reducible first | exact HB.out | apply below_alloc | apply pw_below_drewN | apply below_drew1) | exact HB.out | exact Below.refl _ _)) hb); clear HO497; clear HB; have HO497 := n0_; have HO501 := n1_; have HB := n2_; clear n0_ n1_ n2_; (try clear hb); (try clear hb2); (try clear hk); (try clear hi); (try clear ho0)) | ((with_reducible refine gate_callee (f := 45) rfl ?_); refine goesL_ (some 203) rfl rfl Tryd.func45 (by kernel_rfl) rfl #[.int .i64 t493, .int .i64 t494, .slice Ao83 t495.length co83] rfl (by (try simp only [List.map_toArray, List.map_cons, List.map_nil]); first | done | rfl | (simp only [List.length_drop, List.length_take]; rfl)) ?_; (with_reducible refine (spec_FromDeltas.calls kj63 t493 t494 _ _ t495 t502 t503 _ ?side1 ?side2 A73.out).mono ?_); (case side1 => repeat (first | exact (Kd.R_reads' HO497.out).2.2 | (with_reducible refine Kd.C_alloc ?_ _) | (with_reducible refine Kd.C_drewN ?_ _) | (with_reducible refine Kd.C_drew ?_))); (case side2 => exact (Kd.R_reads' HO497.out).2.1); rintro e w85 ⟨v504, rfl, ho0, hb⟩; refine ⟨_, rfl, ?_⟩; have n0_ := Aside0.mk (Kd.R_elder' (by (with_reducible repeat (first | apply Kd.R_alloc | apply Kd.R_drewN | apply Kd.R_drew)); exact HO497.out) (Kd.R_base ho0) hb); have n1_ := Aside0.mk (Kd.R_elder' (by (with_reducible repeat (first | apply Kd.R_alloc | apply Kd.R_drewN | apply Kd.R_drew)); exact HO501.out) (Kd.R_base ho0) hb); have n2_ := Aside0.mk (Kd.R_lower (Kd.R_new' (Kd.R_new' ho0 (Kd.R_lt (by (with_reducible repeat (first | apply Kd.R_alloc | apply Kd.R_drewN | apply Kd.R_drew)); exact HO497.out))) (Kd.R_lt (by (with_reducible repeat (first | apply Kd.R_alloc | apply Kd.R_drewN | apply Kd.R_drew)); exact HO501.out))) (below_size (by repeat (first | (with_reducible first | exact HB.out | apply below_alloc | apply pw_below_drewN | apply below_drew1) | exact HB.out | exact Below.refl _ _)))); have n3_ := Aside0.mk (below_step (by repeat (first | (with_reducible first | exact HB.out | apply below_alloc | apply pw_below_drewN | apply below_drew1) | exact HB.out | exact Below.refl _ _)) hb); clear HO497; clear HO501; clear HB; have HO497 := n0_; have HO501 := n1_; have HO505 := n2_; have HB := n3_; clear n0_ n1_ n2_ n3_; (try clear hb); (try clear hb2); (try clear hk); (try clear hi); (try clear ho0)))
                              go_ret
                              exact ⟨by first | rfl | (simp [errW_none, errW_some] <;> rfl) | (simp [*, errW_none, errW_some] <;> rfl), by repeat (first | (with_reducible first | exact HB.out | apply below_alloc | apply pw_below_drewN | apply below_drew1) | exact HB.out | exact Below.refl _ _)⟩

/-- THE ONE PURE STATEMENT of laws_FnCodes: yours. -/
def laws_FnCodes.Pure : Prop := ∀ (l0 : List Int) (l1 : List Int), l0.length ≤ maxLen → l0.length * 1 ≤ 140737488351232 → (∀ x ∈ l0, (Lit.int .u8 x).wf = true) → l1.length ≤ maxLen → l1.length * 1 ≤ 140737488351232 → (∀ x ∈ l1, (Lit.int .u8 x).wf = true) → ∃ k, laws_FnCodes.f k l0 l1 = some true
theorem laws_FnCodes.walk (P : laws_FnCodes.Pure) (a0 : Option Addr) (len0 cap0 : Nat) (z0 : List Int) (a1 : Option Addr) (len1 cap1 : Nat) (z1 : List Int) (w : World) (w0 : (a0 = none ∧ len0 = 0 ∧ cap0 = 0 ∧ z0 = []) ∨ ∃ x, a0 = some x ∧ len0 ≤ cap0 ∧ cap0 ≤ maxLen ∧ z0.length = cap0 ∧ (∀ i, i < z0.length → w.cell? (x.add i) = some (.int .u8 (z0.getD i 0))) ∧ ∀ n ∈ z0, (Lit.int .u8 n).wf = true) (y0 : len0 * 1 ≤ 140737488351232) (w1 : (a1 = none ∧ len1 = 0 ∧ cap1 = 0 ∧ z1 = []) ∨ ∃ x, a1 = some x ∧ len1 ≤ cap1 ∧ cap1 ≤ maxLen ∧ z1.length = cap1 ∧ (∀ i, i < z1.length → w.cell? (x.add i) = some (.int .u8 (z1.getD i 0))) ∧ ∀ n ∈ z1, (Lit.int .u8 n).wf = true) (y1 : len1 * 1 ≤ 140737488351232) (hT_ : Tab_ w) :
    Calls Tryd.prog 12 #[.slice a0 len0 cap0, .slice a1 len1 cap1] w fun e w' => e = .returned (.bool true) ∧ Below w.heap.size w w' := by
  obtain ⟨l0, rfl, hr0, hm0, hw0, hc0⟩ := ReadsInt.ofRowC w0
  obtain ⟨l1, rfl, hr1, hm1, hw1, hc1⟩ := ReadsInt.ofRowC w1
  obtain ⟨k, h⟩ := P l0 l1 hm0 y0 hw0 hm1 y1 hw1
  refine (laws_FnCodes.calls k _ _ l0 _ _ l1 true w (Kd.C_of_reads (d := (0 : Int)) (h1 := fun _ => rfl) hr0) hc0 (Kd.C_of_reads (d := (0 : Int)) (h1 := fun _ => rfl) hr1) hc1 h hT_).mono ?_
  rintro e w' ⟨rfl, hd⟩
  exact ⟨rfl, hd⟩

end Go.Proofs.YtnhifbopicjicaaDoor.PFnCodes
