/- What the law's functions compute, and that the calls come to just that: turned from a printed text. No condition. -/
import Derived.Test.YtnhifbopicjicaaDoorQFnCodesMovedx0
import Derived.Test.YtnhifbopicjicaaDoorQFnCodesMovedx1
import Derived.Test.YtnhifbopicjicaaDoorQFnCodesMovedx2
import Derived.Test.YtnhifbopicjicaaDoorQFnCodesMovedx3
import Derived.Test.YtnhifbopicjicaaDoorQFnCodesMovedx7
import Derived.Test.YtnhifbopicjicaaDoorQFnCodesMovedx8
import Derived.Test.YtnhifbopicjicaaDoorQFnCodesMovedx9
namespace Go.Proofs.YtnhifbopicjicaaDoor.PFnCodesMoved
open Go.RowKit Go.Proofs.YtnhifbopicjicaaDoorW.PrintWords Go.Proofs.YtnhifbopicjicaaDoorW.PrintLast Go.Proofs.YtnhifbopicjicaaDoorW.PrintMore
attribute [local go_sem] max2_int min2_int max_two min_two max_three min_three max_four min_four   -- for this text's walks alone
set_option linter.unusedVariables false
set_option linter.unusedSimpArgs false

/-! ### laws_FnCodesMoved: function 14 -/
mutual
def laws_FnCodesMoved.j0 : Nat → List Int → Int → List Int → List Int → List Int → Bool → Bool → Option (Bool)
  | 0, _, _, _, _, _, _, _ => none
  | k + 1, x1, x5, x6, x7, x8, x9, x77 => if x77 = true then (some false) else ((impl_IsCode.f k x5 x6).bind fun bt456 => ((impl_IsRoundCode.f k x5 x6).bind fun bt458 => (if x9 = true then (laws_FnCodesMoved.j1 k x1 x5 x6 x7 x8 bt456.1 bt458.1 bt458.2 bt456.2) else (laws_FnCodesMoved.j1 k x1 x5 x6 x7 x8 bt456.1 bt458.1 bt458.2 false))))
def laws_FnCodesMoved.j1 : Nat → List Int → Int → List Int → List Int → List Int → Bool → Bool → Bool → Bool → Option (Bool)
  | 0, _, _, _, _, _, _, _, _, _ => none
  | k + 1, x1, x5, x6, x7, x8, x12, x14, x15, x93 => if x93 = true then ((impl_IsCode.f k x5 x8).bind fun bt460 => (if bt460.2 = true then (laws_FnCodesMoved.j2 k x1 x5 x6 x7 x8 x14 x15 (bt460.1 != x12)) else (laws_FnCodesMoved.j2 k x1 x5 x6 x7 x8 x14 x15 true))) else (laws_FnCodesMoved.j4 k x1 x5 x6 x14 x15)
def laws_FnCodesMoved.j4 : Nat → List Int → Int → List Int → Bool → Bool → Option (Bool)
  | 0, _, _, _, _, _ => none
  | k + 1, x1, x5, x6, x14, x15 => (spec_DrawFlipBits.f k x1).bind fun bt473 => ((impl_FlipBits.f k bt473.1 bt473.2.1 bt473.2.2).bind fun bt478 => ((spec_FlipBits.f k bt473.1 bt473.2.1 bt473.2.2).bind fun bt482 => (if (bt478.2 != bt482.2) = true then (laws_FnCodesMoved.j5 k x1 x5 x6 x14 x15 bt473.1 bt473.2.1 bt478.1 bt478.2 true) else ((laws_uSame.f k bt478.1 bt482.1).bind fun t486 => (laws_FnCodesMoved.j5 k x1 x5 x6 x14 x15 bt473.1 bt473.2.1 bt478.1 bt478.2 (!t486))))))
def laws_FnCodesMoved.j5 : Nat → List Int → Int → List Int → Bool → Bool → Int → List Int → List Int → Bool → Bool → Option (Bool)
  | 0, _, _, _, _, _, _, _, _, _, _ => none
  | k + 1, x1, x5, x6, x14, x15, x24, x25, x27, x28, x167 => if x167 = true then (some false) else (if x28 = true then ((impl_IsRoundCode.f k x24 x25).bind fun bt487 => ((impl_IsRoundCode.f k x24 x27).bind fun bt489 => (if (bt487.2 != bt489.2) = true then (some false) else (if (bt487.1 != bt489.1) = true then (some false) else (laws_FnCodesMoved.j6 k x1 x5 x6 x14 x15))))) else (laws_FnCodesMoved.j6 k x1 x5 x6 x14 x15))
def laws_FnCodesMoved.j6 : Nat → List Int → Int → List Int → Bool → Bool → Option (Bool)
  | 0, _, _, _, _, _ => none
  | k + 1, x1, x5, x6, x14, x15 => if (x6.length : Int) > 0 then ((laws_numberOf.f k x1).bind fun t491 => (if (x6.length : Int) = 0 then (none) else (laws_FnCodesMoved.j7 k x5 x6 x14 x15 (Int.tmod t491 (x6.length : Int))))) else (laws_FnCodesMoved.j7 k x5 x6 x14 x15 0)
def laws_FnCodesMoved.j7 : Nat → Int → List Int → Bool → Bool → Int → Option (Bool)
  | 0, _, _, _, _, _ => none
  | k + 1, x5, x6, x14, x15, x35 => (impl_TurnList.f k x5 x6 x35).bind fun bt492 => ((spec_TurnList.f k x5 x6 x35).bind fun bt496 => (if (bt492.2 != bt496.2) = true then (laws_FnCodesMoved.j8 k x5 x6 x14 x15 bt492.1 bt492.2 true) else ((laws_uSame.f k bt492.1 bt496.1).bind fun t500 => (laws_FnCodesMoved.j8 k x5 x6 x14 x15 bt492.1 bt492.2 (!t500)))))
def laws_FnCodesMoved.j8 : Nat → Int → List Int → Bool → Bool → List Int → Bool → Bool → Option (Bool)
  | 0, _, _, _, _, _, _, _ => none
  | k + 1, x5, x6, x14, x15, x36, x37, x219 => if x219 = true then (some false) else (if x37 = true then (if x15 = true then (laws_FnCodesMoved.j9 k x5 x6 x36 x14) else (laws_FnCodesMoved.j9 k x5 x6 x36 false)) else (laws_FnCodesMoved.j9 k x5 x6 x36 false))
def laws_FnCodesMoved.j9 : Nat → Int → List Int → List Int → Bool → Option (Bool)
  | 0, _, _, _, _ => none
  | k + 1, x5, x6, x36, x226 => if x226 = true then ((impl_IsRoundCode.f k x5 x36).bind fun bt501 => ((impl_IsEvenlyChanged.f k x5 x6).bind fun bt503 => ((impl_IsEvenlyChanged.f k x5 x36).bind fun bt505 => (if bt501.2 = true then (if bt501.1 = true then (if bt503.2 = true then (if bt505.2 = true then (some (bt503.1 == bt505.1)) else (some false)) else (some false)) else (some false)) else (some false))))) else (some true)
def laws_FnCodesMoved.j2 : Nat → List Int → Int → List Int → List Int → List Int → Bool → Bool → Bool → Option (Bool)
  | 0, _, _, _, _, _, _, _, _ => none
  | k + 1, x1, x5, x6, x7, x8, x14, x15, x106 => if x106 = true then (some false) else ((impl_ChangesOf.f k x5 x6).bind fun bt462 => ((impl_ChangesOf.f k x5 x8).bind fun bt466 => (if (bt462.2 != bt466.2) = true then (some false) else (laws_FnCodesMoved.l0 k x1 x5 x6 x7 x14 x15 bt466.1 bt462.1 (bt462.1.length : Int) 0))))
def laws_FnCodesMoved.l0 : Nat → List Int → Int → List Int → List Int → Bool → Bool → List Int → List Int → Int → Int → Option (Bool)
  | 0, _, _, _, _, _, _, _, _, _, _ => none
  | k + 1, x1, x5, x6, x7, x14, x15, x20, x122, x123, x124 => if x124 < x123 then (if 0 ≤ x124 then (if x124 < (x122.length : Int) then (if x124 < (x7.length : Int) then (if 0 ≤ (rd x7 x124) then (if (rd x7 x124) < (x20.length : Int) then (if (rd x20 (rd x7 x124)) = (rd x122 x124) then (laws_FnCodesMoved.l0 k x1 x5 x6 x7 x14 x15 x20 x122 x123 (wrap64 (x124 + 1))) else (some false)) else (none)) else (none)) else (none)) else (none)) else (none)) else (laws_FnCodesMoved.j4 k x1 x5 x6 x14 x15)
end
def laws_FnCodesMoved.f (k : Nat) (l0 : List Int) (l1 : List Int) : Option (Bool) := (laws_big.f l0 l1).bind fun t439 => (if t439 = true then (some true) else ((spec_DrawMoveBits.f k l0).bind fun bt440 => ((impl_MoveBits.f k bt440.1 bt440.2.1 bt440.2.2).bind fun bt447 => ((spec_MoveBits.f k bt440.1 bt440.2.1 bt440.2.2).bind fun bt451 => (if (bt447.2 != bt451.2) = true then (laws_FnCodesMoved.j0 k l1 bt440.1 bt440.2.1 bt440.2.2 bt447.1 bt447.2 true) else ((laws_uSame.f k bt447.1 bt451.1).bind fun t455 => (laws_FnCodesMoved.j0 k l1 bt440.1 bt440.2.1 bt440.2.2 bt447.1 bt447.2 (!t455))))))))
theorem laws_FnCodesMoved.mono_l : ∀ k, (∀ y0 y1 y2 y3 y4 y5 y6, LeO (laws_FnCodesMoved.j0 k y0 y1 y2 y3 y4 y5 y6) (laws_FnCodesMoved.j0 (k + 1) y0 y1 y2 y3 y4 y5 y6)) ∧ (∀ y0 y1 y2 y3 y4 y5 y6 y7 y8, LeO (laws_FnCodesMoved.j1 k y0 y1 y2 y3 y4 y5 y6 y7 y8) (laws_FnCodesMoved.j1 (k + 1) y0 y1 y2 y3 y4 y5 y6 y7 y8)) ∧ (∀ y0 y1 y2 y3 y4, LeO (laws_FnCodesMoved.j4 k y0 y1 y2 y3 y4) (laws_FnCodesMoved.j4 (k + 1) y0 y1 y2 y3 y4)) ∧ (∀ y0 y1 y2 y3 y4 y5 y6 y7 y8 y9, LeO (laws_FnCodesMoved.j5 k y0 y1 y2 y3 y4 y5 y6 y7 y8 y9) (laws_FnCodesMoved.j5 (k + 1) y0 y1 y2 y3 y4 y5 y6 y7 y8 y9)) ∧ (∀ y0 y1 y2 y3 y4, LeO (laws_FnCodesMoved.j6 k y0 y1 y2 y3 y4) (laws_FnCodesMoved.j6 (k + 1) y0 y1 y2 y3 y4)) ∧ (∀ y0 y1 y2 y3 y4, LeO (laws_FnCodesMoved.j7 k y0 y1 y2 y3 y4) (laws_FnCodesMoved.j7 (k + 1) y0 y1 y2 y3 y4)) ∧ (∀ y0 y1 y2 y3 y4 y5 y6, LeO (laws_FnCodesMoved.j8 k y0 y1 y2 y3 y4 y5 y6) (laws_FnCodesMoved.j8 (k + 1) y0 y1 y2 y3 y4 y5 y6)) ∧ (∀ y0 y1 y2 y3, LeO (laws_FnCodesMoved.j9 k y0 y1 y2 y3) (laws_FnCodesMoved.j9 (k + 1) y0 y1 y2 y3)) ∧ (∀ y0 y1 y2 y3 y4 y5 y6 y7, LeO (laws_FnCodesMoved.j2 k y0 y1 y2 y3 y4 y5 y6 y7) (laws_FnCodesMoved.j2 (k + 1) y0 y1 y2 y3 y4 y5 y6 y7)) ∧ (∀ y0 y1 y2 y3 y4 y5 y6 y7 y8 y9, LeO (laws_FnCodesMoved.l0 k y0 y1 y2 y3 y4 y5 y6 y7 y8 y9) (laws_FnCodesMoved.l0 (k + 1) y0 y1 y2 y3 y4 y5 y6 y7 y8 y9))
  | 0 => ⟨fun _ _ _ _ _ _ _ r h => by simp [laws_FnCodesMoved.j0] at h, fun _ _ _ _ _ _ _ _ _ r h => by simp [laws_FnCodesMoved.j1] at h, fun _ _ _ _ _ r h => by simp [laws_FnCodesMoved.j4] at h, fun _ _ _ _ _ _ _ _ _ _ r h => by simp [laws_FnCodesMoved.j5] at h, fun _ _ _ _ _ r h => by simp [laws_FnCodesMoved.j6] at h, fun _ _ _ _ _ r h => by simp [laws_FnCodesMoved.j7] at h, fun _ _ _ _ _ _ _ r h => by simp [laws_FnCodesMoved.j8] at h, fun _ _ _ _ r h => by simp [laws_FnCodesMoved.j9] at h, fun _ _ _ _ _ _ _ _ r h => by simp [laws_FnCodesMoved.j2] at h, fun _ _ _ _ _ _ _ _ _ _ r h => by simp [laws_FnCodesMoved.l0] at h⟩
  | k + 1 => by
    obtain ⟨ih0, ih1, ih2, ih3, ih4, ih5, ih6, ih7, ih8, ih9⟩ := laws_FnCodesMoved.mono_l k
    refine ⟨?_, ?_, ?_, ?_, ?_, ?_, ?_, ?_, ?_, ?_⟩
    · intro y0 y1 y2 y3 y4 y5 y6
      unfold laws_FnCodesMoved.j0
      repeat' first
      | (with_reducible exact ih0 _ _ _ _ _ _ _)
      | (with_reducible exact ih1 _ _ _ _ _ _ _ _ _)
      | (with_reducible exact ih2 _ _ _ _ _)
      | (with_reducible exact ih3 _ _ _ _ _ _ _ _ _ _)
      | (with_reducible exact ih4 _ _ _ _ _)
      | (with_reducible exact ih5 _ _ _ _ _)
      | (with_reducible exact ih6 _ _ _ _ _ _ _)
      | (with_reducible exact ih7 _ _ _ _)
      | (with_reducible exact ih8 _ _ _ _ _ _ _ _)
      | (with_reducible exact ih9 _ _ _ _ _ _ _ _ _ _)
      | (with_reducible exact impl_ChangesOf.mono _ _ _)
      | (with_reducible exact impl_FlipBits.mono _ _ _ _)
      | (with_reducible exact impl_IsCode.mono _ _ _)
      | (with_reducible exact impl_IsEvenlyChanged.mono _ _ _)
      | (with_reducible exact impl_IsRoundCode.mono _ _ _)
      | (with_reducible exact impl_MoveBits.mono _ _ _ _)
      | (with_reducible exact impl_TurnList.mono _ _ _ _)
      | (with_reducible exact laws_numberOf.mono _ _)
      | (with_reducible exact laws_uSame.mono _ _ _)
      | (with_reducible exact spec_DrawFlipBits.mono _ _)
      | (with_reducible exact spec_DrawMoveBits.mono _ _)
      | (with_reducible exact spec_FlipBits.mono _ _ _ _)
      | (with_reducible exact spec_MoveBits.mono _ _ _ _)
      | (with_reducible exact spec_TurnList.mono _ _ _ _)
      | (with_reducible exact LeO.refl _)
      | (with_reducible exact LeO.none _)
      | (with_reducible refine LeO.ite ?_ ?_)
      | (with_reducible refine LeO.bind ?_ (fun _ => ?_))
      | exact ih0 _ _ _ _ _ _ _
      | exact ih1 _ _ _ _ _ _ _ _ _
      | exact ih2 _ _ _ _ _
      | exact ih3 _ _ _ _ _ _ _ _ _ _
      | exact ih4 _ _ _ _ _
      | exact ih5 _ _ _ _ _
      | exact ih6 _ _ _ _ _ _ _
      | exact ih7 _ _ _ _
      | exact ih8 _ _ _ _ _ _ _ _
      | exact ih9 _ _ _ _ _ _ _ _ _ _
      | exact impl_ChangesOf.mono _ _ _
      | exact impl_FlipBits.mono _ _ _ _
      | exact impl_IsCode.mono _ _ _
      | exact impl_IsEvenlyChanged.mono _ _ _
      | exact impl_IsRoundCode.mono _ _ _
      | exact impl_MoveBits.mono _ _ _ _
      | exact impl_TurnList.mono _ _ _ _
      | exact laws_numberOf.mono _ _
      | exact laws_uSame.mono _ _ _
      | exact spec_DrawFlipBits.mono _ _
      | exact spec_DrawMoveBits.mono _ _
      | exact spec_FlipBits.mono _ _ _ _
      | exact spec_MoveBits.mono _ _ _ _
      | exact spec_TurnList.mono _ _ _ _
      | exact LeO.none _
      | refine LeO.ite ?_ ?_
      | refine LeO.bind ?_ (fun _ => ?_)
    · intro y0 y1 y2 y3 y4 y5 y6 y7 y8
      unfold laws_FnCodesMoved.j1
      repeat' first
      | (with_reducible exact ih0 _ _ _ _ _ _ _)
      | (with_reducible exact ih1 _ _ _ _ _ _ _ _ _)
      | (with_reducible exact ih2 _ _ _ _ _)
      | (with_reducible exact ih3 _ _ _ _ _ _ _ _ _ _)
      | (with_reducible exact ih4 _ _ _ _ _)
      | (with_reducible exact ih5 _ _ _ _ _)
      | (with_reducible exact ih6 _ _ _ _ _ _ _)
      | (with_reducible exact ih7 _ _ _ _)
      | (with_reducible exact ih8 _ _ _ _ _ _ _ _)
      | (with_reducible exact ih9 _ _ _ _ _ _ _ _ _ _)
      | (with_reducible exact impl_ChangesOf.mono _ _ _)
      | (with_reducible exact impl_FlipBits.mono _ _ _ _)
      | (with_reducible exact impl_IsCode.mono _ _ _)
      | (with_reducible exact impl_IsEvenlyChanged.mono _ _ _)
      | (with_reducible exact impl_IsRoundCode.mono _ _ _)
      | (with_reducible exact impl_MoveBits.mono _ _ _ _)
      | (with_reducible exact impl_TurnList.mono _ _ _ _)
      | (with_reducible exact laws_numberOf.mono _ _)
      | (with_reducible exact laws_uSame.mono _ _ _)
      | (with_reducible exact spec_DrawFlipBits.mono _ _)
      | (with_reducible exact spec_DrawMoveBits.mono _ _)
      | (with_reducible exact spec_FlipBits.mono _ _ _ _)
      | (with_reducible exact spec_MoveBits.mono _ _ _ _)
      | (with_reducible exact spec_TurnList.mono _ _ _ _)
      | (with_reducible exact LeO.refl _)
      | (with_reducible exact LeO.none _)
      | (with_reducible refine LeO.ite ?_ ?_)
      | (with_reducible refine LeO.bind ?_ (fun _ => ?_))
      | exact ih0 _ _ _ _ _ _ _
      | exact ih1 _ _ _ _ _ _ _ _ _
      | exact ih2 _ _ _ _ _
      | exact ih3 _ _ _ _ _ _ _ _ _ _
      | exact ih4 _ _ _ _ _
      | exact ih5 _ _ _ _ _
      | exact ih6 _ _ _ _ _ _ _
      | exact ih7 _ _ _ _
      | exact ih8 _ _ _ _ _ _ _ _
      | exact ih9 _ _ _ _ _ _ _ _ _ _
      | exact impl_ChangesOf.mono _ _ _
      | exact impl_FlipBits.mono _ _ _ _
      | exact impl_IsCode.mono _ _ _
      | exact impl_IsEvenlyChanged.mono _ _ _
      | exact impl_IsRoundCode.mono _ _ _
      | exact impl_MoveBits.mono _ _ _ _
      | exact impl_TurnList.mono _ _ _ _
      | exact laws_numberOf.mono _ _
      | exact laws_uSame.mono _ _ _
      | exact spec_DrawFlipBits.mono _ _
      | exact spec_DrawMoveBits.mono _ _
      | exact spec_FlipBits.mono _ _ _ _
      | exact spec_MoveBits.mono _ _ _ _
      | exact spec_TurnList.mono _ _ _ _
      | exact LeO.none _
      | refine LeO.ite ?_ ?_
      | refine LeO.bind ?_ (fun _ => ?_)
    · intro y0 y1 y2 y3 y4
      unfold laws_FnCodesMoved.j4
      repeat' first
      | (with_reducible exact ih0 _ _ _ _ _ _ _)
      | (with_reducible exact ih1 _ _ _ _ _ _ _ _ _)
      | (with_reducible exact ih2 _ _ _ _ _)
      | (with_reducible exact ih3 _ _ _ _ _ _ _ _ _ _)
      | (with_reducible exact ih4 _ _ _ _ _)
      | (with_reducible exact ih5 _ _ _ _ _)
      | (with_reducible exact ih6 _ _ _ _ _ _ _)
      | (with_reducible exact ih7 _ _ _ _)
      | (with_reducible exact ih8 _ _ _ _ _ _ _ _)
      | (with_reducible exact ih9 _ _ _ _ _ _ _ _ _ _)
      | (with_reducible exact impl_ChangesOf.mono _ _ _)
      | (with_reducible exact impl_FlipBits.mono _ _ _ _)
      | (with_reducible exact impl_IsCode.mono _ _ _)
      | (with_reducible exact impl_IsEvenlyChanged.mono _ _ _)
      | (with_reducible exact impl_IsRoundCode.mono _ _ _)
      | (with_reducible exact impl_MoveBits.mono _ _ _ _)
      | (with_reducible exact impl_TurnList.mono _ _ _ _)
      | (with_reducible exact laws_numberOf.mono _ _)
      | (with_reducible exact laws_uSame.mono _ _ _)
      | (with_reducible exact spec_DrawFlipBits.mono _ _)
      | (with_reducible exact spec_DrawMoveBits.mono _ _)
      | (with_reducible exact spec_FlipBits.mono _ _ _ _)
      | (with_reducible exact spec_MoveBits.mono _ _ _ _)
      | (with_reducible exact spec_TurnList.mono _ _ _ _)
      | (with_reducible exact LeO.refl _)
      | (with_reducible exact LeO.none _)
      | (with_reducible refine LeO.ite ?_ ?_)
      | (with_reducible refine LeO.bind ?_ (fun _ => ?_))
      | exact ih0 _ _ _ _ _ _ _
      | exact ih1 _ _ _ _ _ _ _ _ _
      | exact ih2 _ _ _ _ _
      | exact ih3 _ _ _ _ _ _ _ _ _ _
      | exact ih4 _ _ _ _ _
      | exact ih5 _ _ _ _ _
      | exact ih6 _ _ _ _ _ _ _
      | exact ih7 _ _ _ _
      | exact ih8 _ _ _ _ _ _ _ _
      | exact ih9 _ _ _ _ _ _ _ _ _ _
      | exact impl_ChangesOf.mono _ _ _
      | exact impl_FlipBits.mono _ _ _ _
      | exact impl_IsCode.mono _ _ _
      | exact impl_IsEvenlyChanged.mono _ _ _
      | exact impl_IsRoundCode.mono _ _ _
      | exact impl_MoveBits.mono _ _ _ _
      | exact impl_TurnList.mono _ _ _ _
      | exact laws_numberOf.mono _ _
      | exact laws_uSame.mono _ _ _
      | exact spec_DrawFlipBits.mono _ _
      | exact spec_DrawMoveBits.mono _ _
      | exact spec_FlipBits.mono _ _ _ _
      | exact spec_MoveBits.mono _ _ _ _
      | exact spec_TurnList.mono _ _ _ _
      | exact LeO.none _
      | refine LeO.ite ?_ ?_
      | refine LeO.bind ?_ (fun _ => ?_)
    · intro y0 y1 y2 y3 y4 y5 y6 y7 y8 y9
      unfold laws_FnCodesMoved.j5
      repeat' first
      | (with_reducible exact ih0 _ _ _ _ _ _ _)
      | (with_reducible exact ih1 _ _ _ _ _ _ _ _ _)
      | (with_reducible exact ih2 _ _ _ _ _)
      | (with_reducible exact ih3 _ _ _ _ _ _ _ _ _ _)
      | (with_reducible exact ih4 _ _ _ _ _)
      | (with_reducible exact ih5 _ _ _ _ _)
      | (with_reducible exact ih6 _ _ _ _ _ _ _)
      | (with_reducible exact ih7 _ _ _ _)
      | (with_reducible exact ih8 _ _ _ _ _ _ _ _)
      | (with_reducible exact ih9 _ _ _ _ _ _ _ _ _ _)
      | (with_reducible exact impl_ChangesOf.mono _ _ _)
      | (with_reducible exact impl_FlipBits.mono _ _ _ _)
      | (with_reducible exact impl_IsCode.mono _ _ _)
      | (with_reducible exact impl_IsEvenlyChanged.mono _ _ _)
      | (with_reducible exact impl_IsRoundCode.mono _ _ _)
      | (with_reducible exact impl_MoveBits.mono _ _ _ _)
      | (with_reducible exact impl_TurnList.mono _ _ _ _)
      | (with_reducible exact laws_numberOf.mono _ _)
      | (with_reducible exact laws_uSame.mono _ _ _)
      | (with_reducible exact spec_DrawFlipBits.mono _ _)
      | (with_reducible exact spec_DrawMoveBits.mono _ _)
      | (with_reducible exact spec_FlipBits.mono _ _ _ _)
      | (with_reducible exact spec_MoveBits.mono _ _ _ _)
      | (with_reducible exact spec_TurnList.mono _ _ _ _)
      | (with_reducible exact LeO.refl _)
      | (with_reducible exact LeO.none _)
      | (with_reducible refine LeO.ite ?_ ?_)
      | (with_reducible refine LeO.bind ?_ (fun _ => ?_))
      | exact ih0 _ _ _ _ _ _ _
      | exact ih1 _ _ _ _ _ _ _ _ _
      | exact ih2 _ _ _ _ _
      | exact ih3 _ _ _ _ _ _ _ _ _ _
      | exact ih4 _ _ _ _ _
      | exact ih5 _ _ _ _ _
      | exact ih6 _ _ _ _ _ _ _
      | exact ih7 _ _ _ _
      | exact ih8 _ _ _ _ _ _ _ _
      | exact ih9 _ _ _ _ _ _ _ _ _ _
      | exact impl_ChangesOf.mono _ _ _
      | exact impl_FlipBits.mono _ _ _ _
      | exact impl_IsCode.mono _ _ _
      | exact impl_IsEvenlyChanged.mono _ _ _
      | exact impl_IsRoundCode.mono _ _ _
      | exact impl_MoveBits.mono _ _ _ _
      | exact impl_TurnList.mono _ _ _ _
      | exact laws_numberOf.mono _ _
      | exact laws_uSame.mono _ _ _
      | exact spec_DrawFlipBits.mono _ _
      | exact spec_DrawMoveBits.mono _ _
      | exact spec_FlipBits.mono _ _ _ _
      | exact spec_MoveBits.mono _ _ _ _
      | exact spec_TurnList.mono _ _ _ _
      | exact LeO.none _
      | refine LeO.ite ?_ ?_
      | refine LeO.bind ?_ (fun _ => ?_)
    · intro y0 y1 y2 y3 y4
      unfold laws_FnCodesMoved.j6
      repeat' first
      | (with_reducible exact ih0 _ _ _ _ _ _ _)
      | (with_reducible exact ih1 _ _ _ _ _ _ _ _ _)
      | (with_reducible exact ih2 _ _ _ _ _)
      | (with_reducible exact ih3 _ _ _ _ _ _ _ _ _ _)
      | (with_reducible exact ih4 _ _ _ _ _)
      | (with_reducible exact ih5 _ _ _ _ _)
      | (with_reducible exact ih6 _ _ _ _ _ _ _)
      | (with_reducible exact ih7 _ _ _ _)
      | (with_reducible exact ih8 _ _ _ _ _ _ _ _)
      | (with_reducible exact ih9 _ _ _ _ _ _ _ _ _ _)
      | (with_reducible exact impl_ChangesOf.mono _ _ _)
      | (with_reducible exact impl_FlipBits.mono _ _ _ _)
      | (with_reducible exact impl_IsCode.mono _ _ _)
      | (with_reducible exact impl_IsEvenlyChanged.mono _ _ _)
      | (with_reducible exact impl_IsRoundCode.mono _ _ _)
      | (with_reducible exact impl_MoveBits.mono _ _ _ _)
      | (with_reducible exact impl_TurnList.mono _ _ _ _)
      | (with_reducible exact laws_numberOf.mono _ _)
      | (with_reducible exact laws_uSame.mono _ _ _)
      | (with_reducible exact spec_DrawFlipBits.mono _ _)
      | (with_reducible exact spec_DrawMoveBits.mono _ _)
      | (with_reducible exact spec_FlipBits.mono _ _ _ _)
      | (with_reducible exact spec_MoveBits.mono _ _ _ _)
      | (with_reducible exact spec_TurnList.mono _ _ _ _)
      | (with_reducible exact LeO.refl _)
      | (with_reducible exact LeO.none _)
      | (with_reducible refine LeO.ite ?_ ?_)
      | (with_reducible refine LeO.bind ?_ (fun _ => ?_))
      | exact ih0 _ _ _ _ _ _ _
      | exact ih1 _ _ _ _ _ _ _ _ _
      | exact ih2 _ _ _ _ _
      | exact ih3 _ _ _ _ _ _ _ _ _ _
      | exact ih4 _ _ _ _ _
      | exact ih5 _ _ _ _ _
      | exact ih6 _ _ _ _ _ _ _
      | exact ih7 _ _ _ _
      | exact ih8 _ _ _ _ _ _ _ _
      | exact ih9 _ _ _ _ _ _ _ _ _ _
      | exact impl_ChangesOf.mono _ _ _
      | exact impl_FlipBits.mono _ _ _ _
      | exact impl_IsCode.mono _ _ _
      | exact impl_IsEvenlyChanged.mono _ _ _
      | exact impl_IsRoundCode.mono _ _ _
      | exact impl_MoveBits.mono _ _ _ _
      | exact impl_TurnList.mono _ _ _ _
      | exact laws_numberOf.mono _ _
      | exact laws_uSame.mono _ _ _
      | exact spec_DrawFlipBits.mono _ _
      | exact spec_DrawMoveBits.mono _ _
      | exact spec_FlipBits.mono _ _ _ _
      | exact spec_MoveBits.mono _ _ _ _
      | exact spec_TurnList.mono _ _ _ _
      | exact LeO.none _
      | refine LeO.ite ?_ ?_
      | refine LeO.bind ?_ (fun _ => ?_)
    · intro y0 y1 y2 y3 y4
      unfold laws_FnCodesMoved.j7
      repeat' first
      | (with_reducible exact ih0 _ _ _ _ _ _ _)
      | (with_reducible exact ih1 _ _ _ _ _ _ _ _ _)
      | (with_reducible exact ih2 _ _ _ _ _)
      | (with_reducible exact ih3 _ _ _ _ _ _ _ _ _ _)
      | (with_reducible exact ih4 _ _ _ _ _)
      | (with_reducible exact ih5 _ _ _ _ _)
      | (with_reducible exact ih6 _ _ _ _ _ _ _)
      | (with_reducible exact ih7 _ _ _ _)
      | (with_reducible exact ih8 _ _ _ _ _ _ _ _)
      | (with_reducible exact ih9 _ _ _ _ _ _ _ _ _ _)
      | (with_reducible exact impl_ChangesOf.mono _ _ _)
      | (with_reducible exact impl_FlipBits.mono _ _ _ _)
      | (with_reducible exact impl_IsCode.mono _ _ _)
      | (with_reducible exact impl_IsEvenlyChanged.mono _ _ _)
      | (with_reducible exact impl_IsRoundCode.mono _ _ _)
      | (with_reducible exact impl_MoveBits.mono _ _ _ _)
      | (with_reducible exact impl_TurnList.mono _ _ _ _)
      | (with_reducible exact laws_numberOf.mono _ _)
      | (with_reducible exact laws_uSame.mono _ _ _)
      | (with_reducible exact spec_DrawFlipBits.mono _ _)
      | (with_reducible exact spec_DrawMoveBits.mono _ _)
      | (with_reducible exact spec_FlipBits.mono _ _ _ _)
      | (with_reducible exact spec_MoveBits.mono _ _ _ _)
      | (with_reducible exact spec_TurnList.mono _ _ _ _)
      | (with_reducible exact LeO.refl _)
      | (with_reducible exact LeO.none _)
      | (with_reducible refine LeO.ite ?_ ?_)
      | (with_reducible refine LeO.bind ?_ (fun _ => ?_))
      | exact ih0 _ _ _ _ _ _ _
      | exact ih1 _ _ _ _ _ _ _ _ _
      | exact ih2 _ _ _ _ _
      | exact ih3 _ _ _ _ _ _ _ _ _ _
      | exact ih4 _ _ _ _ _
      | exact ih5 _ _ _ _ _
      | exact ih6 _ _ _ _ _ _ _
      | exact ih7 _ _ _ _
      | exact ih8 _ _ _ _ _ _ _ _
      | exact ih9 _ _ _ _ _ _ _ _ _ _
      | exact impl_ChangesOf.mono _ _ _
      | exact impl_FlipBits.mono _ _ _ _
      | exact impl_IsCode.mono _ _ _
      | exact impl_IsEvenlyChanged.mono _ _ _
      | exact impl_IsRoundCode.mono _ _ _
      | exact impl_MoveBits.mono _ _ _ _
      | exact impl_TurnList.mono _ _ _ _
      | exact laws_numberOf.mono _ _
      | exact laws_uSame.mono _ _ _
      | exact spec_DrawFlipBits.mono _ _
      | exact spec_DrawMoveBits.mono _ _
      | exact spec_FlipBits.mono _ _ _ _
      | exact spec_MoveBits.mono _ _ _ _
      | exact spec_TurnList.mono _ _ _ _
      | exact LeO.none _
      | refine LeO.ite ?_ ?_
      | refine LeO.bind ?_ (fun _ => ?_)
    · intro y0 y1 y2 y3 y4 y5 y6
      unfold laws_FnCodesMoved.j8
      repeat' first
      | (with_reducible exact ih0 _ _ _ _ _ _ _)
      | (with_reducible exact ih1 _ _ _ _ _ _ _ _ _)
      | (with_reducible exact ih2 _ _ _ _ _)
      | (with_reducible exact ih3 _ _ _ _ _ _ _ _ _ _)
      | (with_reducible exact ih4 _ _ _ _ _)
      | (with_reducible exact ih5 _ _ _ _ _)
      | (with_reducible exact ih6 _ _ _ _ _ _ _)
      | (with_reducible exact ih7 _ _ _ _)
      | (with_reducible exact ih8 _ _ _ _ _ _ _ _)
      | (with_reducible exact ih9 _ _ _ _ _ _ _ _ _ _)
      | (with_reducible exact impl_ChangesOf.mono _ _ _)
      | (with_reducible exact impl_FlipBits.mono _ _ _ _)
      | (with_reducible exact impl_IsCode.mono _ _ _)
      | (with_reducible exact impl_IsEvenlyChanged.mono _ _ _)
      | (with_reducible exact impl_IsRoundCode.mono _ _ _)
      | (with_reducible exact impl_MoveBits.mono _ _ _ _)
      | (with_reducible exact impl_TurnList.mono _ _ _ _)
      | (with_reducible exact laws_numberOf.mono _ _)
      | (with_reducible exact laws_uSame.mono _ _ _)
      | (with_reducible exact spec_DrawFlipBits.mono _ _)
      | (with_reducible exact spec_DrawMoveBits.mono _ _)
      | (with_reducible exact spec_FlipBits.mono _ _ _ _)
      | (with_reducible exact spec_MoveBits.mono _ _ _ _)
      | (with_reducible exact spec_TurnList.mono _ _ _ _)
      | (with_reducible exact LeO.refl _)
      | (with_reducible exact LeO.none _)
      | (with_reducible refine LeO.ite ?_ ?_)
      | (with_reducible refine LeO.bind ?_ (fun _ => ?_))
      | exact ih0 _ _ _ _ _ _ _
      | exact ih1 _ _ _ _ _ _ _ _ _
      | exact ih2 _ _ _ _ _
      | exact ih3 _ _ _ _ _ _ _ _ _ _
      | exact ih4 _ _ _ _ _
      | exact ih5 _ _ _ _ _
      | exact ih6 _ _ _ _ _ _ _
      | exact ih7 _ _ _ _
      | exact ih8 _ _ _ _ _ _ _ _
      | exact ih9 _ _ _ _ _ _ _ _ _ _
      | exact impl_ChangesOf.mono _ _ _
      | exact impl_FlipBits.mono _ _ _ _
      | exact impl_IsCode.mono _ _ _
      | exact impl_IsEvenlyChanged.mono _ _ _
      | exact impl_IsRoundCode.mono _ _ _
      | exact impl_MoveBits.mono _ _ _ _
      | exact impl_TurnList.mono _ _ _ _
      | exact laws_numberOf.mono _ _
      | exact laws_uSame.mono _ _ _
      | exact spec_DrawFlipBits.mono _ _
      | exact spec_DrawMoveBits.mono _ _
      | exact spec_FlipBits.mono _ _ _ _
      | exact spec_MoveBits.mono _ _ _ _
      | exact spec_TurnList.mono _ _ _ _
      | exact LeO.none _
      | refine LeO.ite ?_ ?_
      | refine LeO.bind ?_ (fun _ => ?_)
    · intro y0 y1 y2 y3
      unfold laws_FnCodesMoved.j9
      repeat' first
      | (with_reducible exact ih0 _ _ _ _ _ _ _)
      | (with_reducible exact ih1 _ _ _ _ _ _ _ _ _)
      | (with_reducible exact ih2 _ _ _ _ _)
      | (with_reducible exact ih3 _ _ _ _ _ _ _ _ _ _)
      | (with_reducible exact ih4 _ _ _ _ _)
      | (with_reducible exact ih5 _ _ _ _ _)
      | (with_reducible exact ih6 _ _ _ _ _ _ _)
      | (with_reducible exact ih7 _ _ _ _)
      | (with_reducible exact ih8 _ _ _ _ _ _ _ _)
      | (with_reducible exact ih9 _ _ _ _ _ _ _ _ _ _)
      | (with_reducible exact impl_ChangesOf.mono _ _ _)
      | (with_reducible exact impl_FlipBits.mono _ _ _ _)
      | (with_reducible exact impl_IsCode.mono _ _ _)
      | (with_reducible exact impl_IsEvenlyChanged.mono _ _ _)
      | (with_reducible exact impl_IsRoundCode.mono _ _ _)
      | (with_reducible exact impl_MoveBits.mono _ _ _ _)
      | (with_reducible exact impl_TurnList.mono _ _ _ _)
      | (with_reducible exact laws_numberOf.mono _ _)
      | (with_reducible exact laws_uSame.mono _ _ _)
      | (with_reducible exact spec_DrawFlipBits.mono _ _)
      | (with_reducible exact spec_DrawMoveBits.mono _ _)
      | (with_reducible exact spec_FlipBits.mono _ _ _ _)
      | (with_reducible exact spec_MoveBits.mono _ _ _ _)
      | (with_reducible exact spec_TurnList.mono _ _ _ _)
      | (with_reducible exact LeO.refl _)
      | (with_reducible exact LeO.none _)
      | (with_reducible refine LeO.ite ?_ ?_)
      | (with_reducible refine LeO.bind ?_ (fun _ => ?_))
      | exact ih0 _ _ _ _ _ _ _
      | exact ih1 _ _ _ _ _ _ _ _ _
      | exact ih2 _ _ _ _ _
      | exact ih3 _ _ _ _ _ _ _ _ _ _
      | exact ih4 _ _ _ _ _
      | exact ih5 _ _ _ _ _
      | exact ih6 _ _ _ _ _ _ _
      | exact ih7 _ _ _ _
      | exact ih8 _ _ _ _ _ _ _ _
      | exact ih9 _ _ _ _ _ _ _ _ _ _
      | exact impl_ChangesOf.mono _ _ _
      | exact impl_FlipBits.mono _ _ _ _
      | exact impl_IsCode.mono _ _ _
      | exact impl_IsEvenlyChanged.mono _ _ _
      | exact impl_IsRoundCode.mono _ _ _
      | exact impl_MoveBits.mono _ _ _ _
      | exact impl_TurnList.mono _ _ _ _
      | exact laws_numberOf.mono _ _
      | exact laws_uSame.mono _ _ _
      | exact spec_DrawFlipBits.mono _ _
      | exact spec_DrawMoveBits.mono _ _
      | exact spec_FlipBits.mono _ _ _ _
      | exact spec_MoveBits.mono _ _ _ _
      | exact spec_TurnList.mono _ _ _ _
      | exact LeO.none _
      | refine LeO.ite ?_ ?_
      | refine LeO.bind ?_ (fun _ => ?_)
    · intro y0 y1 y2 y3 y4 y5 y6 y7
      unfold laws_FnCodesMoved.j2
      repeat' first
      | (with_reducible exact ih0 _ _ _ _ _ _ _)
      | (with_reducible exact ih1 _ _ _ _ _ _ _ _ _)
      | (with_reducible exact ih2 _ _ _ _ _)
      | (with_reducible exact ih3 _ _ _ _ _ _ _ _ _ _)
      | (with_reducible exact ih4 _ _ _ _ _)
      | (with_reducible exact ih5 _ _ _ _ _)
      | (with_reducible exact ih6 _ _ _ _ _ _ _)
      | (with_reducible exact ih7 _ _ _ _)
      | (with_reducible exact ih8 _ _ _ _ _ _ _ _)
      | (with_reducible exact ih9 _ _ _ _ _ _ _ _ _ _)
      | (with_reducible exact impl_ChangesOf.mono _ _ _)
      | (with_reducible exact impl_FlipBits.mono _ _ _ _)
      | (with_reducible exact impl_IsCode.mono _ _ _)
      | (with_reducible exact impl_IsEvenlyChanged.mono _ _ _)
      | (with_reducible exact impl_IsRoundCode.mono _ _ _)
      | (with_reducible exact impl_MoveBits.mono _ _ _ _)
      | (with_reducible exact impl_TurnList.mono _ _ _ _)
      | (with_reducible exact laws_numberOf.mono _ _)
      | (with_reducible exact laws_uSame.mono _ _ _)
      | (with_reducible exact spec_DrawFlipBits.mono _ _)
      | (with_reducible exact spec_DrawMoveBits.mono _ _)
      | (with_reducible exact spec_FlipBits.mono _ _ _ _)
      | (with_reducible exact spec_MoveBits.mono _ _ _ _)
      | (with_reducible exact spec_TurnList.mono _ _ _ _)
      | (with_reducible exact LeO.refl _)
      | (with_reducible exact LeO.none _)
      | (with_reducible refine LeO.ite ?_ ?_)
      | (with_reducible refine LeO.bind ?_ (fun _ => ?_))
      | exact ih0 _ _ _ _ _ _ _
      | exact ih1 _ _ _ _ _ _ _ _ _
      | exact ih2 _ _ _ _ _
      | exact ih3 _ _ _ _ _ _ _ _ _ _
      | exact ih4 _ _ _ _ _
      | exact ih5 _ _ _ _ _
      | exact ih6 _ _ _ _ _ _ _
      | exact ih7 _ _ _ _
      | exact ih8 _ _ _ _ _ _ _ _
      | exact ih9 _ _ _ _ _ _ _ _ _ _
      | exact impl_ChangesOf.mono _ _ _
      | exact impl_FlipBits.mono _ _ _ _
      | exact impl_IsCode.mono _ _ _
      | exact impl_IsEvenlyChanged.mono _ _ _
      | exact impl_IsRoundCode.mono _ _ _
      | exact impl_MoveBits.mono _ _ _ _
      | exact impl_TurnList.mono _ _ _ _
      | exact laws_numberOf.mono _ _
      | exact laws_uSame.mono _ _ _
      | exact spec_DrawFlipBits.mono _ _
      | exact spec_DrawMoveBits.mono _ _
      | exact spec_FlipBits.mono _ _ _ _
      | exact spec_MoveBits.mono _ _ _ _
      | exact spec_TurnList.mono _ _ _ _
      | exact LeO.none _
      | refine LeO.ite ?_ ?_
      | refine LeO.bind ?_ (fun _ => ?_)
    · intro y0 y1 y2 y3 y4 y5 y6 y7 y8 y9
      unfold laws_FnCodesMoved.l0
      repeat' first
      | (with_reducible exact ih0 _ _ _ _ _ _ _)
      | (with_reducible exact ih1 _ _ _ _ _ _ _ _ _)
      | (with_reducible exact ih2 _ _ _ _ _)
      | (with_reducible exact ih3 _ _ _ _ _ _ _ _ _ _)
      | (with_reducible exact ih4 _ _ _ _ _)
      | (with_reducible exact ih5 _ _ _ _ _)
      | (with_reducible exact ih6 _ _ _ _ _ _ _)
      | (with_reducible exact ih7 _ _ _ _)
      | (with_reducible exact ih8 _ _ _ _ _ _ _ _)
      | (with_reducible exact ih9 _ _ _ _ _ _ _ _ _ _)
      | (with_reducible exact impl_ChangesOf.mono _ _ _)
      | (with_reducible exact impl_FlipBits.mono _ _ _ _)
      | (with_reducible exact impl_IsCode.mono _ _ _)
      | (with_reducible exact impl_IsEvenlyChanged.mono _ _ _)
      | (with_reducible exact impl_IsRoundCode.mono _ _ _)
      | (with_reducible exact impl_MoveBits.mono _ _ _ _)
      | (with_reducible exact impl_TurnList.mono _ _ _ _)
      | (with_reducible exact laws_numberOf.mono _ _)
      | (with_reducible exact laws_uSame.mono _ _ _)
      | (with_reducible exact spec_DrawFlipBits.mono _ _)
      | (with_reducible exact spec_DrawMoveBits.mono _ _)
      | (with_reducible exact spec_FlipBits.mono _ _ _ _)
      | (with_reducible exact spec_MoveBits.mono _ _ _ _)
      | (with_reducible exact spec_TurnList.mono _ _ _ _)
      | (with_reducible exact LeO.refl _)
      | (with_reducible exact LeO.none _)
      | (with_reducible refine LeO.ite ?_ ?_)
      | (with_reducible refine LeO.bind ?_ (fun _ => ?_))
      | exact ih0 _ _ _ _ _ _ _
      | exact ih1 _ _ _ _ _ _ _ _ _
      | exact ih2 _ _ _ _ _
      | exact ih3 _ _ _ _ _ _ _ _ _ _
      | exact ih4 _ _ _ _ _
      | exact ih5 _ _ _ _ _
      | exact ih6 _ _ _ _ _ _ _
      | exact ih7 _ _ _ _
      | exact ih8 _ _ _ _ _ _ _ _
      | exact ih9 _ _ _ _ _ _ _ _ _ _
      | exact impl_ChangesOf.mono _ _ _
      | exact impl_FlipBits.mono _ _ _ _
      | exact impl_IsCode.mono _ _ _
      | exact impl_IsEvenlyChanged.mono _ _ _
      | exact impl_IsRoundCode.mono _ _ _
      | exact impl_MoveBits.mono _ _ _ _
      | exact impl_TurnList.mono _ _ _ _
      | exact laws_numberOf.mono _ _
      | exact laws_uSame.mono _ _ _
      | exact spec_DrawFlipBits.mono _ _
      | exact spec_DrawMoveBits.mono _ _
      | exact spec_FlipBits.mono _ _ _ _
      | exact spec_MoveBits.mono _ _ _ _
      | exact spec_TurnList.mono _ _ _ _
      | exact LeO.none _
      | refine LeO.ite ?_ ?_
      | refine LeO.bind ?_ (fun _ => ?_)
theorem laws_FnCodesMoved.mono : ∀ a0 a1 k, LeO (laws_FnCodesMoved.f k a0 a1) (laws_FnCodesMoved.f (k + 1) a0 a1) := by
  intro a0 a1 k
  obtain ⟨ih0, ih1, ih2, ih3, ih4, ih5, ih6, ih7, ih8, ih9⟩ := laws_FnCodesMoved.mono_l k
  unfold laws_FnCodesMoved.f
  repeat' first
      | (with_reducible exact ih0 _ _ _ _ _ _ _)
      | (with_reducible exact ih1 _ _ _ _ _ _ _ _ _)
      | (with_reducible exact ih2 _ _ _ _ _)
      | (with_reducible exact ih3 _ _ _ _ _ _ _ _ _ _)
      | (with_reducible exact ih4 _ _ _ _ _)
      | (with_reducible exact ih5 _ _ _ _ _)
      | (with_reducible exact ih6 _ _ _ _ _ _ _)
      | (with_reducible exact ih7 _ _ _ _)
      | (with_reducible exact ih8 _ _ _ _ _ _ _ _)
      | (with_reducible exact ih9 _ _ _ _ _ _ _ _ _ _)
      | (with_reducible exact impl_ChangesOf.mono _ _ _)
      | (with_reducible exact impl_FlipBits.mono _ _ _ _)
      | (with_reducible exact impl_IsCode.mono _ _ _)
      | (with_reducible exact impl_IsEvenlyChanged.mono _ _ _)
      | (with_reducible exact impl_IsRoundCode.mono _ _ _)
      | (with_reducible exact impl_MoveBits.mono _ _ _ _)
      | (with_reducible exact impl_TurnList.mono _ _ _ _)
      | (with_reducible exact laws_numberOf.mono _ _)
      | (with_reducible exact laws_uSame.mono _ _ _)
      | (with_reducible exact spec_DrawFlipBits.mono _ _)
      | (with_reducible exact spec_DrawMoveBits.mono _ _)
      | (with_reducible exact spec_FlipBits.mono _ _ _ _)
      | (with_reducible exact spec_MoveBits.mono _ _ _ _)
      | (with_reducible exact spec_TurnList.mono _ _ _ _)
      | (with_reducible exact LeO.refl _)
      | (with_reducible exact LeO.none _)
      | (with_reducible refine LeO.ite ?_ ?_)
      | (with_reducible refine LeO.bind ?_ (fun _ => ?_))
      | exact ih0 _ _ _ _ _ _ _
      | exact ih1 _ _ _ _ _ _ _ _ _
      | exact ih2 _ _ _ _ _
      | exact ih3 _ _ _ _ _ _ _ _ _ _
      | exact ih4 _ _ _ _ _
      | exact ih5 _ _ _ _ _
      | exact ih6 _ _ _ _ _ _ _
      | exact ih7 _ _ _ _
      | exact ih8 _ _ _ _ _ _ _ _
      | exact ih9 _ _ _ _ _ _ _ _ _ _
      | exact impl_ChangesOf.mono _ _ _
      | exact impl_FlipBits.mono _ _ _ _
      | exact impl_IsCode.mono _ _ _
      | exact impl_IsEvenlyChanged.mono _ _ _
      | exact impl_IsRoundCode.mono _ _ _
      | exact impl_MoveBits.mono _ _ _ _
      | exact impl_TurnList.mono _ _ _ _
      | exact laws_numberOf.mono _ _
      | exact laws_uSame.mono _ _ _
      | exact spec_DrawFlipBits.mono _ _
      | exact spec_DrawMoveBits.mono _ _
      | exact spec_FlipBits.mono _ _ _ _
      | exact spec_MoveBits.mono _ _ _ _
      | exact spec_TurnList.mono _ _ _ _
      | exact LeO.none _
      | refine LeO.ite ?_ ?_
      | refine LeO.bind ?_ (fun _ => ?_)
set_option maxHeartbeats 8000000 in
set_option maxRecDepth 100000 in
theorem laws_FnCodesMoved.calls (k : Nat) (A0 : Option Addr) (c0 : Nat) (l0 : List Int) (A1 : Option Addr) (c1 : Nat) (l1 : List Int) (r : Bool) (w : World) (hr0 : Kd.C (Kd.int .u8) w A0 l0.length l0) (hc0 : l0.length ≤ c0) (hr1 : Kd.C (Kd.int .u8) w A1 l1.length l1) (hc1 : l1.length ≤ c1) (h : laws_FnCodesMoved.f k l0 l1 = some r) (hT_ : Tab_ w) :
    Calls Tryd.prog 14 #[.slice A0 l0.length c0, .slice A1 l1.length c1] w fun e w' => e = .returned (.bool r) ∧ Below w.heap.size w w' := by
  have HTab_ := Aside0.mk hT_
  clear hT_
  have HR0 := Aside0.mk hr0
  have HC0 := Aside0.mk hc0
  clear hr0 hc0
  have HR1 := Aside0.mk hr1
  have HC1 := Aside0.mk hc1
  clear hr1 hc1
  have HB := Aside0.mk (Below.refl w.heap.size w)
  have H : ((laws_big.f l0 l1).bind fun t439 => (if t439 = true then (some true) else ((spec_DrawMoveBits.f k l0).bind fun bt440 => ((impl_MoveBits.f k bt440.1 bt440.2.1 bt440.2.2).bind fun bt447 => ((spec_MoveBits.f k bt440.1 bt440.2.1 bt440.2.2).bind fun bt451 => (if (bt447.2 != bt451.2) = true then (laws_FnCodesMoved.j0 k l1 bt440.1 bt440.2.1 bt440.2.2 bt447.1 bt447.2 true) else ((laws_uSame.f k bt447.1 bt451.1).bind fun t455 => (laws_FnCodesMoved.j0 k l1 bt440.1 bt440.2.1 bt440.2.2 bt447.1 bt447.2 (!t455))))))))) = some r := h
  clear h
  replace H := Option.bind_eq_some_iff.mp H
  obtain ⟨t439, A30, H⟩ := H
  replace H : (if t439 = true then (some true) else ((spec_DrawMoveBits.f k l0).bind fun bt440 => ((impl_MoveBits.f k bt440.1 bt440.2.1 bt440.2.2).bind fun bt447 => ((spec_MoveBits.f k bt440.1 bt440.2.1 bt440.2.2).bind fun bt451 => (if (bt447.2 != bt451.2) = true then (laws_FnCodesMoved.j0 k l1 bt440.1 bt440.2.1 bt440.2.2 bt447.1 bt447.2 true) else ((laws_uSame.f k bt447.1 bt451.1).bind fun t455 => (laws_FnCodesMoved.j0 k l1 bt440.1 bt440.2.1 bt440.2.2 bt447.1 bt447.2 (!t455)))))))) = some r := H
  have A3 := Aside0.mk A30
  clear A30
  by_cases c4 : t439 = true
  · subst c4
    have H1 : (some true) = some r := by rw [if_pos rfl] at H; exact H
    clear H
    have H := H1
    clear H1
    obtain rfl := Option.some.inj H
    go_enter Tryd.func14, Tryd.ntmps14
    go_wp2_with (first | ((with_reducible refine gate_callee (f := 39) rfl ?_); refine goesL_ (some 48) rfl rfl Tryd.func39 (by kernel_rfl) rfl #[.slice A0 l0.length c0, .slice A1 l1.length c1] rfl (by (try simp only [List.map_toArray, List.map_cons, List.map_nil]); first | done | rfl | (simp only [List.length_drop, List.length_take]; rfl)) ?_; (with_reducible refine (laws_big.calls _ _ l0 _ _ l1 true _ ?side1 ?side2 ?side3 ?side4 A3.out).mono ?_); (case side1 => repeat (first | exact HR0.out | (with_reducible refine Kd.C_alloc ?_ _) | (with_reducible refine Kd.C_drewN ?_ _) | (with_reducible refine Kd.C_drew ?_))); (case side2 => exact HC0.out); (case side3 => repeat (first | exact HR1.out | (with_reducible refine Kd.C_alloc ?_ _) | (with_reducible refine Kd.C_drewN ?_ _) | (with_reducible refine Kd.C_drew ?_))); (case side4 => exact HC1.out); rintro e w' ⟨rfl, ⟨nd, rfl⟩⟩; refine ⟨_, rfl, ?_⟩))
    go_ret
    exact ⟨by first | rfl | (simp [errW_none, errW_some] <;> rfl) | (simp [*, errW_none, errW_some] <;> rfl), by repeat (first | (with_reducible first | exact HB.out | apply below_alloc | apply pw_below_drewN | apply below_drew1) | exact HB.out | exact Below.refl _ _)⟩
  · replace c4 := Bool.eq_false_iff.mpr c4
    subst c4
    have H1 : ((spec_DrawMoveBits.f k l0).bind fun bt440 => ((impl_MoveBits.f k bt440.1 bt440.2.1 bt440.2.2).bind fun bt447 => ((spec_MoveBits.f k bt440.1 bt440.2.1 bt440.2.2).bind fun bt451 => (if (bt447.2 != bt451.2) = true then (laws_FnCodesMoved.j0 k l1 bt440.1 bt440.2.1 bt440.2.2 bt447.1 bt447.2 true) else ((laws_uSame.f k bt447.1 bt451.1).bind fun t455 => (laws_FnCodesMoved.j0 k l1 bt440.1 bt440.2.1 bt440.2.2 bt447.1 bt447.2 (!t455))))))) = some r := by rw [if_neg (show ¬ (false = true) by decide)] at H; exact H
    clear H
    have H := H1
    clear H1
    replace H := Option.bind_eq_some_iff.mp H
    obtain ⟨⟨t440, t441, t442⟩, A50, H⟩ := H
    replace H : ((impl_MoveBits.f k t440 t441 t442).bind fun bt447 => ((spec_MoveBits.f k t440 t441 t442).bind fun bt451 => (if (bt447.2 != bt451.2) = true then (laws_FnCodesMoved.j0 k l1 t440 t441 t442 bt447.1 bt447.2 true) else ((laws_uSame.f k bt447.1 bt451.1).bind fun t455 => (laws_FnCodesMoved.j0 k l1 t440 t441 t442 bt447.1 bt447.2 (!t455)))))) = some r := H
    have A5 := Aside0.mk A50
    clear A50
    replace H := Option.bind_eq_some_iff.mp H
    obtain ⟨⟨t447, t448⟩, A60, H⟩ := H
    replace H : ((spec_MoveBits.f k t440 t441 t442).bind fun bt451 => (if (t448 != bt451.2) = true then (laws_FnCodesMoved.j0 k l1 t440 t441 t442 t447 t448 true) else ((laws_uSame.f k t447 bt451.1).bind fun t455 => (laws_FnCodesMoved.j0 k l1 t440 t441 t442 t447 t448 (!t455))))) = some r := H
    have A6 := Aside0.mk A60
    clear A60
    replace H := Option.bind_eq_some_iff.mp H
    obtain ⟨⟨t451, t452⟩, A70, H⟩ := H
    replace H : (if (t448 != t452) = true then (laws_FnCodesMoved.j0 k l1 t440 t441 t442 t447 t448 true) else ((laws_uSame.f k t447 t451).bind fun t455 => (laws_FnCodesMoved.j0 k l1 t440 t441 t442 t447 t448 (!t455)))) = some r := H
    have A7 := Aside0.mk A70
    clear A70
    have HC8 := Aside0.mk H
    clear H
    go_enter Tryd.func14, Tryd.ntmps14
    go_upto_region 6 with (first | ((with_reducible refine gate_callee (f := 39) rfl ?_); refine goesL_ (some 48) rfl rfl Tryd.func39 (by kernel_rfl) rfl #[.slice A0 l0.length c0, .slice A1 l1.length c1] rfl (by (try simp only [List.map_toArray, List.map_cons, List.map_nil]); first | done | rfl | (simp only [List.length_drop, List.length_take]; rfl)) ?_; (with_reducible refine (laws_big.calls _ _ l0 _ _ l1 false _ ?side1 ?side2 ?side3 ?side4 A3.out).mono ?_); (case side1 => repeat (first | exact HR0.out | (with_reducible refine Kd.C_alloc ?_ _) | (with_reducible refine Kd.C_drewN ?_ _) | (with_reducible refine Kd.C_drew ?_))); (case side2 => exact HC0.out); (case side3 => repeat (first | exact HR1.out | (with_reducible refine Kd.C_alloc ?_ _) | (with_reducible refine Kd.C_drewN ?_ _) | (with_reducible refine Kd.C_drew ?_))); (case side4 => exact HC1.out); rintro e w' ⟨rfl, ⟨nd, rfl⟩⟩; refine ⟨_, rfl, ?_⟩) | ((with_reducible refine gate_callee (f := 48) rfl ?_); refine goesL_ (some 51) rfl rfl Tryd.func48 (by kernel_rfl) rfl #[.slice A0 l0.length c0] rfl (by (try simp only [List.map_toArray, List.map_cons, List.map_nil]); first | done | rfl | (simp only [List.length_drop, List.length_take]; rfl)) ?_; (with_reducible refine (spec_DrawMoveBits.calls k _ _ l0 t440 t441 t442 _ ?side1 ?side2 A5.out).mono ?_); (case side1 => repeat (first | exact HR0.out | (with_reducible refine Kd.C_alloc ?_ _) | (with_reducible refine Kd.C_drewN ?_ _) | (with_reducible refine Kd.C_drew ?_))); (case side2 => exact HC0.out); rintro e w9 ⟨v443, v445, rfl, ho0, ho1, hb⟩; refine ⟨_, rfl, ?_⟩; have n0_ := Aside0.mk (Kd.R_lower ho0 (below_size (by repeat (first | (with_reducible first | exact HB.out | apply below_alloc | apply pw_below_drewN | apply below_drew1) | exact HB.out | exact Below.refl _ _)))); have n1_ := Aside0.mk (Kd.R_lower ho1 (below_size (by repeat (first | (with_reducible first | exact HB.out | apply below_alloc | apply pw_below_drewN | apply below_drew1) | exact HB.out | exact Below.refl _ _)))); have n2_ := Aside0.mk (below_step (by repeat (first | (with_reducible first | exact HB.out | apply below_alloc | apply pw_below_drewN | apply below_drew1) | exact HB.out | exact Below.refl _ _)) hb); clear HB; have HO444 := n0_; have HO446 := n1_; have HB := n2_; clear n0_ n1_ n2_; (try clear hb); (try clear hb2); (try clear hk); (try clear hi); (try clear ho0); (try clear ho1); obtain ⟨Ao10, co10, eo10⟩ := Kd.R_slice HO444.out; subst eo10; obtain ⟨Ao11, co11, eo11⟩ := Kd.R_slice HO446.out; subst eo11) | ((with_reducible refine gate_callee (f := 49) rfl ?_); refine goesL_ (some 59) rfl rfl Tryd.func49 (by kernel_rfl) rfl #[.int .i64 t440, .slice Ao10 t441.length co10, .slice Ao11 t442.length co11] rfl (by (try simp only [List.map_toArray, List.map_cons, List.map_nil]); first | done | rfl | (simp only [List.length_drop, List.length_take]; rfl)) ?_; (with_reducible refine (impl_MoveBits.calls k t440 _ _ t441 _ _ t442 t447 t448 _ ?side1 ?side2 ?side3 ?side4 A6.out).mono ?_); (case side1 => repeat (first | exact (Kd.R_reads' HO444.out).2.2 | (with_reducible refine Kd.C_alloc ?_ _) | (with_reducible refine Kd.C_drewN ?_ _) | (with_reducible refine Kd.C_drew ?_))); (case side2 => exact (Kd.R_reads' HO444.out).2.1); (case side3 => repeat (first | exact (Kd.R_reads' HO446.out).2.2 | (with_reducible refine Kd.C_alloc ?_ _) | (with_reducible refine Kd.C_drewN ?_ _) | (with_reducible refine Kd.C_drew ?_))); (case side4 => exact (Kd.R_reads' HO446.out).2.1); rintro e w12 ⟨v449, rfl, ho0, hb⟩; refine ⟨_, rfl, ?_⟩; have n0_ := Aside0.mk (Kd.R_elder' (by (with_reducible repeat (first | apply Kd.R_alloc | apply Kd.R_drewN | apply Kd.R_drew)); exact HO444.out) (Kd.R_base ho0) hb); have n1_ := Aside0.mk (Kd.R_elder' (by (with_reducible repeat (first | apply Kd.R_alloc | apply Kd.R_drewN | apply Kd.R_drew)); exact HO446.out) (Kd.R_base ho0) hb); have n2_ := Aside0.mk (Kd.R_lower (Kd.R_new' (Kd.R_new' ho0 (Kd.R_lt (by (with_reducible repeat (first | apply Kd.R_alloc | apply Kd.R_drewN | apply Kd.R_drew)); exact HO444.out))) (Kd.R_lt (by (with_reducible repeat (first | apply Kd.R_alloc | apply Kd.R_drewN | apply Kd.R_drew)); exact HO446.out))) (below_size (by repeat (first | (with_reducible first | exact HB.out | apply below_alloc | apply pw_below_drewN | apply below_drew1) | exact HB.out | exact Below.refl _ _)))); have n3_ := Aside0.mk (below_step (by repeat (first | (with_reducible first | exact HB.out | apply below_alloc | apply pw_below_drewN | apply below_drew1) | exact HB.out | exact Below.refl _ _)) hb); clear HO444; clear HO446; clear HB; have HO444 := n0_; have HO446 := n1_; have HO450 := n2_; have HB := n3_; clear n0_ n1_ n2_ n3_; (try clear hb); (try clear hb2); (try clear hk); (try clear hi); (try clear ho0)) | ((with_reducible refine gate_callee (f := 50) rfl ?_); refine goesL_ (some 66) rfl rfl Tryd.func50 (by kernel_rfl) rfl #[.int .i64 t440, .slice Ao10 t441.length co10, .slice Ao11 t442.length co11] rfl (by (try simp only [List.map_toArray, List.map_cons, List.map_nil]); first | done | rfl | (simp only [List.length_drop, List.length_take]; rfl)) ?_; (with_reducible refine (spec_MoveBits.calls k t440 _ _ t441 _ _ t442 t451 t452 _ ?side1 ?side2 ?side3 ?side4 A7.out).mono ?_); (case side1 => repeat (first | exact (Kd.R_reads' HO444.out).2.2 | (with_reducible refine Kd.C_alloc ?_ _) | (with_reducible refine Kd.C_drewN ?_ _) | (with_reducible refine Kd.C_drew ?_))); (case side2 => exact (Kd.R_reads' HO444.out).2.1); (case side3 => repeat (first | exact (Kd.R_reads' HO446.out).2.2 | (with_reducible refine Kd.C_alloc ?_ _) | (with_reducible refine Kd.C_drewN ?_ _) | (with_reducible refine Kd.C_drew ?_))); (case side4 => exact (Kd.R_reads' HO446.out).2.1); rintro e w13 ⟨v453, rfl, ho0, hb⟩; refine ⟨_, rfl, ?_⟩; have n0_ := Aside0.mk (Kd.R_elder' (by (with_reducible repeat (first | apply Kd.R_alloc | apply Kd.R_drewN | apply Kd.R_drew)); exact HO444.out) (Kd.R_base ho0) hb); have n1_ := Aside0.mk (Kd.R_elder' (by (with_reducible repeat (first | apply Kd.R_alloc | apply Kd.R_drewN | apply Kd.R_drew)); exact HO446.out) (Kd.R_base ho0) hb); have n2_ := Aside0.mk (Kd.R_elder' (by (with_reducible repeat (first | apply Kd.R_alloc | apply Kd.R_drewN | apply Kd.R_drew)); exact HO450.out) (Kd.R_base ho0) hb); have n3_ := Aside0.mk (Kd.R_lower (Kd.R_new' (Kd.R_new' (Kd.R_new' ho0 (Kd.R_lt (by (with_reducible repeat (first | apply Kd.R_alloc | apply Kd.R_drewN | apply Kd.R_drew)); exact HO444.out))) (Kd.R_lt (by (with_reducible repeat (first | apply Kd.R_alloc | apply Kd.R_drewN | apply Kd.R_drew)); exact HO446.out))) (Kd.R_lt (by (with_reducible repeat (first | apply Kd.R_alloc | apply Kd.R_drewN | apply Kd.R_drew)); exact HO450.out))) (below_size (by repeat (first | (with_reducible first | exact HB.out | apply below_alloc | apply pw_below_drewN | apply below_drew1) | exact HB.out | exact Below.refl _ _)))); have n4_ := Aside0.mk (below_step (by repeat (first | (with_reducible first | exact HB.out | apply below_alloc | apply pw_below_drewN | apply below_drew1) | exact HB.out | exact Below.refl _ _)) hb); clear HO444; clear HO446; clear HO450; clear HB; have HO444 := n0_; have HO446 := n1_; have HO450 := n2_; have HO454 := n3_; have HB := n4_; clear n0_ n1_ n2_ n3_ n4_; (try clear hb); (try clear hb2); (try clear hk); (try clear hi); (try clear ho0)))
    (try simp only [Act.put, List.setIfInBounds_toArray, List.set_cons_zero, List.set_cons_succ])
    go_cut [77] (fun v77 wc => ∃ (kq : Nat) (x77_7 : Bool), v77 = .bool x77_7 ∧ Aside0 (laws_FnCodesMoved.j0 kq l1 t440 t441 t442 t447 t448 x77_7 = some r) ∧ Aside0 (kq ≤ k) ∧ Aside0 (Kd.R (Kd.int .i64) 3 wc w.heap.size (fun k_ => some k_ ≠ ((.slice Ao11 t442.length co11) : Value).ownBlock ∧ some k_ ≠ (v449 : Value).ownBlock) (.slice Ao10 t441.length co10) t441) ∧ Aside0 (Kd.R (Kd.int .i64) 3 wc w.heap.size (fun k_ => some k_ ≠ ((.slice Ao10 t441.length co10) : Value).ownBlock ∧ some k_ ≠ (v449 : Value).ownBlock) (.slice Ao11 t442.length co11) t442) ∧ Aside0 (Kd.R (Kd.int .i64) 3 wc w.heap.size (fun k_ => some k_ ≠ ((.slice Ao10 t441.length co10) : Value).ownBlock ∧ some k_ ≠ ((.slice Ao11 t442.length co11) : Value).ownBlock) v449 t447) ∧ Aside0 (Below w.heap.size w wc))
    case first =>
      have H := HC8.out
      clear HC8
      by_cases c14 : (t448 != t452) = true
      · rw [if_pos c14] at H
        have c14b0 : (t448 != t452) = true := c14
        (try (have c14b1 : decide (t448 = t452) = false := by simpa using c14))
        (try (have c14b2 : (t448 == t452) = false := by simpa using c14))
        (try (have c14b3 : ¬ (t448 = t452) := by simpa using c14))
        clear c14
        (first | rw [c14b0] | (simp only [i64_w, i32_w]; rw [c14b0]) | skip)
        have H' := Aside0.mk H
        clear H
        go_wp2
        go_meet
        case rel => exact ⟨_, (true), (by first | rfl | (simp; done) | (simp [*]; done)), H', ⟨by first | omega | exact Nat.le_refl _⟩, ⟨by (with_reducible repeat (first | apply Kd.R_alloc | apply Kd.R_drewN | apply Kd.R_drew)); exact Kd.R_mono HO444.out (fun _ hk => ⟨hk.1.1, hk.1.2⟩)⟩, ⟨by (with_reducible repeat (first | apply Kd.R_alloc | apply Kd.R_drewN | apply Kd.R_drew)); exact Kd.R_mono HO446.out (fun _ hk => ⟨hk.1.1, hk.1.2⟩)⟩, ⟨by (with_reducible repeat (first | apply Kd.R_alloc | apply Kd.R_drewN | apply Kd.R_drew)); exact Kd.R_mono HO450.out (fun _ hk => ⟨hk.1.1.2, hk.1.2⟩)⟩, ⟨by repeat (first | (with_reducible first | exact HB.out | apply below_alloc | apply pw_below_drewN | apply below_drew1) | exact HB.out | exact Below.refl _ _)⟩⟩
      · rw [if_neg c14] at H
        have c14b0 : (t448 != t452) = false := by simpa using c14
        (try (have c14b1 : decide (t448 = t452) = true := by simpa using c14))
        (try (have c14b2 : (t448 == t452) = true := by simpa using c14))
        clear c14
        (first | rw [c14b0] | (simp only [i64_w, i32_w]; rw [c14b0]) | skip)
        replace H := Option.bind_eq_some_iff.mp H
        obtain ⟨t455, A150, H⟩ := H
        replace H : (laws_FnCodesMoved.j0 k l1 t440 t441 t442 t447 t448 (!t455)) = some r := H
        have A15 := Aside0.mk A150
        clear A150
        have H' := Aside0.mk H
        clear H
        obtain ⟨Ao16, co16, eo16⟩ := Kd.R_slice HO450.out
        subst eo16
        obtain ⟨Ao17, co17, eo17⟩ := Kd.R_slice HO454.out
        subst eo17
        go_wp2_with (first | (go_at_call 41; (with_reducible refine (laws_uSame.calls k _ _ t447 _ _ t451 t455 _ ?side1 ?side2 ?side3 ?side4 A15.out).mono ?_); (case side1 => repeat (first | exact (Kd.R_reads' HO450.out).2.2 | (with_reducible refine Kd.C_alloc ?_ _) | (with_reducible refine Kd.C_drewN ?_ _) | (with_reducible refine Kd.C_drew ?_))); (case side2 => exact (Kd.R_reads' HO450.out).2.1); (case side3 => repeat (first | exact (Kd.R_reads' HO454.out).2.2 | (with_reducible refine Kd.C_alloc ?_ _) | (with_reducible refine Kd.C_drewN ?_ _) | (with_reducible refine Kd.C_drew ?_))); (case side4 => exact (Kd.R_reads' HO454.out).2.1); rintro e w' ⟨rfl, ⟨nd, rfl⟩⟩))
        go_meet
        case rel => exact ⟨_, (!t455), (by first | rfl | (simp; done) | (simp [*]; done)), H', ⟨by first | omega | exact Nat.le_refl _⟩, ⟨by (with_reducible repeat (first | apply Kd.R_alloc | apply Kd.R_drewN | apply Kd.R_drew)); exact Kd.R_mono HO444.out (fun _ hk => ⟨hk.1.1, hk.1.2⟩)⟩, ⟨by (with_reducible repeat (first | apply Kd.R_alloc | apply Kd.R_drewN | apply Kd.R_drew)); exact Kd.R_mono HO446.out (fun _ hk => ⟨hk.1.1, hk.1.2⟩)⟩, ⟨by (with_reducible repeat (first | apply Kd.R_alloc | apply Kd.R_drewN | apply Kd.R_drew)); exact Kd.R_mono HO450.out (fun _ hk => ⟨hk.1.1.2, hk.1.2⟩)⟩, ⟨by repeat (first | (with_reducible first | exact HB.out | apply below_alloc | apply pw_below_drewN | apply below_drew1) | exact HB.out | exact Below.refl _ _)⟩⟩
    case rest => as_aux_lemma =>
      clear HC8
      try clear c1
      try clear p2
      try clear c3
      try clear c4
      try clear c5
      try clear c14
      try clear c14b0
      try clear c14b1
      try clear c14b2
      obtain ⟨kq, x77_7, rfl, HA, HJ7, HO_6, HO_7, HO_8, HB⟩ := hcut
      cases kq with
      | zero => exact absurd HA.out (by simp [laws_FnCodesMoved.j0])
      | succ kj7 =>
        have H := HA.out
        clear HA
        simp only [laws_FnCodesMoved.j0] at H
        by_cases c18 : x77_7 = true
        · subst c18
          have H1 : (some false) = some r := by rw [if_pos rfl] at H; exact H
          clear H
          have H := H1
          clear H1
          obtain rfl := Option.some.inj H
          go_wp2
          go_ret
          exact ⟨by first | rfl | (simp [errW_none, errW_some] <;> rfl) | (simp [*, errW_none, errW_some] <;> rfl), by repeat (first | (with_reducible first | exact HB.out | apply below_alloc | apply pw_below_drewN | apply below_drew1) | exact HB.out | exact Below.refl _ _)⟩
        · replace c18 := Bool.eq_false_iff.mpr c18
          subst c18
          have H1 : ((impl_IsCode.f kj7 t440 t441).bind fun bt456 => ((impl_IsRoundCode.f kj7 t440 t441).bind fun bt458 => (if t448 = true then (laws_FnCodesMoved.j1 kj7 l1 t440 t441 t442 t447 bt456.1 bt458.1 bt458.2 bt456.2) else (laws_FnCodesMoved.j1 kj7 l1 t440 t441 t442 t447 bt456.1 bt458.1 bt458.2 false)))) = some r := by rw [if_neg (show ¬ (false = true) by decide)] at H; exact H
          clear H
          have H := H1
          clear H1
          replace H := Option.bind_eq_some_iff.mp H
          obtain ⟨⟨t456, t457⟩, A190, H⟩ := H
          replace H : ((impl_IsRoundCode.f kj7 t440 t441).bind fun bt458 => (if t448 = true then (laws_FnCodesMoved.j1 kj7 l1 t440 t441 t442 t447 t456 bt458.1 bt458.2 t457) else (laws_FnCodesMoved.j1 kj7 l1 t440 t441 t442 t447 t456 bt458.1 bt458.2 false))) = some r := H
          have A19 := Aside0.mk A190
          clear A190
          replace H := Option.bind_eq_some_iff.mp H
          obtain ⟨⟨t458, t459⟩, A200, H⟩ := H
          replace H : (if t448 = true then (laws_FnCodesMoved.j1 kj7 l1 t440 t441 t442 t447 t456 t458 t459 t457) else (laws_FnCodesMoved.j1 kj7 l1 t440 t441 t442 t447 t456 t458 t459 false)) = some r := H
          have A20 := Aside0.mk A200
          clear A200
          have HC21 := Aside0.mk H
          clear H
          go_upto_region 10 with (first | ((with_reducible refine gate_callee (f := 30) rfl ?_); refine goesL_ (some 81) rfl rfl Tryd.func30 (by kernel_rfl) rfl #[.int .i64 t440, .slice Ao10 t441.length co10] rfl (by (try simp only [List.map_toArray, List.map_cons, List.map_nil]); first | done | rfl | (simp only [List.length_drop, List.length_take]; rfl)) ?_; (with_reducible refine (impl_IsCode.calls kj7 t440 _ _ t441 t456 t457 _ ?side1 ?side2 A19.out ?tab_).mono ?_); (case tab_ => first | exact HTab_.out | ((repeat (first | exact HTab_.out | (with_reducible refine Tab_.drewN ?_ _) | (with_reducible refine Tab_.drew ?_) | (with_reducible refine Tab_.alloc ?_ _))); done) | (refine Tab_.below HTab_.out ?_; (repeat (first | (with_reducible first | exact HB.out | apply below_alloc | apply pw_below_drewN | apply below_drew1) | exact HB.out | exact Below.refl _ _)); done)); (case side1 => repeat (first | exact (Kd.R_reads' HO_6.out).2.2 | (with_reducible refine Kd.C_alloc ?_ _) | (with_reducible refine Kd.C_drewN ?_ _) | (with_reducible refine Kd.C_drew ?_))); (case side2 => exact (Kd.R_reads' HO_6.out).2.1); rintro e w22 ⟨rfl, hb⟩; refine ⟨_, rfl, ?_⟩; have n0_ := Aside0.mk (Kd.R_below (by (with_reducible repeat (first | apply Kd.R_alloc | apply Kd.R_drewN | apply Kd.R_drew)); exact HO_6.out) hb); have n1_ := Aside0.mk (Kd.R_below (by (with_reducible repeat (first | apply Kd.R_alloc | apply Kd.R_drewN | apply Kd.R_drew)); exact HO_7.out) hb); have n2_ := Aside0.mk (Kd.R_below (by (with_reducible repeat (first | apply Kd.R_alloc | apply Kd.R_drewN | apply Kd.R_drew)); exact HO_8.out) hb); have n3_ := Aside0.mk (below_step (by repeat (first | (with_reducible first | exact HB.out | apply below_alloc | apply pw_below_drewN | apply below_drew1) | exact HB.out | exact Below.refl _ _)) hb); clear HO_6; clear HO_7; clear HO_8; clear HB; have HO_6 := n0_; have HO_7 := n1_; have HO_8 := n2_; have HB := n3_; clear n0_ n1_ n2_ n3_; (try clear hb); (try clear hb2); (try clear hk); (try clear hi)) | ((with_reducible refine gate_callee (f := 32) rfl ?_); refine goesL_ (some 87) rfl rfl Tryd.func32 (by kernel_rfl) rfl #[.int .i64 t440, .slice Ao10 t441.length co10] rfl (by (try simp only [List.map_toArray, List.map_cons, List.map_nil]); first | done | rfl | (simp only [List.length_drop, List.length_take]; rfl)) ?_; (with_reducible refine (impl_IsRoundCode.calls kj7 t440 _ _ t441 t458 t459 _ ?side1 ?side2 A20.out ?tab_).mono ?_); (case tab_ => first | exact HTab_.out | ((repeat (first | exact HTab_.out | (with_reducible refine Tab_.drewN ?_ _) | (with_reducible refine Tab_.drew ?_) | (with_reducible refine Tab_.alloc ?_ _))); done) | (refine Tab_.below HTab_.out ?_; (repeat (first | (with_reducible first | exact HB.out | apply below_alloc | apply pw_below_drewN | apply below_drew1) | exact HB.out | exact Below.refl _ _)); done)); (case side1 => repeat (first | exact (Kd.R_reads' HO_6.out).2.2 | (with_reducible refine Kd.C_alloc ?_ _) | (with_reducible refine Kd.C_drewN ?_ _) | (with_reducible refine Kd.C_drew ?_))); (case side2 => exact (Kd.R_reads' HO_6.out).2.1); rintro e w23 ⟨rfl, hb⟩; refine ⟨_, rfl, ?_⟩; have n0_ := Aside0.mk (Kd.R_below (by (with_reducible repeat (first | apply Kd.R_alloc | apply Kd.R_drewN | apply Kd.R_drew)); exact HO_6.out) hb); have n1_ := Aside0.mk (Kd.R_below (by (with_reducible repeat (first | apply Kd.R_alloc | apply Kd.R_drewN | apply Kd.R_drew)); exact HO_7.out) hb); have n2_ := Aside0.mk (Kd.R_below (by (with_reducible repeat (first | apply Kd.R_alloc | apply Kd.R_drewN | apply Kd.R_drew)); exact HO_8.out) hb); have n3_ := Aside0.mk (below_step (by repeat (first | (with_reducible first | exact HB.out | apply below_alloc | apply pw_below_drewN | apply below_drew1) | exact HB.out | exact Below.refl _ _)) hb); clear HO_6; clear HO_7; clear HO_8; clear HB; have HO_6 := n0_; have HO_7 := n1_; have HO_8 := n2_; have HB := n3_; clear n0_ n1_ n2_ n3_; (try clear hb); (try clear hb2); (try clear hk); (try clear hi)))
          (try simp only [Act.put, List.setIfInBounds_toArray, List.set_cons_zero, List.set_cons_succ])
          go_cut [93] (fun v93 wc => ∃ (kq : Nat) (x93_20 : Bool), v93 = .bool x93_20 ∧ Aside0 (laws_FnCodesMoved.j1 kq l1 t440 t441 t442 t447 t456 t458 t459 x93_20 = some r) ∧ Aside0 (kq ≤ kj7) ∧ Aside0 (Kd.R (Kd.int .i64) 3 wc w.heap.size (fun k_ => some k_ ≠ ((.slice Ao11 t442.length co11) : Value).ownBlock ∧ some k_ ≠ (v449 : Value).ownBlock) (.slice Ao10 t441.length co10) t441) ∧ Aside0 (Kd.R (Kd.int .i64) 3 wc w.heap.size (fun k_ => some k_ ≠ ((.slice Ao10 t441.length co10) : Value).ownBlock ∧ some k_ ≠ (v449 : Value).ownBlock) (.slice Ao11 t442.length co11) t442) ∧ Aside0 (Kd.R (Kd.int .i64) 3 wc w.heap.size (fun k_ => some k_ ≠ ((.slice Ao10 t441.length co10) : Value).ownBlock ∧ some k_ ≠ ((.slice Ao11 t442.length co11) : Value).ownBlock) v449 t447) ∧ Aside0 (Below w.heap.size w wc))
          case first =>
            have H := HC21.out
            clear HC21
            by_cases c24 : t448 = true
            · subst c24
              have H1 : (laws_FnCodesMoved.j1 kj7 l1 t440 t441 t442 t447 t456 t458 t459 t457) = some r := by rw [if_pos rfl] at H; exact H
              clear H
              have H := H1
              clear H1
              have H' := Aside0.mk H
              clear H
              go_wp2
              go_meet
              case rel => exact ⟨_, (t457), (by first | rfl | (simp; done) | (simp [*]; done)), H', ⟨by have := HJ7.out; first | omega | exact Nat.le_refl _⟩, ⟨by (with_reducible repeat (first | apply Kd.R_alloc | apply Kd.R_drewN | apply Kd.R_drew)); exact HO_6.out⟩, ⟨by (with_reducible repeat (first | apply Kd.R_alloc | apply Kd.R_drewN | apply Kd.R_drew)); exact HO_7.out⟩, ⟨by (with_reducible repeat (first | apply Kd.R_alloc | apply Kd.R_drewN | apply Kd.R_drew)); exact HO_8.out⟩, ⟨by repeat (first | (with_reducible first | exact HB.out | apply below_alloc | apply pw_below_drewN | apply below_drew1) | exact HB.out | exact Below.refl _ _)⟩⟩
            · replace c24 := Bool.eq_false_iff.mpr c24
              subst c24
              have H1 : (laws_FnCodesMoved.j1 kj7 l1 t440 t441 t442 t447 t456 t458 t459 false) = some r := by rw [if_neg (show ¬ (false = true) by decide)] at H; exact H
              clear H
              have H := H1
              clear H1
              have H' := Aside0.mk H
              clear H
              go_wp2
              go_meet
              case rel => exact ⟨_, (false), (by first | rfl | (simp; done) | (simp [*]; done)), H', ⟨by have := HJ7.out; first | omega | exact Nat.le_refl _⟩, ⟨by (with_reducible repeat (first | apply Kd.R_alloc | apply Kd.R_drewN | apply Kd.R_drew)); exact HO_6.out⟩, ⟨by (with_reducible repeat (first | apply Kd.R_alloc | apply Kd.R_drewN | apply Kd.R_drew)); exact HO_7.out⟩, ⟨by (with_reducible repeat (first | apply Kd.R_alloc | apply Kd.R_drewN | apply Kd.R_drew)); exact HO_8.out⟩, ⟨by repeat (first | (with_reducible first | exact HB.out | apply below_alloc | apply pw_below_drewN | apply below_drew1) | exact HB.out | exact Below.refl _ _)⟩⟩
          case rest => as_aux_lemma =>
            clear HC21
            try clear c1
            try clear c2
            try clear p2
            try clear c3
            try clear c4
            try clear c5
            try clear c14
            try clear c14b0
            try clear c14b1
            try clear c14b2
            try clear c18
            try clear c24
            try clear p2
            obtain ⟨kq, x93_20, rfl, HA, HJ20, HO_6, HO_7, HO_8, HB⟩ := hcut
            cases kq with
            | zero => exact absurd HA.out (by simp [laws_FnCodesMoved.j1])
            | succ kj20 =>
              have H := HA.out
              clear HA
              simp only [laws_FnCodesMoved.j1] at H
              have HC25 := Aside0.mk H
              clear H
              go_upto_if 93 with (fail)
              go_cut [] (fun wc => ∃ (kq : Nat), Aside0 (laws_FnCodesMoved.j4 kq l1 t440 t441 t458 t459 = some r) ∧ Aside0 (kq ≤ kj20) ∧ Aside0 (Kd.R (Kd.int .i64) 3 wc w.heap.size (fun _ => True) (.slice Ao10 t441.length co10) t441) ∧ Aside0 (Below w.heap.size w wc))
              case first =>
                have H := HC25.out
                clear HC25
                by_cases c26 : x93_20 = true
                · subst c26
                  have H1 : ((impl_IsCode.f kj20 t440 t447).bind fun bt460 => (if bt460.2 = true then (laws_FnCodesMoved.j2 kj20 l1 t440 t441 t442 t447 t458 t459 (bt460.1 != t456)) else (laws_FnCodesMoved.j2 kj20 l1 t440 t441 t442 t447 t458 t459 true))) = some r := by rw [if_pos rfl] at H; exact H
                  clear H
                  have H := H1
                  clear H1
                  replace H := Option.bind_eq_some_iff.mp H
                  obtain ⟨⟨t460, t461⟩, A270, H⟩ := H
                  replace H : (if t461 = true then (laws_FnCodesMoved.j2 kj20 l1 t440 t441 t442 t447 t458 t459 (t460 != t456)) else (laws_FnCodesMoved.j2 kj20 l1 t440 t441 t442 t447 t458 t459 true)) = some r := H
                  have A27 := Aside0.mk A270
                  clear A270
                  have HC28 := Aside0.mk H
                  clear H
                  obtain ⟨Ao29, co29, eo29⟩ := Kd.R_slice HO_8.out
                  subst eo29
                  go_upto_region 12 with (first | ((with_reducible refine gate_callee (f := 30) rfl ?_); refine goesL_ (some 97) rfl rfl Tryd.func30 (by kernel_rfl) rfl #[.int .i64 t440, .slice Ao29 t447.length co29] rfl (by (try simp only [List.map_toArray, List.map_cons, List.map_nil]); first | done | rfl | (simp only [List.length_drop, List.length_take]; rfl)) ?_; (with_reducible refine (impl_IsCode.calls kj20 t440 _ _ t447 t460 t461 _ ?side1 ?side2 A27.out ?tab_).mono ?_); (case tab_ => first | exact HTab_.out | ((repeat (first | exact HTab_.out | (with_reducible refine Tab_.drewN ?_ _) | (with_reducible refine Tab_.drew ?_) | (with_reducible refine Tab_.alloc ?_ _))); done) | (refine Tab_.below HTab_.out ?_; (repeat (first | (with_reducible first | exact HB.out | apply below_alloc | apply pw_below_drewN | apply below_drew1) | exact HB.out | exact Below.refl _ _)); done)); (case side1 => repeat (first | exact (Kd.R_reads' HO_8.out).2.2 | (with_reducible refine Kd.C_alloc ?_ _) | (with_reducible refine Kd.C_drewN ?_ _) | (with_reducible refine Kd.C_drew ?_))); (case side2 => exact (Kd.R_reads' HO_8.out).2.1); rintro e w30 ⟨rfl, hb⟩; refine ⟨_, rfl, ?_⟩; have n0_ := Aside0.mk (Kd.R_below (by (with_reducible repeat (first | apply Kd.R_alloc | apply Kd.R_drewN | apply Kd.R_drew)); exact HO_6.out) hb); have n1_ := Aside0.mk (Kd.R_below (by (with_reducible repeat (first | apply Kd.R_alloc | apply Kd.R_drewN | apply Kd.R_drew)); exact HO_7.out) hb); have n2_ := Aside0.mk (Kd.R_below (by (with_reducible repeat (first | apply Kd.R_alloc | apply Kd.R_drewN | apply Kd.R_drew)); exact HO_8.out) hb); have n3_ := Aside0.mk (below_step (by repeat (first | (with_reducible first | exact HB.out | apply below_alloc | apply pw_below_drewN | apply below_drew1) | exact HB.out | exact Below.refl _ _)) hb); clear HO_6; clear HO_7; clear HO_8; clear HB; have HO_6 := n0_; have HO_7 := n1_; have HO_8 := n2_; have HB := n3_; clear n0_ n1_ n2_ n3_; (try clear hb); (try clear hb2); (try clear hk); (try clear hi)))
                  (try simp only [Act.put, List.setIfInBounds_toArray, List.set_cons_zero, List.set_cons_succ])
                  go_cut [106] (fun v106 wc => ∃ (kq : Nat) (x106_27 : Bool), v106 = .bool x106_27 ∧ Aside0 (laws_FnCodesMoved.j2 kq l1 t440 t441 t442 t447 t458 t459 x106_27 = some r) ∧ Aside0 (kq ≤ kj20) ∧ Aside0 (Kd.R (Kd.int .i64) 3 wc w.heap.size (fun k_ => some k_ ≠ ((.slice Ao11 t442.length co11) : Value).ownBlock ∧ some k_ ≠ ((.slice Ao29 t447.length co29) : Value).ownBlock) (.slice Ao10 t441.length co10) t441) ∧ Aside0 (Kd.R (Kd.int .i64) 3 wc w.heap.size (fun k_ => some k_ ≠ ((.slice Ao10 t441.length co10) : Value).ownBlock ∧ some k_ ≠ ((.slice Ao29 t447.length co29) : Value).ownBlock) (.slice Ao11 t442.length co11) t442) ∧ Aside0 (Kd.R (Kd.int .i64) 3 wc w.heap.size (fun k_ => some k_ ≠ ((.slice Ao10 t441.length co10) : Value).ownBlock ∧ some k_ ≠ ((.slice Ao11 t442.length co11) : Value).ownBlock) (.slice Ao29 t447.length co29) t447) ∧ Aside0 (Below w.heap.size w wc))
                  case first =>
                    have H := HC28.out
                    clear HC28
                    by_cases c31 : t461 = true
                    · subst c31
                      have H1 : (laws_FnCodesMoved.j2 kj20 l1 t440 t441 t442 t447 t458 t459 (t460 != t456)) = some r := by rw [if_pos rfl] at H; exact H
                      clear H
                      have H := H1
                      clear H1
                      have H' := Aside0.mk H
                      clear H
                      go_wp2
                      go_meet
                      case rel => exact ⟨_, ((t460 != t456)), (by first | rfl | (simp; done) | (simp [*]; done)), H', ⟨by have := HJ7.out; have := HJ20.out; first | omega | exact Nat.le_refl _⟩, ⟨by (with_reducible repeat (first | apply Kd.R_alloc | apply Kd.R_drewN | apply Kd.R_drew)); exact HO_6.out⟩, ⟨by (with_reducible repeat (first | apply Kd.R_alloc | apply Kd.R_drewN | apply Kd.R_drew)); exact HO_7.out⟩, ⟨by (with_reducible repeat (first | apply Kd.R_alloc | apply Kd.R_drewN | apply Kd.R_drew)); exact HO_8.out⟩, ⟨by repeat (first | (with_reducible first | exact HB.out | apply below_alloc | apply pw_below_drewN | apply below_drew1) | exact HB.out | exact Below.refl _ _)⟩⟩
                    · replace c31 := Bool.eq_false_iff.mpr c31
                      subst c31
                      have H1 : (laws_FnCodesMoved.j2 kj20 l1 t440 t441 t442 t447 t458 t459 true) = some r := by rw [if_neg (show ¬ (false = true) by decide)] at H; exact H
                      clear H
                      have H := H1
                      clear H1
                      have H' := Aside0.mk H
                      clear H
                      go_wp2
                      go_meet
                      case rel => exact ⟨_, (true), (by first | rfl | (simp; done) | (simp [*]; done)), H', ⟨by have := HJ7.out; have := HJ20.out; first | omega | exact Nat.le_refl _⟩, ⟨by (with_reducible repeat (first | apply Kd.R_alloc | apply Kd.R_drewN | apply Kd.R_drew)); exact HO_6.out⟩, ⟨by (with_reducible repeat (first | apply Kd.R_alloc | apply Kd.R_drewN | apply Kd.R_drew)); exact HO_7.out⟩, ⟨by (with_reducible repeat (first | apply Kd.R_alloc | apply Kd.R_drewN | apply Kd.R_drew)); exact HO_8.out⟩, ⟨by repeat (first | (with_reducible first | exact HB.out | apply below_alloc | apply pw_below_drewN | apply below_drew1) | exact HB.out | exact Below.refl _ _)⟩⟩
                  case rest => as_aux_lemma =>
                    clear HC28
                    try clear c1
                    try clear c2
                    try clear p2
                    try clear c3
                    try clear c4
                    try clear c5
                    try clear c14
                    try clear c14b0
                    try clear c14b1
                    try clear c14b2
                    try clear c18
                    try clear c24
                    try clear c26
                    try clear c30
                    try clear c31
                    try clear p2
                    obtain ⟨kq, x106_27, rfl, HA, HJ27, HO_6, HO_7, HO_8, HB⟩ := hcut
                    cases kq with
                    | zero => exact absurd HA.out (by simp [laws_FnCodesMoved.j2])
                    | succ kj27 =>
                      have H := HA.out
                      clear HA
                      simp only [laws_FnCodesMoved.j2] at H
                      by_cases c32 : x106_27 = true
                      · subst c32
                        have H1 : (some false) = some r := by rw [if_pos rfl] at H; exact H
                        clear H
                        have H := H1
                        clear H1
                        obtain rfl := Option.some.inj H
                        go_wp2
                        go_ret
                        exact ⟨by first | rfl | (simp [errW_none, errW_some] <;> rfl) | (simp [*, errW_none, errW_some] <;> rfl), by repeat (first | (with_reducible first | exact HB.out | apply below_alloc | apply pw_below_drewN | apply below_drew1) | exact HB.out | exact Below.refl _ _)⟩
                      · replace c32 := Bool.eq_false_iff.mpr c32
                        subst c32
                        have H1 : ((impl_ChangesOf.f kj27 t440 t441).bind fun bt462 => ((impl_ChangesOf.f kj27 t440 t447).bind fun bt466 => (if (bt462.2 != bt466.2) = true then (some false) else (laws_FnCodesMoved.l0 kj27 l1 t440 t441 t442 t458 t459 bt466.1 bt462.1 (bt462.1.length : Int) 0)))) = some r := by rw [if_neg (show ¬ (false = true) by decide)] at H; exact H
                        clear H
                        have H := H1
                        clear H1
                        replace H := Option.bind_eq_some_iff.mp H
                        obtain ⟨⟨t462, t463⟩, A330, H⟩ := H
                        replace H : ((impl_ChangesOf.f kj27 t440 t447).bind fun bt466 => (if (t463 != bt466.2) = true then (some false) else (laws_FnCodesMoved.l0 kj27 l1 t440 t441 t442 t458 t459 bt466.1 t462 (t462.length : Int) 0))) = some r := H
                        have A33 := Aside0.mk A330
                        clear A330
                        replace H := Option.bind_eq_some_iff.mp H
                        obtain ⟨⟨t466, t467⟩, A340, H⟩ := H
                        replace H : (if (t463 != t467) = true then (some false) else (laws_FnCodesMoved.l0 kj27 l1 t440 t441 t442 t458 t459 t466 t462 (t462.length : Int) 0)) = some r := H
                        have A34 := Aside0.mk A340
                        clear A340
                        by_cases c35 : (t463 != t467) = true
                        · rw [if_pos c35] at H
                          have c35b0 : (t463 != t467) = true := c35
                          (try (have c35b1 : decide (t463 = t467) = false := by simpa using c35))
                          (try (have c35b2 : (t463 == t467) = false := by simpa using c35))
                          (try (have c35b3 : ¬ (t463 = t467) := by simpa using c35))
                          clear c35
                          obtain rfl := Option.some.inj H
                          go_wp2_with (first | ((with_reducible refine gate_callee (f := 28) rfl ?_); refine goesL_ (some 110) rfl rfl Tryd.func28 (by kernel_rfl) rfl #[.int .i64 t440, .slice Ao10 t441.length co10] rfl (by (try simp only [List.map_toArray, List.map_cons, List.map_nil]); first | done | rfl | (simp only [List.length_drop, List.length_take]; rfl)) ?_; (with_reducible refine (impl_ChangesOf.calls kj27 t440 _ _ t441 t462 t463 _ ?side1 ?side2 A33.out ?tab_).mono ?_); (case tab_ => first | exact HTab_.out | ((repeat (first | exact HTab_.out | (with_reducible refine Tab_.drewN ?_ _) | (with_reducible refine Tab_.drew ?_) | (with_reducible refine Tab_.alloc ?_ _))); done) | (refine Tab_.below HTab_.out ?_; (repeat (first | (with_reducible first | exact HB.out | apply below_alloc | apply pw_below_drewN | apply below_drew1) | exact HB.out | exact Below.refl _ _)); done)); (case side1 => repeat (first | exact (Kd.R_reads' HO_6.out).2.2 | (with_reducible refine Kd.C_alloc ?_ _) | (with_reducible refine Kd.C_drewN ?_ _) | (with_reducible refine Kd.C_drew ?_))); (case side2 => exact (Kd.R_reads' HO_6.out).2.1); rintro e w36 ⟨v464, rfl, ho0, hb⟩; refine ⟨_, rfl, ?_⟩; have n0_ := Aside0.mk (Kd.R_elder' (by (with_reducible repeat (first | apply Kd.R_alloc | apply Kd.R_drewN | apply Kd.R_drew)); exact HO_6.out) (Kd.R_base ho0) hb); have n1_ := Aside0.mk (Kd.R_elder' (by (with_reducible repeat (first | apply Kd.R_alloc | apply Kd.R_drewN | apply Kd.R_drew)); exact HO_7.out) (Kd.R_base ho0) hb); have n2_ := Aside0.mk (Kd.R_elder' (by (with_reducible repeat (first | apply Kd.R_alloc | apply Kd.R_drewN | apply Kd.R_drew)); exact HO_8.out) (Kd.R_base ho0) hb); have n3_ := Aside0.mk (Kd.R_lower (Kd.R_new' (Kd.R_new' (Kd.R_new' ho0 (Kd.R_lt (by (with_reducible repeat (first | apply Kd.R_alloc | apply Kd.R_drewN | apply Kd.R_drew)); exact HO_6.out))) (Kd.R_lt (by (with_reducible repeat (first | apply Kd.R_alloc | apply Kd.R_drewN | apply Kd.R_drew)); exact HO_7.out))) (Kd.R_lt (by (with_reducible repeat (first | apply Kd.R_alloc | apply Kd.R_drewN | apply Kd.R_drew)); exact HO_8.out))) (below_size (by repeat (first | (with_reducible first | exact HB.out | apply below_alloc | apply pw_below_drewN | apply below_drew1) | exact HB.out | exact Below.refl _ _)))); have n4_ := Aside0.mk (below_step (by repeat (first | (with_reducible first | exact HB.out | apply below_alloc | apply pw_below_drewN | apply below_drew1) | exact HB.out | exact Below.refl _ _)) hb); clear HO_6; clear HO_7; clear HO_8; clear HB; have HO_6 := n0_; have HO_7 := n1_; have HO_8 := n2_; have HO465 := n3_; have HB := n4_; clear n0_ n1_ n2_ n3_ n4_; (try clear hb); (try clear hb2); (try clear hk); (try clear hi); (try clear ho0)) | ((with_reducible refine gate_callee (f := 28) rfl ?_); refine goesL_ (some 116) rfl rfl Tryd.func28 (by kernel_rfl) rfl #[.int .i64 t440, .slice Ao29 t447.length co29] rfl (by (try simp only [List.map_toArray, List.map_cons, List.map_nil]); first | done | rfl | (simp only [List.length_drop, List.length_take]; rfl)) ?_; (with_reducible refine (impl_ChangesOf.calls kj27 t440 _ _ t447 t466 t467 _ ?side1 ?side2 A34.out ?tab_).mono ?_); (case tab_ => first | exact HTab_.out | ((repeat (first | exact HTab_.out | (with_reducible refine Tab_.drewN ?_ _) | (with_reducible refine Tab_.drew ?_) | (with_reducible refine Tab_.alloc ?_ _))); done) | (refine Tab_.below HTab_.out ?_; (repeat (first | (with_reducible first | exact HB.out | apply below_alloc | apply pw_below_drewN | apply below_drew1) | exact HB.out | exact Below.refl _ _)); done)); (case side1 => repeat (first | exact (Kd.R_reads' HO_8.out).2.2 | (with_reducible refine Kd.C_alloc ?_ _) | (with_reducible refine Kd.C_drewN ?_ _) | (with_reducible refine Kd.C_drew ?_))); (case side2 => exact (Kd.R_reads' HO_8.out).2.1); rintro e w37 ⟨v468, rfl, ho0, hb⟩; refine ⟨_, rfl, ?_⟩; have n0_ := Aside0.mk (Kd.R_elder' (by (with_reducible repeat (first | apply Kd.R_alloc | apply Kd.R_drewN | apply Kd.R_drew)); exact HO_6.out) (Kd.R_base ho0) hb); have n1_ := Aside0.mk (Kd.R_elder' (by (with_reducible repeat (first | apply Kd.R_alloc | apply Kd.R_drewN | apply Kd.R_drew)); exact HO_7.out) (Kd.R_base ho0) hb); have n2_ := Aside0.mk (Kd.R_elder' (by (with_reducible repeat (first | apply Kd.R_alloc | apply Kd.R_drewN | apply Kd.R_drew)); exact HO_8.out) (Kd.R_base ho0) hb); have n3_ := Aside0.mk (Kd.R_elder' (by (with_reducible repeat (first | apply Kd.R_alloc | apply Kd.R_drewN | apply Kd.R_drew)); exact HO465.out) (Kd.R_base ho0) hb); have n4_ := Aside0.mk (Kd.R_lower (Kd.R_new' (Kd.R_new' (Kd.R_new' (Kd.R_new' ho0 (Kd.R_lt (by (with_reducible repeat (first | apply Kd.R_alloc | apply Kd.R_drewN | apply Kd.R_drew)); exact HO_6.out))) (Kd.R_lt (by (with_reducible repeat (first | apply Kd.R_alloc | apply Kd.R_drewN | apply Kd.R_drew)); exact HO_7.out))) (Kd.R_lt (by (with_reducible repeat (first | apply Kd.R_alloc | apply Kd.R_drewN | apply Kd.R_drew)); exact HO_8.out))) (Kd.R_lt (by (with_reducible repeat (first | apply Kd.R_alloc | apply Kd.R_drewN | apply Kd.R_drew)); exact HO465.out))) (below_size (by repeat (first | (with_reducible first | exact HB.out | apply below_alloc | apply pw_below_drewN | apply below_drew1) | exact HB.out | exact Below.refl _ _)))); have n5_ := Aside0.mk (below_step (by repeat (first | (with_reducible first | exact HB.out | apply below_alloc | apply pw_below_drewN | apply below_drew1) | exact HB.out | exact Below.refl _ _)) hb); clear HO_6; clear HO_7; clear HO_8; clear HO465; clear HB; have HO_6 := n0_; have HO_7 := n1_; have HO_8 := n2_; have HO465 := n3_; have HO469 := n4_; have HB := n5_; clear n0_ n1_ n2_ n3_ n4_ n5_; (try clear hb); (try clear hb2); (try clear hk); (try clear hi); (try clear ho0)))
                          go_ret
                          exact ⟨by first | rfl | (simp [errW_none, errW_some] <;> rfl) | (simp [*, errW_none, errW_some] <;> rfl), by repeat (first | (with_reducible first | exact HB.out | apply below_alloc | apply pw_below_drewN | apply below_drew1) | exact HB.out | exact Below.refl _ _)⟩
                        · rw [if_neg c35] at H
                          have c35b0 : (t463 != t467) = false := by simpa using c35
                          (try (have c35b1 : decide (t463 = t467) = true := by simpa using c35))
                          (try (have c35b2 : (t463 == t467) = true := by simpa using c35))
                          clear c35
                          have H' := Aside0.mk H
                          clear H
                          go_wp2_with (first | ((with_reducible refine gate_callee (f := 28) rfl ?_); refine goesL_ (some 110) rfl rfl Tryd.func28 (by kernel_rfl) rfl #[.int .i64 t440, .slice Ao10 t441.length co10] rfl (by (try simp only [List.map_toArray, List.map_cons, List.map_nil]); first | done | rfl | (simp only [List.length_drop, List.length_take]; rfl)) ?_; (with_reducible refine (impl_ChangesOf.calls kj27 t440 _ _ t441 t462 t463 _ ?side1 ?side2 A33.out ?tab_).mono ?_); (case tab_ => first | exact HTab_.out | ((repeat (first | exact HTab_.out | (with_reducible refine Tab_.drewN ?_ _) | (with_reducible refine Tab_.drew ?_) | (with_reducible refine Tab_.alloc ?_ _))); done) | (refine Tab_.below HTab_.out ?_; (repeat (first | (with_reducible first | exact HB.out | apply below_alloc | apply pw_below_drewN | apply below_drew1) | exact HB.out | exact Below.refl _ _)); done)); (case side1 => repeat (first | exact (Kd.R_reads' HO_6.out).2.2 | (with_reducible refine Kd.C_alloc ?_ _) | (with_reducible refine Kd.C_drewN ?_ _) | (with_reducible refine Kd.C_drew ?_))); (case side2 => exact (Kd.R_reads' HO_6.out).2.1); rintro e w38 ⟨v464, rfl, ho0, hb⟩; refine ⟨_, rfl, ?_⟩; have n0_ := Aside0.mk (Kd.R_elder' (by (with_reducible repeat (first | apply Kd.R_alloc | apply Kd.R_drewN | apply Kd.R_drew)); exact HO_6.out) (Kd.R_base ho0) hb); have n1_ := Aside0.mk (Kd.R_elder' (by (with_reducible repeat (first | apply Kd.R_alloc | apply Kd.R_drewN | apply Kd.R_drew)); exact HO_7.out) (Kd.R_base ho0) hb); have n2_ := Aside0.mk (Kd.R_elder' (by (with_reducible repeat (first | apply Kd.R_alloc | apply Kd.R_drewN | apply Kd.R_drew)); exact HO_8.out) (Kd.R_base ho0) hb); have n3_ := Aside0.mk (Kd.R_lower (Kd.R_new' (Kd.R_new' (Kd.R_new' ho0 (Kd.R_lt (by (with_reducible repeat (first | apply Kd.R_alloc | apply Kd.R_drewN | apply Kd.R_drew)); exact HO_6.out))) (Kd.R_lt (by (with_reducible repeat (first | apply Kd.R_alloc | apply Kd.R_drewN | apply Kd.R_drew)); exact HO_7.out))) (Kd.R_lt (by (with_reducible repeat (first | apply Kd.R_alloc | apply Kd.R_drewN | apply Kd.R_drew)); exact HO_8.out))) (below_size (by repeat (first | (with_reducible first | exact HB.out | apply below_alloc | apply pw_below_drewN | apply below_drew1) | exact HB.out | exact Below.refl _ _)))); have n4_ := Aside0.mk (below_step (by repeat (first | (with_reducible first | exact HB.out | apply below_alloc | apply pw_below_drewN | apply below_drew1) | exact HB.out | exact Below.refl _ _)) hb); clear HO_6; clear HO_7; clear HO_8; clear HB; have HO_6 := n0_; have HO_7 := n1_; have HO_8 := n2_; have HO465 := n3_; have HB := n4_; clear n0_ n1_ n2_ n3_ n4_; (try clear hb); (try clear hb2); (try clear hk); (try clear hi); (try clear ho0)) | ((with_reducible refine gate_callee (f := 28) rfl ?_); refine goesL_ (some 116) rfl rfl Tryd.func28 (by kernel_rfl) rfl #[.int .i64 t440, .slice Ao29 t447.length co29] rfl (by (try simp only [List.map_toArray, List.map_cons, List.map_nil]); first | done | rfl | (simp only [List.length_drop, List.length_take]; rfl)) ?_; (with_reducible refine (impl_ChangesOf.calls kj27 t440 _ _ t447 t466 t467 _ ?side1 ?side2 A34.out ?tab_).mono ?_); (case tab_ => first | exact HTab_.out | ((repeat (first | exact HTab_.out | (with_reducible refine Tab_.drewN ?_ _) | (with_reducible refine Tab_.drew ?_) | (with_reducible refine Tab_.alloc ?_ _))); done) | (refine Tab_.below HTab_.out ?_; (repeat (first | (with_reducible first | exact HB.out | apply below_alloc | apply pw_below_drewN | apply below_drew1) | exact HB.out | exact Below.refl _ _)); done)); (case side1 => repeat (first | exact (Kd.R_reads' HO_8.out).2.2 | (with_reducible refine Kd.C_alloc ?_ _) | (with_reducible refine Kd.C_drewN ?_ _) | (with_reducible refine Kd.C_drew ?_))); (case side2 => exact (Kd.R_reads' HO_8.out).2.1); rintro e w39 ⟨v468, rfl, ho0, hb⟩; refine ⟨_, rfl, ?_⟩; have n0_ := Aside0.mk (Kd.R_elder' (by (with_reducible repeat (first | apply Kd.R_alloc | apply Kd.R_drewN | apply Kd.R_drew)); exact HO_6.out) (Kd.R_base ho0) hb); have n1_ := Aside0.mk (Kd.R_elder' (by (with_reducible repeat (first | apply Kd.R_alloc | apply Kd.R_drewN | apply Kd.R_drew)); exact HO_7.out) (Kd.R_base ho0) hb); have n2_ := Aside0.mk (Kd.R_elder' (by (with_reducible repeat (first | apply Kd.R_alloc | apply Kd.R_drewN | apply Kd.R_drew)); exact HO_8.out) (Kd.R_base ho0) hb); have n3_ := Aside0.mk (Kd.R_elder' (by (with_reducible repeat (first | apply Kd.R_alloc | apply Kd.R_drewN | apply Kd.R_drew)); exact HO465.out) (Kd.R_base ho0) hb); have n4_ := Aside0.mk (Kd.R_lower (Kd.R_new' (Kd.R_new' (Kd.R_new' (Kd.R_new' ho0 (Kd.R_lt (by (with_reducible repeat (first | apply Kd.R_alloc | apply Kd.R_drewN | apply Kd.R_drew)); exact HO_6.out))) (Kd.R_lt (by (with_reducible repeat (first | apply Kd.R_alloc | apply Kd.R_drewN | apply Kd.R_drew)); exact HO_7.out))) (Kd.R_lt (by (with_reducible repeat (first | apply Kd.R_alloc | apply Kd.R_drewN | apply Kd.R_drew)); exact HO_8.out))) (Kd.R_lt (by (with_reducible repeat (first | apply Kd.R_alloc | apply Kd.R_drewN | apply Kd.R_drew)); exact HO465.out))) (below_size (by repeat (first | (with_reducible first | exact HB.out | apply below_alloc | apply pw_below_drewN | apply below_drew1) | exact HB.out | exact Below.refl _ _)))); have n5_ := Aside0.mk (below_step (by repeat (first | (with_reducible first | exact HB.out | apply below_alloc | apply pw_below_drewN | apply below_drew1) | exact HB.out | exact Below.refl _ _)) hb); clear HO_6; clear HO_7; clear HO_8; clear HO465; clear HB; have HO_6 := n0_; have HO_7 := n1_; have HO_8 := n2_; have HO465 := n3_; have HO469 := n4_; have HB := n5_; clear n0_ n1_ n2_ n3_ n4_ n5_; (try clear hb); (try clear hb2); (try clear hk); (try clear hi); (try clear ho0); obtain ⟨Ao40, co40, eo40⟩ := Kd.R_slice HO465.out; subst eo40))
                          go_loopg [124] kj27 (fun kq v124 w' => ∃ (x124_4 : Int), v124 = .int .i64 x124_4 ∧ Aside0 (laws_FnCodesMoved.l0 kq l1 t440 t441 t442 t458 t459 t466 t462 (t462.length : Int) x124_4 = some r) ∧ Aside0 (kq ≤ kj27) ∧ Aside0 (Kd.R (Kd.int .i64) 3 w' w.heap.size (fun k_ => some k_ ≠ ((.slice Ao11 t442.length co11) : Value).ownBlock ∧ some k_ ≠ (v468 : Value).ownBlock ∧ some k_ ≠ ((.slice Ao40 t462.length co40) : Value).ownBlock) (.slice Ao10 t441.length co10) t441) ∧ Aside0 (Kd.R (Kd.int .i64) 3 w' w.heap.size (fun k_ => some k_ ≠ ((.slice Ao10 t441.length co10) : Value).ownBlock ∧ some k_ ≠ (v468 : Value).ownBlock ∧ some k_ ≠ ((.slice Ao40 t462.length co40) : Value).ownBlock) (.slice Ao11 t442.length co11) t442) ∧ Aside0 (Kd.R (Kd.int .i64) 3 w' w.heap.size (fun k_ => some k_ ≠ ((.slice Ao10 t441.length co10) : Value).ownBlock ∧ some k_ ≠ ((.slice Ao11 t442.length co11) : Value).ownBlock ∧ some k_ ≠ ((.slice Ao40 t462.length co40) : Value).ownBlock) v468 t466) ∧ Aside0 (Kd.R (Kd.int .i64) 3 w' w.heap.size (fun k_ => some k_ ≠ ((.slice Ao10 t441.length co10) : Value).ownBlock ∧ some k_ ≠ ((.slice Ao11 t442.length co11) : Value).ownBlock ∧ some k_ ≠ (v468 : Value).ownBlock) (.slice Ao40 t462.length co40) t462) ∧ Aside0 (Below w.heap.size w w'))
                          case atStart => exact ⟨(0), (by first | rfl | (simp; done) | (simp [*]; done)), H', ⟨Nat.le_refl _⟩, ⟨by (with_reducible repeat (first | apply Kd.R_alloc | apply Kd.R_drewN | apply Kd.R_drew)); exact Kd.R_mono HO_6.out (fun _ hk => ⟨hk.1.1.1, ⟨hk.2, hk.1.2⟩⟩)⟩, ⟨by (with_reducible repeat (first | apply Kd.R_alloc | apply Kd.R_drewN | apply Kd.R_drew)); exact Kd.R_mono HO_7.out (fun _ hk => ⟨hk.1.1.1, ⟨hk.2, hk.1.2⟩⟩)⟩, ⟨by (with_reducible repeat (first | apply Kd.R_alloc | apply Kd.R_drewN | apply Kd.R_drew)); exact Kd.R_mono HO469.out (fun _ hk => ⟨hk.1.1.1.2, ⟨hk.1.1.2, hk.2⟩⟩)⟩, ⟨by (with_reducible repeat (first | apply Kd.R_alloc | apply Kd.R_drewN | apply Kd.R_drew)); exact Kd.R_mono HO465.out (fun _ hk => ⟨hk.1.1.1.2, ⟨hk.1.1.2, hk.2⟩⟩)⟩, ⟨by repeat (first | (with_reducible first | exact HB.out | apply below_alloc | apply pw_below_drewN | apply below_drew1) | exact HB.out | exact Below.refl _ _)⟩⟩
                          case round =>
                            clear H'
                            try clear c1
                            try clear c2
                            try clear p2
                            try clear c3
                            try clear c4
                            try clear c5
                            try clear c14
                            try clear c14b0
                            try clear c14b1
                            try clear c14b2
                            try clear c18
                            try clear c24
                            try clear c26
                            try clear c28
                            try clear c30
                            try clear c31
                            try clear c32
                            try clear c35
                            try clear c35b0
                            try clear c35b1
                            try clear c35b2
                            try clear c39
                            try clear p2
                            obtain ⟨x124_4, rfl, HA, HK4, HO_6, HO_7, HO_20, HO_122, HB⟩ := hrel
                            cases gk with
                            | zero => exact absurd HA.out (by simp [laws_FnCodesMoved.l0])
                            | succ k4 =>
                              have H := HA.out
                              clear HA
                              simp only [laws_FnCodesMoved.l0] at H
                              by_cases c41 : x124_4 < (t462.length : Int)
                              · rw [if_pos c41] at H
                                have c41b0 : decide (x124_4 < (t462.length : Int)) = true := decide_eq_true c41
                                clear c41
                                by_cases c42 : 0 ≤ x124_4
                                · rw [if_pos c42] at H
                                  have c42b0 : decide (0 ≤ x124_4) = true := decide_eq_true c42
                                  clear c42
                                  by_cases c43 : x124_4 < (t462.length : Int)
                                  · rw [if_pos c43] at H
                                    have c43b0 : decide (x124_4 < (t462.length : Int)) = true := decide_eq_true c43
                                    clear c43
                                    by_cases c44 : x124_4 < (t442.length : Int)
                                    · rw [if_pos c44] at H
                                      have c44b0 : decide (x124_4 < (t442.length : Int)) = true := decide_eq_true c44
                                      clear c44
                                      by_cases c45 : 0 ≤ (rd t442 x124_4)
                                      · rw [if_pos c45] at H
                                        have c45b0 : decide (0 ≤ (rd t442 x124_4)) = true := decide_eq_true c45
                                        clear c45
                                        by_cases c46 : (rd t442 x124_4) < (t466.length : Int)
                                        · rw [if_pos c46] at H
                                          have c46b0 : decide ((rd t442 x124_4) < (t466.length : Int)) = true := decide_eq_true c46
                                          clear c46
                                          by_cases c47 : (rd t466 (rd t442 x124_4)) = (rd t462 x124_4)
                                          · rw [if_pos c47] at H
                                            have c47b0 : ((rd t466 (rd t442 x124_4)) == (rd t462 x124_4)) = true := beq_iff_eq.mpr c47
                                            have c47b1 : ((rd t466 (rd t442 x124_4)) != (rd t462 x124_4)) = false := bne_eq_false_iff_eq.mpr c47
                                            clear c47
                                            have H' := Aside0.mk H
                                            clear H
                                            have p470 : 0 ≤ (x124_4 : Int) := of_decide_eq_true (by first | (with_reducible assumption) | assumption)
                                            have q470 : x124_4 < (t462.length : Int) := of_decide_eq_true (by first | (with_reducible assumption) | assumption)
                                            obtain ⟨ad470, e470, hx470_0⟩ := Kd.at_int (Kd.R_reads' HO_122.out).2.2 x124_4 p470 q470
                                            cases e470
                                            replace p470 := eq_true p470
                                            replace q470 := eq_true q470
                                            have p471 : 0 ≤ (x124_4 : Int) := of_decide_eq_true (by first | (with_reducible assumption) | assumption)
                                            have q471 : x124_4 < (t442.length : Int) := of_decide_eq_true (by first | (with_reducible assumption) | assumption)
                                            obtain ⟨ad471, e471, hx471_0⟩ := Kd.at_int (Kd.R_reads' HO_7.out).2.2 x124_4 p471 q471
                                            cases e471
                                            replace p471 := eq_true p471
                                            replace q471 := eq_true q471
                                            obtain ⟨Ao48, co48, eo48⟩ := Kd.R_slice HO_20.out
                                            subst eo48
                                            have p472 : 0 ≤ ((rd t442 x124_4) : Int) := of_decide_eq_true (by first | (with_reducible assumption) | assumption)
                                            have q472 : (rd t442 x124_4) < (t466.length : Int) := of_decide_eq_true (by first | (with_reducible assumption) | assumption)
                                            obtain ⟨ad472, e472, hx472_0⟩ := Kd.at_int (Kd.R_reads' HO_20.out).2.2 (rd t442 x124_4) p472 q472
                                            cases e472
                                            replace p472 := eq_true p472
                                            replace q472 := eq_true q472
                                            go_wp2
                                            go_roundg k4
                                            case measure => have := HJ7.out; have := HJ20.out; have := HJ27.out; have := HK4.out; omega
                                            case rel => exact ⟨(wrap64 (x124_4 + 1)), (by first | rfl | (simp; done) | (simp [*]; done)), H', ⟨by have := HJ7.out; have := HJ20.out; have := HJ27.out; have := HK4.out; omega⟩, ⟨by (with_reducible repeat (first | apply Kd.R_alloc | apply Kd.R_drewN | apply Kd.R_drew)); exact HO_6.out⟩, ⟨by (with_reducible repeat (first | apply Kd.R_alloc | apply Kd.R_drewN | apply Kd.R_drew)); exact HO_7.out⟩, ⟨by (with_reducible repeat (first | apply Kd.R_alloc | apply Kd.R_drewN | apply Kd.R_drew)); exact HO_20.out⟩, ⟨by (with_reducible repeat (first | apply Kd.R_alloc | apply Kd.R_drewN | apply Kd.R_drew)); exact HO_122.out⟩, ⟨by repeat (first | (with_reducible first | exact HB.out | apply below_alloc | apply pw_below_drewN | apply below_drew1) | exact HB.out | exact Below.refl _ _)⟩⟩
                                          · rw [if_neg c47] at H
                                            have c47b0 : ((rd t466 (rd t442 x124_4)) == (rd t462 x124_4)) = false := beq_eq_false_iff_ne.mpr c47
                                            have c47b1 : ((rd t466 (rd t442 x124_4)) != (rd t462 x124_4)) = true := bne_iff_ne.mpr c47
                                            obtain rfl := Option.some.inj H
                                            have p470 : 0 ≤ (x124_4 : Int) := of_decide_eq_true (by first | (with_reducible assumption) | assumption)
                                            have q470 : x124_4 < (t462.length : Int) := of_decide_eq_true (by first | (with_reducible assumption) | assumption)
                                            obtain ⟨ad470, e470, hx470_0⟩ := Kd.at_int (Kd.R_reads' HO_122.out).2.2 x124_4 p470 q470
                                            cases e470
                                            replace p470 := eq_true p470
                                            replace q470 := eq_true q470
                                            have p471 : 0 ≤ (x124_4 : Int) := of_decide_eq_true (by first | (with_reducible assumption) | assumption)
                                            have q471 : x124_4 < (t442.length : Int) := of_decide_eq_true (by first | (with_reducible assumption) | assumption)
                                            obtain ⟨ad471, e471, hx471_0⟩ := Kd.at_int (Kd.R_reads' HO_7.out).2.2 x124_4 p471 q471
                                            cases e471
                                            replace p471 := eq_true p471
                                            replace q471 := eq_true q471
                                            obtain ⟨Ao49, co49, eo49⟩ := Kd.R_slice HO_20.out
                                            subst eo49
                                            have p472 : 0 ≤ ((rd t442 x124_4) : Int) := of_decide_eq_true (by first | (with_reducible assumption) | assumption)
                                            have q472 : (rd t442 x124_4) < (t466.length : Int) := of_decide_eq_true (by first | (with_reducible assumption) | assumption)
                                            obtain ⟨ad472, e472, hx472_0⟩ := Kd.at_int (Kd.R_reads' HO_20.out).2.2 (rd t442 x124_4) p472 q472
                                            cases e472
                                            replace p472 := eq_true p472
                                            replace q472 := eq_true q472
                                            go_wp2
                                            go_ret
                                            exact ⟨by first | rfl | (simp [errW_none, errW_some] <;> rfl) | (simp [*, errW_none, errW_some] <;> rfl), by repeat (first | (with_reducible first | exact HB.out | apply below_alloc | apply pw_below_drewN | apply below_drew1) | exact HB.out | exact Below.refl _ _)⟩
                                        · rw [if_neg c46] at H
                                          exact absurd H (by simp)
                                      · rw [if_neg c45] at H
                                        exact absurd H (by simp)
                                    · rw [if_neg c44] at H
                                      exact absurd H (by simp)
                                  · rw [if_neg c43] at H
                                    exact absurd H (by simp)
                                · rw [if_neg c42] at H
                                  exact absurd H (by simp)
                              · rw [if_neg c41] at H
                                have c41b0 : decide (x124_4 < (t462.length : Int)) = false := decide_eq_false c41
                                clear c41
                                have H' := Aside0.mk H
                                clear H
                                go_wp2
                                go_meet
                                case rel => exact ⟨_, H', ⟨by have := HJ7.out; have := HJ20.out; have := HJ27.out; have := HK4.out; first | omega | exact Nat.le_refl _⟩, ⟨by (with_reducible repeat (first | apply Kd.R_alloc | apply Kd.R_drewN | apply Kd.R_drew)); exact Kd.R_mono HO_6.out (fun _ hk => trivial)⟩, ⟨by repeat (first | (with_reducible first | exact HB.out | apply below_alloc | apply pw_below_drewN | apply below_drew1) | exact HB.out | exact Below.refl _ _)⟩⟩
                · replace c26 := Bool.eq_false_iff.mpr c26
                  subst c26
                  have H1 : (laws_FnCodesMoved.j4 kj20 l1 t440 t441 t458 t459) = some r := by rw [if_neg (show ¬ (false = true) by decide)] at H; exact H
                  clear H
                  have H := H1
                  clear H1
                  have H' := Aside0.mk H
                  clear H
                  go_wp2
                  go_meet
                  case rel => exact ⟨_, H', ⟨by have := HJ7.out; have := HJ20.out; first | omega | exact Nat.le_refl _⟩, ⟨by (with_reducible repeat (first | apply Kd.R_alloc | apply Kd.R_drewN | apply Kd.R_drew)); exact Kd.R_mono HO_6.out (fun _ hk => trivial)⟩, ⟨by repeat (first | (with_reducible first | exact HB.out | apply below_alloc | apply pw_below_drewN | apply below_drew1) | exact HB.out | exact Below.refl _ _)⟩⟩
              case rest => as_aux_lemma =>
                clear HC25
                try clear c1
                try clear c2
                try clear p2
                try clear c3
                try clear c4
                try clear p4
                try clear q4
                try clear hx4
                try clear c5
                try clear p6
                try clear c14
                try clear c14b0
                try clear c14b1
                try clear c14b2
                try clear c18
                try clear c24
                try clear c26
                try clear c28
                try clear c30
                try clear c31
                try clear c32
                try clear c35
                try clear c35b0
                try clear c35b1
                try clear c35b2
                try clear c39
                try clear c41
                try clear c41b0
                try clear c42
                try clear c42b0
                try clear c43
                try clear c43b0
                try clear c44
                try clear c44b0
                try clear c45
                try clear c45b0
                try clear c46
                try clear c46b0
                try clear c47
                try clear c47b0
                try clear c47b1
                try clear p47
                try clear q47
                try clear hx47
                try clear c48
                try clear c49
                try clear hx470_0
                try clear hx471_0
                try clear hx472_0
                try clear p2
                try clear p470
                try clear p471
                try clear p472
                try clear q470
                try clear q471
                try clear q472
                obtain ⟨kq, HA, HJ24, HO_6, HB⟩ := hcut
                cases kq with
                | zero => exact absurd HA.out (by simp [laws_FnCodesMoved.j4])
                | succ kj24 =>
                  have H := HA.out
                  clear HA
                  simp only [laws_FnCodesMoved.j4] at H
                  replace H := Option.bind_eq_some_iff.mp H
                  obtain ⟨⟨t473, t474, t475⟩, A500, H⟩ := H
                  replace H : ((impl_FlipBits.f kj24 t473 t474 t475).bind fun bt478 => ((spec_FlipBits.f kj24 t473 t474 t475).bind fun bt482 => (if (bt478.2 != bt482.2) = true then (laws_FnCodesMoved.j5 kj24 l1 t440 t441 t458 t459 t473 t474 bt478.1 bt478.2 true) else ((laws_uSame.f kj24 bt478.1 bt482.1).bind fun t486 => (laws_FnCodesMoved.j5 kj24 l1 t440 t441 t458 t459 t473 t474 bt478.1 bt478.2 (!t486)))))) = some r := H
                  have A50 := Aside0.mk A500
                  clear A500
                  replace H := Option.bind_eq_some_iff.mp H
                  obtain ⟨⟨t478, t479⟩, A510, H⟩ := H
                  replace H : ((spec_FlipBits.f kj24 t473 t474 t475).bind fun bt482 => (if (t479 != bt482.2) = true then (laws_FnCodesMoved.j5 kj24 l1 t440 t441 t458 t459 t473 t474 t478 t479 true) else ((laws_uSame.f kj24 t478 bt482.1).bind fun t486 => (laws_FnCodesMoved.j5 kj24 l1 t440 t441 t458 t459 t473 t474 t478 t479 (!t486))))) = some r := H
                  have A51 := Aside0.mk A510
                  clear A510
                  replace H := Option.bind_eq_some_iff.mp H
                  obtain ⟨⟨t482, t483⟩, A520, H⟩ := H
                  replace H : (if (t479 != t483) = true then (laws_FnCodesMoved.j5 kj24 l1 t440 t441 t458 t459 t473 t474 t478 t479 true) else ((laws_uSame.f kj24 t478 t482).bind fun t486 => (laws_FnCodesMoved.j5 kj24 l1 t440 t441 t458 t459 t473 t474 t478 t479 (!t486)))) = some r := H
                  have A52 := Aside0.mk A520
                  clear A520
                  have HC53 := Aside0.mk H
                  clear H
                  go_upto_region 27 with (first | ((with_reducible refine gate_callee (f := 51) rfl ?_); refine goesL_ (some 141) rfl rfl Tryd.func51 (by kernel_rfl) rfl #[.slice A1 l1.length c1] rfl (by (try simp only [List.map_toArray, List.map_cons, List.map_nil]); first | done | rfl | (simp only [List.length_drop, List.length_take]; rfl)) ?_; (with_reducible refine (spec_DrawFlipBits.calls kj24 _ _ l1 t473 t474 t475 _ ?side1 ?side2 A50.out).mono ?_); (case side1 => repeat (first | exact (Kd.C_below HR1.out HB.out) | exact HR1.out | (with_reducible refine Kd.C_alloc ?_ _) | (with_reducible refine Kd.C_drewN ?_ _) | (with_reducible refine Kd.C_drew ?_))); (case side2 => exact HC1.out); rintro e w54 ⟨v476, rfl, ho0, hb⟩; refine ⟨_, rfl, ?_⟩; have n0_ := Aside0.mk (Kd.R_elder' (by (with_reducible repeat (first | apply Kd.R_alloc | apply Kd.R_drewN | apply Kd.R_drew)); exact HO_6.out) (Kd.R_base ho0) hb); have n1_ := Aside0.mk (Kd.R_lower (Kd.R_new' ho0 (Kd.R_lt (by (with_reducible repeat (first | apply Kd.R_alloc | apply Kd.R_drewN | apply Kd.R_drew)); exact HO_6.out))) (below_size (by repeat (first | (with_reducible first | exact HB.out | apply below_alloc | apply pw_below_drewN | apply below_drew1) | exact HB.out | exact Below.refl _ _)))); have n2_ := Aside0.mk (below_step (by repeat (first | (with_reducible first | exact HB.out | apply below_alloc | apply pw_below_drewN | apply below_drew1) | exact HB.out | exact Below.refl _ _)) hb); clear HO_6; clear HB; have HO_6 := n0_; have HO477 := n1_; have HB := n2_; clear n0_ n1_ n2_; (try clear hb); (try clear hb2); (try clear hk); (try clear hi); (try clear ho0); obtain ⟨Ao55, co55, eo55⟩ := Kd.R_slice HO477.out; subst eo55) | ((with_reducible refine gate_callee (f := 52) rfl ?_); refine goesL_ (some 149) rfl rfl Tryd.func52 (by kernel_rfl) rfl #[.int .i64 t473, .slice Ao55 t474.length co55, .int .i64 t475] rfl (by (try simp only [List.map_toArray, List.map_cons, List.map_nil]); first | done | rfl | (simp only [List.length_drop, List.length_take]; rfl)) ?_; (with_reducible refine (impl_FlipBits.calls kj24 t473 _ _ t474 t475 t478 t479 _ ?side1 ?side2 A51.out).mono ?_); (case side1 => repeat (first | exact (Kd.R_reads' HO477.out).2.2 | (with_reducible refine Kd.C_alloc ?_ _) | (with_reducible refine Kd.C_drewN ?_ _) | (with_reducible refine Kd.C_drew ?_))); (case side2 => exact (Kd.R_reads' HO477.out).2.1); rintro e w56 ⟨v480, rfl, ho0, hb⟩; refine ⟨_, rfl, ?_⟩; have n0_ := Aside0.mk (Kd.R_elder' (by (with_reducible repeat (first | apply Kd.R_alloc | apply Kd.R_drewN | apply Kd.R_drew)); exact HO_6.out) (Kd.R_base ho0) hb); have n1_ := Aside0.mk (Kd.R_elder' (by (with_reducible repeat (first | apply Kd.R_alloc | apply Kd.R_drewN | apply Kd.R_drew)); exact HO477.out) (Kd.R_base ho0) hb); have n2_ := Aside0.mk (Kd.R_lower (Kd.R_new' (Kd.R_new' ho0 (Kd.R_lt (by (with_reducible repeat (first | apply Kd.R_alloc | apply Kd.R_drewN | apply Kd.R_drew)); exact HO_6.out))) (Kd.R_lt (by (with_reducible repeat (first | apply Kd.R_alloc | apply Kd.R_drewN | apply Kd.R_drew)); exact HO477.out))) (below_size (by repeat (first | (with_reducible first | exact HB.out | apply below_alloc | apply pw_below_drewN | apply below_drew1) | exact HB.out | exact Below.refl _ _)))); have n3_ := Aside0.mk (below_step (by repeat (first | (with_reducible first | exact HB.out | apply below_alloc | apply pw_below_drewN | apply below_drew1) | exact HB.out | exact Below.refl _ _)) hb); clear HO_6; clear HO477; clear HB; have HO_6 := n0_; have HO477 := n1_; have HO481 := n2_; have HB := n3_; clear n0_ n1_ n2_ n3_; (try clear hb); (try clear hb2); (try clear hk); (try clear hi); (try clear ho0)) | ((with_reducible refine gate_callee (f := 53) rfl ?_); refine goesL_ (some 156) rfl rfl Tryd.func53 (by kernel_rfl) rfl #[.int .i64 t473, .slice Ao55 t474.length co55, .int .i64 t475] rfl (by (try simp only [List.map_toArray, List.map_cons, List.map_nil]); first | done | rfl | (simp only [List.length_drop, List.length_take]; rfl)) ?_; (with_reducible refine (spec_FlipBits.calls kj24 t473 _ _ t474 t475 t482 t483 _ ?side1 ?side2 A52.out).mono ?_); (case side1 => repeat (first | exact (Kd.R_reads' HO477.out).2.2 | (with_reducible refine Kd.C_alloc ?_ _) | (with_reducible refine Kd.C_drewN ?_ _) | (with_reducible refine Kd.C_drew ?_))); (case side2 => exact (Kd.R_reads' HO477.out).2.1); rintro e w57 ⟨v484, rfl, ho0, hb⟩; refine ⟨_, rfl, ?_⟩; have n0_ := Aside0.mk (Kd.R_elder' (by (with_reducible repeat (first | apply Kd.R_alloc | apply Kd.R_drewN | apply Kd.R_drew)); exact HO_6.out) (Kd.R_base ho0) hb); have n1_ := Aside0.mk (Kd.R_elder' (by (with_reducible repeat (first | apply Kd.R_alloc | apply Kd.R_drewN | apply Kd.R_drew)); exact HO477.out) (Kd.R_base ho0) hb); have n2_ := Aside0.mk (Kd.R_elder' (by (with_reducible repeat (first | apply Kd.R_alloc | apply Kd.R_drewN | apply Kd.R_drew)); exact HO481.out) (Kd.R_base ho0) hb); have n3_ := Aside0.mk (Kd.R_lower (Kd.R_new' (Kd.R_new' (Kd.R_new' ho0 (Kd.R_lt (by (with_reducible repeat (first | apply Kd.R_alloc | apply Kd.R_drewN | apply Kd.R_drew)); exact HO_6.out))) (Kd.R_lt (by (with_reducible repeat (first | apply Kd.R_alloc | apply Kd.R_drewN | apply Kd.R_drew)); exact HO477.out))) (Kd.R_lt (by (with_reducible repeat (first | apply Kd.R_alloc | apply Kd.R_drewN | apply Kd.R_drew)); exact HO481.out))) (below_size (by repeat (first | (with_reducible first | exact HB.out | apply below_alloc | apply pw_below_drewN | apply below_drew1) | exact HB.out | exact Below.refl _ _)))); have n4_ := Aside0.mk (below_step (by repeat (first | (with_reducible first | exact HB.out | apply below_alloc | apply pw_below_drewN | apply below_drew1) | exact HB.out | exact Below.refl _ _)) hb); clear HO_6; clear HO477; clear HO481; clear HB; have HO_6 := n0_; have HO477 := n1_; have HO481 := n2_; have HO485 := n3_; have HB := n4_; clear n0_ n1_ n2_ n3_ n4_; (try clear hb); (try clear hb2); (try clear hk); (try clear hi); (try clear ho0)))
                  (try simp only [Act.put, List.setIfInBounds_toArray, List.set_cons_zero, List.set_cons_succ])
                  go_cut [167] (fun v167 wc => ∃ (kq : Nat) (x167_52 : Bool), v167 = .bool x167_52 ∧ Aside0 (laws_FnCodesMoved.j5 kq l1 t440 t441 t458 t459 t473 t474 t478 t479 x167_52 = some r) ∧ Aside0 (kq ≤ kj24) ∧ Aside0 (Kd.R (Kd.int .i64) 3 wc w.heap.size (fun k_ => some k_ ≠ ((.slice Ao55 t474.length co55) : Value).ownBlock ∧ some k_ ≠ (v480 : Value).ownBlock) (.slice Ao10 t441.length co10) t441) ∧ Aside0 (Kd.R (Kd.int .i64) 3 wc w.heap.size (fun k_ => some k_ ≠ ((.slice Ao10 t441.length co10) : Value).ownBlock ∧ some k_ ≠ (v480 : Value).ownBlock) (.slice Ao55 t474.length co55) t474) ∧ Aside0 (Kd.R (Kd.int .i64) 3 wc w.heap.size (fun k_ => some k_ ≠ ((.slice Ao10 t441.length co10) : Value).ownBlock ∧ some k_ ≠ ((.slice Ao55 t474.length co55) : Value).ownBlock) v480 t478) ∧ Aside0 (Below w.heap.size w wc))
                  case first =>
                    have H := HC53.out
                    clear HC53
                    by_cases c58 : (t479 != t483) = true
                    · rw [if_pos c58] at H
                      have c58b0 : (t479 != t483) = true := c58
                      (try (have c58b1 : decide (t479 = t483) = false := by simpa using c58))
                      (try (have c58b2 : (t479 == t483) = false := by simpa using c58))
                      (try (have c58b3 : ¬ (t479 = t483) := by simpa using c58))
                      clear c58
                      (first | rw [c58b0] | (simp only [i64_w, i32_w]; rw [c58b0]) | skip)
                      have H' := Aside0.mk H
                      clear H
                      go_wp2
                      go_meet
                      case rel => exact ⟨_, (true), (by first | rfl | (simp; done) | (simp [*]; done)), H', ⟨by have := HJ7.out; have := HJ20.out; have := HJ24.out; first | omega | exact Nat.le_refl _⟩, ⟨by (with_reducible repeat (first | apply Kd.R_alloc | apply Kd.R_drewN | apply Kd.R_drew)); exact Kd.R_mono HO_6.out (fun _ hk => ⟨hk.1.1.2, hk.1.2⟩)⟩, ⟨by (with_reducible repeat (first | apply Kd.R_alloc | apply Kd.R_drewN | apply Kd.R_drew)); exact Kd.R_mono HO477.out (fun _ hk => ⟨hk.1.1.2, hk.1.2⟩)⟩, ⟨by (with_reducible repeat (first | apply Kd.R_alloc | apply Kd.R_drewN | apply Kd.R_drew)); exact Kd.R_mono HO481.out (fun _ hk => ⟨hk.1.1.2, hk.1.2⟩)⟩, ⟨by repeat (first | (with_reducible first | exact HB.out | apply below_alloc | apply pw_below_drewN | apply below_drew1) | exact HB.out | exact Below.refl _ _)⟩⟩
                    · rw [if_neg c58] at H
                      have c58b0 : (t479 != t483) = false := by simpa using c58
                      (try (have c58b1 : decide (t479 = t483) = true := by simpa using c58))
                      (try (have c58b2 : (t479 == t483) = true := by simpa using c58))
                      clear c58
                      (first | rw [c58b0] | (simp only [i64_w, i32_w]; rw [c58b0]) | skip)
                      replace H := Option.bind_eq_some_iff.mp H
                      obtain ⟨t486, A590, H⟩ := H
                      replace H : (laws_FnCodesMoved.j5 kj24 l1 t440 t441 t458 t459 t473 t474 t478 t479 (!t486)) = some r := H
                      have A59 := Aside0.mk A590
                      clear A590
                      have H' := Aside0.mk H
                      clear H
                      obtain ⟨Ao60, co60, eo60⟩ := Kd.R_slice HO481.out
                      subst eo60
                      obtain ⟨Ao61, co61, eo61⟩ := Kd.R_slice HO485.out
                      subst eo61
                      go_wp2_with (first | (go_at_call 41; (with_reducible refine (laws_uSame.calls kj24 _ _ t478 _ _ t482 t486 _ ?side1 ?side2 ?side3 ?side4 A59.out).mono ?_); (case side1 => repeat (first | exact (Kd.R_reads' HO481.out).2.2 | (with_reducible refine Kd.C_alloc ?_ _) | (with_reducible refine Kd.C_drewN ?_ _) | (with_reducible refine Kd.C_drew ?_))); (case side2 => exact (Kd.R_reads' HO481.out).2.1); (case side3 => repeat (first | exact (Kd.R_reads' HO485.out).2.2 | (with_reducible refine Kd.C_alloc ?_ _) | (with_reducible refine Kd.C_drewN ?_ _) | (with_reducible refine Kd.C_drew ?_))); (case side4 => exact (Kd.R_reads' HO485.out).2.1); rintro e w' ⟨rfl, ⟨nd, rfl⟩⟩))
                      go_meet
                      case rel => exact ⟨_, (!t486), (by first | rfl | (simp; done) | (simp [*]; done)), H', ⟨by have := HJ7.out; have := HJ20.out; have := HJ24.out; first | omega | exact Nat.le_refl _⟩, ⟨by (with_reducible repeat (first | apply Kd.R_alloc | apply Kd.R_drewN | apply Kd.R_drew)); exact Kd.R_mono HO_6.out (fun _ hk => ⟨hk.1.1.2, hk.1.2⟩)⟩, ⟨by (with_reducible repeat (first | apply Kd.R_alloc | apply Kd.R_drewN | apply Kd.R_drew)); exact Kd.R_mono HO477.out (fun _ hk => ⟨hk.1.1.2, hk.1.2⟩)⟩, ⟨by (with_reducible repeat (first | apply Kd.R_alloc | apply Kd.R_drewN | apply Kd.R_drew)); exact Kd.R_mono HO481.out (fun _ hk => ⟨hk.1.1.2, hk.1.2⟩)⟩, ⟨by repeat (first | (with_reducible first | exact HB.out | apply below_alloc | apply pw_below_drewN | apply below_drew1) | exact HB.out | exact Below.refl _ _)⟩⟩
                  case rest => as_aux_lemma =>
                    clear HC53
                    try clear c1
                    try clear c2
                    try clear p2
                    try clear c3
                    try clear c4
                    try clear p4
                    try clear q4
                    try clear hx4
                    try clear c5
                    try clear p6
                    try clear c14
                    try clear c14b0
                    try clear c14b1
                    try clear c14b2
                    try clear c18
                    try clear c24
                    try clear c26
                    try clear c28
                    try clear c30
                    try clear c31
                    try clear c32
                    try clear c35
                    try clear c35b0
                    try clear c35b1
                    try clear c35b2
                    try clear c39
                    try clear c41
                    try clear c41b0
                    try clear c42
                    try clear c42b0
                    try clear c43
                    try clear c43b0
                    try clear c44
                    try clear c44b0
                    try clear c45
                    try clear c45b0
                    try clear c46
                    try clear c46b0
                    try clear c47
                    try clear c47b0
                    try clear c47b1
                    try clear p47
                    try clear q47
                    try clear hx47
                    try clear c48
                    try clear c49
                    try clear c50
                    try clear c51
                    try clear c52
                    try clear c53
                    try clear c58
                    try clear c58b0
                    try clear c58b1
                    try clear c58b2
                    try clear hx470_0
                    try clear hx471_0
                    try clear hx472_0
                    try clear p2
                    try clear p4
                    try clear p47
                    try clear p470
                    try clear p471
                    try clear p472
                    try clear p6
                    try clear q4
                    try clear q47
                    try clear q470
                    try clear q471
                    try clear q472
                    obtain ⟨kq, x167_52, rfl, HA, HJ52, HO_6, HO_25, HO_27, HB⟩ := hcut
                    cases kq with
                    | zero => exact absurd HA.out (by simp [laws_FnCodesMoved.j5])
                    | succ kj52 =>
                      have H := HA.out
                      clear HA
                      simp only [laws_FnCodesMoved.j5] at H
                      by_cases c62 : x167_52 = true
                      · subst c62
                        have H1 : (some false) = some r := by rw [if_pos rfl] at H; exact H
                        clear H
                        have H := H1
                        clear H1
                        obtain rfl := Option.some.inj H
                        go_wp2
                        go_ret
                        exact ⟨by first | rfl | (simp [errW_none, errW_some] <;> rfl) | (simp [*, errW_none, errW_some] <;> rfl), by repeat (first | (with_reducible first | exact HB.out | apply below_alloc | apply pw_below_drewN | apply below_drew1) | exact HB.out | exact Below.refl _ _)⟩
                      · replace c62 := Bool.eq_false_iff.mpr c62
                        subst c62
                        have H1 : (if t479 = true then ((impl_IsRoundCode.f kj52 t473 t474).bind fun bt487 => ((impl_IsRoundCode.f kj52 t473 t478).bind fun bt489 => (if (bt487.2 != bt489.2) = true then (some false) else (if (bt487.1 != bt489.1) = true then (some false) else (laws_FnCodesMoved.j6 kj52 l1 t440 t441 t458 t459))))) else (laws_FnCodesMoved.j6 kj52 l1 t440 t441 t458 t459)) = some r := by rw [if_neg (show ¬ (false = true) by decide)] at H; exact H
                        clear H
                        have H := H1
                        clear H1
                        have HC63 := Aside0.mk H
                        clear H
                        go_upto_if 168 with (fail)
                        go_cut [] (fun wc => ∃ (kq : Nat), Aside0 (laws_FnCodesMoved.j6 kq l1 t440 t441 t458 t459 = some r) ∧ Aside0 (kq ≤ kj52) ∧ Aside0 (Kd.R (Kd.int .i64) 3 wc w.heap.size (fun _ => True) (.slice Ao10 t441.length co10) t441) ∧ Aside0 (Below w.heap.size w wc))
                        case first =>
                          have H := HC63.out
                          clear HC63
                          by_cases c64 : t479 = true
                          · subst c64
                            have H1 : ((impl_IsRoundCode.f kj52 t473 t474).bind fun bt487 => ((impl_IsRoundCode.f kj52 t473 t478).bind fun bt489 => (if (bt487.2 != bt489.2) = true then (some false) else (if (bt487.1 != bt489.1) = true then (some false) else (laws_FnCodesMoved.j6 kj52 l1 t440 t441 t458 t459))))) = some r := by rw [if_pos rfl] at H; exact H
                            clear H
                            have H := H1
                            clear H1
                            replace H := Option.bind_eq_some_iff.mp H
                            obtain ⟨⟨t487, t488⟩, A650, H⟩ := H
                            replace H : ((impl_IsRoundCode.f kj52 t473 t478).bind fun bt489 => (if (t488 != bt489.2) = true then (some false) else (if (t487 != bt489.1) = true then (some false) else (laws_FnCodesMoved.j6 kj52 l1 t440 t441 t458 t459)))) = some r := H
                            have A65 := Aside0.mk A650
                            clear A650
                            replace H := Option.bind_eq_some_iff.mp H
                            obtain ⟨⟨t489, t490⟩, A660, H⟩ := H
                            replace H : (if (t488 != t490) = true then (some false) else (if (t487 != t489) = true then (some false) else (laws_FnCodesMoved.j6 kj52 l1 t440 t441 t458 t459))) = some r := H
                            have A66 := Aside0.mk A660
                            clear A660
                            by_cases c67 : (t488 != t490) = true
                            · rw [if_pos c67] at H
                              have c67b0 : (t488 != t490) = true := c67
                              (try (have c67b1 : decide (t488 = t490) = false := by simpa using c67))
                              (try (have c67b2 : (t488 == t490) = false := by simpa using c67))
                              (try (have c67b3 : ¬ (t488 = t490) := by simpa using c67))
                              clear c67
                              (first | rw [c67b0] | (simp only [i64_w, i32_w]; rw [c67b0]) | skip)
                              obtain rfl := Option.some.inj H
                              go_wp2_with (first | ((with_reducible refine gate_callee (f := 32) rfl ?_); refine goesL_ (some 172) rfl rfl Tryd.func32 (by kernel_rfl) rfl #[.int .i64 t473, .slice Ao55 t474.length co55] rfl (by (try simp only [List.map_toArray, List.map_cons, List.map_nil]); first | done | rfl | (simp only [List.length_drop, List.length_take]; rfl)) ?_; (with_reducible refine (impl_IsRoundCode.calls kj52 t473 _ _ t474 t487 t488 _ ?side1 ?side2 A65.out ?tab_).mono ?_); (case tab_ => first | exact HTab_.out | ((repeat (first | exact HTab_.out | (with_reducible refine Tab_.drewN ?_ _) | (with_reducible refine Tab_.drew ?_) | (with_reducible refine Tab_.alloc ?_ _))); done) | (refine Tab_.below HTab_.out ?_; (repeat (first | (with_reducible first | exact HB.out | apply below_alloc | apply pw_below_drewN | apply below_drew1) | exact HB.out | exact Below.refl _ _)); done)); (case side1 => repeat (first | exact (Kd.R_reads' HO_25.out).2.2 | (with_reducible refine Kd.C_alloc ?_ _) | (with_reducible refine Kd.C_drewN ?_ _) | (with_reducible refine Kd.C_drew ?_))); (case side2 => exact (Kd.R_reads' HO_25.out).2.1); rintro e w68 ⟨rfl, hb⟩; refine ⟨_, rfl, ?_⟩; have n0_ := Aside0.mk (Kd.R_below (by (with_reducible repeat (first | apply Kd.R_alloc | apply Kd.R_drewN | apply Kd.R_drew)); exact HO_6.out) hb); have n1_ := Aside0.mk (Kd.R_below (by (with_reducible repeat (first | apply Kd.R_alloc | apply Kd.R_drewN | apply Kd.R_drew)); exact HO_25.out) hb); have n2_ := Aside0.mk (Kd.R_below (by (with_reducible repeat (first | apply Kd.R_alloc | apply Kd.R_drewN | apply Kd.R_drew)); exact HO_27.out) hb); have n3_ := Aside0.mk (below_step (by repeat (first | (with_reducible first | exact HB.out | apply below_alloc | apply pw_below_drewN | apply below_drew1) | exact HB.out | exact Below.refl _ _)) hb); clear HO_6; clear HO_25; clear HO_27; clear HB; have HO_6 := n0_; have HO_25 := n1_; have HO_27 := n2_; have HB := n3_; clear n0_ n1_ n2_ n3_; (try clear hb); (try clear hb2); (try clear hk); (try clear hi); obtain ⟨Ao69, co69, eo69⟩ := Kd.R_slice HO_27.out; subst eo69) | ((with_reducible refine gate_callee (f := 32) rfl ?_); refine goesL_ (some 178) rfl rfl Tryd.func32 (by kernel_rfl) rfl #[.int .i64 t473, .slice Ao69 t478.length co69] rfl (by (try simp only [List.map_toArray, List.map_cons, List.map_nil]); first | done | rfl | (simp only [List.length_drop, List.length_take]; rfl)) ?_; (with_reducible refine (impl_IsRoundCode.calls kj52 t473 _ _ t478 t489 t490 _ ?side1 ?side2 A66.out ?tab_).mono ?_); (case tab_ => first | exact HTab_.out | ((repeat (first | exact HTab_.out | (with_reducible refine Tab_.drewN ?_ _) | (with_reducible refine Tab_.drew ?_) | (with_reducible refine Tab_.alloc ?_ _))); done) | (refine Tab_.below HTab_.out ?_; (repeat (first | (with_reducible first | exact HB.out | apply below_alloc | apply pw_below_drewN | apply below_drew1) | exact HB.out | exact Below.refl _ _)); done)); (case side1 => repeat (first | exact (Kd.R_reads' HO_27.out).2.2 | (with_reducible refine Kd.C_alloc ?_ _) | (with_reducible refine Kd.C_drewN ?_ _) | (with_reducible refine Kd.C_drew ?_))); (case side2 => exact (Kd.R_reads' HO_27.out).2.1); rintro e w70 ⟨rfl, hb⟩; refine ⟨_, rfl, ?_⟩; have n0_ := Aside0.mk (Kd.R_below (by (with_reducible repeat (first | apply Kd.R_alloc | apply Kd.R_drewN | apply Kd.R_drew)); exact HO_6.out) hb); have n1_ := Aside0.mk (Kd.R_below (by (with_reducible repeat (first | apply Kd.R_alloc | apply Kd.R_drewN | apply Kd.R_drew)); exact HO_25.out) hb); have n2_ := Aside0.mk (Kd.R_below (by (with_reducible repeat (first | apply Kd.R_alloc | apply Kd.R_drewN | apply Kd.R_drew)); exact HO_27.out) hb); have n3_ := Aside0.mk (below_step (by repeat (first | (with_reducible first | exact HB.out | apply below_alloc | apply pw_below_drewN | apply below_drew1) | exact HB.out | exact Below.refl _ _)) hb); clear HO_6; clear HO_25; clear HO_27; clear HB; have HO_6 := n0_; have HO_25 := n1_; have HO_27 := n2_; have HB := n3_; clear n0_ n1_ n2_ n3_; (try clear hb); (try clear hb2); (try clear hk); (try clear hi)))
                              go_ret
                              exact ⟨by first | rfl | (simp [errW_none, errW_some] <;> rfl) | (simp [*, errW_none, errW_some] <;> rfl), by repeat (first | (with_reducible first | exact HB.out | apply below_alloc | apply pw_below_drewN | apply below_drew1) | exact HB.out | exact Below.refl _ _)⟩
                            · rw [if_neg c67] at H
                              have c67b0 : (t488 != t490) = false := by simpa using c67
                              (try (have c67b1 : decide (t488 = t490) = true := by simpa using c67))
                              (try (have c67b2 : (t488 == t490) = true := by simpa using c67))
                              clear c67
                              (first | rw [c67b0] | (simp only [i64_w, i32_w]; rw [c67b0]) | skip)
                              by_cases c71 : (t487 != t489) = true
                              · rw [if_pos c71] at H
                                have c71b0 : (t487 != t489) = true := c71
                                (try (have c71b1 : decide (t487 = t489) = false := by simpa using c71))
                                (try (have c71b2 : (t487 == t489) = false := by simpa using c71))
                                (try (have c71b3 : ¬ (t487 = t489) := by simpa using c71))
                                clear c71
                                obtain rfl := Option.some.inj H
                                go_wp2_with (first | ((with_reducible refine gate_callee (f := 32) rfl ?_); refine goesL_ (some 172) rfl rfl Tryd.func32 (by kernel_rfl) rfl #[.int .i64 t473, .slice Ao55 t474.length co55] rfl (by (try simp only [List.map_toArray, List.map_cons, List.map_nil]); first | done | rfl | (simp only [List.length_drop, List.length_take]; rfl)) ?_; (with_reducible refine (impl_IsRoundCode.calls kj52 t473 _ _ t474 t487 t488 _ ?side1 ?side2 A65.out ?tab_).mono ?_); (case tab_ => first | exact HTab_.out | ((repeat (first | exact HTab_.out | (with_reducible refine Tab_.drewN ?_ _) | (with_reducible refine Tab_.drew ?_) | (with_reducible refine Tab_.alloc ?_ _))); done) | (refine Tab_.below HTab_.out ?_; (repeat (first | (with_reducible first | exact HB.out | apply below_alloc | apply pw_below_drewN | apply below_drew1) | exact HB.out | exact Below.refl _ _)); done)); (case side1 => repeat (first | exact (Kd.R_reads' HO_25.out).2.2 | (with_reducible refine Kd.C_alloc ?_ _) | (with_reducible refine Kd.C_drewN ?_ _) | (with_reducible refine Kd.C_drew ?_))); (case side2 => exact (Kd.R_reads' HO_25.out).2.1); rintro e w72 ⟨rfl, hb⟩; refine ⟨_, rfl, ?_⟩; have n0_ := Aside0.mk (Kd.R_below (by (with_reducible repeat (first | apply Kd.R_alloc | apply Kd.R_drewN | apply Kd.R_drew)); exact HO_6.out) hb); have n1_ := Aside0.mk (Kd.R_below (by (with_reducible repeat (first | apply Kd.R_alloc | apply Kd.R_drewN | apply Kd.R_drew)); exact HO_25.out) hb); have n2_ := Aside0.mk (Kd.R_below (by (with_reducible repeat (first | apply Kd.R_alloc | apply Kd.R_drewN | apply Kd.R_drew)); exact HO_27.out) hb); have n3_ := Aside0.mk (below_step (by repeat (first | (with_reducible first | exact HB.out | apply below_alloc | apply pw_below_drewN | apply below_drew1) | exact HB.out | exact Below.refl _ _)) hb); clear HO_6; clear HO_25; clear HO_27; clear HB; have HO_6 := n0_; have HO_25 := n1_; have HO_27 := n2_; have HB := n3_; clear n0_ n1_ n2_ n3_; (try clear hb); (try clear hb2); (try clear hk); (try clear hi); obtain ⟨Ao73, co73, eo73⟩ := Kd.R_slice HO_27.out; subst eo73) | ((with_reducible refine gate_callee (f := 32) rfl ?_); refine goesL_ (some 178) rfl rfl Tryd.func32 (by kernel_rfl) rfl #[.int .i64 t473, .slice Ao73 t478.length co73] rfl (by (try simp only [List.map_toArray, List.map_cons, List.map_nil]); first | done | rfl | (simp only [List.length_drop, List.length_take]; rfl)) ?_; (with_reducible refine (impl_IsRoundCode.calls kj52 t473 _ _ t478 t489 t490 _ ?side1 ?side2 A66.out ?tab_).mono ?_); (case tab_ => first | exact HTab_.out | ((repeat (first | exact HTab_.out | (with_reducible refine Tab_.drewN ?_ _) | (with_reducible refine Tab_.drew ?_) | (with_reducible refine Tab_.alloc ?_ _))); done) | (refine Tab_.below HTab_.out ?_; (repeat (first | (with_reducible first | exact HB.out | apply below_alloc | apply pw_below_drewN | apply below_drew1) | exact HB.out | exact Below.refl _ _)); done)); (case side1 => repeat (first | exact (Kd.R_reads' HO_27.out).2.2 | (with_reducible refine Kd.C_alloc ?_ _) | (with_reducible refine Kd.C_drewN ?_ _) | (with_reducible refine Kd.C_drew ?_))); (case side2 => exact (Kd.R_reads' HO_27.out).2.1); rintro e w74 ⟨rfl, hb⟩; refine ⟨_, rfl, ?_⟩; have n0_ := Aside0.mk (Kd.R_below (by (with_reducible repeat (first | apply Kd.R_alloc | apply Kd.R_drewN | apply Kd.R_drew)); exact HO_6.out) hb); have n1_ := Aside0.mk (Kd.R_below (by (with_reducible repeat (first | apply Kd.R_alloc | apply Kd.R_drewN | apply Kd.R_drew)); exact HO_25.out) hb); have n2_ := Aside0.mk (Kd.R_below (by (with_reducible repeat (first | apply Kd.R_alloc | apply Kd.R_drewN | apply Kd.R_drew)); exact HO_27.out) hb); have n3_ := Aside0.mk (below_step (by repeat (first | (with_reducible first | exact HB.out | apply below_alloc | apply pw_below_drewN | apply below_drew1) | exact HB.out | exact Below.refl _ _)) hb); clear HO_6; clear HO_25; clear HO_27; clear HB; have HO_6 := n0_; have HO_25 := n1_; have HO_27 := n2_; have HB := n3_; clear n0_ n1_ n2_ n3_; (try clear hb); (try clear hb2); (try clear hk); (try clear hi)))
                                go_ret
                                exact ⟨by first | rfl | (simp [errW_none, errW_some] <;> rfl) | (simp [*, errW_none, errW_some] <;> rfl), by repeat (first | (with_reducible first | exact HB.out | apply below_alloc | apply pw_below_drewN | apply below_drew1) | exact HB.out | exact Below.refl _ _)⟩
                              · rw [if_neg c71] at H
                                have c71b0 : (t487 != t489) = false := by simpa using c71
                                (try (have c71b1 : decide (t487 = t489) = true := by simpa using c71))
                                (try (have c71b2 : (t487 == t489) = true := by simpa using c71))
                                clear c71
                                have H' := Aside0.mk H
                                clear H
                                go_wp2_with (first | ((with_reducible refine gate_callee (f := 32) rfl ?_); refine goesL_ (some 172) rfl rfl Tryd.func32 (by kernel_rfl) rfl #[.int .i64 t473, .slice Ao55 t474.length co55] rfl (by (try simp only [List.map_toArray, List.map_cons, List.map_nil]); first | done | rfl | (simp only [List.length_drop, List.length_take]; rfl)) ?_; (with_reducible refine (impl_IsRoundCode.calls kj52 t473 _ _ t474 t487 t488 _ ?side1 ?side2 A65.out ?tab_).mono ?_); (case tab_ => first | exact HTab_.out | ((repeat (first | exact HTab_.out | (with_reducible refine Tab_.drewN ?_ _) | (with_reducible refine Tab_.drew ?_) | (with_reducible refine Tab_.alloc ?_ _))); done) | (refine Tab_.below HTab_.out ?_; (repeat (first | (with_reducible first | exact HB.out | apply below_alloc | apply pw_below_drewN | apply below_drew1) | exact HB.out | exact Below.refl _ _)); done)); (case side1 => repeat (first | exact (Kd.R_reads' HO_25.out).2.2 | (with_reducible refine Kd.C_alloc ?_ _) | (with_reducible refine Kd.C_drewN ?_ _) | (with_reducible refine Kd.C_drew ?_))); (case side2 => exact (Kd.R_reads' HO_25.out).2.1); rintro e w75 ⟨rfl, hb⟩; refine ⟨_, rfl, ?_⟩; have n0_ := Aside0.mk (Kd.R_below (by (with_reducible repeat (first | apply Kd.R_alloc | apply Kd.R_drewN | apply Kd.R_drew)); exact HO_6.out) hb); have n1_ := Aside0.mk (Kd.R_below (by (with_reducible repeat (first | apply Kd.R_alloc | apply Kd.R_drewN | apply Kd.R_drew)); exact HO_25.out) hb); have n2_ := Aside0.mk (Kd.R_below (by (with_reducible repeat (first | apply Kd.R_alloc | apply Kd.R_drewN | apply Kd.R_drew)); exact HO_27.out) hb); have n3_ := Aside0.mk (below_step (by repeat (first | (with_reducible first | exact HB.out | apply below_alloc | apply pw_below_drewN | apply below_drew1) | exact HB.out | exact Below.refl _ _)) hb); clear HO_6; clear HO_25; clear HO_27; clear HB; have HO_6 := n0_; have HO_25 := n1_; have HO_27 := n2_; have HB := n3_; clear n0_ n1_ n2_ n3_; (try clear hb); (try clear hb2); (try clear hk); (try clear hi); obtain ⟨Ao76, co76, eo76⟩ := Kd.R_slice HO_27.out; subst eo76) | ((with_reducible refine gate_callee (f := 32) rfl ?_); refine goesL_ (some 178) rfl rfl Tryd.func32 (by kernel_rfl) rfl #[.int .i64 t473, .slice Ao76 t478.length co76] rfl (by (try simp only [List.map_toArray, List.map_cons, List.map_nil]); first | done | rfl | (simp only [List.length_drop, List.length_take]; rfl)) ?_; (with_reducible refine (impl_IsRoundCode.calls kj52 t473 _ _ t478 t489 t490 _ ?side1 ?side2 A66.out ?tab_).mono ?_); (case tab_ => first | exact HTab_.out | ((repeat (first | exact HTab_.out | (with_reducible refine Tab_.drewN ?_ _) | (with_reducible refine Tab_.drew ?_) | (with_reducible refine Tab_.alloc ?_ _))); done) | (refine Tab_.below HTab_.out ?_; (repeat (first | (with_reducible first | exact HB.out | apply below_alloc | apply pw_below_drewN | apply below_drew1) | exact HB.out | exact Below.refl _ _)); done)); (case side1 => repeat (first | exact (Kd.R_reads' HO_27.out).2.2 | (with_reducible refine Kd.C_alloc ?_ _) | (with_reducible refine Kd.C_drewN ?_ _) | (with_reducible refine Kd.C_drew ?_))); (case side2 => exact (Kd.R_reads' HO_27.out).2.1); rintro e w77 ⟨rfl, hb⟩; refine ⟨_, rfl, ?_⟩; have n0_ := Aside0.mk (Kd.R_below (by (with_reducible repeat (first | apply Kd.R_alloc | apply Kd.R_drewN | apply Kd.R_drew)); exact HO_6.out) hb); have n1_ := Aside0.mk (Kd.R_below (by (with_reducible repeat (first | apply Kd.R_alloc | apply Kd.R_drewN | apply Kd.R_drew)); exact HO_25.out) hb); have n2_ := Aside0.mk (Kd.R_below (by (with_reducible repeat (first | apply Kd.R_alloc | apply Kd.R_drewN | apply Kd.R_drew)); exact HO_27.out) hb); have n3_ := Aside0.mk (below_step (by repeat (first | (with_reducible first | exact HB.out | apply below_alloc | apply pw_below_drewN | apply below_drew1) | exact HB.out | exact Below.refl _ _)) hb); clear HO_6; clear HO_25; clear HO_27; clear HB; have HO_6 := n0_; have HO_25 := n1_; have HO_27 := n2_; have HB := n3_; clear n0_ n1_ n2_ n3_; (try clear hb); (try clear hb2); (try clear hk); (try clear hi)))
                                go_meet
                                case rel => exact ⟨_, H', ⟨by have := HJ7.out; have := HJ20.out; have := HJ24.out; have := HJ52.out; first | omega | exact Nat.le_refl _⟩, ⟨by (with_reducible repeat (first | apply Kd.R_alloc | apply Kd.R_drewN | apply Kd.R_drew)); exact Kd.R_mono HO_6.out (fun _ hk => trivial)⟩, ⟨by repeat (first | (with_reducible first | exact HB.out | apply below_alloc | apply pw_below_drewN | apply below_drew1) | exact HB.out | exact Below.refl _ _)⟩⟩
                          · replace c64 := Bool.eq_false_iff.mpr c64
                            subst c64
                            have H1 : (laws_FnCodesMoved.j6 kj52 l1 t440 t441 t458 t459) = some r := by rw [if_neg (show ¬ (false = true) by decide)] at H; exact H
                            clear H
                            have H := H1
                            clear H1
                            have H' := Aside0.mk H
                            clear H
                            go_wp2
                            go_meet
                            case rel => exact ⟨_, H', ⟨by have := HJ7.out; have := HJ20.out; have := HJ24.out; have := HJ52.out; first | omega | exact Nat.le_refl _⟩, ⟨by (with_reducible repeat (first | apply Kd.R_alloc | apply Kd.R_drewN | apply Kd.R_drew)); exact Kd.R_mono HO_6.out (fun _ hk => trivial)⟩, ⟨by repeat (first | (with_reducible first | exact HB.out | apply below_alloc | apply pw_below_drewN | apply below_drew1) | exact HB.out | exact Below.refl _ _)⟩⟩
                        case rest => as_aux_lemma =>
                          clear HC63
                          try clear c1
                          try clear c2
                          try clear p2
                          try clear c3
                          try clear c4
                          try clear p4
                          try clear q4
                          try clear hx4
                          try clear c5
                          try clear c6
                          try clear p6
                          try clear c7
                          try clear c14
                          try clear c14b0
                          try clear c14b1
                          try clear c14b2
                          try clear c18
                          try clear c24
                          try clear c26
                          try clear c28
                          try clear c30
                          try clear c31
                          try clear c32
                          try clear c35
                          try clear c35b0
                          try clear c35b1
                          try clear c35b2
                          try clear c39
                          try clear c41
                          try clear c41b0
                          try clear c42
                          try clear c42b0
                          try clear c43
                          try clear c43b0
                          try clear c44
                          try clear c44b0
                          try clear c45
                          try clear c45b0
                          try clear c46
                          try clear c46b0
                          try clear c47
                          try clear c47b0
                          try clear c47b1
                          try clear p47
                          try clear q47
                          try clear hx47
                          try clear c48
                          try clear c49
                          try clear c50
                          try clear c51
                          try clear c52
                          try clear c53
                          try clear c58
                          try clear c58b0
                          try clear c58b1
                          try clear c58b2
                          try clear c62
                          try clear c64
                          try clear p64
                          try clear c67
                          try clear c67b0
                          try clear c67b1
                          try clear c67b2
                          try clear c71
                          try clear c71b0
                          try clear c71b1
                          try clear c71b2
                          try clear hx470_0
                          try clear hx471_0
                          try clear hx472_0
                          try clear p2
                          try clear p4
                          try clear p47
                          try clear p470
                          try clear p471
                          try clear p472
                          try clear p6
                          try clear q4
                          try clear q47
                          try clear q470
                          try clear q471
                          try clear q472
                          obtain ⟨kq, HA, HJ62, HO_6, HB⟩ := hcut
                          cases kq with
                          | zero => exact absurd HA.out (by simp [laws_FnCodesMoved.j6])
                          | succ kj62 =>
                            have H := HA.out
                            clear HA
                            simp only [laws_FnCodesMoved.j6] at H
                            have HC78 := Aside0.mk H
                            clear H
                            go_upto_if 191 with (fail)
                            go_cut [35] (fun v35 wc => ∃ (kq : Nat) (x35_77 : Int), v35 = .int .i64 x35_77 ∧ Aside0 (laws_FnCodesMoved.j7 kq t440 t441 t458 t459 x35_77 = some r) ∧ Aside0 (kq ≤ kj62) ∧ Aside0 (Kd.R (Kd.int .i64) 3 wc w.heap.size (fun _ => True) (.slice Ao10 t441.length co10) t441) ∧ Aside0 (Below w.heap.size w wc))
                            case first =>
                              have H := HC78.out
                              clear HC78
                              by_cases c79 : (t441.length : Int) > 0
                              · rw [if_pos c79] at H
                                have c79b0 : decide (0 < (t441.length : Int)) = true := decide_eq_true c79
                                have c79b1 : decide (0 < t441.length) = true := decide_eq_true (by omega)
                                clear c79
                                (first | rw [c79b0] | (simp only [i64_w, i32_w]; rw [c79b0]) | rw [c79b1] | skip)
                                replace H := Option.bind_eq_some_iff.mp H
                                obtain ⟨t491, A800, H⟩ := H
                                replace H : (if (t441.length : Int) = 0 then (none) else (laws_FnCodesMoved.j7 kj62 t440 t441 t458 t459 (Int.tmod t491 (t441.length : Int)))) = some r := H
                                have A80 := Aside0.mk A800
                                clear A800
                                by_cases c81 : (t441.length : Int) = 0
                                · rw [if_pos c81] at H
                                  exact absurd H (by simp)
                                · rw [if_neg c81] at H
                                  have c81b0 : ((t441.length : Int) == 0) = false := beq_eq_false_iff_ne.mpr c81
                                  have c81b1 : ((t441.length : Int) != 0) = true := bne_iff_ne.mpr c81
                                  have c81b2 : ¬ (t441 = []) := fun h_ => c81 (by rw [h_]; rfl)
                                  have H' := Aside0.mk H
                                  clear H
                                  go_wp2_with (first | ((with_reducible refine gate_callee (f := 54) rfl ?_); refine goesL_ (some 193) rfl rfl Tryd.func54 (by kernel_rfl) rfl #[.slice A1 l1.length c1] rfl (by (try simp only [List.map_toArray, List.map_cons, List.map_nil]); first | done | rfl | (simp only [List.length_drop, List.length_take]; rfl)) ?_; (with_reducible refine (laws_numberOf.calls kj62 _ _ l1 t491 _ ?side1 ?side2 A80.out).mono ?_); (case side1 => repeat (first | exact (Kd.C_below HR1.out HB.out) | exact HR1.out | (with_reducible refine Kd.C_alloc ?_ _) | (with_reducible refine Kd.C_drewN ?_ _) | (with_reducible refine Kd.C_drew ?_))); (case side2 => exact HC1.out); rintro e w' ⟨rfl, ⟨nd, rfl⟩⟩; refine ⟨_, rfl, ?_⟩))
                                  go_meet
                                  case rel => exact ⟨_, (Int.tmod t491 (t441.length : Int)), (by first | rfl | (simp; done) | (simp [*]; done)), H', ⟨by have := HJ7.out; have := HJ20.out; have := HJ24.out; have := HJ52.out; have := HJ62.out; first | omega | exact Nat.le_refl _⟩, ⟨by (with_reducible repeat (first | apply Kd.R_alloc | apply Kd.R_drewN | apply Kd.R_drew)); exact HO_6.out⟩, ⟨by repeat (first | (with_reducible first | exact HB.out | apply below_alloc | apply pw_below_drewN | apply below_drew1) | exact HB.out | exact Below.refl _ _)⟩⟩
                              · rw [if_neg c79] at H
                                have c79b0 : decide (0 < (t441.length : Int)) = false := decide_eq_false c79
                                have c79b1 : decide (0 < t441.length) = false := decide_eq_false (by omega)
                                clear c79
                                (first | rw [c79b0] | (simp only [i64_w, i32_w]; rw [c79b0]) | rw [c79b1] | skip)
                                have H' := Aside0.mk H
                                clear H
                                go_wp2
                                go_meet
                                case rel => exact ⟨_, (0), (by first | rfl | (simp; done) | (simp [*]; done)), H', ⟨by have := HJ7.out; have := HJ20.out; have := HJ24.out; have := HJ52.out; have := HJ62.out; first | omega | exact Nat.le_refl _⟩, ⟨by (with_reducible repeat (first | apply Kd.R_alloc | apply Kd.R_drewN | apply Kd.R_drew)); exact HO_6.out⟩, ⟨by repeat (first | (with_reducible first | exact HB.out | apply below_alloc | apply pw_below_drewN | apply below_drew1) | exact HB.out | exact Below.refl _ _)⟩⟩
                            case rest => as_aux_lemma =>
                              clear HC78
                              try clear c1
                              try clear c2
                              try clear p2
                              try clear c3
                              try clear c4
                              try clear p4
                              try clear q4
                              try clear hx4
                              try clear c5
                              try clear c6
                              try clear p6
                              try clear c7
                              try clear c8
                              try clear c14
                              try clear c14b0
                              try clear c14b1
                              try clear c14b2
                              try clear c18
                              try clear c24
                              try clear c26
                              try clear c28
                              try clear c30
                              try clear c31
                              try clear c32
                              try clear c35
                              try clear c35b0
                              try clear c35b1
                              try clear c35b2
                              try clear c39
                              try clear c41
                              try clear c41b0
                              try clear c42
                              try clear c42b0
                              try clear c43
                              try clear c43b0
                              try clear c44
                              try clear c44b0
                              try clear c45
                              try clear c45b0
                              try clear c46
                              try clear c46b0
                              try clear c47
                              try clear c47b0
                              try clear c47b1
                              try clear p47
                              try clear q47
                              try clear hx47
                              try clear c48
                              try clear c49
                              try clear c50
                              try clear c51
                              try clear c52
                              try clear c53
                              try clear c54
                              try clear c58
                              try clear c58b0
                              try clear c58b1
                              try clear c58b2
                              try clear c62
                              try clear c64
                              try clear p64
                              try clear c67
                              try clear c67b0
                              try clear c67b1
                              try clear c67b2
                              try clear c71
                              try clear c71b0
                              try clear c71b1
                              try clear c71b2
                              try clear c79
                              try clear c79b0
                              try clear c79b1
                              try clear c81
                              try clear c81b0
                              try clear c81b1
                              try clear c81b2
                              try clear hx470_0
                              try clear hx471_0
                              try clear hx472_0
                              try clear p2
                              try clear p4
                              try clear p47
                              try clear p470
                              try clear p471
                              try clear p472
                              try clear p6
                              try clear p64
                              try clear q4
                              try clear q47
                              try clear q470
                              try clear q471
                              try clear q472
                              obtain ⟨kq, x35_77, rfl, HA, HJ77, HO_6, HB⟩ := hcut
                              cases kq with
                              | zero => exact absurd HA.out (by simp [laws_FnCodesMoved.j7])
                              | succ kj77 =>
                                have H := HA.out
                                clear HA
                                simp only [laws_FnCodesMoved.j7] at H
                                replace H := Option.bind_eq_some_iff.mp H
                                obtain ⟨⟨t492, t495⟩, A820, H⟩ := H
                                replace H : ((spec_TurnList.f kj77 t440 t441 x35_77).bind fun bt496 => (if (t495 != bt496.2) = true then (laws_FnCodesMoved.j8 kj77 t440 t441 t458 t459 t492 t495 true) else ((laws_uSame.f kj77 t492 bt496.1).bind fun t500 => (laws_FnCodesMoved.j8 kj77 t440 t441 t458 t459 t492 t495 (!t500))))) = some r := H
                                have A82 := Aside0.mk A820
                                clear A820
                                replace H := Option.bind_eq_some_iff.mp H
                                obtain ⟨⟨t496, t497⟩, A830, H⟩ := H
                                replace H : (if (t495 != t497) = true then (laws_FnCodesMoved.j8 kj77 t440 t441 t458 t459 t492 t495 true) else ((laws_uSame.f kj77 t492 t496).bind fun t500 => (laws_FnCodesMoved.j8 kj77 t440 t441 t458 t459 t492 t495 (!t500)))) = some r := H
                                have A83 := Aside0.mk A830
                                clear A830
                                have HC84 := Aside0.mk H
                                clear H
                                go_upto_region 39 with (first | ((with_reducible refine gate_callee (f := 55) rfl ?_); refine goesL_ (some 201) rfl rfl Tryd.func55 (by kernel_rfl) rfl #[.int .i64 t440, .slice Ao10 t441.length co10, .int .i64 x35_77] rfl (by (try simp only [List.map_toArray, List.map_cons, List.map_nil]); first | done | rfl | (simp only [List.length_drop, List.length_take]; rfl)) ?_; (with_reducible refine (impl_TurnList.calls kj77 t440 (fun k_ => some k_ = (.slice Ao10 t441.length co10 : Value).ownBlock) _ _ t441 x35_77 t492 t495 _ ?side1 A82.out).mono ?_); (case side1 => exact Kd.R_V (Kd.R_tight rfl (HO_6.out))); rintro e w85 ⟨v493, rfl, ho0, hb⟩; refine ⟨_, rfl, ?_⟩; have n0_ := Aside0.mk (Kd.R_elder' (by (with_reducible repeat (first | apply Kd.R_alloc | apply Kd.R_drewN | apply Kd.R_drew)); exact HO_6.out) (Kd.R_base ho0) hb); have n1_ := Aside0.mk (Kd.R_lower (Kd.R_new' (Kd.R_mono (ok' := fun k_ => True) ho0 (fun _ hk_ => trivial)) (Kd.R_lt (by (with_reducible repeat (first | apply Kd.R_alloc | apply Kd.R_drewN | apply Kd.R_drew)); exact HO_6.out))) (below_size (by repeat (first | (with_reducible first | exact HB.out | apply below_alloc | apply pw_below_drewN | apply below_drew1) | exact HB.out | exact Below.refl _ _)))); have n2_ := Aside0.mk (below_step (by repeat (first | (with_reducible first | exact HB.out | apply below_alloc | apply pw_below_drewN | apply below_drew1) | exact HB.out | exact Below.refl _ _)) hb); clear HO_6; clear HB; have HO_6 := n0_; have HO494 := n1_; have HB := n2_; clear n0_ n1_ n2_; (try clear hb); (try clear hb2); (try clear hk); (try clear hi); (try clear ho0)) | ((with_reducible refine gate_callee (f := 56) rfl ?_); refine goesL_ (some 208) rfl rfl Tryd.func56 (by kernel_rfl) rfl #[.int .i64 t440, .slice Ao10 t441.length co10, .int .i64 x35_77] rfl (by (try simp only [List.map_toArray, List.map_cons, List.map_nil]); first | done | rfl | (simp only [List.length_drop, List.length_take]; rfl)) ?_; (with_reducible refine (spec_TurnList.calls kj77 t440 _ _ t441 x35_77 t496 t497 _ ?side1 ?side2 A83.out).mono ?_); (case side1 => repeat (first | exact (Kd.R_reads' HO_6.out).2.2 | (with_reducible refine Kd.C_alloc ?_ _) | (with_reducible refine Kd.C_drewN ?_ _) | (with_reducible refine Kd.C_drew ?_))); (case side2 => exact (Kd.R_reads' HO_6.out).2.1); rintro e w86 ⟨v498, rfl, ho0, hb⟩; refine ⟨_, rfl, ?_⟩; have n0_ := Aside0.mk (Kd.R_elder' (by (with_reducible repeat (first | apply Kd.R_alloc | apply Kd.R_drewN | apply Kd.R_drew)); exact HO_6.out) (Kd.R_base ho0) hb); have n1_ := Aside0.mk (Kd.R_elder' (by (with_reducible repeat (first | apply Kd.R_alloc | apply Kd.R_drewN | apply Kd.R_drew)); exact HO494.out) (Kd.R_base ho0) hb); have n2_ := Aside0.mk (Kd.R_lower (Kd.R_new' (Kd.R_new' ho0 (Kd.R_lt (by (with_reducible repeat (first | apply Kd.R_alloc | apply Kd.R_drewN | apply Kd.R_drew)); exact HO_6.out))) (Kd.R_lt (by (with_reducible repeat (first | apply Kd.R_alloc | apply Kd.R_drewN | apply Kd.R_drew)); exact HO494.out))) (below_size (by repeat (first | (with_reducible first | exact HB.out | apply below_alloc | apply pw_below_drewN | apply below_drew1) | exact HB.out | exact Below.refl _ _)))); have n3_ := Aside0.mk (below_step (by repeat (first | (with_reducible first | exact HB.out | apply below_alloc | apply pw_below_drewN | apply below_drew1) | exact HB.out | exact Below.refl _ _)) hb); clear HO_6; clear HO494; clear HB; have HO_6 := n0_; have HO494 := n1_; have HO499 := n2_; have HB := n3_; clear n0_ n1_ n2_ n3_; (try clear hb); (try clear hb2); (try clear hk); (try clear hi); (try clear ho0)))
                                (try simp only [Act.put, List.setIfInBounds_toArray, List.set_cons_zero, List.set_cons_succ])
                                go_cut [219] (fun v219 wc => ∃ (kq : Nat) (x219_83 : Bool), v219 = .bool x219_83 ∧ Aside0 (laws_FnCodesMoved.j8 kq t440 t441 t458 t459 t492 t495 x219_83 = some r) ∧ Aside0 (kq ≤ kj77) ∧ Aside0 (Kd.R (Kd.int .i64) 3 wc w.heap.size (fun k_ => some k_ ≠ (v493 : Value).ownBlock) (.slice Ao10 t441.length co10) t441) ∧ Aside0 (Kd.R (Kd.int .i64) 3 wc w.heap.size (fun k_ => some k_ ≠ ((.slice Ao10 t441.length co10) : Value).ownBlock) v493 t492) ∧ Aside0 (Below w.heap.size w wc))
                                case first =>
                                  have H := HC84.out
                                  clear HC84
                                  by_cases c87 : (t495 != t497) = true
                                  · rw [if_pos c87] at H
                                    have c87b0 : (t495 != t497) = true := c87
                                    (try (have c87b1 : decide (t495 = t497) = false := by simpa using c87))
                                    (try (have c87b2 : (t495 == t497) = false := by simpa using c87))
                                    (try (have c87b3 : ¬ (t495 = t497) := by simpa using c87))
                                    clear c87
                                    (first | rw [c87b0] | (simp only [i64_w, i32_w]; rw [c87b0]) | skip)
                                    have H' := Aside0.mk H
                                    clear H
                                    go_wp2
                                    go_meet
                                    case rel => exact ⟨_, (true), (by first | rfl | (simp; done) | (simp [*]; done)), H', ⟨by have := HJ7.out; have := HJ20.out; have := HJ24.out; have := HJ52.out; have := HJ62.out; have := HJ77.out; first | omega | exact Nat.le_refl _⟩, ⟨by (with_reducible repeat (first | apply Kd.R_alloc | apply Kd.R_drewN | apply Kd.R_drew)); exact Kd.R_mono HO_6.out (fun _ hk => hk.1.2)⟩, ⟨by (with_reducible repeat (first | apply Kd.R_alloc | apply Kd.R_drewN | apply Kd.R_drew)); exact Kd.R_mono HO494.out (fun _ hk => hk.1.2)⟩, ⟨by repeat (first | (with_reducible first | exact HB.out | apply below_alloc | apply pw_below_drewN | apply below_drew1) | exact HB.out | exact Below.refl _ _)⟩⟩
                                  · rw [if_neg c87] at H
                                    have c87b0 : (t495 != t497) = false := by simpa using c87
                                    (try (have c87b1 : decide (t495 = t497) = true := by simpa using c87))
                                    (try (have c87b2 : (t495 == t497) = true := by simpa using c87))
                                    clear c87
                                    (first | rw [c87b0] | (simp only [i64_w, i32_w]; rw [c87b0]) | skip)
                                    replace H := Option.bind_eq_some_iff.mp H
                                    obtain ⟨t500, A880, H⟩ := H
                                    replace H : (laws_FnCodesMoved.j8 kj77 t440 t441 t458 t459 t492 t495 (!t500)) = some r := H
                                    have A88 := Aside0.mk A880
                                    clear A880
                                    have H' := Aside0.mk H
                                    clear H
                                    obtain ⟨Ao89, co89, eo89⟩ := Kd.R_slice HO494.out
                                    subst eo89
                                    obtain ⟨Ao90, co90, eo90⟩ := Kd.R_slice HO499.out
                                    subst eo90
                                    go_wp2_with (first | (go_at_call 41; (with_reducible refine (laws_uSame.calls kj77 _ _ t492 _ _ t496 t500 _ ?side1 ?side2 ?side3 ?side4 A88.out).mono ?_); (case side1 => repeat (first | exact (Kd.R_reads' HO494.out).2.2 | (with_reducible refine Kd.C_alloc ?_ _) | (with_reducible refine Kd.C_drewN ?_ _) | (with_reducible refine Kd.C_drew ?_))); (case side2 => exact (Kd.R_reads' HO494.out).2.1); (case side3 => repeat (first | exact (Kd.R_reads' HO499.out).2.2 | (with_reducible refine Kd.C_alloc ?_ _) | (with_reducible refine Kd.C_drewN ?_ _) | (with_reducible refine Kd.C_drew ?_))); (case side4 => exact (Kd.R_reads' HO499.out).2.1); rintro e w' ⟨rfl, ⟨nd, rfl⟩⟩))
                                    go_meet
                                    case rel => exact ⟨_, (!t500), (by first | rfl | (simp; done) | (simp [*]; done)), H', ⟨by have := HJ7.out; have := HJ20.out; have := HJ24.out; have := HJ52.out; have := HJ62.out; have := HJ77.out; first | omega | exact Nat.le_refl _⟩, ⟨by (with_reducible repeat (first | apply Kd.R_alloc | apply Kd.R_drewN | apply Kd.R_drew)); exact Kd.R_mono HO_6.out (fun _ hk => hk.1.2)⟩, ⟨by (with_reducible repeat (first | apply Kd.R_alloc | apply Kd.R_drewN | apply Kd.R_drew)); exact Kd.R_mono HO494.out (fun _ hk => hk.1.2)⟩, ⟨by repeat (first | (with_reducible first | exact HB.out | apply below_alloc | apply pw_below_drewN | apply below_drew1) | exact HB.out | exact Below.refl _ _)⟩⟩
                                case rest => as_aux_lemma =>
                                  clear HC84
                                  try clear c1
                                  try clear c2
                                  try clear p2
                                  try clear c3
                                  try clear c4
                                  try clear p4
                                  try clear q4
                                  try clear hx4
                                  try clear c5
                                  try clear c6
                                  try clear p6
                                  try clear c7
                                  try clear c8
                                  try clear c14
                                  try clear c14b0
                                  try clear c14b1
                                  try clear c14b2
                                  try clear c18
                                  try clear c24
                                  try clear c26
                                  try clear c28
                                  try clear c30
                                  try clear c31
                                  try clear c32
                                  try clear c35
                                  try clear c35b0
                                  try clear c35b1
                                  try clear c35b2
                                  try clear c39
                                  try clear c41
                                  try clear c41b0
                                  try clear c42
                                  try clear c42b0
                                  try clear c43
                                  try clear c43b0
                                  try clear c44
                                  try clear c44b0
                                  try clear c45
                                  try clear c45b0
                                  try clear c46
                                  try clear c46b0
                                  try clear c47
                                  try clear c47b0
                                  try clear c47b1
                                  try clear p47
                                  try clear q47
                                  try clear hx47
                                  try clear c48
                                  try clear c49
                                  try clear c50
                                  try clear c51
                                  try clear c52
                                  try clear c53
                                  try clear c54
                                  try clear c55
                                  try clear c56
                                  try clear c58
                                  try clear c58b0
                                  try clear c58b1
                                  try clear c58b2
                                  try clear c62
                                  try clear c64
                                  try clear p64
                                  try clear c67
                                  try clear c67b0
                                  try clear c67b1
                                  try clear c67b2
                                  try clear c71
                                  try clear c71b0
                                  try clear c71b1
                                  try clear c71b2
                                  try clear c79
                                  try clear c79b0
                                  try clear c79b1
                                  try clear c81
                                  try clear c81b0
                                  try clear c81b1
                                  try clear c81b2
                                  try clear c87
                                  try clear c87b0
                                  try clear c87b1
                                  try clear c87b2
                                  try clear hx470_0
                                  try clear hx471_0
                                  try clear hx472_0
                                  try clear p2
                                  try clear p4
                                  try clear p47
                                  try clear p470
                                  try clear p471
                                  try clear p472
                                  try clear p6
                                  try clear p64
                                  try clear q4
                                  try clear q47
                                  try clear q470
                                  try clear q471
                                  try clear q472
                                  obtain ⟨kq, x219_83, rfl, HA, HJ83, HO_6, HO_36, HB⟩ := hcut
                                  cases kq with
                                  | zero => exact absurd HA.out (by simp [laws_FnCodesMoved.j8])
                                  | succ kj83 =>
                                    have H := HA.out
                                    clear HA
                                    simp only [laws_FnCodesMoved.j8] at H
                                    by_cases c91 : x219_83 = true
                                    · subst c91
                                      have H1 : (some false) = some r := by rw [if_pos rfl] at H; exact H
                                      clear H
                                      have H := H1
                                      clear H1
                                      obtain rfl := Option.some.inj H
                                      go_wp2
                                      go_ret
                                      exact ⟨by first | rfl | (simp [errW_none, errW_some] <;> rfl) | (simp [*, errW_none, errW_some] <;> rfl), by repeat (first | (with_reducible first | exact HB.out | apply below_alloc | apply pw_below_drewN | apply below_drew1) | exact HB.out | exact Below.refl _ _)⟩
                                    · replace c91 := Bool.eq_false_iff.mpr c91
                                      subst c91
                                      have H1 : (if t495 = true then (if t459 = true then (laws_FnCodesMoved.j9 kj83 t440 t441 t492 t458) else (laws_FnCodesMoved.j9 kj83 t440 t441 t492 false)) else (laws_FnCodesMoved.j9 kj83 t440 t441 t492 false)) = some r := by rw [if_neg (show ¬ (false = true) by decide)] at H; exact H
                                      clear H
                                      have H := H1
                                      clear H1
                                      have HC92 := Aside0.mk H
                                      clear H
                                      go_upto_region 41 with (fail)
                                      go_cut [226] (fun v226 wc => ∃ (kq : Nat) (x226_91 : Bool), v226 = .bool x226_91 ∧ Aside0 (laws_FnCodesMoved.j9 kq t440 t441 t492 x226_91 = some r) ∧ Aside0 (kq ≤ kj83) ∧ Aside0 (Kd.R (Kd.int .i64) 3 wc w.heap.size (fun k_ => some k_ ≠ (v493 : Value).ownBlock) (.slice Ao10 t441.length co10) t441) ∧ Aside0 (Kd.R (Kd.int .i64) 3 wc w.heap.size (fun k_ => some k_ ≠ ((.slice Ao10 t441.length co10) : Value).ownBlock) v493 t492) ∧ Aside0 (Below w.heap.size w wc))
                                      case first =>
                                        have H := HC92.out
                                        clear HC92
                                        by_cases c93 : t495 = true
                                        · subst c93
                                          have H1 : (if t459 = true then (laws_FnCodesMoved.j9 kj83 t440 t441 t492 t458) else (laws_FnCodesMoved.j9 kj83 t440 t441 t492 false)) = some r := by rw [if_pos rfl] at H; exact H
                                          clear H
                                          have H := H1
                                          clear H1
                                          by_cases c94 : t459 = true
                                          · subst c94
                                            have H1 : (laws_FnCodesMoved.j9 kj83 t440 t441 t492 t458) = some r := by rw [if_pos rfl] at H; exact H
                                            clear H
                                            have H := H1
                                            clear H1
                                            have H' := Aside0.mk H
                                            clear H
                                            go_wp2
                                            go_meet
                                            case rel => exact ⟨_, (t458), (by first | rfl | (simp; done) | (simp [*]; done)), H', ⟨by have := HJ7.out; have := HJ20.out; have := HJ24.out; have := HJ52.out; have := HJ62.out; have := HJ77.out; have := HJ83.out; first | omega | exact Nat.le_refl _⟩, ⟨by (with_reducible repeat (first | apply Kd.R_alloc | apply Kd.R_drewN | apply Kd.R_drew)); exact HO_6.out⟩, ⟨by (with_reducible repeat (first | apply Kd.R_alloc | apply Kd.R_drewN | apply Kd.R_drew)); exact HO_36.out⟩, ⟨by repeat (first | (with_reducible first | exact HB.out | apply below_alloc | apply pw_below_drewN | apply below_drew1) | exact HB.out | exact Below.refl _ _)⟩⟩
                                          · replace c94 := Bool.eq_false_iff.mpr c94
                                            subst c94
                                            have H1 : (laws_FnCodesMoved.j9 kj83 t440 t441 t492 false) = some r := by rw [if_neg (show ¬ (false = true) by decide)] at H; exact H
                                            clear H
                                            have H := H1
                                            clear H1
                                            have H' := Aside0.mk H
                                            clear H
                                            go_wp2
                                            go_meet
                                            case rel => exact ⟨_, (false), (by first | rfl | (simp; done) | (simp [*]; done)), H', ⟨by have := HJ7.out; have := HJ20.out; have := HJ24.out; have := HJ52.out; have := HJ62.out; have := HJ77.out; have := HJ83.out; first | omega | exact Nat.le_refl _⟩, ⟨by (with_reducible repeat (first | apply Kd.R_alloc | apply Kd.R_drewN | apply Kd.R_drew)); exact HO_6.out⟩, ⟨by (with_reducible repeat (first | apply Kd.R_alloc | apply Kd.R_drewN | apply Kd.R_drew)); exact HO_36.out⟩, ⟨by repeat (first | (with_reducible first | exact HB.out | apply below_alloc | apply pw_below_drewN | apply below_drew1) | exact HB.out | exact Below.refl _ _)⟩⟩
                                        · replace c93 := Bool.eq_false_iff.mpr c93
                                          subst c93
                                          have H1 : (laws_FnCodesMoved.j9 kj83 t440 t441 t492 false) = some r := by rw [if_neg (show ¬ (false = true) by decide)] at H; exact H
                                          clear H
                                          have H := H1
                                          clear H1
                                          have H' := Aside0.mk H
                                          clear H
                                          go_wp2
                                          go_meet
                                          case rel => exact ⟨_, (false), (by first | rfl | (simp; done) | (simp [*]; done)), H', ⟨by have := HJ7.out; have := HJ20.out; have := HJ24.out; have := HJ52.out; have := HJ62.out; have := HJ77.out; have := HJ83.out; first | omega | exact Nat.le_refl _⟩, ⟨by (with_reducible repeat (first | apply Kd.R_alloc | apply Kd.R_drewN | apply Kd.R_drew)); exact HO_6.out⟩, ⟨by (with_reducible repeat (first | apply Kd.R_alloc | apply Kd.R_drewN | apply Kd.R_drew)); exact HO_36.out⟩, ⟨by repeat (first | (with_reducible first | exact HB.out | apply below_alloc | apply pw_below_drewN | apply below_drew1) | exact HB.out | exact Below.refl _ _)⟩⟩
                                      case rest => as_aux_lemma =>
                                        clear HC92
                                        try clear c1
                                        try clear c2
                                        try clear p2
                                        try clear c3
                                        try clear c4
                                        try clear p4
                                        try clear q4
                                        try clear hx4
                                        try clear c5
                                        try clear c6
                                        try clear p6
                                        try clear c7
                                        try clear c8
                                        try clear c9
                                        try clear c14
                                        try clear c14b0
                                        try clear c14b1
                                        try clear c14b2
                                        try clear c18
                                        try clear c24
                                        try clear c26
                                        try clear c28
                                        try clear c30
                                        try clear c31
                                        try clear c32
                                        try clear c35
                                        try clear c35b0
                                        try clear c35b1
                                        try clear c35b2
                                        try clear c39
                                        try clear c41
                                        try clear c41b0
                                        try clear c42
                                        try clear c42b0
                                        try clear c43
                                        try clear c43b0
                                        try clear c44
                                        try clear c44b0
                                        try clear c45
                                        try clear c45b0
                                        try clear c46
                                        try clear c46b0
                                        try clear c47
                                        try clear c47b0
                                        try clear c47b1
                                        try clear p47
                                        try clear q47
                                        try clear hx47
                                        try clear c48
                                        try clear c49
                                        try clear c50
                                        try clear c51
                                        try clear c52
                                        try clear c53
                                        try clear c54
                                        try clear c55
                                        try clear c56
                                        try clear c58
                                        try clear c58b0
                                        try clear c58b1
                                        try clear c58b2
                                        try clear c62
                                        try clear c64
                                        try clear p64
                                        try clear c67
                                        try clear c67b0
                                        try clear c67b1
                                        try clear c67b2
                                        try clear c71
                                        try clear c71b0
                                        try clear c71b1
                                        try clear c71b2
                                        try clear c79
                                        try clear c79b0
                                        try clear c79b1
                                        try clear c81
                                        try clear c81b0
                                        try clear c81b1
                                        try clear c81b2
                                        try clear c87
                                        try clear c87b0
                                        try clear c87b1
                                        try clear c87b2
                                        try clear c91
                                        try clear c93
                                        try clear c94
                                        try clear hx470_0
                                        try clear hx471_0
                                        try clear hx472_0
                                        try clear p2
                                        try clear p4
                                        try clear p47
                                        try clear p470
                                        try clear p471
                                        try clear p472
                                        try clear p6
                                        try clear p64
                                        try clear q4
                                        try clear q47
                                        try clear q470
                                        try clear q471
                                        try clear q472
                                        obtain ⟨kq, x226_91, rfl, HA, HJ91, HO_6, HO_36, HB⟩ := hcut
                                        cases kq with
                                        | zero => exact absurd HA.out (by simp [laws_FnCodesMoved.j9])
                                        | succ kj91 =>
                                          have H := HA.out
                                          clear HA
                                          simp only [laws_FnCodesMoved.j9] at H
                                          by_cases c95 : x226_91 = true
                                          · subst c95
                                            have H1 : ((impl_IsRoundCode.f kj91 t440 t492).bind fun bt501 => ((impl_IsEvenlyChanged.f kj91 t440 t441).bind fun bt503 => ((impl_IsEvenlyChanged.f kj91 t440 t492).bind fun bt505 => (if bt501.2 = true then (if bt501.1 = true then (if bt503.2 = true then (if bt505.2 = true then (some (bt503.1 == bt505.1)) else (some false)) else (some false)) else (some false)) else (some false))))) = some r := by rw [if_pos rfl] at H; exact H
                                            clear H
                                            have H := H1
                                            clear H1
                                            replace H := Option.bind_eq_some_iff.mp H
                                            obtain ⟨⟨t501, t502⟩, A960, H⟩ := H
                                            replace H : ((impl_IsEvenlyChanged.f kj91 t440 t441).bind fun bt503 => ((impl_IsEvenlyChanged.f kj91 t440 t492).bind fun bt505 => (if t502 = true then (if t501 = true then (if bt503.2 = true then (if bt505.2 = true then (some (bt503.1 == bt505.1)) else (some false)) else (some false)) else (some false)) else (some false)))) = some r := H
                                            have A96 := Aside0.mk A960
                                            clear A960
                                            replace H := Option.bind_eq_some_iff.mp H
                                            obtain ⟨⟨t503, t504⟩, A970, H⟩ := H
                                            replace H : ((impl_IsEvenlyChanged.f kj91 t440 t492).bind fun bt505 => (if t502 = true then (if t501 = true then (if t504 = true then (if bt505.2 = true then (some (t503 == bt505.1)) else (some false)) else (some false)) else (some false)) else (some false))) = some r := H
                                            have A97 := Aside0.mk A970
                                            clear A970
                                            replace H := Option.bind_eq_some_iff.mp H
                                            obtain ⟨⟨t505, t506⟩, A980, H⟩ := H
                                            replace H : (if t502 = true then (if t501 = true then (if t504 = true then (if t506 = true then (some (t503 == t505)) else (some false)) else (some false)) else (some false)) else (some false)) = some r := H
                                            have A98 := Aside0.mk A980
                                            clear A980
                                            by_cases c99 : t502 = true
                                            · subst c99
                                              have H1 : (if t501 = true then (if t504 = true then (if t506 = true then (some (t503 == t505)) else (some false)) else (some false)) else (some false)) = some r := by rw [if_pos rfl] at H; exact H
                                              clear H
                                              have H := H1
                                              clear H1
                                              by_cases c100 : t501 = true
                                              · subst c100
                                                have H1 : (if t504 = true then (if t506 = true then (some (t503 == t505)) else (some false)) else (some false)) = some r := by rw [if_pos rfl] at H; exact H
                                                clear H
                                                have H := H1
                                                clear H1
                                                by_cases c101 : t504 = true
                                                · subst c101
                                                  have H1 : (if t506 = true then (some (t503 == t505)) else (some false)) = some r := by rw [if_pos rfl] at H; exact H
                                                  clear H
                                                  have H := H1
                                                  clear H1
                                                  by_cases c102 : t506 = true
                                                  · subst c102
                                                    have H1 : (some (t503 == t505)) = some r := by rw [if_pos rfl] at H; exact H
                                                    clear H
                                                    have H := H1
                                                    clear H1
                                                    obtain rfl := Option.some.inj H
                                                    obtain ⟨Ao103, co103, eo103⟩ := Kd.R_slice HO_36.out
                                                    subst eo103
                                                    go_wp2_with (first | ((with_reducible refine gate_callee (f := 32) rfl ?_); refine goesL_ (some 230) rfl rfl Tryd.func32 (by kernel_rfl) rfl #[.int .i64 t440, .slice Ao103 t492.length co103] rfl (by (try simp only [List.map_toArray, List.map_cons, List.map_nil]); first | done | rfl | (simp only [List.length_drop, List.length_take]; rfl)) ?_; (with_reducible refine (impl_IsRoundCode.calls kj91 t440 _ _ t492 true true _ ?side1 ?side2 A96.out ?tab_).mono ?_); (case tab_ => first | exact HTab_.out | ((repeat (first | exact HTab_.out | (with_reducible refine Tab_.drewN ?_ _) | (with_reducible refine Tab_.drew ?_) | (with_reducible refine Tab_.alloc ?_ _))); done) | (refine Tab_.below HTab_.out ?_; (repeat (first | (with_reducible first | exact HB.out | apply below_alloc | apply pw_below_drewN | apply below_drew1) | exact HB.out | exact Below.refl _ _)); done)); (case side1 => repeat (first | exact (Kd.R_reads' HO_36.out).2.2 | (with_reducible refine Kd.C_alloc ?_ _) | (with_reducible refine Kd.C_drewN ?_ _) | (with_reducible refine Kd.C_drew ?_))); (case side2 => exact (Kd.R_reads' HO_36.out).2.1); rintro e w104 ⟨rfl, hb⟩; refine ⟨_, rfl, ?_⟩; have n0_ := Aside0.mk (Kd.R_below (by (with_reducible repeat (first | apply Kd.R_alloc | apply Kd.R_drewN | apply Kd.R_drew)); exact HO_6.out) hb); have n1_ := Aside0.mk (Kd.R_below (by (with_reducible repeat (first | apply Kd.R_alloc | apply Kd.R_drewN | apply Kd.R_drew)); exact HO_36.out) hb); have n2_ := Aside0.mk (below_step (by repeat (first | (with_reducible first | exact HB.out | apply below_alloc | apply pw_below_drewN | apply below_drew1) | exact HB.out | exact Below.refl _ _)) hb); clear HO_6; clear HO_36; clear HB; have HO_6 := n0_; have HO_36 := n1_; have HB := n2_; clear n0_ n1_ n2_; (try clear hb); (try clear hb2); (try clear hk); (try clear hi)) | ((with_reducible refine gate_callee (f := 36) rfl ?_); refine goesL_ (some 236) rfl rfl Tryd.func36 (by kernel_rfl) rfl #[.int .i64 t440, .slice Ao10 t441.length co10] rfl (by (try simp only [List.map_toArray, List.map_cons, List.map_nil]); first | done | rfl | (simp only [List.length_drop, List.length_take]; rfl)) ?_; (with_reducible refine (impl_IsEvenlyChanged.calls kj91 t440 _ _ t441 t503 true _ ?side1 ?side2 A97.out ?tab_).mono ?_); (case tab_ => first | exact HTab_.out | ((repeat (first | exact HTab_.out | (with_reducible refine Tab_.drewN ?_ _) | (with_reducible refine Tab_.drew ?_) | (with_reducible refine Tab_.alloc ?_ _))); done) | (refine Tab_.below HTab_.out ?_; (repeat (first | (with_reducible first | exact HB.out | apply below_alloc | apply pw_below_drewN | apply below_drew1) | exact HB.out | exact Below.refl _ _)); done)); (case side1 => repeat (first | exact (Kd.R_reads' HO_6.out).2.2 | (with_reducible refine Kd.C_alloc ?_ _) | (with_reducible refine Kd.C_drewN ?_ _) | (with_reducible refine Kd.C_drew ?_))); (case side2 => exact (Kd.R_reads' HO_6.out).2.1); rintro e w105 ⟨rfl, hb⟩; refine ⟨_, rfl, ?_⟩; have n0_ := Aside0.mk (Kd.R_below (by (with_reducible repeat (first | apply Kd.R_alloc | apply Kd.R_drewN | apply Kd.R_drew)); exact HO_6.out) hb); have n1_ := Aside0.mk (Kd.R_below (by (with_reducible repeat (first | apply Kd.R_alloc | apply Kd.R_drewN | apply Kd.R_drew)); exact HO_36.out) hb); have n2_ := Aside0.mk (below_step (by repeat (first | (with_reducible first | exact HB.out | apply below_alloc | apply pw_below_drewN | apply below_drew1) | exact HB.out | exact Below.refl _ _)) hb); clear HO_6; clear HO_36; clear HB; have HO_6 := n0_; have HO_36 := n1_; have HB := n2_; clear n0_ n1_ n2_; (try clear hb); (try clear hb2); (try clear hk); (try clear hi)) | ((with_reducible refine gate_callee (f := 36) rfl ?_); refine goesL_ (some 242) rfl rfl Tryd.func36 (by kernel_rfl) rfl #[.int .i64 t440, .slice Ao103 t492.length co103] rfl (by (try simp only [List.map_toArray, List.map_cons, List.map_nil]); first | done | rfl | (simp only [List.length_drop, List.length_take]; rfl)) ?_; (with_reducible refine (impl_IsEvenlyChanged.calls kj91 t440 _ _ t492 t505 true _ ?side1 ?side2 A98.out ?tab_).mono ?_); (case tab_ => first | exact HTab_.out | ((repeat (first | exact HTab_.out | (with_reducible refine Tab_.drewN ?_ _) | (with_reducible refine Tab_.drew ?_) | (with_reducible refine Tab_.alloc ?_ _))); done) | (refine Tab_.below HTab_.out ?_; (repeat (first | (with_reducible first | exact HB.out | apply below_alloc | apply pw_below_drewN | apply below_drew1) | exact HB.out | exact Below.refl _ _)); done)); (case side1 => repeat (first | exact (Kd.R_reads' HO_36.out).2.2 | (with_reducible refine Kd.C_alloc ?_ _) | (with_reducible refine Kd.C_drewN ?_ _) | (with_reducible refine Kd.C_drew ?_))); (case side2 => exact (Kd.R_reads' HO_36.out).2.1); rintro e w106 ⟨rfl, hb⟩; refine ⟨_, rfl, ?_⟩; have n0_ := Aside0.mk (Kd.R_below (by (with_reducible repeat (first | apply Kd.R_alloc | apply Kd.R_drewN | apply Kd.R_drew)); exact HO_6.out) hb); have n1_ := Aside0.mk (Kd.R_below (by (with_reducible repeat (first | apply Kd.R_alloc | apply Kd.R_drewN | apply Kd.R_drew)); exact HO_36.out) hb); have n2_ := Aside0.mk (below_step (by repeat (first | (with_reducible first | exact HB.out | apply below_alloc | apply pw_below_drewN | apply below_drew1) | exact HB.out | exact Below.refl _ _)) hb); clear HO_6; clear HO_36; clear HB; have HO_6 := n0_; have HO_36 := n1_; have HB := n2_; clear n0_ n1_ n2_; (try clear hb); (try clear hb2); (try clear hk); (try clear hi)))
                                                    go_ret
                                                    exact ⟨by first | rfl | (simp [errW_none, errW_some] <;> rfl) | (simp [*, errW_none, errW_some] <;> rfl), by repeat (first | (with_reducible first | exact HB.out | apply below_alloc | apply pw_below_drewN | apply below_drew1) | exact HB.out | exact Below.refl _ _)⟩
                                                  · replace c102 := Bool.eq_false_iff.mpr c102
                                                    subst c102
                                                    have H1 : (some false) = some r := by rw [if_neg (show ¬ (false = true) by decide)] at H; exact H
                                                    clear H
                                                    have H := H1
                                                    clear H1
                                                    obtain rfl := Option.some.inj H
                                                    obtain ⟨Ao107, co107, eo107⟩ := Kd.R_slice HO_36.out
                                                    subst eo107
                                                    go_wp2_with (first | ((with_reducible refine gate_callee (f := 32) rfl ?_); refine goesL_ (some 230) rfl rfl Tryd.func32 (by kernel_rfl) rfl #[.int .i64 t440, .slice Ao107 t492.length co107] rfl (by (try simp only [List.map_toArray, List.map_cons, List.map_nil]); first | done | rfl | (simp only [List.length_drop, List.length_take]; rfl)) ?_; (with_reducible refine (impl_IsRoundCode.calls kj91 t440 _ _ t492 true true _ ?side1 ?side2 A96.out ?tab_).mono ?_); (case tab_ => first | exact HTab_.out | ((repeat (first | exact HTab_.out | (with_reducible refine Tab_.drewN ?_ _) | (with_reducible refine Tab_.drew ?_) | (with_reducible refine Tab_.alloc ?_ _))); done) | (refine Tab_.below HTab_.out ?_; (repeat (first | (with_reducible first | exact HB.out | apply below_alloc | apply pw_below_drewN | apply below_drew1) | exact HB.out | exact Below.refl _ _)); done)); (case side1 => repeat (first | exact (Kd.R_reads' HO_36.out).2.2 | (with_reducible refine Kd.C_alloc ?_ _) | (with_reducible refine Kd.C_drewN ?_ _) | (with_reducible refine Kd.C_drew ?_))); (case side2 => exact (Kd.R_reads' HO_36.out).2.1); rintro e w108 ⟨rfl, hb⟩; refine ⟨_, rfl, ?_⟩; have n0_ := Aside0.mk (Kd.R_below (by (with_reducible repeat (first | apply Kd.R_alloc | apply Kd.R_drewN | apply Kd.R_drew)); exact HO_6.out) hb); have n1_ := Aside0.mk (Kd.R_below (by (with_reducible repeat (first | apply Kd.R_alloc | apply Kd.R_drewN | apply Kd.R_drew)); exact HO_36.out) hb); have n2_ := Aside0.mk (below_step (by repeat (first | (with_reducible first | exact HB.out | apply below_alloc | apply pw_below_drewN | apply below_drew1) | exact HB.out | exact Below.refl _ _)) hb); clear HO_6; clear HO_36; clear HB; have HO_6 := n0_; have HO_36 := n1_; have HB := n2_; clear n0_ n1_ n2_; (try clear hb); (try clear hb2); (try clear hk); (try clear hi)) | ((with_reducible refine gate_callee (f := 36) rfl ?_); refine goesL_ (some 236) rfl rfl Tryd.func36 (by kernel_rfl) rfl #[.int .i64 t440, .slice Ao10 t441.length co10] rfl (by (try simp only [List.map_toArray, List.map_cons, List.map_nil]); first | done | rfl | (simp only [List.length_drop, List.length_take]; rfl)) ?_; (with_reducible refine (impl_IsEvenlyChanged.calls kj91 t440 _ _ t441 t503 true _ ?side1 ?side2 A97.out ?tab_).mono ?_); (case tab_ => first | exact HTab_.out | ((repeat (first | exact HTab_.out | (with_reducible refine Tab_.drewN ?_ _) | (with_reducible refine Tab_.drew ?_) | (with_reducible refine Tab_.alloc ?_ _))); done) | (refine Tab_.below HTab_.out ?_; (repeat (first | (with_reducible first | exact HB.out | apply below_alloc | apply pw_below_drewN | apply below_drew1) | exact HB.out | exact Below.refl _ _)); done)); (case side1 => repeat (first | exact (Kd.R_reads' HO_6.out).2.2 | (with_reducible refine Kd.C_alloc ?_ _) | (with_reducible refine Kd.C_drewN ?_ _) | (with_reducible refine Kd.C_drew ?_))); (case side2 => exact (Kd.R_reads' HO_6.out).2.1); rintro e w109 ⟨rfl, hb⟩; refine ⟨_, rfl, ?_⟩; have n0_ := Aside0.mk (Kd.R_below (by (with_reducible repeat (first | apply Kd.R_alloc | apply Kd.R_drewN | apply Kd.R_drew)); exact HO_6.out) hb); have n1_ := Aside0.mk (Kd.R_below (by (with_reducible repeat (first | apply Kd.R_alloc | apply Kd.R_drewN | apply Kd.R_drew)); exact HO_36.out) hb); have n2_ := Aside0.mk (below_step (by repeat (first | (with_reducible first | exact HB.out | apply below_alloc | apply pw_below_drewN | apply below_drew1) | exact HB.out | exact Below.refl _ _)) hb); clear HO_6; clear HO_36; clear HB; have HO_6 := n0_; have HO_36 := n1_; have HB := n2_; clear n0_ n1_ n2_; (try clear hb); (try clear hb2); (try clear hk); (try clear hi)) | ((with_reducible refine gate_callee (f := 36) rfl ?_); refine goesL_ (some 242) rfl rfl Tryd.func36 (by kernel_rfl) rfl #[.int .i64 t440, .slice Ao107 t492.length co107] rfl (by (try simp only [List.map_toArray, List.map_cons, List.map_nil]); first | done | rfl | (simp only [List.length_drop, List.length_take]; rfl)) ?_; (with_reducible refine (impl_IsEvenlyChanged.calls kj91 t440 _ _ t492 t505 false _ ?side1 ?side2 A98.out ?tab_).mono ?_); (case tab_ => first | exact HTab_.out | ((repeat (first | exact HTab_.out | (with_reducible refine Tab_.drewN ?_ _) | (with_reducible refine Tab_.drew ?_) | (with_reducible refine Tab_.alloc ?_ _))); done) | (refine Tab_.below HTab_.out ?_; (repeat (first | (with_reducible first | exact HB.out | apply below_alloc | apply pw_below_drewN | apply below_drew1) | exact HB.out | exact Below.refl _ _)); done)); (case side1 => repeat (first | exact (Kd.R_reads' HO_36.out).2.2 | (with_reducible refine Kd.C_alloc ?_ _) | (with_reducible refine Kd.C_drewN ?_ _) | (with_reducible refine Kd.C_drew ?_))); (case side2 => exact (Kd.R_reads' HO_36.out).2.1); rintro e w110 ⟨rfl, hb⟩; refine ⟨_, rfl, ?_⟩; have n0_ := Aside0.mk (Kd.R_below (by (with_reducible repeat (first | apply Kd.R_alloc | apply Kd.R_drewN | apply Kd.R_drew)); exact HO_6.out) hb); have n1_ := Aside0.mk (Kd.R_below (by (with_reducible repeat (first | apply Kd.R_alloc | apply Kd.R_drewN | apply Kd.R_drew)); exact HO_36.out) hb); have n2_ := Aside0.mk (below_step (by repeat (first | (with_reducible first | exact HB.out | apply below_alloc | apply pw_below_drewN | apply below_drew1) | exact HB.out | exact Below.refl _ _)) hb); clear HO_6; clear HO_36; clear HB; have HO_6 := n0_; have HO_36 := n1_; have HB := n2_; clear n0_ n1_ n2_; (try clear hb); (try clear hb2); (try clear hk); (try clear hi)))
                                                    go_ret
                                                    exact ⟨by first | rfl | (simp [errW_none, errW_some] <;> rfl) | (simp [*, errW_none, errW_some] <;> rfl), by repeat (first | (with_reducible first | exact HB.out | apply below_alloc | apply pw_below_drewN | apply below_drew1) | exact HB.out | exact Below.refl _ _)⟩
                                                · replace c101 := Bool.eq_false_iff.mpr c101
                                                  subst c101
                                                  have H1 : (some false) = some r := by rw [if_neg (show ¬ (false = true) by decide)] at H; exact H
                                                  clear H
                                                  have H := H1
                                                  clear H1
                                                  obtain rfl := Option.some.inj H
                                                  obtain ⟨Ao111, co111, eo111⟩ := Kd.R_slice HO_36.out
                                                  subst eo111
                                                  go_wp2_with (first | ((with_reducible refine gate_callee (f := 32) rfl ?_); refine goesL_ (some 230) rfl rfl Tryd.func32 (by kernel_rfl) rfl #[.int .i64 t440, .slice Ao111 t492.length co111] rfl (by (try simp only [List.map_toArray, List.map_cons, List.map_nil]); first | done | rfl | (simp only [List.length_drop, List.length_take]; rfl)) ?_; (with_reducible refine (impl_IsRoundCode.calls kj91 t440 _ _ t492 true true _ ?side1 ?side2 A96.out ?tab_).mono ?_); (case tab_ => first | exact HTab_.out | ((repeat (first | exact HTab_.out | (with_reducible refine Tab_.drewN ?_ _) | (with_reducible refine Tab_.drew ?_) | (with_reducible refine Tab_.alloc ?_ _))); done) | (refine Tab_.below HTab_.out ?_; (repeat (first | (with_reducible first | exact HB.out | apply below_alloc | apply pw_below_drewN | apply below_drew1) | exact HB.out | exact Below.refl _ _)); done)); (case side1 => repeat (first | exact (Kd.R_reads' HO_36.out).2.2 | (with_reducible refine Kd.C_alloc ?_ _) | (with_reducible refine Kd.C_drewN ?_ _) | (with_reducible refine Kd.C_drew ?_))); (case side2 => exact (Kd.R_reads' HO_36.out).2.1); rintro e w112 ⟨rfl, hb⟩; refine ⟨_, rfl, ?_⟩; have n0_ := Aside0.mk (Kd.R_below (by (with_reducible repeat (first | apply Kd.R_alloc | apply Kd.R_drewN | apply Kd.R_drew)); exact HO_6.out) hb); have n1_ := Aside0.mk (Kd.R_below (by (with_reducible repeat (first | apply Kd.R_alloc | apply Kd.R_drewN | apply Kd.R_drew)); exact HO_36.out) hb); have n2_ := Aside0.mk (below_step (by repeat (first | (with_reducible first | exact HB.out | apply below_alloc | apply pw_below_drewN | apply below_drew1) | exact HB.out | exact Below.refl _ _)) hb); clear HO_6; clear HO_36; clear HB; have HO_6 := n0_; have HO_36 := n1_; have HB := n2_; clear n0_ n1_ n2_; (try clear hb); (try clear hb2); (try clear hk); (try clear hi)) | ((with_reducible refine gate_callee (f := 36) rfl ?_); refine goesL_ (some 236) rfl rfl Tryd.func36 (by kernel_rfl) rfl #[.int .i64 t440, .slice Ao10 t441.length co10] rfl (by (try simp only [List.map_toArray, List.map_cons, List.map_nil]); first | done | rfl | (simp only [List.length_drop, List.length_take]; rfl)) ?_; (with_reducible refine (impl_IsEvenlyChanged.calls kj91 t440 _ _ t441 t503 false _ ?side1 ?side2 A97.out ?tab_).mono ?_); (case tab_ => first | exact HTab_.out | ((repeat (first | exact HTab_.out | (with_reducible refine Tab_.drewN ?_ _) | (with_reducible refine Tab_.drew ?_) | (with_reducible refine Tab_.alloc ?_ _))); done) | (refine Tab_.below HTab_.out ?_; (repeat (first | (with_reducible first | exact HB.out | apply below_alloc | apply pw_below_drewN | apply below_drew1) | exact HB.out | exact Below.refl _ _)); done)); (case side1 => repeat (first | exact (Kd.R_reads' HO_6.out).2.2 | (with_reducible refine Kd.C_alloc ?_ _) | (with_reducible refine Kd.C_drewN ?_ _) | (with_reducible refine Kd.C_drew ?_))); (case side2 => exact (Kd.R_reads' HO_6.out).2.1); rintro e w113 ⟨rfl, hb⟩; refine ⟨_, rfl, ?_⟩; have n0_ := Aside0.mk (Kd.R_below (by (with_reducible repeat (first | apply Kd.R_alloc | apply Kd.R_drewN | apply Kd.R_drew)); exact HO_6.out) hb); have n1_ := Aside0.mk (Kd.R_below (by (with_reducible repeat (first | apply Kd.R_alloc | apply Kd.R_drewN | apply Kd.R_drew)); exact HO_36.out) hb); have n2_ := Aside0.mk (below_step (by repeat (first | (with_reducible first | exact HB.out | apply below_alloc | apply pw_below_drewN | apply below_drew1) | exact HB.out | exact Below.refl _ _)) hb); clear HO_6; clear HO_36; clear HB; have HO_6 := n0_; have HO_36 := n1_; have HB := n2_; clear n0_ n1_ n2_; (try clear hb); (try clear hb2); (try clear hk); (try clear hi)) | ((with_reducible refine gate_callee (f := 36) rfl ?_); refine goesL_ (some 242) rfl rfl Tryd.func36 (by kernel_rfl) rfl #[.int .i64 t440, .slice Ao111 t492.length co111] rfl (by (try simp only [List.map_toArray, List.map_cons, List.map_nil]); first | done | rfl | (simp only [List.length_drop, List.length_take]; rfl)) ?_; (with_reducible refine (impl_IsEvenlyChanged.calls kj91 t440 _ _ t492 t505 t506 _ ?side1 ?side2 A98.out ?tab_).mono ?_); (case tab_ => first | exact HTab_.out | ((repeat (first | exact HTab_.out | (with_reducible refine Tab_.drewN ?_ _) | (with_reducible refine Tab_.drew ?_) | (with_reducible refine Tab_.alloc ?_ _))); done) | (refine Tab_.below HTab_.out ?_; (repeat (first | (with_reducible first | exact HB.out | apply below_alloc | apply pw_below_drewN | apply below_drew1) | exact HB.out | exact Below.refl _ _)); done)); (case side1 => repeat (first | exact (Kd.R_reads' HO_36.out).2.2 | (with_reducible refine Kd.C_alloc ?_ _) | (with_reducible refine Kd.C_drewN ?_ _) | (with_reducible refine Kd.C_drew ?_))); (case side2 => exact (Kd.R_reads' HO_36.out).2.1); rintro e w114 ⟨rfl, hb⟩; refine ⟨_, rfl, ?_⟩; have n0_ := Aside0.mk (Kd.R_below (by (with_reducible repeat (first | apply Kd.R_alloc | apply Kd.R_drewN | apply Kd.R_drew)); exact HO_6.out) hb); have n1_ := Aside0.mk (Kd.R_below (by (with_reducible repeat (first | apply Kd.R_alloc | apply Kd.R_drewN | apply Kd.R_drew)); exact HO_36.out) hb); have n2_ := Aside0.mk (below_step (by repeat (first | (with_reducible first | exact HB.out | apply below_alloc | apply pw_below_drewN | apply below_drew1) | exact HB.out | exact Below.refl _ _)) hb); clear HO_6; clear HO_36; clear HB; have HO_6 := n0_; have HO_36 := n1_; have HB := n2_; clear n0_ n1_ n2_; (try clear hb); (try clear hb2); (try clear hk); (try clear hi)))
                                                  go_ret
                                                  exact ⟨by first | rfl | (simp [errW_none, errW_some] <;> rfl) | (simp [*, errW_none, errW_some] <;> rfl), by repeat (first | (with_reducible first | exact HB.out | apply below_alloc | apply pw_below_drewN | apply below_drew1) | exact HB.out | exact Below.refl _ _)⟩
                                              · replace c100 := Bool.eq_false_iff.mpr c100
                                                subst c100
                                                have H1 : (some false) = some r := by rw [if_neg (show ¬ (false = true) by decide)] at H; exact H
                                                clear H
                                                have H := H1
                                                clear H1
                                                obtain rfl := Option.some.inj H
                                                obtain ⟨Ao115, co115, eo115⟩ := Kd.R_slice HO_36.out
                                                subst eo115
                                                go_wp2_with (first | ((with_reducible refine gate_callee (f := 32) rfl ?_); refine goesL_ (some 230) rfl rfl Tryd.func32 (by kernel_rfl) rfl #[.int .i64 t440, .slice Ao115 t492.length co115] rfl (by (try simp only [List.map_toArray, List.map_cons, List.map_nil]); first | done | rfl | (simp only [List.length_drop, List.length_take]; rfl)) ?_; (with_reducible refine (impl_IsRoundCode.calls kj91 t440 _ _ t492 false true _ ?side1 ?side2 A96.out ?tab_).mono ?_); (case tab_ => first | exact HTab_.out | ((repeat (first | exact HTab_.out | (with_reducible refine Tab_.drewN ?_ _) | (with_reducible refine Tab_.drew ?_) | (with_reducible refine Tab_.alloc ?_ _))); done) | (refine Tab_.below HTab_.out ?_; (repeat (first | (with_reducible first | exact HB.out | apply below_alloc | apply pw_below_drewN | apply below_drew1) | exact HB.out | exact Below.refl _ _)); done)); (case side1 => repeat (first | exact (Kd.R_reads' HO_36.out).2.2 | (with_reducible refine Kd.C_alloc ?_ _) | (with_reducible refine Kd.C_drewN ?_ _) | (with_reducible refine Kd.C_drew ?_))); (case side2 => exact (Kd.R_reads' HO_36.out).2.1); rintro e w116 ⟨rfl, hb⟩; refine ⟨_, rfl, ?_⟩; have n0_ := Aside0.mk (Kd.R_below (by (with_reducible repeat (first | apply Kd.R_alloc | apply Kd.R_drewN | apply Kd.R_drew)); exact HO_6.out) hb); have n1_ := Aside0.mk (Kd.R_below (by (with_reducible repeat (first | apply Kd.R_alloc | apply Kd.R_drewN | apply Kd.R_drew)); exact HO_36.out) hb); have n2_ := Aside0.mk (below_step (by repeat (first | (with_reducible first | exact HB.out | apply below_alloc | apply pw_below_drewN | apply below_drew1) | exact HB.out | exact Below.refl _ _)) hb); clear HO_6; clear HO_36; clear HB; have HO_6 := n0_; have HO_36 := n1_; have HB := n2_; clear n0_ n1_ n2_; (try clear hb); (try clear hb2); (try clear hk); (try clear hi)) | ((with_reducible refine gate_callee (f := 36) rfl ?_); refine goesL_ (some 236) rfl rfl Tryd.func36 (by kernel_rfl) rfl #[.int .i64 t440, .slice Ao10 t441.length co10] rfl (by (try simp only [List.map_toArray, List.map_cons, List.map_nil]); first | done | rfl | (simp only [List.length_drop, List.length_take]; rfl)) ?_; (with_reducible refine (impl_IsEvenlyChanged.calls kj91 t440 _ _ t441 t503 t504 _ ?side1 ?side2 A97.out ?tab_).mono ?_); (case tab_ => first | exact HTab_.out | ((repeat (first | exact HTab_.out | (with_reducible refine Tab_.drewN ?_ _) | (with_reducible refine Tab_.drew ?_) | (with_reducible refine Tab_.alloc ?_ _))); done) | (refine Tab_.below HTab_.out ?_; (repeat (first | (with_reducible first | exact HB.out | apply below_alloc | apply pw_below_drewN | apply below_drew1) | exact HB.out | exact Below.refl _ _)); done)); (case side1 => repeat (first | exact (Kd.R_reads' HO_6.out).2.2 | (with_reducible refine Kd.C_alloc ?_ _) | (with_reducible refine Kd.C_drewN ?_ _) | (with_reducible refine Kd.C_drew ?_))); (case side2 => exact (Kd.R_reads' HO_6.out).2.1); rintro e w117 ⟨rfl, hb⟩; refine ⟨_, rfl, ?_⟩; have n0_ := Aside0.mk (Kd.R_below (by (with_reducible repeat (first | apply Kd.R_alloc | apply Kd.R_drewN | apply Kd.R_drew)); exact HO_6.out) hb); have n1_ := Aside0.mk (Kd.R_below (by (with_reducible repeat (first | apply Kd.R_alloc | apply Kd.R_drewN | apply Kd.R_drew)); exact HO_36.out) hb); have n2_ := Aside0.mk (below_step (by repeat (first | (with_reducible first | exact HB.out | apply below_alloc | apply pw_below_drewN | apply below_drew1) | exact HB.out | exact Below.refl _ _)) hb); clear HO_6; clear HO_36; clear HB; have HO_6 := n0_; have HO_36 := n1_; have HB := n2_; clear n0_ n1_ n2_; (try clear hb); (try clear hb2); (try clear hk); (try clear hi)) | ((with_reducible refine gate_callee (f := 36) rfl ?_); refine goesL_ (some 242) rfl rfl Tryd.func36 (by kernel_rfl) rfl #[.int .i64 t440, .slice Ao115 t492.length co115] rfl (by (try simp only [List.map_toArray, List.map_cons, List.map_nil]); first | done | rfl | (simp only [List.length_drop, List.length_take]; rfl)) ?_; (with_reducible refine (impl_IsEvenlyChanged.calls kj91 t440 _ _ t492 t505 t506 _ ?side1 ?side2 A98.out ?tab_).mono ?_); (case tab_ => first | exact HTab_.out | ((repeat (first | exact HTab_.out | (with_reducible refine Tab_.drewN ?_ _) | (with_reducible refine Tab_.drew ?_) | (with_reducible refine Tab_.alloc ?_ _))); done) | (refine Tab_.below HTab_.out ?_; (repeat (first | (with_reducible first | exact HB.out | apply below_alloc | apply pw_below_drewN | apply below_drew1) | exact HB.out | exact Below.refl _ _)); done)); (case side1 => repeat (first | exact (Kd.R_reads' HO_36.out).2.2 | (with_reducible refine Kd.C_alloc ?_ _) | (with_reducible refine Kd.C_drewN ?_ _) | (with_reducible refine Kd.C_drew ?_))); (case side2 => exact (Kd.R_reads' HO_36.out).2.1); rintro e w118 ⟨rfl, hb⟩; refine ⟨_, rfl, ?_⟩; have n0_ := Aside0.mk (Kd.R_below (by (with_reducible repeat (first | apply Kd.R_alloc | apply Kd.R_drewN | apply Kd.R_drew)); exact HO_6.out) hb); have n1_ := Aside0.mk (Kd.R_below (by (with_reducible repeat (first | apply Kd.R_alloc | apply Kd.R_drewN | apply Kd.R_drew)); exact HO_36.out) hb); have n2_ := Aside0.mk (below_step (by repeat (first | (with_reducible first | exact HB.out | apply below_alloc | apply pw_below_drewN | apply below_drew1) | exact HB.out | exact Below.refl _ _)) hb); clear HO_6; clear HO_36; clear HB; have HO_6 := n0_; have HO_36 := n1_; have HB := n2_; clear n0_ n1_ n2_; (try clear hb); (try clear hb2); (try clear hk); (try clear hi)))
                                                go_ret
                                                exact ⟨by first | rfl | (simp [errW_none, errW_some] <;> rfl) | (simp [*, errW_none, errW_some] <;> rfl), by repeat (first | (with_reducible first | exact HB.out | apply below_alloc | apply pw_below_drewN | apply below_drew1) | exact HB.out | exact Below.refl _ _)⟩
                                            · replace c99 := Bool.eq_false_iff.mpr c99
                                              subst c99
                                              have H1 : (some false) = some r := by rw [if_neg (show ¬ (false = true) by decide)] at H; exact H
                                              clear H
                                              have H := H1
                                              clear H1
                                              obtain rfl := Option.some.inj H
                                              obtain ⟨Ao119, co119, eo119⟩ := Kd.R_slice HO_36.out
                                              subst eo119
                                              go_wp2_with (first | ((with_reducible refine gate_callee (f := 32) rfl ?_); refine goesL_ (some 230) rfl rfl Tryd.func32 (by kernel_rfl) rfl #[.int .i64 t440, .slice Ao119 t492.length co119] rfl (by (try simp only [List.map_toArray, List.map_cons, List.map_nil]); first | done | rfl | (simp only [List.length_drop, List.length_take]; rfl)) ?_; (with_reducible refine (impl_IsRoundCode.calls kj91 t440 _ _ t492 t501 false _ ?side1 ?side2 A96.out ?tab_).mono ?_); (case tab_ => first | exact HTab_.out | ((repeat (first | exact HTab_.out | (with_reducible refine Tab_.drewN ?_ _) | (with_reducible refine Tab_.drew ?_) | (with_reducible refine Tab_.alloc ?_ _))); done) | (refine Tab_.below HTab_.out ?_; (repeat (first | (with_reducible first | exact HB.out | apply below_alloc | apply pw_below_drewN | apply below_drew1) | exact HB.out | exact Below.refl _ _)); done)); (case side1 => repeat (first | exact (Kd.R_reads' HO_36.out).2.2 | (with_reducible refine Kd.C_alloc ?_ _) | (with_reducible refine Kd.C_drewN ?_ _) | (with_reducible refine Kd.C_drew ?_))); (case side2 => exact (Kd.R_reads' HO_36.out).2.1); rintro e w120 ⟨rfl, hb⟩; refine ⟨_, rfl, ?_⟩; have n0_ := Aside0.mk (Kd.R_below (by (with_reducible repeat (first | apply Kd.R_alloc | apply Kd.R_drewN | apply Kd.R_drew)); exact HO_6.out) hb); have n1_ := Aside0.mk (Kd.R_below (by (with_reducible repeat (first | apply Kd.R_alloc | apply Kd.R_drewN | apply Kd.R_drew)); exact HO_36.out) hb); have n2_ := Aside0.mk (below_step (by repeat (first | (with_reducible first | exact HB.out | apply below_alloc | apply pw_below_drewN | apply below_drew1) | exact HB.out | exact Below.refl _ _)) hb); clear HO_6; clear HO_36; clear HB; have HO_6 := n0_; have HO_36 := n1_; have HB := n2_; clear n0_ n1_ n2_; (try clear hb); (try clear hb2); (try clear hk); (try clear hi)) | ((with_reducible refine gate_callee (f := 36) rfl ?_); refine goesL_ (some 236) rfl rfl Tryd.func36 (by kernel_rfl) rfl #[.int .i64 t440, .slice Ao10 t441.length co10] rfl (by (try simp only [List.map_toArray, List.map_cons, List.map_nil]); first | done | rfl | (simp only [List.length_drop, List.length_take]; rfl)) ?_; (with_reducible refine (impl_IsEvenlyChanged.calls kj91 t440 _ _ t441 t503 t504 _ ?side1 ?side2 A97.out ?tab_).mono ?_); (case tab_ => first | exact HTab_.out | ((repeat (first | exact HTab_.out | (with_reducible refine Tab_.drewN ?_ _) | (with_reducible refine Tab_.drew ?_) | (with_reducible refine Tab_.alloc ?_ _))); done) | (refine Tab_.below HTab_.out ?_; (repeat (first | (with_reducible first | exact HB.out | apply below_alloc | apply pw_below_drewN | apply below_drew1) | exact HB.out | exact Below.refl _ _)); done)); (case side1 => repeat (first | exact (Kd.R_reads' HO_6.out).2.2 | (with_reducible refine Kd.C_alloc ?_ _) | (with_reducible refine Kd.C_drewN ?_ _) | (with_reducible refine Kd.C_drew ?_))); (case side2 => exact (Kd.R_reads' HO_6.out).2.1); rintro e w121 ⟨rfl, hb⟩; refine ⟨_, rfl, ?_⟩; have n0_ := Aside0.mk (Kd.R_below (by (with_reducible repeat (first | apply Kd.R_alloc | apply Kd.R_drewN | apply Kd.R_drew)); exact HO_6.out) hb); have n1_ := Aside0.mk (Kd.R_below (by (with_reducible repeat (first | apply Kd.R_alloc | apply Kd.R_drewN | apply Kd.R_drew)); exact HO_36.out) hb); have n2_ := Aside0.mk (below_step (by repeat (first | (with_reducible first | exact HB.out | apply below_alloc | apply pw_below_drewN | apply below_drew1) | exact HB.out | exact Below.refl _ _)) hb); clear HO_6; clear HO_36; clear HB; have HO_6 := n0_; have HO_36 := n1_; have HB := n2_; clear n0_ n1_ n2_; (try clear hb); (try clear hb2); (try clear hk); (try clear hi)) | ((with_reducible refine gate_callee (f := 36) rfl ?_); refine goesL_ (some 242) rfl rfl Tryd.func36 (by kernel_rfl) rfl #[.int .i64 t440, .slice Ao119 t492.length co119] rfl (by (try simp only [List.map_toArray, List.map_cons, List.map_nil]); first | done | rfl | (simp only [List.length_drop, List.length_take]; rfl)) ?_; (with_reducible refine (impl_IsEvenlyChanged.calls kj91 t440 _ _ t492 t505 t506 _ ?side1 ?side2 A98.out ?tab_).mono ?_); (case tab_ => first | exact HTab_.out | ((repeat (first | exact HTab_.out | (with_reducible refine Tab_.drewN ?_ _) | (with_reducible refine Tab_.drew ?_) | (with_reducible refine Tab_.alloc ?_ _))); done) | (refine Tab_.below HTab_.out ?_; (repeat (first | (with_reducible first | exact HB.out | apply below_alloc | apply pw_below_drewN | apply below_drew1) | exact HB.out | exact Below.refl _ _)); done)); (case side1 => repeat (first | exact (Kd.R_reads' HO_36.out).2.2 | (with_reducible refine Kd.C_alloc ?_ _) | (with_reducible refine Kd.C_drewN ?_ _) | (with_reducible refine Kd.C_drew ?_))); (case side2 => exact (Kd.R_reads' HO_36.out).2.1); rintro e w122 ⟨rfl, hb⟩; refine ⟨_, rfl, ?_⟩; have n0_ := Aside0.mk (Kd.R_below (by (with_reducible repeat (first | apply Kd.R_alloc | apply Kd.R_drewN | apply Kd.R_drew)); exact HO_6.out) hb); have n1_ := Aside0.mk (Kd.R_below (by (with_reducible repeat (first | apply Kd.R_alloc | apply Kd.R_drewN | apply Kd.R_drew)); exact HO_36.out) hb); have n2_ := Aside0.mk (below_step (by repeat (first | (with_reducible first | exact HB.out | apply below_alloc | apply pw_below_drewN | apply below_drew1) | exact HB.out | exact Below.refl _ _)) hb); clear HO_6; clear HO_36; clear HB; have HO_6 := n0_; have HO_36 := n1_; have HB := n2_; clear n0_ n1_ n2_; (try clear hb); (try clear hb2); (try clear hk); (try clear hi)))
                                              go_ret
                                              exact ⟨by first | rfl | (simp [errW_none, errW_some] <;> rfl) | (simp [*, errW_none, errW_some] <;> rfl), by repeat (first | (with_reducible first | exact HB.out | apply below_alloc | apply pw_below_drewN | apply below_drew1) | exact HB.out | exact Below.refl _ _)⟩
                                          · replace c95 := Bool.eq_false_iff.mpr c95
                                            subst c95
                                            have H1 : (some true) = some r := by rw [if_neg (show ¬ (false = true) by decide)] at H; exact H
                                            clear H
                                            have H := H1
                                            clear H1
                                            obtain rfl := Option.some.inj H
                                            go_wp2
                                            go_ret
                                            exact ⟨by first | rfl | (simp [errW_none, errW_some] <;> rfl) | (simp [*, errW_none, errW_some] <;> rfl), by repeat (first | (with_reducible first | exact HB.out | apply below_alloc | apply pw_below_drewN | apply below_drew1) | exact HB.out | exact Below.refl _ _)⟩

/-- THE ONE PURE STATEMENT of laws_FnCodesMoved: yours. -/
def laws_FnCodesMoved.Pure : Prop := ∀ (l0 : List Int) (l1 : List Int), l0.length ≤ maxLen → l0.length * 1 ≤ 140737488351232 → (∀ x ∈ l0, (Lit.int .u8 x).wf = true) → l1.length ≤ maxLen → l1.length * 1 ≤ 140737488351232 → (∀ x ∈ l1, (Lit.int .u8 x).wf = true) → ∃ k, laws_FnCodesMoved.f k l0 l1 = some true
theorem laws_FnCodesMoved.walk (P : laws_FnCodesMoved.Pure) (a0 : Option Addr) (len0 cap0 : Nat) (z0 : List Int) (a1 : Option Addr) (len1 cap1 : Nat) (z1 : List Int) (w : World) (w0 : (a0 = none ∧ len0 = 0 ∧ cap0 = 0 ∧ z0 = []) ∨ ∃ x, a0 = some x ∧ len0 ≤ cap0 ∧ cap0 ≤ maxLen ∧ z0.length = cap0 ∧ (∀ i, i < z0.length → w.cell? (x.add i) = some (.int .u8 (z0.getD i 0))) ∧ ∀ n ∈ z0, (Lit.int .u8 n).wf = true) (y0 : len0 * 1 ≤ 140737488351232) (w1 : (a1 = none ∧ len1 = 0 ∧ cap1 = 0 ∧ z1 = []) ∨ ∃ x, a1 = some x ∧ len1 ≤ cap1 ∧ cap1 ≤ maxLen ∧ z1.length = cap1 ∧ (∀ i, i < z1.length → w.cell? (x.add i) = some (.int .u8 (z1.getD i 0))) ∧ ∀ n ∈ z1, (Lit.int .u8 n).wf = true) (y1 : len1 * 1 ≤ 140737488351232) (hT_ : Tab_ w) :
    Calls Tryd.prog 14 #[.slice a0 len0 cap0, .slice a1 len1 cap1] w fun e w' => e = .returned (.bool true) ∧ Below w.heap.size w w' := by
  obtain ⟨l0, rfl, hr0, hm0, hw0, hc0⟩ := ReadsInt.ofRowC w0
  obtain ⟨l1, rfl, hr1, hm1, hw1, hc1⟩ := ReadsInt.ofRowC w1
  obtain ⟨k, h⟩ := P l0 l1 hm0 y0 hw0 hm1 y1 hw1
  refine (laws_FnCodesMoved.calls k _ _ l0 _ _ l1 true w (Kd.C_of_reads (d := (0 : Int)) (h1 := fun _ => rfl) hr0) hc0 (Kd.C_of_reads (d := (0 : Int)) (h1 := fun _ => rfl) hr1) hc1 h hT_).mono ?_
  rintro e w' ⟨rfl, hd⟩
  exact ⟨rfl, hd⟩

end Go.Proofs.YtnhifbopicjicaaDoor.PFnCodesMoved
