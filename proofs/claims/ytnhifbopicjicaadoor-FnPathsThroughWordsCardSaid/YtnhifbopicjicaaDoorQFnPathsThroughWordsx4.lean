/- What the law's functions compute, and that the calls come to just that: turned from a printed text. No condition. -/
import Derived.Test.YtnhifbopicjicaaDoorQFnPathsThroughWordsx0
import Derived.Test.YtnhifbopicjicaaDoorQFnPathsThroughWordsx1
import Derived.Test.YtnhifbopicjicaaDoorQFnPathsThroughWordsx3
namespace Go.Proofs.YtnhifbopicjicaaDoor.PFnPathsThroughWords
open Go.RowKit Go.Proofs.YtnhifbopicjicaaDoorW.PrintWords Go.Proofs.YtnhifbopicjicaaDoorW.PrintLast Go.Proofs.YtnhifbopicjicaaDoorW.PrintMore
attribute [local go_sem] max2_int min2_int max_two min_two max_three min_three max_four min_four   -- for this text's walks alone
set_option linter.unusedVariables false
set_option linter.unusedSimpArgs false

/-! ### impl_PathThrough: function 38 -/
mutual
def impl_PathThrough.j0 : Nat → List Int → Bool → Option (List Int × Bool)
 | 0, _, _ => none
 | k + 1, x1, x31 => if x31 = true then (some (([] : List Int), false)) else ((slices_Values_int_int.f x1).bind fun t210 => ((slices_Sorted_int.f t210).bind fun t213 => (if 0 ≤ (shl .i64 1 (t213.length : Int)) then (if (shl .i64 1 (t213.length : Int) : Int).toNat ≤ 35184372088832 then (impl_PathThrough.l0 k t213 (t213.length : Int) (List.replicate (shl .i64 1 (t213.length : Int) : Int).toNat 0) 1) else (none)) else (none))))
def impl_PathThrough.l0 : Nat → List Int → Int → List Int → Int → Option (List Int × Bool)
 | 0, _, _, _, _ => none
 | k + 1, x6, x7, x8, x9 => if 0 ≤ x7 then (if x9 < (shl .i64 1 x7) then (impl_PathThrough.l1 k x6 x7 x8 x9 x7 0) else (impl_PathThrough.l3 k x6 x7 x8 (([] : List Int)) (wrap64 ((shl .i64 1 x7) - 1)))) else (none)
def impl_PathThrough.l1 : Nat → List Int → Int → List Int → Int → Int → Int → Option (List Int × Bool)
 | 0, _, _, _, _, _, _ => none
 | k + 1, x6, x7, x8, x9, x46, x47 => if x47 < x46 then (if 0 ≤ x47 then (if (Go.bits .and .i64 (shr .i64 x9 x47) 1) = 0 then (impl_PathThrough.l1 k x6 x7 x8 x9 x46 (wrap64 (x47 + 1))) else (impl_PathThrough.l2 k x6 x7 x8 x9 x47 (Go.bits .andNot .i64 x9 (shl .i64 1 x47)) x46 x47 x7 0)) else (none)) else (impl_PathThrough.l0 k x6 x7 x8 (wrap64 (x9 + 1)))
def impl_PathThrough.l2 : Nat → List Int → Int → List Int → Int → Int → Int → Int → Int → Int → Int → Option (List Int × Bool)
 | 0, _, _, _, _, _, _, _, _, _, _ => none
 | k + 1, x6, x7, x8, x9, x10, x11, x46, x47, x59, x60 => if x60 < x59 then (if x11 = 0 then (if 0 ≤ x9 then (if x9 < (x8.length : Int) then (if 0 ≤ x10 then (impl_PathThrough.l2 k x6 x7 (x8.set (x9 : Int).toNat (Go.bits .or .i64 (rd x8 x9) (shl .i64 1 x10))) x9 x10 x11 x46 x47 x59 (wrap64 (x60 + 1))) else (none)) else (none)) else (none)) else (if 0 ≤ x60 then (if (Go.bits .and .i64 (shr .i64 x11 x60) 1) = 1 then (if 0 ≤ x11 then (if x11 < (x8.length : Int) then (if (Go.bits .and .i64 (shr .i64 (rd x8 x11) x60) 1) = 1 then (if 0 ≤ x10 then (if x10 < (x6.length : Int) then (if x60 < (x6.length : Int) then ((impl_delta.f (rd x6 x10) (rd x6 x60)).bind fun t224 => (if t224 ≥ 0 then (if 0 ≤ x9 then (if x9 < (x8.length : Int) then (impl_PathThrough.l2 k x6 x7 (x8.set (x9 : Int).toNat (Go.bits .or .i64 (rd x8 x9) (shl .i64 1 x10))) x9 x10 x11 x46 x47 x59 (wrap64 (x60 + 1))) else (none)) else (none)) else (impl_PathThrough.l2 k x6 x7 x8 x9 x10 x11 x46 x47 x59 (wrap64 (x60 + 1))))) else (none)) else (none)) else (none)) else (impl_PathThrough.l2 k x6 x7 x8 x9 x10 x11 x46 x47 x59 (wrap64 (x60 + 1)))) else (none)) else (none)) else (impl_PathThrough.l2 k x6 x7 x8 x9 x10 x11 x46 x47 x59 (wrap64 (x60 + 1)))) else (none))) else (impl_PathThrough.l1 k x6 x7 x8 x9 x46 (wrap64 (x47 + 1)))
def impl_PathThrough.l3 : Nat → List Int → Int → List Int → List Int → Int → Option (List Int × Bool)
 | 0, _, _, _, _, _ => none
 | k + 1, x6, x7, x8, x13, x14 => if x14 > 0 then (impl_PathThrough.l4 k x6 x7 x8 x13 x14 (-1) (wrap64 (x7 - 1))) else (some (x13, true))
def impl_PathThrough.l4 : Nat → List Int → Int → List Int → List Int → Int → Int → Int → Option (List Int × Bool)
 | 0, _, _, _, _, _, _, _ => none
 | k + 1, x6, x7, x8, x13, x14, x15, x16 => if x16 ≥ 0 then (if 0 ≤ x14 then (if x14 < (x8.length : Int) then (if 0 ≤ x16 then (if (Go.bits .and .i64 (shr .i64 (rd x8 x14) x16) 1) = 1 then (if (x13.length : Int) = 0 then (impl_PathThrough.l4 k x6 x7 x8 x13 x14 x16 (wrap64 (x16 - 1))) else (if 0 ≤ (wrap64 ((x13.length : Int) - 1)) then (if (wrap64 ((x13.length : Int) - 1)) < (x13.length : Int) then (if x16 < (x6.length : Int) then ((impl_delta.f (rd x13 (wrap64 ((x13.length : Int) - 1))) (rd x6 x16)).bind fun t233 => (if t233 ≥ 0 then (impl_PathThrough.l4 k x6 x7 x8 x13 x14 x16 (wrap64 (x16 - 1))) else (impl_PathThrough.l4 k x6 x7 x8 x13 x14 x15 (wrap64 (x16 - 1))))) else (none)) else (none)) else (none))) else (impl_PathThrough.l4 k x6 x7 x8 x13 x14 x15 (wrap64 (x16 - 1)))) else (none)) else (none)) else (none)) else (if x15 < 0 then (some (([] : List Int), false)) else (if 0 ≤ x15 then (if x15 < (x6.length : Int) then (if x13.length < 17592186044416 then (impl_PathThrough.l3 k x6 x7 x8 (x13 ++ [rd x6 x15]) (Go.bits .andNot .i64 x14 (shl .i64 1 x15))) else (none)) else (none)) else (none)))
end
def impl_PathThrough.f (k : Nat) (a0 : Int) (l1 : List Int) : Option (List Int × Bool) := (impl_areWords.f k a0 l1).bind fun t207 => (if t207 = true then ((impl_within.f (l1.length : Int) 1 12).bind fun t208 => (if t208 = true then ((impl_different.f l1).bind fun t209 => (impl_PathThrough.j0 k l1 (!t209))) else (impl_PathThrough.j0 k l1 true))) else (impl_PathThrough.j0 k l1 true))
theorem impl_PathThrough.mono_l : ∀ k, (∀ y0 y1, LeO (impl_PathThrough.j0 k y0 y1) (impl_PathThrough.j0 (k + 1) y0 y1)) ∧ (∀ y0 y1 y2 y3, LeO (impl_PathThrough.l0 k y0 y1 y2 y3) (impl_PathThrough.l0 (k + 1) y0 y1 y2 y3)) ∧ (∀ y0 y1 y2 y3 y4 y5, LeO (impl_PathThrough.l1 k y0 y1 y2 y3 y4 y5) (impl_PathThrough.l1 (k + 1) y0 y1 y2 y3 y4 y5)) ∧ (∀ y0 y1 y2 y3 y4 y5 y6 y7 y8 y9, LeO (impl_PathThrough.l2 k y0 y1 y2 y3 y4 y5 y6 y7 y8 y9) (impl_PathThrough.l2 (k + 1) y0 y1 y2 y3 y4 y5 y6 y7 y8 y9)) ∧ (∀ y0 y1 y2 y3 y4, LeO (impl_PathThrough.l3 k y0 y1 y2 y3 y4) (impl_PathThrough.l3 (k + 1) y0 y1 y2 y3 y4)) ∧ (∀ y0 y1 y2 y3 y4 y5 y6, LeO (impl_PathThrough.l4 k y0 y1 y2 y3 y4 y5 y6) (impl_PathThrough.l4 (k + 1) y0 y1 y2 y3 y4 y5 y6))
 | 0 => ⟨fun _ _ r h => by simp [impl_PathThrough.j0] at h, fun _ _ _ _ r h => by simp [impl_PathThrough.l0] at h, fun _ _ _ _ _ _ r h => by simp [impl_PathThrough.l1] at h, fun _ _ _ _ _ _ _ _ _ _ r h => by simp [impl_PathThrough.l2] at h, fun _ _ _ _ _ r h => by simp [impl_PathThrough.l3] at h, fun _ _ _ _ _ _ _ r h => by simp [impl_PathThrough.l4] at h⟩
 | k + 1 => by
  obtain ⟨ih0, ih1, ih2, ih3, ih4, ih5⟩ := impl_PathThrough.mono_l k
  refine ⟨?_, ?_, ?_, ?_, ?_, ?_⟩
  ·intro y0 y1
   unfold impl_PathThrough.j0
   repeat' first
   | (with_reducible exact ih0 _ _)
   | (with_reducible exact ih1 _ _ _ _)
   | (with_reducible exact ih2 _ _ _ _ _ _)
   | (with_reducible exact ih3 _ _ _ _ _ _ _ _ _ _)
   | (with_reducible exact ih4 _ _ _ _ _)
   | (with_reducible exact ih5 _ _ _ _ _ _ _)
   | (with_reducible exact impl_areWords.mono _ _ _)
   | (with_reducible exact LeO.refl _)
   | (with_reducible exact LeO.none _)
   | (with_reducible refine LeO.ite ?_ ?_)
   | (with_reducible refine LeO.bind ?_ (fun _ => ?_))
   | exact ih0 _ _
   | exact ih1 _ _ _ _
   | exact ih2 _ _ _ _ _ _
   | exact ih3 _ _ _ _ _ _ _ _ _ _
   | exact ih4 _ _ _ _ _
   | exact ih5 _ _ _ _ _ _ _
   | exact impl_areWords.mono _ _ _
   | exact LeO.none _
   | refine LeO.ite ?_ ?_
   | refine LeO.bind ?_ (fun _ => ?_)
  ·intro y0 y1 y2 y3
   unfold impl_PathThrough.l0
   repeat' first
   | (with_reducible exact ih0 _ _)
   | (with_reducible exact ih1 _ _ _ _)
   | (with_reducible exact ih2 _ _ _ _ _ _)
   | (with_reducible exact ih3 _ _ _ _ _ _ _ _ _ _)
   | (with_reducible exact ih4 _ _ _ _ _)
   | (with_reducible exact ih5 _ _ _ _ _ _ _)
   | (with_reducible exact impl_areWords.mono _ _ _)
   | (with_reducible exact LeO.refl _)
   | (with_reducible exact LeO.none _)
   | (with_reducible refine LeO.ite ?_ ?_)
   | (with_reducible refine LeO.bind ?_ (fun _ => ?_))
   | exact ih0 _ _
   | exact ih1 _ _ _ _
   | exact ih2 _ _ _ _ _ _
   | exact ih3 _ _ _ _ _ _ _ _ _ _
   | exact ih4 _ _ _ _ _
   | exact ih5 _ _ _ _ _ _ _
   | exact impl_areWords.mono _ _ _
   | exact LeO.none _
   | refine LeO.ite ?_ ?_
   | refine LeO.bind ?_ (fun _ => ?_)
  ·intro y0 y1 y2 y3 y4 y5
   unfold impl_PathThrough.l1
   repeat' first
   | (with_reducible exact ih0 _ _)
   | (with_reducible exact ih1 _ _ _ _)
   | (with_reducible exact ih2 _ _ _ _ _ _)
   | (with_reducible exact ih3 _ _ _ _ _ _ _ _ _ _)
   | (with_reducible exact ih4 _ _ _ _ _)
   | (with_reducible exact ih5 _ _ _ _ _ _ _)
   | (with_reducible exact impl_areWords.mono _ _ _)
   | (with_reducible exact LeO.refl _)
   | (with_reducible exact LeO.none _)
   | (with_reducible refine LeO.ite ?_ ?_)
   | (with_reducible refine LeO.bind ?_ (fun _ => ?_))
   | exact ih0 _ _
   | exact ih1 _ _ _ _
   | exact ih2 _ _ _ _ _ _
   | exact ih3 _ _ _ _ _ _ _ _ _ _
   | exact ih4 _ _ _ _ _
   | exact ih5 _ _ _ _ _ _ _
   | exact impl_areWords.mono _ _ _
   | exact LeO.none _
   | refine LeO.ite ?_ ?_
   | refine LeO.bind ?_ (fun _ => ?_)
  ·intro y0 y1 y2 y3 y4 y5 y6 y7 y8 y9
   unfold impl_PathThrough.l2
   repeat' first
   | (with_reducible exact ih0 _ _)
   | (with_reducible exact ih1 _ _ _ _)
   | (with_reducible exact ih2 _ _ _ _ _ _)
   | (with_reducible exact ih3 _ _ _ _ _ _ _ _ _ _)
   | (with_reducible exact ih4 _ _ _ _ _)
   | (with_reducible exact ih5 _ _ _ _ _ _ _)
   | (with_reducible exact impl_areWords.mono _ _ _)
   | (with_reducible exact LeO.refl _)
   | (with_reducible exact LeO.none _)
   | (with_reducible refine LeO.ite ?_ ?_)
   | (with_reducible refine LeO.bind ?_ (fun _ => ?_))
   | exact ih0 _ _
   | exact ih1 _ _ _ _
   | exact ih2 _ _ _ _ _ _
   | exact ih3 _ _ _ _ _ _ _ _ _ _
   | exact ih4 _ _ _ _ _
   | exact ih5 _ _ _ _ _ _ _
   | exact impl_areWords.mono _ _ _
   | exact LeO.none _
   | refine LeO.ite ?_ ?_
   | refine LeO.bind ?_ (fun _ => ?_)
  ·intro y0 y1 y2 y3 y4
   unfold impl_PathThrough.l3
   repeat' first
   | (with_reducible exact ih0 _ _)
   | (with_reducible exact ih1 _ _ _ _)
   | (with_reducible exact ih2 _ _ _ _ _ _)
   | (with_reducible exact ih3 _ _ _ _ _ _ _ _ _ _)
   | (with_reducible exact ih4 _ _ _ _ _)
   | (with_reducible exact ih5 _ _ _ _ _ _ _)
   | (with_reducible exact impl_areWords.mono _ _ _)
   | (with_reducible exact LeO.refl _)
   | (with_reducible exact LeO.none _)
   | (with_reducible refine LeO.ite ?_ ?_)
   | (with_reducible refine LeO.bind ?_ (fun _ => ?_))
   | exact ih0 _ _
   | exact ih1 _ _ _ _
   | exact ih2 _ _ _ _ _ _
   | exact ih3 _ _ _ _ _ _ _ _ _ _
   | exact ih4 _ _ _ _ _
   | exact ih5 _ _ _ _ _ _ _
   | exact impl_areWords.mono _ _ _
   | exact LeO.none _
   | refine LeO.ite ?_ ?_
   | refine LeO.bind ?_ (fun _ => ?_)
  ·intro y0 y1 y2 y3 y4 y5 y6
   unfold impl_PathThrough.l4
   repeat' first
   | (with_reducible exact ih0 _ _)
   | (with_reducible exact ih1 _ _ _ _)
   | (with_reducible exact ih2 _ _ _ _ _ _)
   | (with_reducible exact ih3 _ _ _ _ _ _ _ _ _ _)
   | (with_reducible exact ih4 _ _ _ _ _)
   | (with_reducible exact ih5 _ _ _ _ _ _ _)
   | (with_reducible exact impl_areWords.mono _ _ _)
   | (with_reducible exact LeO.refl _)
   | (with_reducible exact LeO.none _)
   | (with_reducible refine LeO.ite ?_ ?_)
   | (with_reducible refine LeO.bind ?_ (fun _ => ?_))
   | exact ih0 _ _
   | exact ih1 _ _ _ _
   | exact ih2 _ _ _ _ _ _
   | exact ih3 _ _ _ _ _ _ _ _ _ _
   | exact ih4 _ _ _ _ _
   | exact ih5 _ _ _ _ _ _ _
   | exact impl_areWords.mono _ _ _
   | exact LeO.none _
   | refine LeO.ite ?_ ?_
   | refine LeO.bind ?_ (fun _ => ?_)
theorem impl_PathThrough.mono : ∀ a0 a1 k, LeO (impl_PathThrough.f k a0 a1) (impl_PathThrough.f (k + 1) a0 a1) := by
 intro a0 a1 k
 obtain ⟨ih0, ih1, ih2, ih3, ih4, ih5⟩ := impl_PathThrough.mono_l k
 unfold impl_PathThrough.f
 repeat' first
   | (with_reducible exact ih0 _ _)
   | (with_reducible exact ih1 _ _ _ _)
   | (with_reducible exact ih2 _ _ _ _ _ _)
   | (with_reducible exact ih3 _ _ _ _ _ _ _ _ _ _)
   | (with_reducible exact ih4 _ _ _ _ _)
   | (with_reducible exact ih5 _ _ _ _ _ _ _)
   | (with_reducible exact impl_areWords.mono _ _ _)
   | (with_reducible exact LeO.refl _)
   | (with_reducible exact LeO.none _)
   | (with_reducible refine LeO.ite ?_ ?_)
   | (with_reducible refine LeO.bind ?_ (fun _ => ?_))
   | exact ih0 _ _
   | exact ih1 _ _ _ _
   | exact ih2 _ _ _ _ _ _
   | exact ih3 _ _ _ _ _ _ _ _ _ _
   | exact ih4 _ _ _ _ _
   | exact ih5 _ _ _ _ _ _ _
   | exact impl_areWords.mono _ _ _
   | exact LeO.none _
   | refine LeO.ite ?_ ?_
   | refine LeO.bind ?_ (fun _ => ?_)
def impl_PathThrough.T17 : Bool × List (List Nat × List Nat) := (true, [([], []), ([0], [0]), ([1], [1]), ([2], [2]), ([2], [2]), ([3, 4, 2], [2, 3, 4]), ([5, 2], [2, 5]), ([6, 2], [2, 6]), ([7, 2, 2], [2, 7]), ([8], [8]), ([8], [8]), ([9, 10, 8], [8, 9, 10]), ([11, 8], [8, 11]), ([8], [8]), ([12, 13, 8], [8, 12, 13]), ([14, 8], [8, 14]), ([15, 8], [8, 15]), ([8, 16, 2], [2, 8, 16]), ([17, 8, 2], [2, 17]), ([18], [18]), ([18], [18]), ([19, 20, 18], [18, 19, 20]), ([21, 18], [18, 21]), ([18], [18]), ([18], [18]), ([23, 24, 18], [18, 23, 24]), ([25, 18], [18, 25]), ([22, 26, 18, 18], [18, 22, 26]), ([27, 18], [18, 27]), ([18, 28, 2], [2, 18, 28]), ([2, 29], [2, 29])])
def impl_PathThrough.B17 : List Nat := [0, 1, 3, 7, 7, 31, 63, 127, 255, 511, 511, 2047, 4095, 511, 16383, 32767, 65535, 131071, 262143, 524287, 524287, 2097151, 4194303, 524287, 524287, 25690111, 59244543, 134217727, 268435455, 536870911, 1073741823]
theorem impl_PathThrough.tab17 : rtab .any (opsOf Tryd.f38 17) = impl_PathThrough.T17 := by kernel_rfl
theorem impl_PathThrough.bits17 : waitsOk impl_PathThrough.T17.2 impl_PathThrough.B17 = true := by kernel_rfl
def impl_PathThrough.T18 : Bool × List (List Nat × List Nat) := (true, [([], []), ([], []), ([0, 1], [0, 1]), ([2], [2]), ([], []), ([4], [4]), ([3, 5], [3, 5]), ([0, 1, 0, 1, 2, 3, 4, 5, 6], [0, 1]), ([7, 6, 0, 1, 2, 3, 4, 5, 6], [6, 7])])
def impl_PathThrough.B18 : List Nat := [0, 0, 3, 7, 0, 16, 63, 127, 255]
theorem impl_PathThrough.tab18 : rtab .any (opsOf Tryd.f38 18) = impl_PathThrough.T18 := by kernel_rfl
theorem impl_PathThrough.bits18 : waitsOk impl_PathThrough.T18.2 impl_PathThrough.B18 = true := by kernel_rfl
def impl_PathThrough.T27 : Bool × List (List Nat × List Nat) := (true, [([], []), ([], []), ([0, 1], [0, 1]), ([2], [2]), ([], []), ([3, 4], [3, 4]), ([5], [5]), ([6], [6]), ([7], [7]), ([8], [8]), ([9, 8], [8, 9]), ([10, 8], [8, 10]), ([11, 8, 8], [8, 11]), ([12], [12]), ([12], [12]), ([14, 12], [12, 14]), ([15, 12], [12, 15]), ([13, 16, 12], [12, 13, 16]), ([17, 12], [12, 17]), ([12], [12]), ([12], [12]), ([19, 20, 12], [12, 19, 20]), ([21, 12], [12, 21]), ([18, 22, 12, 12], [12, 18, 22]), ([23, 12], [12, 23]), ([12, 24, 8], [8, 12, 24]), ([8, 25], [8, 25])])
def impl_PathThrough.B27 : List Nat := [0, 0, 3, 7, 0, 31, 63, 127, 255, 511, 1023, 2047, 4095, 8191, 8191, 24575, 57343, 131071, 262143, 8191, 8191, 1581055, 3678207, 8388607, 16777215, 33554431, 67108863]
theorem impl_PathThrough.tab27 : rtab .any (opsOf Tryd.f38 27) = impl_PathThrough.T27 := by kernel_rfl
theorem impl_PathThrough.bits27 : waitsOk impl_PathThrough.T27.2 impl_PathThrough.B27 = true := by kernel_rfl

end Go.Proofs.YtnhifbopicjicaaDoor.PFnPathsThroughWords
