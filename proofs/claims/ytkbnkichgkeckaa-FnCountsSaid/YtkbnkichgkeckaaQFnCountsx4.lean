/- What the law's functions compute, and that the calls come to just that: turned from a printed text. No condition. -/
import Derived.Test.YtkbnkichgkeckaaQFnCountsx0
import Derived.Test.YtkbnkichgkeckaaQFnCountsx1
import Derived.Test.YtkbnkichgkeckaaQFnCountsx2
import Derived.Test.YtkbnkichgkeckaaQFnCountsx3
namespace Go.Proofs.Ytkbnkichgkeckaa.PFnCounts
open Go.RowKit Go.Proofs.YtkbnkichgkeckaaW.PrintWords Go.Proofs.YtkbnkichgkeckaaW.PrintLast Go.Proofs.YtkbnkichgkeckaaW.PrintMore
attribute [local go_sem] max2_int min2_int max_two min_two max_three min_three max_four min_four   -- for this text's walks alone
set_option linter.unusedVariables false
set_option linter.unusedSimpArgs false

/-! ### laws_FnCounts: function 6 -/
mutual
def laws_FnCounts.j0 : Nat → Int → Int → List (List Int) → Bool → Int → Bool → Option (Bool)
  | 0, _, _, _, _, _, _ => none
  | k + 1, x5, x6, x7, x8, x11, x78 => if x78 = true then (some false) else (if x8 = true then (if (x7.length : Int) = x11 then (laws_FnCounts.l0 k x5 x6 x7 x11 x7 (x7.length : Int) 0) else (some false)) else (some true))
def laws_FnCounts.l0 : Nat → Int → Int → List (List Int) → Int → List (List Int) → Int → Int → Option (Bool)
  | 0, _, _, _, _, _, _, _ => none
  | k + 1, x5, x6, x7, x11, x85, x86, x87 => if x87 < x86 then (if 0 ≤ x87 then (if x87 < (x85.length : Int) then ((impl_IsCombination.f k x5 (rd_L2 x85 x87)).bind fun t223 => (if t223 = true then (if ((rd_L2 x85 x87).length : Int) = x6 then (if x87 > 0 then (if 0 ≤ (wrap64 (x87 - 1)) then (if (wrap64 (x87 - 1)) < (x7.length : Int) then ((laws_uLess.f k (rd_L2 x7 (wrap64 (x87 - 1))) (rd_L2 x85 x87)).bind fun t225 => (if t225 = true then (laws_FnCounts.l0 k x5 x6 x7 x11 x85 x86 (wrap64 (x87 + 1))) else (some false))) else (none)) else (none)) else (laws_FnCounts.l0 k x5 x6 x7 x11 x85 x86 (wrap64 (x87 + 1)))) else (some false)) else (some false))) else (none)) else (none)) else (if x6 > x5 then (some (x11 == 0)) else ((impl_Factorial.f k x5).bind fun bt226 => ((impl_Factorial.f k x6).bind fun bt228 => ((impl_Factorial.f k (wrap64 (x5 - x6))).bind fun bt230 => (if bt226.2 = true then (if bt228.2 = true then (if bt230.2 = true then (some ((wrap64 ((wrap64 (x11 * bt228.1)) * bt230.1)) == bt226.1)) else (some false)) else (some false)) else (some false))))))
end
def laws_FnCounts.f (k : Nat) (l0 : List Int) (l1 : List Int) : Option (Bool) := (laws_big.f l0 l1).bind fun t206 => (if t206 = true then (some true) else ((spec_DrawAllCombinations.f l0).bind fun bt207 => ((impl_AllCombinations.f k bt207.1 bt207.2).bind fun bt209 => ((spec_AllCombinations.f k bt207.1 bt207.2).bind fun bt213 => ((impl_Binomial.f k bt207.1 bt207.2).bind fun bt217 => ((spec_Binomial.f k bt207.1 bt207.2).bind fun bt219 => (if (bt209.2 != bt213.2) = true then (laws_FnCounts.j0 k bt207.1 bt207.2 bt209.1 bt209.2 bt217.1 true) else ((laws_uLists.f k bt209.1 bt213.1).bind fun t221 => (if t221 = true then (if (bt217.2 != bt219.2) = true then (laws_FnCounts.j0 k bt207.1 bt207.2 bt209.1 bt209.2 bt217.1 true) else (if bt217.1 = bt219.1 then (laws_FnCounts.j0 k bt207.1 bt207.2 bt209.1 bt209.2 bt217.1 (bt209.2 != bt217.2)) else (laws_FnCounts.j0 k bt207.1 bt207.2 bt209.1 bt209.2 bt217.1 true))) else (laws_FnCounts.j0 k bt207.1 bt207.2 bt209.1 bt209.2 bt217.1 true))))))))))
theorem laws_FnCounts.mono_l : ∀ k, (∀ y0 y1 y2 y3 y4 y5, LeO (laws_FnCounts.j0 k y0 y1 y2 y3 y4 y5) (laws_FnCounts.j0 (k + 1) y0 y1 y2 y3 y4 y5)) ∧ (∀ y0 y1 y2 y3 y4 y5 y6, LeO (laws_FnCounts.l0 k y0 y1 y2 y3 y4 y5 y6) (laws_FnCounts.l0 (k + 1) y0 y1 y2 y3 y4 y5 y6))
  | 0 => ⟨fun _ _ _ _ _ _ r h => by simp [laws_FnCounts.j0] at h, fun _ _ _ _ _ _ _ r h => by simp [laws_FnCounts.l0] at h⟩
  | k + 1 => by
    obtain ⟨ih0, ih1⟩ := laws_FnCounts.mono_l k
    refine ⟨?_, ?_⟩
    · intro y0 y1 y2 y3 y4 y5
      unfold laws_FnCounts.j0
      repeat' first
      | (with_reducible exact ih0 _ _ _ _ _ _)
      | (with_reducible exact ih1 _ _ _ _ _ _ _)
      | (with_reducible exact impl_AllCombinations.mono _ _ _)
      | (with_reducible exact impl_Binomial.mono _ _ _)
      | (with_reducible exact impl_Factorial.mono _ _)
      | (with_reducible exact impl_IsCombination.mono _ _ _)
      | (with_reducible exact laws_uLess.mono _ _ _)
      | (with_reducible exact laws_uLists.mono _ _ _)
      | (with_reducible exact spec_AllCombinations.mono _ _ _)
      | (with_reducible exact spec_Binomial.mono _ _ _)
      | (with_reducible exact LeO.refl _)
      | (with_reducible exact LeO.none _)
      | (with_reducible refine LeO.ite ?_ ?_)
      | (with_reducible refine LeO.bind ?_ (fun _ => ?_))
      | exact ih0 _ _ _ _ _ _
      | exact ih1 _ _ _ _ _ _ _
      | exact impl_AllCombinations.mono _ _ _
      | exact impl_Binomial.mono _ _ _
      | exact impl_Factorial.mono _ _
      | exact impl_IsCombination.mono _ _ _
      | exact laws_uLess.mono _ _ _
      | exact laws_uLists.mono _ _ _
      | exact spec_AllCombinations.mono _ _ _
      | exact spec_Binomial.mono _ _ _
      | exact LeO.none _
      | refine LeO.ite ?_ ?_
      | refine LeO.bind ?_ (fun _ => ?_)
    · intro y0 y1 y2 y3 y4 y5 y6
      unfold laws_FnCounts.l0
      repeat' first
      | (with_reducible exact ih0 _ _ _ _ _ _)
      | (with_reducible exact ih1 _ _ _ _ _ _ _)
      | (with_reducible exact impl_AllCombinations.mono _ _ _)
      | (with_reducible exact impl_Binomial.mono _ _ _)
      | (with_reducible exact impl_Factorial.mono _ _)
      | (with_reducible exact impl_IsCombination.mono _ _ _)
      | (with_reducible exact laws_uLess.mono _ _ _)
      | (with_reducible exact laws_uLists.mono _ _ _)
      | (with_reducible exact spec_AllCombinations.mono _ _ _)
      | (with_reducible exact spec_Binomial.mono _ _ _)
      | (with_reducible exact LeO.refl _)
      | (with_reducible exact LeO.none _)
      | (with_reducible refine LeO.ite ?_ ?_)
      | (with_reducible refine LeO.bind ?_ (fun _ => ?_))
      | exact ih0 _ _ _ _ _ _
      | exact ih1 _ _ _ _ _ _ _
      | exact impl_AllCombinations.mono _ _ _
      | exact impl_Binomial.mono _ _ _
      | exact impl_Factorial.mono _ _
      | exact impl_IsCombination.mono _ _ _
      | exact laws_uLess.mono _ _ _
      | exact laws_uLists.mono _ _ _
      | exact spec_AllCombinations.mono _ _ _
      | exact spec_Binomial.mono _ _ _
      | exact LeO.none _
      | refine LeO.ite ?_ ?_
      | refine LeO.bind ?_ (fun _ => ?_)
theorem laws_FnCounts.mono : ∀ a0 a1 k, LeO (laws_FnCounts.f k a0 a1) (laws_FnCounts.f (k + 1) a0 a1) := by
  intro a0 a1 k
  obtain ⟨ih0, ih1⟩ := laws_FnCounts.mono_l k
  unfold laws_FnCounts.f
  repeat' first
      | (with_reducible exact ih0 _ _ _ _ _ _)
      | (with_reducible exact ih1 _ _ _ _ _ _ _)
      | (with_reducible exact impl_AllCombinations.mono _ _ _)
      | (with_reducible exact impl_Binomial.mono _ _ _)
      | (with_reducible exact impl_Factorial.mono _ _)
      | (with_reducible exact impl_IsCombination.mono _ _ _)
      | (with_reducible exact laws_uLess.mono _ _ _)
      | (with_reducible exact laws_uLists.mono _ _ _)
      | (with_reducible exact spec_AllCombinations.mono _ _ _)
      | (with_reducible exact spec_Binomial.mono _ _ _)
      | (with_reducible exact LeO.refl _)
      | (with_reducible exact LeO.none _)
      | (with_reducible refine LeO.ite ?_ ?_)
      | (with_reducible refine LeO.bind ?_ (fun _ => ?_))
      | exact ih0 _ _ _ _ _ _
      | exact ih1 _ _ _ _ _ _ _
      | exact impl_AllCombinations.mono _ _ _
      | exact impl_Binomial.mono _ _ _
      | exact impl_Factorial.mono _ _
      | exact impl_IsCombination.mono _ _ _
      | exact laws_uLess.mono _ _ _
      | exact laws_uLists.mono _ _ _
      | exact spec_AllCombinations.mono _ _ _
      | exact spec_Binomial.mono _ _ _
      | exact LeO.none _
      | refine LeO.ite ?_ ?_
      | refine LeO.bind ?_ (fun _ => ?_)
set_option maxHeartbeats 8000000 in
set_option maxRecDepth 100000 in
theorem laws_FnCounts.calls (k : Nat) (A0 : Option Addr) (c0 : Nat) (l0 : List Int) (A1 : Option Addr) (c1 : Nat) (l1 : List Int) (r : Bool) (w : World) (hr0 : Kd.C (Kd.int .u8) w A0 l0.length l0) (hc0 : l0.length ≤ c0) (hr1 : Kd.C (Kd.int .u8) w A1 l1.length l1) (hc1 : l1.length ≤ c1) (h : laws_FnCounts.f k l0 l1 = some r) :
    Calls Try.prog 6 #[.slice A0 l0.length c0, .slice A1 l1.length c1] w fun e w' => e = .returned (.bool r) ∧ Below w.heap.size w w' := by
  have HR0 := Aside0.mk hr0
  have HC0 := Aside0.mk hc0
  clear hr0 hc0
  have HR1 := Aside0.mk hr1
  have HC1 := Aside0.mk hc1
  clear hr1 hc1
  have HB := Aside0.mk (Below.refl w.heap.size w)
  have H : ((laws_big.f l0 l1).bind fun t206 => (if t206 = true then (some true) else ((spec_DrawAllCombinations.f l0).bind fun bt207 => ((impl_AllCombinations.f k bt207.1 bt207.2).bind fun bt209 => ((spec_AllCombinations.f k bt207.1 bt207.2).bind fun bt213 => ((impl_Binomial.f k bt207.1 bt207.2).bind fun bt217 => ((spec_Binomial.f k bt207.1 bt207.2).bind fun bt219 => (if (bt209.2 != bt213.2) = true then (laws_FnCounts.j0 k bt207.1 bt207.2 bt209.1 bt209.2 bt217.1 true) else ((laws_uLists.f k bt209.1 bt213.1).bind fun t221 => (if t221 = true then (if (bt217.2 != bt219.2) = true then (laws_FnCounts.j0 k bt207.1 bt207.2 bt209.1 bt209.2 bt217.1 true) else (if bt217.1 = bt219.1 then (laws_FnCounts.j0 k bt207.1 bt207.2 bt209.1 bt209.2 bt217.1 (bt209.2 != bt217.2)) else (laws_FnCounts.j0 k bt207.1 bt207.2 bt209.1 bt209.2 bt217.1 true))) else (laws_FnCounts.j0 k bt207.1 bt207.2 bt209.1 bt209.2 bt217.1 true))))))))))) = some r := h
  clear h
  replace H := Option.bind_eq_some_iff.mp H
  obtain ⟨t206, A30, H⟩ := H
  replace H : (if t206 = true then (some true) else ((spec_DrawAllCombinations.f l0).bind fun bt207 => ((impl_AllCombinations.f k bt207.1 bt207.2).bind fun bt209 => ((spec_AllCombinations.f k bt207.1 bt207.2).bind fun bt213 => ((impl_Binomial.f k bt207.1 bt207.2).bind fun bt217 => ((spec_Binomial.f k bt207.1 bt207.2).bind fun bt219 => (if (bt209.2 != bt213.2) = true then (laws_FnCounts.j0 k bt207.1 bt207.2 bt209.1 bt209.2 bt217.1 true) else ((laws_uLists.f k bt209.1 bt213.1).bind fun t221 => (if t221 = true then (if (bt217.2 != bt219.2) = true then (laws_FnCounts.j0 k bt207.1 bt207.2 bt209.1 bt209.2 bt217.1 true) else (if bt217.1 = bt219.1 then (laws_FnCounts.j0 k bt207.1 bt207.2 bt209.1 bt209.2 bt217.1 (bt209.2 != bt217.2)) else (laws_FnCounts.j0 k bt207.1 bt207.2 bt209.1 bt209.2 bt217.1 true))) else (laws_FnCounts.j0 k bt207.1 bt207.2 bt209.1 bt209.2 bt217.1 true)))))))))) = some r := H
  have A3 := Aside0.mk A30
  clear A30
  by_cases c4 : t206 = true
  · subst c4
    have H1 : (some true) = some r := by rw [if_pos rfl] at H; exact H
    clear H
    have H := H1
    clear H1
    obtain rfl := Option.some.inj H
    go_enter Try.func6, Try.ntmps6
    go_wp2_with (first | ((with_reducible refine gate_callee (f := 28) rfl ?_); refine goesL_ (some 25) rfl rfl Try.func28 (by kernel_rfl) rfl #[.slice A0 l0.length c0, .slice A1 l1.length c1] rfl (by (try simp only [List.map_toArray, List.map_cons, List.map_nil]); first | done | rfl | (simp only [List.length_drop, List.length_take]; rfl)) ?_; (with_reducible refine (laws_big.calls _ _ l0 _ _ l1 true _ ?side1 ?side2 ?side3 ?side4 A3.out).mono ?_); (case side1 => repeat (first | exact HR0.out | (with_reducible refine Kd.C_alloc ?_ _) | (with_reducible refine Kd.C_drewN ?_ _) | (with_reducible refine Kd.C_drew ?_))); (case side2 => exact HC0.out); (case side3 => repeat (first | exact HR1.out | (with_reducible refine Kd.C_alloc ?_ _) | (with_reducible refine Kd.C_drewN ?_ _) | (with_reducible refine Kd.C_drew ?_))); (case side4 => exact HC1.out); rintro e w' ⟨rfl, ⟨nd, rfl⟩⟩; refine ⟨_, rfl, ?_⟩))
    go_ret
    exact ⟨by first | rfl | (simp [errW_none, errW_some] <;> rfl) | (simp [*, errW_none, errW_some] <;> rfl), by repeat (first | (with_reducible first | exact HB.out | apply below_alloc | apply pw_below_drewN | apply below_drew1) | exact HB.out | exact Below.refl _ _)⟩
  · replace c4 := Bool.eq_false_iff.mpr c4
    subst c4
    have H1 : ((spec_DrawAllCombinations.f l0).bind fun bt207 => ((impl_AllCombinations.f k bt207.1 bt207.2).bind fun bt209 => ((spec_AllCombinations.f k bt207.1 bt207.2).bind fun bt213 => ((impl_Binomial.f k bt207.1 bt207.2).bind fun bt217 => ((spec_Binomial.f k bt207.1 bt207.2).bind fun bt219 => (if (bt209.2 != bt213.2) = true then (laws_FnCounts.j0 k bt207.1 bt207.2 bt209.1 bt209.2 bt217.1 true) else ((laws_uLists.f k bt209.1 bt213.1).bind fun t221 => (if t221 = true then (if (bt217.2 != bt219.2) = true then (laws_FnCounts.j0 k bt207.1 bt207.2 bt209.1 bt209.2 bt217.1 true) else (if bt217.1 = bt219.1 then (laws_FnCounts.j0 k bt207.1 bt207.2 bt209.1 bt209.2 bt217.1 (bt209.2 != bt217.2)) else (laws_FnCounts.j0 k bt207.1 bt207.2 bt209.1 bt209.2 bt217.1 true))) else (laws_FnCounts.j0 k bt207.1 bt207.2 bt209.1 bt209.2 bt217.1 true))))))))) = some r := by rw [if_neg (show ¬ (false = true) by decide)] at H; exact H
    clear H
    have H := H1
    clear H1
    replace H := Option.bind_eq_some_iff.mp H
    obtain ⟨⟨t207, t208⟩, A50, H⟩ := H
    replace H : ((impl_AllCombinations.f k t207 t208).bind fun bt209 => ((spec_AllCombinations.f k t207 t208).bind fun bt213 => ((impl_Binomial.f k t207 t208).bind fun bt217 => ((spec_Binomial.f k t207 t208).bind fun bt219 => (if (bt209.2 != bt213.2) = true then (laws_FnCounts.j0 k t207 t208 bt209.1 bt209.2 bt217.1 true) else ((laws_uLists.f k bt209.1 bt213.1).bind fun t221 => (if t221 = true then (if (bt217.2 != bt219.2) = true then (laws_FnCounts.j0 k t207 t208 bt209.1 bt209.2 bt217.1 true) else (if bt217.1 = bt219.1 then (laws_FnCounts.j0 k t207 t208 bt209.1 bt209.2 bt217.1 (bt209.2 != bt217.2)) else (laws_FnCounts.j0 k t207 t208 bt209.1 bt209.2 bt217.1 true))) else (laws_FnCounts.j0 k t207 t208 bt209.1 bt209.2 bt217.1 true)))))))) = some r := H
    have A5 := Aside0.mk A50
    clear A50
    replace H := Option.bind_eq_some_iff.mp H
    obtain ⟨⟨t209, t210⟩, A60, H⟩ := H
    replace H : ((spec_AllCombinations.f k t207 t208).bind fun bt213 => ((impl_Binomial.f k t207 t208).bind fun bt217 => ((spec_Binomial.f k t207 t208).bind fun bt219 => (if (t210 != bt213.2) = true then (laws_FnCounts.j0 k t207 t208 t209 t210 bt217.1 true) else ((laws_uLists.f k t209 bt213.1).bind fun t221 => (if t221 = true then (if (bt217.2 != bt219.2) = true then (laws_FnCounts.j0 k t207 t208 t209 t210 bt217.1 true) else (if bt217.1 = bt219.1 then (laws_FnCounts.j0 k t207 t208 t209 t210 bt217.1 (t210 != bt217.2)) else (laws_FnCounts.j0 k t207 t208 t209 t210 bt217.1 true))) else (laws_FnCounts.j0 k t207 t208 t209 t210 bt217.1 true))))))) = some r := H
    have A6 := Aside0.mk A60
    clear A60
    replace H := Option.bind_eq_some_iff.mp H
    obtain ⟨⟨t213, t214⟩, A70, H⟩ := H
    replace H : ((impl_Binomial.f k t207 t208).bind fun bt217 => ((spec_Binomial.f k t207 t208).bind fun bt219 => (if (t210 != t214) = true then (laws_FnCounts.j0 k t207 t208 t209 t210 bt217.1 true) else ((laws_uLists.f k t209 t213).bind fun t221 => (if t221 = true then (if (bt217.2 != bt219.2) = true then (laws_FnCounts.j0 k t207 t208 t209 t210 bt217.1 true) else (if bt217.1 = bt219.1 then (laws_FnCounts.j0 k t207 t208 t209 t210 bt217.1 (t210 != bt217.2)) else (laws_FnCounts.j0 k t207 t208 t209 t210 bt217.1 true))) else (laws_FnCounts.j0 k t207 t208 t209 t210 bt217.1 true)))))) = some r := H
    have A7 := Aside0.mk A70
    clear A70
    replace H := Option.bind_eq_some_iff.mp H
    obtain ⟨⟨t217, t218⟩, A80, H⟩ := H
    replace H : ((spec_Binomial.f k t207 t208).bind fun bt219 => (if (t210 != t214) = true then (laws_FnCounts.j0 k t207 t208 t209 t210 t217 true) else ((laws_uLists.f k t209 t213).bind fun t221 => (if t221 = true then (if (t218 != bt219.2) = true then (laws_FnCounts.j0 k t207 t208 t209 t210 t217 true) else (if t217 = bt219.1 then (laws_FnCounts.j0 k t207 t208 t209 t210 t217 (t210 != t218)) else (laws_FnCounts.j0 k t207 t208 t209 t210 t217 true))) else (laws_FnCounts.j0 k t207 t208 t209 t210 t217 true))))) = some r := H
    have A8 := Aside0.mk A80
    clear A80
    replace H := Option.bind_eq_some_iff.mp H
    obtain ⟨⟨t219, t220⟩, A90, H⟩ := H
    replace H : (if (t210 != t214) = true then (laws_FnCounts.j0 k t207 t208 t209 t210 t217 true) else ((laws_uLists.f k t209 t213).bind fun t221 => (if t221 = true then (if (t218 != t220) = true then (laws_FnCounts.j0 k t207 t208 t209 t210 t217 true) else (if t217 = t219 then (laws_FnCounts.j0 k t207 t208 t209 t210 t217 (t210 != t218)) else (laws_FnCounts.j0 k t207 t208 t209 t210 t217 true))) else (laws_FnCounts.j0 k t207 t208 t209 t210 t217 true)))) = some r := H
    have A9 := Aside0.mk A90
    clear A90
    have HC10 := Aside0.mk H
    clear H
    go_enter Try.func6, Try.ntmps6
    go_upto_region 8 with (first | ((with_reducible refine gate_callee (f := 28) rfl ?_); refine goesL_ (some 25) rfl rfl Try.func28 (by kernel_rfl) rfl #[.slice A0 l0.length c0, .slice A1 l1.length c1] rfl (by (try simp only [List.map_toArray, List.map_cons, List.map_nil]); first | done | rfl | (simp only [List.length_drop, List.length_take]; rfl)) ?_; (with_reducible refine (laws_big.calls _ _ l0 _ _ l1 false _ ?side1 ?side2 ?side3 ?side4 A3.out).mono ?_); (case side1 => repeat (first | exact HR0.out | (with_reducible refine Kd.C_alloc ?_ _) | (with_reducible refine Kd.C_drewN ?_ _) | (with_reducible refine Kd.C_drew ?_))); (case side2 => exact HC0.out); (case side3 => repeat (first | exact HR1.out | (with_reducible refine Kd.C_alloc ?_ _) | (with_reducible refine Kd.C_drewN ?_ _) | (with_reducible refine Kd.C_drew ?_))); (case side4 => exact HC1.out); rintro e w' ⟨rfl, ⟨nd, rfl⟩⟩; refine ⟨_, rfl, ?_⟩) | ((with_reducible refine gate_callee (f := 29) rfl ?_); refine goesL_ (some 28) rfl rfl Try.func29 (by kernel_rfl) rfl #[.slice A0 l0.length c0] rfl (by (try simp only [List.map_toArray, List.map_cons, List.map_nil]); first | done | rfl | (simp only [List.length_drop, List.length_take]; rfl)) ?_; (with_reducible refine (spec_DrawAllCombinations.calls _ _ l0 t207 t208 _ ?side1 ?side2 A5.out).mono ?_); (case side1 => repeat (first | exact HR0.out | (with_reducible refine Kd.C_alloc ?_ _) | (with_reducible refine Kd.C_drewN ?_ _) | (with_reducible refine Kd.C_drew ?_))); (case side2 => exact HC0.out); rintro e w11 ⟨rfl, hb⟩; refine ⟨_, rfl, ?_⟩; have n0_ := Aside0.mk (below_step (by repeat (first | (with_reducible first | exact HB.out | apply below_alloc | apply pw_below_drewN | apply below_drew1) | exact HB.out | exact Below.refl _ _)) hb); clear HB; have HB := n0_; clear n0_; (try clear hb); (try clear hb2); (try clear hk); (try clear hi)) | ((with_reducible refine gate_callee (f := 30) rfl ?_); refine goesL_ (some 34) rfl rfl Try.func30 (by kernel_rfl) rfl #[.int .i64 t207, .int .i64 t208] rfl (by (try simp only [List.map_toArray, List.map_cons, List.map_nil]); first | done | rfl | (simp only [List.length_drop, List.length_take]; rfl)) ?_; (with_reducible refine (impl_AllCombinations.calls k t207 t208 t209 t210 _ A6.out).mono ?_); rintro e w12 ⟨v211, rfl, ho0, hb⟩; refine ⟨_, rfl, ?_⟩; have n0_ := Aside0.mk (Kd.S_lower ho0 (below_size (by repeat (first | (with_reducible first | exact HB.out | apply below_alloc | apply pw_below_drewN | apply below_drew1) | exact HB.out | exact Below.refl _ _)))); have n1_ := Aside0.mk (below_step (by repeat (first | (with_reducible first | exact HB.out | apply below_alloc | apply pw_below_drewN | apply below_drew1) | exact HB.out | exact Below.refl _ _)) hb); clear HB; have HO212 := n0_; have HB := n1_; clear n0_ n1_; (try clear hb); (try clear hb2); (try clear hk); (try clear hi); (try clear ho0)) | ((with_reducible refine gate_callee (f := 31) rfl ?_); refine goesL_ (some 40) rfl rfl Try.func31 (by kernel_rfl) rfl #[.int .i64 t207, .int .i64 t208] rfl (by (try simp only [List.map_toArray, List.map_cons, List.map_nil]); first | done | rfl | (simp only [List.length_drop, List.length_take]; rfl)) ?_; (with_reducible refine (spec_AllCombinations.calls k t207 t208 t213 t214 _ A7.out).mono ?_); rintro e w13 ⟨v215, rfl, ho0, hb⟩; refine ⟨_, rfl, ?_⟩; have n0_ := Aside0.mk (Kd.S_elder' (by (with_reducible repeat (first | apply Kd.S_alloc | apply Kd.S_drewN | apply Kd.S_drew)); exact HO212.out) (Kd.S_base ho0) hb); have n1_ := Aside0.mk (Kd.S_lower (Kd.S_new' ho0 (Kd.S_lt (by (with_reducible repeat (first | apply Kd.S_alloc | apply Kd.S_drewN | apply Kd.S_drew)); exact HO212.out))) (below_size (by repeat (first | (with_reducible first | exact HB.out | apply below_alloc | apply pw_below_drewN | apply below_drew1) | exact HB.out | exact Below.refl _ _)))); have n2_ := Aside0.mk (below_step (by repeat (first | (with_reducible first | exact HB.out | apply below_alloc | apply pw_below_drewN | apply below_drew1) | exact HB.out | exact Below.refl _ _)) hb); clear HO212; clear HB; have HO212 := n0_; have HO216 := n1_; have HB := n2_; clear n0_ n1_ n2_; (try clear hb); (try clear hb2); (try clear hk); (try clear hi); (try clear ho0)) | ((with_reducible refine gate_callee (f := 32) rfl ?_); refine goesL_ (some 46) rfl rfl Try.func32 (by kernel_rfl) rfl #[.int .i64 t207, .int .i64 t208] rfl (by (try simp only [List.map_toArray, List.map_cons, List.map_nil]); first | done | rfl | (simp only [List.length_drop, List.length_take]; rfl)) ?_; (with_reducible refine (impl_Binomial.calls k t207 t208 t217 t218 _ A8.out).mono ?_); rintro e w' ⟨rfl, ⟨nd, rfl⟩⟩; refine ⟨_, rfl, ?_⟩) | ((with_reducible refine gate_callee (f := 33) rfl ?_); refine goesL_ (some 52) rfl rfl Try.func33 (by kernel_rfl) rfl #[.int .i64 t207, .int .i64 t208] rfl (by (try simp only [List.map_toArray, List.map_cons, List.map_nil]); first | done | rfl | (simp only [List.length_drop, List.length_take]; rfl)) ?_; (with_reducible refine (spec_Binomial.calls k t207 t208 t219 t220 _ A9.out).mono ?_); rintro e w' ⟨rfl, ⟨nd, rfl⟩⟩; refine ⟨_, rfl, ?_⟩))
    (try simp only [Act.put, List.setIfInBounds_toArray, List.set_cons_zero, List.set_cons_succ])
    go_cut [78] (fun v78 wc => ∃ (kq : Nat) (x78_9 : Bool), v78 = .bool x78_9 ∧ Aside0 (laws_FnCounts.j0 kq t207 t208 t209 t210 t217 x78_9 = some r) ∧ Aside0 (kq ≤ k) ∧ Aside0 (Kd.S (Kd.slice 3 (Kd.int .i64)) 22 wc w.heap.size (fun _ => True) v211 t209) ∧ Aside0 (Below w.heap.size w wc))
    case first =>
      have H := HC10.out
      clear HC10
      by_cases c14 : (t210 != t214) = true
      · rw [if_pos c14] at H
        have c14b0 : (t210 != t214) = true := c14
        (try (have c14b1 : decide (t210 = t214) = false := by simpa using c14))
        (try (have c14b2 : (t210 == t214) = false := by simpa using c14))
        (try (have c14b3 : ¬ (t210 = t214) := by simpa using c14))
        clear c14
        (first | rw [c14b0] | (simp only [i64_w, i32_w]; rw [c14b0]) | skip)
        have H' := Aside0.mk H
        clear H
        go_wp2
        go_meet
        case rel => exact ⟨_, (true), (by first | rfl | (simp; done) | (simp [*]; done)), H', ⟨by first | omega | exact Nat.le_refl _⟩, ⟨by (with_reducible repeat (first | apply Kd.S_alloc | apply Kd.S_drewN | apply Kd.S_drew)); exact Kd.S_mono HO212.out (fun _ hk => trivial)⟩, ⟨by repeat (first | (with_reducible first | exact HB.out | apply below_alloc | apply pw_below_drewN | apply below_drew1) | exact HB.out | exact Below.refl _ _)⟩⟩
      · rw [if_neg c14] at H
        have c14b0 : (t210 != t214) = false := by simpa using c14
        (try (have c14b1 : decide (t210 = t214) = true := by simpa using c14))
        (try (have c14b2 : (t210 == t214) = true := by simpa using c14))
        clear c14
        (first | rw [c14b0] | (simp only [i64_w, i32_w]; rw [c14b0]) | skip)
        replace H := Option.bind_eq_some_iff.mp H
        obtain ⟨t221, A150, H⟩ := H
        replace H : (if t221 = true then (if (t218 != t220) = true then (laws_FnCounts.j0 k t207 t208 t209 t210 t217 true) else (if t217 = t219 then (laws_FnCounts.j0 k t207 t208 t209 t210 t217 (t210 != t218)) else (laws_FnCounts.j0 k t207 t208 t209 t210 t217 true))) else (laws_FnCounts.j0 k t207 t208 t209 t210 t217 true)) = some r := H
        have A15 := Aside0.mk A150
        clear A150
        by_cases c16 : t221 = true
        · subst c16
          have H1 : (if (t218 != t220) = true then (laws_FnCounts.j0 k t207 t208 t209 t210 t217 true) else (if t217 = t219 then (laws_FnCounts.j0 k t207 t208 t209 t210 t217 (t210 != t218)) else (laws_FnCounts.j0 k t207 t208 t209 t210 t217 true))) = some r := by rw [if_pos rfl] at H; exact H
          clear H
          have H := H1
          clear H1
          by_cases c17 : (t218 != t220) = true
          · rw [if_pos c17] at H
            have c17b0 : (t218 != t220) = true := c17
            (try (have c17b1 : decide (t218 = t220) = false := by simpa using c17))
            (try (have c17b2 : (t218 == t220) = false := by simpa using c17))
            (try (have c17b3 : ¬ (t218 = t220) := by simpa using c17))
            clear c17
            have H' := Aside0.mk H
            clear H
            obtain ⟨Ao18, co18, eo18⟩ := Kd.S_slice HO212.out
            subst eo18
            obtain ⟨Ao19, co19, eo19⟩ := Kd.S_slice HO216.out
            subst eo19
            go_wp2_with (first | (go_at_call 34; (with_reducible refine (laws_uLists.calls k _ _ t209 _ _ t213 true _ ?side1 ?side2 ?side3 ?side4 A15.out).mono ?_); (case side1 => repeat (first | exact (Kd.S_reads' HO212.out).2.2 | (with_reducible refine Kd.C_alloc ?_ _) | (with_reducible refine Kd.C_drewN ?_ _) | (with_reducible refine Kd.C_drew ?_))); (case side2 => exact (Kd.S_reads' HO212.out).2.1); (case side3 => repeat (first | exact (Kd.S_reads' HO216.out).2.2 | (with_reducible refine Kd.C_alloc ?_ _) | (with_reducible refine Kd.C_drewN ?_ _) | (with_reducible refine Kd.C_drew ?_))); (case side4 => exact (Kd.S_reads' HO216.out).2.1); rintro e w' ⟨rfl, ⟨nd, rfl⟩⟩))
            go_meet
            case rel => exact ⟨_, (true), (by first | rfl | (simp; done) | (simp [*]; done)), H', ⟨by first | omega | exact Nat.le_refl _⟩, ⟨by (with_reducible repeat (first | apply Kd.S_alloc | apply Kd.S_drewN | apply Kd.S_drew)); exact Kd.S_mono HO212.out (fun _ hk => trivial)⟩, ⟨by repeat (first | (with_reducible first | exact HB.out | apply below_alloc | apply pw_below_drewN | apply below_drew1) | exact HB.out | exact Below.refl _ _)⟩⟩
          · rw [if_neg c17] at H
            have c17b0 : (t218 != t220) = false := by simpa using c17
            (try (have c17b1 : decide (t218 = t220) = true := by simpa using c17))
            (try (have c17b2 : (t218 == t220) = true := by simpa using c17))
            clear c17
            by_cases c20 : t217 = t219
            · rw [if_pos c20] at H
              have c20b0 : (t217 == t219) = true := beq_iff_eq.mpr c20
              have c20b1 : (t217 != t219) = false := bne_eq_false_iff_eq.mpr c20
              clear c20
              have H' := Aside0.mk H
              clear H
              obtain ⟨Ao21, co21, eo21⟩ := Kd.S_slice HO212.out
              subst eo21
              obtain ⟨Ao22, co22, eo22⟩ := Kd.S_slice HO216.out
              subst eo22
              go_wp2_with (first | (go_at_call 34; (with_reducible refine (laws_uLists.calls k _ _ t209 _ _ t213 true _ ?side1 ?side2 ?side3 ?side4 A15.out).mono ?_); (case side1 => repeat (first | exact (Kd.S_reads' HO212.out).2.2 | (with_reducible refine Kd.C_alloc ?_ _) | (with_reducible refine Kd.C_drewN ?_ _) | (with_reducible refine Kd.C_drew ?_))); (case side2 => exact (Kd.S_reads' HO212.out).2.1); (case side3 => repeat (first | exact (Kd.S_reads' HO216.out).2.2 | (with_reducible refine Kd.C_alloc ?_ _) | (with_reducible refine Kd.C_drewN ?_ _) | (with_reducible refine Kd.C_drew ?_))); (case side4 => exact (Kd.S_reads' HO216.out).2.1); rintro e w' ⟨rfl, ⟨nd, rfl⟩⟩))
              go_meet
              case rel => exact ⟨_, ((t210 != t218)), (by first | rfl | (simp; done) | (simp [*]; done)), H', ⟨by first | omega | exact Nat.le_refl _⟩, ⟨by (with_reducible repeat (first | apply Kd.S_alloc | apply Kd.S_drewN | apply Kd.S_drew)); exact Kd.S_mono HO212.out (fun _ hk => trivial)⟩, ⟨by repeat (first | (with_reducible first | exact HB.out | apply below_alloc | apply pw_below_drewN | apply below_drew1) | exact HB.out | exact Below.refl _ _)⟩⟩
            · rw [if_neg c20] at H
              have c20b0 : (t217 == t219) = false := beq_eq_false_iff_ne.mpr c20
              have c20b1 : (t217 != t219) = true := bne_iff_ne.mpr c20
              have H' := Aside0.mk H
              clear H
              obtain ⟨Ao23, co23, eo23⟩ := Kd.S_slice HO212.out
              subst eo23
              obtain ⟨Ao24, co24, eo24⟩ := Kd.S_slice HO216.out
              subst eo24
              go_wp2_with (first | (go_at_call 34; (with_reducible refine (laws_uLists.calls k _ _ t209 _ _ t213 true _ ?side1 ?side2 ?side3 ?side4 A15.out).mono ?_); (case side1 => repeat (first | exact (Kd.S_reads' HO212.out).2.2 | (with_reducible refine Kd.C_alloc ?_ _) | (with_reducible refine Kd.C_drewN ?_ _) | (with_reducible refine Kd.C_drew ?_))); (case side2 => exact (Kd.S_reads' HO212.out).2.1); (case side3 => repeat (first | exact (Kd.S_reads' HO216.out).2.2 | (with_reducible refine Kd.C_alloc ?_ _) | (with_reducible refine Kd.C_drewN ?_ _) | (with_reducible refine Kd.C_drew ?_))); (case side4 => exact (Kd.S_reads' HO216.out).2.1); rintro e w' ⟨rfl, ⟨nd, rfl⟩⟩))
              go_meet
              case rel => exact ⟨_, (true), (by first | rfl | (simp; done) | (simp [*]; done)), H', ⟨by first | omega | exact Nat.le_refl _⟩, ⟨by (with_reducible repeat (first | apply Kd.S_alloc | apply Kd.S_drewN | apply Kd.S_drew)); exact Kd.S_mono HO212.out (fun _ hk => trivial)⟩, ⟨by repeat (first | (with_reducible first | exact HB.out | apply below_alloc | apply pw_below_drewN | apply below_drew1) | exact HB.out | exact Below.refl _ _)⟩⟩
        · replace c16 := Bool.eq_false_iff.mpr c16
          subst c16
          have H1 : (laws_FnCounts.j0 k t207 t208 t209 t210 t217 true) = some r := by rw [if_neg (show ¬ (false = true) by decide)] at H; exact H
          clear H
          have H := H1
          clear H1
          have H' := Aside0.mk H
          clear H
          obtain ⟨Ao25, co25, eo25⟩ := Kd.S_slice HO212.out
          subst eo25
          obtain ⟨Ao26, co26, eo26⟩ := Kd.S_slice HO216.out
          subst eo26
          go_wp2_with (first | (go_at_call 34; (with_reducible refine (laws_uLists.calls k _ _ t209 _ _ t213 false _ ?side1 ?side2 ?side3 ?side4 A15.out).mono ?_); (case side1 => repeat (first | exact (Kd.S_reads' HO212.out).2.2 | (with_reducible refine Kd.C_alloc ?_ _) | (with_reducible refine Kd.C_drewN ?_ _) | (with_reducible refine Kd.C_drew ?_))); (case side2 => exact (Kd.S_reads' HO212.out).2.1); (case side3 => repeat (first | exact (Kd.S_reads' HO216.out).2.2 | (with_reducible refine Kd.C_alloc ?_ _) | (with_reducible refine Kd.C_drewN ?_ _) | (with_reducible refine Kd.C_drew ?_))); (case side4 => exact (Kd.S_reads' HO216.out).2.1); rintro e w' ⟨rfl, ⟨nd, rfl⟩⟩))
          go_meet
          case rel => exact ⟨_, (true), (by first | rfl | (simp; done) | (simp [*]; done)), H', ⟨by first | omega | exact Nat.le_refl _⟩, ⟨by (with_reducible repeat (first | apply Kd.S_alloc | apply Kd.S_drewN | apply Kd.S_drew)); exact Kd.S_mono HO212.out (fun _ hk => trivial)⟩, ⟨by repeat (first | (with_reducible first | exact HB.out | apply below_alloc | apply pw_below_drewN | apply below_drew1) | exact HB.out | exact Below.refl _ _)⟩⟩
    case rest =>
      clear HC10
      try clear c1
      try clear c2
      try clear p2
      try clear c3
      try clear c4
      try clear c6
      try clear c14
      try clear c14b0
      try clear c14b1
      try clear c14b2
      try clear c16
      try clear c17
      try clear c17b0
      try clear c17b1
      try clear c17b2
      try clear c20
      try clear c20b0
      try clear c20b1
      obtain ⟨kq, x78_9, rfl, HA, HJ9, HO_7, HB⟩ := hcut
      cases kq with
      | zero => exact absurd HA.out (by simp [laws_FnCounts.j0])
      | succ kj9 =>
        have H := HA.out
        clear HA
        simp only [laws_FnCounts.j0] at H
        by_cases c27 : x78_9 = true
        · subst c27
          have H1 : (some false) = some r := by rw [if_pos rfl] at H; exact H
          clear H
          have H := H1
          clear H1
          obtain rfl := Option.some.inj H
          go_wp2
          go_ret
          exact ⟨by first | rfl | (simp [errW_none, errW_some] <;> rfl) | (simp [*, errW_none, errW_some] <;> rfl), by repeat (first | (with_reducible first | exact HB.out | apply below_alloc | apply pw_below_drewN | apply below_drew1) | exact HB.out | exact Below.refl _ _)⟩
        · replace c27 := Bool.eq_false_iff.mpr c27
          subst c27
          have H1 : (if t210 = true then (if (t209.length : Int) = t217 then (laws_FnCounts.l0 kj9 t207 t208 t209 t217 t209 (t209.length : Int) 0) else (some false)) else (some true)) = some r := by rw [if_neg (show ¬ (false = true) by decide)] at H; exact H
          clear H
          have H := H1
          clear H1
          by_cases c28 : t210 = true
          · subst c28
            have H1 : (if (t209.length : Int) = t217 then (laws_FnCounts.l0 kj9 t207 t208 t209 t217 t209 (t209.length : Int) 0) else (some false)) = some r := by rw [if_pos rfl] at H; exact H
            clear H
            have H := H1
            clear H1
            by_cases c29 : (t209.length : Int) = t217
            · rw [if_pos c29] at H
              have c29b0 : ((t209.length : Int) == t217) = true := beq_iff_eq.mpr c29
              have c29b1 : ((t209.length : Int) != t217) = false := bne_eq_false_iff_eq.mpr c29
              clear c29
              have H' := Aside0.mk H
              clear H
              obtain ⟨Ao30, co30, eo30⟩ := Kd.S_slice HO_7.out
              subst eo30
              go_wp2
              go_loopg [87] kj9 (fun kq v87 w' => ∃ (x87_2 : Int), v87 = .int .i64 x87_2 ∧ Aside0 (laws_FnCounts.l0 kq t207 t208 t209 t217 t209 (t209.length : Int) x87_2 = some r) ∧ Aside0 (kq ≤ kj9) ∧ Aside0 (Kd.S (Kd.slice 3 (Kd.int .i64)) 22 w' w.heap.size (fun _ => True) (.slice Ao30 t209.length co30) t209) ∧ Aside0 (Kd.S (Kd.slice 3 (Kd.int .i64)) 22 w' w.heap.size (fun _ => True) (.slice Ao30 t209.length co30) t209) ∧ Aside0 (Below w.heap.size w w'))
              case atStart => exact ⟨(0), (by first | rfl | (simp; done) | (simp [*]; done)), H', ⟨Nat.le_refl _⟩, ⟨by (with_reducible repeat (first | apply Kd.S_alloc | apply Kd.S_drewN | apply Kd.S_drew)); exact HO_7.out⟩, ⟨by (with_reducible repeat (first | apply Kd.S_alloc | apply Kd.S_drewN | apply Kd.S_drew)); exact HO_7.out⟩, ⟨by repeat (first | (with_reducible first | exact HB.out | apply below_alloc | apply pw_below_drewN | apply below_drew1) | exact HB.out | exact Below.refl _ _)⟩⟩
              case round =>
                clear H'
                try clear c1
                try clear c2
                try clear p2
                try clear c3
                try clear c4
                try clear c6
                try clear c14
                try clear c14b0
                try clear c14b1
                try clear c14b2
                try clear c16
                try clear c17
                try clear c17b0
                try clear c17b1
                try clear c17b2
                try clear c20
                try clear c20b0
                try clear c20b1
                try clear c27
                try clear c28
                try clear c29
                try clear c29b0
                try clear c29b1
                try clear c30
                try clear p2
                obtain ⟨x87_2, rfl, HA, HK2, HO_7, HO_85, HB⟩ := hrel
                cases gk with
                | zero => exact absurd HA.out (by simp [laws_FnCounts.l0])
                | succ k2 =>
                  have H := HA.out
                  clear HA
                  simp only [laws_FnCounts.l0] at H
                  by_cases c31 : x87_2 < (t209.length : Int)
                  · rw [if_pos c31] at H
                    have c31b0 : decide (x87_2 < (t209.length : Int)) = true := decide_eq_true c31
                    clear c31
                    by_cases c32 : 0 ≤ x87_2
                    · rw [if_pos c32] at H
                      have c32b0 : decide (0 ≤ x87_2) = true := decide_eq_true c32
                      clear c32
                      by_cases c33 : x87_2 < (t209.length : Int)
                      · rw [if_pos c33] at H
                        have c33b0 : decide (x87_2 < (t209.length : Int)) = true := decide_eq_true c33
                        clear c33
                        replace H := Option.bind_eq_some_iff.mp H
                        obtain ⟨t223, A340, H⟩ := H
                        replace H : (if t223 = true then (if ((rd_L2 t209 x87_2).length : Int) = t208 then (if x87_2 > 0 then (if 0 ≤ (wrap64 (x87_2 - 1)) then (if (wrap64 (x87_2 - 1)) < (t209.length : Int) then ((laws_uLess.f k2 (rd_L2 t209 (wrap64 (x87_2 - 1))) (rd_L2 t209 x87_2)).bind fun t225 => (if t225 = true then (laws_FnCounts.l0 k2 t207 t208 t209 t217 t209 (t209.length : Int) (wrap64 (x87_2 + 1))) else (some false))) else (none)) else (none)) else (laws_FnCounts.l0 k2 t207 t208 t209 t217 t209 (t209.length : Int) (wrap64 (x87_2 + 1)))) else (some false)) else (some false)) = some r := H
                        have A34 := Aside0.mk A340
                        clear A340
                        by_cases c35 : t223 = true
                        · subst c35
                          have H1 : (if ((rd_L2 t209 x87_2).length : Int) = t208 then (if x87_2 > 0 then (if 0 ≤ (wrap64 (x87_2 - 1)) then (if (wrap64 (x87_2 - 1)) < (t209.length : Int) then ((laws_uLess.f k2 (rd_L2 t209 (wrap64 (x87_2 - 1))) (rd_L2 t209 x87_2)).bind fun t225 => (if t225 = true then (laws_FnCounts.l0 k2 t207 t208 t209 t217 t209 (t209.length : Int) (wrap64 (x87_2 + 1))) else (some false))) else (none)) else (none)) else (laws_FnCounts.l0 k2 t207 t208 t209 t217 t209 (t209.length : Int) (wrap64 (x87_2 + 1)))) else (some false)) = some r := by rw [if_pos rfl] at H; exact H
                          clear H
                          have H := H1
                          clear H1
                          by_cases c36 : ((rd_L2 t209 x87_2).length : Int) = t208
                          · rw [if_pos c36] at H
                            have c36b0 : (((rd_L2 t209 x87_2).length : Int) == t208) = true := beq_iff_eq.mpr c36
                            have c36b1 : (((rd_L2 t209 x87_2).length : Int) != t208) = false := bne_eq_false_iff_eq.mpr c36
                            clear c36
                            by_cases c37 : x87_2 > 0
                            · rw [if_pos c37] at H
                              have c37b0 : decide (0 < x87_2) = true := decide_eq_true c37
                              clear c37
                              obtain ⟨ji38, hji38⟩ : ∃ j_ : Int, (wrap64 (x87_2 - 1)) = j_ := ⟨_, rfl⟩
                              replace H : (if 0 ≤ (ji38) then (if (ji38) < (t209.length : Int) then ((laws_uLess.f k2 (rd_L2 t209 (ji38)) (rd_L2 t209 x87_2)).bind fun t225 => (if t225 = true then (laws_FnCounts.l0 k2 t207 t208 t209 t217 t209 (t209.length : Int) (wrap64 (x87_2 + 1))) else (some false))) else (none)) else (none)) = some r := by first | (rw [hji38] at H; exact H) | (simp only [hji38] at H ⊢; exact H)
                              (try rw [hji38] at A34)
                              have hji38w : (IntKind.i64.wrap (x87_2 - 1)) = ji38 := (i64_w _).trans hji38
                              by_cases c39 : 0 ≤ (ji38)
                              · rw [if_pos c39] at H
                                have c39b0 : decide (0 ≤ (ji38)) = true := decide_eq_true c39
                                clear c39
                                by_cases c40 : (ji38) < (t209.length : Int)
                                · rw [if_pos c40] at H
                                  have c40b0 : decide ((ji38) < (t209.length : Int)) = true := decide_eq_true c40
                                  clear c40
                                  replace H := Option.bind_eq_some_iff.mp H
                                  obtain ⟨t225, A410, H⟩ := H
                                  replace H : (if t225 = true then (laws_FnCounts.l0 k2 t207 t208 t209 t217 t209 (t209.length : Int) (wrap64 (x87_2 + 1))) else (some false)) = some r := H
                                  have A41 := Aside0.mk A410
                                  clear A410
                                  by_cases c42 : t225 = true
                                  · subst c42
                                    have H1 : (laws_FnCounts.l0 k2 t207 t208 t209 t217 t209 (t209.length : Int) (wrap64 (x87_2 + 1))) = some r := by rw [if_pos rfl] at H; exact H
                                    clear H
                                    have H := H1
                                    clear H1
                                    have H' := Aside0.mk H
                                    clear H
                                    have p222 : 0 ≤ (x87_2 : Int) := of_decide_eq_true (by first | (with_reducible assumption) | assumption)
                                    have q222 : x87_2 < (t209.length : Int) := of_decide_eq_true (by first | (with_reducible assumption) | assumption)
                                    obtain ⟨ad222, A222_0, c222_0, e222, hx222_0, hl222_0, hi222_0⟩ := at_L2 (Kd.S_reads' HO_85.out).2.2 x87_2 p222 q222
                                    cases e222
                                    obtain ⟨ce222, hce222, hMe222, hcc222⟩ := Kd.S_get HO_85.out [] x87_2 p222 (by first | exact q222 | exact of_decide_eq_true (by first | (with_reducible assumption) | assumption) | (have e_ := (Kd.S_reads' HO_85.out).1; omega))
                                    obtain ⟨ve222_0, rfl, ge222_0⟩ := hMe222
                                    have hv222_0 := hcc222 0 _ rfl
                                    rw [Nat.add_zero, show ((Kd.slice 3 (Kd.int .i64))).sz = 1 from rfl, Nat.mul_one] at hv222_0
                                    replace hv222_0 := Option.some.inj (hv222_0.symm.trans hx222_0)
                                    rw [hv222_0] at ge222_0
                                    have HL222_0 := Aside0.mk (show Kd.R (Kd.int .i64) 3 _ _ _ _ (rd_L2 t209 x87_2) from ge222_0)
                                    clear hv222_0 ge222_0
                                    clear hcc222 hce222
                                    have HR222_0 := Aside0.mk hi222_0
                                    have HC222_0 := Aside0.mk hl222_0
                                    clear hi222_0 hl222_0
                                    replace p222 := eq_true p222
                                    replace q222 := eq_true q222
                                    go_wp2_with (first | ((with_reducible refine gate_callee (f := 35) rfl ?_); refine goesL_ (some 94) rfl rfl Try.func35 (by kernel_rfl) rfl #[.int .i64 t207, .slice A222_0 (rd_L2 t209 x87_2).length c222_0] rfl (by (try simp only [List.map_toArray, List.map_cons, List.map_nil]); first | done | rfl | (simp only [List.length_drop, List.length_take]; rfl)) ?_; (with_reducible refine (impl_IsCombination.calls k2 t207 _ _ (rd_L2 t209 x87_2) true _ ?side1 ?side2 A34.out).mono ?_); (case side1 => repeat (first | exact (by repeat (first | (with_reducible exact HR222_0.out) | (with_reducible refine Kd.C_alloc ?_ _) | (with_reducible refine Kd.C_drewN ?_ _) | (with_reducible refine Kd.C_drew ?_) | exact HR222_0.out)) | (with_reducible refine Kd.C_alloc ?_ _) | (with_reducible refine Kd.C_drewN ?_ _) | (with_reducible refine Kd.C_drew ?_))); (case side2 => exact HC222_0.out); rintro e w' ⟨rfl, ⟨nd, rfl⟩⟩; refine ⟨_, rfl, ?_⟩; have p224 : 0 ≤ ((ji38) : Int) := of_decide_eq_true (by first | (with_reducible assumption) | assumption); have q224 : (ji38) < (t209.length : Int) := of_decide_eq_true (by first | (with_reducible assumption) | assumption); obtain ⟨ad224, A224_0, c224_0, e224, hx224_0, hl224_0, hi224_0⟩ := at_L2 (Kd.S_reads' HO_7.out).2.2 (ji38) p224 q224; obtain rfl : ad222 = ad224 := (by injection e224); obtain ⟨ce224, hce224, hMe224, hcc224⟩ := Kd.S_get HO_7.out [] (ji38) p224 (by first | exact q224 | exact of_decide_eq_true (by first | (with_reducible assumption) | assumption) | (have e_ := (Kd.S_reads' HO_7.out).1; omega)); obtain ⟨ve224_0, rfl, ge224_0⟩ := hMe224; have hv224_0 := hcc224 0 _ rfl; rw [Nat.add_zero, show ((Kd.slice 3 (Kd.int .i64))).sz = 1 from rfl, Nat.mul_one] at hv224_0; replace hv224_0 := Option.some.inj (hv224_0.symm.trans hx224_0); rw [hv224_0] at ge224_0; have HL224_0 := Aside0.mk (show Kd.R (Kd.int .i64) 3 _ _ _ _ (rd_L2 t209 (ji38)) from ge224_0); clear hv224_0 ge224_0; clear hcc224 hce224; have HR224_0 := Aside0.mk hi224_0; have HC224_0 := Aside0.mk hl224_0; clear hi224_0 hl224_0; replace p224 := eq_true p224; replace q224 := eq_true q224) | (go_at_call 36; (with_reducible refine (laws_uLess.calls k2 _ _ (rd_L2 t209 (ji38)) _ _ (rd_L2 t209 x87_2) true _ ?side1 ?side2 ?side3 ?side4 A41.out).mono ?_); (case side1 => repeat (first | exact (by repeat (first | (with_reducible exact HR224_0.out) | (with_reducible refine Kd.C_alloc ?_ _) | (with_reducible refine Kd.C_drewN ?_ _) | (with_reducible refine Kd.C_drew ?_) | exact HR224_0.out)) | (with_reducible refine Kd.C_alloc ?_ _) | (with_reducible refine Kd.C_drewN ?_ _) | (with_reducible refine Kd.C_drew ?_))); (case side2 => exact HC224_0.out); (case side3 => repeat (first | exact (by repeat (first | (with_reducible exact HR222_0.out) | (with_reducible refine Kd.C_alloc ?_ _) | (with_reducible refine Kd.C_drewN ?_ _) | (with_reducible refine Kd.C_drew ?_) | exact HR222_0.out)) | (with_reducible refine Kd.C_alloc ?_ _) | (with_reducible refine Kd.C_drewN ?_ _) | (with_reducible refine Kd.C_drew ?_))); (case side4 => exact HC222_0.out); rintro e w' ⟨rfl, ⟨nd, rfl⟩⟩))
                                    go_roundg k2
                                    case measure => have := HJ9.out; have := HK2.out; omega
                                    case rel => exact ⟨(wrap64 (x87_2 + 1)), (by first | rfl | (simp; done) | (simp [*]; done)), H', ⟨by have := HJ9.out; have := HK2.out; omega⟩, ⟨by (with_reducible repeat (first | apply Kd.S_alloc | apply Kd.S_drewN | apply Kd.S_drew)); exact HO_7.out⟩, ⟨by (with_reducible repeat (first | apply Kd.S_alloc | apply Kd.S_drewN | apply Kd.S_drew)); exact HO_85.out⟩, ⟨by repeat (first | (with_reducible first | exact HB.out | apply below_alloc | apply pw_below_drewN | apply below_drew1) | exact HB.out | exact Below.refl _ _)⟩⟩
                                  · replace c42 := Bool.eq_false_iff.mpr c42
                                    subst c42
                                    have H1 : (some false) = some r := by rw [if_neg (show ¬ (false = true) by decide)] at H; exact H
                                    clear H
                                    have H := H1
                                    clear H1
                                    obtain rfl := Option.some.inj H
                                    have p222 : 0 ≤ (x87_2 : Int) := of_decide_eq_true (by first | (with_reducible assumption) | assumption)
                                    have q222 : x87_2 < (t209.length : Int) := of_decide_eq_true (by first | (with_reducible assumption) | assumption)
                                    obtain ⟨ad222, A222_0, c222_0, e222, hx222_0, hl222_0, hi222_0⟩ := at_L2 (Kd.S_reads' HO_85.out).2.2 x87_2 p222 q222
                                    cases e222
                                    obtain ⟨ce222, hce222, hMe222, hcc222⟩ := Kd.S_get HO_85.out [] x87_2 p222 (by first | exact q222 | exact of_decide_eq_true (by first | (with_reducible assumption) | assumption) | (have e_ := (Kd.S_reads' HO_85.out).1; omega))
                                    obtain ⟨ve222_0, rfl, ge222_0⟩ := hMe222
                                    have hv222_0 := hcc222 0 _ rfl
                                    rw [Nat.add_zero, show ((Kd.slice 3 (Kd.int .i64))).sz = 1 from rfl, Nat.mul_one] at hv222_0
                                    replace hv222_0 := Option.some.inj (hv222_0.symm.trans hx222_0)
                                    rw [hv222_0] at ge222_0
                                    have HL222_0 := Aside0.mk (show Kd.R (Kd.int .i64) 3 _ _ _ _ (rd_L2 t209 x87_2) from ge222_0)
                                    clear hv222_0 ge222_0
                                    clear hcc222 hce222
                                    have HR222_0 := Aside0.mk hi222_0
                                    have HC222_0 := Aside0.mk hl222_0
                                    clear hi222_0 hl222_0
                                    replace p222 := eq_true p222
                                    replace q222 := eq_true q222
                                    go_wp2_with (first | ((with_reducible refine gate_callee (f := 35) rfl ?_); refine goesL_ (some 94) rfl rfl Try.func35 (by kernel_rfl) rfl #[.int .i64 t207, .slice A222_0 (rd_L2 t209 x87_2).length c222_0] rfl (by (try simp only [List.map_toArray, List.map_cons, List.map_nil]); first | done | rfl | (simp only [List.length_drop, List.length_take]; rfl)) ?_; (with_reducible refine (impl_IsCombination.calls k2 t207 _ _ (rd_L2 t209 x87_2) true _ ?side1 ?side2 A34.out).mono ?_); (case side1 => repeat (first | exact (by repeat (first | (with_reducible exact HR222_0.out) | (with_reducible refine Kd.C_alloc ?_ _) | (with_reducible refine Kd.C_drewN ?_ _) | (with_reducible refine Kd.C_drew ?_) | exact HR222_0.out)) | (with_reducible refine Kd.C_alloc ?_ _) | (with_reducible refine Kd.C_drewN ?_ _) | (with_reducible refine Kd.C_drew ?_))); (case side2 => exact HC222_0.out); rintro e w' ⟨rfl, ⟨nd, rfl⟩⟩; refine ⟨_, rfl, ?_⟩; have p224 : 0 ≤ ((ji38) : Int) := of_decide_eq_true (by first | (with_reducible assumption) | assumption); have q224 : (ji38) < (t209.length : Int) := of_decide_eq_true (by first | (with_reducible assumption) | assumption); obtain ⟨ad224, A224_0, c224_0, e224, hx224_0, hl224_0, hi224_0⟩ := at_L2 (Kd.S_reads' HO_7.out).2.2 (ji38) p224 q224; obtain rfl : ad222 = ad224 := (by injection e224); obtain ⟨ce224, hce224, hMe224, hcc224⟩ := Kd.S_get HO_7.out [] (ji38) p224 (by first | exact q224 | exact of_decide_eq_true (by first | (with_reducible assumption) | assumption) | (have e_ := (Kd.S_reads' HO_7.out).1; omega)); obtain ⟨ve224_0, rfl, ge224_0⟩ := hMe224; have hv224_0 := hcc224 0 _ rfl; rw [Nat.add_zero, show ((Kd.slice 3 (Kd.int .i64))).sz = 1 from rfl, Nat.mul_one] at hv224_0; replace hv224_0 := Option.some.inj (hv224_0.symm.trans hx224_0); rw [hv224_0] at ge224_0; have HL224_0 := Aside0.mk (show Kd.R (Kd.int .i64) 3 _ _ _ _ (rd_L2 t209 (ji38)) from ge224_0); clear hv224_0 ge224_0; clear hcc224 hce224; have HR224_0 := Aside0.mk hi224_0; have HC224_0 := Aside0.mk hl224_0; clear hi224_0 hl224_0; replace p224 := eq_true p224; replace q224 := eq_true q224) | (go_at_call 36; (with_reducible refine (laws_uLess.calls k2 _ _ (rd_L2 t209 (ji38)) _ _ (rd_L2 t209 x87_2) false _ ?side1 ?side2 ?side3 ?side4 A41.out).mono ?_); (case side1 => repeat (first | exact (by repeat (first | (with_reducible exact HR224_0.out) | (with_reducible refine Kd.C_alloc ?_ _) | (with_reducible refine Kd.C_drewN ?_ _) | (with_reducible refine Kd.C_drew ?_) | exact HR224_0.out)) | (with_reducible refine Kd.C_alloc ?_ _) | (with_reducible refine Kd.C_drewN ?_ _) | (with_reducible refine Kd.C_drew ?_))); (case side2 => exact HC224_0.out); (case side3 => repeat (first | exact (by repeat (first | (with_reducible exact HR222_0.out) | (with_reducible refine Kd.C_alloc ?_ _) | (with_reducible refine Kd.C_drewN ?_ _) | (with_reducible refine Kd.C_drew ?_) | exact HR222_0.out)) | (with_reducible refine Kd.C_alloc ?_ _) | (with_reducible refine Kd.C_drewN ?_ _) | (with_reducible refine Kd.C_drew ?_))); (case side4 => exact HC222_0.out); rintro e w' ⟨rfl, ⟨nd, rfl⟩⟩))
                                    go_ret
                                    exact ⟨by first | rfl | (simp [errW_none, errW_some] <;> rfl) | (simp only [← hji38]; first | rfl | (simp [errW_none, errW_some] <;> rfl)) | (simp [*, errW_none, errW_some] <;> rfl), by repeat (first | (with_reducible first | exact HB.out | apply below_alloc | apply pw_below_drewN | apply below_drew1) | exact HB.out | exact Below.refl _ _)⟩
                                · rw [if_neg c40] at H
                                  exact absurd H (by simp)
                              · rw [if_neg c39] at H
                                exact absurd H (by simp)
                            · rw [if_neg c37] at H
                              have c37b0 : decide (0 < x87_2) = false := decide_eq_false c37
                              clear c37
                              have H' := Aside0.mk H
                              clear H
                              have p222 : 0 ≤ (x87_2 : Int) := of_decide_eq_true (by first | (with_reducible assumption) | assumption)
                              have q222 : x87_2 < (t209.length : Int) := of_decide_eq_true (by first | (with_reducible assumption) | assumption)
                              obtain ⟨ad222, A222_0, c222_0, e222, hx222_0, hl222_0, hi222_0⟩ := at_L2 (Kd.S_reads' HO_85.out).2.2 x87_2 p222 q222
                              cases e222
                              obtain ⟨ce222, hce222, hMe222, hcc222⟩ := Kd.S_get HO_85.out [] x87_2 p222 (by first | exact q222 | exact of_decide_eq_true (by first | (with_reducible assumption) | assumption) | (have e_ := (Kd.S_reads' HO_85.out).1; omega))
                              obtain ⟨ve222_0, rfl, ge222_0⟩ := hMe222
                              have hv222_0 := hcc222 0 _ rfl
                              rw [Nat.add_zero, show ((Kd.slice 3 (Kd.int .i64))).sz = 1 from rfl, Nat.mul_one] at hv222_0
                              replace hv222_0 := Option.some.inj (hv222_0.symm.trans hx222_0)
                              rw [hv222_0] at ge222_0
                              have HL222_0 := Aside0.mk (show Kd.R (Kd.int .i64) 3 _ _ _ _ (rd_L2 t209 x87_2) from ge222_0)
                              clear hv222_0 ge222_0
                              clear hcc222 hce222
                              have HR222_0 := Aside0.mk hi222_0
                              have HC222_0 := Aside0.mk hl222_0
                              clear hi222_0 hl222_0
                              replace p222 := eq_true p222
                              replace q222 := eq_true q222
                              go_wp2_with (first | ((with_reducible refine gate_callee (f := 35) rfl ?_); refine goesL_ (some 94) rfl rfl Try.func35 (by kernel_rfl) rfl #[.int .i64 t207, .slice A222_0 (rd_L2 t209 x87_2).length c222_0] rfl (by (try simp only [List.map_toArray, List.map_cons, List.map_nil]); first | done | rfl | (simp only [List.length_drop, List.length_take]; rfl)) ?_; (with_reducible refine (impl_IsCombination.calls k2 t207 _ _ (rd_L2 t209 x87_2) true _ ?side1 ?side2 A34.out).mono ?_); (case side1 => repeat (first | exact (by repeat (first | (with_reducible exact HR222_0.out) | (with_reducible refine Kd.C_alloc ?_ _) | (with_reducible refine Kd.C_drewN ?_ _) | (with_reducible refine Kd.C_drew ?_) | exact HR222_0.out)) | (with_reducible refine Kd.C_alloc ?_ _) | (with_reducible refine Kd.C_drewN ?_ _) | (with_reducible refine Kd.C_drew ?_))); (case side2 => exact HC222_0.out); rintro e w' ⟨rfl, ⟨nd, rfl⟩⟩; refine ⟨_, rfl, ?_⟩))
                              go_roundg k2
                              case measure => have := HJ9.out; have := HK2.out; omega
                              case rel => exact ⟨(wrap64 (x87_2 + 1)), (by first | rfl | (simp; done) | (simp [*]; done)), H', ⟨by have := HJ9.out; have := HK2.out; omega⟩, ⟨by (with_reducible repeat (first | apply Kd.S_alloc | apply Kd.S_drewN | apply Kd.S_drew)); exact HO_7.out⟩, ⟨by (with_reducible repeat (first | apply Kd.S_alloc | apply Kd.S_drewN | apply Kd.S_drew)); exact HO_85.out⟩, ⟨by repeat (first | (with_reducible first | exact HB.out | apply below_alloc | apply pw_below_drewN | apply below_drew1) | exact HB.out | exact Below.refl _ _)⟩⟩
                          · rw [if_neg c36] at H
                            have c36b0 : (((rd_L2 t209 x87_2).length : Int) == t208) = false := beq_eq_false_iff_ne.mpr c36
                            have c36b1 : (((rd_L2 t209 x87_2).length : Int) != t208) = true := bne_iff_ne.mpr c36
                            obtain rfl := Option.some.inj H
                            have p222 : 0 ≤ (x87_2 : Int) := of_decide_eq_true (by first | (with_reducible assumption) | assumption)
                            have q222 : x87_2 < (t209.length : Int) := of_decide_eq_true (by first | (with_reducible assumption) | assumption)
                            obtain ⟨ad222, A222_0, c222_0, e222, hx222_0, hl222_0, hi222_0⟩ := at_L2 (Kd.S_reads' HO_85.out).2.2 x87_2 p222 q222
                            cases e222
                            obtain ⟨ce222, hce222, hMe222, hcc222⟩ := Kd.S_get HO_85.out [] x87_2 p222 (by first | exact q222 | exact of_decide_eq_true (by first | (with_reducible assumption) | assumption) | (have e_ := (Kd.S_reads' HO_85.out).1; omega))
                            obtain ⟨ve222_0, rfl, ge222_0⟩ := hMe222
                            have hv222_0 := hcc222 0 _ rfl
                            rw [Nat.add_zero, show ((Kd.slice 3 (Kd.int .i64))).sz = 1 from rfl, Nat.mul_one] at hv222_0
                            replace hv222_0 := Option.some.inj (hv222_0.symm.trans hx222_0)
                            rw [hv222_0] at ge222_0
                            have HL222_0 := Aside0.mk (show Kd.R (Kd.int .i64) 3 _ _ _ _ (rd_L2 t209 x87_2) from ge222_0)
                            clear hv222_0 ge222_0
                            clear hcc222 hce222
                            have HR222_0 := Aside0.mk hi222_0
                            have HC222_0 := Aside0.mk hl222_0
                            clear hi222_0 hl222_0
                            replace p222 := eq_true p222
                            replace q222 := eq_true q222
                            go_wp2_with (first | ((with_reducible refine gate_callee (f := 35) rfl ?_); refine goesL_ (some 94) rfl rfl Try.func35 (by kernel_rfl) rfl #[.int .i64 t207, .slice A222_0 (rd_L2 t209 x87_2).length c222_0] rfl (by (try simp only [List.map_toArray, List.map_cons, List.map_nil]); first | done | rfl | (simp only [List.length_drop, List.length_take]; rfl)) ?_; (with_reducible refine (impl_IsCombination.calls k2 t207 _ _ (rd_L2 t209 x87_2) true _ ?side1 ?side2 A34.out).mono ?_); (case side1 => repeat (first | exact (by repeat (first | (with_reducible exact HR222_0.out) | (with_reducible refine Kd.C_alloc ?_ _) | (with_reducible refine Kd.C_drewN ?_ _) | (with_reducible refine Kd.C_drew ?_) | exact HR222_0.out)) | (with_reducible refine Kd.C_alloc ?_ _) | (with_reducible refine Kd.C_drewN ?_ _) | (with_reducible refine Kd.C_drew ?_))); (case side2 => exact HC222_0.out); rintro e w' ⟨rfl, ⟨nd, rfl⟩⟩; refine ⟨_, rfl, ?_⟩))
                            go_ret
                            exact ⟨by first | rfl | (simp [errW_none, errW_some] <;> rfl) | (simp [*, errW_none, errW_some] <;> rfl), by repeat (first | (with_reducible first | exact HB.out | apply below_alloc | apply pw_below_drewN | apply below_drew1) | exact HB.out | exact Below.refl _ _)⟩
                        · replace c35 := Bool.eq_false_iff.mpr c35
                          subst c35
                          have H1 : (some false) = some r := by rw [if_neg (show ¬ (false = true) by decide)] at H; exact H
                          clear H
                          have H := H1
                          clear H1
                          obtain rfl := Option.some.inj H
                          have p222 : 0 ≤ (x87_2 : Int) := of_decide_eq_true (by first | (with_reducible assumption) | assumption)
                          have q222 : x87_2 < (t209.length : Int) := of_decide_eq_true (by first | (with_reducible assumption) | assumption)
                          obtain ⟨ad222, A222_0, c222_0, e222, hx222_0, hl222_0, hi222_0⟩ := at_L2 (Kd.S_reads' HO_85.out).2.2 x87_2 p222 q222
                          cases e222
                          obtain ⟨ce222, hce222, hMe222, hcc222⟩ := Kd.S_get HO_85.out [] x87_2 p222 (by first | exact q222 | exact of_decide_eq_true (by first | (with_reducible assumption) | assumption) | (have e_ := (Kd.S_reads' HO_85.out).1; omega))
                          obtain ⟨ve222_0, rfl, ge222_0⟩ := hMe222
                          have hv222_0 := hcc222 0 _ rfl
                          rw [Nat.add_zero, show ((Kd.slice 3 (Kd.int .i64))).sz = 1 from rfl, Nat.mul_one] at hv222_0
                          replace hv222_0 := Option.some.inj (hv222_0.symm.trans hx222_0)
                          rw [hv222_0] at ge222_0
                          have HL222_0 := Aside0.mk (show Kd.R (Kd.int .i64) 3 _ _ _ _ (rd_L2 t209 x87_2) from ge222_0)
                          clear hv222_0 ge222_0
                          clear hcc222 hce222
                          have HR222_0 := Aside0.mk hi222_0
                          have HC222_0 := Aside0.mk hl222_0
                          clear hi222_0 hl222_0
                          replace p222 := eq_true p222
                          replace q222 := eq_true q222
                          go_wp2_with (first | ((with_reducible refine gate_callee (f := 35) rfl ?_); refine goesL_ (some 94) rfl rfl Try.func35 (by kernel_rfl) rfl #[.int .i64 t207, .slice A222_0 (rd_L2 t209 x87_2).length c222_0] rfl (by (try simp only [List.map_toArray, List.map_cons, List.map_nil]); first | done | rfl | (simp only [List.length_drop, List.length_take]; rfl)) ?_; (with_reducible refine (impl_IsCombination.calls k2 t207 _ _ (rd_L2 t209 x87_2) false _ ?side1 ?side2 A34.out).mono ?_); (case side1 => repeat (first | exact (by repeat (first | (with_reducible exact HR222_0.out) | (with_reducible refine Kd.C_alloc ?_ _) | (with_reducible refine Kd.C_drewN ?_ _) | (with_reducible refine Kd.C_drew ?_) | exact HR222_0.out)) | (with_reducible refine Kd.C_alloc ?_ _) | (with_reducible refine Kd.C_drewN ?_ _) | (with_reducible refine Kd.C_drew ?_))); (case side2 => exact HC222_0.out); rintro e w' ⟨rfl, ⟨nd, rfl⟩⟩; refine ⟨_, rfl, ?_⟩))
                          go_ret
                          exact ⟨by first | rfl | (simp [errW_none, errW_some] <;> rfl) | (simp [*, errW_none, errW_some] <;> rfl), by repeat (first | (with_reducible first | exact HB.out | apply below_alloc | apply pw_below_drewN | apply below_drew1) | exact HB.out | exact Below.refl _ _)⟩
                      · rw [if_neg c33] at H
                        exact absurd H (by simp)
                    · rw [if_neg c32] at H
                      exact absurd H (by simp)
                  · rw [if_neg c31] at H
                    have c31b0 : decide (x87_2 < (t209.length : Int)) = false := decide_eq_false c31
                    clear c31
                    by_cases c43 : t208 > t207
                    · rw [if_pos c43] at H
                      have c43b0 : decide (t207 < t208) = true := decide_eq_true c43
                      clear c43
                      obtain rfl := Option.some.inj H
                      go_wp2
                      go_ret
                      exact ⟨by first | rfl | (simp [errW_none, errW_some] <;> rfl) | (simp [*, errW_none, errW_some] <;> rfl), by repeat (first | (with_reducible first | exact HB.out | apply below_alloc | apply pw_below_drewN | apply below_drew1) | exact HB.out | exact Below.refl _ _)⟩
                    · rw [if_neg c43] at H
                      have c43b0 : decide (t207 < t208) = false := decide_eq_false c43
                      clear c43
                      replace H := Option.bind_eq_some_iff.mp H
                      obtain ⟨⟨t226, t227⟩, A440, H⟩ := H
                      replace H : ((impl_Factorial.f k2 t208).bind fun bt228 => ((impl_Factorial.f k2 (wrap64 (t207 - t208))).bind fun bt230 => (if t227 = true then (if bt228.2 = true then (if bt230.2 = true then (some ((wrap64 ((wrap64 (t217 * bt228.1)) * bt230.1)) == t226)) else (some false)) else (some false)) else (some false)))) = some r := H
                      have A44 := Aside0.mk A440
                      clear A440
                      replace H := Option.bind_eq_some_iff.mp H
                      obtain ⟨⟨t228, t229⟩, A450, H⟩ := H
                      replace H : ((impl_Factorial.f k2 (wrap64 (t207 - t208))).bind fun bt230 => (if t227 = true then (if t229 = true then (if bt230.2 = true then (some ((wrap64 ((wrap64 (t217 * t228)) * bt230.1)) == t226)) else (some false)) else (some false)) else (some false))) = some r := H
                      have A45 := Aside0.mk A450
                      clear A450
                      replace H := Option.bind_eq_some_iff.mp H
                      obtain ⟨⟨t230, t231⟩, A460, H⟩ := H
                      replace H : (if t227 = true then (if t229 = true then (if t231 = true then (some ((wrap64 ((wrap64 (t217 * t228)) * t230)) == t226)) else (some false)) else (some false)) else (some false)) = some r := H
                      have A46 := Aside0.mk A460
                      clear A460
                      by_cases c47 : t227 = true
                      · subst c47
                        have H1 : (if t229 = true then (if t231 = true then (some ((wrap64 ((wrap64 (t217 * t228)) * t230)) == t226)) else (some false)) else (some false)) = some r := by rw [if_pos rfl] at H; exact H
                        clear H
                        have H := H1
                        clear H1
                        by_cases c48 : t229 = true
                        · subst c48
                          have H1 : (if t231 = true then (some ((wrap64 ((wrap64 (t217 * t228)) * t230)) == t226)) else (some false)) = some r := by rw [if_pos rfl] at H; exact H
                          clear H
                          have H := H1
                          clear H1
                          by_cases c49 : t231 = true
                          · subst c49
                            have H1 : (some ((wrap64 ((wrap64 (t217 * t228)) * t230)) == t226)) = some r := by rw [if_pos rfl] at H; exact H
                            clear H
                            have H := H1
                            clear H1
                            obtain rfl := Option.some.inj H
                            go_wp2_with (first | ((with_reducible refine gate_callee (f := 37) rfl ?_); refine goesL_ (some 124) rfl rfl Try.func37 (by kernel_rfl) rfl #[.int .i64 t207] rfl (by (try simp only [List.map_toArray, List.map_cons, List.map_nil]); first | done | rfl | (simp only [List.length_drop, List.length_take]; rfl)) ?_; (with_reducible refine (impl_Factorial.calls k2 t207 t226 true _ A44.out).mono ?_); rintro e w' ⟨rfl, ⟨nd, rfl⟩⟩; refine ⟨_, rfl, ?_⟩) | ((with_reducible refine gate_callee (f := 37) rfl ?_); refine goesL_ (some 129) rfl rfl Try.func37 (by kernel_rfl) rfl #[.int .i64 t208] rfl (by (try simp only [List.map_toArray, List.map_cons, List.map_nil]); first | done | rfl | (simp only [List.length_drop, List.length_take]; rfl)) ?_; (with_reducible refine (impl_Factorial.calls k2 t208 t228 true _ A45.out).mono ?_); rintro e w' ⟨rfl, ⟨nd, rfl⟩⟩; refine ⟨_, rfl, ?_⟩) | ((with_reducible refine gate_callee (f := 37) rfl ?_); refine goesL_ (some 136) rfl rfl Try.func37 (by kernel_rfl) rfl #[.int .i64 (wrap64 (t207 - t208))] rfl (by (try simp only [List.map_toArray, List.map_cons, List.map_nil]); first | done | rfl | (simp only [List.length_drop, List.length_take]; rfl)) ?_; (with_reducible refine (impl_Factorial.calls k2 (wrap64 (t207 - t208)) t230 true _ A46.out).mono ?_); rintro e w' ⟨rfl, ⟨nd, rfl⟩⟩; refine ⟨_, rfl, ?_⟩))
                            go_ret
                            exact ⟨by first | rfl | (simp [errW_none, errW_some] <;> rfl) | (simp [*, errW_none, errW_some] <;> rfl), by repeat (first | (with_reducible first | exact HB.out | apply below_alloc | apply pw_below_drewN | apply below_drew1) | exact HB.out | exact Below.refl _ _)⟩
                          · replace c49 := Bool.eq_false_iff.mpr c49
                            subst c49
                            have H1 : (some false) = some r := by rw [if_neg (show ¬ (false = true) by decide)] at H; exact H
                            clear H
                            have H := H1
                            clear H1
                            obtain rfl := Option.some.inj H
                            go_wp2_with (first | ((with_reducible refine gate_callee (f := 37) rfl ?_); refine goesL_ (some 124) rfl rfl Try.func37 (by kernel_rfl) rfl #[.int .i64 t207] rfl (by (try simp only [List.map_toArray, List.map_cons, List.map_nil]); first | done | rfl | (simp only [List.length_drop, List.length_take]; rfl)) ?_; (with_reducible refine (impl_Factorial.calls k2 t207 t226 true _ A44.out).mono ?_); rintro e w' ⟨rfl, ⟨nd, rfl⟩⟩; refine ⟨_, rfl, ?_⟩) | ((with_reducible refine gate_callee (f := 37) rfl ?_); refine goesL_ (some 129) rfl rfl Try.func37 (by kernel_rfl) rfl #[.int .i64 t208] rfl (by (try simp only [List.map_toArray, List.map_cons, List.map_nil]); first | done | rfl | (simp only [List.length_drop, List.length_take]; rfl)) ?_; (with_reducible refine (impl_Factorial.calls k2 t208 t228 true _ A45.out).mono ?_); rintro e w' ⟨rfl, ⟨nd, rfl⟩⟩; refine ⟨_, rfl, ?_⟩) | ((with_reducible refine gate_callee (f := 37) rfl ?_); refine goesL_ (some 136) rfl rfl Try.func37 (by kernel_rfl) rfl #[.int .i64 (wrap64 (t207 - t208))] rfl (by (try simp only [List.map_toArray, List.map_cons, List.map_nil]); first | done | rfl | (simp only [List.length_drop, List.length_take]; rfl)) ?_; (with_reducible refine (impl_Factorial.calls k2 (wrap64 (t207 - t208)) t230 false _ A46.out).mono ?_); rintro e w' ⟨rfl, ⟨nd, rfl⟩⟩; refine ⟨_, rfl, ?_⟩))
                            go_ret
                            exact ⟨by first | rfl | (simp [errW_none, errW_some] <;> rfl) | (simp [*, errW_none, errW_some] <;> rfl), by repeat (first | (with_reducible first | exact HB.out | apply below_alloc | apply pw_below_drewN | apply below_drew1) | exact HB.out | exact Below.refl _ _)⟩
                        · replace c48 := Bool.eq_false_iff.mpr c48
                          subst c48
                          have H1 : (some false) = some r := by rw [if_neg (show ¬ (false = true) by decide)] at H; exact H
                          clear H
                          have H := H1
                          clear H1
                          obtain rfl := Option.some.inj H
                          go_wp2_with (first | ((with_reducible refine gate_callee (f := 37) rfl ?_); refine goesL_ (some 124) rfl rfl Try.func37 (by kernel_rfl) rfl #[.int .i64 t207] rfl (by (try simp only [List.map_toArray, List.map_cons, List.map_nil]); first | done | rfl | (simp only [List.length_drop, List.length_take]; rfl)) ?_; (with_reducible refine (impl_Factorial.calls k2 t207 t226 true _ A44.out).mono ?_); rintro e w' ⟨rfl, ⟨nd, rfl⟩⟩; refine ⟨_, rfl, ?_⟩) | ((with_reducible refine gate_callee (f := 37) rfl ?_); refine goesL_ (some 129) rfl rfl Try.func37 (by kernel_rfl) rfl #[.int .i64 t208] rfl (by (try simp only [List.map_toArray, List.map_cons, List.map_nil]); first | done | rfl | (simp only [List.length_drop, List.length_take]; rfl)) ?_; (with_reducible refine (impl_Factorial.calls k2 t208 t228 false _ A45.out).mono ?_); rintro e w' ⟨rfl, ⟨nd, rfl⟩⟩; refine ⟨_, rfl, ?_⟩) | ((with_reducible refine gate_callee (f := 37) rfl ?_); refine goesL_ (some 136) rfl rfl Try.func37 (by kernel_rfl) rfl #[.int .i64 (wrap64 (t207 - t208))] rfl (by (try simp only [List.map_toArray, List.map_cons, List.map_nil]); first | done | rfl | (simp only [List.length_drop, List.length_take]; rfl)) ?_; (with_reducible refine (impl_Factorial.calls k2 (wrap64 (t207 - t208)) t230 t231 _ A46.out).mono ?_); rintro e w' ⟨rfl, ⟨nd, rfl⟩⟩; refine ⟨_, rfl, ?_⟩))
                          go_ret
                          exact ⟨by first | rfl | (simp [errW_none, errW_some] <;> rfl) | (simp [*, errW_none, errW_some] <;> rfl), by repeat (first | (with_reducible first | exact HB.out | apply below_alloc | apply pw_below_drewN | apply below_drew1) | exact HB.out | exact Below.refl _ _)⟩
                      · replace c47 := Bool.eq_false_iff.mpr c47
                        subst c47
                        have H1 : (some false) = some r := by rw [if_neg (show ¬ (false = true) by decide)] at H; exact H
                        clear H
                        have H := H1
                        clear H1
                        obtain rfl := Option.some.inj H
                        go_wp2_with (first | ((with_reducible refine gate_callee (f := 37) rfl ?_); refine goesL_ (some 124) rfl rfl Try.func37 (by kernel_rfl) rfl #[.int .i64 t207] rfl (by (try simp only [List.map_toArray, List.map_cons, List.map_nil]); first | done | rfl | (simp only [List.length_drop, List.length_take]; rfl)) ?_; (with_reducible refine (impl_Factorial.calls k2 t207 t226 false _ A44.out).mono ?_); rintro e w' ⟨rfl, ⟨nd, rfl⟩⟩; refine ⟨_, rfl, ?_⟩) | ((with_reducible refine gate_callee (f := 37) rfl ?_); refine goesL_ (some 129) rfl rfl Try.func37 (by kernel_rfl) rfl #[.int .i64 t208] rfl (by (try simp only [List.map_toArray, List.map_cons, List.map_nil]); first | done | rfl | (simp only [List.length_drop, List.length_take]; rfl)) ?_; (with_reducible refine (impl_Factorial.calls k2 t208 t228 t229 _ A45.out).mono ?_); rintro e w' ⟨rfl, ⟨nd, rfl⟩⟩; refine ⟨_, rfl, ?_⟩) | ((with_reducible refine gate_callee (f := 37) rfl ?_); refine goesL_ (some 136) rfl rfl Try.func37 (by kernel_rfl) rfl #[.int .i64 (wrap64 (t207 - t208))] rfl (by (try simp only [List.map_toArray, List.map_cons, List.map_nil]); first | done | rfl | (simp only [List.length_drop, List.length_take]; rfl)) ?_; (with_reducible refine (impl_Factorial.calls k2 (wrap64 (t207 - t208)) t230 t231 _ A46.out).mono ?_); rintro e w' ⟨rfl, ⟨nd, rfl⟩⟩; refine ⟨_, rfl, ?_⟩))
                        go_ret
                        exact ⟨by first | rfl | (simp [errW_none, errW_some] <;> rfl) | (simp [*, errW_none, errW_some] <;> rfl), by repeat (first | (with_reducible first | exact HB.out | apply below_alloc | apply pw_below_drewN | apply below_drew1) | exact HB.out | exact Below.refl _ _)⟩
            · rw [if_neg c29] at H
              have c29b0 : ((t209.length : Int) == t217) = false := beq_eq_false_iff_ne.mpr c29
              have c29b1 : ((t209.length : Int) != t217) = true := bne_iff_ne.mpr c29
              obtain rfl := Option.some.inj H
              obtain ⟨Ao50, co50, eo50⟩ := Kd.S_slice HO_7.out
              subst eo50
              go_wp2
              go_ret
              exact ⟨by first | rfl | (simp [errW_none, errW_some] <;> rfl) | (simp [*, errW_none, errW_some] <;> rfl), by repeat (first | (with_reducible first | exact HB.out | apply below_alloc | apply pw_below_drewN | apply below_drew1) | exact HB.out | exact Below.refl _ _)⟩
          · replace c28 := Bool.eq_false_iff.mpr c28
            subst c28
            have H1 : (some true) = some r := by rw [if_neg (show ¬ (false = true) by decide)] at H; exact H
            clear H
            have H := H1
            clear H1
            obtain rfl := Option.some.inj H
            go_wp2
            go_ret
            exact ⟨by first | rfl | (simp [errW_none, errW_some] <;> rfl) | (simp [*, errW_none, errW_some] <;> rfl), by repeat (first | (with_reducible first | exact HB.out | apply below_alloc | apply pw_below_drewN | apply below_drew1) | exact HB.out | exact Below.refl _ _)⟩

/-- THE ONE PURE STATEMENT of laws_FnCounts: yours. -/
def laws_FnCounts.Pure : Prop := ∀ (l0 : List Int) (l1 : List Int), l0.length ≤ maxLen → l0.length * 1 ≤ 140737488351232 → (∀ x ∈ l0, (Lit.int .u8 x).wf = true) → l1.length ≤ maxLen → l1.length * 1 ≤ 140737488351232 → (∀ x ∈ l1, (Lit.int .u8 x).wf = true) → ∃ k, laws_FnCounts.f k l0 l1 = some true
theorem laws_FnCounts.walk (P : laws_FnCounts.Pure) (a0 : Option Addr) (len0 cap0 : Nat) (z0 : List Int) (a1 : Option Addr) (len1 cap1 : Nat) (z1 : List Int) (w : World) (w0 : (a0 = none ∧ len0 = 0 ∧ cap0 = 0 ∧ z0 = []) ∨ ∃ x, a0 = some x ∧ len0 ≤ cap0 ∧ cap0 ≤ maxLen ∧ z0.length = cap0 ∧ (∀ i, i < z0.length → w.cell? (x.add i) = some (.int .u8 (z0.getD i 0))) ∧ ∀ n ∈ z0, (Lit.int .u8 n).wf = true) (y0 : len0 * 1 ≤ 140737488351232) (w1 : (a1 = none ∧ len1 = 0 ∧ cap1 = 0 ∧ z1 = []) ∨ ∃ x, a1 = some x ∧ len1 ≤ cap1 ∧ cap1 ≤ maxLen ∧ z1.length = cap1 ∧ (∀ i, i < z1.length → w.cell? (x.add i) = some (.int .u8 (z1.getD i 0))) ∧ ∀ n ∈ z1, (Lit.int .u8 n).wf = true) (y1 : len1 * 1 ≤ 140737488351232) :
    Calls Try.prog 6 #[.slice a0 len0 cap0, .slice a1 len1 cap1] w fun e w' => e = .returned (.bool true) ∧ Below w.heap.size w w' := by
  obtain ⟨l0, rfl, hr0, hm0, hw0, hc0⟩ := ReadsInt.ofRowC w0
  obtain ⟨l1, rfl, hr1, hm1, hw1, hc1⟩ := ReadsInt.ofRowC w1
  obtain ⟨k, h⟩ := P l0 l1 hm0 y0 hw0 hm1 y1 hw1
  refine (laws_FnCounts.calls k _ _ l0 _ _ l1 true w (Kd.C_of_reads (d := (0 : Int)) (h1 := fun _ => rfl) hr0) hc0 (Kd.C_of_reads (d := (0 : Int)) (h1 := fun _ => rfl) hr1) hc1 h).mono ?_
  rintro e w' ⟨rfl, hd⟩
  exact ⟨rfl, hd⟩

end Go.Proofs.Ytkbnkichgkeckaa.PFnCounts
