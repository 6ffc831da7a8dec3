/- The law FnReflected returns true for every input that the row speaks of, the tables of math/bits lying as the program's text lays them (the card ties that); no condition of ours. -/
import Derived.Test.YtnhifbopicjicaaDoorRows
import Derived.Test.YtnhifbopicjicaaDoorCards
import Derived.Test.YtnhifbopicjicaaDoorTie
import Derived.Test.YtnhifbopicjicaaDoorQFnReflectedx4
import Derived.Test.YtnhifbopicjicaaDoorPureFnReflected
import Derived.WalkKit
import Derived.LaidMore
import Derived.Lay
import Derived.Lib.LaidTab
import Derived.Stop.LaidErr
import Derived.SevenTiedAt
import Derived.Stop.Joined
import Derived.ProofKit
import Derived.OpenShut
import Derived.ShutString
import Derived.ChangeOld
import Derived.Below
import Derived.SizedLaws
import Derived.Test.YtnhifbopicjicaaDoorWSized
namespace Go.Proofs.YtnhifbopicjicaaDoor.fnReflected
open Go.ChangeShapes Go.WideShapes Go.ChangeAt Go.RowKit
open Go.ChangeMaps (open_string shut_string)
set_option linter.unusedVariables false
theorem own : ownKnob Tryd.prog.godebug = none := by kernel_rfl
theorem laidOut : laidOutB Tryd.prog = true := by kernel_rfl
def IsRow (k : IntKind) (w : World) (a : Option Addr) (len cap : Nat) (zs : List Int) : Prop :=
  (a = none ∧ len = 0 ∧ cap = 0 ∧ zs = []) ∨
  ∃ x, a = some x ∧ len ≤ cap ∧ cap ≤ maxLen ∧ zs.length = cap ∧ (∀ i, i < zs.length → w.cell? (x.add i) = some (.int k (zs.getD i 0))) ∧ ∀ n ∈ zs, (Lit.int k n).wf = true
theorem tab_of {W : World} (hL : laidMetH Tryd.prog Rows.fnReflectedRow.laid W) : PFnReflected.Tab_ W := by
  rw [MakeChecks.laidMetH_plain _ _ _ (by kernel_rfl)] at hL
  have h2 : laidMet Tryd.prog [("math/bits.deBruijn64tab", Lib.tabData .u8 (Lib.deBruijn64tab.map fun (n : Nat) => (n : Int)))] W := laidMet.tail hL
  have h3 := Lib.tabIs_of_head (t := 92) (e := 5) (n := 64) (g := 1) (by kernel_rfl) (by kernel_rfl) Tryd.underlying92 Tryd.underlying5 (by kernel_rfl) (by kernel_rfl) h2
  refine ⟨fun j hj => ?_⟩
  have h4 := h3.cell (show Tryd.prog.globalNamed "math/bits.deBruijn64tab" = some 1 by kernel_rfl) j (by rw [List.length_map]; exact hj)
  rw [h4]
  simp only [List.getD_eq_getElem?_getD, List.getElem?_map, List.getElem?_eq_getElem hj, Option.map_some, Option.getD_some]
set_option maxRecDepth 100000 in
theorem lifted (os : Os) (started : os.Started) (H : Type) (enc : TypeId × Value → H) :
    ReturnsInHanded {} Tryd.checked os 15 .any (fun w args => (Rows.fnReflectedSpec.pre enc Tryd.prog Tryd.f15 Rows.fnReflectedRow.domain false w args ∧ laidMetH Tryd.prog Rows.fnReflectedRow.laid w) ∧ sizedMet enc Tryd.prog Tryd.f15 (OpenSpec.ofChange Rows.fnReflectedSpec) false w args) (Rows.fnReflectedSpec.post enc Tryd.prog Tryd.f15 false true false false) := by
  refine returnsInHanded_of_change_and (C := Tryd.checked) (X := fun w _ => laidMetH Tryd.prog Rows.fnReflectedRow.laid w) (fun _ _ _ hh h => h.of_heap hh) own started (by kernel_rfl) Tryd.func15
    (ChangeSpec.witness_shaped (enc := enc) (C := Tryd.checked) (os := os) (X := fun w _ => laidMetH Tryd.prog Rows.fnReflectedRow.laid w) false (World.laidAll Tryd.prog os Rows.fnReflectedRow.laid) #[.slice none 0 0, .slice none 0 0] 8 (World.laidAll_os _ _ _)
      (World.shaped_of_ZipB (by kernel_rfl) (by kernel_rfl)) (by kernel_rfl) (by kernel_rfl) (by kernel_rfl)
      (by rw [MakeChecks.laidMetH_plain _ _ _ (by kernel_rfl)]; exact laidMet_laidAll _ (by kernel_rfl) (by kernel_rfl))) ?_
  intro W base args ds gs before hval0 hW hcnd hsz0 hL _
  have hsz : (DataW.weightsEach Tryd.prog (Tryd.f15.params.toList ++ Rows.fnReflectedSpec.plain.varTypes Tryd.prog) (ds ++ gs)).all (· ≤ reachBytes) = true := hsz0
  have hval : ∀ (j : Nat) t v, Tryd.f15.params[j]? = some t → args[j]? = some v → Value.okWide Tryd.prog W .any base t v := hval0
  have hW' := hW
  obtain ⟨p, q, hA0, hV, rfl, hfz, hnd⟩ := hW
  have hA : DataW.TrodAll enc Tryd.prog W 0 (fun _ => true) true Tryd.f15.params.toList args.toList ds p := hA0
  rw [Tryd.params15] at hA hval hsz
  obtain ⟨v0, vs0, d0, ds0, p0, q0, hargs, rfl, rfl, h0, r0⟩ := trodAll_cons hA
  obtain ⟨v1, vs1, d1, ds1, p1, q1, rfl, rfl, rfl, h1, r1⟩ := trodAll_cons r0
  obtain ⟨rfl, rfl, rfl⟩ := trodAll_nil r1
  obtain rfl : args = #[v0, v1] := by cases args; simp_all
  obtain ⟨rfl, rfl⟩ := trodVars_none hV
  obtain ⟨a0, len0, cap0, rfl⟩ := okWide_slice Tryd.underlying38 (hval 0 38 v0 rfl rfl)
  have k0 := h0
  have lt0 : ∀ x ∈ p0, x.block < W.heap.size := by obtain ⟨m, hm⟩ := k0; exact DataW.trod_lt m _ _ _ hm
  obtain ⟨z0, w0⟩ : ∃ zs, IsRow .u8 W a0 len0 cap0 zs := by
    obtain ⟨fuel, hf⟩ := h0
    rcases open_ints Tryd.underlying38 Tryd.underlying5 (by kernel_rfl) hf with ⟨hcs, _⟩ | ⟨x, l, c, zs, hcs, _, hl, hm, hz, _, hcell, hwz⟩
    · simp [Value.cells] at hcs
      obtain ⟨rfl, rfl, rfl⟩ := hcs
      exact ⟨[], .inl ⟨rfl, rfl, rfl, rfl⟩⟩
    · simp [Value.cells] at hcs
      obtain ⟨rfl, rfl, rfl⟩ := hcs
      exact ⟨zs, .inr ⟨_, rfl, hl, hm, by simpa using hz, hcell, hwz⟩⟩
  have y0 : len0 * 1 ≤ 140737488351232 := Go.Proofs.YtnhifbopicjicaaDoorW.PrintWords.sized_ints hsz (j := 0) (t := 38) rfl rfl Tryd.underlying38 Tryd.underlying5 (by kernel_rfl) (by kernel_rfl) h0
  obtain ⟨a1, len1, cap1, rfl⟩ := okWide_slice Tryd.underlying38 (hval 1 38 v1 rfl rfl)
  have k1 := h1
  have lt1 : ∀ x ∈ p1, x.block < W.heap.size := by obtain ⟨m, hm⟩ := k1; exact DataW.trod_lt m _ _ _ hm
  obtain ⟨z1, w1⟩ : ∃ zs, IsRow .u8 W a1 len1 cap1 zs := by
    obtain ⟨fuel, hf⟩ := h1
    rcases open_ints Tryd.underlying38 Tryd.underlying5 (by kernel_rfl) hf with ⟨hcs, _⟩ | ⟨x, l, c, zs, hcs, _, hl, hm, hz, _, hcell, hwz⟩
    · simp [Value.cells] at hcs
      obtain ⟨rfl, rfl, rfl⟩ := hcs
      exact ⟨[], .inl ⟨rfl, rfl, rfl, rfl⟩⟩
    · simp [Value.cells] at hcs
      obtain ⟨rfl, rfl, rfl⟩ := hcs
      exact ⟨zs, .inr ⟨_, rfl, hl, hm, by simpa using hz, hcell, hwz⟩⟩
  have y1 : len1 * 1 ≤ 140737488351232 := Go.Proofs.YtnhifbopicjicaaDoorW.PrintWords.sized_ints hsz (j := 1) (t := 38) rfl rfl Tryd.underlying38 Tryd.underlying5 (by kernel_rfl) (by kernel_rfl) h1
  clear hA0 hval0 hsz0 hsz
  refine (PFnReflected.laws_FnReflected.walk Pure.FnReflected a0 len0 cap0 z0 a1 len1 cap1 z1 W w0 y0 w1 y1 (tab_of hL)).mono fun e W' ⟨he, bel⟩ => ?_
  subst he
  exact ⟨_, rfl, _, _, _, [], _, [], hW', trodAll_mk1 (shut_bool Tryd.underlying4 _), (trodAll_cons_mk (Below.trod laidOut (by kernel_rfl) (of_decide_eq_true (by kernel_rfl)) k0 bel lt0) (trodAll_cons_mk (Below.trod laidOut (by kernel_rfl) (of_decide_eq_true (by kernel_rfl)) k1 bel lt1) trodAll_mk0)), rfl, bel.frame _, fun h => by cases h⟩
/-! ### the closed facts, each by itself -/
theorem toList_of {s : String} {L : List Char} (h : s = String.ofList L) : s.toList = L := by subst h; exact String.toList_ofList
theorem words_step (w r : List Char) (h : (w.all fun c => !(c == Char.ofNat 32)) = true) : wordsSigns (w ++ Char.ofNat 32 :: r) = w :: wordsSigns r := by
  induction w with
  | nil => rfl
  | cons c w ih =>
    simp only [List.all_cons, Bool.and_eq_true] at h
    rw [List.cons_append, wordsSigns, ih h.2]
    intro e
    subst e
    simp at h
theorem words_three {l w1 w2 w3 r : List Char} (hl : l = w1 ++ Char.ofNat 32 :: (w2 ++ Char.ofNat 32 :: (w3 ++ Char.ofNat 32 :: r))) (h1 : (w1.all fun c => !(c == Char.ofNat 32)) = true) (h2 : (w2.all fun c => !(c == Char.ofNat 32)) = true) (h3 : (w3.all fun c => !(c == Char.ofNat 32)) = true) : wordsSigns l = w1 :: w2 :: w3 :: wordsSigns r := by
  rw [hl, words_step w1 _ h1, words_step w2 _ h2, words_step w3 _ h3]
set_option maxRecDepth 100000 in
theorem words_ : ∃ R, wordsSigns Tryd.pinned.checked.prog.initOrder.toList = "harness".toList :: "09e3e8b9602b2f18d403d6babfd11d8d8555d50c2d7accbcd7fdde317ac8b138".toList :: "cut".toList :: R := by
  rw [toList_of (s := Tryd.pinned.checked.prog.initOrder) (show Tryd.pinned.checked.prog.initOrder = String.ofList _ from rfl),
    toList_of (s := "harness") (show "harness" = String.ofList _ from rfl),
    toList_of (s := "09e3e8b9602b2f18d403d6babfd11d8d8555d50c2d7accbcd7fdde317ac8b138") (show "09e3e8b9602b2f18d403d6babfd11d8d8555d50c2d7accbcd7fdde317ac8b138" = String.ofList _ from rfl),
    toList_of (s := "cut") (show "cut" = String.ofList _ from rfl)]
  exact ⟨_, words_three rfl (by decide +kernel) (by decide +kernel) (by decide +kernel)⟩
theorem behind_ : ∃ R, behindMainWord (wordsSigns Tryd.pinned.checked.prog.initOrder.toList) = "cut".toList :: R := by
  obtain ⟨R, h⟩ := words_
  rw [h]
  exact ⟨R, show _ = _ by kernel_rfl⟩
theorem mainIs_of {P : Program} {a b : List Char} {r : List (List Char)} (h : wordsSigns P.initOrder.toList = a :: b :: r) : P.mainIs = (if !isSumSigns b then none else if a == "harness".toList then some (true, b) else if a == "ownmain".toList then some (false, b) else none) := by
  unfold Program.mainIs
  rw [h]
theorem strip_of (r : List (List Char)) : stripLifts liftWords ("cut".toList :: r) = ([], "cut".toList :: r) := by kernel_rfl
theorem make_of {P : Program} {r : List (List Char)} (h : behindMainWord (wordsSigns P.initOrder.toList) = "cut".toList :: r) : P.make = some .cut := by
  unfold Program.make
  rw [h]
  exact (show _ = _ by kernel_rfl)
theorem lifted_of {P : Program} {r : List (List Char)} (h : behindMainWord (wordsSigns P.initOrder.toList) = "cut".toList :: r) : P.liftsFinal = false := by
  unfold Program.liftsFinal Program.headLifts
  rw [h]
  exact (show _ = _ by kernel_rfl)
theorem mayEnter_of {P : Program} {r : List (List Char)} (h : behindMainWord (wordsSigns P.initOrder.toList) = "cut".toList :: r) (h1 : P.laysLater = false) (h2 : P.bearsReflect = false) (h3 : P.doorFits [] = true) : P.mayEnter = true := by
  unfold Program.mayEnter
  rw [h]
  simp only [strip_of, h1, h2, h3]
  exact (show _ = _ by kernel_rfl)
theorem c_make : (Tryd.pinned.checked.prog.make == some Rows.fnReflectedRow.make) = true := by
  obtain ⟨R, h⟩ := behind_
  exact (congrArg (fun x => (x == some Rows.fnReflectedRow.make)) (make_of h)).trans (by kernel_rfl)
theorem c_lifted : (Rows.fnReflectedRow.lifted == Tryd.pinned.checked.prog.liftsFinal) = true := by
  obtain ⟨R, h⟩ := behind_
  exact (congrArg (fun x => (Rows.fnReflectedRow.lifted == x)) (lifted_of h)).trans (by kernel_rfl)
theorem c_later : Tryd.pinned.checked.prog.laysLater = false := by kernel_rfl
theorem c_reflect : Tryd.pinned.checked.prog.bearsReflect = false := by kernel_rfl
theorem c_fits : Tryd.pinned.checked.prog.doorFits [] = true := by kernel_rfl
theorem c_enter : Tryd.pinned.checked.prog.mayEnter = true := by
  obtain ⟨R, h⟩ := behind_
  exact mayEnter_of h c_later c_reflect c_fits
theorem c_laid : laidOutB Tryd.pinned.checked.prog = true := by kernel_rfl
theorem c_inPlace : (Rows.fnReflectedRow.inPlace == Tryd.pinned.checked.prog.inPlace 15) = true := by kernel_rfl
theorem c_unfollowed : (Rows.fnReflectedRow.unfollowed == Tryd.pinned.checked.prog.unfollowed 15) = true := by kernel_rfl
theorem c_recurses : (Rows.fnReflectedRow.recurses == Tryd.pinned.checked.prog.recurses 15) = true := by kernel_rfl
theorem c_named : (Rows.fnReflectedRow.named == Tryd.pinned.checked.prog.varsNamed 15) = true := by kernel_rfl
theorem c_heard : Tryd.pinned.checked.prog.stopsHeard = true := by kernel_rfl
theorem closed_ : joinedFacts Tryd.pinned.checked.prog 15 Tryd.f15 Rows.fnReflectedSpec Rows.fnReflectedRow = true := by
  unfold joinedFacts
  simp only [Bool.and_eq_true]
  repeat' (refine And.intro ?_ ?_)
  all_goals (first
    | with_reducible exact c_make
    | with_reducible exact c_lifted
    | with_reducible exact c_enter
    | with_reducible exact c_laid
    | with_reducible exact c_inPlace
    | with_reducible exact c_unfollowed
    | with_reducible exact c_recurses
    | with_reducible exact c_named
    | with_reducible exact c_heard
    | (as_aux_lemma => kernel_rfl))
theorem c_fn : Tryd.pinned.checked.prog.funcNamed Rows.fnReflectedRow.func = some 15 := by kernel_rfl
theorem c_inst : decide (Tryd.f15.isInstance Tryd.pinned.checked.prog Rows.fnReflectedRow.origin Rows.fnReflectedRow.targs) = true := by kernel_rfl
theorem c_hw : Rows.fnReflectedRow.wfByText (OpenSpec.ofChange Rows.fnReflectedSpec) = true := by kernel_rfl
theorem c_hm : Tryd.pinned.checked.prog.mainIs = some (true, "09e3e8b9602b2f18d403d6babfd11d8d8555d50c2d7accbcd7fdde317ac8b138".toList) := by
  obtain ⟨R, h⟩ := words_
  exact (mainIs_of h).trans (by kernel_rfl)
theorem c_lk : false = Tryd.pinned.checked.prog.looks [] := by kernel_rfl
theorem c_hg : false = Rows.fnReflectedRow.goesBy Tryd.pinned.checked.prog := by kernel_rfl
theorem c_name : Tryd.prog.funcNamed "loop.example/g01104/laws.FnReflected" = some 15 := by kernel_rfl
theorem over : Rows.fnReflectedRow.holds Tryd.pinned (OpenSpec.ofChange Rows.fnReflectedSpec) :=
  OpenClaim.holds_of_wide 15 Tryd.f15 rfl rfl rfl rfl rfl rfl rfl ⟨rfl, rfl, rfl, rfl, rfl⟩ rfl rfl rfl rfl rfl c_fn Tryd.func15 closed_
    (of_decide_eq_true c_inst) (by unfold Func.isWrapper; first | (rw [if_pos (by decide +kernel)]; kernel_rfl) | (rw [if_neg (by decide +kernel)]; exact ⟨rfl, rfl⟩))
    (fun os started H enc _ => lifted os started H enc)
theorem card : Rows.FnReflectedCardSaid :=
  Claim7.holds_tied_plain_at .later [] [.data, .data] true (true, "09e3e8b9602b2f18d403d6babfd11d8d8555d50c2d7accbcd7fdde317ac8b138") false over (fun _ h => by cases h) c_hw (fun _ h => by cases h) fnReflected_row_tie rfl ⟨rfl, rfl⟩ c_hm rfl
    (fun f fn hf hfn => by
      obtain rfl : f = 15 := Option.some.inj (c_name.symm.trans hf) |>.symm
      obtain rfl : fn = Tryd.f15 := (Option.some.inj (Tryd.func15.symm.trans hfn)).symm
      exact ⟨c_lk, fun j t ht => by
        rw [Tryd.params15] at ht
        have hm : t ∈ [38, 38] := by simpa using Array.mem_of_getElem? ht
        have hall : ([38, 38].all fun u => !Tryd.prog.wantsStandIn u) = true := by kernel_rfl
        exact (show Tryd.prog.wantsStandIn t = false by simpa using List.all_eq_true.1 hall t hm)⟩)
    c_hg
theorem proved : Rows.FnReflectedCardSaid := card
#print axioms proved
end Go.Proofs.YtnhifbopicjicaaDoor.fnReflected
namespace Go.Proofs.YtnhifbopicjicaaDoor
/-- The row, under a short name, for the claim. -/
theorem fnReflected_holds : Rows.FnReflectedCardSaid := fnReflected.proved
end Go.Proofs.YtnhifbopicjicaaDoor
