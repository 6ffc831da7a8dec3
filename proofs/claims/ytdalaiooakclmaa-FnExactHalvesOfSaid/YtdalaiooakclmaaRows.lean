/-
  No cell of these rows narrows 'for every input' (looked for: loops, veiled, ifaces, maps, wideKeys, modest, calm, conditions, laid).
  DERIVED. THE GIVEN ROWS OF THIS SEAT. 11 by the template 'for every input the law returns true; each argument reads behind the call as it read before'; 0 by the template 'total and deterministic' (their statements: YtdalaiooakclmaaTotals.lean).
  GIVEN WITH THE SEED: the statements are not yours to turn. If you find one false, say at which input.
  Laid BY PROGRAM, IN A SANDBOX (cutbox-rows.mjs): the forced cells as the released guide's own fill.sh prints them over the translation 9c9612923181a574… (all of the seat's roots in one cut). By AI agents, Wed Nov 11 2026. No macro, syntax, notation, axiom, sorry.
-/
import Derived.Test.YtdalaiooakclmaaChecked
import GoSem.Claim
import GoSem.ClaimJoined
import GoSem.ClaimMapViews
import Derived.JoinedTies
import Derived.KernelRfl
namespace Go.Proofs.Ytdalaiooakclmaa
/- THE CELL 'sum', in the pinned program and in every row, IS THE sha256 OF THE DUMP (.gsa) THAT YtdalaiooakclmaaProg.lean LOADS. Nothing in Lean hashes anything: it is a label: what it is worth is what the hold of that sum in a sandbox is worth. -/
noncomputable def Try.pinned : Pinned := { name := "ytdalaiooakclmaa", sum := "9c9612923181a574ebd5ae2bf11ea01616a4edbe34810cc84bdbbf24e088fbcb", checked := Try.checked }
namespace Rows
def none {H : Type} : Left H := { results := [], args := [] }

/-- 'laws.FnExactRankOfDigits': WHATEVER THE INPUT: true; the input reads as it did. -/
def fnExactRankOfDigitsSpec : ChangeSpec := { name := "fnExactRankOfDigits", fn := fun _ => fun
  | [d1, d2] => { results := [.lit (.bool true)], args := [d1, d2] }
  | _ => none }
def fnExactRankOfDigitsRow : OpenClaim := { program := "ytdalaiooakclmaa", sum := "9c9612923181a574ebd5ae2bf11ea01616a4edbe34810cc84bdbbf24e088fbcb", func := "loop.example/g01104/laws.FnExactRankOfDigits", spec := "fnExactRankOfDigits", apart := false }
def FnExactRankOfDigitsSaid : Prop := fnExactRankOfDigitsRow.holds Try.pinned (OpenSpec.ofChange fnExactRankOfDigitsSpec)

/-- ITS FALSE NEIGHBOUR: 'it returns false'. Refute it at one input. -/
def fnExactRankOfDigitsWrong : ChangeSpec := { name := "fnExactRankOfDigits", fn := fun _ => fun
  | [d1, d2] => { results := [.lit (.bool false)], args := [d1, d2] }
  | _ => none }
def FnExactRankOfDigitsWrongFalsely : Prop := fnExactRankOfDigitsRow.holds Try.pinned (OpenSpec.ofChange fnExactRankOfDigitsWrong)

/-- 'laws.FnExactTurnList': WHATEVER THE INPUT: true; the input reads as it did. -/
def fnExactTurnListSpec : ChangeSpec := { name := "fnExactTurnList", fn := fun _ => fun
  | [d1, d2, d3] => { results := [.lit (.bool true)], args := [d1, d2, d3] }
  | _ => none }
def fnExactTurnListRow : OpenClaim := { program := "ytdalaiooakclmaa", sum := "9c9612923181a574ebd5ae2bf11ea01616a4edbe34810cc84bdbbf24e088fbcb", func := "loop.example/g01104/laws.FnExactTurnList", spec := "fnExactTurnList", apart := false }
def FnExactTurnListSaid : Prop := fnExactTurnListRow.holds Try.pinned (OpenSpec.ofChange fnExactTurnListSpec)

/-- ITS FALSE NEIGHBOUR: 'it returns false'. Refute it at one input. -/
def fnExactTurnListWrong : ChangeSpec := { name := "fnExactTurnList", fn := fun _ => fun
  | [d1, d2, d3] => { results := [.lit (.bool false)], args := [d1, d2, d3] }
  | _ => none }
def FnExactTurnListWrongFalsely : Prop := fnExactTurnListRow.holds Try.pinned (OpenSpec.ofChange fnExactTurnListWrong)

/-- 'laws.FnExactAllCombinations': WHATEVER THE INPUT: true; the input reads as it did. -/
def fnExactAllCombinationsSpec : ChangeSpec := { name := "fnExactAllCombinations", fn := fun _ => fun
  | [d1, d2] => { results := [.lit (.bool true)], args := [d1, d2] }
  | _ => none }
def fnExactAllCombinationsRow : OpenClaim := { program := "ytdalaiooakclmaa", sum := "9c9612923181a574ebd5ae2bf11ea01616a4edbe34810cc84bdbbf24e088fbcb", func := "loop.example/g01104/laws.FnExactAllCombinations", spec := "fnExactAllCombinations", recurses := true, apart := false }
def FnExactAllCombinationsSaid : Prop := fnExactAllCombinationsRow.holds Try.pinned (OpenSpec.ofChange fnExactAllCombinationsSpec)

/-- ITS FALSE NEIGHBOUR: 'it returns false'. Refute it at one input. -/
def fnExactAllCombinationsWrong : ChangeSpec := { name := "fnExactAllCombinations", fn := fun _ => fun
  | [d1, d2] => { results := [.lit (.bool false)], args := [d1, d2] }
  | _ => none }
def FnExactAllCombinationsWrongFalsely : Prop := fnExactAllCombinationsRow.holds Try.pinned (OpenSpec.ofChange fnExactAllCombinationsWrong)

/-- 'laws.FnExactMixedAt': WHATEVER THE INPUT: true; the input reads as it did. -/
def fnExactMixedAtSpec : ChangeSpec := { name := "fnExactMixedAt", fn := fun _ => fun
  | [d1, d2] => { results := [.lit (.bool true)], args := [d1, d2] }
  | _ => none }
def fnExactMixedAtRow : OpenClaim := { program := "ytdalaiooakclmaa", sum := "9c9612923181a574ebd5ae2bf11ea01616a4edbe34810cc84bdbbf24e088fbcb", func := "loop.example/g01104/laws.FnExactMixedAt", spec := "fnExactMixedAt", recurses := true, apart := false }
def FnExactMixedAtSaid : Prop := fnExactMixedAtRow.holds Try.pinned (OpenSpec.ofChange fnExactMixedAtSpec)

/-- ITS FALSE NEIGHBOUR: 'it returns false'. Refute it at one input. -/
def fnExactMixedAtWrong : ChangeSpec := { name := "fnExactMixedAt", fn := fun _ => fun
  | [d1, d2] => { results := [.lit (.bool false)], args := [d1, d2] }
  | _ => none }
def FnExactMixedAtWrongFalsely : Prop := fnExactMixedAtRow.holds Try.pinned (OpenSpec.ofChange fnExactMixedAtWrong)

/-- 'laws.FnExactMixedRank': WHATEVER THE INPUT: true; the input reads as it did. -/
def fnExactMixedRankSpec : ChangeSpec := { name := "fnExactMixedRank", fn := fun _ => fun
  | [d1, d2] => { results := [.lit (.bool true)], args := [d1, d2] }
  | _ => none }
def fnExactMixedRankRow : OpenClaim := { program := "ytdalaiooakclmaa", sum := "9c9612923181a574ebd5ae2bf11ea01616a4edbe34810cc84bdbbf24e088fbcb", func := "loop.example/g01104/laws.FnExactMixedRank", spec := "fnExactMixedRank", recurses := true, apart := false }
def FnExactMixedRankSaid : Prop := fnExactMixedRankRow.holds Try.pinned (OpenSpec.ofChange fnExactMixedRankSpec)

/-- ITS FALSE NEIGHBOUR: 'it returns false'. Refute it at one input. -/
def fnExactMixedRankWrong : ChangeSpec := { name := "fnExactMixedRank", fn := fun _ => fun
  | [d1, d2] => { results := [.lit (.bool false)], args := [d1, d2] }
  | _ => none }
def FnExactMixedRankWrongFalsely : Prop := fnExactMixedRankRow.holds Try.pinned (OpenSpec.ofChange fnExactMixedRankWrong)

/-- 'laws.FnExactColexRank': WHATEVER THE INPUT: true; the input reads as it did. -/
def fnExactColexRankSpec : ChangeSpec := { name := "fnExactColexRank", fn := fun _ => fun
  | [d] => { results := [.lit (.bool true)], args := [d] }
  | _ => none }
def fnExactColexRankRow : OpenClaim := { program := "ytdalaiooakclmaa", sum := "9c9612923181a574ebd5ae2bf11ea01616a4edbe34810cc84bdbbf24e088fbcb", func := "loop.example/g01104/laws.FnExactColexRank", spec := "fnExactColexRank", recurses := true, apart := false }
def FnExactColexRankSaid : Prop := fnExactColexRankRow.holds Try.pinned (OpenSpec.ofChange fnExactColexRankSpec)

/-- ITS FALSE NEIGHBOUR: 'it returns false'. Refute it at one input. -/
def fnExactColexRankWrong : ChangeSpec := { name := "fnExactColexRank", fn := fun _ => fun
  | [d] => { results := [.lit (.bool false)], args := [d] }
  | _ => none }
def FnExactColexRankWrongFalsely : Prop := fnExactColexRankRow.holds Try.pinned (OpenSpec.ofChange fnExactColexRankWrong)

/-- 'laws.FnExactCombinationRank': WHATEVER THE INPUT: true; the input reads as it did. -/
def fnExactCombinationRankSpec : ChangeSpec := { name := "fnExactCombinationRank", fn := fun _ => fun
  | [d1, d2] => { results := [.lit (.bool true)], args := [d1, d2] }
  | _ => none }
def fnExactCombinationRankRow : OpenClaim := { program := "ytdalaiooakclmaa", sum := "9c9612923181a574ebd5ae2bf11ea01616a4edbe34810cc84bdbbf24e088fbcb", func := "loop.example/g01104/laws.FnExactCombinationRank", spec := "fnExactCombinationRank", recurses := true, apart := false }
def FnExactCombinationRankSaid : Prop := fnExactCombinationRankRow.holds Try.pinned (OpenSpec.ofChange fnExactCombinationRankSpec)

/-- ITS FALSE NEIGHBOUR: 'it returns false'. Refute it at one input. -/
def fnExactCombinationRankWrong : ChangeSpec := { name := "fnExactCombinationRank", fn := fun _ => fun
  | [d1, d2] => { results := [.lit (.bool false)], args := [d1, d2] }
  | _ => none }
def FnExactCombinationRankWrongFalsely : Prop := fnExactCombinationRankRow.holds Try.pinned (OpenSpec.ofChange fnExactCombinationRankWrong)

/-- 'laws.FnExactHalvesOf': WHATEVER THE INPUT: true; the input reads as it did. -/
def fnExactHalvesOfSpec : ChangeSpec := { name := "fnExactHalvesOf", fn := fun _ => fun
  | [d1, d2] => { results := [.lit (.bool true)], args := [d1, d2] }
  | _ => none }
def fnExactHalvesOfRow : OpenClaim := { program := "ytdalaiooakclmaa", sum := "9c9612923181a574ebd5ae2bf11ea01616a4edbe34810cc84bdbbf24e088fbcb", func := "loop.example/g01104/laws.FnExactHalvesOf", spec := "fnExactHalvesOf", apart := false }
def FnExactHalvesOfSaid : Prop := fnExactHalvesOfRow.holds Try.pinned (OpenSpec.ofChange fnExactHalvesOfSpec)

/-- ITS FALSE NEIGHBOUR: 'it returns false'. Refute it at one input. -/
def fnExactHalvesOfWrong : ChangeSpec := { name := "fnExactHalvesOf", fn := fun _ => fun
  | [d1, d2] => { results := [.lit (.bool false)], args := [d1, d2] }
  | _ => none }
def FnExactHalvesOfWrongFalsely : Prop := fnExactHalvesOfRow.holds Try.pinned (OpenSpec.ofChange fnExactHalvesOfWrong)

/-- 'laws.FnExactNextCombination': WHATEVER THE INPUT: true; the input reads as it did. -/
def fnExactNextCombinationSpec : ChangeSpec := { name := "fnExactNextCombination", fn := fun _ => fun
  | [d1, d2] => { results := [.lit (.bool true)], args := [d1, d2] }
  | _ => none }
def fnExactNextCombinationRow : OpenClaim := { program := "ytdalaiooakclmaa", sum := "9c9612923181a574ebd5ae2bf11ea01616a4edbe34810cc84bdbbf24e088fbcb", func := "loop.example/g01104/laws.FnExactNextCombination", spec := "fnExactNextCombination", recurses := true, apart := false }
def FnExactNextCombinationSaid : Prop := fnExactNextCombinationRow.holds Try.pinned (OpenSpec.ofChange fnExactNextCombinationSpec)

/-- ITS FALSE NEIGHBOUR: 'it returns false'. Refute it at one input. -/
def fnExactNextCombinationWrong : ChangeSpec := { name := "fnExactNextCombination", fn := fun _ => fun
  | [d1, d2] => { results := [.lit (.bool false)], args := [d1, d2] }
  | _ => none }
def FnExactNextCombinationWrongFalsely : Prop := fnExactNextCombinationRow.holds Try.pinned (OpenSpec.ofChange fnExactNextCombinationWrong)

/-- 'laws.FnExactIsMixedList': WHATEVER THE INPUT: true; the input reads as it did. -/
def fnExactIsMixedListSpec : ChangeSpec := { name := "fnExactIsMixedList", fn := fun _ => fun
  | [d1, d2] => { results := [.lit (.bool true)], args := [d1, d2] }
  | _ => none }
def fnExactIsMixedListRow : OpenClaim := { program := "ytdalaiooakclmaa", sum := "9c9612923181a574ebd5ae2bf11ea01616a4edbe34810cc84bdbbf24e088fbcb", func := "loop.example/g01104/laws.FnExactIsMixedList", spec := "fnExactIsMixedList", recurses := true, apart := false }
def FnExactIsMixedListSaid : Prop := fnExactIsMixedListRow.holds Try.pinned (OpenSpec.ofChange fnExactIsMixedListSpec)

/-- ITS FALSE NEIGHBOUR: 'it returns false'. Refute it at one input. -/
def fnExactIsMixedListWrong : ChangeSpec := { name := "fnExactIsMixedList", fn := fun _ => fun
  | [d1, d2] => { results := [.lit (.bool false)], args := [d1, d2] }
  | _ => none }
def FnExactIsMixedListWrongFalsely : Prop := fnExactIsMixedListRow.holds Try.pinned (OpenSpec.ofChange fnExactIsMixedListWrong)

/-- 'laws.FnExactNextMixed': WHATEVER THE INPUT: true; the input reads as it did. -/
def fnExactNextMixedSpec : ChangeSpec := { name := "fnExactNextMixed", fn := fun _ => fun
  | [d1, d2] => { results := [.lit (.bool true)], args := [d1, d2] }
  | _ => none }
def fnExactNextMixedRow : OpenClaim := { program := "ytdalaiooakclmaa", sum := "9c9612923181a574ebd5ae2bf11ea01616a4edbe34810cc84bdbbf24e088fbcb", func := "loop.example/g01104/laws.FnExactNextMixed", spec := "fnExactNextMixed", recurses := true, apart := false }
def FnExactNextMixedSaid : Prop := fnExactNextMixedRow.holds Try.pinned (OpenSpec.ofChange fnExactNextMixedSpec)

/-- ITS FALSE NEIGHBOUR: 'it returns false'. Refute it at one input. -/
def fnExactNextMixedWrong : ChangeSpec := { name := "fnExactNextMixed", fn := fun _ => fun
  | [d1, d2] => { results := [.lit (.bool false)], args := [d1, d2] }
  | _ => none }
def FnExactNextMixedWrongFalsely : Prop := fnExactNextMixedRow.holds Try.pinned (OpenSpec.ofChange fnExactNextMixedWrong)

/- THE SECOND FORM. 'bulk': how many values and letters a reading holds, each counted each time it is reached (what is shared counts as often as it is met; a slice's spare places count too). A statement '..UptoSaid' is the law's where the arguments, and the package variables that the reading takes, are together of bulk at most 1048576: NARROWER than '..Said'. Prove '..Said' where nothing that the law and all that it calls make is longer than what came in: it says more and counts as full. Else prove '..UptoSaid'. A law counts once. -/
mutual
def uptoBulk {H : Type} : DataW H → Nat
  | .lit (.string bytes) => bytes.length + 1
  | .lit _ => 1
  | .nil => 1
  | .ptr d => uptoBulk d + 1
  | .slice elems spare => uptoBulkAll elems + uptoBulkAll spare + 1
  | .agg parts => uptoBulkAll parts + 1
  | .iface _ d => uptoBulk d + 1
  | .map entries => uptoBulkEntries entries + 1
  | .held _ => 1
def uptoBulkAll {H : Type} : List (DataW H) → Nat
  | [] => 0
  | d :: r => uptoBulk d + uptoBulkAll r
def uptoBulkEntries {H : Type} : List (Lit × DataW H) → Nat
  | [] => 0
  | x :: r => uptoBulkEntry x + uptoBulkEntries r
def uptoBulkEntry {H : Type} : Lit × DataW H → Nat
  | (.string bytes, d) => bytes.length + uptoBulk d + 1
  | (_, d) => uptoBulk d + 1
 end
def uptoSmall : (H : Type) → List (DataW H) → Bool := fun _ ds => decide (uptoBulkAll ds ≤ 1048576)
def OpenSpec.upto (s : _root_.Go.ChangeSpec) : _root_.Go.OpenSpec := { _root_.Go.OpenSpec.ofChange s with cond := some uptoSmall }

/-- 'laws.FnExactRankOfDigits', WHERE WHAT IT READS IS OF BULK AT MOST 1048576: true; the input reads as it did. -/
def fnExactRankOfDigitsUptoRow : OpenClaim := { program := "ytdalaiooakclmaa", sum := "9c9612923181a574ebd5ae2bf11ea01616a4edbe34810cc84bdbbf24e088fbcb", func := "loop.example/g01104/laws.FnExactRankOfDigits", spec := "fnExactRankOfDigits", apart := false, narrowed := true }
def FnExactRankOfDigitsUptoSaid : Prop := fnExactRankOfDigitsUptoRow.holds Try.pinned (OpenSpec.upto fnExactRankOfDigitsSpec)

/-- 'laws.FnExactTurnList', WHERE WHAT IT READS IS OF BULK AT MOST 1048576: true; the input reads as it did. -/
def fnExactTurnListUptoRow : OpenClaim := { program := "ytdalaiooakclmaa", sum := "9c9612923181a574ebd5ae2bf11ea01616a4edbe34810cc84bdbbf24e088fbcb", func := "loop.example/g01104/laws.FnExactTurnList", spec := "fnExactTurnList", apart := false, narrowed := true }
def FnExactTurnListUptoSaid : Prop := fnExactTurnListUptoRow.holds Try.pinned (OpenSpec.upto fnExactTurnListSpec)

/-- 'laws.FnExactAllCombinations', WHERE WHAT IT READS IS OF BULK AT MOST 1048576: true; the input reads as it did. -/
def fnExactAllCombinationsUptoRow : OpenClaim := { program := "ytdalaiooakclmaa", sum := "9c9612923181a574ebd5ae2bf11ea01616a4edbe34810cc84bdbbf24e088fbcb", func := "loop.example/g01104/laws.FnExactAllCombinations", spec := "fnExactAllCombinations", recurses := true, apart := false, narrowed := true }
def FnExactAllCombinationsUptoSaid : Prop := fnExactAllCombinationsUptoRow.holds Try.pinned (OpenSpec.upto fnExactAllCombinationsSpec)

/-- 'laws.FnExactMixedAt', WHERE WHAT IT READS IS OF BULK AT MOST 1048576: true; the input reads as it did. -/
def fnExactMixedAtUptoRow : OpenClaim := { program := "ytdalaiooakclmaa", sum := "9c9612923181a574ebd5ae2bf11ea01616a4edbe34810cc84bdbbf24e088fbcb", func := "loop.example/g01104/laws.FnExactMixedAt", spec := "fnExactMixedAt", recurses := true, apart := false, narrowed := true }
def FnExactMixedAtUptoSaid : Prop := fnExactMixedAtUptoRow.holds Try.pinned (OpenSpec.upto fnExactMixedAtSpec)

/-- 'laws.FnExactMixedRank', WHERE WHAT IT READS IS OF BULK AT MOST 1048576: true; the input reads as it did. -/
def fnExactMixedRankUptoRow : OpenClaim := { program := "ytdalaiooakclmaa", sum := "9c9612923181a574ebd5ae2bf11ea01616a4edbe34810cc84bdbbf24e088fbcb", func := "loop.example/g01104/laws.FnExactMixedRank", spec := "fnExactMixedRank", recurses := true, apart := false, narrowed := true }
def FnExactMixedRankUptoSaid : Prop := fnExactMixedRankUptoRow.holds Try.pinned (OpenSpec.upto fnExactMixedRankSpec)

/-- 'laws.FnExactColexRank', WHERE WHAT IT READS IS OF BULK AT MOST 1048576: true; the input reads as it did. -/
def fnExactColexRankUptoRow : OpenClaim := { program := "ytdalaiooakclmaa", sum := "9c9612923181a574ebd5ae2bf11ea01616a4edbe34810cc84bdbbf24e088fbcb", func := "loop.example/g01104/laws.FnExactColexRank", spec := "fnExactColexRank", recurses := true, apart := false, narrowed := true }
def FnExactColexRankUptoSaid : Prop := fnExactColexRankUptoRow.holds Try.pinned (OpenSpec.upto fnExactColexRankSpec)

/-- 'laws.FnExactCombinationRank', WHERE WHAT IT READS IS OF BULK AT MOST 1048576: true; the input reads as it did. -/
def fnExactCombinationRankUptoRow : OpenClaim := { program := "ytdalaiooakclmaa", sum := "9c9612923181a574ebd5ae2bf11ea01616a4edbe34810cc84bdbbf24e088fbcb", func := "loop.example/g01104/laws.FnExactCombinationRank", spec := "fnExactCombinationRank", recurses := true, apart := false, narrowed := true }
def FnExactCombinationRankUptoSaid : Prop := fnExactCombinationRankUptoRow.holds Try.pinned (OpenSpec.upto fnExactCombinationRankSpec)

/-- 'laws.FnExactHalvesOf', WHERE WHAT IT READS IS OF BULK AT MOST 1048576: true; the input reads as it did. -/
def fnExactHalvesOfUptoRow : OpenClaim := { program := "ytdalaiooakclmaa", sum := "9c9612923181a574ebd5ae2bf11ea01616a4edbe34810cc84bdbbf24e088fbcb", func := "loop.example/g01104/laws.FnExactHalvesOf", spec := "fnExactHalvesOf", apart := false, narrowed := true }
def FnExactHalvesOfUptoSaid : Prop := fnExactHalvesOfUptoRow.holds Try.pinned (OpenSpec.upto fnExactHalvesOfSpec)

/-- 'laws.FnExactNextCombination', WHERE WHAT IT READS IS OF BULK AT MOST 1048576: true; the input reads as it did. -/
def fnExactNextCombinationUptoRow : OpenClaim := { program := "ytdalaiooakclmaa", sum := "9c9612923181a574ebd5ae2bf11ea01616a4edbe34810cc84bdbbf24e088fbcb", func := "loop.example/g01104/laws.FnExactNextCombination", spec := "fnExactNextCombination", recurses := true, apart := false, narrowed := true }
def FnExactNextCombinationUptoSaid : Prop := fnExactNextCombinationUptoRow.holds Try.pinned (OpenSpec.upto fnExactNextCombinationSpec)

/-- 'laws.FnExactIsMixedList', WHERE WHAT IT READS IS OF BULK AT MOST 1048576: true; the input reads as it did. -/
def fnExactIsMixedListUptoRow : OpenClaim := { program := "ytdalaiooakclmaa", sum := "9c9612923181a574ebd5ae2bf11ea01616a4edbe34810cc84bdbbf24e088fbcb", func := "loop.example/g01104/laws.FnExactIsMixedList", spec := "fnExactIsMixedList", recurses := true, apart := false, narrowed := true }
def FnExactIsMixedListUptoSaid : Prop := fnExactIsMixedListUptoRow.holds Try.pinned (OpenSpec.upto fnExactIsMixedListSpec)

/-- 'laws.FnExactNextMixed', WHERE WHAT IT READS IS OF BULK AT MOST 1048576: true; the input reads as it did. -/
def fnExactNextMixedUptoRow : OpenClaim := { program := "ytdalaiooakclmaa", sum := "9c9612923181a574ebd5ae2bf11ea01616a4edbe34810cc84bdbbf24e088fbcb", func := "loop.example/g01104/laws.FnExactNextMixed", spec := "fnExactNextMixed", recurses := true, apart := false, narrowed := true }
def FnExactNextMixedUptoSaid : Prop := fnExactNextMixedUptoRow.holds Try.pinned (OpenSpec.upto fnExactNextMixedSpec)

end Rows
end Go.Proofs.Ytdalaiooakclmaa
