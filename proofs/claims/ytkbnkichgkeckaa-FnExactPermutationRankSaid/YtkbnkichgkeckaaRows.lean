/-
  No cell of these rows narrows 'for every input' (looked for: loops, veiled, ifaces, maps, wideKeys, modest, calm, conditions, laid).
  DERIVED. THE GIVEN ROWS OF THIS SEAT. 12 by the template 'for every input the law returns true; each argument reads behind the call as it read before'; 0 by the template 'total and deterministic' (their statements: YtkbnkichgkeckaaTotals.lean).
  GIVEN WITH THE SEED: the statements are not yours to turn. If you find one false, say at which input.
  Laid BY PROGRAM, IN A SANDBOX (cutbox-rows.mjs): the forced cells as the released guide's own fill.sh prints them over the translation 7902eceede73f053… (all of the seat's roots in one cut). By AI agents, Wed Nov 11 2026. No macro, syntax, notation, axiom, sorry.
-/
import Derived.Test.YtkbnkichgkeckaaChecked
import GoSem.Claim
import GoSem.ClaimJoined
import GoSem.ClaimMapViews
import Derived.JoinedTies
import Derived.KernelRfl
namespace Go.Proofs.Ytkbnkichgkeckaa
/- THE CELL 'sum', in the pinned program and in every row, IS THE sha256 OF THE DUMP (.gsa) THAT YtkbnkichgkeckaaProg.lean LOADS. Nothing in Lean hashes anything: it is a label: what it is worth is what the hold of that sum in a sandbox is worth. -/
noncomputable def Try.pinned : Pinned := { name := "ytkbnkichgkeckaa", sum := "7902eceede73f053453e8ef43c7b0d1b9a13438a7bee8b9f9b6163951ea6c3cb", checked := Try.checked }
namespace Rows
def none {H : Type} : Left H := { results := [], args := [] }

/-- 'laws.FnExactPermutationAt': WHATEVER THE INPUT: true; the input reads as it did. -/
def fnExactPermutationAtSpec : ChangeSpec := { name := "fnExactPermutationAt", fn := fun _ => fun
  | [d1, d2] => { results := [.lit (.bool true)], args := [d1, d2] }
  | _ => none }
def fnExactPermutationAtRow : OpenClaim := { program := "ytkbnkichgkeckaa", sum := "7902eceede73f053453e8ef43c7b0d1b9a13438a7bee8b9f9b6163951ea6c3cb", func := "loop.example/g01104/laws.FnExactPermutationAt", spec := "fnExactPermutationAt", recurses := true, apart := false }
def FnExactPermutationAtSaid : Prop := fnExactPermutationAtRow.holds Try.pinned (OpenSpec.ofChange fnExactPermutationAtSpec)

/-- ITS FALSE NEIGHBOUR: 'it returns false'. Refute it at one input. -/
def fnExactPermutationAtWrong : ChangeSpec := { name := "fnExactPermutationAt", fn := fun _ => fun
  | [d1, d2] => { results := [.lit (.bool false)], args := [d1, d2] }
  | _ => none }
def FnExactPermutationAtWrongFalsely : Prop := fnExactPermutationAtRow.holds Try.pinned (OpenSpec.ofChange fnExactPermutationAtWrong)

/-- 'laws.FnExactFromInversions': WHATEVER THE INPUT: true; the input reads as it did. -/
def fnExactFromInversionsSpec : ChangeSpec := { name := "fnExactFromInversions", fn := fun _ => fun
  | [d] => { results := [.lit (.bool true)], args := [d] }
  | _ => none }
def fnExactFromInversionsRow : OpenClaim := { program := "ytkbnkichgkeckaa", sum := "7902eceede73f053453e8ef43c7b0d1b9a13438a7bee8b9f9b6163951ea6c3cb", func := "loop.example/g01104/laws.FnExactFromInversions", spec := "fnExactFromInversions", apart := false }
def FnExactFromInversionsSaid : Prop := fnExactFromInversionsRow.holds Try.pinned (OpenSpec.ofChange fnExactFromInversionsSpec)

/-- ITS FALSE NEIGHBOUR: 'it returns false'. Refute it at one input. -/
def fnExactFromInversionsWrong : ChangeSpec := { name := "fnExactFromInversions", fn := fun _ => fun
  | [d] => { results := [.lit (.bool false)], args := [d] }
  | _ => none }
def FnExactFromInversionsWrongFalsely : Prop := fnExactFromInversionsRow.holds Try.pinned (OpenSpec.ofChange fnExactFromInversionsWrong)

/-- 'laws.FnExactAllPermutations': WHATEVER THE INPUT: true; the input reads as it did. -/
def fnExactAllPermutationsSpec : ChangeSpec := { name := "fnExactAllPermutations", fn := fun _ => fun
  | [d] => { results := [.lit (.bool true)], args := [d] }
  | _ => none }
def fnExactAllPermutationsRow : OpenClaim := { program := "ytkbnkichgkeckaa", sum := "7902eceede73f053453e8ef43c7b0d1b9a13438a7bee8b9f9b6163951ea6c3cb", func := "loop.example/g01104/laws.FnExactAllPermutations", spec := "fnExactAllPermutations", recurses := true, apart := false }
def FnExactAllPermutationsSaid : Prop := fnExactAllPermutationsRow.holds Try.pinned (OpenSpec.ofChange fnExactAllPermutationsSpec)

/-- ITS FALSE NEIGHBOUR: 'it returns false'. Refute it at one input. -/
def fnExactAllPermutationsWrong : ChangeSpec := { name := "fnExactAllPermutations", fn := fun _ => fun
  | [d] => { results := [.lit (.bool false)], args := [d] }
  | _ => none }
def FnExactAllPermutationsWrongFalsely : Prop := fnExactAllPermutationsRow.holds Try.pinned (OpenSpec.ofChange fnExactAllPermutationsWrong)

/-- 'laws.FnCounts': WHATEVER THE INPUT: true; the input reads as it did. -/
def fnCountsSpec : ChangeSpec := { name := "fnCounts", fn := fun _ => fun
  | [d1, d2] => { results := [.lit (.bool true)], args := [d1, d2] }
  | _ => none }
def fnCountsRow : OpenClaim := { program := "ytkbnkichgkeckaa", sum := "7902eceede73f053453e8ef43c7b0d1b9a13438a7bee8b9f9b6163951ea6c3cb", func := "loop.example/g01104/laws.FnCounts", spec := "fnCounts", recurses := true, apart := false }
def FnCountsSaid : Prop := fnCountsRow.holds Try.pinned (OpenSpec.ofChange fnCountsSpec)

/-- ITS FALSE NEIGHBOUR: 'it returns false'. Refute it at one input. -/
def fnCountsWrong : ChangeSpec := { name := "fnCounts", fn := fun _ => fun
  | [d1, d2] => { results := [.lit (.bool false)], args := [d1, d2] }
  | _ => none }
def FnCountsWrongFalsely : Prop := fnCountsRow.holds Try.pinned (OpenSpec.ofChange fnCountsWrong)

/-- 'laws.FnDigits': WHATEVER THE INPUT: true; the input reads as it did. -/
def fnDigitsSpec : ChangeSpec := { name := "fnDigits", fn := fun _ => fun
  | [d1, d2] => { results := [.lit (.bool true)], args := [d1, d2] }
  | _ => none }
def fnDigitsRow : OpenClaim := { program := "ytkbnkichgkeckaa", sum := "7902eceede73f053453e8ef43c7b0d1b9a13438a7bee8b9f9b6163951ea6c3cb", func := "loop.example/g01104/laws.FnDigits", spec := "fnDigits", apart := false }
def FnDigitsSaid : Prop := fnDigitsRow.holds Try.pinned (OpenSpec.ofChange fnDigitsSpec)

/-- ITS FALSE NEIGHBOUR: 'it returns false'. Refute it at one input. -/
def fnDigitsWrong : ChangeSpec := { name := "fnDigits", fn := fun _ => fun
  | [d1, d2] => { results := [.lit (.bool false)], args := [d1, d2] }
  | _ => none }
def FnDigitsWrongFalsely : Prop := fnDigitsRow.holds Try.pinned (OpenSpec.ofChange fnDigitsWrong)

/-- 'laws.FnColexRanks': WHATEVER THE INPUT: true; the input reads as it did. -/
def fnColexRanksSpec : ChangeSpec := { name := "fnColexRanks", fn := fun _ => fun
  | [d1, d2] => { results := [.lit (.bool true)], args := [d1, d2] }
  | _ => none }
def fnColexRanksRow : OpenClaim := { program := "ytkbnkichgkeckaa", sum := "7902eceede73f053453e8ef43c7b0d1b9a13438a7bee8b9f9b6163951ea6c3cb", func := "loop.example/g01104/laws.FnColexRanks", spec := "fnColexRanks", recurses := true, apart := false }
def FnColexRanksSaid : Prop := fnColexRanksRow.holds Try.pinned (OpenSpec.ofChange fnColexRanksSpec)

/-- ITS FALSE NEIGHBOUR: 'it returns false'. Refute it at one input. -/
def fnColexRanksWrong : ChangeSpec := { name := "fnColexRanks", fn := fun _ => fun
  | [d1, d2] => { results := [.lit (.bool false)], args := [d1, d2] }
  | _ => none }
def FnColexRanksWrongFalsely : Prop := fnColexRanksRow.holds Try.pinned (OpenSpec.ofChange fnColexRanksWrong)

/-- 'laws.FnCombinationRanks': WHATEVER THE INPUT: true; the input reads as it did. -/
def fnCombinationRanksSpec : ChangeSpec := { name := "fnCombinationRanks", fn := fun _ => fun
  | [d1, d2] => { results := [.lit (.bool true)], args := [d1, d2] }
  | _ => none }
def fnCombinationRanksRow : OpenClaim := { program := "ytkbnkichgkeckaa", sum := "7902eceede73f053453e8ef43c7b0d1b9a13438a7bee8b9f9b6163951ea6c3cb", func := "loop.example/g01104/laws.FnCombinationRanks", spec := "fnCombinationRanks", recurses := true, apart := false }
def FnCombinationRanksSaid : Prop := fnCombinationRanksRow.holds Try.pinned (OpenSpec.ofChange fnCombinationRanksSpec)

/-- ITS FALSE NEIGHBOUR: 'it returns false'. Refute it at one input. -/
def fnCombinationRanksWrong : ChangeSpec := { name := "fnCombinationRanks", fn := fun _ => fun
  | [d1, d2] => { results := [.lit (.bool false)], args := [d1, d2] }
  | _ => none }
def FnCombinationRanksWrongFalsely : Prop := fnCombinationRanksRow.holds Try.pinned (OpenSpec.ofChange fnCombinationRanksWrong)

/-- 'laws.FnExactIsPermutation': WHATEVER THE INPUT: true; the input reads as it did. -/
def fnExactIsPermutationSpec : ChangeSpec := { name := "fnExactIsPermutation", fn := fun _ => fun
  | [d] => { results := [.lit (.bool true)], args := [d] }
  | _ => none }
def fnExactIsPermutationRow : OpenClaim := { program := "ytkbnkichgkeckaa", sum := "7902eceede73f053453e8ef43c7b0d1b9a13438a7bee8b9f9b6163951ea6c3cb", func := "loop.example/g01104/laws.FnExactIsPermutation", spec := "fnExactIsPermutation", unfollowed := true, recurses := true, apart := false }
def FnExactIsPermutationSaid : Prop := fnExactIsPermutationRow.holds Try.pinned (OpenSpec.ofChange fnExactIsPermutationSpec)

/-- ITS FALSE NEIGHBOUR: 'it returns false'. Refute it at one input. -/
def fnExactIsPermutationWrong : ChangeSpec := { name := "fnExactIsPermutation", fn := fun _ => fun
  | [d] => { results := [.lit (.bool false)], args := [d] }
  | _ => none }
def FnExactIsPermutationWrongFalsely : Prop := fnExactIsPermutationRow.holds Try.pinned (OpenSpec.ofChange fnExactIsPermutationWrong)

/-- 'laws.FnExactInverseOf': WHATEVER THE INPUT: true; the input reads as it did. -/
def fnExactInverseOfSpec : ChangeSpec := { name := "fnExactInverseOf", fn := fun _ => fun
  | [d] => { results := [.lit (.bool true)], args := [d] }
  | _ => none }
def fnExactInverseOfRow : OpenClaim := { program := "ytkbnkichgkeckaa", sum := "7902eceede73f053453e8ef43c7b0d1b9a13438a7bee8b9f9b6163951ea6c3cb", func := "loop.example/g01104/laws.FnExactInverseOf", spec := "fnExactInverseOf", unfollowed := true, recurses := true, apart := false }
def FnExactInverseOfSaid : Prop := fnExactInverseOfRow.holds Try.pinned (OpenSpec.ofChange fnExactInverseOfSpec)

/-- ITS FALSE NEIGHBOUR: 'it returns false'. Refute it at one input. -/
def fnExactInverseOfWrong : ChangeSpec := { name := "fnExactInverseOf", fn := fun _ => fun
  | [d] => { results := [.lit (.bool false)], args := [d] }
  | _ => none }
def FnExactInverseOfWrongFalsely : Prop := fnExactInverseOfRow.holds Try.pinned (OpenSpec.ofChange fnExactInverseOfWrong)

/-- 'laws.FnExactPermutationRank': WHATEVER THE INPUT: true; the input reads as it did. -/
def fnExactPermutationRankSpec : ChangeSpec := { name := "fnExactPermutationRank", fn := fun _ => fun
  | [d] => { results := [.lit (.bool true)], args := [d] }
  | _ => none }
def fnExactPermutationRankRow : OpenClaim := { program := "ytkbnkichgkeckaa", sum := "7902eceede73f053453e8ef43c7b0d1b9a13438a7bee8b9f9b6163951ea6c3cb", func := "loop.example/g01104/laws.FnExactPermutationRank", spec := "fnExactPermutationRank", unfollowed := true, recurses := true, apart := false }
def FnExactPermutationRankSaid : Prop := fnExactPermutationRankRow.holds Try.pinned (OpenSpec.ofChange fnExactPermutationRankSpec)

/-- ITS FALSE NEIGHBOUR: 'it returns false'. Refute it at one input. -/
def fnExactPermutationRankWrong : ChangeSpec := { name := "fnExactPermutationRank", fn := fun _ => fun
  | [d] => { results := [.lit (.bool false)], args := [d] }
  | _ => none }
def FnExactPermutationRankWrongFalsely : Prop := fnExactPermutationRankRow.holds Try.pinned (OpenSpec.ofChange fnExactPermutationRankWrong)

/-- 'laws.FnExactInversionsOf': WHATEVER THE INPUT: true; the input reads as it did. -/
def fnExactInversionsOfSpec : ChangeSpec := { name := "fnExactInversionsOf", fn := fun _ => fun
  | [d] => { results := [.lit (.bool true)], args := [d] }
  | _ => none }
def fnExactInversionsOfRow : OpenClaim := { program := "ytkbnkichgkeckaa", sum := "7902eceede73f053453e8ef43c7b0d1b9a13438a7bee8b9f9b6163951ea6c3cb", func := "loop.example/g01104/laws.FnExactInversionsOf", spec := "fnExactInversionsOf", unfollowed := true, recurses := true, apart := false }
def FnExactInversionsOfSaid : Prop := fnExactInversionsOfRow.holds Try.pinned (OpenSpec.ofChange fnExactInversionsOfSpec)

/-- ITS FALSE NEIGHBOUR: 'it returns false'. Refute it at one input. -/
def fnExactInversionsOfWrong : ChangeSpec := { name := "fnExactInversionsOf", fn := fun _ => fun
  | [d] => { results := [.lit (.bool false)], args := [d] }
  | _ => none }
def FnExactInversionsOfWrongFalsely : Prop := fnExactInversionsOfRow.holds Try.pinned (OpenSpec.ofChange fnExactInversionsOfWrong)

/-- 'laws.FnExactSignOf': WHATEVER THE INPUT: true; the input reads as it did. -/
def fnExactSignOfSpec : ChangeSpec := { name := "fnExactSignOf", fn := fun _ => fun
  | [d] => { results := [.lit (.bool true)], args := [d] }
  | _ => none }
def fnExactSignOfRow : OpenClaim := { program := "ytkbnkichgkeckaa", sum := "7902eceede73f053453e8ef43c7b0d1b9a13438a7bee8b9f9b6163951ea6c3cb", func := "loop.example/g01104/laws.FnExactSignOf", spec := "fnExactSignOf", unfollowed := true, recurses := true, apart := false }
def FnExactSignOfSaid : Prop := fnExactSignOfRow.holds Try.pinned (OpenSpec.ofChange fnExactSignOfSpec)

/-- ITS FALSE NEIGHBOUR: 'it returns false'. Refute it at one input. -/
def fnExactSignOfWrong : ChangeSpec := { name := "fnExactSignOf", fn := fun _ => fun
  | [d] => { results := [.lit (.bool false)], args := [d] }
  | _ => none }
def FnExactSignOfWrongFalsely : Prop := fnExactSignOfRow.holds Try.pinned (OpenSpec.ofChange fnExactSignOfWrong)

/- THE SECOND FORM. 'bulk': how many values and letters a reading holds, each counted each time it is reached (what is shared counts as often as it is met; a slice's spare places count too). A statement '..UptoSaid' is the law's where the arguments, and the package variables that the reading takes, are together of bulk at most 1048576: NARROWER than '..Said'. Prove '..Said' where nothing that the law and all that it calls make is longer than what came in: it says more and counts as full. Else prove '..UptoSaid'. A law counts once. -/
mutual
def uptoBulk {H : Type} : DataW H → Nat
  | .lit (.string bytes) => bytes.length + 1
  | .lit _ => 1
  | .nil => 1
  | .ptr d => uptoBulk d + 1
  | .slice elems spare => uptoBulkAll elems + uptoBulkAll spare + 1
  | .agg parts => uptoBulkAll parts + 1
  | .iface _ d => uptoBulk d + 1
  | .map entries => uptoBulkEntries entries + 1
  | .held _ => 1
def uptoBulkAll {H : Type} : List (DataW H) → Nat
  | [] => 0
  | d :: r => uptoBulk d + uptoBulkAll r
def uptoBulkEntries {H : Type} : List (Lit × DataW H) → Nat
  | [] => 0
  | x :: r => uptoBulkEntry x + uptoBulkEntries r
def uptoBulkEntry {H : Type} : Lit × DataW H → Nat
  | (.string bytes, d) => bytes.length + uptoBulk d + 1
  | (_, d) => uptoBulk d + 1
 end
def uptoSmall : (H : Type) → List (DataW H) → Bool := fun _ ds => decide (uptoBulkAll ds ≤ 1048576)
def OpenSpec.upto (s : _root_.Go.ChangeSpec) : _root_.Go.OpenSpec := { _root_.Go.OpenSpec.ofChange s with cond := some uptoSmall }

/-- 'laws.FnExactPermutationAt', WHERE WHAT IT READS IS OF BULK AT MOST 1048576: true; the input reads as it did. -/
def fnExactPermutationAtUptoRow : OpenClaim := { program := "ytkbnkichgkeckaa", sum := "7902eceede73f053453e8ef43c7b0d1b9a13438a7bee8b9f9b6163951ea6c3cb", func := "loop.example/g01104/laws.FnExactPermutationAt", spec := "fnExactPermutationAt", recurses := true, apart := false, narrowed := true }
def FnExactPermutationAtUptoSaid : Prop := fnExactPermutationAtUptoRow.holds Try.pinned (OpenSpec.upto fnExactPermutationAtSpec)

/-- 'laws.FnExactFromInversions', WHERE WHAT IT READS IS OF BULK AT MOST 1048576: true; the input reads as it did. -/
def fnExactFromInversionsUptoRow : OpenClaim := { program := "ytkbnkichgkeckaa", sum := "7902eceede73f053453e8ef43c7b0d1b9a13438a7bee8b9f9b6163951ea6c3cb", func := "loop.example/g01104/laws.FnExactFromInversions", spec := "fnExactFromInversions", apart := false, narrowed := true }
def FnExactFromInversionsUptoSaid : Prop := fnExactFromInversionsUptoRow.holds Try.pinned (OpenSpec.upto fnExactFromInversionsSpec)

/-- 'laws.FnExactAllPermutations', WHERE WHAT IT READS IS OF BULK AT MOST 1048576: true; the input reads as it did. -/
def fnExactAllPermutationsUptoRow : OpenClaim := { program := "ytkbnkichgkeckaa", sum := "7902eceede73f053453e8ef43c7b0d1b9a13438a7bee8b9f9b6163951ea6c3cb", func := "loop.example/g01104/laws.FnExactAllPermutations", spec := "fnExactAllPermutations", recurses := true, apart := false, narrowed := true }
def FnExactAllPermutationsUptoSaid : Prop := fnExactAllPermutationsUptoRow.holds Try.pinned (OpenSpec.upto fnExactAllPermutationsSpec)

/-- 'laws.FnCounts', WHERE WHAT IT READS IS OF BULK AT MOST 1048576: true; the input reads as it did. -/
def fnCountsUptoRow : OpenClaim := { program := "ytkbnkichgkeckaa", sum := "7902eceede73f053453e8ef43c7b0d1b9a13438a7bee8b9f9b6163951ea6c3cb", func := "loop.example/g01104/laws.FnCounts", spec := "fnCounts", recurses := true, apart := false, narrowed := true }
def FnCountsUptoSaid : Prop := fnCountsUptoRow.holds Try.pinned (OpenSpec.upto fnCountsSpec)

/-- 'laws.FnDigits', WHERE WHAT IT READS IS OF BULK AT MOST 1048576: true; the input reads as it did. -/
def fnDigitsUptoRow : OpenClaim := { program := "ytkbnkichgkeckaa", sum := "7902eceede73f053453e8ef43c7b0d1b9a13438a7bee8b9f9b6163951ea6c3cb", func := "loop.example/g01104/laws.FnDigits", spec := "fnDigits", apart := false, narrowed := true }
def FnDigitsUptoSaid : Prop := fnDigitsUptoRow.holds Try.pinned (OpenSpec.upto fnDigitsSpec)

/-- 'laws.FnColexRanks', WHERE WHAT IT READS IS OF BULK AT MOST 1048576: true; the input reads as it did. -/
def fnColexRanksUptoRow : OpenClaim := { program := "ytkbnkichgkeckaa", sum := "7902eceede73f053453e8ef43c7b0d1b9a13438a7bee8b9f9b6163951ea6c3cb", func := "loop.example/g01104/laws.FnColexRanks", spec := "fnColexRanks", recurses := true, apart := false, narrowed := true }
def FnColexRanksUptoSaid : Prop := fnColexRanksUptoRow.holds Try.pinned (OpenSpec.upto fnColexRanksSpec)

/-- 'laws.FnCombinationRanks', WHERE WHAT IT READS IS OF BULK AT MOST 1048576: true; the input reads as it did. -/
def fnCombinationRanksUptoRow : OpenClaim := { program := "ytkbnkichgkeckaa", sum := "7902eceede73f053453e8ef43c7b0d1b9a13438a7bee8b9f9b6163951ea6c3cb", func := "loop.example/g01104/laws.FnCombinationRanks", spec := "fnCombinationRanks", recurses := true, apart := false, narrowed := true }
def FnCombinationRanksUptoSaid : Prop := fnCombinationRanksUptoRow.holds Try.pinned (OpenSpec.upto fnCombinationRanksSpec)

/-- 'laws.FnExactIsPermutation', WHERE WHAT IT READS IS OF BULK AT MOST 1048576: true; the input reads as it did. -/
def fnExactIsPermutationUptoRow : OpenClaim := { program := "ytkbnkichgkeckaa", sum := "7902eceede73f053453e8ef43c7b0d1b9a13438a7bee8b9f9b6163951ea6c3cb", func := "loop.example/g01104/laws.FnExactIsPermutation", spec := "fnExactIsPermutation", unfollowed := true, recurses := true, apart := false, narrowed := true }
def FnExactIsPermutationUptoSaid : Prop := fnExactIsPermutationUptoRow.holds Try.pinned (OpenSpec.upto fnExactIsPermutationSpec)

/-- 'laws.FnExactInverseOf', WHERE WHAT IT READS IS OF BULK AT MOST 1048576: true; the input reads as it did. -/
def fnExactInverseOfUptoRow : OpenClaim := { program := "ytkbnkichgkeckaa", sum := "7902eceede73f053453e8ef43c7b0d1b9a13438a7bee8b9f9b6163951ea6c3cb", func := "loop.example/g01104/laws.FnExactInverseOf", spec := "fnExactInverseOf", unfollowed := true, recurses := true, apart := false, narrowed := true }
def FnExactInverseOfUptoSaid : Prop := fnExactInverseOfUptoRow.holds Try.pinned (OpenSpec.upto fnExactInverseOfSpec)

/-- 'laws.FnExactPermutationRank', WHERE WHAT IT READS IS OF BULK AT MOST 1048576: true; the input reads as it did. -/
def fnExactPermutationRankUptoRow : OpenClaim := { program := "ytkbnkichgkeckaa", sum := "7902eceede73f053453e8ef43c7b0d1b9a13438a7bee8b9f9b6163951ea6c3cb", func := "loop.example/g01104/laws.FnExactPermutationRank", spec := "fnExactPermutationRank", unfollowed := true, recurses := true, apart := false, narrowed := true }
def FnExactPermutationRankUptoSaid : Prop := fnExactPermutationRankUptoRow.holds Try.pinned (OpenSpec.upto fnExactPermutationRankSpec)

/-- 'laws.FnExactInversionsOf', WHERE WHAT IT READS IS OF BULK AT MOST 1048576: true; the input reads as it did. -/
def fnExactInversionsOfUptoRow : OpenClaim := { program := "ytkbnkichgkeckaa", sum := "7902eceede73f053453e8ef43c7b0d1b9a13438a7bee8b9f9b6163951ea6c3cb", func := "loop.example/g01104/laws.FnExactInversionsOf", spec := "fnExactInversionsOf", unfollowed := true, recurses := true, apart := false, narrowed := true }
def FnExactInversionsOfUptoSaid : Prop := fnExactInversionsOfUptoRow.holds Try.pinned (OpenSpec.upto fnExactInversionsOfSpec)

/-- 'laws.FnExactSignOf', WHERE WHAT IT READS IS OF BULK AT MOST 1048576: true; the input reads as it did. -/
def fnExactSignOfUptoRow : OpenClaim := { program := "ytkbnkichgkeckaa", sum := "7902eceede73f053453e8ef43c7b0d1b9a13438a7bee8b9f9b6163951ea6c3cb", func := "loop.example/g01104/laws.FnExactSignOf", spec := "fnExactSignOf", unfollowed := true, recurses := true, apart := false, narrowed := true }
def FnExactSignOfUptoSaid : Prop := fnExactSignOfUptoRow.holds Try.pinned (OpenSpec.upto fnExactSignOfSpec)

end Rows
end Go.Proofs.Ytkbnkichgkeckaa
