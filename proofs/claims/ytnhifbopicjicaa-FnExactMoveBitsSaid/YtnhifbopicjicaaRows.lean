/-
  No cell of these rows narrows 'for every input' (looked for: loops, veiled, ifaces, maps, wideKeys, modest, calm, conditions, laid).
  DERIVED. THE GIVEN ROWS OF THIS SEAT. 6 by the template 'for every input the law returns true; each argument reads behind the call as it read before'; 0 by the template 'total and deterministic' (their statements: YtnhifbopicjicaaTotals.lean).
  GIVEN WITH THE SEED: the statements are not yours to turn. If you find one false, say at which input.
  Laid BY PROGRAM, IN A SANDBOX (cutbox-rows.mjs): the forced cells as the released guide's own fill.sh prints them over the translation 56bbc01c341b7118… (all of the seat's roots in one cut). By AI agents, Wed Nov 11 2026. No macro, syntax, notation, axiom, sorry.
-/
import Derived.Test.YtnhifbopicjicaaChecked
import GoSem.Claim
import GoSem.ClaimJoined
import GoSem.ClaimMapViews
import Derived.JoinedTies
import Derived.KernelRfl
namespace Go.Proofs.Ytnhifbopicjicaa
/- THE CELL 'sum', in the pinned program and in every row, IS THE sha256 OF THE DUMP (.gsa) THAT YtnhifbopicjicaaProg.lean LOADS. Nothing in Lean hashes anything: it is a label: what it is worth is what the hold of that sum in a sandbox is worth. -/
noncomputable def Try.pinned : Pinned := { name := "ytnhifbopicjicaa", sum := "56bbc01c341b71187bb455baf714ab00dbf01a93adbaf6f047f50519660580cb", checked := Try.checked }
namespace Rows
def none {H : Type} : Left H := { results := [], args := [] }

/-- 'laws.FnExactMoveBits': WHATEVER THE INPUT: true; the input reads as it did. -/
def fnExactMoveBitsSpec : ChangeSpec := { name := "fnExactMoveBits", fn := fun _ => fun
  | [d1, d2, d3] => { results := [.lit (.bool true)], args := [d1, d2, d3] }
  | _ => none }
def fnExactMoveBitsRow : OpenClaim := { program := "ytnhifbopicjicaa", sum := "56bbc01c341b71187bb455baf714ab00dbf01a93adbaf6f047f50519660580cb", func := "loop.example/g01104/laws.FnExactMoveBits", spec := "fnExactMoveBits", unfollowed := true, recurses := true, apart := false }
def FnExactMoveBitsSaid : Prop := fnExactMoveBitsRow.holds Try.pinned (OpenSpec.ofChange fnExactMoveBitsSpec)

/-- ITS FALSE NEIGHBOUR: 'it returns false'. Refute it at one input. -/
def fnExactMoveBitsWrong : ChangeSpec := { name := "fnExactMoveBits", fn := fun _ => fun
  | [d1, d2, d3] => { results := [.lit (.bool false)], args := [d1, d2, d3] }
  | _ => none }
def FnExactMoveBitsWrongFalsely : Prop := fnExactMoveBitsRow.holds Try.pinned (OpenSpec.ofChange fnExactMoveBitsWrong)

/-- 'laws.FnExactNextPermutation': WHATEVER THE INPUT: true; the input reads as it did. -/
def fnExactNextPermutationSpec : ChangeSpec := { name := "fnExactNextPermutation", fn := fun _ => fun
  | [d] => { results := [.lit (.bool true)], args := [d] }
  | _ => none }
def fnExactNextPermutationRow : OpenClaim := { program := "ytnhifbopicjicaa", sum := "56bbc01c341b71187bb455baf714ab00dbf01a93adbaf6f047f50519660580cb", func := "loop.example/g01104/laws.FnExactNextPermutation", spec := "fnExactNextPermutation", unfollowed := true, recurses := true, apart := false }
def FnExactNextPermutationSaid : Prop := fnExactNextPermutationRow.holds Try.pinned (OpenSpec.ofChange fnExactNextPermutationSpec)

/-- ITS FALSE NEIGHBOUR: 'it returns false'. Refute it at one input. -/
def fnExactNextPermutationWrong : ChangeSpec := { name := "fnExactNextPermutation", fn := fun _ => fun
  | [d] => { results := [.lit (.bool false)], args := [d] }
  | _ => none }
def FnExactNextPermutationWrongFalsely : Prop := fnExactNextPermutationRow.holds Try.pinned (OpenSpec.ofChange fnExactNextPermutationWrong)

/-- 'laws.FnInversions': WHATEVER THE INPUT: true; the input reads as it did. -/
def fnInversionsSpec : ChangeSpec := { name := "fnInversions", fn := fun _ => fun
  | [d1, d2] => { results := [.lit (.bool true)], args := [d1, d2] }
  | _ => none }
def fnInversionsRow : OpenClaim := { program := "ytnhifbopicjicaa", sum := "56bbc01c341b71187bb455baf714ab00dbf01a93adbaf6f047f50519660580cb", func := "loop.example/g01104/laws.FnInversions", spec := "fnInversions", unfollowed := true, recurses := true, apart := false }
def FnInversionsSaid : Prop := fnInversionsRow.holds Try.pinned (OpenSpec.ofChange fnInversionsSpec)

/-- ITS FALSE NEIGHBOUR: 'it returns false'. Refute it at one input. -/
def fnInversionsWrong : ChangeSpec := { name := "fnInversions", fn := fun _ => fun
  | [d1, d2] => { results := [.lit (.bool false)], args := [d1, d2] }
  | _ => none }
def FnInversionsWrongFalsely : Prop := fnInversionsRow.holds Try.pinned (OpenSpec.ofChange fnInversionsWrong)

/-- 'laws.FnPermutationRanks': WHATEVER THE INPUT: true; the input reads as it did. -/
def fnPermutationRanksSpec : ChangeSpec := { name := "fnPermutationRanks", fn := fun _ => fun
  | [d1, d2] => { results := [.lit (.bool true)], args := [d1, d2] }
  | _ => none }
def fnPermutationRanksRow : OpenClaim := { program := "ytnhifbopicjicaa", sum := "56bbc01c341b71187bb455baf714ab00dbf01a93adbaf6f047f50519660580cb", func := "loop.example/g01104/laws.FnPermutationRanks", spec := "fnPermutationRanks", unfollowed := true, recurses := true, apart := false }
def FnPermutationRanksSaid : Prop := fnPermutationRanksRow.holds Try.pinned (OpenSpec.ofChange fnPermutationRanksSpec)

/-- ITS FALSE NEIGHBOUR: 'it returns false'. Refute it at one input. -/
def fnPermutationRanksWrong : ChangeSpec := { name := "fnPermutationRanks", fn := fun _ => fun
  | [d1, d2] => { results := [.lit (.bool false)], args := [d1, d2] }
  | _ => none }
def FnPermutationRanksWrongFalsely : Prop := fnPermutationRanksRow.holds Try.pinned (OpenSpec.ofChange fnPermutationRanksWrong)

/-- 'laws.FnExactFlipBits': WHATEVER THE INPUT: true; the input reads as it did. -/
def fnExactFlipBitsSpec : ChangeSpec := { name := "fnExactFlipBits", fn := fun _ => fun
  | [d1, d2, d3] => { results := [.lit (.bool true)], args := [d1, d2, d3] }
  | _ => none }
def fnExactFlipBitsRow : OpenClaim := { program := "ytnhifbopicjicaa", sum := "56bbc01c341b71187bb455baf714ab00dbf01a93adbaf6f047f50519660580cb", func := "loop.example/g01104/laws.FnExactFlipBits", spec := "fnExactFlipBits", unfollowed := true, recurses := true, apart := false }
def FnExactFlipBitsSaid : Prop := fnExactFlipBitsRow.holds Try.pinned (OpenSpec.ofChange fnExactFlipBitsSpec)

/-- ITS FALSE NEIGHBOUR: 'it returns false'. Refute it at one input. -/
def fnExactFlipBitsWrong : ChangeSpec := { name := "fnExactFlipBits", fn := fun _ => fun
  | [d1, d2, d3] => { results := [.lit (.bool false)], args := [d1, d2, d3] }
  | _ => none }
def FnExactFlipBitsWrongFalsely : Prop := fnExactFlipBitsRow.holds Try.pinned (OpenSpec.ofChange fnExactFlipBitsWrong)

/-- 'laws.FnMixedLists': WHATEVER THE INPUT: true; the input reads as it did. -/
def fnMixedListsSpec : ChangeSpec := { name := "fnMixedLists", fn := fun _ => fun
  | [d1, d2] => { results := [.lit (.bool true)], args := [d1, d2] }
  | _ => none }
def fnMixedListsRow : OpenClaim := { program := "ytnhifbopicjicaa", sum := "56bbc01c341b71187bb455baf714ab00dbf01a93adbaf6f047f50519660580cb", func := "loop.example/g01104/laws.FnMixedLists", spec := "fnMixedLists", recurses := true, apart := false }
def FnMixedListsSaid : Prop := fnMixedListsRow.holds Try.pinned (OpenSpec.ofChange fnMixedListsSpec)

/-- ITS FALSE NEIGHBOUR: 'it returns false'. Refute it at one input. -/
def fnMixedListsWrong : ChangeSpec := { name := "fnMixedLists", fn := fun _ => fun
  | [d1, d2] => { results := [.lit (.bool false)], args := [d1, d2] }
  | _ => none }
def FnMixedListsWrongFalsely : Prop := fnMixedListsRow.holds Try.pinned (OpenSpec.ofChange fnMixedListsWrong)

/- THE SECOND FORM. 'bulk': how many values and letters a reading holds, each counted each time it is reached (what is shared counts as often as it is met; a slice's spare places count too). A statement '..UptoSaid' is the law's where the arguments, and the package variables that the reading takes, are together of bulk at most 1048576: NARROWER than '..Said'. Prove '..Said' where nothing that the law and all that it calls make is longer than what came in: it says more and counts as full. Else prove '..UptoSaid'. A law counts once. -/
mutual
def uptoBulk {H : Type} : DataW H → Nat
  | .lit (.string bytes) => bytes.length + 1
  | .lit _ => 1
  | .nil => 1
  | .ptr d => uptoBulk d + 1
  | .slice elems spare => uptoBulkAll elems + uptoBulkAll spare + 1
  | .agg parts => uptoBulkAll parts + 1
  | .iface _ d => uptoBulk d + 1
  | .map entries => uptoBulkEntries entries + 1
  | .held _ => 1
def uptoBulkAll {H : Type} : List (DataW H) → Nat
  | [] => 0
  | d :: r => uptoBulk d + uptoBulkAll r
def uptoBulkEntries {H : Type} : List (Lit × DataW H) → Nat
  | [] => 0
  | x :: r => uptoBulkEntry x + uptoBulkEntries r
def uptoBulkEntry {H : Type} : Lit × DataW H → Nat
  | (.string bytes, d) => bytes.length + uptoBulk d + 1
  | (_, d) => uptoBulk d + 1
 end
def uptoSmall : (H : Type) → List (DataW H) → Bool := fun _ ds => decide (uptoBulkAll ds ≤ 1048576)
def OpenSpec.upto (s : _root_.Go.ChangeSpec) : _root_.Go.OpenSpec := { _root_.Go.OpenSpec.ofChange s with cond := some uptoSmall }

/-- 'laws.FnExactMoveBits', WHERE WHAT IT READS IS OF BULK AT MOST 1048576: true; the input reads as it did. -/
def fnExactMoveBitsUptoRow : OpenClaim := { program := "ytnhifbopicjicaa", sum := "56bbc01c341b71187bb455baf714ab00dbf01a93adbaf6f047f50519660580cb", func := "loop.example/g01104/laws.FnExactMoveBits", spec := "fnExactMoveBits", unfollowed := true, recurses := true, apart := false, narrowed := true }
def FnExactMoveBitsUptoSaid : Prop := fnExactMoveBitsUptoRow.holds Try.pinned (OpenSpec.upto fnExactMoveBitsSpec)

/-- 'laws.FnExactNextPermutation', WHERE WHAT IT READS IS OF BULK AT MOST 1048576: true; the input reads as it did. -/
def fnExactNextPermutationUptoRow : OpenClaim := { program := "ytnhifbopicjicaa", sum := "56bbc01c341b71187bb455baf714ab00dbf01a93adbaf6f047f50519660580cb", func := "loop.example/g01104/laws.FnExactNextPermutation", spec := "fnExactNextPermutation", unfollowed := true, recurses := true, apart := false, narrowed := true }
def FnExactNextPermutationUptoSaid : Prop := fnExactNextPermutationUptoRow.holds Try.pinned (OpenSpec.upto fnExactNextPermutationSpec)

/-- 'laws.FnInversions', WHERE WHAT IT READS IS OF BULK AT MOST 1048576: true; the input reads as it did. -/
def fnInversionsUptoRow : OpenClaim := { program := "ytnhifbopicjicaa", sum := "56bbc01c341b71187bb455baf714ab00dbf01a93adbaf6f047f50519660580cb", func := "loop.example/g01104/laws.FnInversions", spec := "fnInversions", unfollowed := true, recurses := true, apart := false, narrowed := true }
def FnInversionsUptoSaid : Prop := fnInversionsUptoRow.holds Try.pinned (OpenSpec.upto fnInversionsSpec)

/-- 'laws.FnPermutationRanks', WHERE WHAT IT READS IS OF BULK AT MOST 1048576: true; the input reads as it did. -/
def fnPermutationRanksUptoRow : OpenClaim := { program := "ytnhifbopicjicaa", sum := "56bbc01c341b71187bb455baf714ab00dbf01a93adbaf6f047f50519660580cb", func := "loop.example/g01104/laws.FnPermutationRanks", spec := "fnPermutationRanks", unfollowed := true, recurses := true, apart := false, narrowed := true }
def FnPermutationRanksUptoSaid : Prop := fnPermutationRanksUptoRow.holds Try.pinned (OpenSpec.upto fnPermutationRanksSpec)

/-- 'laws.FnExactFlipBits', WHERE WHAT IT READS IS OF BULK AT MOST 1048576: true; the input reads as it did. -/
def fnExactFlipBitsUptoRow : OpenClaim := { program := "ytnhifbopicjicaa", sum := "56bbc01c341b71187bb455baf714ab00dbf01a93adbaf6f047f50519660580cb", func := "loop.example/g01104/laws.FnExactFlipBits", spec := "fnExactFlipBits", unfollowed := true, recurses := true, apart := false, narrowed := true }
def FnExactFlipBitsUptoSaid : Prop := fnExactFlipBitsUptoRow.holds Try.pinned (OpenSpec.upto fnExactFlipBitsSpec)

/-- 'laws.FnMixedLists', WHERE WHAT IT READS IS OF BULK AT MOST 1048576: true; the input reads as it did. -/
def fnMixedListsUptoRow : OpenClaim := { program := "ytnhifbopicjicaa", sum := "56bbc01c341b71187bb455baf714ab00dbf01a93adbaf6f047f50519660580cb", func := "loop.example/g01104/laws.FnMixedLists", spec := "fnMixedLists", recurses := true, apart := false, narrowed := true }
def FnMixedListsUptoSaid : Prop := fnMixedListsUptoRow.holds Try.pinned (OpenSpec.upto fnMixedListsSpec)

end Rows
end Go.Proofs.Ytnhifbopicjicaa
