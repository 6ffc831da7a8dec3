/-
  No cell of these rows narrows 'for every input' (looked for: loops, veiled, ifaces, maps, wideKeys, modest, calm, conditions, laid).
  DERIVED. THE GIVEN ROWS OF THIS SEAT. 11 by the template 'for every input the law returns true; each argument reads behind the call as it read before'; 0 by the template 'total and deterministic' (their statements: YtgecmdnjgoekjaaTotals.lean).
  GIVEN WITH THE SEED: the statements are not yours to turn. If you find one false, say at which input.
  Laid BY PROGRAM, IN A SANDBOX (cutbox-rows.mjs): the forced cells as the released guide's own fill.sh prints them over the translation aba228f8a3e5b55e… (all of the seat's roots in one cut). By AI agents, Wed Nov 11 2026. No macro, syntax, notation, axiom, sorry.
-/
import Derived.Test.YtgecmdnjgoekjaaChecked
import GoSem.Claim
import GoSem.ClaimJoined
import GoSem.ClaimMapViews
import Derived.JoinedTies
import Derived.KernelRfl
namespace Go.Proofs.Ytgecmdnjgoekjaa
/- THE CELL 'sum', in the pinned program and in every row, IS THE sha256 OF THE DUMP (.gsa) THAT YtgecmdnjgoekjaaProg.lean LOADS. Nothing in Lean hashes anything: it is a label: what it is worth is what the hold of that sum in a sandbox is worth. -/
noncomputable def Try.pinned : Pinned := { name := "ytgecmdnjgoekjaa", sum := "aba228f8a3e5b55eaa284628203f755c6beb8710aa74ec8af34efd279ee9b65b", checked := Try.checked }
namespace Rows
def none {H : Type} : Left H := { results := [], args := [] }

/-- 'laws.FnExactConstants': WHATEVER THE INPUT: true; the input reads as it did. -/
def fnExactConstantsSpec : ChangeSpec := { name := "fnExactConstants", fn := fun _ => fun
  | [] => { results := [.lit (.bool true)], args := [] }
  | _ => none }
def fnExactConstantsRow : OpenClaim := { program := "ytgecmdnjgoekjaa", sum := "aba228f8a3e5b55eaa284628203f755c6beb8710aa74ec8af34efd279ee9b65b", func := "loop.example/g01104/laws.FnExactConstants", spec := "fnExactConstants", apart := false }
def FnExactConstantsSaid : Prop := fnExactConstantsRow.holds Try.pinned (OpenSpec.ofChange fnExactConstantsSpec)

/-- ITS FALSE NEIGHBOUR: 'it returns false'. Refute it at one input. -/
def fnExactConstantsWrong : ChangeSpec := { name := "fnExactConstants", fn := fun _ => fun
  | [] => { results := [.lit (.bool false)], args := [] }
  | _ => none }
def FnExactConstantsWrongFalsely : Prop := fnExactConstantsRow.holds Try.pinned (OpenSpec.ofChange fnExactConstantsWrong)

/-- 'laws.FnExactFactorial': WHATEVER THE INPUT: true; the input reads as it did. -/
def fnExactFactorialSpec : ChangeSpec := { name := "fnExactFactorial", fn := fun _ => fun
  | [d] => { results := [.lit (.bool true)], args := [d] }
  | _ => none }
def fnExactFactorialRow : OpenClaim := { program := "ytgecmdnjgoekjaa", sum := "aba228f8a3e5b55eaa284628203f755c6beb8710aa74ec8af34efd279ee9b65b", func := "loop.example/g01104/laws.FnExactFactorial", spec := "fnExactFactorial", recurses := true, apart := false }
def FnExactFactorialSaid : Prop := fnExactFactorialRow.holds Try.pinned (OpenSpec.ofChange fnExactFactorialSpec)

/-- ITS FALSE NEIGHBOUR: 'it returns false'. Refute it at one input. -/
def fnExactFactorialWrong : ChangeSpec := { name := "fnExactFactorial", fn := fun _ => fun
  | [d] => { results := [.lit (.bool false)], args := [d] }
  | _ => none }
def FnExactFactorialWrongFalsely : Prop := fnExactFactorialRow.holds Try.pinned (OpenSpec.ofChange fnExactFactorialWrong)

/-- 'laws.FnExactReflectedAt': WHATEVER THE INPUT: true; the input reads as it did. -/
def fnExactReflectedAtSpec : ChangeSpec := { name := "fnExactReflectedAt", fn := fun _ => fun
  | [d1, d2] => { results := [.lit (.bool true)], args := [d1, d2] }
  | _ => none }
def fnExactReflectedAtRow : OpenClaim := { program := "ytgecmdnjgoekjaa", sum := "aba228f8a3e5b55eaa284628203f755c6beb8710aa74ec8af34efd279ee9b65b", func := "loop.example/g01104/laws.FnExactReflectedAt", spec := "fnExactReflectedAt", recurses := true, apart := false }
def FnExactReflectedAtSaid : Prop := fnExactReflectedAtRow.holds Try.pinned (OpenSpec.ofChange fnExactReflectedAtSpec)

/-- ITS FALSE NEIGHBOUR: 'it returns false'. Refute it at one input. -/
def fnExactReflectedAtWrong : ChangeSpec := { name := "fnExactReflectedAt", fn := fun _ => fun
  | [d1, d2] => { results := [.lit (.bool false)], args := [d1, d2] }
  | _ => none }
def FnExactReflectedAtWrongFalsely : Prop := fnExactReflectedAtRow.holds Try.pinned (OpenSpec.ofChange fnExactReflectedAtWrong)

/-- 'laws.FnExactBinomial': WHATEVER THE INPUT: true; the input reads as it did. -/
def fnExactBinomialSpec : ChangeSpec := { name := "fnExactBinomial", fn := fun _ => fun
  | [d1, d2] => { results := [.lit (.bool true)], args := [d1, d2] }
  | _ => none }
def fnExactBinomialRow : OpenClaim := { program := "ytgecmdnjgoekjaa", sum := "aba228f8a3e5b55eaa284628203f755c6beb8710aa74ec8af34efd279ee9b65b", func := "loop.example/g01104/laws.FnExactBinomial", spec := "fnExactBinomial", recurses := true, apart := false }
def FnExactBinomialSaid : Prop := fnExactBinomialRow.holds Try.pinned (OpenSpec.ofChange fnExactBinomialSpec)

/-- ITS FALSE NEIGHBOUR: 'it returns false'. Refute it at one input. -/
def fnExactBinomialWrong : ChangeSpec := { name := "fnExactBinomial", fn := fun _ => fun
  | [d1, d2] => { results := [.lit (.bool false)], args := [d1, d2] }
  | _ => none }
def FnExactBinomialWrongFalsely : Prop := fnExactBinomialRow.holds Try.pinned (OpenSpec.ofChange fnExactBinomialWrong)

/-- 'laws.FnExactReflectedRank': WHATEVER THE INPUT: true; the input reads as it did. -/
def fnExactReflectedRankSpec : ChangeSpec := { name := "fnExactReflectedRank", fn := fun _ => fun
  | [d1, d2] => { results := [.lit (.bool true)], args := [d1, d2] }
  | _ => none }
def fnExactReflectedRankRow : OpenClaim := { program := "ytgecmdnjgoekjaa", sum := "aba228f8a3e5b55eaa284628203f755c6beb8710aa74ec8af34efd279ee9b65b", func := "loop.example/g01104/laws.FnExactReflectedRank", spec := "fnExactReflectedRank", recurses := true, apart := false }
def FnExactReflectedRankSaid : Prop := fnExactReflectedRankRow.holds Try.pinned (OpenSpec.ofChange fnExactReflectedRankSpec)

/-- ITS FALSE NEIGHBOUR: 'it returns false'. Refute it at one input. -/
def fnExactReflectedRankWrong : ChangeSpec := { name := "fnExactReflectedRank", fn := fun _ => fun
  | [d1, d2] => { results := [.lit (.bool false)], args := [d1, d2] }
  | _ => none }
def FnExactReflectedRankWrongFalsely : Prop := fnExactReflectedRankRow.holds Try.pinned (OpenSpec.ofChange fnExactReflectedRankWrong)

/-- 'laws.FnExactIsCombination': WHATEVER THE INPUT: true; the input reads as it did. -/
def fnExactIsCombinationSpec : ChangeSpec := { name := "fnExactIsCombination", fn := fun _ => fun
  | [d1, d2] => { results := [.lit (.bool true)], args := [d1, d2] }
  | _ => none }
def fnExactIsCombinationRow : OpenClaim := { program := "ytgecmdnjgoekjaa", sum := "aba228f8a3e5b55eaa284628203f755c6beb8710aa74ec8af34efd279ee9b65b", func := "loop.example/g01104/laws.FnExactIsCombination", spec := "fnExactIsCombination", apart := false }
def FnExactIsCombinationSaid : Prop := fnExactIsCombinationRow.holds Try.pinned (OpenSpec.ofChange fnExactIsCombinationSpec)

/-- ITS FALSE NEIGHBOUR: 'it returns false'. Refute it at one input. -/
def fnExactIsCombinationWrong : ChangeSpec := { name := "fnExactIsCombination", fn := fun _ => fun
  | [d1, d2] => { results := [.lit (.bool false)], args := [d1, d2] }
  | _ => none }
def FnExactIsCombinationWrongFalsely : Prop := fnExactIsCombinationRow.holds Try.pinned (OpenSpec.ofChange fnExactIsCombinationWrong)

/-- 'laws.FnExactFromDeltas': WHATEVER THE INPUT: true; the input reads as it did. -/
def fnExactFromDeltasSpec : ChangeSpec := { name := "fnExactFromDeltas", fn := fun _ => fun
  | [d1, d2, d3] => { results := [.lit (.bool true)], args := [d1, d2, d3] }
  | _ => none }
def fnExactFromDeltasRow : OpenClaim := { program := "ytgecmdnjgoekjaa", sum := "aba228f8a3e5b55eaa284628203f755c6beb8710aa74ec8af34efd279ee9b65b", func := "loop.example/g01104/laws.FnExactFromDeltas", spec := "fnExactFromDeltas", apart := false }
def FnExactFromDeltasSaid : Prop := fnExactFromDeltasRow.holds Try.pinned (OpenSpec.ofChange fnExactFromDeltasSpec)

/-- ITS FALSE NEIGHBOUR: 'it returns false'. Refute it at one input. -/
def fnExactFromDeltasWrong : ChangeSpec := { name := "fnExactFromDeltas", fn := fun _ => fun
  | [d1, d2, d3] => { results := [.lit (.bool false)], args := [d1, d2, d3] }
  | _ => none }
def FnExactFromDeltasWrongFalsely : Prop := fnExactFromDeltasRow.holds Try.pinned (OpenSpec.ofChange fnExactFromDeltasWrong)

/-- 'laws.FnExactFromBits': WHATEVER THE INPUT: true; the input reads as it did. -/
def fnExactFromBitsSpec : ChangeSpec := { name := "fnExactFromBits", fn := fun _ => fun
  | [d] => { results := [.lit (.bool true)], args := [d] }
  | _ => none }
def fnExactFromBitsRow : OpenClaim := { program := "ytgecmdnjgoekjaa", sum := "aba228f8a3e5b55eaa284628203f755c6beb8710aa74ec8af34efd279ee9b65b", func := "loop.example/g01104/laws.FnExactFromBits", spec := "fnExactFromBits", apart := false }
def FnExactFromBitsSaid : Prop := fnExactFromBitsRow.holds Try.pinned (OpenSpec.ofChange fnExactFromBitsSpec)

/-- ITS FALSE NEIGHBOUR: 'it returns false'. Refute it at one input. -/
def fnExactFromBitsWrong : ChangeSpec := { name := "fnExactFromBits", fn := fun _ => fun
  | [d] => { results := [.lit (.bool false)], args := [d] }
  | _ => none }
def FnExactFromBitsWrongFalsely : Prop := fnExactFromBitsRow.holds Try.pinned (OpenSpec.ofChange fnExactFromBitsWrong)

/-- 'laws.FnExactColexAt': WHATEVER THE INPUT: true; the input reads as it did. -/
def fnExactColexAtSpec : ChangeSpec := { name := "fnExactColexAt", fn := fun _ => fun
  | [d1, d2] => { results := [.lit (.bool true)], args := [d1, d2] }
  | _ => none }
def fnExactColexAtRow : OpenClaim := { program := "ytgecmdnjgoekjaa", sum := "aba228f8a3e5b55eaa284628203f755c6beb8710aa74ec8af34efd279ee9b65b", func := "loop.example/g01104/laws.FnExactColexAt", spec := "fnExactColexAt", recurses := true, apart := false }
def FnExactColexAtSaid : Prop := fnExactColexAtRow.holds Try.pinned (OpenSpec.ofChange fnExactColexAtSpec)

/-- ITS FALSE NEIGHBOUR: 'it returns false'. Refute it at one input. -/
def fnExactColexAtWrong : ChangeSpec := { name := "fnExactColexAt", fn := fun _ => fun
  | [d1, d2] => { results := [.lit (.bool false)], args := [d1, d2] }
  | _ => none }
def FnExactColexAtWrongFalsely : Prop := fnExactColexAtRow.holds Try.pinned (OpenSpec.ofChange fnExactColexAtWrong)

/-- 'laws.FnExactCombinationAt': WHATEVER THE INPUT: true; the input reads as it did. -/
def fnExactCombinationAtSpec : ChangeSpec := { name := "fnExactCombinationAt", fn := fun _ => fun
  | [d1, d2, d3] => { results := [.lit (.bool true)], args := [d1, d2, d3] }
  | _ => none }
def fnExactCombinationAtRow : OpenClaim := { program := "ytgecmdnjgoekjaa", sum := "aba228f8a3e5b55eaa284628203f755c6beb8710aa74ec8af34efd279ee9b65b", func := "loop.example/g01104/laws.FnExactCombinationAt", spec := "fnExactCombinationAt", recurses := true, apart := false }
def FnExactCombinationAtSaid : Prop := fnExactCombinationAtRow.holds Try.pinned (OpenSpec.ofChange fnExactCombinationAtSpec)

/-- ITS FALSE NEIGHBOUR: 'it returns false'. Refute it at one input. -/
def fnExactCombinationAtWrong : ChangeSpec := { name := "fnExactCombinationAt", fn := fun _ => fun
  | [d1, d2, d3] => { results := [.lit (.bool false)], args := [d1, d2, d3] }
  | _ => none }
def FnExactCombinationAtWrongFalsely : Prop := fnExactCombinationAtRow.holds Try.pinned (OpenSpec.ofChange fnExactCombinationAtWrong)

/-- 'laws.FnExactDigitsAt': WHATEVER THE INPUT: true; the input reads as it did. -/
def fnExactDigitsAtSpec : ChangeSpec := { name := "fnExactDigitsAt", fn := fun _ => fun
  | [d1, d2] => { results := [.lit (.bool true)], args := [d1, d2] }
  | _ => none }
def fnExactDigitsAtRow : OpenClaim := { program := "ytgecmdnjgoekjaa", sum := "aba228f8a3e5b55eaa284628203f755c6beb8710aa74ec8af34efd279ee9b65b", func := "loop.example/g01104/laws.FnExactDigitsAt", spec := "fnExactDigitsAt", apart := false }
def FnExactDigitsAtSaid : Prop := fnExactDigitsAtRow.holds Try.pinned (OpenSpec.ofChange fnExactDigitsAtSpec)

/-- ITS FALSE NEIGHBOUR: 'it returns false'. Refute it at one input. -/
def fnExactDigitsAtWrong : ChangeSpec := { name := "fnExactDigitsAt", fn := fun _ => fun
  | [d1, d2] => { results := [.lit (.bool false)], args := [d1, d2] }
  | _ => none }
def FnExactDigitsAtWrongFalsely : Prop := fnExactDigitsAtRow.holds Try.pinned (OpenSpec.ofChange fnExactDigitsAtWrong)

/- THE SECOND FORM. 'bulk': how many values and letters a reading holds, each counted each time it is reached (what is shared counts as often as it is met; a slice's spare places count too). A statement '..UptoSaid' is the law's where the arguments, and the package variables that the reading takes, are together of bulk at most 1048576: NARROWER than '..Said'. Prove '..Said' where nothing that the law and all that it calls make is longer than what came in: it says more and counts as full. Else prove '..UptoSaid'. A law counts once. -/
mutual
def uptoBulk {H : Type} : DataW H → Nat
  | .lit (.string bytes) => bytes.length + 1
  | .lit _ => 1
  | .nil => 1
  | .ptr d => uptoBulk d + 1
  | .slice elems spare => uptoBulkAll elems + uptoBulkAll spare + 1
  | .agg parts => uptoBulkAll parts + 1
  | .iface _ d => uptoBulk d + 1
  | .map entries => uptoBulkEntries entries + 1
  | .held _ => 1
def uptoBulkAll {H : Type} : List (DataW H) → Nat
  | [] => 0
  | d :: r => uptoBulk d + uptoBulkAll r
def uptoBulkEntries {H : Type} : List (Lit × DataW H) → Nat
  | [] => 0
  | x :: r => uptoBulkEntry x + uptoBulkEntries r
def uptoBulkEntry {H : Type} : Lit × DataW H → Nat
  | (.string bytes, d) => bytes.length + uptoBulk d + 1
  | (_, d) => uptoBulk d + 1
 end
def uptoSmall : (H : Type) → List (DataW H) → Bool := fun _ ds => decide (uptoBulkAll ds ≤ 1048576)
def OpenSpec.upto (s : _root_.Go.ChangeSpec) : _root_.Go.OpenSpec := { _root_.Go.OpenSpec.ofChange s with cond := some uptoSmall }

/-- 'laws.FnExactConstants', WHERE WHAT IT READS IS OF BULK AT MOST 1048576: true; the input reads as it did. -/
def fnExactConstantsUptoRow : OpenClaim := { program := "ytgecmdnjgoekjaa", sum := "aba228f8a3e5b55eaa284628203f755c6beb8710aa74ec8af34efd279ee9b65b", func := "loop.example/g01104/laws.FnExactConstants", spec := "fnExactConstants", apart := false, narrowed := true }
def FnExactConstantsUptoSaid : Prop := fnExactConstantsUptoRow.holds Try.pinned (OpenSpec.upto fnExactConstantsSpec)

/-- 'laws.FnExactFactorial', WHERE WHAT IT READS IS OF BULK AT MOST 1048576: true; the input reads as it did. -/
def fnExactFactorialUptoRow : OpenClaim := { program := "ytgecmdnjgoekjaa", sum := "aba228f8a3e5b55eaa284628203f755c6beb8710aa74ec8af34efd279ee9b65b", func := "loop.example/g01104/laws.FnExactFactorial", spec := "fnExactFactorial", recurses := true, apart := false, narrowed := true }
def FnExactFactorialUptoSaid : Prop := fnExactFactorialUptoRow.holds Try.pinned (OpenSpec.upto fnExactFactorialSpec)

/-- 'laws.FnExactReflectedAt', WHERE WHAT IT READS IS OF BULK AT MOST 1048576: true; the input reads as it did. -/
def fnExactReflectedAtUptoRow : OpenClaim := { program := "ytgecmdnjgoekjaa", sum := "aba228f8a3e5b55eaa284628203f755c6beb8710aa74ec8af34efd279ee9b65b", func := "loop.example/g01104/laws.FnExactReflectedAt", spec := "fnExactReflectedAt", recurses := true, apart := false, narrowed := true }
def FnExactReflectedAtUptoSaid : Prop := fnExactReflectedAtUptoRow.holds Try.pinned (OpenSpec.upto fnExactReflectedAtSpec)

/-- 'laws.FnExactBinomial', WHERE WHAT IT READS IS OF BULK AT MOST 1048576: true; the input reads as it did. -/
def fnExactBinomialUptoRow : OpenClaim := { program := "ytgecmdnjgoekjaa", sum := "aba228f8a3e5b55eaa284628203f755c6beb8710aa74ec8af34efd279ee9b65b", func := "loop.example/g01104/laws.FnExactBinomial", spec := "fnExactBinomial", recurses := true, apart := false, narrowed := true }
def FnExactBinomialUptoSaid : Prop := fnExactBinomialUptoRow.holds Try.pinned (OpenSpec.upto fnExactBinomialSpec)

/-- 'laws.FnExactReflectedRank', WHERE WHAT IT READS IS OF BULK AT MOST 1048576: true; the input reads as it did. -/
def fnExactReflectedRankUptoRow : OpenClaim := { program := "ytgecmdnjgoekjaa", sum := "aba228f8a3e5b55eaa284628203f755c6beb8710aa74ec8af34efd279ee9b65b", func := "loop.example/g01104/laws.FnExactReflectedRank", spec := "fnExactReflectedRank", recurses := true, apart := false, narrowed := true }
def FnExactReflectedRankUptoSaid : Prop := fnExactReflectedRankUptoRow.holds Try.pinned (OpenSpec.upto fnExactReflectedRankSpec)

/-- 'laws.FnExactIsCombination', WHERE WHAT IT READS IS OF BULK AT MOST 1048576: true; the input reads as it did. -/
def fnExactIsCombinationUptoRow : OpenClaim := { program := "ytgecmdnjgoekjaa", sum := "aba228f8a3e5b55eaa284628203f755c6beb8710aa74ec8af34efd279ee9b65b", func := "loop.example/g01104/laws.FnExactIsCombination", spec := "fnExactIsCombination", apart := false, narrowed := true }
def FnExactIsCombinationUptoSaid : Prop := fnExactIsCombinationUptoRow.holds Try.pinned (OpenSpec.upto fnExactIsCombinationSpec)

/-- 'laws.FnExactFromDeltas', WHERE WHAT IT READS IS OF BULK AT MOST 1048576: true; the input reads as it did. -/
def fnExactFromDeltasUptoRow : OpenClaim := { program := "ytgecmdnjgoekjaa", sum := "aba228f8a3e5b55eaa284628203f755c6beb8710aa74ec8af34efd279ee9b65b", func := "loop.example/g01104/laws.FnExactFromDeltas", spec := "fnExactFromDeltas", apart := false, narrowed := true }
def FnExactFromDeltasUptoSaid : Prop := fnExactFromDeltasUptoRow.holds Try.pinned (OpenSpec.upto fnExactFromDeltasSpec)

/-- 'laws.FnExactFromBits', WHERE WHAT IT READS IS OF BULK AT MOST 1048576: true; the input reads as it did. -/
def fnExactFromBitsUptoRow : OpenClaim := { program := "ytgecmdnjgoekjaa", sum := "aba228f8a3e5b55eaa284628203f755c6beb8710aa74ec8af34efd279ee9b65b", func := "loop.example/g01104/laws.FnExactFromBits", spec := "fnExactFromBits", apart := false, narrowed := true }
def FnExactFromBitsUptoSaid : Prop := fnExactFromBitsUptoRow.holds Try.pinned (OpenSpec.upto fnExactFromBitsSpec)

/-- 'laws.FnExactColexAt', WHERE WHAT IT READS IS OF BULK AT MOST 1048576: true; the input reads as it did. -/
def fnExactColexAtUptoRow : OpenClaim := { program := "ytgecmdnjgoekjaa", sum := "aba228f8a3e5b55eaa284628203f755c6beb8710aa74ec8af34efd279ee9b65b", func := "loop.example/g01104/laws.FnExactColexAt", spec := "fnExactColexAt", recurses := true, apart := false, narrowed := true }
def FnExactColexAtUptoSaid : Prop := fnExactColexAtUptoRow.holds Try.pinned (OpenSpec.upto fnExactColexAtSpec)

/-- 'laws.FnExactCombinationAt', WHERE WHAT IT READS IS OF BULK AT MOST 1048576: true; the input reads as it did. -/
def fnExactCombinationAtUptoRow : OpenClaim := { program := "ytgecmdnjgoekjaa", sum := "aba228f8a3e5b55eaa284628203f755c6beb8710aa74ec8af34efd279ee9b65b", func := "loop.example/g01104/laws.FnExactCombinationAt", spec := "fnExactCombinationAt", recurses := true, apart := false, narrowed := true }
def FnExactCombinationAtUptoSaid : Prop := fnExactCombinationAtUptoRow.holds Try.pinned (OpenSpec.upto fnExactCombinationAtSpec)

/-- 'laws.FnExactDigitsAt', WHERE WHAT IT READS IS OF BULK AT MOST 1048576: true; the input reads as it did. -/
def fnExactDigitsAtUptoRow : OpenClaim := { program := "ytgecmdnjgoekjaa", sum := "aba228f8a3e5b55eaa284628203f755c6beb8710aa74ec8af34efd279ee9b65b", func := "loop.example/g01104/laws.FnExactDigitsAt", spec := "fnExactDigitsAt", apart := false, narrowed := true }
def FnExactDigitsAtUptoSaid : Prop := fnExactDigitsAtUptoRow.holds Try.pinned (OpenSpec.upto fnExactDigitsAtSpec)

end Rows
end Go.Proofs.Ytgecmdnjgoekjaa
