/-
  NARROWER THAN 'FOR EVERY INPUT', by the rows' own cells (each row's printed sentence says how): FnExactNextReflected: laid · FnExactCountCodes: laid · FnExactDeltasOf: laid · FnExactChangesOf: laid · FnExactIsCode: laid · FnExactIsRoundCode: laid · FnExactLeastRun: laid · FnExactIsEvenlyChanged: laid · FnExactPathThrough: laid · FnCodes: laid · FnRuns: laid · FnCodesMoved: laid · FnReflected: laid · FnPathsThroughWords: laid.
  DERIVED. THE GIVEN ROWS OF THIS SEAT. 14 by the template 'for every input the law returns true; each argument reads behind the call as it read before'; 0 by the template 'total and deterministic' (their statements: YtnhifbopicjicaaDoorTotals.lean).
  GIVEN WITH THE SEED: the statements are not yours to turn. If you find one false, say at which input.
  Laid BY PROGRAM, IN A SANDBOX (cutbox-rows.mjs): the forced cells as the released guide's own fill.sh prints them over the translation fdd4a68942156c07… (all of the seat's roots in one cut). By AI agents, Wed Nov 11 2026. No macro, syntax, notation, axiom, sorry.
-/
import Derived.Test.YtnhifbopicjicaaDoorChecked
import GoSem.Claim
import GoSem.ClaimJoined
import GoSem.ClaimMapViews
import Derived.JoinedTies
import Derived.KernelRfl
namespace Go.Proofs.YtnhifbopicjicaaDoor
/- THE CELL 'sum', in the pinned program and in every row, IS THE sha256 OF THE DUMP (.gsa) THAT YtnhifbopicjicaaDoorProg.lean LOADS. Nothing in Lean hashes anything: it is a label: what it is worth is what the hold of that sum in a sandbox is worth. -/
noncomputable def Tryd.pinned : Pinned := { name := "ytnhifbopicjicaadoor", sum := "fdd4a68942156c074ebdb8e3659685cd5893dd5da749df7172b0d7d0067edd4f", checked := Tryd.checked }
namespace Rows
def none {H : Type} : Left H := { results := [], args := [] }

/- WHAT THE LISTED PACKAGE-LEVEL VARIABLES READ AS WHEN THE CALL BEGINS. Each datum BY PROGRAM (the guide's laid-datum.mjs) off the statement by which the dump's own 'gosem.cut.vars' lays the variable. In a bare row this is a premise. The card (YtnhifbopicjicaaDoorCards.lean) ties it to the program's text. -/
def laid_math_bits_deBruijn32tab {H : Type} : DataW H := .agg [.lit (.int .u8 0), .lit (.int .u8 1), .lit (.int .u8 28), .lit (.int .u8 2), .lit (.int .u8 29), .lit (.int .u8 14), .lit (.int .u8 24), .lit (.int .u8 3), .lit (.int .u8 30), .lit (.int .u8 22), .lit (.int .u8 20), .lit (.int .u8 15), .lit (.int .u8 25), .lit (.int .u8 17), .lit (.int .u8 4), .lit (.int .u8 8), .lit (.int .u8 31), .lit (.int .u8 27), .lit (.int .u8 13), .lit (.int .u8 23), .lit (.int .u8 21), .lit (.int .u8 19), .lit (.int .u8 16), .lit (.int .u8 7), .lit (.int .u8 26), .lit (.int .u8 12), .lit (.int .u8 18), .lit (.int .u8 6), .lit (.int .u8 11), .lit (.int .u8 5), .lit (.int .u8 10), .lit (.int .u8 9)]
def laid_math_bits_deBruijn64tab {H : Type} : DataW H := .agg [.lit (.int .u8 0), .lit (.int .u8 1), .lit (.int .u8 56), .lit (.int .u8 2), .lit (.int .u8 57), .lit (.int .u8 49), .lit (.int .u8 28), .lit (.int .u8 3), .lit (.int .u8 61), .lit (.int .u8 58), .lit (.int .u8 42), .lit (.int .u8 50), .lit (.int .u8 38), .lit (.int .u8 29), .lit (.int .u8 17), .lit (.int .u8 4), .lit (.int .u8 62), .lit (.int .u8 47), .lit (.int .u8 59), .lit (.int .u8 36), .lit (.int .u8 45), .lit (.int .u8 43), .lit (.int .u8 51), .lit (.int .u8 22), .lit (.int .u8 53), .lit (.int .u8 39), .lit (.int .u8 33), .lit (.int .u8 30), .lit (.int .u8 24), .lit (.int .u8 18), .lit (.int .u8 12), .lit (.int .u8 5), .lit (.int .u8 63), .lit (.int .u8 55), .lit (.int .u8 48), .lit (.int .u8 27), .lit (.int .u8 60), .lit (.int .u8 41), .lit (.int .u8 37), .lit (.int .u8 16), .lit (.int .u8 46), .lit (.int .u8 35), .lit (.int .u8 44), .lit (.int .u8 21), .lit (.int .u8 52), .lit (.int .u8 32), .lit (.int .u8 23), .lit (.int .u8 11), .lit (.int .u8 54), .lit (.int .u8 26), .lit (.int .u8 40), .lit (.int .u8 15), .lit (.int .u8 34), .lit (.int .u8 20), .lit (.int .u8 31), .lit (.int .u8 10), .lit (.int .u8 25), .lit (.int .u8 14), .lit (.int .u8 19), .lit (.int .u8 9), .lit (.int .u8 13), .lit (.int .u8 8), .lit (.int .u8 7), .lit (.int .u8 6)]

/-- 'laws.FnExactNextReflected': WHATEVER THE INPUT: true; the input reads as it did. -/
def fnExactNextReflectedSpec : ChangeSpec := { name := "fnExactNextReflected", fn := fun _ => fun
  | [d1, d2] => { results := [.lit (.bool true)], args := [d1, d2] }
  | _ => none }
def fnExactNextReflectedRow : OpenClaim := { program := "ytnhifbopicjicaadoor", sum := "fdd4a68942156c074ebdb8e3659685cd5893dd5da749df7172b0d7d0067edd4f", func := "loop.example/g01104/laws.FnExactNextReflected", spec := "fnExactNextReflected", recurses := true, named := ["math/bits.deBruijn32tab", "math/bits.deBruijn64tab"], apart := false, laid := [("math/bits.deBruijn32tab", laid_math_bits_deBruijn32tab), ("math/bits.deBruijn64tab", laid_math_bits_deBruijn64tab)] }
def FnExactNextReflectedSaid : Prop := fnExactNextReflectedRow.holds Tryd.pinned (OpenSpec.ofChange fnExactNextReflectedSpec)

/-- ITS FALSE NEIGHBOUR: 'it returns false'. Refute it at one input. -/
def fnExactNextReflectedWrong : ChangeSpec := { name := "fnExactNextReflected", fn := fun _ => fun
  | [d1, d2] => { results := [.lit (.bool false)], args := [d1, d2] }
  | _ => none }
def FnExactNextReflectedWrongFalsely : Prop := fnExactNextReflectedRow.holds Tryd.pinned (OpenSpec.ofChange fnExactNextReflectedWrong)

/-- 'laws.FnExactCountCodes': WHATEVER THE INPUT: true; the input reads as it did. -/
def fnExactCountCodesSpec : ChangeSpec := { name := "fnExactCountCodes", fn := fun _ => fun
  | [d] => { results := [.lit (.bool true)], args := [d] }
  | _ => none }
def fnExactCountCodesRow : OpenClaim := { program := "ytnhifbopicjicaadoor", sum := "fdd4a68942156c074ebdb8e3659685cd5893dd5da749df7172b0d7d0067edd4f", func := "loop.example/g01104/laws.FnExactCountCodes", spec := "fnExactCountCodes", unfollowed := true, recurses := true, named := ["math/bits.deBruijn32tab", "math/bits.deBruijn64tab"], apart := false, laid := [("math/bits.deBruijn32tab", laid_math_bits_deBruijn32tab), ("math/bits.deBruijn64tab", laid_math_bits_deBruijn64tab)] }
def FnExactCountCodesSaid : Prop := fnExactCountCodesRow.holds Tryd.pinned (OpenSpec.ofChange fnExactCountCodesSpec)

/-- ITS FALSE NEIGHBOUR: 'it returns false'. Refute it at one input. -/
def fnExactCountCodesWrong : ChangeSpec := { name := "fnExactCountCodes", fn := fun _ => fun
  | [d] => { results := [.lit (.bool false)], args := [d] }
  | _ => none }
def FnExactCountCodesWrongFalsely : Prop := fnExactCountCodesRow.holds Tryd.pinned (OpenSpec.ofChange fnExactCountCodesWrong)

/-- 'laws.FnExactDeltasOf': WHATEVER THE INPUT: true; the input reads as it did. -/
def fnExactDeltasOfSpec : ChangeSpec := { name := "fnExactDeltasOf", fn := fun _ => fun
  | [d1, d2] => { results := [.lit (.bool true)], args := [d1, d2] }
  | _ => none }
def fnExactDeltasOfRow : OpenClaim := { program := "ytnhifbopicjicaadoor", sum := "fdd4a68942156c074ebdb8e3659685cd5893dd5da749df7172b0d7d0067edd4f", func := "loop.example/g01104/laws.FnExactDeltasOf", spec := "fnExactDeltasOf", named := ["math/bits.deBruijn32tab", "math/bits.deBruijn64tab"], apart := false, laid := [("math/bits.deBruijn32tab", laid_math_bits_deBruijn32tab), ("math/bits.deBruijn64tab", laid_math_bits_deBruijn64tab)] }
def FnExactDeltasOfSaid : Prop := fnExactDeltasOfRow.holds Tryd.pinned (OpenSpec.ofChange fnExactDeltasOfSpec)

/-- ITS FALSE NEIGHBOUR: 'it returns false'. Refute it at one input. -/
def fnExactDeltasOfWrong : ChangeSpec := { name := "fnExactDeltasOf", fn := fun _ => fun
  | [d1, d2] => { results := [.lit (.bool false)], args := [d1, d2] }
  | _ => none }
def FnExactDeltasOfWrongFalsely : Prop := fnExactDeltasOfRow.holds Tryd.pinned (OpenSpec.ofChange fnExactDeltasOfWrong)

/-- 'laws.FnExactChangesOf': WHATEVER THE INPUT: true; the input reads as it did. -/
def fnExactChangesOfSpec : ChangeSpec := { name := "fnExactChangesOf", fn := fun _ => fun
  | [d1, d2] => { results := [.lit (.bool true)], args := [d1, d2] }
  | _ => none }
def fnExactChangesOfRow : OpenClaim := { program := "ytnhifbopicjicaadoor", sum := "fdd4a68942156c074ebdb8e3659685cd5893dd5da749df7172b0d7d0067edd4f", func := "loop.example/g01104/laws.FnExactChangesOf", spec := "fnExactChangesOf", named := ["math/bits.deBruijn32tab", "math/bits.deBruijn64tab"], apart := false, laid := [("math/bits.deBruijn32tab", laid_math_bits_deBruijn32tab), ("math/bits.deBruijn64tab", laid_math_bits_deBruijn64tab)] }
def FnExactChangesOfSaid : Prop := fnExactChangesOfRow.holds Tryd.pinned (OpenSpec.ofChange fnExactChangesOfSpec)

/-- ITS FALSE NEIGHBOUR: 'it returns false'. Refute it at one input. -/
def fnExactChangesOfWrong : ChangeSpec := { name := "fnExactChangesOf", fn := fun _ => fun
  | [d1, d2] => { results := [.lit (.bool false)], args := [d1, d2] }
  | _ => none }
def FnExactChangesOfWrongFalsely : Prop := fnExactChangesOfRow.holds Tryd.pinned (OpenSpec.ofChange fnExactChangesOfWrong)

/-- 'laws.FnExactIsCode': WHATEVER THE INPUT: true; the input reads as it did. -/
def fnExactIsCodeSpec : ChangeSpec := { name := "fnExactIsCode", fn := fun _ => fun
  | [d1, d2] => { results := [.lit (.bool true)], args := [d1, d2] }
  | _ => none }
def fnExactIsCodeRow : OpenClaim := { program := "ytnhifbopicjicaadoor", sum := "fdd4a68942156c074ebdb8e3659685cd5893dd5da749df7172b0d7d0067edd4f", func := "loop.example/g01104/laws.FnExactIsCode", spec := "fnExactIsCode", unfollowed := true, recurses := true, named := ["math/bits.deBruijn32tab", "math/bits.deBruijn64tab"], apart := false, laid := [("math/bits.deBruijn32tab", laid_math_bits_deBruijn32tab), ("math/bits.deBruijn64tab", laid_math_bits_deBruijn64tab)] }
def FnExactIsCodeSaid : Prop := fnExactIsCodeRow.holds Tryd.pinned (OpenSpec.ofChange fnExactIsCodeSpec)

/-- ITS FALSE NEIGHBOUR: 'it returns false'. Refute it at one input. -/
def fnExactIsCodeWrong : ChangeSpec := { name := "fnExactIsCode", fn := fun _ => fun
  | [d1, d2] => { results := [.lit (.bool false)], args := [d1, d2] }
  | _ => none }
def FnExactIsCodeWrongFalsely : Prop := fnExactIsCodeRow.holds Tryd.pinned (OpenSpec.ofChange fnExactIsCodeWrong)

/-- 'laws.FnExactIsRoundCode': WHATEVER THE INPUT: true; the input reads as it did. -/
def fnExactIsRoundCodeSpec : ChangeSpec := { name := "fnExactIsRoundCode", fn := fun _ => fun
  | [d1, d2] => { results := [.lit (.bool true)], args := [d1, d2] }
  | _ => none }
def fnExactIsRoundCodeRow : OpenClaim := { program := "ytnhifbopicjicaadoor", sum := "fdd4a68942156c074ebdb8e3659685cd5893dd5da749df7172b0d7d0067edd4f", func := "loop.example/g01104/laws.FnExactIsRoundCode", spec := "fnExactIsRoundCode", unfollowed := true, recurses := true, named := ["math/bits.deBruijn32tab", "math/bits.deBruijn64tab"], apart := false, laid := [("math/bits.deBruijn32tab", laid_math_bits_deBruijn32tab), ("math/bits.deBruijn64tab", laid_math_bits_deBruijn64tab)] }
def FnExactIsRoundCodeSaid : Prop := fnExactIsRoundCodeRow.holds Tryd.pinned (OpenSpec.ofChange fnExactIsRoundCodeSpec)

/-- ITS FALSE NEIGHBOUR: 'it returns false'. Refute it at one input. -/
def fnExactIsRoundCodeWrong : ChangeSpec := { name := "fnExactIsRoundCode", fn := fun _ => fun
  | [d1, d2] => { results := [.lit (.bool false)], args := [d1, d2] }
  | _ => none }
def FnExactIsRoundCodeWrongFalsely : Prop := fnExactIsRoundCodeRow.holds Tryd.pinned (OpenSpec.ofChange fnExactIsRoundCodeWrong)

/-- 'laws.FnExactLeastRun': WHATEVER THE INPUT: true; the input reads as it did. -/
def fnExactLeastRunSpec : ChangeSpec := { name := "fnExactLeastRun", fn := fun _ => fun
  | [d1, d2] => { results := [.lit (.bool true)], args := [d1, d2] }
  | _ => none }
def fnExactLeastRunRow : OpenClaim := { program := "ytnhifbopicjicaadoor", sum := "fdd4a68942156c074ebdb8e3659685cd5893dd5da749df7172b0d7d0067edd4f", func := "loop.example/g01104/laws.FnExactLeastRun", spec := "fnExactLeastRun", unfollowed := true, recurses := true, named := ["math/bits.deBruijn32tab", "math/bits.deBruijn64tab"], apart := false, laid := [("math/bits.deBruijn32tab", laid_math_bits_deBruijn32tab), ("math/bits.deBruijn64tab", laid_math_bits_deBruijn64tab)] }
def FnExactLeastRunSaid : Prop := fnExactLeastRunRow.holds Tryd.pinned (OpenSpec.ofChange fnExactLeastRunSpec)

/-- ITS FALSE NEIGHBOUR: 'it returns false'. Refute it at one input. -/
def fnExactLeastRunWrong : ChangeSpec := { name := "fnExactLeastRun", fn := fun _ => fun
  | [d1, d2] => { results := [.lit (.bool false)], args := [d1, d2] }
  | _ => none }
def FnExactLeastRunWrongFalsely : Prop := fnExactLeastRunRow.holds Tryd.pinned (OpenSpec.ofChange fnExactLeastRunWrong)

/-- 'laws.FnExactIsEvenlyChanged': WHATEVER THE INPUT: true; the input reads as it did. -/
def fnExactIsEvenlyChangedSpec : ChangeSpec := { name := "fnExactIsEvenlyChanged", fn := fun _ => fun
  | [d1, d2] => { results := [.lit (.bool true)], args := [d1, d2] }
  | _ => none }
def fnExactIsEvenlyChangedRow : OpenClaim := { program := "ytnhifbopicjicaadoor", sum := "fdd4a68942156c074ebdb8e3659685cd5893dd5da749df7172b0d7d0067edd4f", func := "loop.example/g01104/laws.FnExactIsEvenlyChanged", spec := "fnExactIsEvenlyChanged", unfollowed := true, recurses := true, named := ["math/bits.deBruijn32tab", "math/bits.deBruijn64tab"], apart := false, laid := [("math/bits.deBruijn32tab", laid_math_bits_deBruijn32tab), ("math/bits.deBruijn64tab", laid_math_bits_deBruijn64tab)] }
def FnExactIsEvenlyChangedSaid : Prop := fnExactIsEvenlyChangedRow.holds Tryd.pinned (OpenSpec.ofChange fnExactIsEvenlyChangedSpec)

/-- ITS FALSE NEIGHBOUR: 'it returns false'. Refute it at one input. -/
def fnExactIsEvenlyChangedWrong : ChangeSpec := { name := "fnExactIsEvenlyChanged", fn := fun _ => fun
  | [d1, d2] => { results := [.lit (.bool false)], args := [d1, d2] }
  | _ => none }
def FnExactIsEvenlyChangedWrongFalsely : Prop := fnExactIsEvenlyChangedRow.holds Tryd.pinned (OpenSpec.ofChange fnExactIsEvenlyChangedWrong)

/-- 'laws.FnExactPathThrough': WHATEVER THE INPUT: true; the input reads as it did. -/
def fnExactPathThroughSpec : ChangeSpec := { name := "fnExactPathThrough", fn := fun _ => fun
  | [d1, d2] => { results := [.lit (.bool true)], args := [d1, d2] }
  | _ => none }
def fnExactPathThroughRow : OpenClaim := { program := "ytnhifbopicjicaadoor", sum := "fdd4a68942156c074ebdb8e3659685cd5893dd5da749df7172b0d7d0067edd4f", func := "loop.example/g01104/laws.FnExactPathThrough", spec := "fnExactPathThrough", unfollowed := true, recurses := true, named := ["math/bits.deBruijn32tab", "math/bits.deBruijn64tab"], apart := false, laid := [("math/bits.deBruijn32tab", laid_math_bits_deBruijn32tab), ("math/bits.deBruijn64tab", laid_math_bits_deBruijn64tab)] }
def FnExactPathThroughSaid : Prop := fnExactPathThroughRow.holds Tryd.pinned (OpenSpec.ofChange fnExactPathThroughSpec)

/-- ITS FALSE NEIGHBOUR: 'it returns false'. Refute it at one input. -/
def fnExactPathThroughWrong : ChangeSpec := { name := "fnExactPathThrough", fn := fun _ => fun
  | [d1, d2] => { results := [.lit (.bool false)], args := [d1, d2] }
  | _ => none }
def FnExactPathThroughWrongFalsely : Prop := fnExactPathThroughRow.holds Tryd.pinned (OpenSpec.ofChange fnExactPathThroughWrong)

/-- 'laws.FnCodes': WHATEVER THE INPUT: true; the input reads as it did. -/
def fnCodesSpec : ChangeSpec := { name := "fnCodes", fn := fun _ => fun
  | [d1, d2] => { results := [.lit (.bool true)], args := [d1, d2] }
  | _ => none }
def fnCodesRow : OpenClaim := { program := "ytnhifbopicjicaadoor", sum := "fdd4a68942156c074ebdb8e3659685cd5893dd5da749df7172b0d7d0067edd4f", func := "loop.example/g01104/laws.FnCodes", spec := "fnCodes", unfollowed := true, recurses := true, named := ["math/bits.deBruijn32tab", "math/bits.deBruijn64tab"], apart := false, laid := [("math/bits.deBruijn32tab", laid_math_bits_deBruijn32tab), ("math/bits.deBruijn64tab", laid_math_bits_deBruijn64tab)] }
def FnCodesSaid : Prop := fnCodesRow.holds Tryd.pinned (OpenSpec.ofChange fnCodesSpec)

/-- ITS FALSE NEIGHBOUR: 'it returns false'. Refute it at one input. -/
def fnCodesWrong : ChangeSpec := { name := "fnCodes", fn := fun _ => fun
  | [d1, d2] => { results := [.lit (.bool false)], args := [d1, d2] }
  | _ => none }
def FnCodesWrongFalsely : Prop := fnCodesRow.holds Tryd.pinned (OpenSpec.ofChange fnCodesWrong)

/-- 'laws.FnRuns': WHATEVER THE INPUT: true; the input reads as it did. -/
def fnRunsSpec : ChangeSpec := { name := "fnRuns", fn := fun _ => fun
  | [d1, d2] => { results := [.lit (.bool true)], args := [d1, d2] }
  | _ => none }
def fnRunsRow : OpenClaim := { program := "ytnhifbopicjicaadoor", sum := "fdd4a68942156c074ebdb8e3659685cd5893dd5da749df7172b0d7d0067edd4f", func := "loop.example/g01104/laws.FnRuns", spec := "fnRuns", unfollowed := true, recurses := true, named := ["math/bits.deBruijn32tab", "math/bits.deBruijn64tab"], apart := false, laid := [("math/bits.deBruijn32tab", laid_math_bits_deBruijn32tab), ("math/bits.deBruijn64tab", laid_math_bits_deBruijn64tab)] }
def FnRunsSaid : Prop := fnRunsRow.holds Tryd.pinned (OpenSpec.ofChange fnRunsSpec)

/-- ITS FALSE NEIGHBOUR: 'it returns false'. Refute it at one input. -/
def fnRunsWrong : ChangeSpec := { name := "fnRuns", fn := fun _ => fun
  | [d1, d2] => { results := [.lit (.bool false)], args := [d1, d2] }
  | _ => none }
def FnRunsWrongFalsely : Prop := fnRunsRow.holds Tryd.pinned (OpenSpec.ofChange fnRunsWrong)

/-- 'laws.FnCodesMoved': WHATEVER THE INPUT: true; the input reads as it did. -/
def fnCodesMovedSpec : ChangeSpec := { name := "fnCodesMoved", fn := fun _ => fun
  | [d1, d2] => { results := [.lit (.bool true)], args := [d1, d2] }
  | _ => none }
def fnCodesMovedRow : OpenClaim := { program := "ytnhifbopicjicaadoor", sum := "fdd4a68942156c074ebdb8e3659685cd5893dd5da749df7172b0d7d0067edd4f", func := "loop.example/g01104/laws.FnCodesMoved", spec := "fnCodesMoved", unfollowed := true, recurses := true, named := ["math/bits.deBruijn32tab", "math/bits.deBruijn64tab"], apart := false, laid := [("math/bits.deBruijn32tab", laid_math_bits_deBruijn32tab), ("math/bits.deBruijn64tab", laid_math_bits_deBruijn64tab)] }
def FnCodesMovedSaid : Prop := fnCodesMovedRow.holds Tryd.pinned (OpenSpec.ofChange fnCodesMovedSpec)

/-- ITS FALSE NEIGHBOUR: 'it returns false'. Refute it at one input. -/
def fnCodesMovedWrong : ChangeSpec := { name := "fnCodesMoved", fn := fun _ => fun
  | [d1, d2] => { results := [.lit (.bool false)], args := [d1, d2] }
  | _ => none }
def FnCodesMovedWrongFalsely : Prop := fnCodesMovedRow.holds Tryd.pinned (OpenSpec.ofChange fnCodesMovedWrong)

/-- 'laws.FnReflected': WHATEVER THE INPUT: true; the input reads as it did. -/
def fnReflectedSpec : ChangeSpec := { name := "fnReflected", fn := fun _ => fun
  | [d1, d2] => { results := [.lit (.bool true)], args := [d1, d2] }
  | _ => none }
def fnReflectedRow : OpenClaim := { program := "ytnhifbopicjicaadoor", sum := "fdd4a68942156c074ebdb8e3659685cd5893dd5da749df7172b0d7d0067edd4f", func := "loop.example/g01104/laws.FnReflected", spec := "fnReflected", recurses := true, named := ["math/bits.deBruijn32tab", "math/bits.deBruijn64tab"], apart := false, laid := [("math/bits.deBruijn32tab", laid_math_bits_deBruijn32tab), ("math/bits.deBruijn64tab", laid_math_bits_deBruijn64tab)] }
def FnReflectedSaid : Prop := fnReflectedRow.holds Tryd.pinned (OpenSpec.ofChange fnReflectedSpec)

/-- ITS FALSE NEIGHBOUR: 'it returns false'. Refute it at one input. -/
def fnReflectedWrong : ChangeSpec := { name := "fnReflected", fn := fun _ => fun
  | [d1, d2] => { results := [.lit (.bool false)], args := [d1, d2] }
  | _ => none }
def FnReflectedWrongFalsely : Prop := fnReflectedRow.holds Tryd.pinned (OpenSpec.ofChange fnReflectedWrong)

/-- 'laws.FnPathsThroughWords': WHATEVER THE INPUT: true; the input reads as it did. -/
def fnPathsThroughWordsSpec : ChangeSpec := { name := "fnPathsThroughWords", fn := fun _ => fun
  | [d1, d2] => { results := [.lit (.bool true)], args := [d1, d2] }
  | _ => none }
def fnPathsThroughWordsRow : OpenClaim := { program := "ytnhifbopicjicaadoor", sum := "fdd4a68942156c074ebdb8e3659685cd5893dd5da749df7172b0d7d0067edd4f", func := "loop.example/g01104/laws.FnPathsThroughWords", spec := "fnPathsThroughWords", unfollowed := true, recurses := true, named := ["math/bits.deBruijn32tab", "math/bits.deBruijn64tab"], apart := false, laid := [("math/bits.deBruijn32tab", laid_math_bits_deBruijn32tab), ("math/bits.deBruijn64tab", laid_math_bits_deBruijn64tab)] }
def FnPathsThroughWordsSaid : Prop := fnPathsThroughWordsRow.holds Tryd.pinned (OpenSpec.ofChange fnPathsThroughWordsSpec)

/-- ITS FALSE NEIGHBOUR: 'it returns false'. Refute it at one input. -/
def fnPathsThroughWordsWrong : ChangeSpec := { name := "fnPathsThroughWords", fn := fun _ => fun
  | [d1, d2] => { results := [.lit (.bool false)], args := [d1, d2] }
  | _ => none }
def FnPathsThroughWordsWrongFalsely : Prop := fnPathsThroughWordsRow.holds Tryd.pinned (OpenSpec.ofChange fnPathsThroughWordsWrong)

/- THE SECOND FORM. 'bulk': how many values and letters a reading holds, each counted each time it is reached (what is shared counts as often as it is met; a slice's spare places count too). A statement '..UptoSaid' is the law's where the arguments, and the package variables that the reading takes, are together of bulk at most 1048576: NARROWER than '..Said'. Prove '..Said' where nothing that the law and all that it calls make is longer than what came in: it says more and counts as full. Else prove '..UptoSaid'. A law counts once. -/
mutual
def uptoBulk {H : Type} : DataW H → Nat
  | .lit (.string bytes) => bytes.length + 1
  | .lit _ => 1
  | .nil => 1
  | .ptr d => uptoBulk d + 1
  | .slice elems spare => uptoBulkAll elems + uptoBulkAll spare + 1
  | .agg parts => uptoBulkAll parts + 1
  | .iface _ d => uptoBulk d + 1
  | .map entries => uptoBulkEntries entries + 1
  | .held _ => 1
def uptoBulkAll {H : Type} : List (DataW H) → Nat
  | [] => 0
  | d :: r => uptoBulk d + uptoBulkAll r
def uptoBulkEntries {H : Type} : List (Lit × DataW H) → Nat
  | [] => 0
  | x :: r => uptoBulkEntry x + uptoBulkEntries r
def uptoBulkEntry {H : Type} : Lit × DataW H → Nat
  | (.string bytes, d) => bytes.length + uptoBulk d + 1
  | (_, d) => uptoBulk d + 1
 end
def uptoSmall : (H : Type) → List (DataW H) → Bool := fun _ ds => decide (uptoBulkAll ds ≤ 1048576)
def OpenSpec.upto (s : _root_.Go.ChangeSpec) : _root_.Go.OpenSpec := { _root_.Go.OpenSpec.ofChange s with cond := some uptoSmall }

/-- 'laws.FnExactNextReflected', WHERE WHAT IT READS IS OF BULK AT MOST 1048576: true; the input reads as it did. -/
def fnExactNextReflectedUptoRow : OpenClaim := { program := "ytnhifbopicjicaadoor", sum := "fdd4a68942156c074ebdb8e3659685cd5893dd5da749df7172b0d7d0067edd4f", func := "loop.example/g01104/laws.FnExactNextReflected", spec := "fnExactNextReflected", recurses := true, named := ["math/bits.deBruijn32tab", "math/bits.deBruijn64tab"], apart := false, laid := [("math/bits.deBruijn32tab", laid_math_bits_deBruijn32tab), ("math/bits.deBruijn64tab", laid_math_bits_deBruijn64tab)], narrowed := true }
def FnExactNextReflectedUptoSaid : Prop := fnExactNextReflectedUptoRow.holds Tryd.pinned (OpenSpec.upto fnExactNextReflectedSpec)

/-- 'laws.FnExactCountCodes', WHERE WHAT IT READS IS OF BULK AT MOST 1048576: true; the input reads as it did. -/
def fnExactCountCodesUptoRow : OpenClaim := { program := "ytnhifbopicjicaadoor", sum := "fdd4a68942156c074ebdb8e3659685cd5893dd5da749df7172b0d7d0067edd4f", func := "loop.example/g01104/laws.FnExactCountCodes", spec := "fnExactCountCodes", unfollowed := true, recurses := true, named := ["math/bits.deBruijn32tab", "math/bits.deBruijn64tab"], apart := false, laid := [("math/bits.deBruijn32tab", laid_math_bits_deBruijn32tab), ("math/bits.deBruijn64tab", laid_math_bits_deBruijn64tab)], narrowed := true }
def FnExactCountCodesUptoSaid : Prop := fnExactCountCodesUptoRow.holds Tryd.pinned (OpenSpec.upto fnExactCountCodesSpec)

/-- 'laws.FnExactDeltasOf', WHERE WHAT IT READS IS OF BULK AT MOST 1048576: true; the input reads as it did. -/
def fnExactDeltasOfUptoRow : OpenClaim := { program := "ytnhifbopicjicaadoor", sum := "fdd4a68942156c074ebdb8e3659685cd5893dd5da749df7172b0d7d0067edd4f", func := "loop.example/g01104/laws.FnExactDeltasOf", spec := "fnExactDeltasOf", named := ["math/bits.deBruijn32tab", "math/bits.deBruijn64tab"], apart := false, laid := [("math/bits.deBruijn32tab", laid_math_bits_deBruijn32tab), ("math/bits.deBruijn64tab", laid_math_bits_deBruijn64tab)], narrowed := true }
def FnExactDeltasOfUptoSaid : Prop := fnExactDeltasOfUptoRow.holds Tryd.pinned (OpenSpec.upto fnExactDeltasOfSpec)

/-- 'laws.FnExactChangesOf', WHERE WHAT IT READS IS OF BULK AT MOST 1048576: true; the input reads as it did. -/
def fnExactChangesOfUptoRow : OpenClaim := { program := "ytnhifbopicjicaadoor", sum := "fdd4a68942156c074ebdb8e3659685cd5893dd5da749df7172b0d7d0067edd4f", func := "loop.example/g01104/laws.FnExactChangesOf", spec := "fnExactChangesOf", named := ["math/bits.deBruijn32tab", "math/bits.deBruijn64tab"], apart := false, laid := [("math/bits.deBruijn32tab", laid_math_bits_deBruijn32tab), ("math/bits.deBruijn64tab", laid_math_bits_deBruijn64tab)], narrowed := true }
def FnExactChangesOfUptoSaid : Prop := fnExactChangesOfUptoRow.holds Tryd.pinned (OpenSpec.upto fnExactChangesOfSpec)

/-- 'laws.FnExactIsCode', WHERE WHAT IT READS IS OF BULK AT MOST 1048576: true; the input reads as it did. -/
def fnExactIsCodeUptoRow : OpenClaim := { program := "ytnhifbopicjicaadoor", sum := "fdd4a68942156c074ebdb8e3659685cd5893dd5da749df7172b0d7d0067edd4f", func := "loop.example/g01104/laws.FnExactIsCode", spec := "fnExactIsCode", unfollowed := true, recurses := true, named := ["math/bits.deBruijn32tab", "math/bits.deBruijn64tab"], apart := false, laid := [("math/bits.deBruijn32tab", laid_math_bits_deBruijn32tab), ("math/bits.deBruijn64tab", laid_math_bits_deBruijn64tab)], narrowed := true }
def FnExactIsCodeUptoSaid : Prop := fnExactIsCodeUptoRow.holds Tryd.pinned (OpenSpec.upto fnExactIsCodeSpec)

/-- 'laws.FnExactIsRoundCode', WHERE WHAT IT READS IS OF BULK AT MOST 1048576: true; the input reads as it did. -/
def fnExactIsRoundCodeUptoRow : OpenClaim := { program := "ytnhifbopicjicaadoor", sum := "fdd4a68942156c074ebdb8e3659685cd5893dd5da749df7172b0d7d0067edd4f", func := "loop.example/g01104/laws.FnExactIsRoundCode", spec := "fnExactIsRoundCode", unfollowed := true, recurses := true, named := ["math/bits.deBruijn32tab", "math/bits.deBruijn64tab"], apart := false, laid := [("math/bits.deBruijn32tab", laid_math_bits_deBruijn32tab), ("math/bits.deBruijn64tab", laid_math_bits_deBruijn64tab)], narrowed := true }
def FnExactIsRoundCodeUptoSaid : Prop := fnExactIsRoundCodeUptoRow.holds Tryd.pinned (OpenSpec.upto fnExactIsRoundCodeSpec)

/-- 'laws.FnExactLeastRun', WHERE WHAT IT READS IS OF BULK AT MOST 1048576: true; the input reads as it did. -/
def fnExactLeastRunUptoRow : OpenClaim := { program := "ytnhifbopicjicaadoor", sum := "fdd4a68942156c074ebdb8e3659685cd5893dd5da749df7172b0d7d0067edd4f", func := "loop.example/g01104/laws.FnExactLeastRun", spec := "fnExactLeastRun", unfollowed := true, recurses := true, named := ["math/bits.deBruijn32tab", "math/bits.deBruijn64tab"], apart := false, laid := [("math/bits.deBruijn32tab", laid_math_bits_deBruijn32tab), ("math/bits.deBruijn64tab", laid_math_bits_deBruijn64tab)], narrowed := true }
def FnExactLeastRunUptoSaid : Prop := fnExactLeastRunUptoRow.holds Tryd.pinned (OpenSpec.upto fnExactLeastRunSpec)

/-- 'laws.FnExactIsEvenlyChanged', WHERE WHAT IT READS IS OF BULK AT MOST 1048576: true; the input reads as it did. -/
def fnExactIsEvenlyChangedUptoRow : OpenClaim := { program := "ytnhifbopicjicaadoor", sum := "fdd4a68942156c074ebdb8e3659685cd5893dd5da749df7172b0d7d0067edd4f", func := "loop.example/g01104/laws.FnExactIsEvenlyChanged", spec := "fnExactIsEvenlyChanged", unfollowed := true, recurses := true, named := ["math/bits.deBruijn32tab", "math/bits.deBruijn64tab"], apart := false, laid := [("math/bits.deBruijn32tab", laid_math_bits_deBruijn32tab), ("math/bits.deBruijn64tab", laid_math_bits_deBruijn64tab)], narrowed := true }
def FnExactIsEvenlyChangedUptoSaid : Prop := fnExactIsEvenlyChangedUptoRow.holds Tryd.pinned (OpenSpec.upto fnExactIsEvenlyChangedSpec)

/-- 'laws.FnExactPathThrough', WHERE WHAT IT READS IS OF BULK AT MOST 1048576: true; the input reads as it did. -/
def fnExactPathThroughUptoRow : OpenClaim := { program := "ytnhifbopicjicaadoor", sum := "fdd4a68942156c074ebdb8e3659685cd5893dd5da749df7172b0d7d0067edd4f", func := "loop.example/g01104/laws.FnExactPathThrough", spec := "fnExactPathThrough", unfollowed := true, recurses := true, named := ["math/bits.deBruijn32tab", "math/bits.deBruijn64tab"], apart := false, laid := [("math/bits.deBruijn32tab", laid_math_bits_deBruijn32tab), ("math/bits.deBruijn64tab", laid_math_bits_deBruijn64tab)], narrowed := true }
def FnExactPathThroughUptoSaid : Prop := fnExactPathThroughUptoRow.holds Tryd.pinned (OpenSpec.upto fnExactPathThroughSpec)

/-- 'laws.FnCodes', WHERE WHAT IT READS IS OF BULK AT MOST 1048576: true; the input reads as it did. -/
def fnCodesUptoRow : OpenClaim := { program := "ytnhifbopicjicaadoor", sum := "fdd4a68942156c074ebdb8e3659685cd5893dd5da749df7172b0d7d0067edd4f", func := "loop.example/g01104/laws.FnCodes", spec := "fnCodes", unfollowed := true, recurses := true, named := ["math/bits.deBruijn32tab", "math/bits.deBruijn64tab"], apart := false, laid := [("math/bits.deBruijn32tab", laid_math_bits_deBruijn32tab), ("math/bits.deBruijn64tab", laid_math_bits_deBruijn64tab)], narrowed := true }
def FnCodesUptoSaid : Prop := fnCodesUptoRow.holds Tryd.pinned (OpenSpec.upto fnCodesSpec)

/-- 'laws.FnRuns', WHERE WHAT IT READS IS OF BULK AT MOST 1048576: true; the input reads as it did. -/
def fnRunsUptoRow : OpenClaim := { program := "ytnhifbopicjicaadoor", sum := "fdd4a68942156c074ebdb8e3659685cd5893dd5da749df7172b0d7d0067edd4f", func := "loop.example/g01104/laws.FnRuns", spec := "fnRuns", unfollowed := true, recurses := true, named := ["math/bits.deBruijn32tab", "math/bits.deBruijn64tab"], apart := false, laid := [("math/bits.deBruijn32tab", laid_math_bits_deBruijn32tab), ("math/bits.deBruijn64tab", laid_math_bits_deBruijn64tab)], narrowed := true }
def FnRunsUptoSaid : Prop := fnRunsUptoRow.holds Tryd.pinned (OpenSpec.upto fnRunsSpec)

/-- 'laws.FnCodesMoved', WHERE WHAT IT READS IS OF BULK AT MOST 1048576: true; the input reads as it did. -/
def fnCodesMovedUptoRow : OpenClaim := { program := "ytnhifbopicjicaadoor", sum := "fdd4a68942156c074ebdb8e3659685cd5893dd5da749df7172b0d7d0067edd4f", func := "loop.example/g01104/laws.FnCodesMoved", spec := "fnCodesMoved", unfollowed := true, recurses := true, named := ["math/bits.deBruijn32tab", "math/bits.deBruijn64tab"], apart := false, laid := [("math/bits.deBruijn32tab", laid_math_bits_deBruijn32tab), ("math/bits.deBruijn64tab", laid_math_bits_deBruijn64tab)], narrowed := true }
def FnCodesMovedUptoSaid : Prop := fnCodesMovedUptoRow.holds Tryd.pinned (OpenSpec.upto fnCodesMovedSpec)

/-- 'laws.FnReflected', WHERE WHAT IT READS IS OF BULK AT MOST 1048576: true; the input reads as it did. -/
def fnReflectedUptoRow : OpenClaim := { program := "ytnhifbopicjicaadoor", sum := "fdd4a68942156c074ebdb8e3659685cd5893dd5da749df7172b0d7d0067edd4f", func := "loop.example/g01104/laws.FnReflected", spec := "fnReflected", recurses := true, named := ["math/bits.deBruijn32tab", "math/bits.deBruijn64tab"], apart := false, laid := [("math/bits.deBruijn32tab", laid_math_bits_deBruijn32tab), ("math/bits.deBruijn64tab", laid_math_bits_deBruijn64tab)], narrowed := true }
def FnReflectedUptoSaid : Prop := fnReflectedUptoRow.holds Tryd.pinned (OpenSpec.upto fnReflectedSpec)

/-- 'laws.FnPathsThroughWords', WHERE WHAT IT READS IS OF BULK AT MOST 1048576: true; the input reads as it did. -/
def fnPathsThroughWordsUptoRow : OpenClaim := { program := "ytnhifbopicjicaadoor", sum := "fdd4a68942156c074ebdb8e3659685cd5893dd5da749df7172b0d7d0067edd4f", func := "loop.example/g01104/laws.FnPathsThroughWords", spec := "fnPathsThroughWords", unfollowed := true, recurses := true, named := ["math/bits.deBruijn32tab", "math/bits.deBruijn64tab"], apart := false, laid := [("math/bits.deBruijn32tab", laid_math_bits_deBruijn32tab), ("math/bits.deBruijn64tab", laid_math_bits_deBruijn64tab)], narrowed := true }
def FnPathsThroughWordsUptoSaid : Prop := fnPathsThroughWordsUptoRow.holds Tryd.pinned (OpenSpec.upto fnPathsThroughWordsSpec)

end Rows
end Go.Proofs.YtnhifbopicjicaaDoor
