/- What the law's functions compute, and that the calls come to just that: turned from a printed text. No condition. -/
import Derived.Test.YtoajkfiighdjpaaAid
import Derived.Test.YtoajkfiighdjpaaProg
import Derived.Below
import Derived.Deep.Draws
import Derived.Deep.AppendLies
import Derived.Maps.AppendAt
import Derived.OwnWalk
import Derived.Laws.BytesArg
import Derived.Laws.MakeOwn
import Derived.Laws.OwnMore
import Derived.Deep.OwnRows
import Derived.Tactics
import Derived.Lib.ConvBytes
import Derived.Laws.Slices
import Derived.WalkKit
import Derived.KernelRfl
import Derived.RowKit3
import Derived.Deep.LoopGhost
import Derived.Deep.QuietTactic
import Derived.BigQuiet
import Derived.WideLaws
import Derived.Deep.DeepCutAuto
import Derived.Deep.CutBlock
import Derived.Deep.RegionHeld3
import Derived.Laws.Rows
import Derived.Lib.AppendStr
import Derived.ArgAppend
import Derived.Laws.IdiomCopy
import Derived.OrdersHeld
import Derived.Laws.BitsLemmas
import Derived.RowKit
import Derived.Test.YtoajkfiighdjpaaLay
import Derived.Test.YtoajkfiighdjpaaWWords
import Derived.Test.YtoajkfiighdjpaaWLast
import Derived.Test.YtoajkfiighdjpaaWTab
import Derived.Test.YtoajkfiighdjpaaWFour
import Derived.Test.YtoajkfiighdjpaaWQPut
import Derived.Test.YtoajkfiighdjpaaWApart
import Derived.Test.YtoajkfiighdjpaaWArr
import Derived.Test.YtoajkfiighdjpaaWZeros
import Derived.Test.YtoajkfiighdjpaaWFoot
import Derived.Test.YtoajkfiighdjpaaWKept
import Derived.Test.YtoajkfiighdjpaaWShare
import Derived.Test.YtoajkfiighdjpaaWN
import Derived.Test.YtoajkfiighdjpaaWFootNe
import Derived.Test.YtoajkfiighdjpaaWAt
import Derived.Test.YtoajkfiighdjpaaWEqStruct
import Derived.Test.YtoajkfiighdjpaaWRepsOne
import Derived.Test.YtoajkfiighdjpaaWInv
import Derived.Test.YtoajkfiighdjpaaWInvWords
import Derived.Test.YtoajkfiighdjpaaWGuard
import Derived.Test.YtoajkfiighdjpaaWNEv
import Derived.Test.YtoajkfiighdjpaaWMore
namespace Go.Proofs.Ytoajkfiighdjpaa.PFnExactPermutationAt
open Go.RowKit Go.Proofs.YtoajkfiighdjpaaW.PrintWords Go.Proofs.YtoajkfiighdjpaaW.PrintLast Go.Proofs.YtoajkfiighdjpaaW.PrintMore
attribute [local go_sem] max2_int min2_int max_two min_two max_three min_three max_four min_four   -- for this text's walks alone
set_option linter.unusedVariables false
set_option linter.unusedSimpArgs false



def errW : Option Int → Value
  | none => .nilIface
  | some c => .iface 0 (.int .i64 c)
theorem errW_none : errW none = .nilIface := rfl
theorem errW_some (c : Int) : errW (some c) = .iface 0 (.int .i64 c) := rfl

theorem info3 : (Try.prog.info? 3).map (fun i => (i.zero, i.size, i.bytes)) = some (some (.int .i64 0), 1, 8) := by kernel_rfl
-- the values' own types

end Go.Proofs.Ytoajkfiighdjpaa.PFnExactPermutationAt
