/- What the law's functions compute, and that the calls come to just that: turned from a printed text. No condition. -/
import Derived.Test.YtkbnkichgkeckaaAid
import Derived.Test.YtkbnkichgkeckaaProg
import Derived.Below
import Derived.Deep.Draws
import Derived.Deep.AppendLies
import Derived.Maps.AppendAt
import Derived.OwnWalk
import Derived.Laws.BytesArg
import Derived.Laws.MakeOwn
import Derived.Laws.OwnMore
import Derived.Deep.OwnRows
import Derived.Tactics
import Derived.Lib.ConvBytes
import Derived.Laws.Slices
import Derived.WalkKit
import Derived.KernelRfl
import Derived.RowKit3
import Derived.Deep.LoopGhost
import Derived.Deep.QuietTactic
import Derived.BigQuiet
import Derived.WideLaws
import Derived.Deep.DeepCutAuto
import Derived.Deep.CutBlock
import Derived.Deep.RegionHeld3
import Derived.Laws.Rows
import Derived.Lib.AppendStr
import Derived.ArgAppend
import Derived.Laws.IdiomCopy
import Derived.OrdersHeld
import Derived.Laws.BitsLemmas
import Derived.RowKit
import Derived.Test.YtkbnkichgkeckaaExt
import Derived.Test.YtkbnkichgkeckaaMthPerm
import Derived.Test.YtkbnkichgkeckaaWWords
import Derived.Test.YtkbnkichgkeckaaWLast
import Derived.Test.YtkbnkichgkeckaaWTab
import Derived.Test.YtkbnkichgkeckaaWFour
import Derived.Test.YtkbnkichgkeckaaWQPut
import Derived.Test.YtkbnkichgkeckaaWApart
import Derived.Test.YtkbnkichgkeckaaWArr
import Derived.Test.YtkbnkichgkeckaaWZeros
import Derived.Test.YtkbnkichgkeckaaWFoot
import Derived.Test.YtkbnkichgkeckaaWKept
import Derived.Test.YtkbnkichgkeckaaWShare
import Derived.Test.YtkbnkichgkeckaaWN
import Derived.Test.YtkbnkichgkeckaaWFootNe
import Derived.Test.YtkbnkichgkeckaaWAt
import Derived.Test.YtkbnkichgkeckaaWEqStruct
import Derived.Test.YtkbnkichgkeckaaWRepsOne
import Derived.Test.YtkbnkichgkeckaaWInv
import Derived.Test.YtkbnkichgkeckaaWInvWords
import Derived.Test.YtkbnkichgkeckaaWGuard
import Derived.Test.YtkbnkichgkeckaaWNEv
import Derived.Test.YtkbnkichgkeckaaWMore
namespace Go.Proofs.Ytkbnkichgkeckaa.PFnExactPermutationRank
open Go.RowKit Go.Proofs.YtkbnkichgkeckaaW.PrintWords Go.Proofs.YtkbnkichgkeckaaW.PrintLast Go.Proofs.YtkbnkichgkeckaaW.PrintMore
attribute [local go_sem] max2_int min2_int max_two min_two max_three min_three max_four min_four   -- for this text's walks alone
set_option linter.unusedVariables false
set_option linter.unusedSimpArgs false



def errW : Option Int → Value
  | none => .nilIface
  | some c => .iface 0 (.int .i64 c)
theorem errW_none : errW none = .nilIface := rfl
theorem errW_some (c : Int) : errW (some c) = .iface 0 (.int .i64 c) := rfl

theorem info3 : (Try.prog.info? 3).map (fun i => (i.zero, i.size, i.bytes)) = some (some (.int .i64 0), 1, 8) := by kernel_rfl
-- the values' own types

end Go.Proofs.Ytkbnkichgkeckaa.PFnExactPermutationRank
