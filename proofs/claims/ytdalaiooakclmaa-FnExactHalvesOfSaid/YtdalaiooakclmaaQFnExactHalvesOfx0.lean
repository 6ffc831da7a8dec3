/- What the law's functions compute, and that the calls come to just that: turned from a printed text. No condition. -/
import Derived.Test.YtdalaiooakclmaaAid
import Derived.Test.YtdalaiooakclmaaProg
import Derived.Below
import Derived.Deep.Draws
import Derived.Deep.AppendLies
import Derived.Maps.AppendAt
import Derived.OwnWalk
import Derived.Laws.BytesArg
import Derived.Laws.MakeOwn
import Derived.Laws.OwnMore
import Derived.Deep.OwnRows
import Derived.Tactics
import Derived.Lib.ConvBytes
import Derived.Laws.Slices
import Derived.WalkKit
import Derived.KernelRfl
import Derived.RowKit3
import Derived.Deep.LoopGhost
import Derived.Deep.QuietTactic
import Derived.BigQuiet
import Derived.WideLaws
import Derived.Deep.DeepCutAuto
import Derived.Deep.CutBlock
import Derived.Deep.RegionHeld3
import Derived.Laws.Rows
import Derived.Lib.AppendStr
import Derived.ArgAppend
import Derived.Laws.IdiomCopy
import Derived.OrdersHeld
import Derived.Laws.BitsLemmas
import Derived.RowKit
import Derived.Test.YtdalaiooakclmaaWWords
import Derived.Test.YtdalaiooakclmaaWLast
import Derived.Test.YtdalaiooakclmaaWTab
import Derived.Test.YtdalaiooakclmaaWFour
import Derived.Test.YtdalaiooakclmaaWQPut
import Derived.Test.YtdalaiooakclmaaWApart
import Derived.Test.YtdalaiooakclmaaWArr
import Derived.Test.YtdalaiooakclmaaWZeros
import Derived.Test.YtdalaiooakclmaaWFoot
import Derived.Test.YtdalaiooakclmaaWKept
import Derived.Test.YtdalaiooakclmaaWShare
import Derived.Test.YtdalaiooakclmaaWN
import Derived.Test.YtdalaiooakclmaaWFootNe
import Derived.Test.YtdalaiooakclmaaWAt
import Derived.Test.YtdalaiooakclmaaWEqStruct
import Derived.Test.YtdalaiooakclmaaWRepsOne
import Derived.Test.YtdalaiooakclmaaWInv
import Derived.Test.YtdalaiooakclmaaWInvWords
import Derived.Test.YtdalaiooakclmaaWGuard
import Derived.Test.YtdalaiooakclmaaWNEv
import Derived.Test.YtdalaiooakclmaaWMore
namespace Go.Proofs.Ytdalaiooakclmaa.PFnExactHalvesOf
open Go.RowKit Go.Proofs.YtdalaiooakclmaaW.PrintWords Go.Proofs.YtdalaiooakclmaaW.PrintLast Go.Proofs.YtdalaiooakclmaaW.PrintMore
attribute [local go_sem] max2_int min2_int max_two min_two max_three min_three max_four min_four   -- for this text's walks alone
set_option linter.unusedVariables false
set_option linter.unusedSimpArgs false



def errW : Option Int → Value
  | none => .nilIface
  | some c => .iface 0 (.int .i64 c)
theorem errW_none : errW none = .nilIface := rfl
theorem errW_some (c : Int) : errW (some c) = .iface 0 (.int .i64 c) := rfl

theorem info3 : (Try.prog.info? 3).map (fun i => (i.zero, i.size, i.bytes)) = some (some (.int .i64 0), 1, 8) := by kernel_rfl
-- the values' own types

end Go.Proofs.Ytdalaiooakclmaa.PFnExactHalvesOf
