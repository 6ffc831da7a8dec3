/- What the law's functions compute, and that the calls come to just that: turned from a printed text. No condition. -/
import Derived.Test.YtnhifbopicjicaaDoorAid
import Derived.Test.YtnhifbopicjicaaDoorProg
import Derived.Below
import Derived.Deep.Draws
import Derived.Deep.AppendLies
import Derived.Maps.AppendAt
import Derived.OwnWalk
import Derived.Laws.BytesArg
import Derived.Laws.MakeOwn
import Derived.Laws.OwnMore
import Derived.Deep.OwnRows
import Derived.Tactics
import Derived.Lib.ConvBytes
import Derived.Laws.Slices
import Derived.WalkKit
import Derived.KernelRfl
import Derived.RowKit3
import Derived.Deep.LoopGhost
import Derived.Deep.QuietTactic
import Derived.BigQuiet
import Derived.WideLaws
import Derived.Deep.DeepCutAuto
import Derived.Deep.CutBlock
import Derived.Deep.RegionHeld3
import Derived.Laws.Rows
import Derived.Lib.AppendStr
import Derived.ArgAppend
import Derived.Laws.IdiomCopy
import Derived.OrdersHeld
import Derived.Laws.BitsLemmas
import Derived.RowKit
import Derived.Test.YtnhifbopicjicaaDoorTzAid
import Derived.Test.YtnhifbopicjicaaDoorExt
import Derived.Test.YtnhifbopicjicaaDoorMthPerm
import Derived.Test.YtnhifbopicjicaaDoorMth
import Derived.Test.YtnhifbopicjicaaDoorWWords
import Derived.Test.YtnhifbopicjicaaDoorWLast
import Derived.Test.YtnhifbopicjicaaDoorWTab
import Derived.Test.YtnhifbopicjicaaDoorWFour
import Derived.Test.YtnhifbopicjicaaDoorWQPut
import Derived.Test.YtnhifbopicjicaaDoorWApart
import Derived.Test.YtnhifbopicjicaaDoorWArr
import Derived.Test.YtnhifbopicjicaaDoorWZeros
import Derived.Test.YtnhifbopicjicaaDoorWFoot
import Derived.Test.YtnhifbopicjicaaDoorWKept
import Derived.Test.YtnhifbopicjicaaDoorWShare
import Derived.Test.YtnhifbopicjicaaDoorWN
import Derived.Test.YtnhifbopicjicaaDoorWFootNe
import Derived.Test.YtnhifbopicjicaaDoorWAt
import Derived.Test.YtnhifbopicjicaaDoorWEqStruct
import Derived.Test.YtnhifbopicjicaaDoorWRepsOne
import Derived.Test.YtnhifbopicjicaaDoorWInv
import Derived.Test.YtnhifbopicjicaaDoorWInvWords
import Derived.Test.YtnhifbopicjicaaDoorWGuard
import Derived.Test.YtnhifbopicjicaaDoorWNEv
import Derived.Test.YtnhifbopicjicaaDoorWMore
namespace Go.Proofs.YtnhifbopicjicaaDoor.PFnCodes
open Go.RowKit Go.Proofs.YtnhifbopicjicaaDoorW.PrintWords Go.Proofs.YtnhifbopicjicaaDoorW.PrintLast Go.Proofs.YtnhifbopicjicaaDoorW.PrintMore
attribute [local go_sem] max2_int min2_int max_two min_two max_three min_three max_four min_four   -- for this text's walks alone
set_option linter.unusedVariables false
set_option linter.unusedSimpArgs false



def errW : Option Int → Value
 | none => .nilIface
 | some c => .iface 0 (.int .i64 c)
theorem errW_none : errW none = .nilIface := rfl
theorem errW_some (c : Int) : errW (some c) = .iface 0 (.int .i64 c) := rfl

theorem info3 : (Tryd.prog.info? 3).map (fun i => (i.zero, i.size, i.bytes)) = some (some (.int .i64 0), 1, 8) := by kernel_rfl
-- the values' own types

set_option hygiene false in
macro "mq1_" : tactic => `(tactic| (first | (with_reducible first | exact HB.out | apply below_alloc | apply pw_below_drewN | apply below_drew1) | exact HB.out | exact Below.refl _ _))
set_option hygiene false in
macro "mq2_" : tactic => `(tactic| (first | (with_reducible first | exact HI0.out | apply IsS79.alloc | apply IsS79.drewN | apply IsS79.drew | apply IsS79.set_1 | apply IsS79.set_2) | exact HI0.out))
set_option hygiene false in
macro "mq3_" : tactic => `(tactic| (with_reducible repeat (first | apply Kd.R_alloc | apply Kd.R_drewN | apply Kd.R_drew)))
set_option hygiene false in
macro "mq4_" : term => `((by (try simp only [List.map_toArray, List.map_cons, List.map_nil]); first | done | rfl | (simp only [List.length_drop, List.length_take]; rfl)))
set_option hygiene false in
macro "mq5_" : tactic => `(tactic| (first | (with_reducible first | exact HB.out | apply below_alloc | apply pw_below_drewN | apply below_drew1 | refine below_set ?_ (IsS79.ge HI0.out)) | exact HB.out))
set_option hygiene false in
macro "mq6_" : tactic => `(tactic| (first | (with_reducible first | exact HK.out | apply KeepBut.set_ | apply keep_drewN | apply keep_drew | apply keep_alloc) | exact HK.out))
set_option hygiene false in
macro "mq7_" : term => `((by first | (with_reducible assumption) | assumption))
set_option hygiene false in
macro "mq8_" : tactic => `(tactic| (first | (with_reducible first | exact HI394.out | apply IsS79.alloc | apply IsS79.drewN | apply IsS79.drew | apply IsS79.set_1 | apply IsS79.set_2) | exact HI394.out))
set_option hygiene false in
macro "mq9_" : tactic => `(tactic| (first | (with_reducible first | exact HB.out | apply below_alloc | apply pw_below_drewN | apply below_drew1 | refine below_set ?_ (IsS79.ge HI394.out)) | exact HB.out))
set_option hygiene false in
macro "mq10_" : tactic => `(tactic| (case side1 => repeat (first | exact HR1.out | (with_reducible refine Kd.C_alloc ?_ _) | (with_reducible refine Kd.C_drewN ?_ _) | (with_reducible refine Kd.C_drew ?_))))
set_option hygiene false in
macro "mq11_" : tactic => `(tactic| (repeat (first | exact HTab_.out | (with_reducible refine Tab_.drewN ?_ _) | (with_reducible refine Tab_.drew ?_) | (with_reducible refine Tab_.alloc ?_ _))))
set_option hygiene false in
macro "mq12_" : tactic => `(tactic| (try first | exact ⟨rfl, _, World.drewN_drewN _ _ _⟩ | exact ⟨rfl, _, Eq.trans (World.drewN_drewN _ _ _) (congrArg (World.drewN _) (Nat.add_assoc _ _ _))⟩))
set_option hygiene false in
macro "mq13_" : tactic => `(tactic| (case side1 => repeat (first | exact (Kd.C_below HR1.out HB.out) | exact HR1.out | (with_reducible refine Kd.C_alloc ?_ _) | (with_reducible refine Kd.C_drewN ?_ _) | (with_reducible refine Kd.C_drew ?_))))

end Go.Proofs.YtnhifbopicjicaaDoor.PFnCodes
