/- Plain functions with the same answers as the program's, and the proofs that they are. Printed by a program of this session (wip/myprint.py) out of Lean's print of the loaded program. Conditions: those in each theorem's head. -/
import Derived.Test.YtndoapmehgfdkacProg
import Derived.Below
import Derived.Deep.Draws
import Derived.Deep.AppendLies
import Derived.Maps.AppendAt
import Derived.OwnWalk
import Derived.Laws.BytesArg
import Derived.Laws.MakeOwn
import Derived.Laws.OwnMore
import Derived.Deep.OwnRows
import Derived.Tactics
import Derived.Lib.ConvBytes
import Derived.Laws.Slices
import Derived.WalkKit
import Derived.KernelRfl
import Derived.RowKit3
import Derived.Deep.LoopGhost
import Derived.Deep.QuietTactic
import Derived.BigQuiet
import Derived.WideLaws
import Derived.Deep.DeepCutAuto
import Derived.Deep.CutBlock
import Derived.Deep.RegionHeld3
import Derived.Laws.Rows
import Derived.Lib.AppendStr
import Derived.ArgAppend
import Derived.Laws.IdiomCopy
import Derived.OrdersHeld
import Derived.Laws.BitsLemmas
import Derived.RowKit
import Derived.WalkSpells
import Derived.Test.YtndoapmehgfdkacGiven
import Derived.Test.YtndoapmehgfdkacWWords
import Derived.Test.YtndoapmehgfdkacWLast
import Derived.Test.YtndoapmehgfdkacWTab
import Derived.Test.YtndoapmehgfdkacWFour
import Derived.Test.YtndoapmehgfdkacWQPut
import Derived.Test.YtndoapmehgfdkacWApart
import Derived.Test.YtndoapmehgfdkacWArr
import Derived.Test.YtndoapmehgfdkacWZeros
import Derived.Test.YtndoapmehgfdkacWFoot
import Derived.Test.YtndoapmehgfdkacWKept
import Derived.Test.YtndoapmehgfdkacWShare
import Derived.Test.YtndoapmehgfdkacWN
import Derived.Test.YtndoapmehgfdkacWFootNe
import Derived.Test.YtndoapmehgfdkacWAt
import Derived.Test.YtndoapmehgfdkacWEqStruct
import Derived.Test.YtndoapmehgfdkacWRepsOne
import Derived.Test.YtndoapmehgfdkacWInv
import Derived.Test.YtndoapmehgfdkacWInvWords
import Derived.Test.YtndoapmehgfdkacWGuard
import Derived.Test.YtndoapmehgfdkacWNEv
import Derived.Test.YtndoapmehgfdkacWMore
namespace Go.Proofs.Ytndoapmehgfdkac.QFnHead
open Go.RowKit Go.Proofs.Ytndoapmehgfdkac.Given Go.Proofs.YtndoapmehgfdkacW.PrintWords Go.Proofs.YtndoapmehgfdkacW.PrintLast Go.Proofs.YtndoapmehgfdkacW.PrintMore
attribute [local go_sem] max2_int min2_int max_two min_two max_three min_three max_four min_four   -- for this text's walks alone
set_option linter.unusedVariables false
set_option linter.unusedSimpArgs false



def errW : Option Int → Value
  | none => .nilIface
  | some c => .iface 0 (.int .i64 c)
theorem errW_none : errW none = .nilIface := rfl
theorem errW_some (c : Int) : errW (some c) = .iface 0 (.int .i64 c) := rfl

theorem info3 : (Try.prog.info? 3).map (fun i => (i.zero, i.size, i.bytes)) = some (some (.int .i64 0), 1, 8) := by kernel_rfl
theorem info5 : (Try.prog.info? 5).map (fun i => (i.zero, i.size, i.bytes)) = some (some (.int .u8 0), 1, 1) := by kernel_rfl
-- the values' own types

end Go.Proofs.Ytndoapmehgfdkac.QFnHead
