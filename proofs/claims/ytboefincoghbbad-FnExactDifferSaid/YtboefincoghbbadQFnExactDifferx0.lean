/- Plain functions with the same answers as the program's, and the proofs that they are. Printed by a program of this session (wip/myprint.py) out of Lean's print of the loaded program. Conditions: those in each theorem's head. -/
import Derived.Test.YtboefincoghbbadProg
import Derived.Below
import Derived.Deep.Draws
import Derived.Deep.AppendLies
import Derived.Maps.AppendAt
import Derived.OwnWalk
import Derived.Laws.BytesArg
import Derived.Laws.MakeOwn
import Derived.Laws.OwnMore
import Derived.Deep.OwnRows
import Derived.Tactics
import Derived.Lib.ConvBytes
import Derived.Laws.Slices
import Derived.WalkKit
import Derived.KernelRfl
import Derived.RowKit3
import Derived.Deep.LoopGhost
import Derived.Deep.QuietTactic
import Derived.BigQuiet
import Derived.WideLaws
import Derived.Deep.DeepCutAuto
import Derived.Deep.CutBlock
import Derived.Deep.RegionHeld3
import Derived.Laws.Rows
import Derived.Lib.AppendStr
import Derived.ArgAppend
import Derived.Laws.IdiomCopy
import Derived.OrdersHeld
import Derived.Laws.BitsLemmas
import Derived.RowKit
import Derived.WalkSpells
import Derived.Lib.Bytealg
import Derived.Laws.Externs
import Derived.Test.YtboefincoghbbadGiven
import Derived.Test.YtboefincoghbbadWWords
import Derived.Test.YtboefincoghbbadWLast
import Derived.Test.YtboefincoghbbadWTab
import Derived.Test.YtboefincoghbbadWFour
import Derived.Test.YtboefincoghbbadWQPut
import Derived.Test.YtboefincoghbbadWApart
import Derived.Test.YtboefincoghbbadWArr
import Derived.Test.YtboefincoghbbadWZeros
import Derived.Test.YtboefincoghbbadWFoot
import Derived.Test.YtboefincoghbbadWKept
import Derived.Test.YtboefincoghbbadWShare
import Derived.Test.YtboefincoghbbadWN
import Derived.Test.YtboefincoghbbadWFootNe
import Derived.Test.YtboefincoghbbadWAt
import Derived.Test.YtboefincoghbbadWEqStruct
import Derived.Test.YtboefincoghbbadWRepsOne
import Derived.Test.YtboefincoghbbadWInv
import Derived.Test.YtboefincoghbbadWInvWords
import Derived.Test.YtboefincoghbbadWGuard
import Derived.Test.YtboefincoghbbadWNEv
import Derived.Test.YtboefincoghbbadWMore
namespace Go.Proofs.Ytboefincoghbbad.QFnExactDiffer
open Go.RowKit Go.Proofs.Ytboefincoghbbad.Given Go.Proofs.YtboefincoghbbadW.PrintWords Go.Proofs.YtboefincoghbbadW.PrintLast Go.Proofs.YtboefincoghbbadW.PrintMore
attribute [local go_sem] max2_int min2_int max_two min_two max_three min_three max_four min_four   -- for this text's walks alone
set_option linter.unusedVariables false
set_option linter.unusedSimpArgs false



def errW : Option Int → Value
  | none => .nilIface
  | some c => .iface 0 (.int .i64 c)
theorem errW_none : errW none = .nilIface := rfl
theorem errW_some (c : Int) : errW (some c) = .iface 0 (.int .i64 c) := rfl

theorem info3 : (Try.prog.info? 3).map (fun i => (i.zero, i.size, i.bytes)) = some (some (.int .i64 0), 1, 8) := by kernel_rfl
theorem info5 : (Try.prog.info? 5).map (fun i => (i.zero, i.size, i.bytes)) = some (some (.int .u8 0), 1, 1) := by kernel_rfl
-- the values' own types

end Go.Proofs.Ytboefincoghbbad.QFnExactDiffer
