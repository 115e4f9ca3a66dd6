/- Plain functions with the same answers as the program's, and the proofs that they are. Printed by a program of this session (wip/myprint.py) out of Lean's print of the loaded program. Conditions: those in each theorem's head. -/
import Derived.Test.YtdilibnfihcmkaaProg
import Derived.Below
import Derived.Deep.Draws
import Derived.Deep.AppendLies
import Derived.Maps.AppendAt
import Derived.OwnWalk
import Derived.Laws.BytesArg
import Derived.Laws.MakeOwn
import Derived.Laws.OwnMore
import Derived.Deep.OwnRows
import Derived.Tactics
import Derived.Lib.ConvBytes
import Derived.Laws.Slices
import Derived.WalkKit
import Derived.KernelRfl
import Derived.RowKit3
import Derived.Deep.LoopGhost
import Derived.Deep.QuietTactic
import Derived.BigQuiet
import Derived.WideLaws
import Derived.Deep.DeepCutAuto
import Derived.Deep.CutBlock
import Derived.Deep.RegionHeld3
import Derived.Laws.Rows
import Derived.Lib.AppendStr
import Derived.ArgAppend
import Derived.Laws.IdiomCopy
import Derived.OrdersHeld
import Derived.Laws.BitsLemmas
import Derived.RowKit
import Derived.WalkSpells
import Derived.Lib.Bytealg
import Derived.Laws.Externs
import Derived.Test.YtdilibnfihcmkaaGiven
import Derived.Test.YtdilibnfihcmkaaWWords
import Derived.Test.YtdilibnfihcmkaaWLast
import Derived.Test.YtdilibnfihcmkaaWTab
import Derived.Test.YtdilibnfihcmkaaWFour
import Derived.Test.YtdilibnfihcmkaaWQPut
import Derived.Test.YtdilibnfihcmkaaWApart
import Derived.Test.YtdilibnfihcmkaaWArr
import Derived.Test.YtdilibnfihcmkaaWZeros
import Derived.Test.YtdilibnfihcmkaaWFoot
import Derived.Test.YtdilibnfihcmkaaWKept
import Derived.Test.YtdilibnfihcmkaaWShare
import Derived.Test.YtdilibnfihcmkaaWN
import Derived.Test.YtdilibnfihcmkaaWFootNe
import Derived.Test.YtdilibnfihcmkaaWAt
import Derived.Test.YtdilibnfihcmkaaWEqStruct
import Derived.Test.YtdilibnfihcmkaaWRepsOne
import Derived.Test.YtdilibnfihcmkaaWInv
import Derived.Test.YtdilibnfihcmkaaWInvWords
import Derived.Test.YtdilibnfihcmkaaWGuard
import Derived.Test.YtdilibnfihcmkaaWNEv
import Derived.Test.YtdilibnfihcmkaaWMore
namespace Go.Proofs.Ytdilibnfihcmkaa.QFnWords
open Go.RowKit Go.Proofs.Ytdilibnfihcmkaa.Given Go.Proofs.YtdilibnfihcmkaaW.PrintWords Go.Proofs.YtdilibnfihcmkaaW.PrintLast Go.Proofs.YtdilibnfihcmkaaW.PrintMore
attribute [local go_sem] max2_int min2_int max_two min_two max_three min_three max_four min_four   -- for this text's walks alone
set_option linter.unusedVariables false
set_option linter.unusedSimpArgs false



def errW : Option Int → Value
  | none => .nilIface
  | some c => .iface 0 (.int .i64 c)
theorem errW_none : errW none = .nilIface := rfl
theorem errW_some (c : Int) : errW (some c) = .iface 0 (.int .i64 c) := rfl

theorem info3 : (Try.prog.info? 3).map (fun i => (i.zero, i.size, i.bytes)) = some (some (.int .i64 0), 1, 8) := by kernel_rfl
theorem info5 : (Try.prog.info? 5).map (fun i => (i.zero, i.size, i.bytes)) = some (some (.int .u8 0), 1, 1) := by kernel_rfl
-- the values' own types

end Go.Proofs.Ytdilibnfihcmkaa.QFnWords
