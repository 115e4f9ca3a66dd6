/- Plain functions with the same answers as the program's, and the proofs that they are. Printed by a program of this session (wip/myprint.py) out of Lean's print of the loaded program. Conditions: those in each theorem's head. -/
import Derived.Test.YtpkfmjdmfphbaagProg
import Derived.Below
import Derived.Deep.Draws
import Derived.Deep.AppendLies
import Derived.Maps.AppendAt
import Derived.OwnWalk
import Derived.Laws.BytesArg
import Derived.Laws.MakeOwn
import Derived.Laws.OwnMore
import Derived.Deep.OwnRows
import Derived.Tactics
import Derived.Lib.ConvBytes
import Derived.Laws.Slices
import Derived.WalkKit
import Derived.KernelRfl
import Derived.RowKit3
import Derived.Deep.LoopGhost
import Derived.Deep.QuietTactic
import Derived.BigQuiet
import Derived.WideLaws
import Derived.Deep.DeepCutAuto
import Derived.Deep.CutBlock
import Derived.Deep.RegionHeld3
import Derived.Laws.Rows
import Derived.Lib.AppendStr
import Derived.ArgAppend
import Derived.Laws.IdiomCopy
import Derived.OrdersHeld
import Derived.Laws.BitsLemmas
import Derived.RowKit
import Derived.WalkSpells
import Derived.Lib.Bytealg
import Derived.Laws.Externs
import Derived.Test.YtpkfmjdmfphbaagGiven
import Derived.Test.YtpkfmjdmfphbaagWWords
import Derived.Test.YtpkfmjdmfphbaagWLast
import Derived.Test.YtpkfmjdmfphbaagWTab
import Derived.Test.YtpkfmjdmfphbaagWFour
import Derived.Test.YtpkfmjdmfphbaagWQPut
import Derived.Test.YtpkfmjdmfphbaagWApart
import Derived.Test.YtpkfmjdmfphbaagWArr
import Derived.Test.YtpkfmjdmfphbaagWZeros
import Derived.Test.YtpkfmjdmfphbaagWFoot
import Derived.Test.YtpkfmjdmfphbaagWKept
import Derived.Test.YtpkfmjdmfphbaagWShare
import Derived.Test.YtpkfmjdmfphbaagWN
import Derived.Test.YtpkfmjdmfphbaagWFootNe
import Derived.Test.YtpkfmjdmfphbaagWAt
import Derived.Test.YtpkfmjdmfphbaagWEqStruct
import Derived.Test.YtpkfmjdmfphbaagWRepsOne
import Derived.Test.YtpkfmjdmfphbaagWInv
import Derived.Test.YtpkfmjdmfphbaagWInvWords
import Derived.Test.YtpkfmjdmfphbaagWGuard
import Derived.Test.YtpkfmjdmfphbaagWNEv
import Derived.Test.YtpkfmjdmfphbaagWMore
namespace Go.Proofs.Ytpkfmjdmfphbaag.QFnExactMac
open Go.RowKit Go.Proofs.Ytpkfmjdmfphbaag.Given Go.Proofs.YtpkfmjdmfphbaagW.PrintWords Go.Proofs.YtpkfmjdmfphbaagW.PrintLast Go.Proofs.YtpkfmjdmfphbaagW.PrintMore
attribute [local go_sem] max2_int min2_int max_two min_two max_three min_three max_four min_four   -- for this text's walks alone
set_option linter.unusedVariables false
set_option linter.unusedSimpArgs false



def errW : Option Int → Value
  | none=>.nilIface
  | some c=>.iface 0 (.int .i64 c)
theorem errW_none : errW none = .nilIface := rfl
theorem errW_some (c : Int) : errW (some c) = .iface 0 (.int .i64 c) := rfl

theorem info3 : (Try.prog.info? 3).map (fun i => (i.zero, i.size, i.bytes)) = some (some (.int .i64 0), 1, 8) := by kernel_rfl
theorem info5 : (Try.prog.info? 5).map (fun i => (i.zero, i.size, i.bytes)) = some (some (.int .u8 0), 1, 1) := by kernel_rfl
theorem info46 : (Try.prog.info? 46).map (fun i => (i.zero, i.size, i.bytes)) = some (some (.int .u32 0), 1, 4) := by kernel_rfl
-- the values' own types

end Go.Proofs.Ytpkfmjdmfphbaag.QFnExactMac
