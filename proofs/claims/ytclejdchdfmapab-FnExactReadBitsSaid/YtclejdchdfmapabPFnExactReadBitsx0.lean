-- PRINTED BY print.sh 35421559b90ae4d0a3588c463048766b98c2df88dd9212a6774a882060cdf62d: not written by this session
import Derived.Test.YtclejdchdfmapabProg
import Derived.Below
import Derived.Deep.Draws
import Derived.Deep.AppendLies
import Derived.Maps.AppendAt
import Derived.OwnWalk
import Derived.Laws.BytesArg
import Derived.Laws.MakeOwn
import Derived.Laws.OwnMore
import Derived.Deep.OwnRows
import Derived.Tactics
import Derived.Lib.ConvBytes
import Derived.Laws.Slices
import Derived.WalkKit
import Derived.KernelRfl
import Derived.RowKit3
import Derived.Deep.LoopGhost
import Derived.Deep.QuietTactic
import Derived.BigQuiet
import Derived.WideLaws
import Derived.Deep.DeepCutAuto
import Derived.Deep.CutBlock
import Derived.Deep.RegionHeld3
import Derived.Laws.Rows
import Derived.Lib.AppendStr
import Derived.ArgAppend
import Derived.Laws.IdiomCopy
import Derived.OrdersHeld
import Derived.Laws.BitsLemmas
import Derived.RowKit
import Derived.Test.YtclejdchdfmapabWWords
import Derived.Test.YtclejdchdfmapabWLast
import Derived.Test.YtclejdchdfmapabWTab
import Derived.Test.YtclejdchdfmapabWFour
import Derived.Test.YtclejdchdfmapabWQPut
import Derived.Test.YtclejdchdfmapabWApart
import Derived.Test.YtclejdchdfmapabWArr
import Derived.Test.YtclejdchdfmapabWZeros
import Derived.Test.YtclejdchdfmapabWFoot
import Derived.Test.YtclejdchdfmapabWKept
import Derived.Test.YtclejdchdfmapabWShare
import Derived.Test.YtclejdchdfmapabWN
import Derived.Test.YtclejdchdfmapabWFootNe
import Derived.Test.YtclejdchdfmapabWAt
import Derived.Test.YtclejdchdfmapabWEqStruct
import Derived.Test.YtclejdchdfmapabWRepsOne
import Derived.Test.YtclejdchdfmapabWInv
import Derived.Test.YtclejdchdfmapabWInvWords
import Derived.Test.YtclejdchdfmapabWGuard
import Derived.Test.YtclejdchdfmapabWNEv
import Derived.Test.YtclejdchdfmapabWMore
namespace Go.Proofs.Ytclejdchdfmapab.PFnExactReadBits
open Go.RowKit Go.Proofs.YtclejdchdfmapabW.PrintWords Go.Proofs.YtclejdchdfmapabW.PrintLast Go.Proofs.YtclejdchdfmapabW.PrintMore
attribute [local go_sem] max2_int min2_int max_two min_two max_three min_three max_four min_four   -- for this text's walks alone
set_option linter.unusedVariables false
set_option linter.unusedSimpArgs false



def errW : Option Int → Value
  | none => .nilIface
  | some c => .iface 0 (.int .i64 c)
theorem errW_none : errW none = .nilIface := rfl
theorem errW_some (c : Int) : errW (some c) = .iface 0 (.int .i64 c) := rfl

theorem info5 : (Try.prog.info? 5).map (fun i => (i.zero, i.size, i.bytes)) = some (some (.int .u8 0), 1, 1) := by kernel_rfl
-- the values' own types

end Go.Proofs.Ytclejdchdfmapab.PFnExactReadBits
