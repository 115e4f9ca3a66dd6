/-
  No cell of these rows narrows 'for every input' (looked for: loops, veiled, ifaces, maps, wideKeys, modest, calm, conditions, laid).
  DERIVED. THE GIVEN ROWS OF THIS SEAT. 6 by the template 'for every input the law returns true; each argument reads behind the call as it read before'; 0 by the template 'total and deterministic' (their statements: YtclejdchdfmapaaTotals.lean).
  GIVEN WITH THE SEED: the statements are not yours to turn. If you find one false, say at which input.
  Laid BY PROGRAM, IN A SANDBOX (cutbox-rows.mjs): the forced cells as the released guide's own fill.sh prints them over the translation 977229f71835a992… (all of the seat's roots in one cut). By AI agents, Wed Nov 11 2026. No macro, syntax, notation, axiom, sorry.
-/
import Derived.Test.YtclejdchdfmapaaChecked
import GoSem.Claim
import GoSem.ClaimJoined
import GoSem.ClaimMapViews
import Derived.JoinedTies
import Derived.KernelRfl
namespace Go.Proofs.Ytclejdchdfmapaa
/- THE CELL 'sum', in the pinned program and in every row, IS THE sha256 OF THE DUMP (.gsa) THAT YtclejdchdfmapaaProg.lean LOADS. Nothing in Lean hashes anything: it is a label: what it is worth is what the hold of that sum in a sandbox is worth. -/
noncomputable def Try.pinned : Pinned := { name := "ytclejdchdfmapaa", sum := "977229f71835a9927e16e151df52f95d5e98398be635c6063864534b0dc82d53", checked := Try.checked }
namespace Rows
def none {H : Type} : Left H := { results := [], args := [] }

/-- 'laws.FnExactSame': WHATEVER THE INPUT: true; the input reads as it did. -/
def fnExactSameSpec : ChangeSpec := { name := "fnExactSame", fn := fun _ => fun
  | [d1, d2] => { results := [.lit (.bool true)], args := [d1, d2] }
  | _ => none }
def fnExactSameRow : OpenClaim := { program := "ytclejdchdfmapaa", sum := "977229f71835a9927e16e151df52f95d5e98398be635c6063864534b0dc82d53", func := "loop.example/g00071/laws.FnExactSame", spec := "fnExactSame", apart := false }
def FnExactSameSaid : Prop := fnExactSameRow.holds Try.pinned (OpenSpec.ofChange fnExactSameSpec)

/-- ITS FALSE NEIGHBOUR: 'it returns false'. Refute it at one input. -/
def fnExactSameWrong : ChangeSpec := { name := "fnExactSame", fn := fun _ => fun
  | [d1, d2] => { results := [.lit (.bool false)], args := [d1, d2] }
  | _ => none }
def FnExactSameWrongFalsely : Prop := fnExactSameRow.holds Try.pinned (OpenSpec.ofChange fnExactSameWrong)

/-- 'laws.FnExactBestLens': WHATEVER THE INPUT: true; the input reads as it did. -/
def fnExactBestLensSpec : ChangeSpec := { name := "fnExactBestLens", fn := fun _ => fun
  | [d1, d2] => { results := [.lit (.bool true)], args := [d1, d2] }
  | _ => none }
def fnExactBestLensRow : OpenClaim := { program := "ytclejdchdfmapaa", sum := "977229f71835a9927e16e151df52f95d5e98398be635c6063864534b0dc82d53", func := "loop.example/g00071/laws.FnExactBestLens", spec := "fnExactBestLens", unfollowed := true, recurses := true, apart := false }
def FnExactBestLensSaid : Prop := fnExactBestLensRow.holds Try.pinned (OpenSpec.ofChange fnExactBestLensSpec)

/-- ITS FALSE NEIGHBOUR: 'it returns false'. Refute it at one input. -/
def fnExactBestLensWrong : ChangeSpec := { name := "fnExactBestLens", fn := fun _ => fun
  | [d1, d2] => { results := [.lit (.bool false)], args := [d1, d2] }
  | _ => none }
def FnExactBestLensWrongFalsely : Prop := fnExactBestLensRow.holds Try.pinned (OpenSpec.ofChange fnExactBestLensWrong)

/-- 'laws.FnExactStepOk': WHATEVER THE INPUT: true; the input reads as it did. -/
def fnExactStepOkSpec : ChangeSpec := { name := "fnExactStepOk", fn := fun _ => fun
  | [d] => { results := [.lit (.bool true)], args := [d] }
  | _ => none }
def fnExactStepOkRow : OpenClaim := { program := "ytclejdchdfmapaa", sum := "977229f71835a9927e16e151df52f95d5e98398be635c6063864534b0dc82d53", func := "loop.example/g00071/laws.FnExactStepOk", spec := "fnExactStepOk", apart := false }
def FnExactStepOkSaid : Prop := fnExactStepOkRow.holds Try.pinned (OpenSpec.ofChange fnExactStepOkSpec)

/-- ITS FALSE NEIGHBOUR: 'it returns false'. Refute it at one input. -/
def fnExactStepOkWrong : ChangeSpec := { name := "fnExactStepOk", fn := fun _ => fun
  | [d] => { results := [.lit (.bool false)], args := [d] }
  | _ => none }
def FnExactStepOkWrongFalsely : Prop := fnExactStepOkRow.holds Try.pinned (OpenSpec.ofChange fnExactStepOkWrong)

/-- 'laws.FnExactPutWord': WHATEVER THE INPUT: true; the input reads as it did. -/
def fnExactPutWordSpec : ChangeSpec := { name := "fnExactPutWord", fn := fun _ => fun
  | [d] => { results := [.lit (.bool true)], args := [d] }
  | _ => none }
def fnExactPutWordRow : OpenClaim := { program := "ytclejdchdfmapaa", sum := "977229f71835a9927e16e151df52f95d5e98398be635c6063864534b0dc82d53", func := "loop.example/g00071/laws.FnExactPutWord", spec := "fnExactPutWord", apart := false }
def FnExactPutWordSaid : Prop := fnExactPutWordRow.holds Try.pinned (OpenSpec.ofChange fnExactPutWordSpec)

/-- ITS FALSE NEIGHBOUR: 'it returns false'. Refute it at one input. -/
def fnExactPutWordWrong : ChangeSpec := { name := "fnExactPutWord", fn := fun _ => fun
  | [d] => { results := [.lit (.bool false)], args := [d] }
  | _ => none }
def FnExactPutWordWrongFalsely : Prop := fnExactPutWordRow.holds Try.pinned (OpenSpec.ofChange fnExactPutWordWrong)

/-- 'laws.FnExactHex': WHATEVER THE INPUT: true; the input reads as it did. -/
def fnExactHexSpec : ChangeSpec := { name := "fnExactHex", fn := fun _ => fun
  | [d] => { results := [.lit (.bool true)], args := [d] }
  | _ => none }
def fnExactHexRow : OpenClaim := { program := "ytclejdchdfmapaa", sum := "977229f71835a9927e16e151df52f95d5e98398be635c6063864534b0dc82d53", func := "loop.example/g00071/laws.FnExactHex", spec := "fnExactHex", apart := false }
def FnExactHexSaid : Prop := fnExactHexRow.holds Try.pinned (OpenSpec.ofChange fnExactHexSpec)

/-- ITS FALSE NEIGHBOUR: 'it returns false'. Refute it at one input. -/
def fnExactHexWrong : ChangeSpec := { name := "fnExactHex", fn := fun _ => fun
  | [d] => { results := [.lit (.bool false)], args := [d] }
  | _ => none }
def FnExactHexWrongFalsely : Prop := fnExactHexRow.holds Try.pinned (OpenSpec.ofChange fnExactHexWrong)

/-- 'laws.FnExactPull': WHATEVER THE INPUT: true; the input reads as it did. -/
def fnExactPullSpec : ChangeSpec := { name := "fnExactPull", fn := fun _ => fun
  | [d1, d2] => { results := [.lit (.bool true)], args := [d1, d2] }
  | _ => none }
def fnExactPullRow : OpenClaim := { program := "ytclejdchdfmapaa", sum := "977229f71835a9927e16e151df52f95d5e98398be635c6063864534b0dc82d53", func := "loop.example/g00071/laws.FnExactPull", spec := "fnExactPull", apart := false }
def FnExactPullSaid : Prop := fnExactPullRow.holds Try.pinned (OpenSpec.ofChange fnExactPullSpec)

/-- ITS FALSE NEIGHBOUR: 'it returns false'. Refute it at one input. -/
def fnExactPullWrong : ChangeSpec := { name := "fnExactPull", fn := fun _ => fun
  | [d1, d2] => { results := [.lit (.bool false)], args := [d1, d2] }
  | _ => none }
def FnExactPullWrongFalsely : Prop := fnExactPullRow.holds Try.pinned (OpenSpec.ofChange fnExactPullWrong)

/- THE SECOND FORM. 'bulk': how many values and letters a reading holds, each counted each time it is reached (what is shared counts as often as it is met; a slice's spare places count too). A statement '..UptoSaid' is the law's where the arguments, and the package variables that the reading takes, are together of bulk at most 1048576: NARROWER than '..Said'. Prove '..Said' where nothing that the law and all that it calls make is longer than what came in: it says more and counts as full. Else prove '..UptoSaid'. A law counts once. -/
mutual
def uptoBulk {H : Type} : DataW H → Nat
  | .lit (.string bytes) => bytes.length + 1
  | .lit _ => 1
  | .nil => 1
  | .ptr d => uptoBulk d + 1
  | .slice elems spare => uptoBulkAll elems + uptoBulkAll spare + 1
  | .agg parts => uptoBulkAll parts + 1
  | .iface _ d => uptoBulk d + 1
  | .map entries => uptoBulkEntries entries + 1
  | .held _ => 1
def uptoBulkAll {H : Type} : List (DataW H) → Nat
  | [] => 0
  | d :: r => uptoBulk d + uptoBulkAll r
def uptoBulkEntries {H : Type} : List (Lit × DataW H) → Nat
  | [] => 0
  | x :: r => uptoBulkEntry x + uptoBulkEntries r
def uptoBulkEntry {H : Type} : Lit × DataW H → Nat
  | (.string bytes, d) => bytes.length + uptoBulk d + 1
  | (_, d) => uptoBulk d + 1
 end
def uptoSmall : (H : Type) → List (DataW H) → Bool := fun _ ds => decide (uptoBulkAll ds ≤ 1048576)
def OpenSpec.upto (s : _root_.Go.ChangeSpec) : _root_.Go.OpenSpec := { _root_.Go.OpenSpec.ofChange s with cond := some uptoSmall }

/-- 'laws.FnExactSame', WHERE WHAT IT READS IS OF BULK AT MOST 1048576: true; the input reads as it did. -/
def fnExactSameUptoRow : OpenClaim := { program := "ytclejdchdfmapaa", sum := "977229f71835a9927e16e151df52f95d5e98398be635c6063864534b0dc82d53", func := "loop.example/g00071/laws.FnExactSame", spec := "fnExactSame", apart := false, narrowed := true }
def FnExactSameUptoSaid : Prop := fnExactSameUptoRow.holds Try.pinned (OpenSpec.upto fnExactSameSpec)

/-- 'laws.FnExactBestLens', WHERE WHAT IT READS IS OF BULK AT MOST 1048576: true; the input reads as it did. -/
def fnExactBestLensUptoRow : OpenClaim := { program := "ytclejdchdfmapaa", sum := "977229f71835a9927e16e151df52f95d5e98398be635c6063864534b0dc82d53", func := "loop.example/g00071/laws.FnExactBestLens", spec := "fnExactBestLens", unfollowed := true, recurses := true, apart := false, narrowed := true }
def FnExactBestLensUptoSaid : Prop := fnExactBestLensUptoRow.holds Try.pinned (OpenSpec.upto fnExactBestLensSpec)

/-- 'laws.FnExactStepOk', WHERE WHAT IT READS IS OF BULK AT MOST 1048576: true; the input reads as it did. -/
def fnExactStepOkUptoRow : OpenClaim := { program := "ytclejdchdfmapaa", sum := "977229f71835a9927e16e151df52f95d5e98398be635c6063864534b0dc82d53", func := "loop.example/g00071/laws.FnExactStepOk", spec := "fnExactStepOk", apart := false, narrowed := true }
def FnExactStepOkUptoSaid : Prop := fnExactStepOkUptoRow.holds Try.pinned (OpenSpec.upto fnExactStepOkSpec)

/-- 'laws.FnExactPutWord', WHERE WHAT IT READS IS OF BULK AT MOST 1048576: true; the input reads as it did. -/
def fnExactPutWordUptoRow : OpenClaim := { program := "ytclejdchdfmapaa", sum := "977229f71835a9927e16e151df52f95d5e98398be635c6063864534b0dc82d53", func := "loop.example/g00071/laws.FnExactPutWord", spec := "fnExactPutWord", apart := false, narrowed := true }
def FnExactPutWordUptoSaid : Prop := fnExactPutWordUptoRow.holds Try.pinned (OpenSpec.upto fnExactPutWordSpec)

/-- 'laws.FnExactHex', WHERE WHAT IT READS IS OF BULK AT MOST 1048576: true; the input reads as it did. -/
def fnExactHexUptoRow : OpenClaim := { program := "ytclejdchdfmapaa", sum := "977229f71835a9927e16e151df52f95d5e98398be635c6063864534b0dc82d53", func := "loop.example/g00071/laws.FnExactHex", spec := "fnExactHex", apart := false, narrowed := true }
def FnExactHexUptoSaid : Prop := fnExactHexUptoRow.holds Try.pinned (OpenSpec.upto fnExactHexSpec)

/-- 'laws.FnExactPull', WHERE WHAT IT READS IS OF BULK AT MOST 1048576: true; the input reads as it did. -/
def fnExactPullUptoRow : OpenClaim := { program := "ytclejdchdfmapaa", sum := "977229f71835a9927e16e151df52f95d5e98398be635c6063864534b0dc82d53", func := "loop.example/g00071/laws.FnExactPull", spec := "fnExactPull", apart := false, narrowed := true }
def FnExactPullUptoSaid : Prop := fnExactPullUptoRow.holds Try.pinned (OpenSpec.upto fnExactPullSpec)

end Rows
end Go.Proofs.Ytclejdchdfmapaa
