/-
  No cell of these rows narrows 'for every input' (looked for: loops, veiled, ifaces, maps, wideKeys, modest, calm, conditions, laid).
  DERIVED. THE GIVEN ROWS OF THIS SEAT. 6 by the template 'for every input the law returns true; each argument reads behind the call as it read before'; 0 by the template 'total and deterministic' (their statements: YtndoapmehgfdkaaTotals.lean).
  GIVEN WITH THE SEED: the statements are not yours to turn. If you find one false, say at which input.
  Laid BY PROGRAM, IN A SANDBOX (cutbox-rows.mjs): the forced cells as the released guide's own fill.sh prints them over the translation a14124b044389899… (all of the seat's roots in one cut). By AI agents, Wed Nov 11 2026. No macro, syntax, notation, axiom, sorry.
-/
import Derived.Test.YtndoapmehgfdkaaChecked
import GoSem.Claim
import GoSem.ClaimJoined
import GoSem.ClaimMapViews
import Derived.JoinedTies
import Derived.KernelRfl
namespace Go.Proofs.Ytndoapmehgfdkaa
/- THE CELL 'sum', in the pinned program and in every row, IS THE sha256 OF THE DUMP (.gsa) THAT YtndoapmehgfdkaaProg.lean LOADS. Nothing in Lean hashes anything: it is a label: what it is worth is what the hold of that sum in a sandbox is worth. -/
noncomputable def Try.pinned : Pinned := { name := "ytndoapmehgfdkaa", sum := "a14124b044389899159e62a9f5c14e2a69defc20f92ae7d4f69958b727d4d15c", checked := Try.checked }
namespace Rows
def none {H : Type} : Left H := { results := [], args := [] }

/-- 'laws.FnExactPenOk': WHATEVER THE INPUT: true; the input reads as it did. -/
def fnExactPenOkSpec : ChangeSpec := { name := "fnExactPenOk", fn := fun _ => fun
  | [d] => { results := [.lit (.bool true)], args := [d] }
  | _ => none }
def fnExactPenOkRow : OpenClaim := { program := "ytndoapmehgfdkaa", sum := "a14124b044389899159e62a9f5c14e2a69defc20f92ae7d4f69958b727d4d15c", func := "loop.example/g00071/laws.FnExactPenOk", spec := "fnExactPenOk", apart := false }
def FnExactPenOkSaid : Prop := fnExactPenOkRow.holds Try.pinned (OpenSpec.ofChange fnExactPenOkSpec)

/-- ITS FALSE NEIGHBOUR: 'it returns false'. Refute it at one input. -/
def fnExactPenOkWrong : ChangeSpec := { name := "fnExactPenOk", fn := fun _ => fun
  | [d] => { results := [.lit (.bool false)], args := [d] }
  | _ => none }
def FnExactPenOkWrongFalsely : Prop := fnExactPenOkRow.holds Try.pinned (OpenSpec.ofChange fnExactPenOkWrong)

/-- 'laws.FnExactUnhex': WHATEVER THE INPUT: true; the input reads as it did. -/
def fnExactUnhexSpec : ChangeSpec := { name := "fnExactUnhex", fn := fun _ => fun
  | [d] => { results := [.lit (.bool true)], args := [d] }
  | _ => none }
def fnExactUnhexRow : OpenClaim := { program := "ytndoapmehgfdkaa", sum := "a14124b044389899159e62a9f5c14e2a69defc20f92ae7d4f69958b727d4d15c", func := "loop.example/g00071/laws.FnExactUnhex", spec := "fnExactUnhex", inPlace := ["internal/bytealg.IndexByteString"], apart := false }
def FnExactUnhexSaid : Prop := fnExactUnhexRow.holds Try.pinned (OpenSpec.ofChange fnExactUnhexSpec)

/-- ITS FALSE NEIGHBOUR: 'it returns false'. Refute it at one input. -/
def fnExactUnhexWrong : ChangeSpec := { name := "fnExactUnhex", fn := fun _ => fun
  | [d] => { results := [.lit (.bool false)], args := [d] }
  | _ => none }
def FnExactUnhexWrongFalsely : Prop := fnExactUnhexRow.holds Try.pinned (OpenSpec.ofChange fnExactUnhexWrong)

/-- 'laws.FnExactVar': WHATEVER THE INPUT: true; the input reads as it did. -/
def fnExactVarSpec : ChangeSpec := { name := "fnExactVar", fn := fun _ => fun
  | [d1, d2] => { results := [.lit (.bool true)], args := [d1, d2] }
  | _ => none }
def fnExactVarRow : OpenClaim := { program := "ytndoapmehgfdkaa", sum := "a14124b044389899159e62a9f5c14e2a69defc20f92ae7d4f69958b727d4d15c", func := "loop.example/g00071/laws.FnExactVar", spec := "fnExactVar", recurses := true, apart := false }
def FnExactVarSaid : Prop := fnExactVarRow.holds Try.pinned (OpenSpec.ofChange fnExactVarSpec)

/-- ITS FALSE NEIGHBOUR: 'it returns false'. Refute it at one input. -/
def fnExactVarWrong : ChangeSpec := { name := "fnExactVar", fn := fun _ => fun
  | [d1, d2] => { results := [.lit (.bool false)], args := [d1, d2] }
  | _ => none }
def FnExactVarWrongFalsely : Prop := fnExactVarRow.holds Try.pinned (OpenSpec.ofChange fnExactVarWrong)

/-- 'laws.FnExactSumNew': WHATEVER THE INPUT: true; the input reads as it did. -/
def fnExactSumNewSpec : ChangeSpec := { name := "fnExactSumNew", fn := fun _ => fun
  | [] => { results := [.lit (.bool true)], args := [] }
  | _ => none }
def fnExactSumNewRow : OpenClaim := { program := "ytndoapmehgfdkaa", sum := "a14124b044389899159e62a9f5c14e2a69defc20f92ae7d4f69958b727d4d15c", func := "loop.example/g00071/laws.FnExactSumNew", spec := "fnExactSumNew", apart := false }
def FnExactSumNewSaid : Prop := fnExactSumNewRow.holds Try.pinned (OpenSpec.ofChange fnExactSumNewSpec)

/-- ITS FALSE NEIGHBOUR: 'it returns false'. Refute it at one input. -/
def fnExactSumNewWrong : ChangeSpec := { name := "fnExactSumNew", fn := fun _ => fun
  | [] => { results := [.lit (.bool false)], args := [] }
  | _ => none }
def FnExactSumNewWrongFalsely : Prop := fnExactSumNewRow.holds Try.pinned (OpenSpec.ofChange fnExactSumNewWrong)

/-- 'laws.FnExactFixedLens': WHATEVER THE INPUT: true; the input reads as it did. -/
def fnExactFixedLensSpec : ChangeSpec := { name := "fnExactFixedLens", fn := fun _ => fun
  | [] => { results := [.lit (.bool true)], args := [] }
  | _ => none }
def fnExactFixedLensRow : OpenClaim := { program := "ytndoapmehgfdkaa", sum := "a14124b044389899159e62a9f5c14e2a69defc20f92ae7d4f69958b727d4d15c", func := "loop.example/g00071/laws.FnExactFixedLens", spec := "fnExactFixedLens", apart := false }
def FnExactFixedLensSaid : Prop := fnExactFixedLensRow.holds Try.pinned (OpenSpec.ofChange fnExactFixedLensSpec)

/-- ITS FALSE NEIGHBOUR: 'it returns false'. Refute it at one input. -/
def fnExactFixedLensWrong : ChangeSpec := { name := "fnExactFixedLens", fn := fun _ => fun
  | [] => { results := [.lit (.bool false)], args := [] }
  | _ => none }
def FnExactFixedLensWrongFalsely : Prop := fnExactFixedLensRow.holds Try.pinned (OpenSpec.ofChange fnExactFixedLensWrong)

/-- 'laws.FnExactLensCode': WHATEVER THE INPUT: true; the input reads as it did. -/
def fnExactLensCodeSpec : ChangeSpec := { name := "fnExactLensCode", fn := fun _ => fun
  | [d] => { results := [.lit (.bool true)], args := [d] }
  | _ => none }
def fnExactLensCodeRow : OpenClaim := { program := "ytndoapmehgfdkaa", sum := "a14124b044389899159e62a9f5c14e2a69defc20f92ae7d4f69958b727d4d15c", func := "loop.example/g00071/laws.FnExactLensCode", spec := "fnExactLensCode", unfollowed := true, recurses := true, apart := false }
def FnExactLensCodeSaid : Prop := fnExactLensCodeRow.holds Try.pinned (OpenSpec.ofChange fnExactLensCodeSpec)

/-- ITS FALSE NEIGHBOUR: 'it returns false'. Refute it at one input. -/
def fnExactLensCodeWrong : ChangeSpec := { name := "fnExactLensCode", fn := fun _ => fun
  | [d] => { results := [.lit (.bool false)], args := [d] }
  | _ => none }
def FnExactLensCodeWrongFalsely : Prop := fnExactLensCodeRow.holds Try.pinned (OpenSpec.ofChange fnExactLensCodeWrong)

/- THE SECOND FORM. 'bulk': how many values and letters a reading holds, each counted each time it is reached (what is shared counts as often as it is met; a slice's spare places count too). A statement '..UptoSaid' is the law's where the arguments, and the package variables that the reading takes, are together of bulk at most 1048576: NARROWER than '..Said'. Prove '..Said' where nothing that the law and all that it calls make is longer than what came in: it says more and counts as full. Else prove '..UptoSaid'. A law counts once. -/
mutual
def uptoBulk {H : Type} : DataW H → Nat
  | .lit (.string bytes) => bytes.length + 1
  | .lit _ => 1
  | .nil => 1
  | .ptr d => uptoBulk d + 1
  | .slice elems spare => uptoBulkAll elems + uptoBulkAll spare + 1
  | .agg parts => uptoBulkAll parts + 1
  | .iface _ d => uptoBulk d + 1
  | .map entries => uptoBulkEntries entries + 1
  | .held _ => 1
def uptoBulkAll {H : Type} : List (DataW H) → Nat
  | [] => 0
  | d :: r => uptoBulk d + uptoBulkAll r
def uptoBulkEntries {H : Type} : List (Lit × DataW H) → Nat
  | [] => 0
  | x :: r => uptoBulkEntry x + uptoBulkEntries r
def uptoBulkEntry {H : Type} : Lit × DataW H → Nat
  | (.string bytes, d) => bytes.length + uptoBulk d + 1
  | (_, d) => uptoBulk d + 1
 end
def uptoSmall : (H : Type) → List (DataW H) → Bool := fun _ ds => decide (uptoBulkAll ds ≤ 1048576)
def OpenSpec.upto (s : _root_.Go.ChangeSpec) : _root_.Go.OpenSpec := { _root_.Go.OpenSpec.ofChange s with cond := some uptoSmall }

/-- 'laws.FnExactPenOk', WHERE WHAT IT READS IS OF BULK AT MOST 1048576: true; the input reads as it did. -/
def fnExactPenOkUptoRow : OpenClaim := { program := "ytndoapmehgfdkaa", sum := "a14124b044389899159e62a9f5c14e2a69defc20f92ae7d4f69958b727d4d15c", func := "loop.example/g00071/laws.FnExactPenOk", spec := "fnExactPenOk", apart := false, narrowed := true }
def FnExactPenOkUptoSaid : Prop := fnExactPenOkUptoRow.holds Try.pinned (OpenSpec.upto fnExactPenOkSpec)

/-- 'laws.FnExactUnhex', WHERE WHAT IT READS IS OF BULK AT MOST 1048576: true; the input reads as it did. -/
def fnExactUnhexUptoRow : OpenClaim := { program := "ytndoapmehgfdkaa", sum := "a14124b044389899159e62a9f5c14e2a69defc20f92ae7d4f69958b727d4d15c", func := "loop.example/g00071/laws.FnExactUnhex", spec := "fnExactUnhex", inPlace := ["internal/bytealg.IndexByteString"], apart := false, narrowed := true }
def FnExactUnhexUptoSaid : Prop := fnExactUnhexUptoRow.holds Try.pinned (OpenSpec.upto fnExactUnhexSpec)

/-- 'laws.FnExactVar', WHERE WHAT IT READS IS OF BULK AT MOST 1048576: true; the input reads as it did. -/
def fnExactVarUptoRow : OpenClaim := { program := "ytndoapmehgfdkaa", sum := "a14124b044389899159e62a9f5c14e2a69defc20f92ae7d4f69958b727d4d15c", func := "loop.example/g00071/laws.FnExactVar", spec := "fnExactVar", recurses := true, apart := false, narrowed := true }
def FnExactVarUptoSaid : Prop := fnExactVarUptoRow.holds Try.pinned (OpenSpec.upto fnExactVarSpec)

/-- 'laws.FnExactSumNew', WHERE WHAT IT READS IS OF BULK AT MOST 1048576: true; the input reads as it did. -/
def fnExactSumNewUptoRow : OpenClaim := { program := "ytndoapmehgfdkaa", sum := "a14124b044389899159e62a9f5c14e2a69defc20f92ae7d4f69958b727d4d15c", func := "loop.example/g00071/laws.FnExactSumNew", spec := "fnExactSumNew", apart := false, narrowed := true }
def FnExactSumNewUptoSaid : Prop := fnExactSumNewUptoRow.holds Try.pinned (OpenSpec.upto fnExactSumNewSpec)

/-- 'laws.FnExactFixedLens', WHERE WHAT IT READS IS OF BULK AT MOST 1048576: true; the input reads as it did. -/
def fnExactFixedLensUptoRow : OpenClaim := { program := "ytndoapmehgfdkaa", sum := "a14124b044389899159e62a9f5c14e2a69defc20f92ae7d4f69958b727d4d15c", func := "loop.example/g00071/laws.FnExactFixedLens", spec := "fnExactFixedLens", apart := false, narrowed := true }
def FnExactFixedLensUptoSaid : Prop := fnExactFixedLensUptoRow.holds Try.pinned (OpenSpec.upto fnExactFixedLensSpec)

/-- 'laws.FnExactLensCode', WHERE WHAT IT READS IS OF BULK AT MOST 1048576: true; the input reads as it did. -/
def fnExactLensCodeUptoRow : OpenClaim := { program := "ytndoapmehgfdkaa", sum := "a14124b044389899159e62a9f5c14e2a69defc20f92ae7d4f69958b727d4d15c", func := "loop.example/g00071/laws.FnExactLensCode", spec := "fnExactLensCode", unfollowed := true, recurses := true, apart := false, narrowed := true }
def FnExactLensCodeUptoSaid : Prop := fnExactLensCodeUptoRow.holds Try.pinned (OpenSpec.upto fnExactLensCodeSpec)

end Rows
end Go.Proofs.Ytndoapmehgfdkaa
