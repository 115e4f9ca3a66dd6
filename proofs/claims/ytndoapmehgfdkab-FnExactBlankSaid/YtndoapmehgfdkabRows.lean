/-
  No cell of these rows narrows 'for every input' (looked for: loops, veiled, ifaces, maps, wideKeys, modest, calm, conditions, laid).
  DERIVED. THE GIVEN ROWS OF THIS SEAT. 6 by the template 'for every input the law returns true; each argument reads behind the call as it read before'; 0 by the template 'total and deterministic' (their statements: YtndoapmehgfdkabTotals.lean).
  GIVEN WITH THE SEED: the statements are not yours to turn. If you find one false, say at which input.
  Laid BY PROGRAM, IN A SANDBOX (cutbox-rows.mjs): the forced cells as the released guide's own fill.sh prints them over the translation afe1ea4399ec5932… (all of the seat's roots in one cut). By AI agents, Wed Nov 11 2026. No macro, syntax, notation, axiom, sorry.
-/
import Derived.Test.YtndoapmehgfdkabChecked
import GoSem.Claim
import GoSem.ClaimJoined
import GoSem.ClaimMapViews
import Derived.JoinedTies
import Derived.KernelRfl
namespace Go.Proofs.Ytndoapmehgfdkab
/- THE CELL 'sum', in the pinned program and in every row, IS THE sha256 OF THE DUMP (.gsa) THAT YtndoapmehgfdkabProg.lean LOADS. Nothing in Lean hashes anything: it is a label: what it is worth is what the hold of that sum in a sandbox is worth. -/
noncomputable def Try.pinned : Pinned := { name := "ytndoapmehgfdkab", sum := "afe1ea4399ec5932d4cfc9680db3599962db3a81ce2db94cbd1238b97bb0327d", checked := Try.checked }
namespace Rows
def none {H : Type} : Left H := { results := [], args := [] }

/-- 'laws.FnExactNorOk': WHATEVER THE INPUT: true; the input reads as it did. -/
def fnExactNorOkSpec : ChangeSpec := { name := "fnExactNorOk", fn := fun _ => fun
  | [d] => { results := [.lit (.bool true)], args := [d] }
  | _ => none }
def fnExactNorOkRow : OpenClaim := { program := "ytndoapmehgfdkab", sum := "afe1ea4399ec5932d4cfc9680db3599962db3a81ce2db94cbd1238b97bb0327d", func := "loop.example/g00071/laws.FnExactNorOk", spec := "fnExactNorOk", unfollowed := true, recurses := true, apart := false }
def FnExactNorOkSaid : Prop := fnExactNorOkRow.holds Try.pinned (OpenSpec.ofChange fnExactNorOkSpec)

/-- ITS FALSE NEIGHBOUR: 'it returns false'. Refute it at one input. -/
def fnExactNorOkWrong : ChangeSpec := { name := "fnExactNorOk", fn := fun _ => fun
  | [d] => { results := [.lit (.bool false)], args := [d] }
  | _ => none }
def FnExactNorOkWrongFalsely : Prop := fnExactNorOkRow.holds Try.pinned (OpenSpec.ofChange fnExactNorOkWrong)

/-- 'laws.FnExactEnded': WHATEVER THE INPUT: true; the input reads as it did. -/
def fnExactEndedSpec : ChangeSpec := { name := "fnExactEnded", fn := fun _ => fun
  | [d] => { results := [.lit (.bool true)], args := [d] }
  | _ => none }
def fnExactEndedRow : OpenClaim := { program := "ytndoapmehgfdkab", sum := "afe1ea4399ec5932d4cfc9680db3599962db3a81ce2db94cbd1238b97bb0327d", func := "loop.example/g00071/laws.FnExactEnded", spec := "fnExactEnded", apart := false }
def FnExactEndedSaid : Prop := fnExactEndedRow.holds Try.pinned (OpenSpec.ofChange fnExactEndedSpec)

/-- ITS FALSE NEIGHBOUR: 'it returns false'. Refute it at one input. -/
def fnExactEndedWrong : ChangeSpec := { name := "fnExactEnded", fn := fun _ => fun
  | [d] => { results := [.lit (.bool false)], args := [d] }
  | _ => none }
def FnExactEndedWrongFalsely : Prop := fnExactEndedRow.holds Try.pinned (OpenSpec.ofChange fnExactEndedWrong)

/-- 'laws.FnExactSumOk': WHATEVER THE INPUT: true; the input reads as it did. -/
def fnExactSumOkSpec : ChangeSpec := { name := "fnExactSumOk", fn := fun _ => fun
  | [d] => { results := [.lit (.bool true)], args := [d] }
  | _ => none }
def fnExactSumOkRow : OpenClaim := { program := "ytndoapmehgfdkab", sum := "afe1ea4399ec5932d4cfc9680db3599962db3a81ce2db94cbd1238b97bb0327d", func := "loop.example/g00071/laws.FnExactSumOk", spec := "fnExactSumOk", unfollowed := true, recurses := true, apart := false }
def FnExactSumOkSaid : Prop := fnExactSumOkRow.holds Try.pinned (OpenSpec.ofChange fnExactSumOkSpec)

/-- ITS FALSE NEIGHBOUR: 'it returns false'. Refute it at one input. -/
def fnExactSumOkWrong : ChangeSpec := { name := "fnExactSumOk", fn := fun _ => fun
  | [d] => { results := [.lit (.bool false)], args := [d] }
  | _ => none }
def FnExactSumOkWrongFalsely : Prop := fnExactSumOkRow.holds Try.pinned (OpenSpec.ofChange fnExactSumOkWrong)

/-- 'laws.FnBits': WHATEVER THE INPUT: true; the input reads as it did. -/
def fnBitsSpec : ChangeSpec := { name := "fnBits", fn := fun _ => fun
  | [d] => { results := [.lit (.bool true)], args := [d] }
  | _ => none }
def fnBitsRow : OpenClaim := { program := "ytndoapmehgfdkab", sum := "afe1ea4399ec5932d4cfc9680db3599962db3a81ce2db94cbd1238b97bb0327d", func := "loop.example/g00071/laws.FnBits", spec := "fnBits", apart := false }
def FnBitsSaid : Prop := fnBitsRow.holds Try.pinned (OpenSpec.ofChange fnBitsSpec)

/-- ITS FALSE NEIGHBOUR: 'it returns false'. Refute it at one input. -/
def fnBitsWrong : ChangeSpec := { name := "fnBits", fn := fun _ => fun
  | [d] => { results := [.lit (.bool false)], args := [d] }
  | _ => none }
def FnBitsWrongFalsely : Prop := fnBitsRow.holds Try.pinned (OpenSpec.ofChange fnBitsWrong)

/-- 'laws.FnExactBlank': WHATEVER THE INPUT: true; the input reads as it did. -/
def fnExactBlankSpec : ChangeSpec := { name := "fnExactBlank", fn := fun _ => fun
  | [d1, d2] => { results := [.lit (.bool true)], args := [d1, d2] }
  | _ => none }
def fnExactBlankRow : OpenClaim := { program := "ytndoapmehgfdkab", sum := "afe1ea4399ec5932d4cfc9680db3599962db3a81ce2db94cbd1238b97bb0327d", func := "loop.example/g00071/laws.FnExactBlank", spec := "fnExactBlank", unfollowed := true, recurses := true, apart := false }
def FnExactBlankSaid : Prop := fnExactBlankRow.holds Try.pinned (OpenSpec.ofChange fnExactBlankSpec)

/-- ITS FALSE NEIGHBOUR: 'it returns false'. Refute it at one input. -/
def fnExactBlankWrong : ChangeSpec := { name := "fnExactBlank", fn := fun _ => fun
  | [d1, d2] => { results := [.lit (.bool false)], args := [d1, d2] }
  | _ => none }
def FnExactBlankWrongFalsely : Prop := fnExactBlankRow.holds Try.pinned (OpenSpec.ofChange fnExactBlankWrong)

/-- 'laws.FnExactWrite': WHATEVER THE INPUT: true; the input reads as it did. -/
def fnExactWriteSpec : ChangeSpec := { name := "fnExactWrite", fn := fun _ => fun
  | [d1, d2, d3] => { results := [.lit (.bool true)], args := [d1, d2, d3] }
  | _ => none }
def fnExactWriteRow : OpenClaim := { program := "ytndoapmehgfdkab", sum := "afe1ea4399ec5932d4cfc9680db3599962db3a81ce2db94cbd1238b97bb0327d", func := "loop.example/g00071/laws.FnExactWrite", spec := "fnExactWrite", apart := false }
def FnExactWriteSaid : Prop := fnExactWriteRow.holds Try.pinned (OpenSpec.ofChange fnExactWriteSpec)

/-- ITS FALSE NEIGHBOUR: 'it returns false'. Refute it at one input. -/
def fnExactWriteWrong : ChangeSpec := { name := "fnExactWrite", fn := fun _ => fun
  | [d1, d2, d3] => { results := [.lit (.bool false)], args := [d1, d2, d3] }
  | _ => none }
def FnExactWriteWrongFalsely : Prop := fnExactWriteRow.holds Try.pinned (OpenSpec.ofChange fnExactWriteWrong)

/- THE SECOND FORM. 'bulk': how many values and letters a reading holds, each counted each time it is reached (what is shared counts as often as it is met; a slice's spare places count too). A statement '..UptoSaid' is the law's where the arguments, and the package variables that the reading takes, are together of bulk at most 1048576: NARROWER than '..Said'. Prove '..Said' where nothing that the law and all that it calls make is longer than what came in: it says more and counts as full. Else prove '..UptoSaid'. A law counts once. -/
mutual
def uptoBulk {H : Type} : DataW H → Nat
  | .lit (.string bytes) => bytes.length + 1
  | .lit _ => 1
  | .nil => 1
  | .ptr d => uptoBulk d + 1
  | .slice elems spare => uptoBulkAll elems + uptoBulkAll spare + 1
  | .agg parts => uptoBulkAll parts + 1
  | .iface _ d => uptoBulk d + 1
  | .map entries => uptoBulkEntries entries + 1
  | .held _ => 1
def uptoBulkAll {H : Type} : List (DataW H) → Nat
  | [] => 0
  | d :: r => uptoBulk d + uptoBulkAll r
def uptoBulkEntries {H : Type} : List (Lit × DataW H) → Nat
  | [] => 0
  | x :: r => uptoBulkEntry x + uptoBulkEntries r
def uptoBulkEntry {H : Type} : Lit × DataW H → Nat
  | (.string bytes, d) => bytes.length + uptoBulk d + 1
  | (_, d) => uptoBulk d + 1
 end
def uptoSmall : (H : Type) → List (DataW H) → Bool := fun _ ds => decide (uptoBulkAll ds ≤ 1048576)
def OpenSpec.upto (s : _root_.Go.ChangeSpec) : _root_.Go.OpenSpec := { _root_.Go.OpenSpec.ofChange s with cond := some uptoSmall }

/-- 'laws.FnExactNorOk', WHERE WHAT IT READS IS OF BULK AT MOST 1048576: true; the input reads as it did. -/
def fnExactNorOkUptoRow : OpenClaim := { program := "ytndoapmehgfdkab", sum := "afe1ea4399ec5932d4cfc9680db3599962db3a81ce2db94cbd1238b97bb0327d", func := "loop.example/g00071/laws.FnExactNorOk", spec := "fnExactNorOk", unfollowed := true, recurses := true, apart := false, narrowed := true }
def FnExactNorOkUptoSaid : Prop := fnExactNorOkUptoRow.holds Try.pinned (OpenSpec.upto fnExactNorOkSpec)

/-- 'laws.FnExactEnded', WHERE WHAT IT READS IS OF BULK AT MOST 1048576: true; the input reads as it did. -/
def fnExactEndedUptoRow : OpenClaim := { program := "ytndoapmehgfdkab", sum := "afe1ea4399ec5932d4cfc9680db3599962db3a81ce2db94cbd1238b97bb0327d", func := "loop.example/g00071/laws.FnExactEnded", spec := "fnExactEnded", apart := false, narrowed := true }
def FnExactEndedUptoSaid : Prop := fnExactEndedUptoRow.holds Try.pinned (OpenSpec.upto fnExactEndedSpec)

/-- 'laws.FnExactSumOk', WHERE WHAT IT READS IS OF BULK AT MOST 1048576: true; the input reads as it did. -/
def fnExactSumOkUptoRow : OpenClaim := { program := "ytndoapmehgfdkab", sum := "afe1ea4399ec5932d4cfc9680db3599962db3a81ce2db94cbd1238b97bb0327d", func := "loop.example/g00071/laws.FnExactSumOk", spec := "fnExactSumOk", unfollowed := true, recurses := true, apart := false, narrowed := true }
def FnExactSumOkUptoSaid : Prop := fnExactSumOkUptoRow.holds Try.pinned (OpenSpec.upto fnExactSumOkSpec)

/-- 'laws.FnBits', WHERE WHAT IT READS IS OF BULK AT MOST 1048576: true; the input reads as it did. -/
def fnBitsUptoRow : OpenClaim := { program := "ytndoapmehgfdkab", sum := "afe1ea4399ec5932d4cfc9680db3599962db3a81ce2db94cbd1238b97bb0327d", func := "loop.example/g00071/laws.FnBits", spec := "fnBits", apart := false, narrowed := true }
def FnBitsUptoSaid : Prop := fnBitsUptoRow.holds Try.pinned (OpenSpec.upto fnBitsSpec)

/-- 'laws.FnExactBlank', WHERE WHAT IT READS IS OF BULK AT MOST 1048576: true; the input reads as it did. -/
def fnExactBlankUptoRow : OpenClaim := { program := "ytndoapmehgfdkab", sum := "afe1ea4399ec5932d4cfc9680db3599962db3a81ce2db94cbd1238b97bb0327d", func := "loop.example/g00071/laws.FnExactBlank", spec := "fnExactBlank", unfollowed := true, recurses := true, apart := false, narrowed := true }
def FnExactBlankUptoSaid : Prop := fnExactBlankUptoRow.holds Try.pinned (OpenSpec.upto fnExactBlankSpec)

/-- 'laws.FnExactWrite', WHERE WHAT IT READS IS OF BULK AT MOST 1048576: true; the input reads as it did. -/
def fnExactWriteUptoRow : OpenClaim := { program := "ytndoapmehgfdkab", sum := "afe1ea4399ec5932d4cfc9680db3599962db3a81ce2db94cbd1238b97bb0327d", func := "loop.example/g00071/laws.FnExactWrite", spec := "fnExactWrite", apart := false, narrowed := true }
def FnExactWriteUptoSaid : Prop := fnExactWriteUptoRow.holds Try.pinned (OpenSpec.upto fnExactWriteSpec)

end Rows
end Go.Proofs.Ytndoapmehgfdkab
