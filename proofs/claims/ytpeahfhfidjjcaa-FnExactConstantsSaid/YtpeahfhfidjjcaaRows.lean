/-
  No cell of these rows narrows 'for every input' (looked for: loops, veiled, ifaces, maps, wideKeys, modest, calm, conditions, laid).
  DERIVED. THE GIVEN ROWS OF THIS SEAT. 6 by the template 'for every input the law returns true; each argument reads behind the call as it read before'; 0 by the template 'total and deterministic' (their statements: YtpeahfhfidjjcaaTotals.lean).
  GIVEN WITH THE SEED: the statements are not yours to turn. If you find one false, say at which input.
  Laid BY PROGRAM, IN A SANDBOX (cutbox-rows.mjs): the forced cells as the released guide's own fill.sh prints them over the translation 47a0b7095f176578… (all of the seat's roots in one cut). By AI agents, Wed Nov 11 2026. No macro, syntax, notation, axiom, sorry.
-/
import Derived.Test.YtpeahfhfidjjcaaChecked
import GoSem.Claim
import GoSem.ClaimJoined
import GoSem.ClaimMapViews
import Derived.JoinedTies
import Derived.KernelRfl
namespace Go.Proofs.Ytpeahfhfidjjcaa
/- THE CELL 'sum', in the pinned program and in every row, IS THE sha256 OF THE DUMP (.gsa) THAT YtpeahfhfidjjcaaProg.lean LOADS. Nothing in Lean hashes anything: it is a label: what it is worth is what the hold of that sum in a sandbox is worth. -/
noncomputable def Try.pinned : Pinned := { name := "ytpeahfhfidjjcaa", sum := "47a0b7095f176578b549cd78f28c71b20b488946f9ee47feea77c223a63a4ae4", checked := Try.checked }
namespace Rows
def none {H : Type} : Left H := { results := [], args := [] }

/-- 'laws.FnExactConstants': WHATEVER THE INPUT: true; the input reads as it did. -/
def fnExactConstantsSpec : ChangeSpec := { name := "fnExactConstants", fn := fun _ => fun
  | [] => { results := [.lit (.bool true)], args := [] }
  | _ => none }
def fnExactConstantsRow : OpenClaim := { program := "ytpeahfhfidjjcaa", sum := "47a0b7095f176578b549cd78f28c71b20b488946f9ee47feea77c223a63a4ae4", func := "loop.example/g00071/laws.FnExactConstants", spec := "fnExactConstants", apart := false }
def FnExactConstantsSaid : Prop := fnExactConstantsRow.holds Try.pinned (OpenSpec.ofChange fnExactConstantsSpec)

/-- ITS FALSE NEIGHBOUR: 'it returns false'. Refute it at one input. -/
def fnExactConstantsWrong : ChangeSpec := { name := "fnExactConstants", fn := fun _ => fun
  | [] => { results := [.lit (.bool false)], args := [] }
  | _ => none }
def FnExactConstantsWrongFalsely : Prop := fnExactConstantsRow.holds Try.pinned (OpenSpec.ofChange fnExactConstantsWrong)

/-- 'laws.FnExactBitsOk': WHATEVER THE INPUT: true; the input reads as it did. -/
def fnExactBitsOkSpec : ChangeSpec := { name := "fnExactBitsOk", fn := fun _ => fun
  | [d] => { results := [.lit (.bool true)], args := [d] }
  | _ => none }
def fnExactBitsOkRow : OpenClaim := { program := "ytpeahfhfidjjcaa", sum := "47a0b7095f176578b549cd78f28c71b20b488946f9ee47feea77c223a63a4ae4", func := "loop.example/g00071/laws.FnExactBitsOk", spec := "fnExactBitsOk", apart := false }
def FnExactBitsOkSaid : Prop := fnExactBitsOkRow.holds Try.pinned (OpenSpec.ofChange fnExactBitsOkSpec)

/-- ITS FALSE NEIGHBOUR: 'it returns false'. Refute it at one input. -/
def fnExactBitsOkWrong : ChangeSpec := { name := "fnExactBitsOk", fn := fun _ => fun
  | [d] => { results := [.lit (.bool false)], args := [d] }
  | _ => none }
def FnExactBitsOkWrongFalsely : Prop := fnExactBitsOkRow.holds Try.pinned (OpenSpec.ofChange fnExactBitsOkWrong)

/-- 'laws.FnExactStepBits': WHATEVER THE INPUT: true; the input reads as it did. -/
def fnExactStepBitsSpec : ChangeSpec := { name := "fnExactStepBits", fn := fun _ => fun
  | [d] => { results := [.lit (.bool true)], args := [d] }
  | _ => none }
def fnExactStepBitsRow : OpenClaim := { program := "ytpeahfhfidjjcaa", sum := "47a0b7095f176578b549cd78f28c71b20b488946f9ee47feea77c223a63a4ae4", func := "loop.example/g00071/laws.FnExactStepBits", spec := "fnExactStepBits", apart := false }
def FnExactStepBitsSaid : Prop := fnExactStepBitsRow.holds Try.pinned (OpenSpec.ofChange fnExactStepBitsSpec)

/-- ITS FALSE NEIGHBOUR: 'it returns false'. Refute it at one input. -/
def fnExactStepBitsWrong : ChangeSpec := { name := "fnExactStepBits", fn := fun _ => fun
  | [d] => { results := [.lit (.bool false)], args := [d] }
  | _ => none }
def FnExactStepBitsWrongFalsely : Prop := fnExactStepBitsRow.holds Try.pinned (OpenSpec.ofChange fnExactStepBitsWrong)

/-- 'laws.FnExactTokenOk': WHATEVER THE INPUT: true; the input reads as it did. -/
def fnExactTokenOkSpec : ChangeSpec := { name := "fnExactTokenOk", fn := fun _ => fun
  | [d] => { results := [.lit (.bool true)], args := [d] }
  | _ => none }
def fnExactTokenOkRow : OpenClaim := { program := "ytpeahfhfidjjcaa", sum := "47a0b7095f176578b549cd78f28c71b20b488946f9ee47feea77c223a63a4ae4", func := "loop.example/g00071/laws.FnExactTokenOk", spec := "fnExactTokenOk", apart := false }
def FnExactTokenOkSaid : Prop := fnExactTokenOkRow.holds Try.pinned (OpenSpec.ofChange fnExactTokenOkSpec)

/-- ITS FALSE NEIGHBOUR: 'it returns false'. Refute it at one input. -/
def fnExactTokenOkWrong : ChangeSpec := { name := "fnExactTokenOk", fn := fun _ => fun
  | [d] => { results := [.lit (.bool false)], args := [d] }
  | _ => none }
def FnExactTokenOkWrongFalsely : Prop := fnExactTokenOkRow.holds Try.pinned (OpenSpec.ofChange fnExactTokenOkWrong)

/-- 'laws.FnExactWord': WHATEVER THE INPUT: true; the input reads as it did. -/
def fnExactWordSpec : ChangeSpec := { name := "fnExactWord", fn := fun _ => fun
  | [d1, d2] => { results := [.lit (.bool true)], args := [d1, d2] }
  | _ => none }
def fnExactWordRow : OpenClaim := { program := "ytpeahfhfidjjcaa", sum := "47a0b7095f176578b549cd78f28c71b20b488946f9ee47feea77c223a63a4ae4", func := "loop.example/g00071/laws.FnExactWord", spec := "fnExactWord", apart := false }
def FnExactWordSaid : Prop := fnExactWordRow.holds Try.pinned (OpenSpec.ofChange fnExactWordSpec)

/-- ITS FALSE NEIGHBOUR: 'it returns false'. Refute it at one input. -/
def fnExactWordWrong : ChangeSpec := { name := "fnExactWord", fn := fun _ => fun
  | [d1, d2] => { results := [.lit (.bool false)], args := [d1, d2] }
  | _ => none }
def FnExactWordWrongFalsely : Prop := fnExactWordRow.holds Try.pinned (OpenSpec.ofChange fnExactWordWrong)

/-- 'laws.FnExactPush': WHATEVER THE INPUT: true; the input reads as it did. -/
def fnExactPushSpec : ChangeSpec := { name := "fnExactPush", fn := fun _ => fun
  | [d1, d2] => { results := [.lit (.bool true)], args := [d1, d2] }
  | _ => none }
def fnExactPushRow : OpenClaim := { program := "ytpeahfhfidjjcaa", sum := "47a0b7095f176578b549cd78f28c71b20b488946f9ee47feea77c223a63a4ae4", func := "loop.example/g00071/laws.FnExactPush", spec := "fnExactPush", apart := false }
def FnExactPushSaid : Prop := fnExactPushRow.holds Try.pinned (OpenSpec.ofChange fnExactPushSpec)

/-- ITS FALSE NEIGHBOUR: 'it returns false'. Refute it at one input. -/
def fnExactPushWrong : ChangeSpec := { name := "fnExactPush", fn := fun _ => fun
  | [d1, d2] => { results := [.lit (.bool false)], args := [d1, d2] }
  | _ => none }
def FnExactPushWrongFalsely : Prop := fnExactPushRow.holds Try.pinned (OpenSpec.ofChange fnExactPushWrong)

/- THE SECOND FORM. 'bulk': how many values and letters a reading holds, each counted each time it is reached (what is shared counts as often as it is met; a slice's spare places count too). A statement '..UptoSaid' is the law's where the arguments, and the package variables that the reading takes, are together of bulk at most 1048576: NARROWER than '..Said'. Prove '..Said' where nothing that the law and all that it calls make is longer than what came in: it says more and counts as full. Else prove '..UptoSaid'. A law counts once. -/
mutual
def uptoBulk {H : Type} : DataW H → Nat
  | .lit (.string bytes) => bytes.length + 1
  | .lit _ => 1
  | .nil => 1
  | .ptr d => uptoBulk d + 1
  | .slice elems spare => uptoBulkAll elems + uptoBulkAll spare + 1
  | .agg parts => uptoBulkAll parts + 1
  | .iface _ d => uptoBulk d + 1
  | .map entries => uptoBulkEntries entries + 1
  | .held _ => 1
def uptoBulkAll {H : Type} : List (DataW H) → Nat
  | [] => 0
  | d :: r => uptoBulk d + uptoBulkAll r
def uptoBulkEntries {H : Type} : List (Lit × DataW H) → Nat
  | [] => 0
  | x :: r => uptoBulkEntry x + uptoBulkEntries r
def uptoBulkEntry {H : Type} : Lit × DataW H → Nat
  | (.string bytes, d) => bytes.length + uptoBulk d + 1
  | (_, d) => uptoBulk d + 1
 end
def uptoSmall : (H : Type) → List (DataW H) → Bool := fun _ ds => decide (uptoBulkAll ds ≤ 1048576)
def OpenSpec.upto (s : _root_.Go.ChangeSpec) : _root_.Go.OpenSpec := { _root_.Go.OpenSpec.ofChange s with cond := some uptoSmall }

/-- 'laws.FnExactConstants', WHERE WHAT IT READS IS OF BULK AT MOST 1048576: true; the input reads as it did. -/
def fnExactConstantsUptoRow : OpenClaim := { program := "ytpeahfhfidjjcaa", sum := "47a0b7095f176578b549cd78f28c71b20b488946f9ee47feea77c223a63a4ae4", func := "loop.example/g00071/laws.FnExactConstants", spec := "fnExactConstants", apart := false, narrowed := true }
def FnExactConstantsUptoSaid : Prop := fnExactConstantsUptoRow.holds Try.pinned (OpenSpec.upto fnExactConstantsSpec)

/-- 'laws.FnExactBitsOk', WHERE WHAT IT READS IS OF BULK AT MOST 1048576: true; the input reads as it did. -/
def fnExactBitsOkUptoRow : OpenClaim := { program := "ytpeahfhfidjjcaa", sum := "47a0b7095f176578b549cd78f28c71b20b488946f9ee47feea77c223a63a4ae4", func := "loop.example/g00071/laws.FnExactBitsOk", spec := "fnExactBitsOk", apart := false, narrowed := true }
def FnExactBitsOkUptoSaid : Prop := fnExactBitsOkUptoRow.holds Try.pinned (OpenSpec.upto fnExactBitsOkSpec)

/-- 'laws.FnExactStepBits', WHERE WHAT IT READS IS OF BULK AT MOST 1048576: true; the input reads as it did. -/
def fnExactStepBitsUptoRow : OpenClaim := { program := "ytpeahfhfidjjcaa", sum := "47a0b7095f176578b549cd78f28c71b20b488946f9ee47feea77c223a63a4ae4", func := "loop.example/g00071/laws.FnExactStepBits", spec := "fnExactStepBits", apart := false, narrowed := true }
def FnExactStepBitsUptoSaid : Prop := fnExactStepBitsUptoRow.holds Try.pinned (OpenSpec.upto fnExactStepBitsSpec)

/-- 'laws.FnExactTokenOk', WHERE WHAT IT READS IS OF BULK AT MOST 1048576: true; the input reads as it did. -/
def fnExactTokenOkUptoRow : OpenClaim := { program := "ytpeahfhfidjjcaa", sum := "47a0b7095f176578b549cd78f28c71b20b488946f9ee47feea77c223a63a4ae4", func := "loop.example/g00071/laws.FnExactTokenOk", spec := "fnExactTokenOk", apart := false, narrowed := true }
def FnExactTokenOkUptoSaid : Prop := fnExactTokenOkUptoRow.holds Try.pinned (OpenSpec.upto fnExactTokenOkSpec)

/-- 'laws.FnExactWord', WHERE WHAT IT READS IS OF BULK AT MOST 1048576: true; the input reads as it did. -/
def fnExactWordUptoRow : OpenClaim := { program := "ytpeahfhfidjjcaa", sum := "47a0b7095f176578b549cd78f28c71b20b488946f9ee47feea77c223a63a4ae4", func := "loop.example/g00071/laws.FnExactWord", spec := "fnExactWord", apart := false, narrowed := true }
def FnExactWordUptoSaid : Prop := fnExactWordUptoRow.holds Try.pinned (OpenSpec.upto fnExactWordSpec)

/-- 'laws.FnExactPush', WHERE WHAT IT READS IS OF BULK AT MOST 1048576: true; the input reads as it did. -/
def fnExactPushUptoRow : OpenClaim := { program := "ytpeahfhfidjjcaa", sum := "47a0b7095f176578b549cd78f28c71b20b488946f9ee47feea77c223a63a4ae4", func := "loop.example/g00071/laws.FnExactPush", spec := "fnExactPush", apart := false, narrowed := true }
def FnExactPushUptoSaid : Prop := fnExactPushUptoRow.holds Try.pinned (OpenSpec.upto fnExactPushSpec)

end Rows
end Go.Proofs.Ytpeahfhfidjjcaa
