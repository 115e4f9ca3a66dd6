/-
  No cell of these rows narrows 'for every input' (looked for: loops, veiled, ifaces, maps, wideKeys, modest, calm, conditions, laid).
  DERIVED. THE GIVEN ROWS OF THIS SEAT. 6 by the template 'for every input the law returns true; each argument reads behind the call as it read before'; 0 by the template 'total and deterministic' (their statements: YtdilibnfihcmkaaTotals.lean).
  GIVEN WITH THE SEED: the statements are not yours to turn. If you find one false, say at which input.
  Laid BY PROGRAM, IN A SANDBOX (cutbox-rows.mjs): the forced cells as the released guide's own fill.sh prints them over the translation bc40d89cf0a1c448… (all of the seat's roots in one cut). By AI agents, Wed Nov 11 2026. No macro, syntax, notation, axiom, sorry.
-/
import Derived.Test.YtdilibnfihcmkaaChecked
import GoSem.Claim
import GoSem.ClaimJoined
import GoSem.ClaimMapViews
import Derived.JoinedTies
import Derived.KernelRfl
namespace Go.Proofs.Ytdilibnfihcmkaa
/- THE CELL 'sum', in the pinned program and in every row, IS THE sha256 OF THE DUMP (.gsa) THAT YtdilibnfihcmkaaProg.lean LOADS. Nothing in Lean hashes anything: it is a label: what it is worth is what the hold of that sum in a sandbox is worth. -/
noncomputable def Try.pinned : Pinned := { name := "ytdilibnfihcmkaa", sum := "bc40d89cf0a1c44808b223bc756e9ce4d840d4370a5dbda87dbfe52b9351c45d", checked := Try.checked }
namespace Rows
def none {H : Type} : Left H := { results := [], args := [] }

/-- 'laws.FnWords': WHATEVER THE INPUT: true; the input reads as it did. -/
def fnWordsSpec : ChangeSpec := { name := "fnWords", fn := fun _ => fun
  | [d] => { results := [.lit (.bool true)], args := [d] }
  | _ => none }
def fnWordsRow : OpenClaim := { program := "ytdilibnfihcmkaa", sum := "bc40d89cf0a1c44808b223bc756e9ce4d840d4370a5dbda87dbfe52b9351c45d", func := "loop.example/g00071/laws.FnWords", spec := "fnWords", inPlace := ["internal/bytealg.IndexByteString"], apart := false }
def FnWordsSaid : Prop := fnWordsRow.holds Try.pinned (OpenSpec.ofChange fnWordsSpec)

/-- ITS FALSE NEIGHBOUR: 'it returns false'. Refute it at one input. -/
def fnWordsWrong : ChangeSpec := { name := "fnWords", fn := fun _ => fun
  | [d] => { results := [.lit (.bool false)], args := [d] }
  | _ => none }
def FnWordsWrongFalsely : Prop := fnWordsRow.holds Try.pinned (OpenSpec.ofChange fnWordsWrong)

/-- 'laws.FnExactPutSum': WHATEVER THE INPUT: true; the input reads as it did. -/
def fnExactPutSumSpec : ChangeSpec := { name := "fnExactPutSum", fn := fun _ => fun
  | [d] => { results := [.lit (.bool true)], args := [d] }
  | _ => none }
def fnExactPutSumRow : OpenClaim := { program := "ytdilibnfihcmkaa", sum := "bc40d89cf0a1c44808b223bc756e9ce4d840d4370a5dbda87dbfe52b9351c45d", func := "loop.example/g00071/laws.FnExactPutSum", spec := "fnExactPutSum", unfollowed := true, recurses := true, apart := false }
def FnExactPutSumSaid : Prop := fnExactPutSumRow.holds Try.pinned (OpenSpec.ofChange fnExactPutSumSpec)

/-- ITS FALSE NEIGHBOUR: 'it returns false'. Refute it at one input. -/
def fnExactPutSumWrong : ChangeSpec := { name := "fnExactPutSum", fn := fun _ => fun
  | [d] => { results := [.lit (.bool false)], args := [d] }
  | _ => none }
def FnExactPutSumWrongFalsely : Prop := fnExactPutSumRow.holds Try.pinned (OpenSpec.ofChange fnExactPutSumWrong)

/-- 'laws.FnTokens': WHATEVER THE INPUT: true; the input reads as it did. -/
def fnTokensSpec : ChangeSpec := { name := "fnTokens", fn := fun _ => fun
  | [d] => { results := [.lit (.bool true)], args := [d] }
  | _ => none }
def fnTokensRow : OpenClaim := { program := "ytdilibnfihcmkaa", sum := "bc40d89cf0a1c44808b223bc756e9ce4d840d4370a5dbda87dbfe52b9351c45d", func := "loop.example/g00071/laws.FnTokens", spec := "fnTokens", unfollowed := true, recurses := true, apart := false }
def FnTokensSaid : Prop := fnTokensRow.holds Try.pinned (OpenSpec.ofChange fnTokensSpec)

/-- ITS FALSE NEIGHBOUR: 'it returns false'. Refute it at one input. -/
def fnTokensWrong : ChangeSpec := { name := "fnTokens", fn := fun _ => fun
  | [d] => { results := [.lit (.bool false)], args := [d] }
  | _ => none }
def FnTokensWrongFalsely : Prop := fnTokensRow.holds Try.pinned (OpenSpec.ofChange fnTokensWrong)

/-- 'laws.FnExactExpand': WHATEVER THE INPUT: true; the input reads as it did. -/
def fnExactExpandSpec : ChangeSpec := { name := "fnExactExpand", fn := fun _ => fun
  | [d1, d2, d3] => { results := [.lit (.bool true)], args := [d1, d2, d3] }
  | _ => none }
def fnExactExpandRow : OpenClaim := { program := "ytdilibnfihcmkaa", sum := "bc40d89cf0a1c44808b223bc756e9ce4d840d4370a5dbda87dbfe52b9351c45d", func := "loop.example/g00071/laws.FnExactExpand", spec := "fnExactExpand", unfollowed := true, recurses := true, apart := false }
def FnExactExpandSaid : Prop := fnExactExpandRow.holds Try.pinned (OpenSpec.ofChange fnExactExpandSpec)

/-- ITS FALSE NEIGHBOUR: 'it returns false'. Refute it at one input. -/
def fnExactExpandWrong : ChangeSpec := { name := "fnExactExpand", fn := fun _ => fun
  | [d1, d2, d3] => { results := [.lit (.bool false)], args := [d1, d2, d3] }
  | _ => none }
def FnExactExpandWrongFalsely : Prop := fnExactExpandRow.holds Try.pinned (OpenSpec.ofChange fnExactExpandWrong)

/-- 'laws.FnExactTally': WHATEVER THE INPUT: true; the input reads as it did. -/
def fnExactTallySpec : ChangeSpec := { name := "fnExactTally", fn := fun _ => fun
  | [d] => { results := [.lit (.bool true)], args := [d] }
  | _ => none }
def fnExactTallyRow : OpenClaim := { program := "ytdilibnfihcmkaa", sum := "bc40d89cf0a1c44808b223bc756e9ce4d840d4370a5dbda87dbfe52b9351c45d", func := "loop.example/g00071/laws.FnExactTally", spec := "fnExactTally", unfollowed := true, recurses := true, apart := false }
def FnExactTallySaid : Prop := fnExactTallyRow.holds Try.pinned (OpenSpec.ofChange fnExactTallySpec)

/-- ITS FALSE NEIGHBOUR: 'it returns false'. Refute it at one input. -/
def fnExactTallyWrong : ChangeSpec := { name := "fnExactTally", fn := fun _ => fun
  | [d] => { results := [.lit (.bool false)], args := [d] }
  | _ => none }
def FnExactTallyWrongFalsely : Prop := fnExactTallyRow.holds Try.pinned (OpenSpec.ofChange fnExactTallyWrong)

/-- 'laws.FnExactGetSum': WHATEVER THE INPUT: true; the input reads as it did. -/
def fnExactGetSumSpec : ChangeSpec := { name := "fnExactGetSum", fn := fun _ => fun
  | [d] => { results := [.lit (.bool true)], args := [d] }
  | _ => none }
def fnExactGetSumRow : OpenClaim := { program := "ytdilibnfihcmkaa", sum := "bc40d89cf0a1c44808b223bc756e9ce4d840d4370a5dbda87dbfe52b9351c45d", func := "loop.example/g00071/laws.FnExactGetSum", spec := "fnExactGetSum", unfollowed := true, recurses := true, apart := false }
def FnExactGetSumSaid : Prop := fnExactGetSumRow.holds Try.pinned (OpenSpec.ofChange fnExactGetSumSpec)

/-- ITS FALSE NEIGHBOUR: 'it returns false'. Refute it at one input. -/
def fnExactGetSumWrong : ChangeSpec := { name := "fnExactGetSum", fn := fun _ => fun
  | [d] => { results := [.lit (.bool false)], args := [d] }
  | _ => none }
def FnExactGetSumWrongFalsely : Prop := fnExactGetSumRow.holds Try.pinned (OpenSpec.ofChange fnExactGetSumWrong)

/- THE SECOND FORM. 'bulk': how many values and letters a reading holds, each counted each time it is reached (what is shared counts as often as it is met; a slice's spare places count too). A statement '..UptoSaid' is the law's where the arguments, and the package variables that the reading takes, are together of bulk at most 1048576: NARROWER than '..Said'. Prove '..Said' where nothing that the law and all that it calls make is longer than what came in: it says more and counts as full. Else prove '..UptoSaid'. A law counts once. -/
mutual
def uptoBulk {H : Type} : DataW H → Nat
  | .lit (.string bytes) => bytes.length + 1
  | .lit _ => 1
  | .nil => 1
  | .ptr d => uptoBulk d + 1
  | .slice elems spare => uptoBulkAll elems + uptoBulkAll spare + 1
  | .agg parts => uptoBulkAll parts + 1
  | .iface _ d => uptoBulk d + 1
  | .map entries => uptoBulkEntries entries + 1
  | .held _ => 1
def uptoBulkAll {H : Type} : List (DataW H) → Nat
  | [] => 0
  | d :: r => uptoBulk d + uptoBulkAll r
def uptoBulkEntries {H : Type} : List (Lit × DataW H) → Nat
  | [] => 0
  | x :: r => uptoBulkEntry x + uptoBulkEntries r
def uptoBulkEntry {H : Type} : Lit × DataW H → Nat
  | (.string bytes, d) => bytes.length + uptoBulk d + 1
  | (_, d) => uptoBulk d + 1
 end
def uptoSmall : (H : Type) → List (DataW H) → Bool := fun _ ds => decide (uptoBulkAll ds ≤ 1048576)
def OpenSpec.upto (s : _root_.Go.ChangeSpec) : _root_.Go.OpenSpec := { _root_.Go.OpenSpec.ofChange s with cond := some uptoSmall }

/-- 'laws.FnWords', WHERE WHAT IT READS IS OF BULK AT MOST 1048576: true; the input reads as it did. -/
def fnWordsUptoRow : OpenClaim := { program := "ytdilibnfihcmkaa", sum := "bc40d89cf0a1c44808b223bc756e9ce4d840d4370a5dbda87dbfe52b9351c45d", func := "loop.example/g00071/laws.FnWords", spec := "fnWords", inPlace := ["internal/bytealg.IndexByteString"], apart := false, narrowed := true }
def FnWordsUptoSaid : Prop := fnWordsUptoRow.holds Try.pinned (OpenSpec.upto fnWordsSpec)

/-- 'laws.FnExactPutSum', WHERE WHAT IT READS IS OF BULK AT MOST 1048576: true; the input reads as it did. -/
def fnExactPutSumUptoRow : OpenClaim := { program := "ytdilibnfihcmkaa", sum := "bc40d89cf0a1c44808b223bc756e9ce4d840d4370a5dbda87dbfe52b9351c45d", func := "loop.example/g00071/laws.FnExactPutSum", spec := "fnExactPutSum", unfollowed := true, recurses := true, apart := false, narrowed := true }
def FnExactPutSumUptoSaid : Prop := fnExactPutSumUptoRow.holds Try.pinned (OpenSpec.upto fnExactPutSumSpec)

/-- 'laws.FnTokens', WHERE WHAT IT READS IS OF BULK AT MOST 1048576: true; the input reads as it did. -/
def fnTokensUptoRow : OpenClaim := { program := "ytdilibnfihcmkaa", sum := "bc40d89cf0a1c44808b223bc756e9ce4d840d4370a5dbda87dbfe52b9351c45d", func := "loop.example/g00071/laws.FnTokens", spec := "fnTokens", unfollowed := true, recurses := true, apart := false, narrowed := true }
def FnTokensUptoSaid : Prop := fnTokensUptoRow.holds Try.pinned (OpenSpec.upto fnTokensSpec)

/-- 'laws.FnExactExpand', WHERE WHAT IT READS IS OF BULK AT MOST 1048576: true; the input reads as it did. -/
def fnExactExpandUptoRow : OpenClaim := { program := "ytdilibnfihcmkaa", sum := "bc40d89cf0a1c44808b223bc756e9ce4d840d4370a5dbda87dbfe52b9351c45d", func := "loop.example/g00071/laws.FnExactExpand", spec := "fnExactExpand", unfollowed := true, recurses := true, apart := false, narrowed := true }
def FnExactExpandUptoSaid : Prop := fnExactExpandUptoRow.holds Try.pinned (OpenSpec.upto fnExactExpandSpec)

/-- 'laws.FnExactTally', WHERE WHAT IT READS IS OF BULK AT MOST 1048576: true; the input reads as it did. -/
def fnExactTallyUptoRow : OpenClaim := { program := "ytdilibnfihcmkaa", sum := "bc40d89cf0a1c44808b223bc756e9ce4d840d4370a5dbda87dbfe52b9351c45d", func := "loop.example/g00071/laws.FnExactTally", spec := "fnExactTally", unfollowed := true, recurses := true, apart := false, narrowed := true }
def FnExactTallyUptoSaid : Prop := fnExactTallyUptoRow.holds Try.pinned (OpenSpec.upto fnExactTallySpec)

/-- 'laws.FnExactGetSum', WHERE WHAT IT READS IS OF BULK AT MOST 1048576: true; the input reads as it did. -/
def fnExactGetSumUptoRow : OpenClaim := { program := "ytdilibnfihcmkaa", sum := "bc40d89cf0a1c44808b223bc756e9ce4d840d4370a5dbda87dbfe52b9351c45d", func := "loop.example/g00071/laws.FnExactGetSum", spec := "fnExactGetSum", unfollowed := true, recurses := true, apart := false, narrowed := true }
def FnExactGetSumUptoSaid : Prop := fnExactGetSumUptoRow.holds Try.pinned (OpenSpec.upto fnExactGetSumSpec)

end Rows
end Go.Proofs.Ytdilibnfihcmkaa
