/- The law FnExactUnpackLens holds for every input: the given statement, out of the plain law (Pure) and the contract of the call. Conditions: none. -/
import Derived.Test.YtpkfmjdmfphbaaaRows
import Derived.Deep.Slices
import Derived.Deep.SlicePairs
import Derived.Test.YtpkfmjdmfphbaaaQFnExactUnpackLensx5
import Derived.Test.YtpkfmjdmfphbaaaPureFnExactUnpackLens
import Derived.WalkKit
import Derived.ProofKit
import Derived.OpenShut
import Derived.ShutString
import Derived.ChangeOld
import Derived.Below
import Derived.SizedLaws
import Derived.Lib.SmallJoins
import Derived.Test.YtpkfmjdmfphbaaaWSized
namespace Go.Proofs.Ytpkfmjdmfphbaaa.fnExactUnpackLens
open Go.ChangeShapes Go.WideShapes Go.ChangeAt Go.RowKit Go.Joins
open Go.ChangeMaps (open_string shut_string)
open Go.Proofs.YtpkfmjdmfphbaaaW.PrintWords
set_option linter.unusedVariables false
set_option linter.unusedSimpArgs false
theorem own : ownKnob Try.prog.godebug = none := by kernel_rfl
theorem laidOut : laidOutB Try.prog = true := by kernel_rfl
def IsRow (k : IntKind) (w : World) (a : Option Addr) (len cap : Nat) (zs : List Int) : Prop :=
  (a = none ∧ len = 0 ∧ cap = 0 ∧ zs = []) ∨
  ∃ x, a = some x ∧ len ≤ cap ∧ cap ≤ maxLen ∧ zs.length = cap ∧ (∀ i, i < zs.length → w.cell? (x.add i) = some (.int k (zs.getD i 0))) ∧ ∀ n ∈ zs, (Lit.int k n).wf = true
set_option maxRecDepth 100000 in
/-- A slice of structs that came in, as a list. -/
theorem structs22 {H : Type} {enc : TypeId × Value → H} {W : World} {sp : Nat → Bool} {hd : Bool} {fuel : Nat} {A0 : Option Addr} {len cap : Nat} {x : DataW H × List MemPlace}
    (h : DataW.trod enc Try.prog W 0 sp hd fuel 22 [.slice A0 len cap] = some x) : ∃ l : List QFnExactUnpackLens.S41, len = l.length ∧ QFnExactUnpackLens.k41.C W A0 l.length l ∧ l.length ≤ cap ∧ l.length ≤ maxLen ∧ ∀ t_ ∈ l, (Lit.int .i64 t_.f0).wf = true ∧ (Lit.int .i64 t_.f1).wf = true := by
  rcases Go.Deep.open_slice Try.underlying22 h with ⟨hcs, _⟩ | ⟨a, len', cap', m, n, D, Pl, hcs, _, hl, hm, hmm, _, hx⟩
  · simp only [List.cons.injEq, Value.slice.injEq, and_true] at hcs
    obtain ⟨rfl, rfl, rfl⟩ := hcs
    exact ⟨[], rfl, Kd.C_nil _ _, by simp, by simp, by simp⟩
  · simp only [List.cons.injEq, Value.slice.injEq, and_true] at hcs
    obtain ⟨rfl, rfl, rfl⟩ := hcs
    have hce : Try.prog.cellsOf 41 = 2 := by kernel_rfl
    have hlm : len ≤ m := by rw [hmm]; split <;> omega
    rw [hce] at hx
    have each : ∀ i, i < len → ∃ t_ : QFnExactUnpackLens.S41, ((Lit.int .i64 t_.f0).wf = true ∧ (Lit.int .i64 t_.f1).wf = true) ∧ ∀ (j : Nat) (u : Value), ([.int .i64 t_.f0, .int .i64 t_.f1] : List Value)[j]? = some u → W.cell? (a.add (i * 2 + j)) = some u := by
      intro i hi
      obtain ⟨cs', h1, h2⟩ := hx i (by omega)
      obtain ⟨_, hlen, hcell⟩ := World.cells?_some h1
      obtain ⟨xs, k, _, _, _, hxl, hf⟩ := DataW.trod_struct Try.underlying41 h2
      match cs', hlen with
      | [v0, v1], _ =>
        have c0 : Try.prog.cellsOf 3 = 1 := by kernel_rfl
        obtain ⟨y0, ey0⟩ : ∃ y, xs[0]? = some y := ⟨_, List.getElem?_eq_getElem (by rw [hxl]; decide)⟩
        have g0 := hf 0 _ rfl
        rw [ey0] at g0
        replace g0 : DataW.trod enc Try.prog W 0 sp hd k 3 (List.take (Try.prog.cellsOf 3) (List.drop 0 [v0, v1])) = some y0 := g0
        rw [c0] at g0
        obtain ⟨b0, q0, _, w0⟩ := DataW.trod_int Try.underlying3 g0
        have q0' : v0 = .int .i64 b0 := by simpa using q0
        subst q0'
        have c1 : Try.prog.cellsOf 3 = 1 := by kernel_rfl
        obtain ⟨y1, ey1⟩ : ∃ y, xs[1]? = some y := ⟨_, List.getElem?_eq_getElem (by rw [hxl]; decide)⟩
        have g1 := hf 1 _ rfl
        rw [ey1] at g1
        replace g1 : DataW.trod enc Try.prog W 0 sp hd k 3 (List.take (Try.prog.cellsOf 3) (List.drop 1 [.int .i64 b0, v1])) = some y1 := g1
        rw [c1] at g1
        obtain ⟨b1, q1, _, w1⟩ := DataW.trod_int Try.underlying3 g1
        have q1' : v1 = .int .i64 b1 := by simpa using q1
        subst q1'
        refine ⟨⟨b0, b1⟩, ⟨w0, w1⟩, fun j u hu => ?_⟩
        have hj : j < 2 := by
          rcases Nat.lt_or_ge j 2 with hj | hj
          · exact hj
          · rw [List.getElem?_eq_none (by simpa using hj)] at hu; cases hu
        have := hcell j hj
        rw [Go.Deep.add_add] at this
        rw [this]; exact hu
    haveI : Inhabited QFnExactUnpackLens.S41 := ⟨QFnExactUnpackLens.z41⟩
    obtain ⟨f, hf⟩ := Go.Deep.choose_lt each
    have hll : ((List.range len).map f).length = len := by simp
    refine ⟨(List.range len).map f, hll.symm, ⟨rfl, by rw [hll]; unfold maxLen at hm; omega, fun hn => ⟨a, rfl, fun j p hj => ?_⟩⟩, by omega, by omega, fun t_ ht => ?_⟩
    · obtain ⟨hl1, rfl⟩ := List.getElem?_eq_some_iff.1 hj
      have hjl : j < len := by simpa using hl1
      simp only [List.getElem_map, List.getElem_range]
      refine ⟨[.int .i64 (f j).f0, .int .i64 (f j).f1], rfl, ?_, fun i u hu => (hf j hjl).2 i u hu⟩
      exact ⟨[_], _, rfl, rfl, rfl⟩
    · obtain ⟨i, hi, rfl⟩ := List.mem_map.1 ht
      exact (hf i (List.mem_range.1 hi)).1
set_option maxRecDepth 100000 in
theorem lifted (os : Os) (started : os.Started) (H : Type) (enc : TypeId × Value → H) :
    ReturnsInHanded {} Try.checked os 3 .any (Rows.fnExactUnpackLensSpec.pre6 enc Try.prog Try.f3 Rows.fnExactUnpackLensRow.domain false) (Rows.fnExactUnpackLensSpec.post enc Try.prog Try.f3 false true false false) := by
  refine returnsInHanded_of_change_sized (C := Try.checked) own started (by kernel_rfl) Try.func3
    (ChangeSpec.witness6 (enc := enc) (C := Try.checked) false ⟨#[], #[.slice none 0 0, .int .i64 0], []⟩ 8 (by kernel_rfl) (by kernel_rfl) (by kernel_rfl) (by kernel_rfl)) ?_
  intro W base args ds gs before hval0 hW hcnd hsz0 _
  have hsz : (DataW.weightsEach Try.prog (Try.f3.params.toList ++ Rows.fnExactUnpackLensSpec.plain.varTypes Try.prog) (ds ++ gs)).all (· ≤ reachBytes) = true := hsz0
  have hval : ∀ (j : Nat) t v, Try.f3.params[j]? = some t → args[j]? = some v → Value.okWide Try.prog W .any base t v := hval0
  have hW' := hW
  obtain ⟨p, q, hA0, hV, rfl, hfz, hnd⟩ := hW
  have hA : DataW.TrodAll enc Try.prog W 0 (fun _ => true) true Try.f3.params.toList args.toList ds p := hA0
  rw [Try.params3] at hA hval hsz
  obtain ⟨v0, vs0, d0, ds0, p0, q0, hargs, rfl, rfl, h0, r0⟩ := trodAll_cons hA
  obtain ⟨v1, vs1, d1, ds1, p1, q1, rfl, rfl, rfl, h1, r1⟩ := trodAll_cons r0
  obtain ⟨rfl, rfl, rfl⟩ := trodAll_nil r1
  obtain rfl : args = #[v0, v1] := by cases args; simp_all
  obtain ⟨rfl, rfl⟩ := trodVars_none hV
  have k0 := h0
  have lt0 : ∀ x ∈ p0, x.block < W.heap.size := by obtain ⟨m, hm⟩ := k0; exact DataW.trod_lt m _ _ _ hm
  obtain ⟨a0, len0, cap0, rfl⟩ := okWide_slice Try.underlying22 (hval 0 22 v0 rfl rfl)
  obtain ⟨fuel0, hf0⟩ := h0
  obtain ⟨l0, rfl, hr0, hc0, hm0, hw0⟩ := structs22 (by simpa [Value.cells] using hf0)
  obtain ⟨a1, rfl, rfl, rfl, w1⟩ := open_int Try.underlying3 (hval 1 3 v1 rfl rfl) h1
  clear hA0 hval0 hsz0 hsz
  obtain ⟨k, hf⟩ := Pure.FnExactUnpackLens l0 a1 hm0 hw0 w1
  refine (QFnExactUnpackLens.laws_FnExactUnpackLens.calls k _ _ l0 a1 true W hr0 hc0 hf).mono fun e W' ⟨he, bel0⟩ => ?_
  have bel : Below W.heap.size W W' := bel0
  subst he
  exact ⟨_, rfl, _, _, _, [], _, [], hW', trodAll_mk1 (shut_bool Try.underlying4 _), (trodAll_cons_mk (Below.trod laidOut (by kernel_rfl) (of_decide_eq_true (by kernel_rfl)) k0 bel lt0) (trodAll_cons_mk (shut_int Try.underlying3 w1) trodAll_mk0)), rfl, bel.frame _, fun h => by cases h⟩
theorem over : Rows.fnExactUnpackLensRow.holds Try.pinned (OpenSpec.ofChange Rows.fnExactUnpackLensSpec) :=
  OpenClaim.holds_of_wide 3 Try.f3 rfl rfl rfl rfl rfl rfl rfl ⟨rfl, rfl, rfl, rfl, rfl⟩ rfl rfl rfl rfl rfl (by kernel_rfl) Try.func3 (by kernel_rfl)
    (of_decide_eq_true (by kernel_rfl)) (by unfold Func.isWrapper; first | (rw [if_pos (by decide +kernel)]; kernel_rfl) | (rw [if_neg (by decide +kernel)]; exact ⟨rfl, rfl⟩))
    (fun os started H enc _ => lifted os started H enc)
theorem proved : Rows.FnExactUnpackLensSaid := over
#print axioms proved
end Go.Proofs.Ytpkfmjdmfphbaaa.fnExactUnpackLens
namespace Go.Proofs.Ytpkfmjdmfphbaaa
/-- The row, under a short name, for the claim. -/
theorem fnExactUnpackLens_holds : Rows.FnExactUnpackLensSaid := fnExactUnpackLens.proved
end Go.Proofs.Ytpkfmjdmfphbaaa
