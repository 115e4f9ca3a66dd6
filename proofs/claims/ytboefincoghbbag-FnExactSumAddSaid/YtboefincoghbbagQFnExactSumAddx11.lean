/- Plain functions with the same answers as the program's, and the proofs that they are. Printed by a program of this session (wip/myprint.py) out of Lean's print of the loaded program. Conditions: those in each theorem's head. -/
import Derived.Test.YtboefincoghbbagQFnExactSumAddx0
import Derived.Test.YtboefincoghbbagQFnExactSumAddx1
import Derived.Test.YtboefincoghbbagQFnExactSumAddx4
import Derived.Test.YtboefincoghbbagQFnExactSumAddx8
import Derived.Test.YtboefincoghbbagQFnExactSumAddx9
import Derived.Test.YtboefincoghbbagQFnExactSumAddx10
namespace Go.Proofs.Ytboefincoghbbag.QFnExactSumAdd
open Go.RowKit Go.Proofs.Ytboefincoghbbag.Given Go.Proofs.YtboefincoghbbagW.PrintWords Go.Proofs.YtboefincoghbbagW.PrintLast Go.Proofs.YtboefincoghbbagW.PrintMore
attribute [local go_sem] max2_int min2_int max_two min_two max_three min_three max_four min_four   -- for this text's walks alone
set_option linter.unusedVariables false
set_option linter.unusedSimpArgs false

/-! ### laws_FnExactSumAdd: function 3 -/
mutual
def laws_FnExactSumAdd.j0 : Nat → List Int → List Int → Int → List Int → Option (Bool)
 | 0, _, _, _, _ => none
 | k + 1, x1, x381000, x381001, x381002 => (laws_szSum.f x381000 x381001 x381002 1048576).bind fun t381 => (if t381 < 0 then (some true) else (laws_FnExactSumAdd.j1 k x1 x381000 x381001 x381002))
def laws_FnExactSumAdd.j1 : Nat → List Int → List Int → Int → List Int → Option (Bool)
 | 0, _, _, _, _ => none
 | k + 1, x1, x381000, x381001, x381002 => (laws_toSum.f k x381000 x381001 x381002).bind fun bt382 => ((laws_toByteS.f k x1).bind fun t389 => ((spec_SumAdd.f k bt382.1 bt382.2.1 bt382.2.2 t389).bind fun bt392 => ((laws_toSum.f k x381000 x381001 x381002).bind fun bt400 => ((laws_toByteS.f k x1).bind fun t408 => ((impl_SumAdd.f k bt400.1 bt400.2.1 bt400.2.2 t408).bind fun bt411 => ((laws_eqSum.f k bt411.1 bt411.2.1 bt411.2.2 bt392.1 bt392.2.1 bt392.2.2).bind fun t419 => (if t419 = true then (laws_FnExactSumAdd.j2 k x1 t408 x381000 x381001 x381002 bt392.1 bt392.2.1 bt392.2.2 bt400.1 bt400.2.1 bt400.2.2 bt411.1 bt411.2.1 bt411.2.2) else (some false))))))))
def laws_FnExactSumAdd.j2 : Nat → List Int → List Int → List Int → Int → List Int → List Int → Int → List Int → List Int → Int → List Int → List Int → Int → List Int → Option (Bool)
 | 0, _, _, _, _, _, _, _, _, _, _, _, _, _, _ => none
 | k + 1, x1, x8, x381000, x381001, x381002, x400000, x400001, x400002, x408000, x408001, x408002, x419000, x419001, x419002 => (laws_toSum.f k x381000 x381001 x381002).bind fun bt420 => ((laws_eqSum.f k x408000 x408001 x408002 bt420.1 bt420.2.1 bt420.2.2).bind fun t427 => (if t427 = true then (laws_FnExactSumAdd.j3 k x1 x8 x381000 x381001 x381002 x400000 x400001 x400002 x408000 x408001 x408002 x419000 x419001 x419002) else (some false)))
def laws_FnExactSumAdd.j3 : Nat → List Int → List Int → List Int → Int → List Int → List Int → Int → List Int → List Int → Int → List Int → List Int → Int → List Int → Option (Bool)
 | 0, _, _, _, _, _, _, _, _, _, _, _, _, _, _ => none
 | k + 1, x1, x8, x381000, x381001, x381002, x400000, x400001, x400002, x408000, x408001, x408002, x419000, x419001, x419002 => (laws_toByteS.f k x1).bind fun t428 => ((laws_eqByteS.f k x8 t428).bind fun t431 => (if t431 = true then (laws_FnExactSumAdd.j4 k x1 x8 x381000 x381001 x381002 x400000 x400001 x400002 x408000 x408001 x408002 x419000 x419001 x419002) else (some false)))
def laws_FnExactSumAdd.j4 : Nat → List Int → List Int → List Int → Int → List Int → List Int → Int → List Int → List Int → Int → List Int → List Int → Int → List Int → Option (Bool)
 | 0, _, _, _, _, _, _, _, _, _, _, _, _, _, _ => none
 | k + 1, x1, x8, x381000, x381001, x381002, x400000, x400001, x400002, x408000, x408001, x408002, x419000, x419001, x419002 => (laws_markSum.f k x408000 x408001 x408002 1).bind fun bt432 => ((laws_markByteS.f k x8 bt432.1).bind fun bt435 => (if bt435.1 < 0 then (laws_FnExactSumAdd.j5 k x1 true x381000 x381001 x381002 x400000 x400001 x400002 x419000 x419001 x419002) else ((laws_eqSum.f k x419000 x419001 x419002 x400000 x400001 x400002).bind fun t437 => (laws_FnExactSumAdd.j5 k x1 (!t437) x381000 x381001 x381002 x400000 x400001 x400002 x419000 x419001 x419002))))
def laws_FnExactSumAdd.j5 : Nat → List Int → Bool → List Int → Int → List Int → List Int → Int → List Int → List Int → Int → List Int → Option (Bool)
 | 0, _, _, _, _, _, _, _, _, _, _, _ => none
 | k + 1, x1, x61, x381000, x381001, x381002, x400000, x400001, x400002, x419000, x419001, x419002 => if x61 = true then (some false) else (laws_FnExactSumAdd.j6 k x1 x381000 x381001 x381002 x400000 x400001 x400002 x419000 x419001 x419002)
def laws_FnExactSumAdd.j6 : Nat → List Int → List Int → Int → List Int → List Int → Int → List Int → List Int → Int → List Int → Option (Bool)
 | 0, _, _, _, _, _, _, _, _, _, _ => none
 | k + 1, x1, x381000, x381001, x381002, x400000, x400001, x400002, x419000, x419001, x419002 => (laws_markSum.f k x419000 x419001 x419002 1).bind fun bt438 => ((laws_heldSum.f k bt438.2.1 x419001 bt438.2.2 1).bind fun t441 => (if t441 < 0 then (some false) else (laws_FnExactSumAdd.j7 k x1 bt438.1 t441 x381000 x381001 x381002 x400000 x400001 x400002 bt438.2.1 x419001 bt438.2.2)))
def laws_FnExactSumAdd.j7 : Nat → List Int → Int → Int → List Int → Int → List Int → List Int → Int → List Int → List Int → Int → List Int → Option (Bool)
 | 0, _, _, _, _, _, _, _, _, _, _, _, _ => none
 | k + 1, x1, x11, x12, x381000, x381001, x381002, x400000, x400001, x400002, x419000, x419001, x419002 => if x12 = x11 then (laws_FnExactSumAdd.j8 k x1 x11 x381000 x381001 x381002 x400000 x400001 x400002 x419000 x419001 x419002) else (some false)
def laws_FnExactSumAdd.j8 : Nat → List Int → Int → List Int → Int → List Int → List Int → Int → List Int → List Int → Int → List Int → Option (Bool)
 | 0, _, _, _, _, _, _, _, _, _, _, _ => none
 | k + 1, x1, x11, x381000, x381001, x381002, x400000, x400001, x400002, x419000, x419001, x419002 => (laws_toSum.f k x381000 x381001 x381002).bind fun bt442 => ((laws_toByteS.f k x1).bind fun t449 => ((impl_SumAdd.f k bt442.1 bt442.2.1 bt442.2.2 t449).bind fun bt452 => ((laws_eqSum.f k bt452.1 bt452.2.1 bt452.2.2 x400000 x400001 x400002).bind fun t460 => (if t460 = true then (laws_FnExactSumAdd.j9 k x11 x419000 x419001 x419002) else (some false)))))
def laws_FnExactSumAdd.j9 : Nat → Int → List Int → Int → List Int → Option (Bool)
 | 0, _, _, _, _ => none
 | k + 1, x11, x419000, x419001, x419002 => (laws_heldSum.f k x419000 x419001 x419002 1).bind fun t461 => (if t461 < 0 then (some false) else (if t461 = x11 then (some true) else (some false)))
end
def laws_FnExactSumAdd.f (k : Nat) (l0_0 : List Int) (a0_1 : Int) (l0_2 : List Int) (l1 : List Int) : Option (Bool) := if (l1.length : Int) > 1048576 then (some true) else (laws_FnExactSumAdd.j0 k l1 l0_0 a0_1 l0_2)
theorem laws_FnExactSumAdd.mono_l : ∀ k, (∀ y0 y1 y2 y3, LeO (laws_FnExactSumAdd.j0 k y0 y1 y2 y3) (laws_FnExactSumAdd.j0 (k + 1) y0 y1 y2 y3)) ∧ (∀ y0 y1 y2 y3, LeO (laws_FnExactSumAdd.j1 k y0 y1 y2 y3) (laws_FnExactSumAdd.j1 (k + 1) y0 y1 y2 y3)) ∧ (∀ y0 y1 y2 y3 y4 y5 y6 y7 y8 y9 y10 y11 y12 y13, LeO (laws_FnExactSumAdd.j2 k y0 y1 y2 y3 y4 y5 y6 y7 y8 y9 y10 y11 y12 y13) (laws_FnExactSumAdd.j2 (k + 1) y0 y1 y2 y3 y4 y5 y6 y7 y8 y9 y10 y11 y12 y13)) ∧ (∀ y0 y1 y2 y3 y4 y5 y6 y7 y8 y9 y10 y11 y12 y13, LeO (laws_FnExactSumAdd.j3 k y0 y1 y2 y3 y4 y5 y6 y7 y8 y9 y10 y11 y12 y13) (laws_FnExactSumAdd.j3 (k + 1) y0 y1 y2 y3 y4 y5 y6 y7 y8 y9 y10 y11 y12 y13)) ∧ (∀ y0 y1 y2 y3 y4 y5 y6 y7 y8 y9 y10 y11 y12 y13, LeO (laws_FnExactSumAdd.j4 k y0 y1 y2 y3 y4 y5 y6 y7 y8 y9 y10 y11 y12 y13) (laws_FnExactSumAdd.j4 (k + 1) y0 y1 y2 y3 y4 y5 y6 y7 y8 y9 y10 y11 y12 y13)) ∧ (∀ y0 y1 y2 y3 y4 y5 y6 y7 y8 y9 y10, LeO (laws_FnExactSumAdd.j5 k y0 y1 y2 y3 y4 y5 y6 y7 y8 y9 y10) (laws_FnExactSumAdd.j5 (k + 1) y0 y1 y2 y3 y4 y5 y6 y7 y8 y9 y10)) ∧ (∀ y0 y1 y2 y3 y4 y5 y6 y7 y8 y9, LeO (laws_FnExactSumAdd.j6 k y0 y1 y2 y3 y4 y5 y6 y7 y8 y9) (laws_FnExactSumAdd.j6 (k + 1) y0 y1 y2 y3 y4 y5 y6 y7 y8 y9)) ∧ (∀ y0 y1 y2 y3 y4 y5 y6 y7 y8 y9 y10 y11, LeO (laws_FnExactSumAdd.j7 k y0 y1 y2 y3 y4 y5 y6 y7 y8 y9 y10 y11) (laws_FnExactSumAdd.j7 (k + 1) y0 y1 y2 y3 y4 y5 y6 y7 y8 y9 y10 y11)) ∧ (∀ y0 y1 y2 y3 y4 y5 y6 y7 y8 y9 y10, LeO (laws_FnExactSumAdd.j8 k y0 y1 y2 y3 y4 y5 y6 y7 y8 y9 y10) (laws_FnExactSumAdd.j8 (k + 1) y0 y1 y2 y3 y4 y5 y6 y7 y8 y9 y10)) ∧ (∀ y0 y1 y2 y3, LeO (laws_FnExactSumAdd.j9 k y0 y1 y2 y3) (laws_FnExactSumAdd.j9 (k + 1) y0 y1 y2 y3))
 | 0 => ⟨fun _ _ _ _ r h => by simp [laws_FnExactSumAdd.j0] at h, fun _ _ _ _ r h => by simp [laws_FnExactSumAdd.j1] at h, fun _ _ _ _ _ _ _ _ _ _ _ _ _ _ r h => by simp [laws_FnExactSumAdd.j2] at h, fun _ _ _ _ _ _ _ _ _ _ _ _ _ _ r h => by simp [laws_FnExactSumAdd.j3] at h, fun _ _ _ _ _ _ _ _ _ _ _ _ _ _ r h => by simp [laws_FnExactSumAdd.j4] at h, fun _ _ _ _ _ _ _ _ _ _ _ r h => by simp [laws_FnExactSumAdd.j5] at h, fun _ _ _ _ _ _ _ _ _ _ r h => by simp [laws_FnExactSumAdd.j6] at h, fun _ _ _ _ _ _ _ _ _ _ _ _ r h => by simp [laws_FnExactSumAdd.j7] at h, fun _ _ _ _ _ _ _ _ _ _ _ r h => by simp [laws_FnExactSumAdd.j8] at h, fun _ _ _ _ r h => by simp [laws_FnExactSumAdd.j9] at h⟩
 | k + 1 => by
  obtain ⟨ih0,ih1,ih2,ih3,ih4,ih5,ih6,ih7,ih8,ih9⟩:=laws_FnExactSumAdd.mono_l k
  refine ⟨?_,?_,?_,?_,?_,?_,?_,?_,?_,?_⟩
  · intro y0 y1 y2 y3
    unfold laws_FnExactSumAdd.j0
    repeat' first
    | (with_reducible exact ih0 _ _ _ _)
    | (with_reducible exact ih1 _ _ _ _)
    | (with_reducible exact ih2 _ _ _ _ _ _ _ _ _ _ _ _ _ _)
    | (with_reducible exact ih3 _ _ _ _ _ _ _ _ _ _ _ _ _ _)
    | (with_reducible exact ih4 _ _ _ _ _ _ _ _ _ _ _ _ _ _)
    | (with_reducible exact ih5 _ _ _ _ _ _ _ _ _ _ _)
    | (with_reducible exact ih6 _ _ _ _ _ _ _ _ _ _)
    | (with_reducible exact ih7 _ _ _ _ _ _ _ _ _ _ _ _)
    | (with_reducible exact ih8 _ _ _ _ _ _ _ _ _ _ _)
    | (with_reducible exact ih9 _ _ _ _)
    | (with_reducible exact impl_SumAdd.mono _ _ _ _ _)
    | (with_reducible exact laws_eqByteS.mono _ _ _)
    | (with_reducible exact laws_eqSum.mono _ _ _ _ _ _ _)
    | (with_reducible exact laws_heldSum.mono _ _ _ _ _)
    | (with_reducible exact laws_markByteS.mono _ _ _)
    | (with_reducible exact laws_markSum.mono _ _ _ _ _)
    | (with_reducible exact laws_toByteS.mono _ _)
    | (with_reducible exact laws_toSum.mono _ _ _ _)
    | (with_reducible exact spec_SumAdd.mono _ _ _ _ _)
    | (with_reducible exact LeO.refl _)
    | (with_reducible exact LeO.none _)
    | (with_reducible refine LeO.ite ?_ ?_)
    | (with_reducible refine LeO.bind ?_ (fun _=>?_))
    | exact ih0 _ _ _ _
    | exact ih1 _ _ _ _
    | exact ih2 _ _ _ _ _ _ _ _ _ _ _ _ _ _
    | exact ih3 _ _ _ _ _ _ _ _ _ _ _ _ _ _
    | exact ih4 _ _ _ _ _ _ _ _ _ _ _ _ _ _
    | exact ih5 _ _ _ _ _ _ _ _ _ _ _
    | exact ih6 _ _ _ _ _ _ _ _ _ _
    | exact ih7 _ _ _ _ _ _ _ _ _ _ _ _
    | exact ih8 _ _ _ _ _ _ _ _ _ _ _
    | exact ih9 _ _ _ _
    | exact impl_SumAdd.mono _ _ _ _ _
    | exact laws_eqByteS.mono _ _ _
    | exact laws_eqSum.mono _ _ _ _ _ _ _
    | exact laws_heldSum.mono _ _ _ _ _
    | exact laws_markByteS.mono _ _ _
    | exact laws_markSum.mono _ _ _ _ _
    | exact laws_toByteS.mono _ _
    | exact laws_toSum.mono _ _ _ _
    | exact spec_SumAdd.mono _ _ _ _ _
    | exact LeO.none _
    | refine LeO.ite ?_ ?_
    | refine LeO.bind ?_ (fun _=>?_)
  · intro y0 y1 y2 y3
    unfold laws_FnExactSumAdd.j1
    repeat' first
    | (with_reducible exact ih0 _ _ _ _)
    | (with_reducible exact ih1 _ _ _ _)
    | (with_reducible exact ih2 _ _ _ _ _ _ _ _ _ _ _ _ _ _)
    | (with_reducible exact ih3 _ _ _ _ _ _ _ _ _ _ _ _ _ _)
    | (with_reducible exact ih4 _ _ _ _ _ _ _ _ _ _ _ _ _ _)
    | (with_reducible exact ih5 _ _ _ _ _ _ _ _ _ _ _)
    | (with_reducible exact ih6 _ _ _ _ _ _ _ _ _ _)
    | (with_reducible exact ih7 _ _ _ _ _ _ _ _ _ _ _ _)
    | (with_reducible exact ih8 _ _ _ _ _ _ _ _ _ _ _)
    | (with_reducible exact ih9 _ _ _ _)
    | (with_reducible exact impl_SumAdd.mono _ _ _ _ _)
    | (with_reducible exact laws_eqByteS.mono _ _ _)
    | (with_reducible exact laws_eqSum.mono _ _ _ _ _ _ _)
    | (with_reducible exact laws_heldSum.mono _ _ _ _ _)
    | (with_reducible exact laws_markByteS.mono _ _ _)
    | (with_reducible exact laws_markSum.mono _ _ _ _ _)
    | (with_reducible exact laws_toByteS.mono _ _)
    | (with_reducible exact laws_toSum.mono _ _ _ _)
    | (with_reducible exact spec_SumAdd.mono _ _ _ _ _)
    | (with_reducible exact LeO.refl _)
    | (with_reducible exact LeO.none _)
    | (with_reducible refine LeO.ite ?_ ?_)
    | (with_reducible refine LeO.bind ?_ (fun _=>?_))
    | exact ih0 _ _ _ _
    | exact ih1 _ _ _ _
    | exact ih2 _ _ _ _ _ _ _ _ _ _ _ _ _ _
    | exact ih3 _ _ _ _ _ _ _ _ _ _ _ _ _ _
    | exact ih4 _ _ _ _ _ _ _ _ _ _ _ _ _ _
    | exact ih5 _ _ _ _ _ _ _ _ _ _ _
    | exact ih6 _ _ _ _ _ _ _ _ _ _
    | exact ih7 _ _ _ _ _ _ _ _ _ _ _ _
    | exact ih8 _ _ _ _ _ _ _ _ _ _ _
    | exact ih9 _ _ _ _
    | exact impl_SumAdd.mono _ _ _ _ _
    | exact laws_eqByteS.mono _ _ _
    | exact laws_eqSum.mono _ _ _ _ _ _ _
    | exact laws_heldSum.mono _ _ _ _ _
    | exact laws_markByteS.mono _ _ _
    | exact laws_markSum.mono _ _ _ _ _
    | exact laws_toByteS.mono _ _
    | exact laws_toSum.mono _ _ _ _
    | exact spec_SumAdd.mono _ _ _ _ _
    | exact LeO.none _
    | refine LeO.ite ?_ ?_
    | refine LeO.bind ?_ (fun _=>?_)
  · intro y0 y1 y2 y3 y4 y5 y6 y7 y8 y9 y10 y11 y12 y13
    unfold laws_FnExactSumAdd.j2
    repeat' first
    | (with_reducible exact ih0 _ _ _ _)
    | (with_reducible exact ih1 _ _ _ _)
    | (with_reducible exact ih2 _ _ _ _ _ _ _ _ _ _ _ _ _ _)
    | (with_reducible exact ih3 _ _ _ _ _ _ _ _ _ _ _ _ _ _)
    | (with_reducible exact ih4 _ _ _ _ _ _ _ _ _ _ _ _ _ _)
    | (with_reducible exact ih5 _ _ _ _ _ _ _ _ _ _ _)
    | (with_reducible exact ih6 _ _ _ _ _ _ _ _ _ _)
    | (with_reducible exact ih7 _ _ _ _ _ _ _ _ _ _ _ _)
    | (with_reducible exact ih8 _ _ _ _ _ _ _ _ _ _ _)
    | (with_reducible exact ih9 _ _ _ _)
    | (with_reducible exact impl_SumAdd.mono _ _ _ _ _)
    | (with_reducible exact laws_eqByteS.mono _ _ _)
    | (with_reducible exact laws_eqSum.mono _ _ _ _ _ _ _)
    | (with_reducible exact laws_heldSum.mono _ _ _ _ _)
    | (with_reducible exact laws_markByteS.mono _ _ _)
    | (with_reducible exact laws_markSum.mono _ _ _ _ _)
    | (with_reducible exact laws_toByteS.mono _ _)
    | (with_reducible exact laws_toSum.mono _ _ _ _)
    | (with_reducible exact spec_SumAdd.mono _ _ _ _ _)
    | (with_reducible exact LeO.refl _)
    | (with_reducible exact LeO.none _)
    | (with_reducible refine LeO.ite ?_ ?_)
    | (with_reducible refine LeO.bind ?_ (fun _=>?_))
    | exact ih0 _ _ _ _
    | exact ih1 _ _ _ _
    | exact ih2 _ _ _ _ _ _ _ _ _ _ _ _ _ _
    | exact ih3 _ _ _ _ _ _ _ _ _ _ _ _ _ _
    | exact ih4 _ _ _ _ _ _ _ _ _ _ _ _ _ _
    | exact ih5 _ _ _ _ _ _ _ _ _ _ _
    | exact ih6 _ _ _ _ _ _ _ _ _ _
    | exact ih7 _ _ _ _ _ _ _ _ _ _ _ _
    | exact ih8 _ _ _ _ _ _ _ _ _ _ _
    | exact ih9 _ _ _ _
    | exact impl_SumAdd.mono _ _ _ _ _
    | exact laws_eqByteS.mono _ _ _
    | exact laws_eqSum.mono _ _ _ _ _ _ _
    | exact laws_heldSum.mono _ _ _ _ _
    | exact laws_markByteS.mono _ _ _
    | exact laws_markSum.mono _ _ _ _ _
    | exact laws_toByteS.mono _ _
    | exact laws_toSum.mono _ _ _ _
    | exact spec_SumAdd.mono _ _ _ _ _
    | exact LeO.none _
    | refine LeO.ite ?_ ?_
    | refine LeO.bind ?_ (fun _=>?_)
  · intro y0 y1 y2 y3 y4 y5 y6 y7 y8 y9 y10 y11 y12 y13
    unfold laws_FnExactSumAdd.j3
    repeat' first
    | (with_reducible exact ih0 _ _ _ _)
    | (with_reducible exact ih1 _ _ _ _)
    | (with_reducible exact ih2 _ _ _ _ _ _ _ _ _ _ _ _ _ _)
    | (with_reducible exact ih3 _ _ _ _ _ _ _ _ _ _ _ _ _ _)
    | (with_reducible exact ih4 _ _ _ _ _ _ _ _ _ _ _ _ _ _)
    | (with_reducible exact ih5 _ _ _ _ _ _ _ _ _ _ _)
    | (with_reducible exact ih6 _ _ _ _ _ _ _ _ _ _)
    | (with_reducible exact ih7 _ _ _ _ _ _ _ _ _ _ _ _)
    | (with_reducible exact ih8 _ _ _ _ _ _ _ _ _ _ _)
    | (with_reducible exact ih9 _ _ _ _)
    | (with_reducible exact impl_SumAdd.mono _ _ _ _ _)
    | (with_reducible exact laws_eqByteS.mono _ _ _)
    | (with_reducible exact laws_eqSum.mono _ _ _ _ _ _ _)
    | (with_reducible exact laws_heldSum.mono _ _ _ _ _)
    | (with_reducible exact laws_markByteS.mono _ _ _)
    | (with_reducible exact laws_markSum.mono _ _ _ _ _)
    | (with_reducible exact laws_toByteS.mono _ _)
    | (with_reducible exact laws_toSum.mono _ _ _ _)
    | (with_reducible exact spec_SumAdd.mono _ _ _ _ _)
    | (with_reducible exact LeO.refl _)
    | (with_reducible exact LeO.none _)
    | (with_reducible refine LeO.ite ?_ ?_)
    | (with_reducible refine LeO.bind ?_ (fun _=>?_))
    | exact ih0 _ _ _ _
    | exact ih1 _ _ _ _
    | exact ih2 _ _ _ _ _ _ _ _ _ _ _ _ _ _
    | exact ih3 _ _ _ _ _ _ _ _ _ _ _ _ _ _
    | exact ih4 _ _ _ _ _ _ _ _ _ _ _ _ _ _
    | exact ih5 _ _ _ _ _ _ _ _ _ _ _
    | exact ih6 _ _ _ _ _ _ _ _ _ _
    | exact ih7 _ _ _ _ _ _ _ _ _ _ _ _
    | exact ih8 _ _ _ _ _ _ _ _ _ _ _
    | exact ih9 _ _ _ _
    | exact impl_SumAdd.mono _ _ _ _ _
    | exact laws_eqByteS.mono _ _ _
    | exact laws_eqSum.mono _ _ _ _ _ _ _
    | exact laws_heldSum.mono _ _ _ _ _
    | exact laws_markByteS.mono _ _ _
    | exact laws_markSum.mono _ _ _ _ _
    | exact laws_toByteS.mono _ _
    | exact laws_toSum.mono _ _ _ _
    | exact spec_SumAdd.mono _ _ _ _ _
    | exact LeO.none _
    | refine LeO.ite ?_ ?_
    | refine LeO.bind ?_ (fun _=>?_)
  · intro y0 y1 y2 y3 y4 y5 y6 y7 y8 y9 y10 y11 y12 y13
    unfold laws_FnExactSumAdd.j4
    repeat' first
    | (with_reducible exact ih0 _ _ _ _)
    | (with_reducible exact ih1 _ _ _ _)
    | (with_reducible exact ih2 _ _ _ _ _ _ _ _ _ _ _ _ _ _)
    | (with_reducible exact ih3 _ _ _ _ _ _ _ _ _ _ _ _ _ _)
    | (with_reducible exact ih4 _ _ _ _ _ _ _ _ _ _ _ _ _ _)
    | (with_reducible exact ih5 _ _ _ _ _ _ _ _ _ _ _)
    | (with_reducible exact ih6 _ _ _ _ _ _ _ _ _ _)
    | (with_reducible exact ih7 _ _ _ _ _ _ _ _ _ _ _ _)
    | (with_reducible exact ih8 _ _ _ _ _ _ _ _ _ _ _)
    | (with_reducible exact ih9 _ _ _ _)
    | (with_reducible exact impl_SumAdd.mono _ _ _ _ _)
    | (with_reducible exact laws_eqByteS.mono _ _ _)
    | (with_reducible exact laws_eqSum.mono _ _ _ _ _ _ _)
    | (with_reducible exact laws_heldSum.mono _ _ _ _ _)
    | (with_reducible exact laws_markByteS.mono _ _ _)
    | (with_reducible exact laws_markSum.mono _ _ _ _ _)
    | (with_reducible exact laws_toByteS.mono _ _)
    | (with_reducible exact laws_toSum.mono _ _ _ _)
    | (with_reducible exact spec_SumAdd.mono _ _ _ _ _)
    | (with_reducible exact LeO.refl _)
    | (with_reducible exact LeO.none _)
    | (with_reducible refine LeO.ite ?_ ?_)
    | (with_reducible refine LeO.bind ?_ (fun _=>?_))
    | exact ih0 _ _ _ _
    | exact ih1 _ _ _ _
    | exact ih2 _ _ _ _ _ _ _ _ _ _ _ _ _ _
    | exact ih3 _ _ _ _ _ _ _ _ _ _ _ _ _ _
    | exact ih4 _ _ _ _ _ _ _ _ _ _ _ _ _ _
    | exact ih5 _ _ _ _ _ _ _ _ _ _ _
    | exact ih6 _ _ _ _ _ _ _ _ _ _
    | exact ih7 _ _ _ _ _ _ _ _ _ _ _ _
    | exact ih8 _ _ _ _ _ _ _ _ _ _ _
    | exact ih9 _ _ _ _
    | exact impl_SumAdd.mono _ _ _ _ _
    | exact laws_eqByteS.mono _ _ _
    | exact laws_eqSum.mono _ _ _ _ _ _ _
    | exact laws_heldSum.mono _ _ _ _ _
    | exact laws_markByteS.mono _ _ _
    | exact laws_markSum.mono _ _ _ _ _
    | exact laws_toByteS.mono _ _
    | exact laws_toSum.mono _ _ _ _
    | exact spec_SumAdd.mono _ _ _ _ _
    | exact LeO.none _
    | refine LeO.ite ?_ ?_
    | refine LeO.bind ?_ (fun _=>?_)
  · intro y0 y1 y2 y3 y4 y5 y6 y7 y8 y9 y10
    unfold laws_FnExactSumAdd.j5
    repeat' first
    | (with_reducible exact ih0 _ _ _ _)
    | (with_reducible exact ih1 _ _ _ _)
    | (with_reducible exact ih2 _ _ _ _ _ _ _ _ _ _ _ _ _ _)
    | (with_reducible exact ih3 _ _ _ _ _ _ _ _ _ _ _ _ _ _)
    | (with_reducible exact ih4 _ _ _ _ _ _ _ _ _ _ _ _ _ _)
    | (with_reducible exact ih5 _ _ _ _ _ _ _ _ _ _ _)
    | (with_reducible exact ih6 _ _ _ _ _ _ _ _ _ _)
    | (with_reducible exact ih7 _ _ _ _ _ _ _ _ _ _ _ _)
    | (with_reducible exact ih8 _ _ _ _ _ _ _ _ _ _ _)
    | (with_reducible exact ih9 _ _ _ _)
    | (with_reducible exact impl_SumAdd.mono _ _ _ _ _)
    | (with_reducible exact laws_eqByteS.mono _ _ _)
    | (with_reducible exact laws_eqSum.mono _ _ _ _ _ _ _)
    | (with_reducible exact laws_heldSum.mono _ _ _ _ _)
    | (with_reducible exact laws_markByteS.mono _ _ _)
    | (with_reducible exact laws_markSum.mono _ _ _ _ _)
    | (with_reducible exact laws_toByteS.mono _ _)
    | (with_reducible exact laws_toSum.mono _ _ _ _)
    | (with_reducible exact spec_SumAdd.mono _ _ _ _ _)
    | (with_reducible exact LeO.refl _)
    | (with_reducible exact LeO.none _)
    | (with_reducible refine LeO.ite ?_ ?_)
    | (with_reducible refine LeO.bind ?_ (fun _=>?_))
    | exact ih0 _ _ _ _
    | exact ih1 _ _ _ _
    | exact ih2 _ _ _ _ _ _ _ _ _ _ _ _ _ _
    | exact ih3 _ _ _ _ _ _ _ _ _ _ _ _ _ _
    | exact ih4 _ _ _ _ _ _ _ _ _ _ _ _ _ _
    | exact ih5 _ _ _ _ _ _ _ _ _ _ _
    | exact ih6 _ _ _ _ _ _ _ _ _ _
    | exact ih7 _ _ _ _ _ _ _ _ _ _ _ _
    | exact ih8 _ _ _ _ _ _ _ _ _ _ _
    | exact ih9 _ _ _ _
    | exact impl_SumAdd.mono _ _ _ _ _
    | exact laws_eqByteS.mono _ _ _
    | exact laws_eqSum.mono _ _ _ _ _ _ _
    | exact laws_heldSum.mono _ _ _ _ _
    | exact laws_markByteS.mono _ _ _
    | exact laws_markSum.mono _ _ _ _ _
    | exact laws_toByteS.mono _ _
    | exact laws_toSum.mono _ _ _ _
    | exact spec_SumAdd.mono _ _ _ _ _
    | exact LeO.none _
    | refine LeO.ite ?_ ?_
    | refine LeO.bind ?_ (fun _=>?_)
  · intro y0 y1 y2 y3 y4 y5 y6 y7 y8 y9
    unfold laws_FnExactSumAdd.j6
    repeat' first
    | (with_reducible exact ih0 _ _ _ _)
    | (with_reducible exact ih1 _ _ _ _)
    | (with_reducible exact ih2 _ _ _ _ _ _ _ _ _ _ _ _ _ _)
    | (with_reducible exact ih3 _ _ _ _ _ _ _ _ _ _ _ _ _ _)
    | (with_reducible exact ih4 _ _ _ _ _ _ _ _ _ _ _ _ _ _)
    | (with_reducible exact ih5 _ _ _ _ _ _ _ _ _ _ _)
    | (with_reducible exact ih6 _ _ _ _ _ _ _ _ _ _)
    | (with_reducible exact ih7 _ _ _ _ _ _ _ _ _ _ _ _)
    | (with_reducible exact ih8 _ _ _ _ _ _ _ _ _ _ _)
    | (with_reducible exact ih9 _ _ _ _)
    | (with_reducible exact impl_SumAdd.mono _ _ _ _ _)
    | (with_reducible exact laws_eqByteS.mono _ _ _)
    | (with_reducible exact laws_eqSum.mono _ _ _ _ _ _ _)
    | (with_reducible exact laws_heldSum.mono _ _ _ _ _)
    | (with_reducible exact laws_markByteS.mono _ _ _)
    | (with_reducible exact laws_markSum.mono _ _ _ _ _)
    | (with_reducible exact laws_toByteS.mono _ _)
    | (with_reducible exact laws_toSum.mono _ _ _ _)
    | (with_reducible exact spec_SumAdd.mono _ _ _ _ _)
    | (with_reducible exact LeO.refl _)
    | (with_reducible exact LeO.none _)
    | (with_reducible refine LeO.ite ?_ ?_)
    | (with_reducible refine LeO.bind ?_ (fun _=>?_))
    | exact ih0 _ _ _ _
    | exact ih1 _ _ _ _
    | exact ih2 _ _ _ _ _ _ _ _ _ _ _ _ _ _
    | exact ih3 _ _ _ _ _ _ _ _ _ _ _ _ _ _
    | exact ih4 _ _ _ _ _ _ _ _ _ _ _ _ _ _
    | exact ih5 _ _ _ _ _ _ _ _ _ _ _
    | exact ih6 _ _ _ _ _ _ _ _ _ _
    | exact ih7 _ _ _ _ _ _ _ _ _ _ _ _
    | exact ih8 _ _ _ _ _ _ _ _ _ _ _
    | exact ih9 _ _ _ _
    | exact impl_SumAdd.mono _ _ _ _ _
    | exact laws_eqByteS.mono _ _ _
    | exact laws_eqSum.mono _ _ _ _ _ _ _
    | exact laws_heldSum.mono _ _ _ _ _
    | exact laws_markByteS.mono _ _ _
    | exact laws_markSum.mono _ _ _ _ _
    | exact laws_toByteS.mono _ _
    | exact laws_toSum.mono _ _ _ _
    | exact spec_SumAdd.mono _ _ _ _ _
    | exact LeO.none _
    | refine LeO.ite ?_ ?_
    | refine LeO.bind ?_ (fun _=>?_)
  · intro y0 y1 y2 y3 y4 y5 y6 y7 y8 y9 y10 y11
    unfold laws_FnExactSumAdd.j7
    repeat' first
    | (with_reducible exact ih0 _ _ _ _)
    | (with_reducible exact ih1 _ _ _ _)
    | (with_reducible exact ih2 _ _ _ _ _ _ _ _ _ _ _ _ _ _)
    | (with_reducible exact ih3 _ _ _ _ _ _ _ _ _ _ _ _ _ _)
    | (with_reducible exact ih4 _ _ _ _ _ _ _ _ _ _ _ _ _ _)
    | (with_reducible exact ih5 _ _ _ _ _ _ _ _ _ _ _)
    | (with_reducible exact ih6 _ _ _ _ _ _ _ _ _ _)
    | (with_reducible exact ih7 _ _ _ _ _ _ _ _ _ _ _ _)
    | (with_reducible exact ih8 _ _ _ _ _ _ _ _ _ _ _)
    | (with_reducible exact ih9 _ _ _ _)
    | (with_reducible exact impl_SumAdd.mono _ _ _ _ _)
    | (with_reducible exact laws_eqByteS.mono _ _ _)
    | (with_reducible exact laws_eqSum.mono _ _ _ _ _ _ _)
    | (with_reducible exact laws_heldSum.mono _ _ _ _ _)
    | (with_reducible exact laws_markByteS.mono _ _ _)
    | (with_reducible exact laws_markSum.mono _ _ _ _ _)
    | (with_reducible exact laws_toByteS.mono _ _)
    | (with_reducible exact laws_toSum.mono _ _ _ _)
    | (with_reducible exact spec_SumAdd.mono _ _ _ _ _)
    | (with_reducible exact LeO.refl _)
    | (with_reducible exact LeO.none _)
    | (with_reducible refine LeO.ite ?_ ?_)
    | (with_reducible refine LeO.bind ?_ (fun _=>?_))
    | exact ih0 _ _ _ _
    | exact ih1 _ _ _ _
    | exact ih2 _ _ _ _ _ _ _ _ _ _ _ _ _ _
    | exact ih3 _ _ _ _ _ _ _ _ _ _ _ _ _ _
    | exact ih4 _ _ _ _ _ _ _ _ _ _ _ _ _ _
    | exact ih5 _ _ _ _ _ _ _ _ _ _ _
    | exact ih6 _ _ _ _ _ _ _ _ _ _
    | exact ih7 _ _ _ _ _ _ _ _ _ _ _ _
    | exact ih8 _ _ _ _ _ _ _ _ _ _ _
    | exact ih9 _ _ _ _
    | exact impl_SumAdd.mono _ _ _ _ _
    | exact laws_eqByteS.mono _ _ _
    | exact laws_eqSum.mono _ _ _ _ _ _ _
    | exact laws_heldSum.mono _ _ _ _ _
    | exact laws_markByteS.mono _ _ _
    | exact laws_markSum.mono _ _ _ _ _
    | exact laws_toByteS.mono _ _
    | exact laws_toSum.mono _ _ _ _
    | exact spec_SumAdd.mono _ _ _ _ _
    | exact LeO.none _
    | refine LeO.ite ?_ ?_
    | refine LeO.bind ?_ (fun _=>?_)
  · intro y0 y1 y2 y3 y4 y5 y6 y7 y8 y9 y10
    unfold laws_FnExactSumAdd.j8
    repeat' first
    | (with_reducible exact ih0 _ _ _ _)
    | (with_reducible exact ih1 _ _ _ _)
    | (with_reducible exact ih2 _ _ _ _ _ _ _ _ _ _ _ _ _ _)
    | (with_reducible exact ih3 _ _ _ _ _ _ _ _ _ _ _ _ _ _)
    | (with_reducible exact ih4 _ _ _ _ _ _ _ _ _ _ _ _ _ _)
    | (with_reducible exact ih5 _ _ _ _ _ _ _ _ _ _ _)
    | (with_reducible exact ih6 _ _ _ _ _ _ _ _ _ _)
    | (with_reducible exact ih7 _ _ _ _ _ _ _ _ _ _ _ _)
    | (with_reducible exact ih8 _ _ _ _ _ _ _ _ _ _ _)
    | (with_reducible exact ih9 _ _ _ _)
    | (with_reducible exact impl_SumAdd.mono _ _ _ _ _)
    | (with_reducible exact laws_eqByteS.mono _ _ _)
    | (with_reducible exact laws_eqSum.mono _ _ _ _ _ _ _)
    | (with_reducible exact laws_heldSum.mono _ _ _ _ _)
    | (with_reducible exact laws_markByteS.mono _ _ _)
    | (with_reducible exact laws_markSum.mono _ _ _ _ _)
    | (with_reducible exact laws_toByteS.mono _ _)
    | (with_reducible exact laws_toSum.mono _ _ _ _)
    | (with_reducible exact spec_SumAdd.mono _ _ _ _ _)
    | (with_reducible exact LeO.refl _)
    | (with_reducible exact LeO.none _)
    | (with_reducible refine LeO.ite ?_ ?_)
    | (with_reducible refine LeO.bind ?_ (fun _=>?_))
    | exact ih0 _ _ _ _
    | exact ih1 _ _ _ _
    | exact ih2 _ _ _ _ _ _ _ _ _ _ _ _ _ _
    | exact ih3 _ _ _ _ _ _ _ _ _ _ _ _ _ _
    | exact ih4 _ _ _ _ _ _ _ _ _ _ _ _ _ _
    | exact ih5 _ _ _ _ _ _ _ _ _ _ _
    | exact ih6 _ _ _ _ _ _ _ _ _ _
    | exact ih7 _ _ _ _ _ _ _ _ _ _ _ _
    | exact ih8 _ _ _ _ _ _ _ _ _ _ _
    | exact ih9 _ _ _ _
    | exact impl_SumAdd.mono _ _ _ _ _
    | exact laws_eqByteS.mono _ _ _
    | exact laws_eqSum.mono _ _ _ _ _ _ _
    | exact laws_heldSum.mono _ _ _ _ _
    | exact laws_markByteS.mono _ _ _
    | exact laws_markSum.mono _ _ _ _ _
    | exact laws_toByteS.mono _ _
    | exact laws_toSum.mono _ _ _ _
    | exact spec_SumAdd.mono _ _ _ _ _
    | exact LeO.none _
    | refine LeO.ite ?_ ?_
    | refine LeO.bind ?_ (fun _=>?_)
  · intro y0 y1 y2 y3
    unfold laws_FnExactSumAdd.j9
    repeat' first
    | (with_reducible exact ih0 _ _ _ _)
    | (with_reducible exact ih1 _ _ _ _)
    | (with_reducible exact ih2 _ _ _ _ _ _ _ _ _ _ _ _ _ _)
    | (with_reducible exact ih3 _ _ _ _ _ _ _ _ _ _ _ _ _ _)
    | (with_reducible exact ih4 _ _ _ _ _ _ _ _ _ _ _ _ _ _)
    | (with_reducible exact ih5 _ _ _ _ _ _ _ _ _ _ _)
    | (with_reducible exact ih6 _ _ _ _ _ _ _ _ _ _)
    | (with_reducible exact ih7 _ _ _ _ _ _ _ _ _ _ _ _)
    | (with_reducible exact ih8 _ _ _ _ _ _ _ _ _ _ _)
    | (with_reducible exact ih9 _ _ _ _)
    | (with_reducible exact impl_SumAdd.mono _ _ _ _ _)
    | (with_reducible exact laws_eqByteS.mono _ _ _)
    | (with_reducible exact laws_eqSum.mono _ _ _ _ _ _ _)
    | (with_reducible exact laws_heldSum.mono _ _ _ _ _)
    | (with_reducible exact laws_markByteS.mono _ _ _)
    | (with_reducible exact laws_markSum.mono _ _ _ _ _)
    | (with_reducible exact laws_toByteS.mono _ _)
    | (with_reducible exact laws_toSum.mono _ _ _ _)
    | (with_reducible exact spec_SumAdd.mono _ _ _ _ _)
    | (with_reducible exact LeO.refl _)
    | (with_reducible exact LeO.none _)
    | (with_reducible refine LeO.ite ?_ ?_)
    | (with_reducible refine LeO.bind ?_ (fun _=>?_))
    | exact ih0 _ _ _ _
    | exact ih1 _ _ _ _
    | exact ih2 _ _ _ _ _ _ _ _ _ _ _ _ _ _
    | exact ih3 _ _ _ _ _ _ _ _ _ _ _ _ _ _
    | exact ih4 _ _ _ _ _ _ _ _ _ _ _ _ _ _
    | exact ih5 _ _ _ _ _ _ _ _ _ _ _
    | exact ih6 _ _ _ _ _ _ _ _ _ _
    | exact ih7 _ _ _ _ _ _ _ _ _ _ _ _
    | exact ih8 _ _ _ _ _ _ _ _ _ _ _
    | exact ih9 _ _ _ _
    | exact impl_SumAdd.mono _ _ _ _ _
    | exact laws_eqByteS.mono _ _ _
    | exact laws_eqSum.mono _ _ _ _ _ _ _
    | exact laws_heldSum.mono _ _ _ _ _
    | exact laws_markByteS.mono _ _ _
    | exact laws_markSum.mono _ _ _ _ _
    | exact laws_toByteS.mono _ _
    | exact laws_toSum.mono _ _ _ _
    | exact spec_SumAdd.mono _ _ _ _ _
    | exact LeO.none _
    | refine LeO.ite ?_ ?_
    | refine LeO.bind ?_ (fun _=>?_)
theorem laws_FnExactSumAdd.mono : ∀ a0 a1 a2 a3 k, LeO (laws_FnExactSumAdd.f k a0 a1 a2 a3) (laws_FnExactSumAdd.f (k + 1) a0 a1 a2 a3) := by
 intro a0 a1 a2 a3 k
 obtain ⟨ih0,ih1,ih2,ih3,ih4,ih5,ih6,ih7,ih8,ih9⟩:=laws_FnExactSumAdd.mono_l k
 unfold laws_FnExactSumAdd.f
 repeat' first
  | (with_reducible exact ih0 _ _ _ _)
  | (with_reducible exact ih1 _ _ _ _)
  | (with_reducible exact ih2 _ _ _ _ _ _ _ _ _ _ _ _ _ _)
  | (with_reducible exact ih3 _ _ _ _ _ _ _ _ _ _ _ _ _ _)
  | (with_reducible exact ih4 _ _ _ _ _ _ _ _ _ _ _ _ _ _)
  | (with_reducible exact ih5 _ _ _ _ _ _ _ _ _ _ _)
  | (with_reducible exact ih6 _ _ _ _ _ _ _ _ _ _)
  | (with_reducible exact ih7 _ _ _ _ _ _ _ _ _ _ _ _)
  | (with_reducible exact ih8 _ _ _ _ _ _ _ _ _ _ _)
  | (with_reducible exact ih9 _ _ _ _)
  | (with_reducible exact impl_SumAdd.mono _ _ _ _ _)
  | (with_reducible exact laws_eqByteS.mono _ _ _)
  | (with_reducible exact laws_eqSum.mono _ _ _ _ _ _ _)
  | (with_reducible exact laws_heldSum.mono _ _ _ _ _)
  | (with_reducible exact laws_markByteS.mono _ _ _)
  | (with_reducible exact laws_markSum.mono _ _ _ _ _)
  | (with_reducible exact laws_toByteS.mono _ _)
  | (with_reducible exact laws_toSum.mono _ _ _ _)
  | (with_reducible exact spec_SumAdd.mono _ _ _ _ _)
  | (with_reducible exact LeO.refl _)
  | (with_reducible exact LeO.none _)
  | (with_reducible refine LeO.ite ?_ ?_)
  | (with_reducible refine LeO.bind ?_ (fun _=>?_))
  | exact ih0 _ _ _ _
  | exact ih1 _ _ _ _
  | exact ih2 _ _ _ _ _ _ _ _ _ _ _ _ _ _
  | exact ih3 _ _ _ _ _ _ _ _ _ _ _ _ _ _
  | exact ih4 _ _ _ _ _ _ _ _ _ _ _ _ _ _
  | exact ih5 _ _ _ _ _ _ _ _ _ _ _
  | exact ih6 _ _ _ _ _ _ _ _ _ _
  | exact ih7 _ _ _ _ _ _ _ _ _ _ _ _
  | exact ih8 _ _ _ _ _ _ _ _ _ _ _
  | exact ih9 _ _ _ _
  | exact impl_SumAdd.mono _ _ _ _ _
  | exact laws_eqByteS.mono _ _ _
  | exact laws_eqSum.mono _ _ _ _ _ _ _
  | exact laws_heldSum.mono _ _ _ _ _
  | exact laws_markByteS.mono _ _ _
  | exact laws_markSum.mono _ _ _ _ _
  | exact laws_toByteS.mono _ _
  | exact laws_toSum.mono _ _ _ _
  | exact spec_SumAdd.mono _ _ _ _ _
  | exact LeO.none _
  | refine LeO.ite ?_ ?_
  | refine LeO.bind ?_ (fun _=>?_)
set_option maxHeartbeats 8000000 in
set_option maxRecDepth 100000 in
theorem laws_FnExactSumAdd.calls (k : Nat) (A0_0 : Option Addr) (c0_0 : Nat) (l0_0 : List Int) (a0_1 : Int) (A0_2 : Option Addr) (c0_2 : Nat) (l0_2 : List Int) (A1 : Option Addr) (c1 : Nat) (l1 : List Int) (r : Bool) (w : World) (hr0_0 : Kd.C (Kd.int .i64) w A0_0 l0_0.length l0_0) (hc0_0 : l0_0.length ≤ c0_0) (hr0_2 : Kd.C (Kd.int .u8) w A0_2 l0_2.length l0_2) (hc0_2 : l0_2.length ≤ c0_2) (hr1 : Kd.C (Kd.int .u8) w A1 l1.length l1) (hc1 : l1.length ≤ c1) (h : laws_FnExactSumAdd.f k l0_0 a0_1 l0_2 l1 = some r) :
 Calls Try.prog 3 #[.agg #[.slice A0_0 l0_0.length c0_0, .int .i64 a0_1, .slice A0_2 l0_2.length c0_2], .slice A1 l1.length c1] w fun e w' => e = .returned (.bool r) ∧ Below w.heap.size w w' := by
 have hu25:=Try.underlying25
 have hu27:=Try.underlying27
 have HR0_0:=Aside0.mk hr0_0
 have HC0_0:=Aside0.mk hc0_0
 clear hr0_0 hc0_0
 have HR0_2:=Aside0.mk hr0_2
 have HC0_2:=Aside0.mk hc0_2
 clear hr0_2 hc0_2
 have HR1:=Aside0.mk hr1
 have HC1:=Aside0.mk hc1
 clear hr1 hc1
 have HB:=Aside0.mk (Below.refl w.heap.size w)
 have H : (if (l1.length : Int) > 1048576 then (some true) else (laws_FnExactSumAdd.j0 k l1 l0_0 a0_1 l0_2)) = some r:=h
 clear h
 have HC3:=Aside0.mk H
 clear H
 go_enter Try.func3,Try.ntmps3
 go_upto_if 16 with (first|((with_reducible refine gate_dst (N:=2) rfl ?_);refine box_event ?hg (N:=2) ?hd (cs:=#[.slice A0_0 l0_0.length c0_0,.int .i64 a0_1,.slice A0_2 l0_2.length c0_2]) (t:=25) ?hr ?_;(case hd=>rfl);(case hg=>rfl);(case hr=>first|(go_simp;done)|(go_simp;rfl));intro gb380 hg w4 hbox hb;have n0_:=Aside0.mk (below_step (by repeat (first|(with_reducible first|exact HB.out|apply below_alloc|apply pw_below_drewN|apply below_drew1)|exact HB.out)) hb);have n1_:=Aside0.mk (hbox);have n2_:=Aside0.mk ((by rw [hg];exact (below_size (by repeat (first|(with_reducible first|exact HB.out|apply below_alloc|apply pw_below_drewN|apply below_drew1)|exact HB.out))) : w.heap.size ≤ gb380));have n3_:=Aside0.mk ((by rw [hg];exact (below_size (by repeat (first|(with_reducible first|exact HB.out|apply below_alloc|apply pw_below_drewN|apply below_drew1)|exact HB.out))) : w.heap.size ≤ gb380));clear HB;have HB:=n0_;have BK380:=n1_;have GW380:=n2_;have GE380:=n3_;clear n0_ n1_ n2_ n3_;clear hb hbox hg))
 (try simp only [Act.put,List.setIfInBounds_toArray,List.set_cons_zero,List.set_cons_succ])
 go_cut [] (fun wc=>∃ (kq : Nat),Aside0 (laws_FnExactSumAdd.j0 kq l1 l0_0 a0_1 l0_2 = some r) ∧ Aside0 (kq ≤ k) ∧ Aside0 (wc.heap[gb380]? = some (.cells #[(.slice A0_0 l0_0.length c0_0),.int .i64 a0_1,(.slice A0_2 l0_2.length c0_2)] 25 (0,0))) ∧ Aside0 (Below w.heap.size w wc))
 case first =>
  have H:=HC3.out
  clear HC3
  by_cases c5 : (l1.length : Int) > 1048576
  case pos =>
   rw [if_pos c5] at H
   have c5b0 : decide (1048576 < (l1.length : Int)) = true:=decide_eq_true c5
   have c5b1 : decide (1048576 < l1.length) = true:=decide_eq_true (by omega)
   clear c5
   (first|rw [c5b0]|(simp only [i64_w,i32_w];rw [c5b0])|skip)
   (try (have ABc5:=Aside0.mk c5b0))
   obtain rfl:=Option.some.inj H
   go_wp2
   go_ret
   exact ⟨by first|rfl|(simp [errW_none,errW_some]<;>rfl)|(simp [*,errW_none,errW_some]<;>rfl),by repeat (first|(with_reducible first|exact HB.out|apply below_alloc|apply pw_below_drewN|apply below_drew1|refine below_set ?_ GE380.out)|exact HB.out)⟩
  rw [if_neg c5] at H
  have c5b0 : decide (1048576 < (l1.length : Int)) = false:=decide_eq_false c5
  have c5b1 : decide (1048576 < l1.length) = false:=decide_eq_false (by omega)
  clear c5
  (first|rw [c5b0]|(simp only [i64_w,i32_w];rw [c5b0])|skip)
  (try (have ABc5:=Aside0.mk c5b0))
  have H':=Aside0.mk H
  clear H
  go_wp2
  (try simp only [ABc5.out] at *)
  go_meet
  case rel=>exact ⟨_,H',⟨by first|omega|exact Nat.le_refl _⟩,⟨by (with_reducible repeat (first|refine blk_drewN ?_ _|refine blk_drew ?_|refine blk_alloc ?_ _));exact BK380.out⟩,⟨by repeat (first|(with_reducible first|exact HB.out|apply below_alloc|apply pw_below_drewN|apply below_drew1|refine below_set ?_ GE380.out)|exact HB.out)⟩⟩
 case rest =>
  clear HC3
  (try clear c1);(try clear p2);(try clear c3);(try clear c5);(try clear c5b0);(try clear c5b1)
  obtain ⟨kq,HA,HJ2,BK380,HB⟩:=hcut
  cases kq with
  | zero=>exact absurd HA.out (by simp [laws_FnExactSumAdd.j0])
  | succ kj2 =>
   have H:=HA.out
   clear HA
   simp only [laws_FnExactSumAdd.j0] at H
   replace H:=Option.bind_eq_some_iff.mp H
   obtain ⟨t381,A60,H⟩:=H
   replace H : (if t381 < 0 then (some true) else (laws_FnExactSumAdd.j1 kj2 l1 l0_0 a0_1 l0_2)) = some r:=H
   have A6:=Aside0.mk A60
   clear A60
   have HC7:=Aside0.mk H
   clear H
   have hcz8_0 : wc.cell? ⟨gb380,0,none⟩ = some (.slice A0_0 l0_0.length c0_0):=(blk_cell BK380.out 0).trans rfl
   have hcz8_1 : wc.cell? ⟨gb380,1,none⟩ = some (.int .i64 a0_1):=(blk_cell BK380.out 1).trans rfl
   have hcz8_2 : wc.cell? ⟨gb380,2,none⟩ = some (.slice A0_2 l0_2.length c0_2):=(blk_cell BK380.out 2).trans rfl
   have hfz8_0:=blk_frozen BK380.out 0
   have hfz8_1:=blk_frozen BK380.out 1
   have hfz8_2:=blk_frozen BK380.out 2
   go_upto_if 21 with (first|((with_reducible refine gate_callee (f:=4) rfl ?_);refine goesL_ (some 19) rfl rfl Try.func4 (by kernel_rfl) rfl #[.agg #[.slice A0_0 l0_0.length c0_0,.int .i64 a0_1,.slice A0_2 l0_2.length c0_2],.int .i64 1048576] rfl (by (try simp only [List.map_toArray,List.map_cons,List.map_nil]);first|done|rfl|(simp only [List.length_drop,List.length_take];rfl)) ?_;(with_reducible refine (laws_szSum.calls _ _ l0_0 a0_1 _ _ l0_2 1048576 t381 _ ?side1 ?side2 ?side3 ?side4 A6.out).mono ?_);(case side1=>repeat (first|exact (Kd.C_below HR0_0.out HB.out)|(with_reducible refine Kd.C_alloc ?_ _)|(with_reducible refine Kd.C_drewN ?_ _)|(with_reducible refine Kd.C_drew ?_)));(case side2=>exact HC0_0.out);(case side3=>repeat (first|exact (Kd.C_below HR0_2.out HB.out)|(with_reducible refine Kd.C_alloc ?_ _)|(with_reducible refine Kd.C_drewN ?_ _)|(with_reducible refine Kd.C_drew ?_)));(case side4=>exact HC0_2.out);rintro e w9 ⟨rfl,hb⟩;refine ⟨_,rfl,?_⟩;have n0_:=Aside0.mk (blk_below (g:=gb380) (o:=.cells #[.slice A0_0 l0_0.length c0_0,.int .i64 a0_1,.slice A0_2 l0_2.length c0_2] 25 (0,0)) (by (with_reducible repeat (first|refine blk_drewN ?_ _|refine blk_drew ?_|refine blk_alloc ?_ _));exact BK380.out) hb);have n1_:=Aside0.mk (below_step (by repeat (first|(with_reducible first|exact HB.out|apply below_alloc|apply pw_below_drewN|apply below_drew1|refine below_set ?_ GE380.out)|exact HB.out)) hb);clear BK380;clear HB;have BK380:=n0_;have HB:=n1_;clear n0_ n1_;(try clear hb);(try clear hb2);(try clear hk);(try clear hi)))
   (try simp only [Act.put,List.setIfInBounds_toArray,List.set_cons_zero,List.set_cons_succ])
   go_cut [] (fun wc=>∃ (kq : Nat),Aside0 (laws_FnExactSumAdd.j1 kq l1 l0_0 a0_1 l0_2 = some r) ∧ Aside0 (kq ≤ kj2) ∧ Aside0 (wc.heap[gb380]? = some (.cells #[(.slice A0_0 l0_0.length c0_0),.int .i64 a0_1,(.slice A0_2 l0_2.length c0_2)] 25 (0,0))) ∧ Aside0 (Below w.heap.size w wc))
   case first =>
    have H:=HC7.out
    clear HC7
    by_cases c10 : t381 < 0
    case pos =>
     rw [if_pos c10] at H
     have c10b0 : decide (t381 < 0) = true:=decide_eq_true c10
     clear c10
     (first|rw [c10b0]|(simp only [i64_w,i32_w];rw [c10b0])|skip)
     (try (have ABc10:=Aside0.mk c10b0))
     obtain rfl:=Option.some.inj H
     go_wp2
     go_ret
     exact ⟨by first|rfl|(simp [errW_none,errW_some]<;>rfl)|(simp [*,errW_none,errW_some]<;>rfl),by repeat (first|(with_reducible first|exact HB.out|apply below_alloc|apply pw_below_drewN|apply below_drew1|refine below_set ?_ GE380.out)|exact HB.out)⟩
    rw [if_neg c10] at H
    have c10b0 : decide (t381 < 0) = false:=decide_eq_false c10
    clear c10
    (first|rw [c10b0]|(simp only [i64_w,i32_w];rw [c10b0])|skip)
    (try (have ABc10:=Aside0.mk c10b0))
    have H':=Aside0.mk H
    clear H
    go_wp2
    (try simp only [ABc10.out] at *)
    go_meet
    case rel=>exact ⟨_,H',⟨by have:=HJ2.out;first|omega|exact Nat.le_refl _⟩,⟨by (with_reducible repeat (first|refine blk_drewN ?_ _|refine blk_drew ?_|refine blk_alloc ?_ _));exact BK380.out⟩,⟨by repeat (first|(with_reducible first|exact HB.out|apply below_alloc|apply pw_below_drewN|apply below_drew1|refine below_set ?_ GE380.out)|exact HB.out)⟩⟩
   case rest =>
    clear HC7
    (try clear c1);(try clear p2);(try clear c3);(try clear c4);(try clear c5);(try clear c5b0);(try clear c5b1);(try clear c10);(try clear c10b0);(try clear hcz8_0);(try clear hcz8_1);(try clear hcz8_2);(try clear hfz8_0);(try clear hfz8_1);(try clear hfz8_2);(try clear p2)
    obtain ⟨kq,HA,HJ6,BK380,HB⟩:=hcut
    cases kq with
    | zero=>exact absurd HA.out (by simp [laws_FnExactSumAdd.j1])
    | succ kj6 =>
     have H:=HA.out
     clear HA
     simp only [laws_FnExactSumAdd.j1] at H
     replace H:=Option.bind_eq_some_iff.mp H
     obtain ⟨⟨t382,t385,t386⟩,A110,H⟩:=H
     replace H : ((laws_toByteS.f kj6 l1).bind fun t389=>((spec_SumAdd.f kj6 t382 t385 t386 t389).bind fun bt392=>((laws_toSum.f kj6 l0_0 a0_1 l0_2).bind fun bt400=>((laws_toByteS.f kj6 l1).bind fun t408=>((impl_SumAdd.f kj6 bt400.1 bt400.2.1 bt400.2.2 t408).bind fun bt411=>((laws_eqSum.f kj6 bt411.1 bt411.2.1 bt411.2.2 bt392.1 bt392.2.1 bt392.2.2).bind fun t419=>(if t419 = true then (laws_FnExactSumAdd.j2 kj6 l1 t408 l0_0 a0_1 l0_2 bt392.1 bt392.2.1 bt392.2.2 bt400.1 bt400.2.1 bt400.2.2 bt411.1 bt411.2.1 bt411.2.2) else (some false)))))))) = some r:=H
     have A11:=Aside0.mk A110
     clear A110
     replace H:=Option.bind_eq_some_iff.mp H
     obtain ⟨t389,A120,H⟩:=H
     replace H : ((spec_SumAdd.f kj6 t382 t385 t386 t389).bind fun bt392=>((laws_toSum.f kj6 l0_0 a0_1 l0_2).bind fun bt400=>((laws_toByteS.f kj6 l1).bind fun t408=>((impl_SumAdd.f kj6 bt400.1 bt400.2.1 bt400.2.2 t408).bind fun bt411=>((laws_eqSum.f kj6 bt411.1 bt411.2.1 bt411.2.2 bt392.1 bt392.2.1 bt392.2.2).bind fun t419=>(if t419 = true then (laws_FnExactSumAdd.j2 kj6 l1 t408 l0_0 a0_1 l0_2 bt392.1 bt392.2.1 bt392.2.2 bt400.1 bt400.2.1 bt400.2.2 bt411.1 bt411.2.1 bt411.2.2) else (some false))))))) = some r:=H
     have A12:=Aside0.mk A120
     clear A120
     replace H:=Option.bind_eq_some_iff.mp H
     obtain ⟨⟨t392,t395,t396⟩,A130,H⟩:=H
     replace H : ((laws_toSum.f kj6 l0_0 a0_1 l0_2).bind fun bt400=>((laws_toByteS.f kj6 l1).bind fun t408=>((impl_SumAdd.f kj6 bt400.1 bt400.2.1 bt400.2.2 t408).bind fun bt411=>((laws_eqSum.f kj6 bt411.1 bt411.2.1 bt411.2.2 t392 t395 t396).bind fun t419=>(if t419 = true then (laws_FnExactSumAdd.j2 kj6 l1 t408 l0_0 a0_1 l0_2 t392 t395 t396 bt400.1 bt400.2.1 bt400.2.2 bt411.1 bt411.2.1 bt411.2.2) else (some false)))))) = some r:=H
     have A13:=Aside0.mk A130
     clear A130
     replace H:=Option.bind_eq_some_iff.mp H
     obtain ⟨⟨t400,t403,t404⟩,A140,H⟩:=H
     replace H : ((laws_toByteS.f kj6 l1).bind fun t408=>((impl_SumAdd.f kj6 t400 t403 t404 t408).bind fun bt411=>((laws_eqSum.f kj6 bt411.1 bt411.2.1 bt411.2.2 t392 t395 t396).bind fun t419=>(if t419 = true then (laws_FnExactSumAdd.j2 kj6 l1 t408 l0_0 a0_1 l0_2 t392 t395 t396 t400 t403 t404 bt411.1 bt411.2.1 bt411.2.2) else (some false))))) = some r:=H
     have A14:=Aside0.mk A140
     clear A140
     replace H:=Option.bind_eq_some_iff.mp H
     obtain ⟨t408,A150,H⟩:=H
     replace H : ((impl_SumAdd.f kj6 t400 t403 t404 t408).bind fun bt411=>((laws_eqSum.f kj6 bt411.1 bt411.2.1 bt411.2.2 t392 t395 t396).bind fun t419=>(if t419 = true then (laws_FnExactSumAdd.j2 kj6 l1 t408 l0_0 a0_1 l0_2 t392 t395 t396 t400 t403 t404 bt411.1 bt411.2.1 bt411.2.2) else (some false)))) = some r:=H
     have A15:=Aside0.mk A150
     clear A150
     replace H:=Option.bind_eq_some_iff.mp H
     obtain ⟨⟨t411,t414,t415⟩,A160,H⟩:=H
     replace H : ((laws_eqSum.f kj6 t411 t414 t415 t392 t395 t396).bind fun t419=>(if t419 = true then (laws_FnExactSumAdd.j2 kj6 l1 t408 l0_0 a0_1 l0_2 t392 t395 t396 t400 t403 t404 t411 t414 t415) else (some false))) = some r:=H
     have A16:=Aside0.mk A160
     clear A160
     replace H:=Option.bind_eq_some_iff.mp H
     obtain ⟨t419,A170,H⟩:=H
     replace H : (if t419 = true then (laws_FnExactSumAdd.j2 kj6 l1 t408 l0_0 a0_1 l0_2 t392 t395 t396 t400 t403 t404 t411 t414 t415) else (some false)) = some r:=H
     have A17:=Aside0.mk A170
     clear A170
     have HC18:=Aside0.mk H
     clear H
     have hcz19_0 : wc.cell? ⟨gb380,0,none⟩ = some (.slice A0_0 l0_0.length c0_0):=(blk_cell BK380.out 0).trans rfl
     have hcz19_1 : wc.cell? ⟨gb380,1,none⟩ = some (.int .i64 a0_1):=(blk_cell BK380.out 1).trans rfl
     have hcz19_2 : wc.cell? ⟨gb380,2,none⟩ = some (.slice A0_2 l0_2.length c0_2):=(blk_cell BK380.out 2).trans rfl
     have hfz19_0:=blk_frozen BK380.out 0
     have hfz19_1:=blk_frozen BK380.out 1
     have hfz19_2:=blk_frozen BK380.out 2
     go_upto_if 37 with (first|((with_reducible refine gate_callee (f:=6) rfl ?_);refine goesL_ (some 23) rfl rfl Try.func6 (by kernel_rfl) rfl #[.agg #[.slice A0_0 l0_0.length c0_0,.int .i64 a0_1,.slice A0_2 l0_2.length c0_2]] rfl (by (try simp only [List.map_toArray,List.map_cons,List.map_nil]);first|done|rfl|(simp only [List.length_drop,List.length_take];rfl)) ?_;(with_reducible refine (laws_toSum.calls kj6 _ _ l0_0 a0_1 _ _ l0_2 t382 t385 t386 _ ?side1 ?side2 ?side3 ?side4 A11.out).mono ?_);(case side1=>repeat (first|exact (Kd.C_below HR0_0.out HB.out)|(with_reducible refine Kd.C_alloc ?_ _)|(with_reducible refine Kd.C_drewN ?_ _)|(with_reducible refine Kd.C_drew ?_)));(case side2=>exact HC0_0.out);(case side3=>repeat (first|exact (Kd.C_below HR0_2.out HB.out)|(with_reducible refine Kd.C_alloc ?_ _)|(with_reducible refine Kd.C_drewN ?_ _)|(with_reducible refine Kd.C_drew ?_)));(case side4=>exact HC0_2.out);rintro e w20 ⟨v383,v387,rfl,ho0,ho1,hb⟩;refine ⟨_,rfl,?_⟩;have n0_:=Aside0.mk (Kd.R_lower ho0 (below_size (by repeat (first|(with_reducible first|exact HB.out|apply below_alloc|apply pw_below_drewN|apply below_drew1|refine below_set ?_ GE380.out)|exact HB.out))));have n1_:=Aside0.mk (Kd.R_lower ho1 (below_size (by repeat (first|(with_reducible first|exact HB.out|apply below_alloc|apply pw_below_drewN|apply below_drew1|refine below_set ?_ GE380.out)|exact HB.out))));have n2_:=Aside0.mk (blk_below (g:=gb380) (o:=.cells #[.slice A0_0 l0_0.length c0_0,.int .i64 a0_1,.slice A0_2 l0_2.length c0_2] 25 (0,0)) (by (with_reducible repeat (first|refine blk_drewN ?_ _|refine blk_drew ?_|refine blk_alloc ?_ _));exact BK380.out) hb);have n3_:=Aside0.mk (below_step (by repeat (first|(with_reducible first|exact HB.out|apply below_alloc|apply pw_below_drewN|apply below_drew1|refine below_set ?_ GE380.out)|exact HB.out)) hb);clear BK380;clear HB;have HO384:=n0_;have HO388:=n1_;have BK380:=n2_;have HB:=n3_;clear n0_ n1_ n2_ n3_;(try clear hb);(try clear hb2);(try clear hk);(try clear hi);(try clear ho0);(try clear ho1))|((with_reducible refine gate_callee (f:=7) rfl ?_);refine goesL_ (some 25) rfl rfl Try.func7 (by kernel_rfl) rfl #[.slice A1 l1.length c1] rfl (by (try simp only [List.map_toArray,List.map_cons,List.map_nil]);first|done|rfl|(simp only [List.length_drop,List.length_take];rfl)) ?_;(with_reducible refine (laws_toByteS.calls kj6 _ _ l1 t389 _ ?side1 ?side2 A12.out).mono ?_);(case side1=>repeat (first|exact (Kd.C_below HR1.out HB.out)|(with_reducible refine Kd.C_alloc ?_ _)|(with_reducible refine Kd.C_drewN ?_ _)|(with_reducible refine Kd.C_drew ?_)));(case side2=>exact HC1.out);rintro e w21 ⟨v390,rfl,ho0,hb⟩;refine ⟨_,rfl,?_⟩;have n0_:=Aside0.mk (Kd.R_below (by (with_reducible repeat (first|apply Kd.R_alloc|apply Kd.R_drewN|apply Kd.R_drew));exact HO384.out) hb);have n1_:=Aside0.mk (Kd.R_elder' (by (with_reducible repeat (first|apply Kd.R_alloc|apply Kd.R_drewN|apply Kd.R_drew));exact HO388.out) (Kd.R_base ho0) hb);have n2_:=Aside0.mk (Kd.R_lower (Kd.R_new' ho0 (Kd.R_lt (by (with_reducible repeat (first|apply Kd.R_alloc|apply Kd.R_drewN|apply Kd.R_drew));exact HO388.out))) (below_size (by repeat (first|(with_reducible first|exact HB.out|apply below_alloc|apply pw_below_drewN|apply below_drew1|refine below_set ?_ GE380.out)|exact HB.out))));have n3_:=Aside0.mk (blk_below (g:=gb380) (o:=.cells #[.slice A0_0 l0_0.length c0_0,.int .i64 a0_1,.slice A0_2 l0_2.length c0_2] 25 (0,0)) (by (with_reducible repeat (first|refine blk_drewN ?_ _|refine blk_drew ?_|refine blk_alloc ?_ _));exact BK380.out) hb);have n4_:=Aside0.mk (below_step (by repeat (first|(with_reducible first|exact HB.out|apply below_alloc|apply pw_below_drewN|apply below_drew1|refine below_set ?_ GE380.out)|exact HB.out)) hb);clear HO384;clear HO388;clear BK380;clear HB;have HO384:=n0_;have HO388:=n1_;have HO391:=n2_;have BK380:=n3_;have HB:=n4_;clear n0_ n1_ n2_ n3_ n4_;(try clear hb);(try clear hb2);(try clear hk);(try clear hi);(try clear ho0);obtain ⟨Ao22,co22,eo22⟩:=Kd.R_slice HO384.out;subst eo22;obtain ⟨Ao23,co23,eo23⟩:=Kd.R_slice HO388.out;subst eo23;obtain ⟨Ao24,co24,eo24⟩:=Kd.R_slice HO391.out;subst eo24)|((with_reducible refine gate_callee (f:=5) rfl ?_);refine goesL_ (some 26) rfl rfl Try.func5 (by kernel_rfl) rfl #[.agg #[.slice Ao22 t382.length co22,.int .i64 t385,.slice Ao23 t386.length co23],.slice Ao24 t389.length co24] rfl (by (try simp only [List.map_toArray,List.map_cons,List.map_nil]);first|done|rfl|(simp only [List.length_drop,List.length_take];rfl)) ?_;(with_reducible refine (spec_SumAdd.calls kj6 _ _ t382 t385 _ _ t386 _ _ t389 t392 t395 t396 _ ?side1 ?side2 ?side3 ?side4 ?side5 ?side6 A13.out).mono ?_);(case side1=>repeat (first|exact (Kd.R_reads' HO384.out).2.2|(with_reducible refine Kd.C_alloc ?_ _)|(with_reducible refine Kd.C_drewN ?_ _)|(with_reducible refine Kd.C_drew ?_)));(case side2=>exact (Kd.R_reads' HO384.out).2.1);(case side3=>repeat (first|exact (Kd.R_reads' HO388.out).2.2|(with_reducible refine Kd.C_alloc ?_ _)|(with_reducible refine Kd.C_drewN ?_ _)|(with_reducible refine Kd.C_drew ?_)));(case side4=>exact (Kd.R_reads' HO388.out).2.1);(case side5=>repeat (first|exact (Kd.R_reads' HO391.out).2.2|(with_reducible refine Kd.C_alloc ?_ _)|(with_reducible refine Kd.C_drewN ?_ _)|(with_reducible refine Kd.C_drew ?_)));(case side6=>exact (Kd.R_reads' HO391.out).2.1);rintro e w25 ⟨v393,v397,rfl,ho0,ho1,hb⟩;refine ⟨_,rfl,?_⟩;have n0_:=Aside0.mk (Kd.R_elder' (by (with_reducible repeat (first|apply Kd.R_alloc|apply Kd.R_drewN|apply Kd.R_drew));exact HO384.out) (Kd.R_base ho0) hb);have n1_:=Aside0.mk (Kd.R_elder' (by (with_reducible repeat (first|apply Kd.R_alloc|apply Kd.R_drewN|apply Kd.R_drew));exact HO388.out) (Kd.R_base ho1) hb);have n2_:=Aside0.mk (Kd.R_elder' (by (with_reducible repeat (first|apply Kd.R_alloc|apply Kd.R_drewN|apply Kd.R_drew));exact HO391.out) (Kd.R_base ho1) hb);have n3_:=Aside0.mk (Kd.R_lower (Kd.R_new' ho0 (Kd.R_lt (by (with_reducible repeat (first|apply Kd.R_alloc|apply Kd.R_drewN|apply Kd.R_drew));exact HO384.out))) (below_size (by repeat (first|(with_reducible first|exact HB.out|apply below_alloc|apply pw_below_drewN|apply below_drew1|refine below_set ?_ GE380.out)|exact HB.out))));have n4_:=Aside0.mk (Kd.R_lower (Kd.R_new' (Kd.R_new' ho1 (Kd.R_lt (by (with_reducible repeat (first|apply Kd.R_alloc|apply Kd.R_drewN|apply Kd.R_drew));exact HO388.out))) (Kd.R_lt (by (with_reducible repeat (first|apply Kd.R_alloc|apply Kd.R_drewN|apply Kd.R_drew));exact HO391.out))) (below_size (by repeat (first|(with_reducible first|exact HB.out|apply below_alloc|apply pw_below_drewN|apply below_drew1|refine below_set ?_ GE380.out)|exact HB.out))));have n5_:=Aside0.mk (blk_below (g:=gb380) (o:=.cells #[.slice A0_0 l0_0.length c0_0,.int .i64 a0_1,.slice A0_2 l0_2.length c0_2] 25 (0,0)) (by (with_reducible repeat (first|refine blk_drewN ?_ _|refine blk_drew ?_|refine blk_alloc ?_ _));exact BK380.out) hb);have n6_:=Aside0.mk (below_step (by repeat (first|(with_reducible first|exact HB.out|apply below_alloc|apply pw_below_drewN|apply below_drew1|refine below_set ?_ GE380.out)|exact HB.out)) hb);clear HO384;clear HO388;clear HO391;clear BK380;clear HB;have HO384:=n0_;have HO388:=n1_;have HO391:=n2_;have HO394:=n3_;have HO398:=n4_;have BK380:=n5_;have HB:=n6_;clear n0_ n1_ n2_ n3_ n4_ n5_ n6_;(try clear hb);(try clear hb2);(try clear hk);(try clear hi);(try clear ho0);(try clear ho1))|((with_reducible refine gate_dst (N:=6) rfl ?_);refine box_event ?hg (N:=6) ?hd (cs:=#[.slice none 0 0,.int .i64 0,.slice none 0 0]) (t:=27) ?hr ?_;(case hd=>rfl);(case hg=>rfl);(case hr=>first|(go_simp;done)|(go_simp;rfl));intro gb399 hg w26 hbox hb;have n0_:=Aside0.mk (Kd.R_below (by (with_reducible repeat (first|apply Kd.R_alloc|apply Kd.R_drewN|apply Kd.R_drew));exact HO384.out) hb);have n1_:=Aside0.mk (Kd.R_below (by (with_reducible repeat (first|apply Kd.R_alloc|apply Kd.R_drewN|apply Kd.R_drew));exact HO388.out) hb);have n2_:=Aside0.mk (Kd.R_below (by (with_reducible repeat (first|apply Kd.R_alloc|apply Kd.R_drewN|apply Kd.R_drew));exact HO391.out) hb);have n3_:=Aside0.mk (Kd.R_below (by (with_reducible repeat (first|apply Kd.R_alloc|apply Kd.R_drewN|apply Kd.R_drew));exact HO394.out) hb);have n4_:=Aside0.mk (Kd.R_below (by (with_reducible repeat (first|apply Kd.R_alloc|apply Kd.R_drewN|apply Kd.R_drew));exact HO398.out) hb);have n5_:=Aside0.mk (blk_below (g:=gb380) (o:=.cells #[.slice A0_0 l0_0.length c0_0,.int .i64 a0_1,.slice A0_2 l0_2.length c0_2] 25 (0,0)) (by (with_reducible repeat (first|refine blk_drewN ?_ _|refine blk_drew ?_|refine blk_alloc ?_ _));exact BK380.out) hb);have n6_:=Aside0.mk (below_step (by repeat (first|(with_reducible first|exact HB.out|apply below_alloc|apply pw_below_drewN|apply below_drew1|refine below_set ?_ GE380.out)|exact HB.out)) hb);have n7_:=Aside0.mk (hbox);have n8_:=Aside0.mk ((by rw [hg];exact (below_size (by repeat (first|(with_reducible first|exact HB.out|apply below_alloc|apply pw_below_drewN|apply below_drew1|refine below_set ?_ GE380.out)|exact HB.out))) : w.heap.size ≤ gb399));have n9_:=Aside0.mk ((by rw [hg];exact (below_size (by repeat (first|(with_reducible first|exact HB.out|apply below_alloc|apply pw_below_drewN|apply below_drew1|refine below_set ?_ GE380.out)|exact HB.out))) : w.heap.size ≤ gb399));have n10_:=Aside0.mk ((by rw [hg];exact Nat.ne_of_lt (blk_lt (g:=gb380) (o:=.cells #[.slice A0_0 l0_0.length c0_0,.int .i64 a0_1,.slice A0_2 l0_2.length c0_2] 25 (0,0)) (by (with_reducible repeat (first|refine blk_drewN ?_ _|refine blk_drew ?_|refine blk_alloc ?_ _));exact BK380.out)) : gb380 ≠ gb399));have n11_:=Aside0.mk ((by rw [hg];exact Nat.ne_of_gt (blk_lt (g:=gb380) (o:=.cells #[.slice A0_0 l0_0.length c0_0,.int .i64 a0_1,.slice A0_2 l0_2.length c0_2] 25 (0,0)) (by (with_reducible repeat (first|refine blk_drewN ?_ _|refine blk_drew ?_|refine blk_alloc ?_ _));exact BK380.out)) : gb399 ≠ gb380));clear HO384;clear HO388;clear HO391;clear HO394;clear HO398;clear BK380;clear HB;have HO384:=n0_;have HO388:=n1_;have HO391:=n2_;have HO394:=n3_;have HO398:=n4_;have BK380:=n5_;have HB:=n6_;have BK399:=n7_;have GW399:=n8_;have GE399:=n9_;have NB380_399:=n10_;have NB399_380:=n11_;clear n0_ n1_ n2_ n3_ n4_ n5_ n6_ n7_ n8_ n9_ n10_ n11_;clear hb hbox hg;obtain ⟨Ao27,co27,eo27⟩:=Kd.R_slice HO394.out;subst eo27;have hnb28:=NB399_380.out;have hnc28:=NB380_399.out;have hcz29_0 : w26.cell? ⟨gb399,0,none⟩ = some (.slice none 0 0):=(blk_cell BK399.out 0).trans rfl;have hcz29_1 : w26.cell? ⟨gb399,1,none⟩ = some (.int .i64 0):=(blk_cell BK399.out 1).trans rfl;have hcz29_2 : w26.cell? ⟨gb399,2,none⟩ = some (.slice none 0 0):=(blk_cell BK399.out 2).trans rfl;have hfz29_0:=blk_frozen BK399.out 0;have hfz29_1:=blk_frozen BK399.out 1;have hfz29_2:=blk_frozen BK399.out 2;obtain ⟨Ao30,co30,eo30⟩:=Kd.R_slice HO398.out;subst eo30;have hcz31_0 : w26.cell? ⟨gb380,0,none⟩ = some (.slice A0_0 l0_0.length c0_0):=(blk_cell BK380.out 0).trans rfl;have hcz31_1 : w26.cell? ⟨gb380,1,none⟩ = some (.int .i64 a0_1):=(blk_cell BK380.out 1).trans rfl;have hcz31_2 : w26.cell? ⟨gb380,2,none⟩ = some (.slice A0_2 l0_2.length c0_2):=(blk_cell BK380.out 2).trans rfl;have hfz31_0:=blk_frozen BK380.out 0;have hfz31_1:=blk_frozen BK380.out 1;have hfz31_2:=blk_frozen BK380.out 2)|((with_reducible refine gate_callee (f:=6) rfl ?_);refine goesL_ (some 28) rfl rfl Try.func6 (by kernel_rfl) rfl #[.agg #[.slice A0_0 l0_0.length c0_0,.int .i64 a0_1,.slice A0_2 l0_2.length c0_2]] rfl (by (try simp only [List.map_toArray,List.map_cons,List.map_nil]);first|done|rfl|(simp only [List.length_drop,List.length_take];rfl)) ?_;(with_reducible refine (laws_toSum.calls kj6 _ _ l0_0 a0_1 _ _ l0_2 t400 t403 t404 _ ?side1 ?side2 ?side3 ?side4 A14.out).mono ?_);(case side1=>exact Kd.C_below HR0_0.out (by repeat (first|(with_reducible first|exact HB.out|apply below_alloc|apply pw_below_drewN|apply below_drew1|refine below_set ?_ GE380.out|refine below_set ?_ GE399.out)|exact HB.out)));(case side2=>exact HC0_0.out);(case side3=>exact Kd.C_below HR0_2.out (by repeat (first|(with_reducible first|exact HB.out|apply below_alloc|apply pw_below_drewN|apply below_drew1|refine below_set ?_ GE380.out|refine below_set ?_ GE399.out)|exact HB.out)));(case side4=>exact HC0_2.out);rintro e w32 ⟨v401,v405,rfl,ho0,ho1,hb⟩;refine ⟨_,rfl,?_⟩;have n0_:=Aside0.mk (Kd.R_elder' (by (with_reducible repeat (first|apply Kd.R_alloc|apply Kd.R_drewN|apply Kd.R_drew));exact (Kd.R_mono (Kd.R_far (p:=⟨gb399,2,none⟩) (Kd.R_far (p:=⟨gb399,1,none⟩) (Kd.R_far (p:=⟨gb399,0,none⟩) (Kd.R_types HO384.out BK399.out (by decide)) (fun _ hk=>hk.2) (.slice Ao27 t392.length co27)) (fun _ hk=>hk.2) (.int .i64 t395)) (fun _ hk=>hk.2) (.slice Ao30 t396.length co30)) (fun _ h_=>h_.1))) (Kd.R_base ho0) hb);have n1_:=Aside0.mk (Kd.R_elder' (by (with_reducible repeat (first|apply Kd.R_alloc|apply Kd.R_drewN|apply Kd.R_drew));exact (Kd.R_mono (Kd.R_far (p:=⟨gb399,2,none⟩) (Kd.R_far (p:=⟨gb399,1,none⟩) (Kd.R_far (p:=⟨gb399,0,none⟩) (Kd.R_types HO388.out BK399.out (by decide)) (fun _ hk=>hk.2) (.slice Ao27 t392.length co27)) (fun _ hk=>hk.2) (.int .i64 t395)) (fun _ hk=>hk.2) (.slice Ao30 t396.length co30)) (fun _ h_=>h_.1))) (Kd.R_base ho1) hb);have n2_:=Aside0.mk (Kd.R_elder' (by (with_reducible repeat (first|apply Kd.R_alloc|apply Kd.R_drewN|apply Kd.R_drew));exact (Kd.R_mono (Kd.R_far (p:=⟨gb399,2,none⟩) (Kd.R_far (p:=⟨gb399,1,none⟩) (Kd.R_far (p:=⟨gb399,0,none⟩) (Kd.R_types HO391.out BK399.out (by decide)) (fun _ hk=>hk.2) (.slice Ao27 t392.length co27)) (fun _ hk=>hk.2) (.int .i64 t395)) (fun _ hk=>hk.2) (.slice Ao30 t396.length co30)) (fun _ h_=>h_.1))) (Kd.R_base ho1) hb);have n3_:=Aside0.mk (Kd.R_elder' (by (with_reducible repeat (first|apply Kd.R_alloc|apply Kd.R_drewN|apply Kd.R_drew));exact (Kd.R_mono (Kd.R_far (p:=⟨gb399,2,none⟩) (Kd.R_far (p:=⟨gb399,1,none⟩) (Kd.R_far (p:=⟨gb399,0,none⟩) (Kd.R_types HO394.out BK399.out (by decide)) (fun _ hk=>hk.2) (.slice Ao27 t392.length co27)) (fun _ hk=>hk.2) (.int .i64 t395)) (fun _ hk=>hk.2) (.slice Ao30 t396.length co30)) (fun _ h_=>h_.1))) (Kd.R_base ho0) hb);have n4_:=Aside0.mk (Kd.R_elder' (by (with_reducible repeat (first|apply Kd.R_alloc|apply Kd.R_drewN|apply Kd.R_drew));exact (Kd.R_mono (Kd.R_far (p:=⟨gb399,2,none⟩) (Kd.R_far (p:=⟨gb399,1,none⟩) (Kd.R_far (p:=⟨gb399,0,none⟩) (Kd.R_types HO398.out BK399.out (by decide)) (fun _ hk=>hk.2) (.slice Ao27 t392.length co27)) (fun _ hk=>hk.2) (.int .i64 t395)) (fun _ hk=>hk.2) (.slice Ao30 t396.length co30)) (fun _ h_=>h_.1))) (Kd.R_base ho1) hb);have n5_:=Aside0.mk (Kd.R_lower (Kd.R_new' (Kd.R_new' ho0 (Kd.R_lt (by (with_reducible repeat (first|apply Kd.R_alloc|apply Kd.R_drewN|apply Kd.R_drew));exact (Kd.R_mono (Kd.R_far (p:=⟨gb399,2,none⟩) (Kd.R_far (p:=⟨gb399,1,none⟩) (Kd.R_far (p:=⟨gb399,0,none⟩) (Kd.R_types HO384.out BK399.out (by decide)) (fun _ hk=>hk.2) (.slice Ao27 t392.length co27)) (fun _ hk=>hk.2) (.int .i64 t395)) (fun _ hk=>hk.2) (.slice Ao30 t396.length co30)) (fun _ h_=>h_.1))))) (Kd.R_lt (by (with_reducible repeat (first|apply Kd.R_alloc|apply Kd.R_drewN|apply Kd.R_drew));exact (Kd.R_mono (Kd.R_far (p:=⟨gb399,2,none⟩) (Kd.R_far (p:=⟨gb399,1,none⟩) (Kd.R_far (p:=⟨gb399,0,none⟩) (Kd.R_types HO394.out BK399.out (by decide)) (fun _ hk=>hk.2) (.slice Ao27 t392.length co27)) (fun _ hk=>hk.2) (.int .i64 t395)) (fun _ hk=>hk.2) (.slice Ao30 t396.length co30)) (fun _ h_=>h_.1))))) (below_size (by repeat (first|(with_reducible first|exact HB.out|apply below_alloc|apply pw_below_drewN|apply below_drew1|refine below_set ?_ GE380.out|refine below_set ?_ GE399.out)|exact HB.out))));have n6_:=Aside0.mk (Kd.R_lower (Kd.R_new' (Kd.R_new' (Kd.R_new' ho1 (Kd.R_lt (by (with_reducible repeat (first|apply Kd.R_alloc|apply Kd.R_drewN|apply Kd.R_drew));exact (Kd.R_mono (Kd.R_far (p:=⟨gb399,2,none⟩) (Kd.R_far (p:=⟨gb399,1,none⟩) (Kd.R_far (p:=⟨gb399,0,none⟩) (Kd.R_types HO388.out BK399.out (by decide)) (fun _ hk=>hk.2) (.slice Ao27 t392.length co27)) (fun _ hk=>hk.2) (.int .i64 t395)) (fun _ hk=>hk.2) (.slice Ao30 t396.length co30)) (fun _ h_=>h_.1))))) (Kd.R_lt (by (with_reducible repeat (first|apply Kd.R_alloc|apply Kd.R_drewN|apply Kd.R_drew));exact (Kd.R_mono (Kd.R_far (p:=⟨gb399,2,none⟩) (Kd.R_far (p:=⟨gb399,1,none⟩) (Kd.R_far (p:=⟨gb399,0,none⟩) (Kd.R_types HO391.out BK399.out (by decide)) (fun _ hk=>hk.2) (.slice Ao27 t392.length co27)) (fun _ hk=>hk.2) (.int .i64 t395)) (fun _ hk=>hk.2) (.slice Ao30 t396.length co30)) (fun _ h_=>h_.1))))) (Kd.R_lt (by (with_reducible repeat (first|apply Kd.R_alloc|apply Kd.R_drewN|apply Kd.R_drew));exact (Kd.R_mono (Kd.R_far (p:=⟨gb399,2,none⟩) (Kd.R_far (p:=⟨gb399,1,none⟩) (Kd.R_far (p:=⟨gb399,0,none⟩) (Kd.R_types HO398.out BK399.out (by decide)) (fun _ hk=>hk.2) (.slice Ao27 t392.length co27)) (fun _ hk=>hk.2) (.int .i64 t395)) (fun _ hk=>hk.2) (.slice Ao30 t396.length co30)) (fun _ h_=>h_.1))))) (below_size (by repeat (first|(with_reducible first|exact HB.out|apply below_alloc|apply pw_below_drewN|apply below_drew1|refine below_set ?_ GE380.out|refine below_set ?_ GE399.out)|exact HB.out))));have n7_:=Aside0.mk (blk_below (g:=gb380) (o:=.cells #[.slice A0_0 l0_0.length c0_0,.int .i64 a0_1,.slice A0_2 l0_2.length c0_2] 25 (0,0)) (by (with_reducible repeat (first|refine blk_drewN ?_ _|refine blk_drew ?_|refine blk_alloc ?_ _));refine blk_far ?_ NB380_399.out _;(with_reducible repeat (first|refine blk_drewN ?_ _|refine blk_drew ?_|refine blk_alloc ?_ _));refine blk_far ?_ NB380_399.out _;(with_reducible repeat (first|refine blk_drewN ?_ _|refine blk_drew ?_|refine blk_alloc ?_ _));refine blk_far ?_ NB380_399.out _;(with_reducible repeat (first|refine blk_drewN ?_ _|refine blk_drew ?_|refine blk_alloc ?_ _));exact BK380.out) hb);have n8_:=Aside0.mk (blk_below (g:=gb399) (o:=.cells #[.slice Ao27 t392.length co27,.int .i64 t395,.slice Ao30 t396.length co30] 27 (0,0)) (by (with_reducible repeat (first|refine blk_drewN ?_ _|refine blk_drew ?_|refine blk_alloc ?_ _));refine blk_put (cs:=#[.slice Ao27 t392.length co27,.int .i64 t395,.slice none 0 0]) ?_ 2 _ rfl;(with_reducible repeat (first|refine blk_drewN ?_ _|refine blk_drew ?_|refine blk_alloc ?_ _));refine blk_put (cs:=#[.slice Ao27 t392.length co27,.int .i64 0,.slice none 0 0]) ?_ 1 _ rfl;(with_reducible repeat (first|refine blk_drewN ?_ _|refine blk_drew ?_|refine blk_alloc ?_ _));refine blk_put (cs:=#[.slice none 0 0,.int .i64 0,.slice none 0 0]) ?_ 0 _ rfl;(with_reducible repeat (first|refine blk_drewN ?_ _|refine blk_drew ?_|refine blk_alloc ?_ _));exact BK399.out) hb);have n9_:=Aside0.mk (below_step (by repeat (first|(with_reducible first|exact HB.out|apply below_alloc|apply pw_below_drewN|apply below_drew1|refine below_set ?_ GE380.out|refine below_set ?_ GE399.out)|exact HB.out)) hb);clear HO384;clear HO388;clear HO391;clear HO394;clear HO398;clear BK380;clear BK399;clear HB;have HO384:=n0_;have HO388:=n1_;have HO391:=n2_;have HO394:=n3_;have HO398:=n4_;have HO402:=n5_;have HO406:=n6_;have BK380:=n7_;have BK399:=n8_;have HB:=n9_;clear n0_ n1_ n2_ n3_ n4_ n5_ n6_ n7_ n8_ n9_;(try clear hb);(try clear hb2);(try clear hk);(try clear hi);(try clear ho0);(try clear ho1))|((with_reducible refine gate_dst (N:=7) rfl ?_);refine box_event ?hg (N:=7) ?hd (cs:=#[.slice none 0 0,.int .i64 0,.slice none 0 0]) (t:=27) ?hr ?_;(case hd=>rfl);(case hg=>rfl);(case hr=>first|(go_simp;done)|(go_simp;rfl));intro gb407 hg w33 hbox hb;have n0_:=Aside0.mk (Kd.R_below (by (with_reducible repeat (first|apply Kd.R_alloc|apply Kd.R_drewN|apply Kd.R_drew));exact HO384.out) hb);have n1_:=Aside0.mk (Kd.R_below (by (with_reducible repeat (first|apply Kd.R_alloc|apply Kd.R_drewN|apply Kd.R_drew));exact HO388.out) hb);have n2_:=Aside0.mk (Kd.R_below (by (with_reducible repeat (first|apply Kd.R_alloc|apply Kd.R_drewN|apply Kd.R_drew));exact HO391.out) hb);have n3_:=Aside0.mk (Kd.R_below (by (with_reducible repeat (first|apply Kd.R_alloc|apply Kd.R_drewN|apply Kd.R_drew));exact HO394.out) hb);have n4_:=Aside0.mk (Kd.R_below (by (with_reducible repeat (first|apply Kd.R_alloc|apply Kd.R_drewN|apply Kd.R_drew));exact HO398.out) hb);have n5_:=Aside0.mk (Kd.R_below (by (with_reducible repeat (first|apply Kd.R_alloc|apply Kd.R_drewN|apply Kd.R_drew));exact HO402.out) hb);have n6_:=Aside0.mk (Kd.R_below (by (with_reducible repeat (first|apply Kd.R_alloc|apply Kd.R_drewN|apply Kd.R_drew));exact HO406.out) hb);have n7_:=Aside0.mk (blk_below (g:=gb380) (o:=.cells #[.slice A0_0 l0_0.length c0_0,.int .i64 a0_1,.slice A0_2 l0_2.length c0_2] 25 (0,0)) (by (with_reducible repeat (first|refine blk_drewN ?_ _|refine blk_drew ?_|refine blk_alloc ?_ _));exact BK380.out) hb);have n8_:=Aside0.mk (blk_below (g:=gb399) (o:=.cells #[.slice Ao27 t392.length co27,.int .i64 t395,.slice Ao30 t396.length co30] 27 (0,0)) (by (with_reducible repeat (first|refine blk_drewN ?_ _|refine blk_drew ?_|refine blk_alloc ?_ _));exact BK399.out) hb);have n9_:=Aside0.mk (below_step (by repeat (first|(with_reducible first|exact HB.out|apply below_alloc|apply pw_below_drewN|apply below_drew1|refine below_set ?_ GE380.out|refine below_set ?_ GE399.out)|exact HB.out)) hb);have n10_:=Aside0.mk (hbox);have n11_:=Aside0.mk ((by rw [hg];exact (below_size (by repeat (first|(with_reducible first|exact HB.out|apply below_alloc|apply pw_below_drewN|apply below_drew1|refine below_set ?_ GE380.out|refine below_set ?_ GE399.out)|exact HB.out))) : w.heap.size ≤ gb407));have n12_:=Aside0.mk ((by rw [hg];exact (below_size (by repeat (first|(with_reducible first|exact HB.out|apply below_alloc|apply pw_below_drewN|apply below_drew1|refine below_set ?_ GE380.out|refine below_set ?_ GE399.out)|exact HB.out))) : w.heap.size ≤ gb407));have n13_:=Aside0.mk ((by rw [hg];exact Nat.ne_of_lt (blk_lt (g:=gb380) (o:=.cells #[.slice A0_0 l0_0.length c0_0,.int .i64 a0_1,.slice A0_2 l0_2.length c0_2] 25 (0,0)) (by (with_reducible repeat (first|refine blk_drewN ?_ _|refine blk_drew ?_|refine blk_alloc ?_ _));exact BK380.out)) : gb380 ≠ gb407));have n14_:=Aside0.mk ((by rw [hg];exact Nat.ne_of_gt (blk_lt (g:=gb380) (o:=.cells #[.slice A0_0 l0_0.length c0_0,.int .i64 a0_1,.slice A0_2 l0_2.length c0_2] 25 (0,0)) (by (with_reducible repeat (first|refine blk_drewN ?_ _|refine blk_drew ?_|refine blk_alloc ?_ _));exact BK380.out)) : gb407 ≠ gb380));have n15_:=Aside0.mk ((by rw [hg];exact Nat.ne_of_lt (blk_lt (g:=gb399) (o:=.cells #[.slice Ao27 t392.length co27,.int .i64 t395,.slice Ao30 t396.length co30] 27 (0,0)) (by (with_reducible repeat (first|refine blk_drewN ?_ _|refine blk_drew ?_|refine blk_alloc ?_ _));exact BK399.out)) : gb399 ≠ gb407));have n16_:=Aside0.mk ((by rw [hg];exact Nat.ne_of_gt (blk_lt (g:=gb399) (o:=.cells #[.slice Ao27 t392.length co27,.int .i64 t395,.slice Ao30 t396.length co30] 27 (0,0)) (by (with_reducible repeat (first|refine blk_drewN ?_ _|refine blk_drew ?_|refine blk_alloc ?_ _));exact BK399.out)) : gb407 ≠ gb399));clear HO384;clear HO388;clear HO391;clear HO394;clear HO398;clear HO402;clear HO406;clear BK380;clear BK399;clear HB;have HO384:=n0_;have HO388:=n1_;have HO391:=n2_;have HO394:=n3_;have HO398:=n4_;have HO402:=n5_;have HO406:=n6_;have BK380:=n7_;have BK399:=n8_;have HB:=n9_;have BK407:=n10_;have GW407:=n11_;have GE407:=n12_;have NB380_407:=n13_;have NB407_380:=n14_;have NB399_407:=n15_;have NB407_399:=n16_;clear n0_ n1_ n2_ n3_ n4_ n5_ n6_ n7_ n8_ n9_ n10_ n11_ n12_ n13_ n14_ n15_ n16_;clear hb hbox hg;obtain ⟨Ao34,co34,eo34⟩:=Kd.R_slice HO402.out;subst eo34;have hnb35:=NB407_380.out;have hnc35:=NB380_407.out;have hnb36:=NB407_399.out;have hnc36:=NB399_407.out;have hcz37_0 : w33.cell? ⟨gb407,0,none⟩ = some (.slice none 0 0):=(blk_cell BK407.out 0).trans rfl;have hcz37_1 : w33.cell? ⟨gb407,1,none⟩ = some (.int .i64 0):=(blk_cell BK407.out 1).trans rfl;have hcz37_2 : w33.cell? ⟨gb407,2,none⟩ = some (.slice none 0 0):=(blk_cell BK407.out 2).trans rfl;have hfz37_0:=blk_frozen BK407.out 0;have hfz37_1:=blk_frozen BK407.out 1;have hfz37_2:=blk_frozen BK407.out 2;obtain ⟨Ao38,co38,eo38⟩:=Kd.R_slice HO406.out;subst eo38)|((with_reducible refine gate_callee (f:=7) rfl ?_);refine goesL_ (some 30) rfl rfl Try.func7 (by kernel_rfl) rfl #[.slice A1 l1.length c1] rfl (by (try simp only [List.map_toArray,List.map_cons,List.map_nil]);first|done|rfl|(simp only [List.length_drop,List.length_take];rfl)) ?_;(with_reducible refine (laws_toByteS.calls kj6 _ _ l1 t408 _ ?side1 ?side2 A15.out).mono ?_);(case side1=>exact Kd.C_below HR1.out (by repeat (first|(with_reducible first|exact HB.out|apply below_alloc|apply pw_below_drewN|apply below_drew1|refine below_set ?_ GE380.out|refine below_set ?_ GE399.out|refine below_set ?_ GE407.out)|exact HB.out)));(case side2=>exact HC1.out);rintro e w39 ⟨v409,rfl,ho0,hb⟩;refine ⟨_,rfl,?_⟩;have n0_:=Aside0.mk (Kd.R_below (by (with_reducible repeat (first|apply Kd.R_alloc|apply Kd.R_drewN|apply Kd.R_drew));exact (Kd.R_mono (Kd.R_far (p:=⟨gb407,2,none⟩) (Kd.R_far (p:=⟨gb407,1,none⟩) (Kd.R_far (p:=⟨gb407,0,none⟩) (Kd.R_types HO384.out BK407.out (by decide)) (fun _ hk=>hk.2) (.slice Ao34 t400.length co34)) (fun _ hk=>hk.2) (.int .i64 t403)) (fun _ hk=>hk.2) (.slice Ao38 t404.length co38)) (fun _ h_=>h_.1))) hb);have n1_:=Aside0.mk (Kd.R_elder' (by (with_reducible repeat (first|apply Kd.R_alloc|apply Kd.R_drewN|apply Kd.R_drew));exact (Kd.R_mono (Kd.R_far (p:=⟨gb407,2,none⟩) (Kd.R_far (p:=⟨gb407,1,none⟩) (Kd.R_far (p:=⟨gb407,0,none⟩) (Kd.R_types HO388.out BK407.out (by decide)) (fun _ hk=>hk.2) (.slice Ao34 t400.length co34)) (fun _ hk=>hk.2) (.int .i64 t403)) (fun _ hk=>hk.2) (.slice Ao38 t404.length co38)) (fun _ h_=>h_.1))) (Kd.R_base ho0) hb);have n2_:=Aside0.mk (Kd.R_elder' (by (with_reducible repeat (first|apply Kd.R_alloc|apply Kd.R_drewN|apply Kd.R_drew));exact (Kd.R_mono (Kd.R_far (p:=⟨gb407,2,none⟩) (Kd.R_far (p:=⟨gb407,1,none⟩) (Kd.R_far (p:=⟨gb407,0,none⟩) (Kd.R_types HO391.out BK407.out (by decide)) (fun _ hk=>hk.2) (.slice Ao34 t400.length co34)) (fun _ hk=>hk.2) (.int .i64 t403)) (fun _ hk=>hk.2) (.slice Ao38 t404.length co38)) (fun _ h_=>h_.1))) (Kd.R_base ho0) hb);have n3_:=Aside0.mk (Kd.R_below (by (with_reducible repeat (first|apply Kd.R_alloc|apply Kd.R_drewN|apply Kd.R_drew));exact (Kd.R_mono (Kd.R_far (p:=⟨gb407,2,none⟩) (Kd.R_far (p:=⟨gb407,1,none⟩) (Kd.R_far (p:=⟨gb407,0,none⟩) (Kd.R_types HO394.out BK407.out (by decide)) (fun _ hk=>hk.2) (.slice Ao34 t400.length co34)) (fun _ hk=>hk.2) (.int .i64 t403)) (fun _ hk=>hk.2) (.slice Ao38 t404.length co38)) (fun _ h_=>h_.1))) hb);have n4_:=Aside0.mk (Kd.R_elder' (by (with_reducible repeat (first|apply Kd.R_alloc|apply Kd.R_drewN|apply Kd.R_drew));exact (Kd.R_mono (Kd.R_far (p:=⟨gb407,2,none⟩) (Kd.R_far (p:=⟨gb407,1,none⟩) (Kd.R_far (p:=⟨gb407,0,none⟩) (Kd.R_types HO398.out BK407.out (by decide)) (fun _ hk=>hk.2) (.slice Ao34 t400.length co34)) (fun _ hk=>hk.2) (.int .i64 t403)) (fun _ hk=>hk.2) (.slice Ao38 t404.length co38)) (fun _ h_=>h_.1))) (Kd.R_base ho0) hb);have n5_:=Aside0.mk (Kd.R_below (by (with_reducible repeat (first|apply Kd.R_alloc|apply Kd.R_drewN|apply Kd.R_drew));exact (Kd.R_mono (Kd.R_far (p:=⟨gb407,2,none⟩) (Kd.R_far (p:=⟨gb407,1,none⟩) (Kd.R_far (p:=⟨gb407,0,none⟩) (Kd.R_types HO402.out BK407.out (by decide)) (fun _ hk=>hk.2) (.slice Ao34 t400.length co34)) (fun _ hk=>hk.2) (.int .i64 t403)) (fun _ hk=>hk.2) (.slice Ao38 t404.length co38)) (fun _ h_=>h_.1))) hb);have n6_:=Aside0.mk (Kd.R_elder' (by (with_reducible repeat (first|apply Kd.R_alloc|apply Kd.R_drewN|apply Kd.R_drew));exact (Kd.R_mono (Kd.R_far (p:=⟨gb407,2,none⟩) (Kd.R_far (p:=⟨gb407,1,none⟩) (Kd.R_far (p:=⟨gb407,0,none⟩) (Kd.R_types HO406.out BK407.out (by decide)) (fun _ hk=>hk.2) (.slice Ao34 t400.length co34)) (fun _ hk=>hk.2) (.int .i64 t403)) (fun _ hk=>hk.2) (.slice Ao38 t404.length co38)) (fun _ h_=>h_.1))) (Kd.R_base ho0) hb);have n7_:=Aside0.mk (Kd.R_lower (Kd.R_new' (Kd.R_new' (Kd.R_new' (Kd.R_new' ho0 (Kd.R_lt (by (with_reducible repeat (first|apply Kd.R_alloc|apply Kd.R_drewN|apply Kd.R_drew));exact (Kd.R_mono (Kd.R_far (p:=⟨gb407,2,none⟩) (Kd.R_far (p:=⟨gb407,1,none⟩) (Kd.R_far (p:=⟨gb407,0,none⟩) (Kd.R_types HO388.out BK407.out (by decide)) (fun _ hk=>hk.2) (.slice Ao34 t400.length co34)) (fun _ hk=>hk.2) (.int .i64 t403)) (fun _ hk=>hk.2) (.slice Ao38 t404.length co38)) (fun _ h_=>h_.1))))) (Kd.R_lt (by (with_reducible repeat (first|apply Kd.R_alloc|apply Kd.R_drewN|apply Kd.R_drew));exact (Kd.R_mono (Kd.R_far (p:=⟨gb407,2,none⟩) (Kd.R_far (p:=⟨gb407,1,none⟩) (Kd.R_far (p:=⟨gb407,0,none⟩) (Kd.R_types HO391.out BK407.out (by decide)) (fun _ hk=>hk.2) (.slice Ao34 t400.length co34)) (fun _ hk=>hk.2) (.int .i64 t403)) (fun _ hk=>hk.2) (.slice Ao38 t404.length co38)) (fun _ h_=>h_.1))))) (Kd.R_lt (by (with_reducible repeat (first|apply Kd.R_alloc|apply Kd.R_drewN|apply Kd.R_drew));exact (Kd.R_mono (Kd.R_far (p:=⟨gb407,2,none⟩) (Kd.R_far (p:=⟨gb407,1,none⟩) (Kd.R_far (p:=⟨gb407,0,none⟩) (Kd.R_types HO398.out BK407.out (by decide)) (fun _ hk=>hk.2) (.slice Ao34 t400.length co34)) (fun _ hk=>hk.2) (.int .i64 t403)) (fun _ hk=>hk.2) (.slice Ao38 t404.length co38)) (fun _ h_=>h_.1))))) (Kd.R_lt (by (with_reducible repeat (first|apply Kd.R_alloc|apply Kd.R_drewN|apply Kd.R_drew));exact (Kd.R_mono (Kd.R_far (p:=⟨gb407,2,none⟩) (Kd.R_far (p:=⟨gb407,1,none⟩) (Kd.R_far (p:=⟨gb407,0,none⟩) (Kd.R_types HO406.out BK407.out (by decide)) (fun _ hk=>hk.2) (.slice Ao34 t400.length co34)) (fun _ hk=>hk.2) (.int .i64 t403)) (fun _ hk=>hk.2) (.slice Ao38 t404.length co38)) (fun _ h_=>h_.1))))) (below_size (by repeat (first|(with_reducible first|exact HB.out|apply below_alloc|apply pw_below_drewN|apply below_drew1|refine below_set ?_ GE380.out|refine below_set ?_ GE399.out|refine below_set ?_ GE407.out)|exact HB.out))));have n8_:=Aside0.mk (blk_below (g:=gb380) (o:=.cells #[.slice A0_0 l0_0.length c0_0,.int .i64 a0_1,.slice A0_2 l0_2.length c0_2] 25 (0,0)) (by (with_reducible repeat (first|refine blk_drewN ?_ _|refine blk_drew ?_|refine blk_alloc ?_ _));refine blk_far ?_ NB380_407.out _;(with_reducible repeat (first|refine blk_drewN ?_ _|refine blk_drew ?_|refine blk_alloc ?_ _));refine blk_far ?_ NB380_407.out _;(with_reducible repeat (first|refine blk_drewN ?_ _|refine blk_drew ?_|refine blk_alloc ?_ _));refine blk_far ?_ NB380_407.out _;(with_reducible repeat (first|refine blk_drewN ?_ _|refine blk_drew ?_|refine blk_alloc ?_ _));exact BK380.out) hb);have n9_:=Aside0.mk (blk_below (g:=gb399) (o:=.cells #[.slice Ao27 t392.length co27,.int .i64 t395,.slice Ao30 t396.length co30] 27 (0,0)) (by (with_reducible repeat (first|refine blk_drewN ?_ _|refine blk_drew ?_|refine blk_alloc ?_ _));refine blk_far ?_ NB399_407.out _;(with_reducible repeat (first|refine blk_drewN ?_ _|refine blk_drew ?_|refine blk_alloc ?_ _));refine blk_far ?_ NB399_407.out _;(with_reducible repeat (first|refine blk_drewN ?_ _|refine blk_drew ?_|refine blk_alloc ?_ _));refine blk_far ?_ NB399_407.out _;(with_reducible repeat (first|refine blk_drewN ?_ _|refine blk_drew ?_|refine blk_alloc ?_ _));exact BK399.out) hb);have n10_:=Aside0.mk (blk_below (g:=gb407) (o:=.cells #[.slice Ao34 t400.length co34,.int .i64 t403,.slice Ao38 t404.length co38] 27 (0,0)) (by (with_reducible repeat (first|refine blk_drewN ?_ _|refine blk_drew ?_|refine blk_alloc ?_ _));refine blk_put (cs:=#[.slice Ao34 t400.length co34,.int .i64 t403,.slice none 0 0]) ?_ 2 _ rfl;(with_reducible repeat (first|refine blk_drewN ?_ _|refine blk_drew ?_|refine blk_alloc ?_ _));refine blk_put (cs:=#[.slice Ao34 t400.length co34,.int .i64 0,.slice none 0 0]) ?_ 1 _ rfl;(with_reducible repeat (first|refine blk_drewN ?_ _|refine blk_drew ?_|refine blk_alloc ?_ _));refine blk_put (cs:=#[.slice none 0 0,.int .i64 0,.slice none 0 0]) ?_ 0 _ rfl;(with_reducible repeat (first|refine blk_drewN ?_ _|refine blk_drew ?_|refine blk_alloc ?_ _));exact BK407.out) hb);have n11_:=Aside0.mk (below_step (by repeat (first|(with_reducible first|exact HB.out|apply below_alloc|apply pw_below_drewN|apply below_drew1|refine below_set ?_ GE380.out|refine below_set ?_ GE399.out|refine below_set ?_ GE407.out)|exact HB.out)) hb);clear HO384;clear HO388;clear HO391;clear HO394;clear HO398;clear HO402;clear HO406;clear BK380;clear BK399;clear BK407;clear HB;have HO384:=n0_;have HO388:=n1_;have HO391:=n2_;have HO394:=n3_;have HO398:=n4_;have HO402:=n5_;have HO406:=n6_;have HO410:=n7_;have BK380:=n8_;have BK399:=n9_;have BK407:=n10_;have HB:=n11_;clear n0_ n1_ n2_ n3_ n4_ n5_ n6_ n7_ n8_ n9_ n10_ n11_;(try clear hb);(try clear hb2);(try clear hk);(try clear hi);(try clear ho0);have hcz40_0 : w39.cell? ⟨gb407,0,none⟩ = some (.slice Ao34 t400.length co34):=(blk_cell BK407.out 0).trans rfl;have hcz40_1 : w39.cell? ⟨gb407,1,none⟩ = some (.int .i64 t403):=(blk_cell BK407.out 1).trans rfl;have hcz40_2 : w39.cell? ⟨gb407,2,none⟩ = some (.slice Ao38 t404.length co38):=(blk_cell BK407.out 2).trans rfl;have hfz40_0:=blk_frozen BK407.out 0;have hfz40_1:=blk_frozen BK407.out 1;have hfz40_2:=blk_frozen BK407.out 2;obtain ⟨Ao41,co41,eo41⟩:=Kd.R_slice HO410.out;subst eo41)|((with_reducible refine gate_callee (f:=8) rfl ?_);refine goesL_ (some 33) rfl rfl Try.func8 (by kernel_rfl) rfl #[.agg #[.slice Ao34 t400.length co34,.int .i64 t403,.slice Ao38 t404.length co38],.slice Ao41 t408.length co41] rfl (by (try simp only [List.map_toArray,List.map_cons,List.map_nil]);first|done|rfl|(simp only [List.length_drop,List.length_take];rfl)) ?_;(with_reducible refine (impl_SumAdd.calls kj6 _ _ t400 t403 _ _ t404 _ _ t408 t411 t414 t415 _ ?side1 ?side2 ?side3 ?side4 ?side5 ?side6 A16.out).mono ?_);(case side1=>repeat (first|exact (Kd.R_reads' HO402.out).2.2|(with_reducible refine Kd.C_alloc ?_ _)|(with_reducible refine Kd.C_drewN ?_ _)|(with_reducible refine Kd.C_drew ?_)));(case side2=>exact (Kd.R_reads' HO402.out).2.1);(case side3=>repeat (first|exact (Kd.R_reads' HO406.out).2.2|(with_reducible refine Kd.C_alloc ?_ _)|(with_reducible refine Kd.C_drewN ?_ _)|(with_reducible refine Kd.C_drew ?_)));(case side4=>exact (Kd.R_reads' HO406.out).2.1);(case side5=>repeat (first|exact (Kd.R_reads' HO410.out).2.2|(with_reducible refine Kd.C_alloc ?_ _)|(with_reducible refine Kd.C_drewN ?_ _)|(with_reducible refine Kd.C_drew ?_)));(case side6=>exact (Kd.R_reads' HO410.out).2.1);rintro e w42 ⟨v412,v416,rfl,ho0,ho1,hb⟩;refine ⟨_,rfl,?_⟩;have n0_:=Aside0.mk (Kd.R_elder' (by (with_reducible repeat (first|apply Kd.R_alloc|apply Kd.R_drewN|apply Kd.R_drew));exact HO384.out) (Kd.R_base ho0) hb);have n1_:=Aside0.mk (Kd.R_elder' (by (with_reducible repeat (first|apply Kd.R_alloc|apply Kd.R_drewN|apply Kd.R_drew));exact HO388.out) (Kd.R_base ho1) hb);have n2_:=Aside0.mk (Kd.R_elder' (by (with_reducible repeat (first|apply Kd.R_alloc|apply Kd.R_drewN|apply Kd.R_drew));exact HO391.out) (Kd.R_base ho1) hb);have n3_:=Aside0.mk (Kd.R_elder' (by (with_reducible repeat (first|apply Kd.R_alloc|apply Kd.R_drewN|apply Kd.R_drew));exact HO394.out) (Kd.R_base ho0) hb);have n4_:=Aside0.mk (Kd.R_elder' (by (with_reducible repeat (first|apply Kd.R_alloc|apply Kd.R_drewN|apply Kd.R_drew));exact HO398.out) (Kd.R_base ho1) hb);have n5_:=Aside0.mk (Kd.R_elder' (by (with_reducible repeat (first|apply Kd.R_alloc|apply Kd.R_drewN|apply Kd.R_drew));exact HO402.out) (Kd.R_base ho0) hb);have n6_:=Aside0.mk (Kd.R_elder' (by (with_reducible repeat (first|apply Kd.R_alloc|apply Kd.R_drewN|apply Kd.R_drew));exact HO406.out) (Kd.R_base ho1) hb);have n7_:=Aside0.mk (Kd.R_elder' (by (with_reducible repeat (first|apply Kd.R_alloc|apply Kd.R_drewN|apply Kd.R_drew));exact HO410.out) (Kd.R_base ho1) hb);have n8_:=Aside0.mk (Kd.R_lower (Kd.R_new' (Kd.R_new' (Kd.R_new' ho0 (Kd.R_lt (by (with_reducible repeat (first|apply Kd.R_alloc|apply Kd.R_drewN|apply Kd.R_drew));exact HO384.out))) (Kd.R_lt (by (with_reducible repeat (first|apply Kd.R_alloc|apply Kd.R_drewN|apply Kd.R_drew));exact HO394.out))) (Kd.R_lt (by (with_reducible repeat (first|apply Kd.R_alloc|apply Kd.R_drewN|apply Kd.R_drew));exact HO402.out))) (below_size (by repeat (first|(with_reducible first|exact HB.out|apply below_alloc|apply pw_below_drewN|apply below_drew1|refine below_set ?_ GE380.out|refine below_set ?_ GE399.out|refine below_set ?_ GE407.out)|exact HB.out))));have n9_:=Aside0.mk (Kd.R_lower (Kd.R_new' (Kd.R_new' (Kd.R_new' (Kd.R_new' (Kd.R_new' ho1 (Kd.R_lt (by (with_reducible repeat (first|apply Kd.R_alloc|apply Kd.R_drewN|apply Kd.R_drew));exact HO388.out))) (Kd.R_lt (by (with_reducible repeat (first|apply Kd.R_alloc|apply Kd.R_drewN|apply Kd.R_drew));exact HO391.out))) (Kd.R_lt (by (with_reducible repeat (first|apply Kd.R_alloc|apply Kd.R_drewN|apply Kd.R_drew));exact HO398.out))) (Kd.R_lt (by (with_reducible repeat (first|apply Kd.R_alloc|apply Kd.R_drewN|apply Kd.R_drew));exact HO406.out))) (Kd.R_lt (by (with_reducible repeat (first|apply Kd.R_alloc|apply Kd.R_drewN|apply Kd.R_drew));exact HO410.out))) (below_size (by repeat (first|(with_reducible first|exact HB.out|apply below_alloc|apply pw_below_drewN|apply below_drew1|refine below_set ?_ GE380.out|refine below_set ?_ GE399.out|refine below_set ?_ GE407.out)|exact HB.out))));have n10_:=Aside0.mk (blk_below (g:=gb380) (o:=.cells #[.slice A0_0 l0_0.length c0_0,.int .i64 a0_1,.slice A0_2 l0_2.length c0_2] 25 (0,0)) (by (with_reducible repeat (first|refine blk_drewN ?_ _|refine blk_drew ?_|refine blk_alloc ?_ _));exact BK380.out) hb);have n11_:=Aside0.mk (blk_below (g:=gb399) (o:=.cells #[.slice Ao27 t392.length co27,.int .i64 t395,.slice Ao30 t396.length co30] 27 (0,0)) (by (with_reducible repeat (first|refine blk_drewN ?_ _|refine blk_drew ?_|refine blk_alloc ?_ _));exact BK399.out) hb);have n12_:=Aside0.mk (blk_below (g:=gb407) (o:=.cells #[.slice Ao34 t400.length co34,.int .i64 t403,.slice Ao38 t404.length co38] 27 (0,0)) (by (with_reducible repeat (first|refine blk_drewN ?_ _|refine blk_drew ?_|refine blk_alloc ?_ _));exact BK407.out) hb);have n13_:=Aside0.mk (below_step (by repeat (first|(with_reducible first|exact HB.out|apply below_alloc|apply pw_below_drewN|apply below_drew1|refine below_set ?_ GE380.out|refine below_set ?_ GE399.out|refine below_set ?_ GE407.out)|exact HB.out)) hb);clear HO384;clear HO388;clear HO391;clear HO394;clear HO398;clear HO402;clear HO406;clear HO410;clear BK380;clear BK399;clear BK407;clear HB;have HO384:=n0_;have HO388:=n1_;have HO391:=n2_;have HO394:=n3_;have HO398:=n4_;have HO402:=n5_;have HO406:=n6_;have HO410:=n7_;have HO413:=n8_;have HO417:=n9_;have BK380:=n10_;have BK399:=n11_;have BK407:=n12_;have HB:=n13_;clear n0_ n1_ n2_ n3_ n4_ n5_ n6_ n7_ n8_ n9_ n10_ n11_ n12_ n13_;(try clear hb);(try clear hb2);(try clear hk);(try clear hi);(try clear ho0);(try clear ho1))|((with_reducible refine gate_dst (N:=9) rfl ?_);refine box_event ?hg (N:=9) ?hd (cs:=#[.slice none 0 0,.int .i64 0,.slice none 0 0]) (t:=27) ?hr ?_;(case hd=>rfl);(case hg=>rfl);(case hr=>first|(go_simp;done)|(go_simp;rfl));intro gb418 hg w43 hbox hb;have n0_:=Aside0.mk (Kd.R_below (by (with_reducible repeat (first|apply Kd.R_alloc|apply Kd.R_drewN|apply Kd.R_drew));exact HO384.out) hb);have n1_:=Aside0.mk (Kd.R_below (by (with_reducible repeat (first|apply Kd.R_alloc|apply Kd.R_drewN|apply Kd.R_drew));exact HO388.out) hb);have n2_:=Aside0.mk (Kd.R_below (by (with_reducible repeat (first|apply Kd.R_alloc|apply Kd.R_drewN|apply Kd.R_drew));exact HO391.out) hb);have n3_:=Aside0.mk (Kd.R_below (by (with_reducible repeat (first|apply Kd.R_alloc|apply Kd.R_drewN|apply Kd.R_drew));exact HO394.out) hb);have n4_:=Aside0.mk (Kd.R_below (by (with_reducible repeat (first|apply Kd.R_alloc|apply Kd.R_drewN|apply Kd.R_drew));exact HO398.out) hb);have n5_:=Aside0.mk (Kd.R_below (by (with_reducible repeat (first|apply Kd.R_alloc|apply Kd.R_drewN|apply Kd.R_drew));exact HO402.out) hb);have n6_:=Aside0.mk (Kd.R_below (by (with_reducible repeat (first|apply Kd.R_alloc|apply Kd.R_drewN|apply Kd.R_drew));exact HO406.out) hb);have n7_:=Aside0.mk (Kd.R_below (by (with_reducible repeat (first|apply Kd.R_alloc|apply Kd.R_drewN|apply Kd.R_drew));exact HO410.out) hb);have n8_:=Aside0.mk (Kd.R_below (by (with_reducible repeat (first|apply Kd.R_alloc|apply Kd.R_drewN|apply Kd.R_drew));exact HO413.out) hb);have n9_:=Aside0.mk (Kd.R_below (by (with_reducible repeat (first|apply Kd.R_alloc|apply Kd.R_drewN|apply Kd.R_drew));exact HO417.out) hb);have n10_:=Aside0.mk (blk_below (g:=gb380) (o:=.cells #[.slice A0_0 l0_0.length c0_0,.int .i64 a0_1,.slice A0_2 l0_2.length c0_2] 25 (0,0)) (by (with_reducible repeat (first|refine blk_drewN ?_ _|refine blk_drew ?_|refine blk_alloc ?_ _));exact BK380.out) hb);have n11_:=Aside0.mk (blk_below (g:=gb399) (o:=.cells #[.slice Ao27 t392.length co27,.int .i64 t395,.slice Ao30 t396.length co30] 27 (0,0)) (by (with_reducible repeat (first|refine blk_drewN ?_ _|refine blk_drew ?_|refine blk_alloc ?_ _));exact BK399.out) hb);have n12_:=Aside0.mk (blk_below (g:=gb407) (o:=.cells #[.slice Ao34 t400.length co34,.int .i64 t403,.slice Ao38 t404.length co38] 27 (0,0)) (by (with_reducible repeat (first|refine blk_drewN ?_ _|refine blk_drew ?_|refine blk_alloc ?_ _));exact BK407.out) hb);have n13_:=Aside0.mk (below_step (by repeat (first|(with_reducible first|exact HB.out|apply below_alloc|apply pw_below_drewN|apply below_drew1|refine below_set ?_ GE380.out|refine below_set ?_ GE399.out|refine below_set ?_ GE407.out)|exact HB.out)) hb);have n14_:=Aside0.mk (hbox);have n15_:=Aside0.mk ((by rw [hg];exact (below_size (by repeat (first|(with_reducible first|exact HB.out|apply below_alloc|apply pw_below_drewN|apply below_drew1|refine below_set ?_ GE380.out|refine below_set ?_ GE399.out|refine below_set ?_ GE407.out)|exact HB.out))) : w.heap.size ≤ gb418));have n16_:=Aside0.mk ((by rw [hg];exact (below_size (by repeat (first|(with_reducible first|exact HB.out|apply below_alloc|apply pw_below_drewN|apply below_drew1|refine below_set ?_ GE380.out|refine below_set ?_ GE399.out|refine below_set ?_ GE407.out)|exact HB.out))) : w.heap.size ≤ gb418));have n17_:=Aside0.mk ((by rw [hg];exact Nat.ne_of_lt (blk_lt (g:=gb380) (o:=.cells #[.slice A0_0 l0_0.length c0_0,.int .i64 a0_1,.slice A0_2 l0_2.length c0_2] 25 (0,0)) (by (with_reducible repeat (first|refine blk_drewN ?_ _|refine blk_drew ?_|refine blk_alloc ?_ _));exact BK380.out)) : gb380 ≠ gb418));have n18_:=Aside0.mk ((by rw [hg];exact Nat.ne_of_gt (blk_lt (g:=gb380) (o:=.cells #[.slice A0_0 l0_0.length c0_0,.int .i64 a0_1,.slice A0_2 l0_2.length c0_2] 25 (0,0)) (by (with_reducible repeat (first|refine blk_drewN ?_ _|refine blk_drew ?_|refine blk_alloc ?_ _));exact BK380.out)) : gb418 ≠ gb380));have n19_:=Aside0.mk ((by rw [hg];exact Nat.ne_of_lt (blk_lt (g:=gb399) (o:=.cells #[.slice Ao27 t392.length co27,.int .i64 t395,.slice Ao30 t396.length co30] 27 (0,0)) (by (with_reducible repeat (first|refine blk_drewN ?_ _|refine blk_drew ?_|refine blk_alloc ?_ _));exact BK399.out)) : gb399 ≠ gb418));have n20_:=Aside0.mk ((by rw [hg];exact Nat.ne_of_gt (blk_lt (g:=gb399) (o:=.cells #[.slice Ao27 t392.length co27,.int .i64 t395,.slice Ao30 t396.length co30] 27 (0,0)) (by (with_reducible repeat (first|refine blk_drewN ?_ _|refine blk_drew ?_|refine blk_alloc ?_ _));exact BK399.out)) : gb418 ≠ gb399));have n21_:=Aside0.mk ((by rw [hg];exact Nat.ne_of_lt (blk_lt (g:=gb407) (o:=.cells #[.slice Ao34 t400.length co34,.int .i64 t403,.slice Ao38 t404.length co38] 27 (0,0)) (by (with_reducible repeat (first|refine blk_drewN ?_ _|refine blk_drew ?_|refine blk_alloc ?_ _));exact BK407.out)) : gb407 ≠ gb418));have n22_:=Aside0.mk ((by rw [hg];exact Nat.ne_of_gt (blk_lt (g:=gb407) (o:=.cells #[.slice Ao34 t400.length co34,.int .i64 t403,.slice Ao38 t404.length co38] 27 (0,0)) (by (with_reducible repeat (first|refine blk_drewN ?_ _|refine blk_drew ?_|refine blk_alloc ?_ _));exact BK407.out)) : gb418 ≠ gb407));clear HO384;clear HO388;clear HO391;clear HO394;clear HO398;clear HO402;clear HO406;clear HO410;clear HO413;clear HO417;clear BK380;clear BK399;clear BK407;clear HB;have HO384:=n0_;have HO388:=n1_;have HO391:=n2_;have HO394:=n3_;have HO398:=n4_;have HO402:=n5_;have HO406:=n6_;have HO410:=n7_;have HO413:=n8_;have HO417:=n9_;have BK380:=n10_;have BK399:=n11_;have BK407:=n12_;have HB:=n13_;have BK418:=n14_;have GW418:=n15_;have GE418:=n16_;have NB380_418:=n17_;have NB418_380:=n18_;have NB399_418:=n19_;have NB418_399:=n20_;have NB407_418:=n21_;have NB418_407:=n22_;clear n0_ n1_ n2_ n3_ n4_ n5_ n6_ n7_ n8_ n9_ n10_ n11_ n12_ n13_ n14_ n15_ n16_ n17_ n18_ n19_ n20_ n21_ n22_;clear hb hbox hg;obtain ⟨Ao44,co44,eo44⟩:=Kd.R_slice HO413.out;subst eo44;have hnb45:=NB418_380.out;have hnc45:=NB380_418.out;have hnb46:=NB418_399.out;have hnc46:=NB399_418.out;have hnb47:=NB418_407.out;have hnc47:=NB407_418.out;have hcz48_0 : w43.cell? ⟨gb418,0,none⟩ = some (.slice none 0 0):=(blk_cell BK418.out 0).trans rfl;have hcz48_1 : w43.cell? ⟨gb418,1,none⟩ = some (.int .i64 0):=(blk_cell BK418.out 1).trans rfl;have hcz48_2 : w43.cell? ⟨gb418,2,none⟩ = some (.slice none 0 0):=(blk_cell BK418.out 2).trans rfl;have hfz48_0:=blk_frozen BK418.out 0;have hfz48_1:=blk_frozen BK418.out 1;have hfz48_2:=blk_frozen BK418.out 2;obtain ⟨Ao49,co49,eo49⟩:=Kd.R_slice HO417.out;subst eo49;have hcz50_0 : w43.cell? ⟨gb399,0,none⟩ = some (.slice Ao27 t392.length co27):=(blk_cell BK399.out 0).trans rfl;have hcz50_1 : w43.cell? ⟨gb399,1,none⟩ = some (.int .i64 t395):=(blk_cell BK399.out 1).trans rfl;have hcz50_2 : w43.cell? ⟨gb399,2,none⟩ = some (.slice Ao30 t396.length co30):=(blk_cell BK399.out 2).trans rfl;have hfz50_0:=blk_frozen BK399.out 0;have hfz50_1:=blk_frozen BK399.out 1;have hfz50_2:=blk_frozen BK399.out 2)|((with_reducible refine gate_callee (f:=9) rfl ?_);refine goesL_ (some 36) rfl rfl Try.func9 (by kernel_rfl) rfl #[.agg #[.slice Ao44 t411.length co44,.int .i64 t414,.slice Ao49 t415.length co49],.agg #[.slice Ao27 t392.length co27,.int .i64 t395,.slice Ao30 t396.length co30]] rfl (by (try simp only [List.map_toArray,List.map_cons,List.map_nil]);first|done|rfl|(simp only [List.length_drop,List.length_take];rfl)) ?_;(with_reducible refine (laws_eqSum.calls kj6 _ _ t411 t414 _ _ t415 _ _ t392 t395 _ _ t396 t419 _ ?side1 ?side2 ?side3 ?side4 ?side5 ?side6 ?side7 ?side8 A17.out).mono ?_);(case side1=>refine (Kd.R_reads' (e:=3) (base:=w.heap.size) (ok:=fun k_=>(((True ∧ some k_ ≠ (.slice Ao22 t382.length co22 : Value).ownBlock) ∧ some k_ ≠ (.slice Ao27 t392.length co27 : Value).ownBlock) ∧ some k_ ≠ (.slice Ao34 t400.length co34 : Value).ownBlock)) (n:=t411.length) (c:=co44) ?_).2.2;exact (by (with_reducible repeat (first|apply Kd.R_alloc|apply Kd.R_drewN|apply Kd.R_drew));exact (Kd.R_mono (Kd.R_far (p:=⟨gb418,2,none⟩) (Kd.R_far (p:=⟨gb418,1,none⟩) (Kd.R_far (p:=⟨gb418,0,none⟩) (Kd.R_types HO413.out BK418.out (by decide)) (fun _ hk=>hk.2) (.slice Ao44 t411.length co44)) (fun _ hk=>hk.2) (.int .i64 t414)) (fun _ hk=>hk.2) (.slice Ao49 t415.length co49)) (fun _ h_=>h_.1))));(case side2=>exact (Kd.R_reads' HO413.out).2.1);(case side3=>refine (Kd.R_reads' (e:=5) (base:=w.heap.size) (ok:=fun k_=>(((((True ∧ some k_ ≠ (.slice Ao23 t386.length co23 : Value).ownBlock) ∧ some k_ ≠ (.slice Ao24 t389.length co24 : Value).ownBlock) ∧ some k_ ≠ (.slice Ao30 t396.length co30 : Value).ownBlock) ∧ some k_ ≠ (.slice Ao38 t404.length co38 : Value).ownBlock) ∧ some k_ ≠ (.slice Ao41 t408.length co41 : Value).ownBlock)) (n:=t415.length) (c:=co49) ?_).2.2;exact (by (with_reducible repeat (first|apply Kd.R_alloc|apply Kd.R_drewN|apply Kd.R_drew));exact (Kd.R_mono (Kd.R_far (p:=⟨gb418,2,none⟩) (Kd.R_far (p:=⟨gb418,1,none⟩) (Kd.R_far (p:=⟨gb418,0,none⟩) (Kd.R_types HO417.out BK418.out (by decide)) (fun _ hk=>hk.2) (.slice Ao44 t411.length co44)) (fun _ hk=>hk.2) (.int .i64 t414)) (fun _ hk=>hk.2) (.slice Ao49 t415.length co49)) (fun _ h_=>h_.1))));(case side4=>exact (Kd.R_reads' HO417.out).2.1);(case side5=>refine (Kd.R_reads' (e:=3) (base:=w.heap.size) (ok:=fun k_=>(((True ∧ some k_ ≠ (.slice Ao22 t382.length co22 : Value).ownBlock) ∧ some k_ ≠ (.slice Ao34 t400.length co34 : Value).ownBlock) ∧ some k_ ≠ (.slice Ao44 t411.length co44 : Value).ownBlock)) (n:=t392.length) (c:=co27) ?_).2.2;exact (by (with_reducible repeat (first|apply Kd.R_alloc|apply Kd.R_drewN|apply Kd.R_drew));exact (Kd.R_mono (Kd.R_far (p:=⟨gb418,2,none⟩) (Kd.R_far (p:=⟨gb418,1,none⟩) (Kd.R_far (p:=⟨gb418,0,none⟩) (Kd.R_types HO394.out BK418.out (by decide)) (fun _ hk=>hk.2) (.slice Ao44 t411.length co44)) (fun _ hk=>hk.2) (.int .i64 t414)) (fun _ hk=>hk.2) (.slice Ao49 t415.length co49)) (fun _ h_=>h_.1))));(case side6=>exact (Kd.R_reads' HO394.out).2.1);(case side7=>refine (Kd.R_reads' (e:=5) (base:=w.heap.size) (ok:=fun k_=>(((((True ∧ some k_ ≠ (.slice Ao23 t386.length co23 : Value).ownBlock) ∧ some k_ ≠ (.slice Ao24 t389.length co24 : Value).ownBlock) ∧ some k_ ≠ (.slice Ao38 t404.length co38 : Value).ownBlock) ∧ some k_ ≠ (.slice Ao41 t408.length co41 : Value).ownBlock) ∧ some k_ ≠ (.slice Ao49 t415.length co49 : Value).ownBlock)) (n:=t396.length) (c:=co30) ?_).2.2;exact (by (with_reducible repeat (first|apply Kd.R_alloc|apply Kd.R_drewN|apply Kd.R_drew));exact (Kd.R_mono (Kd.R_far (p:=⟨gb418,2,none⟩) (Kd.R_far (p:=⟨gb418,1,none⟩) (Kd.R_far (p:=⟨gb418,0,none⟩) (Kd.R_types HO398.out BK418.out (by decide)) (fun _ hk=>hk.2) (.slice Ao44 t411.length co44)) (fun _ hk=>hk.2) (.int .i64 t414)) (fun _ hk=>hk.2) (.slice Ao49 t415.length co49)) (fun _ h_=>h_.1))));(case side8=>exact (Kd.R_reads' HO398.out).2.1);rintro e w51 ⟨rfl,hb⟩;refine ⟨_,rfl,?_⟩;have n0_:=Aside0.mk (Kd.R_below (by (with_reducible repeat (first|apply Kd.R_alloc|apply Kd.R_drewN|apply Kd.R_drew));exact (Kd.R_mono (Kd.R_far (p:=⟨gb418,2,none⟩) (Kd.R_far (p:=⟨gb418,1,none⟩) (Kd.R_far (p:=⟨gb418,0,none⟩) (Kd.R_types HO384.out BK418.out (by decide)) (fun _ hk=>hk.2) (.slice Ao44 t411.length co44)) (fun _ hk=>hk.2) (.int .i64 t414)) (fun _ hk=>hk.2) (.slice Ao49 t415.length co49)) (fun _ h_=>h_.1))) hb);have n1_:=Aside0.mk (Kd.R_below (by (with_reducible repeat (first|apply Kd.R_alloc|apply Kd.R_drewN|apply Kd.R_drew));exact (Kd.R_mono (Kd.R_far (p:=⟨gb418,2,none⟩) (Kd.R_far (p:=⟨gb418,1,none⟩) (Kd.R_far (p:=⟨gb418,0,none⟩) (Kd.R_types HO388.out BK418.out (by decide)) (fun _ hk=>hk.2) (.slice Ao44 t411.length co44)) (fun _ hk=>hk.2) (.int .i64 t414)) (fun _ hk=>hk.2) (.slice Ao49 t415.length co49)) (fun _ h_=>h_.1))) hb);have n2_:=Aside0.mk (Kd.R_below (by (with_reducible repeat (first|apply Kd.R_alloc|apply Kd.R_drewN|apply Kd.R_drew));exact (Kd.R_mono (Kd.R_far (p:=⟨gb418,2,none⟩) (Kd.R_far (p:=⟨gb418,1,none⟩) (Kd.R_far (p:=⟨gb418,0,none⟩) (Kd.R_types HO391.out BK418.out (by decide)) (fun _ hk=>hk.2) (.slice Ao44 t411.length co44)) (fun _ hk=>hk.2) (.int .i64 t414)) (fun _ hk=>hk.2) (.slice Ao49 t415.length co49)) (fun _ h_=>h_.1))) hb);have n3_:=Aside0.mk (Kd.R_below (by (with_reducible repeat (first|apply Kd.R_alloc|apply Kd.R_drewN|apply Kd.R_drew));exact (Kd.R_mono (Kd.R_far (p:=⟨gb418,2,none⟩) (Kd.R_far (p:=⟨gb418,1,none⟩) (Kd.R_far (p:=⟨gb418,0,none⟩) (Kd.R_types HO394.out BK418.out (by decide)) (fun _ hk=>hk.2) (.slice Ao44 t411.length co44)) (fun _ hk=>hk.2) (.int .i64 t414)) (fun _ hk=>hk.2) (.slice Ao49 t415.length co49)) (fun _ h_=>h_.1))) hb);have n4_:=Aside0.mk (Kd.R_below (by (with_reducible repeat (first|apply Kd.R_alloc|apply Kd.R_drewN|apply Kd.R_drew));exact (Kd.R_mono (Kd.R_far (p:=⟨gb418,2,none⟩) (Kd.R_far (p:=⟨gb418,1,none⟩) (Kd.R_far (p:=⟨gb418,0,none⟩) (Kd.R_types HO398.out BK418.out (by decide)) (fun _ hk=>hk.2) (.slice Ao44 t411.length co44)) (fun _ hk=>hk.2) (.int .i64 t414)) (fun _ hk=>hk.2) (.slice Ao49 t415.length co49)) (fun _ h_=>h_.1))) hb);have n5_:=Aside0.mk (Kd.R_below (by (with_reducible repeat (first|apply Kd.R_alloc|apply Kd.R_drewN|apply Kd.R_drew));exact (Kd.R_mono (Kd.R_far (p:=⟨gb418,2,none⟩) (Kd.R_far (p:=⟨gb418,1,none⟩) (Kd.R_far (p:=⟨gb418,0,none⟩) (Kd.R_types HO402.out BK418.out (by decide)) (fun _ hk=>hk.2) (.slice Ao44 t411.length co44)) (fun _ hk=>hk.2) (.int .i64 t414)) (fun _ hk=>hk.2) (.slice Ao49 t415.length co49)) (fun _ h_=>h_.1))) hb);have n6_:=Aside0.mk (Kd.R_below (by (with_reducible repeat (first|apply Kd.R_alloc|apply Kd.R_drewN|apply Kd.R_drew));exact (Kd.R_mono (Kd.R_far (p:=⟨gb418,2,none⟩) (Kd.R_far (p:=⟨gb418,1,none⟩) (Kd.R_far (p:=⟨gb418,0,none⟩) (Kd.R_types HO406.out BK418.out (by decide)) (fun _ hk=>hk.2) (.slice Ao44 t411.length co44)) (fun _ hk=>hk.2) (.int .i64 t414)) (fun _ hk=>hk.2) (.slice Ao49 t415.length co49)) (fun _ h_=>h_.1))) hb);have n7_:=Aside0.mk (Kd.R_below (by (with_reducible repeat (first|apply Kd.R_alloc|apply Kd.R_drewN|apply Kd.R_drew));exact (Kd.R_mono (Kd.R_far (p:=⟨gb418,2,none⟩) (Kd.R_far (p:=⟨gb418,1,none⟩) (Kd.R_far (p:=⟨gb418,0,none⟩) (Kd.R_types HO410.out BK418.out (by decide)) (fun _ hk=>hk.2) (.slice Ao44 t411.length co44)) (fun _ hk=>hk.2) (.int .i64 t414)) (fun _ hk=>hk.2) (.slice Ao49 t415.length co49)) (fun _ h_=>h_.1))) hb);have n8_:=Aside0.mk (Kd.R_below (by (with_reducible repeat (first|apply Kd.R_alloc|apply Kd.R_drewN|apply Kd.R_drew));exact (Kd.R_mono (Kd.R_far (p:=⟨gb418,2,none⟩) (Kd.R_far (p:=⟨gb418,1,none⟩) (Kd.R_far (p:=⟨gb418,0,none⟩) (Kd.R_types HO413.out BK418.out (by decide)) (fun _ hk=>hk.2) (.slice Ao44 t411.length co44)) (fun _ hk=>hk.2) (.int .i64 t414)) (fun _ hk=>hk.2) (.slice Ao49 t415.length co49)) (fun _ h_=>h_.1))) hb);have n9_:=Aside0.mk (Kd.R_below (by (with_reducible repeat (first|apply Kd.R_alloc|apply Kd.R_drewN|apply Kd.R_drew));exact (Kd.R_mono (Kd.R_far (p:=⟨gb418,2,none⟩) (Kd.R_far (p:=⟨gb418,1,none⟩) (Kd.R_far (p:=⟨gb418,0,none⟩) (Kd.R_types HO417.out BK418.out (by decide)) (fun _ hk=>hk.2) (.slice Ao44 t411.length co44)) (fun _ hk=>hk.2) (.int .i64 t414)) (fun _ hk=>hk.2) (.slice Ao49 t415.length co49)) (fun _ h_=>h_.1))) hb);have n10_:=Aside0.mk (blk_below (g:=gb380) (o:=.cells #[.slice A0_0 l0_0.length c0_0,.int .i64 a0_1,.slice A0_2 l0_2.length c0_2] 25 (0,0)) (by (with_reducible repeat (first|refine blk_drewN ?_ _|refine blk_drew ?_|refine blk_alloc ?_ _));refine blk_far ?_ NB380_418.out _;(with_reducible repeat (first|refine blk_drewN ?_ _|refine blk_drew ?_|refine blk_alloc ?_ _));refine blk_far ?_ NB380_418.out _;(with_reducible repeat (first|refine blk_drewN ?_ _|refine blk_drew ?_|refine blk_alloc ?_ _));refine blk_far ?_ NB380_418.out _;(with_reducible repeat (first|refine blk_drewN ?_ _|refine blk_drew ?_|refine blk_alloc ?_ _));exact BK380.out) hb);have n11_:=Aside0.mk (blk_below (g:=gb399) (o:=.cells #[.slice Ao27 t392.length co27,.int .i64 t395,.slice Ao30 t396.length co30] 27 (0,0)) (by (with_reducible repeat (first|refine blk_drewN ?_ _|refine blk_drew ?_|refine blk_alloc ?_ _));refine blk_far ?_ NB399_418.out _;(with_reducible repeat (first|refine blk_drewN ?_ _|refine blk_drew ?_|refine blk_alloc ?_ _));refine blk_far ?_ NB399_418.out _;(with_reducible repeat (first|refine blk_drewN ?_ _|refine blk_drew ?_|refine blk_alloc ?_ _));refine blk_far ?_ NB399_418.out _;(with_reducible repeat (first|refine blk_drewN ?_ _|refine blk_drew ?_|refine blk_alloc ?_ _));exact BK399.out) hb);have n12_:=Aside0.mk (blk_below (g:=gb407) (o:=.cells #[.slice Ao34 t400.length co34,.int .i64 t403,.slice Ao38 t404.length co38] 27 (0,0)) (by (with_reducible repeat (first|refine blk_drewN ?_ _|refine blk_drew ?_|refine blk_alloc ?_ _));refine blk_far ?_ NB407_418.out _;(with_reducible repeat (first|refine blk_drewN ?_ _|refine blk_drew ?_|refine blk_alloc ?_ _));refine blk_far ?_ NB407_418.out _;(with_reducible repeat (first|refine blk_drewN ?_ _|refine blk_drew ?_|refine blk_alloc ?_ _));refine blk_far ?_ NB407_418.out _;(with_reducible repeat (first|refine blk_drewN ?_ _|refine blk_drew ?_|refine blk_alloc ?_ _));exact BK407.out) hb);have n13_:=Aside0.mk (blk_below (g:=gb418) (o:=.cells #[.slice Ao44 t411.length co44,.int .i64 t414,.slice Ao49 t415.length co49] 27 (0,0)) (by (with_reducible repeat (first|refine blk_drewN ?_ _|refine blk_drew ?_|refine blk_alloc ?_ _));refine blk_put (cs:=#[.slice Ao44 t411.length co44,.int .i64 t414,.slice none 0 0]) ?_ 2 _ rfl;(with_reducible repeat (first|refine blk_drewN ?_ _|refine blk_drew ?_|refine blk_alloc ?_ _));refine blk_put (cs:=#[.slice Ao44 t411.length co44,.int .i64 0,.slice none 0 0]) ?_ 1 _ rfl;(with_reducible repeat (first|refine blk_drewN ?_ _|refine blk_drew ?_|refine blk_alloc ?_ _));refine blk_put (cs:=#[.slice none 0 0,.int .i64 0,.slice none 0 0]) ?_ 0 _ rfl;(with_reducible repeat (first|refine blk_drewN ?_ _|refine blk_drew ?_|refine blk_alloc ?_ _));exact BK418.out) hb);have n14_:=Aside0.mk (below_step (by repeat (first|(with_reducible first|exact HB.out|apply below_alloc|apply pw_below_drewN|apply below_drew1|refine below_set ?_ GE380.out|refine below_set ?_ GE399.out|refine below_set ?_ GE407.out|refine below_set ?_ GE418.out)|exact HB.out)) hb);clear HO384;clear HO388;clear HO391;clear HO394;clear HO398;clear HO402;clear HO406;clear HO410;clear HO413;clear HO417;clear BK380;clear BK399;clear BK407;clear BK418;clear HB;have HO384:=n0_;have HO388:=n1_;have HO391:=n2_;have HO394:=n3_;have HO398:=n4_;have HO402:=n5_;have HO406:=n6_;have HO410:=n7_;have HO413:=n8_;have HO417:=n9_;have BK380:=n10_;have BK399:=n11_;have BK407:=n12_;have BK418:=n13_;have HB:=n14_;clear n0_ n1_ n2_ n3_ n4_ n5_ n6_ n7_ n8_ n9_ n10_ n11_ n12_ n13_ n14_;(try clear hb);(try clear hb2);(try clear hk);(try clear hi)))
     (try simp only [Act.put,List.setIfInBounds_toArray,List.set_cons_zero,List.set_cons_succ])
     go_cut [] (fun wc=>∃ (kq : Nat),Aside0 (laws_FnExactSumAdd.j2 kq l1 t408 l0_0 a0_1 l0_2 t392 t395 t396 t400 t403 t404 t411 t414 t415 = some r) ∧ Aside0 (kq ≤ kj6) ∧ Aside0 (Kd.R (Kd.int .u8) 5 wc w.heap.size (fun k_=>some k_ ≠ ((.slice Ao30 t396.length co30) : Value).ownBlock ∧ some k_ ≠ ((.slice Ao38 t404.length co38) : Value).ownBlock ∧ some k_ ≠ ((.slice Ao49 t415.length co49) : Value).ownBlock) (.slice Ao41 t408.length co41) t408) ∧ Aside0 (Kd.R (Kd.int .i64) 3 wc w.heap.size (fun k_=>some k_ ≠ ((.slice Ao34 t400.length co34) : Value).ownBlock ∧ some k_ ≠ ((.slice Ao44 t411.length co44) : Value).ownBlock) (.slice Ao27 t392.length co27) t392) ∧ Aside0 (Kd.R (Kd.int .u8) 5 wc w.heap.size (fun k_=>some k_ ≠ ((.slice Ao41 t408.length co41) : Value).ownBlock ∧ some k_ ≠ ((.slice Ao38 t404.length co38) : Value).ownBlock ∧ some k_ ≠ ((.slice Ao49 t415.length co49) : Value).ownBlock) (.slice Ao30 t396.length co30) t396) ∧ Aside0 (Kd.R (Kd.int .i64) 3 wc w.heap.size (fun k_=>some k_ ≠ ((.slice Ao27 t392.length co27) : Value).ownBlock ∧ some k_ ≠ ((.slice Ao44 t411.length co44) : Value).ownBlock) (.slice Ao34 t400.length co34) t400) ∧ Aside0 (Kd.R (Kd.int .u8) 5 wc w.heap.size (fun k_=>some k_ ≠ ((.slice Ao41 t408.length co41) : Value).ownBlock ∧ some k_ ≠ ((.slice Ao30 t396.length co30) : Value).ownBlock ∧ some k_ ≠ ((.slice Ao49 t415.length co49) : Value).ownBlock) (.slice Ao38 t404.length co38) t404) ∧ Aside0 (Kd.R (Kd.int .i64) 3 wc w.heap.size (fun k_=>some k_ ≠ ((.slice Ao27 t392.length co27) : Value).ownBlock ∧ some k_ ≠ ((.slice Ao34 t400.length co34) : Value).ownBlock) (.slice Ao44 t411.length co44) t411) ∧ Aside0 (Kd.R (Kd.int .u8) 5 wc w.heap.size (fun k_=>some k_ ≠ ((.slice Ao41 t408.length co41) : Value).ownBlock ∧ some k_ ≠ ((.slice Ao30 t396.length co30) : Value).ownBlock ∧ some k_ ≠ ((.slice Ao38 t404.length co38) : Value).ownBlock) (.slice Ao49 t415.length co49) t415) ∧ Aside0 (wc.heap[gb380]? = some (.cells #[(.slice A0_0 l0_0.length c0_0),.int .i64 a0_1,(.slice A0_2 l0_2.length c0_2)] 25 (0,0))) ∧ Aside0 (wc.heap[gb399]? = some (.cells #[(.slice Ao27 t392.length co27),.int .i64 t395,(.slice Ao30 t396.length co30)] 27 (0,0))) ∧ Aside0 (wc.heap[gb407]? = some (.cells #[(.slice Ao34 t400.length co34),.int .i64 t403,(.slice Ao38 t404.length co38)] 27 (0,0))) ∧ Aside0 (wc.heap[gb418]? = some (.cells #[(.slice Ao44 t411.length co44),.int .i64 t414,(.slice Ao49 t415.length co49)] 27 (0,0))) ∧ Aside0 (Below w.heap.size w wc))
     case first =>
      have H:=HC18.out
      clear HC18
      by_cases c52 : t419 = true
      case neg =>
       replace c52:=Bool.eq_false_iff.mpr c52
       subst c52
       have H1 : (some false) = some r:=by rw [if_neg (show ¬ (false = true) by decide)] at H;exact H
       clear H
       have H:=H1
       clear H1
       obtain rfl:=Option.some.inj H
       go_wp2
       go_ret
       exact ⟨by first|rfl|(simp [errW_none,errW_some]<;>rfl)|(simp [*,errW_none,errW_some]<;>rfl),by repeat (first|(with_reducible first|exact HB.out|apply below_alloc|apply pw_below_drewN|apply below_drew1|refine below_set ?_ GE380.out|refine below_set ?_ GE399.out|refine below_set ?_ GE407.out|refine below_set ?_ GE418.out)|exact HB.out)⟩
      subst c52
      have H1 : (laws_FnExactSumAdd.j2 kj6 l1 t408 l0_0 a0_1 l0_2 t392 t395 t396 t400 t403 t404 t411 t414 t415) = some r:=by rw [if_pos rfl] at H;exact H
      clear H
      have H:=H1
      clear H1
      have H':=Aside0.mk H
      clear H
      go_wp2
      go_meet
      case rel=>exact ⟨_,H',⟨by have:=HJ2.out;have:=HJ6.out;first|omega|exact Nat.le_refl _⟩,⟨by (with_reducible repeat (first|apply Kd.R_alloc|apply Kd.R_drewN|apply Kd.R_drew));exact Kd.R_mono HO410.out (fun _ hk=>⟨hk.1.1.2,⟨hk.1.2,hk.2⟩⟩)⟩,⟨by (with_reducible repeat (first|apply Kd.R_alloc|apply Kd.R_drewN|apply Kd.R_drew));exact Kd.R_mono HO394.out (fun _ hk=>⟨hk.1.2,hk.2⟩)⟩,⟨by (with_reducible repeat (first|apply Kd.R_alloc|apply Kd.R_drewN|apply Kd.R_drew));exact Kd.R_mono HO398.out (fun _ hk=>⟨hk.1.2,⟨hk.1.1.2,hk.2⟩⟩)⟩,⟨by (with_reducible repeat (first|apply Kd.R_alloc|apply Kd.R_drewN|apply Kd.R_drew));exact Kd.R_mono HO402.out (fun _ hk=>⟨hk.1.2,hk.2⟩)⟩,⟨by (with_reducible repeat (first|apply Kd.R_alloc|apply Kd.R_drewN|apply Kd.R_drew));exact Kd.R_mono HO406.out (fun _ hk=>⟨hk.1.2,⟨hk.1.1.2,hk.2⟩⟩)⟩,⟨by (with_reducible repeat (first|apply Kd.R_alloc|apply Kd.R_drewN|apply Kd.R_drew));exact Kd.R_mono HO413.out (fun _ hk=>⟨hk.1.2,hk.2⟩)⟩,⟨by (with_reducible repeat (first|apply Kd.R_alloc|apply Kd.R_drewN|apply Kd.R_drew));exact Kd.R_mono HO417.out (fun _ hk=>⟨hk.2,⟨hk.1.1.2,hk.1.2⟩⟩)⟩,⟨by (with_reducible repeat (first|refine blk_drewN ?_ _|refine blk_drew ?_|refine blk_alloc ?_ _));exact BK380.out⟩,⟨by (with_reducible repeat (first|refine blk_drewN ?_ _|refine blk_drew ?_|refine blk_alloc ?_ _));exact BK399.out⟩,⟨by (with_reducible repeat (first|refine blk_drewN ?_ _|refine blk_drew ?_|refine blk_alloc ?_ _));exact BK407.out⟩,⟨by (with_reducible repeat (first|refine blk_drewN ?_ _|refine blk_drew ?_|refine blk_alloc ?_ _));exact BK418.out⟩,⟨by repeat (first|(with_reducible first|exact HB.out|apply below_alloc|apply pw_below_drewN|apply below_drew1|refine below_set ?_ GE380.out|refine below_set ?_ GE399.out|refine below_set ?_ GE407.out|refine below_set ?_ GE418.out)|exact HB.out)⟩⟩
     case rest =>
      clear HC18
      (try clear c1);(try clear c2);(try clear p2);(try clear c3);(try clear c4);(try clear c5);(try clear c5b0);(try clear c5b1);(try clear c6);(try clear c7);(try clear c8);(try clear c9);(try clear c10);(try clear c10b0);(try clear c28);(try clear c35);(try clear c36);(try clear c45);(try clear c46);(try clear c47);(try clear c52);(try clear hcz19_0);(try clear hcz19_1);(try clear hcz19_2);(try clear hcz29_0);(try clear hcz29_1);(try clear hcz29_2);(try clear hcz31_0);(try clear hcz31_1);(try clear hcz31_2);(try clear hcz37_0);(try clear hcz37_1);(try clear hcz37_2);(try clear hcz40_0);(try clear hcz40_1);(try clear hcz40_2);(try clear hcz48_0);(try clear hcz48_1);(try clear hcz48_2);(try clear hcz50_0);(try clear hcz50_1);(try clear hcz50_2);(try clear hcz8_0);(try clear hcz8_1);(try clear hcz8_2);(try clear hfz19_0);(try clear hfz19_1);(try clear hfz19_2);(try clear hfz29_0);(try clear hfz29_1);(try clear hfz29_2);(try clear hfz31_0);(try clear hfz31_1);(try clear hfz31_2);(try clear hfz37_0);(try clear hfz37_1);(try clear hfz37_2);(try clear hfz40_0);(try clear hfz40_1);(try clear hfz40_2);(try clear hfz48_0);(try clear hfz48_1);(try clear hfz48_2);(try clear hfz50_0);(try clear hfz50_1);(try clear hfz50_2);(try clear hfz8_0);(try clear hfz8_1);(try clear hfz8_2);(try clear p2)
      obtain ⟨kq,HA,HJ17,HO_8,HO_400000,HO_400002,HO_408000,HO_408002,HO_419000,HO_419002,BK380,BK399,BK407,BK418,HB⟩:=hcut
      cases kq with
      | zero=>exact absurd HA.out (by simp [laws_FnExactSumAdd.j2])
      | succ kj17 =>
       have H:=HA.out
       clear HA
       simp only [laws_FnExactSumAdd.j2] at H
       replace H:=Option.bind_eq_some_iff.mp H
       obtain ⟨⟨t420,t423,t424⟩,A530,H⟩:=H
       replace H : ((laws_eqSum.f kj17 t400 t403 t404 t420 t423 t424).bind fun t427=>(if t427 = true then (laws_FnExactSumAdd.j3 kj17 l1 t408 l0_0 a0_1 l0_2 t392 t395 t396 t400 t403 t404 t411 t414 t415) else (some false))) = some r:=H
       have A53:=Aside0.mk A530
       clear A530
       replace H:=Option.bind_eq_some_iff.mp H
       obtain ⟨t427,A540,H⟩:=H
       replace H : (if t427 = true then (laws_FnExactSumAdd.j3 kj17 l1 t408 l0_0 a0_1 l0_2 t392 t395 t396 t400 t403 t404 t411 t414 t415) else (some false)) = some r:=H
       have A54:=Aside0.mk A540
       clear A540
       have HC55:=Aside0.mk H
       clear H
       try go_wp2
       have n0_:=Aside0.mk (Kd.R_drew HO_8.out)
       have n1_:=Aside0.mk (Kd.R_drew HO_400000.out)
       have n2_:=Aside0.mk (Kd.R_drew HO_400002.out)
       have n3_:=Aside0.mk (Kd.R_drew HO_408000.out)
       have n4_:=Aside0.mk (Kd.R_drew HO_408002.out)
       have n5_:=Aside0.mk (Kd.R_drew HO_419000.out)
       have n6_:=Aside0.mk (Kd.R_drew HO_419002.out)
       have n7_:=Aside0.mk (blk_drew BK380.out)
       have n8_:=Aside0.mk (blk_drew BK399.out)
       have n9_:=Aside0.mk (blk_drew BK407.out)
       have n10_:=Aside0.mk (blk_drew BK418.out)
       have n11_:=Aside0.mk (below_drew1 HB.out)
       clear HO_8
       clear HO_400000
       clear HO_400002
       clear HO_408000
       clear HO_408002
       clear HO_419000
       clear HO_419002
       clear BK380
       clear BK399
       clear BK407
       clear BK418
       clear HB
       have HO_8:=n0_
       have HO_400000:=n1_
       have HO_400002:=n2_
       have HO_408000:=n3_
       have HO_408002:=n4_
       have HO_419000:=n5_
       have HO_419002:=n6_
       have BK380:=n7_
       have BK399:=n8_
       have BK407:=n9_
       have BK418:=n10_
       have HB:=n11_
       clear n0_ n1_ n2_ n3_ n4_ n5_ n6_ n7_ n8_ n9_ n10_ n11_
       refine start_ (n:=5) (S:=fun w'=>w'.cell? ⟨gb407,0,none⟩ = some (.slice Ao34 t400.length co34) ∧ w'.cell? ⟨gb407,1,none⟩ = some (.int .i64 t403) ∧ w'.cell? ⟨gb407,2,none⟩ = some (.slice Ao38 t404.length co38) ∧ w'.cell? ⟨gb380,0,none⟩ = some (.slice A0_0 l0_0.length c0_0) ∧ w'.cell? ⟨gb380,1,none⟩ = some (.int .i64 a0_1) ∧ w'.cell? ⟨gb380,2,none⟩ = some (.slice A0_2 l0_2.length c0_2)) (ds:=[]) #[false,false,false,false,false] (by kernel_rfl) rfl rfl ⟨(blk_cell BK407.out 0).trans rfl,(blk_cell BK407.out 1).trans rfl,(blk_cell BK407.out 2).trans rfl,(blk_cell BK380.out 0).trans rfl,(blk_cell BK380.out 1).trans rfl,(blk_cell BK380.out 2).trans rfl⟩ (fun hHeld=>?_)
       generalize wc.drew = w56 at HO_8 HO_400000 HO_400002 HO_408000 HO_408002 HO_419000 HO_419002 BK380 BK399 BK407 BK418 HB hHeld ⊢
       refine take_ (i:=0) (N:=some 38) (v:=?_) (a':=?_) #[true,false,false,false,false] rfl rfl (by kernel_rfl) (fun _ _ _ h=>h) (Or.inl ⟨by rfl,?_⟩) hHeld ?_ ?_
       rotate_left
       · rintro w' ⟨s0, s1, s2, s3, s4, s5⟩
         go_simp
         with_reducible rfl
       rotate_left
       · simp only [Act.put, List.setIfInBounds_toArray, List.set_cons_zero, List.set_cons_succ, i64_w, i32_w]
         rfl
       refine take_ (i:=1) (N:=some 39) (v:=?_) (a':=?_) #[true,true,false,false,false] rfl rfl (by kernel_rfl) (fun _ _ _ h=>h) (Or.inl ⟨by rfl,?_⟩) hHeld ?_ ?_
       rotate_left
       · rintro w' ⟨s0, s1, s2, s3, s4, s5⟩
         go_simp
         with_reducible rfl
       rotate_left
       · simp only [Act.put, List.setIfInBounds_toArray, List.set_cons_zero, List.set_cons_succ, i64_w, i32_w]
         rfl
       refine one_ (i:=2) (N:=some 40) #[true,true,true,false,false] rfl rfl (by kernel_rfl) (by decide) (fun K hK=>?_)
       refine goes_ Try.func6 (by kernel_rfl) rfl #[.agg #[.slice A0_0 l0_0.length c0_0,.int .i64 a0_1,.slice A0_2 l0_2.length c0_2]] (by rfl) rfl rfl (by (try simp only [List.map_toArray,List.map_cons,List.map_nil]);first|done|rfl|(simp only [List.length_drop,List.length_take];rfl)) ?_
       with_reducible refine (laws_toSum.calls kj17 _ _ l0_0 a0_1 _ _ l0_2 t420 t423 t424 _ ?side1 ?side2 ?side3 ?side4 A53.out).mono ?_
       (case side1=>repeat (first|exact (Kd.C_below HR0_0.out HB.out)|(with_reducible refine Kd.C_alloc ?_ _)|(with_reducible refine Kd.C_drewN ?_ _)|(with_reducible refine Kd.C_drew ?_)))
       (case side2=>exact HC0_0.out)
       (case side3=>repeat (first|exact (Kd.C_below HR0_2.out HB.out)|(with_reducible refine Kd.C_alloc ?_ _)|(with_reducible refine Kd.C_drewN ?_ _)|(with_reducible refine Kd.C_drew ?_)))
       (case side4=>exact HC0_2.out)
       rintro e w57 ⟨v421,v425,rfl,ho0,ho1,hb⟩
       refine ⟨_,rfl,?_⟩
       have n0_:=Aside0.mk (Kd.R_elder' (by (with_reducible repeat (first|apply Kd.R_alloc|apply Kd.R_drewN|apply Kd.R_drew));exact HO_8.out) (Kd.R_base ho1) hb)
       have n1_:=Aside0.mk (Kd.R_elder' (by (with_reducible repeat (first|apply Kd.R_alloc|apply Kd.R_drewN|apply Kd.R_drew));exact HO_400000.out) (Kd.R_base ho0) hb)
       have n2_:=Aside0.mk (Kd.R_elder' (by (with_reducible repeat (first|apply Kd.R_alloc|apply Kd.R_drewN|apply Kd.R_drew));exact HO_400002.out) (Kd.R_base ho1) hb)
       have n3_:=Aside0.mk (Kd.R_elder' (by (with_reducible repeat (first|apply Kd.R_alloc|apply Kd.R_drewN|apply Kd.R_drew));exact HO_408000.out) (Kd.R_base ho0) hb)
       have n4_:=Aside0.mk (Kd.R_elder' (by (with_reducible repeat (first|apply Kd.R_alloc|apply Kd.R_drewN|apply Kd.R_drew));exact HO_408002.out) (Kd.R_base ho1) hb)
       have n5_:=Aside0.mk (Kd.R_elder' (by (with_reducible repeat (first|apply Kd.R_alloc|apply Kd.R_drewN|apply Kd.R_drew));exact HO_419000.out) (Kd.R_base ho0) hb)
       have n6_:=Aside0.mk (Kd.R_elder' (by (with_reducible repeat (first|apply Kd.R_alloc|apply Kd.R_drewN|apply Kd.R_drew));exact HO_419002.out) (Kd.R_base ho1) hb)
       have n7_:=Aside0.mk (Kd.R_lower (Kd.R_new' (Kd.R_new' (Kd.R_new' ho0 (Kd.R_lt (by (with_reducible repeat (first|apply Kd.R_alloc|apply Kd.R_drewN|apply Kd.R_drew));exact HO_400000.out))) (Kd.R_lt (by (with_reducible repeat (first|apply Kd.R_alloc|apply Kd.R_drewN|apply Kd.R_drew));exact HO_408000.out))) (Kd.R_lt (by (with_reducible repeat (first|apply Kd.R_alloc|apply Kd.R_drewN|apply Kd.R_drew));exact HO_419000.out))) (below_size (by repeat (first|(with_reducible first|exact HB.out|apply below_alloc|apply pw_below_drewN|apply below_drew1|refine below_set ?_ GE380.out|refine below_set ?_ GE399.out|refine below_set ?_ GE407.out|refine below_set ?_ GE418.out)|exact HB.out))))
       have n8_:=Aside0.mk (Kd.R_lower (Kd.R_new' (Kd.R_new' (Kd.R_new' (Kd.R_new' ho1 (Kd.R_lt (by (with_reducible repeat (first|apply Kd.R_alloc|apply Kd.R_drewN|apply Kd.R_drew));exact HO_8.out))) (Kd.R_lt (by (with_reducible repeat (first|apply Kd.R_alloc|apply Kd.R_drewN|apply Kd.R_drew));exact HO_400002.out))) (Kd.R_lt (by (with_reducible repeat (first|apply Kd.R_alloc|apply Kd.R_drewN|apply Kd.R_drew));exact HO_408002.out))) (Kd.R_lt (by (with_reducible repeat (first|apply Kd.R_alloc|apply Kd.R_drewN|apply Kd.R_drew));exact HO_419002.out))) (below_size (by repeat (first|(with_reducible first|exact HB.out|apply below_alloc|apply pw_below_drewN|apply below_drew1|refine below_set ?_ GE380.out|refine below_set ?_ GE399.out|refine below_set ?_ GE407.out|refine below_set ?_ GE418.out)|exact HB.out))))
       have n9_:=Aside0.mk (blk_below (g:=gb380) (o:=.cells #[.slice A0_0 l0_0.length c0_0,.int .i64 a0_1,.slice A0_2 l0_2.length c0_2] 25 (0,0)) (by (with_reducible repeat (first|refine blk_drewN ?_ _|refine blk_drew ?_|refine blk_alloc ?_ _));exact BK380.out) hb)
       have n10_:=Aside0.mk (blk_below (g:=gb399) (o:=.cells #[.slice Ao27 t392.length co27,.int .i64 t395,.slice Ao30 t396.length co30] 27 (0,0)) (by (with_reducible repeat (first|refine blk_drewN ?_ _|refine blk_drew ?_|refine blk_alloc ?_ _));exact BK399.out) hb)
       have n11_:=Aside0.mk (blk_below (g:=gb407) (o:=.cells #[.slice Ao34 t400.length co34,.int .i64 t403,.slice Ao38 t404.length co38] 27 (0,0)) (by (with_reducible repeat (first|refine blk_drewN ?_ _|refine blk_drew ?_|refine blk_alloc ?_ _));exact BK407.out) hb)
       have n12_:=Aside0.mk (blk_below (g:=gb418) (o:=.cells #[.slice Ao44 t411.length co44,.int .i64 t414,.slice Ao49 t415.length co49] 27 (0,0)) (by (with_reducible repeat (first|refine blk_drewN ?_ _|refine blk_drew ?_|refine blk_alloc ?_ _));exact BK418.out) hb)
       have n13_:=Aside0.mk (below_step (by repeat (first|(with_reducible first|exact HB.out|apply below_alloc|apply pw_below_drewN|apply below_drew1|refine below_set ?_ GE380.out|refine below_set ?_ GE399.out|refine below_set ?_ GE407.out|refine below_set ?_ GE418.out)|exact HB.out)) hb)
       clear HO_8
       clear HO_400000
       clear HO_400002
       clear HO_408000
       clear HO_408002
       clear HO_419000
       clear HO_419002
       clear BK380
       clear BK399
       clear BK407
       clear BK418
       clear HB
       have HO_8:=n0_
       have HO_400000:=n1_
       have HO_400002:=n2_
       have HO_408000:=n3_
       have HO_408002:=n4_
       have HO_419000:=n5_
       have HO_419002:=n6_
       have HO422:=n7_
       have HO426:=n8_
       have BK380:=n9_
       have BK399:=n10_
       have BK407:=n11_
       have BK418:=n12_
       have HB:=n13_
       clear n0_ n1_ n2_ n3_ n4_ n5_ n6_ n7_ n8_ n9_ n10_ n11_ n12_ n13_
       (try clear hb)
       (try clear hb2)
       (try clear hk)
       (try clear hi)
       (try clear ho0)
       (try clear ho1)
       obtain ⟨Ao58,co58,eo58⟩:=Kd.R_slice HO422.out
       (first|subst eo58|(injection eo58 with f1_ f2_ f3_;have f4_:=f1_.symm;have f5_:=f3_.symm;clear f1_ f2_ f3_;subst f4_;subst f5_))
       obtain ⟨Ao59,co59,eo59⟩:=Kd.R_slice HO426.out
       (first|subst eo59|(injection eo59 with f1_ f2_ f3_;have f4_:=f1_.symm;have f5_:=f3_.symm;clear f1_ f2_ f3_;subst f4_;subst f5_))
       refine hK.out _ _ ⟨(blk_cell BK407.out 0).trans rfl,(blk_cell BK407.out 1).trans rfl,(blk_cell BK407.out 2).trans rfl,(blk_cell BK380.out 0).trans rfl,(blk_cell BK380.out 1).trans rfl,(blk_cell BK380.out 2).trans rfl⟩ (fun hHeld=>?_)
       clear hK K
       refine norm_ (a':=?_) ?_ ?_
       rotate_left
       · show Act.put _ (some 40) _ = _
         simp only [Act.put,List.setIfInBounds_toArray,List.set_cons_zero,List.set_cons_succ,i64_w,i32_w]
         rfl
       refine one_ (i:=3) (N:=some 41) #[true,true,true,true,false] rfl rfl (by kernel_rfl) (by decide) (fun K hK=>?_)
       refine goes_ Try.func9 (by kernel_rfl) rfl #[.agg #[.slice Ao34 t400.length co34,.int .i64 t403,.slice Ao38 t404.length co38],.agg #[.slice Ao58 t420.length co58,.int .i64 t423,.slice Ao59 t424.length co59]] (by rfl) rfl rfl (by (try simp only [List.map_toArray,List.map_cons,List.map_nil]);first|done|rfl|(simp only [List.length_drop,List.length_take];rfl)) ?_
       with_reducible refine (laws_eqSum.calls kj17 _ _ t400 t403 _ _ t404 _ _ t420 t423 _ _ t424 t427 _ ?side1 ?side2 ?side3 ?side4 ?side5 ?side6 ?side7 ?side8 A54.out).mono ?_
       (case side1=>repeat (first|exact (Kd.R_reads' HO_408000.out).2.2|(with_reducible refine Kd.C_alloc ?_ _)|(with_reducible refine Kd.C_drewN ?_ _)|(with_reducible refine Kd.C_drew ?_)))
       (case side2=>exact (Kd.R_reads' HO_408000.out).2.1)
       (case side3=>repeat (first|exact (Kd.R_reads' HO_408002.out).2.2|(with_reducible refine Kd.C_alloc ?_ _)|(with_reducible refine Kd.C_drewN ?_ _)|(with_reducible refine Kd.C_drew ?_)))
       (case side4=>exact (Kd.R_reads' HO_408002.out).2.1)
       (case side5=>repeat (first|exact (Kd.R_reads' HO422.out).2.2|(with_reducible refine Kd.C_alloc ?_ _)|(with_reducible refine Kd.C_drewN ?_ _)|(with_reducible refine Kd.C_drew ?_)))
       (case side6=>exact (Kd.R_reads' HO422.out).2.1)
       (case side7=>repeat (first|exact (Kd.R_reads' HO426.out).2.2|(with_reducible refine Kd.C_alloc ?_ _)|(with_reducible refine Kd.C_drewN ?_ _)|(with_reducible refine Kd.C_drew ?_)))
       (case side8=>exact (Kd.R_reads' HO426.out).2.1)
       rintro e w60 ⟨rfl,hb⟩
       refine ⟨_,rfl,?_⟩
       have n0_:=Aside0.mk (Kd.R_below (by (with_reducible repeat (first|apply Kd.R_alloc|apply Kd.R_drewN|apply Kd.R_drew));exact HO_8.out) hb)
       have n1_:=Aside0.mk (Kd.R_below (by (with_reducible repeat (first|apply Kd.R_alloc|apply Kd.R_drewN|apply Kd.R_drew));exact HO_400000.out) hb)
       have n2_:=Aside0.mk (Kd.R_below (by (with_reducible repeat (first|apply Kd.R_alloc|apply Kd.R_drewN|apply Kd.R_drew));exact HO_400002.out) hb)
       have n3_:=Aside0.mk (Kd.R_below (by (with_reducible repeat (first|apply Kd.R_alloc|apply Kd.R_drewN|apply Kd.R_drew));exact HO_408000.out) hb)
       have n4_:=Aside0.mk (Kd.R_below (by (with_reducible repeat (first|apply Kd.R_alloc|apply Kd.R_drewN|apply Kd.R_drew));exact HO_408002.out) hb)
       have n5_:=Aside0.mk (Kd.R_below (by (with_reducible repeat (first|apply Kd.R_alloc|apply Kd.R_drewN|apply Kd.R_drew));exact HO_419000.out) hb)
       have n6_:=Aside0.mk (Kd.R_below (by (with_reducible repeat (first|apply Kd.R_alloc|apply Kd.R_drewN|apply Kd.R_drew));exact HO_419002.out) hb)
       have n7_:=Aside0.mk (Kd.R_below (by (with_reducible repeat (first|apply Kd.R_alloc|apply Kd.R_drewN|apply Kd.R_drew));exact HO422.out) hb)
       have n8_:=Aside0.mk (Kd.R_below (by (with_reducible repeat (first|apply Kd.R_alloc|apply Kd.R_drewN|apply Kd.R_drew));exact HO426.out) hb)
       have n9_:=Aside0.mk (blk_below (g:=gb380) (o:=.cells #[.slice A0_0 l0_0.length c0_0,.int .i64 a0_1,.slice A0_2 l0_2.length c0_2] 25 (0,0)) (by (with_reducible repeat (first|refine blk_drewN ?_ _|refine blk_drew ?_|refine blk_alloc ?_ _));exact BK380.out) hb)
       have n10_:=Aside0.mk (blk_below (g:=gb399) (o:=.cells #[.slice Ao27 t392.length co27,.int .i64 t395,.slice Ao30 t396.length co30] 27 (0,0)) (by (with_reducible repeat (first|refine blk_drewN ?_ _|refine blk_drew ?_|refine blk_alloc ?_ _));exact BK399.out) hb)
       have n11_:=Aside0.mk (blk_below (g:=gb407) (o:=.cells #[.slice Ao34 t400.length co34,.int .i64 t403,.slice Ao38 t404.length co38] 27 (0,0)) (by (with_reducible repeat (first|refine blk_drewN ?_ _|refine blk_drew ?_|refine blk_alloc ?_ _));exact BK407.out) hb)
       have n12_:=Aside0.mk (blk_below (g:=gb418) (o:=.cells #[.slice Ao44 t411.length co44,.int .i64 t414,.slice Ao49 t415.length co49] 27 (0,0)) (by (with_reducible repeat (first|refine blk_drewN ?_ _|refine blk_drew ?_|refine blk_alloc ?_ _));exact BK418.out) hb)
       have n13_:=Aside0.mk (below_step (by repeat (first|(with_reducible first|exact HB.out|apply below_alloc|apply pw_below_drewN|apply below_drew1|refine below_set ?_ GE380.out|refine below_set ?_ GE399.out|refine below_set ?_ GE407.out|refine below_set ?_ GE418.out)|exact HB.out)) hb)
       clear HO_8
       clear HO_400000
       clear HO_400002
       clear HO_408000
       clear HO_408002
       clear HO_419000
       clear HO_419002
       clear HO422
       clear HO426
       clear BK380
       clear BK399
       clear BK407
       clear BK418
       clear HB
       have HO_8:=n0_
       have HO_400000:=n1_
       have HO_400002:=n2_
       have HO_408000:=n3_
       have HO_408002:=n4_
       have HO_419000:=n5_
       have HO_419002:=n6_
       have HO422:=n7_
       have HO426:=n8_
       have BK380:=n9_
       have BK399:=n10_
       have BK407:=n11_
       have BK418:=n12_
       have HB:=n13_
       clear n0_ n1_ n2_ n3_ n4_ n5_ n6_ n7_ n8_ n9_ n10_ n11_ n12_ n13_
       (try clear hb)
       (try clear hb2)
       (try clear hk)
       (try clear hi)
       refine hK.out _ _ ⟨(blk_cell BK407.out 0).trans rfl,(blk_cell BK407.out 1).trans rfl,(blk_cell BK407.out 2).trans rfl,(blk_cell BK380.out 0).trans rfl,(blk_cell BK380.out 1).trans rfl,(blk_cell BK380.out 2).trans rfl⟩ (fun hHeld=>?_)
       clear hK K
       refine norm_ (a':=?_) ?_ ?_
       rotate_left
       · show Act.put _ (some 41) _ = _
         simp only [Act.put,List.setIfInBounds_toArray,List.set_cons_zero,List.set_cons_succ,i64_w,i32_w]
         rfl
       refine pure_ (i:=4) (N:=some 42) (v:=?_) (a':=?_) #[true,true,true,true,true] rfl rfl (by kernel_rfl) (fun _ _ _ h=>h) (Or.inl ⟨by rfl,?_⟩) ?_ ?_
       rotate_left
       · intro w'
         go_simp
         with_reducible rfl
       rotate_left
       · simp only [Act.put, List.setIfInBounds_toArray, List.set_cons_zero, List.set_cons_succ, i64_w, i32_w]
         rfl
       refine done_ (by kernel_rfl) ?_
       go_upto_if 42 with (fail)
       go_cut [] (fun wc=>∃ (kq : Nat),Aside0 (laws_FnExactSumAdd.j3 kq l1 t408 l0_0 a0_1 l0_2 t392 t395 t396 t400 t403 t404 t411 t414 t415 = some r) ∧ Aside0 (kq ≤ kj17) ∧ Aside0 (Kd.R (Kd.int .u8) 5 wc w.heap.size (fun k_=>some k_ ≠ ((.slice Ao30 t396.length co30) : Value).ownBlock ∧ some k_ ≠ ((.slice Ao38 t404.length co38) : Value).ownBlock ∧ some k_ ≠ ((.slice Ao49 t415.length co49) : Value).ownBlock) (.slice Ao41 t408.length co41) t408) ∧ Aside0 (Kd.R (Kd.int .i64) 3 wc w.heap.size (fun k_=>some k_ ≠ ((.slice Ao34 t400.length co34) : Value).ownBlock ∧ some k_ ≠ ((.slice Ao44 t411.length co44) : Value).ownBlock) (.slice Ao27 t392.length co27) t392) ∧ Aside0 (Kd.R (Kd.int .u8) 5 wc w.heap.size (fun k_=>some k_ ≠ ((.slice Ao41 t408.length co41) : Value).ownBlock ∧ some k_ ≠ ((.slice Ao38 t404.length co38) : Value).ownBlock ∧ some k_ ≠ ((.slice Ao49 t415.length co49) : Value).ownBlock) (.slice Ao30 t396.length co30) t396) ∧ Aside0 (Kd.R (Kd.int .i64) 3 wc w.heap.size (fun k_=>some k_ ≠ ((.slice Ao27 t392.length co27) : Value).ownBlock ∧ some k_ ≠ ((.slice Ao44 t411.length co44) : Value).ownBlock) (.slice Ao34 t400.length co34) t400) ∧ Aside0 (Kd.R (Kd.int .u8) 5 wc w.heap.size (fun k_=>some k_ ≠ ((.slice Ao41 t408.length co41) : Value).ownBlock ∧ some k_ ≠ ((.slice Ao30 t396.length co30) : Value).ownBlock ∧ some k_ ≠ ((.slice Ao49 t415.length co49) : Value).ownBlock) (.slice Ao38 t404.length co38) t404) ∧ Aside0 (Kd.R (Kd.int .i64) 3 wc w.heap.size (fun k_=>some k_ ≠ ((.slice Ao27 t392.length co27) : Value).ownBlock ∧ some k_ ≠ ((.slice Ao34 t400.length co34) : Value).ownBlock) (.slice Ao44 t411.length co44) t411) ∧ Aside0 (Kd.R (Kd.int .u8) 5 wc w.heap.size (fun k_=>some k_ ≠ ((.slice Ao41 t408.length co41) : Value).ownBlock ∧ some k_ ≠ ((.slice Ao30 t396.length co30) : Value).ownBlock ∧ some k_ ≠ ((.slice Ao38 t404.length co38) : Value).ownBlock) (.slice Ao49 t415.length co49) t415) ∧ Aside0 (wc.heap[gb380]? = some (.cells #[(.slice A0_0 l0_0.length c0_0),.int .i64 a0_1,(.slice A0_2 l0_2.length c0_2)] 25 (0,0))) ∧ Aside0 (wc.heap[gb399]? = some (.cells #[(.slice Ao27 t392.length co27),.int .i64 t395,(.slice Ao30 t396.length co30)] 27 (0,0))) ∧ Aside0 (wc.heap[gb407]? = some (.cells #[(.slice Ao34 t400.length co34),.int .i64 t403,(.slice Ao38 t404.length co38)] 27 (0,0))) ∧ Aside0 (wc.heap[gb418]? = some (.cells #[(.slice Ao44 t411.length co44),.int .i64 t414,(.slice Ao49 t415.length co49)] 27 (0,0))) ∧ Aside0 (Below w.heap.size w wc))
       case first =>
        have H:=HC55.out
        clear HC55
        by_cases c61 : t427 = true
        case neg =>
         replace c61:=Bool.eq_false_iff.mpr c61
         subst c61
         have H1 : (some false) = some r:=by rw [if_neg (show ¬ (false = true) by decide)] at H;exact H
         clear H
         have H:=H1
         clear H1
         obtain rfl:=Option.some.inj H
         go_wp2
         go_ret
         exact ⟨by first|rfl|(simp [errW_none,errW_some]<;>rfl)|(simp [*,errW_none,errW_some]<;>rfl),by repeat (first|(with_reducible first|exact HB.out|apply below_alloc|apply pw_below_drewN|apply below_drew1|refine below_set ?_ GE380.out|refine below_set ?_ GE399.out|refine below_set ?_ GE407.out|refine below_set ?_ GE418.out)|exact HB.out)⟩
        subst c61
        have H1 : (laws_FnExactSumAdd.j3 kj17 l1 t408 l0_0 a0_1 l0_2 t392 t395 t396 t400 t403 t404 t411 t414 t415) = some r:=by rw [if_pos rfl] at H;exact H
        clear H
        have H:=H1
        clear H1
        have H':=Aside0.mk H
        clear H
        go_wp2
        go_meet
        case rel=>exact ⟨_,H',⟨by have:=HJ2.out;have:=HJ6.out;have:=HJ17.out;first|omega|exact Nat.le_refl _⟩,⟨by (with_reducible repeat (first|apply Kd.R_alloc|apply Kd.R_drewN|apply Kd.R_drew));exact Kd.R_mono HO_8.out (fun _ hk=>⟨hk.1.1,⟨hk.1.2.1,hk.1.2.2⟩⟩)⟩,⟨by (with_reducible repeat (first|apply Kd.R_alloc|apply Kd.R_drewN|apply Kd.R_drew));exact Kd.R_mono HO_400000.out (fun _ hk=>⟨hk.1.1,hk.1.2⟩)⟩,⟨by (with_reducible repeat (first|apply Kd.R_alloc|apply Kd.R_drewN|apply Kd.R_drew));exact Kd.R_mono HO_400002.out (fun _ hk=>⟨hk.1.1,⟨hk.1.2.1,hk.1.2.2⟩⟩)⟩,⟨by (with_reducible repeat (first|apply Kd.R_alloc|apply Kd.R_drewN|apply Kd.R_drew));exact Kd.R_mono HO_408000.out (fun _ hk=>⟨hk.1.1,hk.1.2⟩)⟩,⟨by (with_reducible repeat (first|apply Kd.R_alloc|apply Kd.R_drewN|apply Kd.R_drew));exact Kd.R_mono HO_408002.out (fun _ hk=>⟨hk.1.1,⟨hk.1.2.1,hk.1.2.2⟩⟩)⟩,⟨by (with_reducible repeat (first|apply Kd.R_alloc|apply Kd.R_drewN|apply Kd.R_drew));exact Kd.R_mono HO_419000.out (fun _ hk=>⟨hk.1.1,hk.1.2⟩)⟩,⟨by (with_reducible repeat (first|apply Kd.R_alloc|apply Kd.R_drewN|apply Kd.R_drew));exact Kd.R_mono HO_419002.out (fun _ hk=>⟨hk.1.1,⟨hk.1.2.1,hk.1.2.2⟩⟩)⟩,⟨by (with_reducible repeat (first|refine blk_drewN ?_ _|refine blk_drew ?_|refine blk_alloc ?_ _));exact BK380.out⟩,⟨by (with_reducible repeat (first|refine blk_drewN ?_ _|refine blk_drew ?_|refine blk_alloc ?_ _));exact BK399.out⟩,⟨by (with_reducible repeat (first|refine blk_drewN ?_ _|refine blk_drew ?_|refine blk_alloc ?_ _));exact BK407.out⟩,⟨by (with_reducible repeat (first|refine blk_drewN ?_ _|refine blk_drew ?_|refine blk_alloc ?_ _));exact BK418.out⟩,⟨by repeat (first|(with_reducible first|exact HB.out|apply below_alloc|apply pw_below_drewN|apply below_drew1|refine below_set ?_ GE380.out|refine below_set ?_ GE399.out|refine below_set ?_ GE407.out|refine below_set ?_ GE418.out)|exact HB.out)⟩⟩
       case rest =>
        clear HC55
        (try clear c1);(try clear c2);(try clear p2);(try clear c3);(try clear c4);(try clear c5);(try clear c5b0);(try clear c5b1);(try clear c6);(try clear c7);(try clear c8);(try clear c9);(try clear c10);(try clear c10b0);(try clear c28);(try clear c35);(try clear c36);(try clear c45);(try clear c46);(try clear c47);(try clear c52);(try clear c61);(try clear hcz19_0);(try clear hcz19_1);(try clear hcz19_2);(try clear hcz29_0);(try clear hcz29_1);(try clear hcz29_2);(try clear hcz31_0);(try clear hcz31_1);(try clear hcz31_2);(try clear hcz37_0);(try clear hcz37_1);(try clear hcz37_2);(try clear hcz40_0);(try clear hcz40_1);(try clear hcz40_2);(try clear hcz48_0);(try clear hcz48_1);(try clear hcz48_2);(try clear hcz50_0);(try clear hcz50_1);(try clear hcz50_2);(try clear hcz8_0);(try clear hcz8_1);(try clear hcz8_2);(try clear hfz19_0);(try clear hfz19_1);(try clear hfz19_2);(try clear hfz29_0);(try clear hfz29_1);(try clear hfz29_2);(try clear hfz31_0);(try clear hfz31_1);(try clear hfz31_2);(try clear hfz37_0);(try clear hfz37_1);(try clear hfz37_2);(try clear hfz40_0);(try clear hfz40_1);(try clear hfz40_2);(try clear hfz48_0);(try clear hfz48_1);(try clear hfz48_2);(try clear hfz50_0);(try clear hfz50_1);(try clear hfz50_2);(try clear hfz8_0);(try clear hfz8_1);(try clear hfz8_2);(try clear p2)
        obtain ⟨kq,HA,HJ54,HO_8,HO_400000,HO_400002,HO_408000,HO_408002,HO_419000,HO_419002,BK380,BK399,BK407,BK418,HB⟩:=hcut
        cases kq with
        | zero=>exact absurd HA.out (by simp [laws_FnExactSumAdd.j3])
        | succ kj54 =>
         have H:=HA.out
         clear HA
         simp only [laws_FnExactSumAdd.j3] at H
         replace H:=Option.bind_eq_some_iff.mp H
         obtain ⟨t428,A620,H⟩:=H
         replace H : ((laws_eqByteS.f kj54 t408 t428).bind fun t431=>(if t431 = true then (laws_FnExactSumAdd.j4 kj54 l1 t408 l0_0 a0_1 l0_2 t392 t395 t396 t400 t403 t404 t411 t414 t415) else (some false))) = some r:=H
         have A62:=Aside0.mk A620
         clear A620
         replace H:=Option.bind_eq_some_iff.mp H
         obtain ⟨t431,A630,H⟩:=H
         replace H : (if t431 = true then (laws_FnExactSumAdd.j4 kj54 l1 t408 l0_0 a0_1 l0_2 t392 t395 t396 t400 t403 t404 t411 t414 t415) else (some false)) = some r:=H
         have A63:=Aside0.mk A630
         clear A630
         have HC64:=Aside0.mk H
         clear H
         go_upto_if 47 with (first|((with_reducible refine gate_callee (f:=7) rfl ?_);refine goesL_ (some 45) rfl rfl Try.func7 (by kernel_rfl) rfl #[.slice A1 l1.length c1] rfl (by (try simp only [List.map_toArray,List.map_cons,List.map_nil]);first|done|rfl|(simp only [List.length_drop,List.length_take];rfl)) ?_;(with_reducible refine (laws_toByteS.calls kj54 _ _ l1 t428 _ ?side1 ?side2 A62.out).mono ?_);(case side1=>repeat (first|exact (Kd.C_below HR1.out HB.out)|(with_reducible refine Kd.C_alloc ?_ _)|(with_reducible refine Kd.C_drewN ?_ _)|(with_reducible refine Kd.C_drew ?_)));(case side2=>exact HC1.out);rintro e w65 ⟨v429,rfl,ho0,hb⟩;refine ⟨_,rfl,?_⟩;have n0_:=Aside0.mk (Kd.R_elder' (by (with_reducible repeat (first|apply Kd.R_alloc|apply Kd.R_drewN|apply Kd.R_drew));exact HO_8.out) (Kd.R_base ho0) hb);have n1_:=Aside0.mk (Kd.R_below (by (with_reducible repeat (first|apply Kd.R_alloc|apply Kd.R_drewN|apply Kd.R_drew));exact HO_400000.out) hb);have n2_:=Aside0.mk (Kd.R_elder' (by (with_reducible repeat (first|apply Kd.R_alloc|apply Kd.R_drewN|apply Kd.R_drew));exact HO_400002.out) (Kd.R_base ho0) hb);have n3_:=Aside0.mk (Kd.R_below (by (with_reducible repeat (first|apply Kd.R_alloc|apply Kd.R_drewN|apply Kd.R_drew));exact HO_408000.out) hb);have n4_:=Aside0.mk (Kd.R_elder' (by (with_reducible repeat (first|apply Kd.R_alloc|apply Kd.R_drewN|apply Kd.R_drew));exact HO_408002.out) (Kd.R_base ho0) hb);have n5_:=Aside0.mk (Kd.R_below (by (with_reducible repeat (first|apply Kd.R_alloc|apply Kd.R_drewN|apply Kd.R_drew));exact HO_419000.out) hb);have n6_:=Aside0.mk (Kd.R_elder' (by (with_reducible repeat (first|apply Kd.R_alloc|apply Kd.R_drewN|apply Kd.R_drew));exact HO_419002.out) (Kd.R_base ho0) hb);have n7_:=Aside0.mk (Kd.R_lower (Kd.R_new' (Kd.R_new' (Kd.R_new' (Kd.R_new' ho0 (Kd.R_lt (by (with_reducible repeat (first|apply Kd.R_alloc|apply Kd.R_drewN|apply Kd.R_drew));exact HO_8.out))) (Kd.R_lt (by (with_reducible repeat (first|apply Kd.R_alloc|apply Kd.R_drewN|apply Kd.R_drew));exact HO_400002.out))) (Kd.R_lt (by (with_reducible repeat (first|apply Kd.R_alloc|apply Kd.R_drewN|apply Kd.R_drew));exact HO_408002.out))) (Kd.R_lt (by (with_reducible repeat (first|apply Kd.R_alloc|apply Kd.R_drewN|apply Kd.R_drew));exact HO_419002.out))) (below_size (by repeat (first|(with_reducible first|exact HB.out|apply below_alloc|apply pw_below_drewN|apply below_drew1|refine below_set ?_ GE380.out|refine below_set ?_ GE399.out|refine below_set ?_ GE407.out|refine below_set ?_ GE418.out)|exact HB.out))));have n8_:=Aside0.mk (blk_below (g:=gb380) (o:=.cells #[.slice A0_0 l0_0.length c0_0,.int .i64 a0_1,.slice A0_2 l0_2.length c0_2] 25 (0,0)) (by (with_reducible repeat (first|refine blk_drewN ?_ _|refine blk_drew ?_|refine blk_alloc ?_ _));exact BK380.out) hb);have n9_:=Aside0.mk (blk_below (g:=gb399) (o:=.cells #[.slice Ao27 t392.length co27,.int .i64 t395,.slice Ao30 t396.length co30] 27 (0,0)) (by (with_reducible repeat (first|refine blk_drewN ?_ _|refine blk_drew ?_|refine blk_alloc ?_ _));exact BK399.out) hb);have n10_:=Aside0.mk (blk_below (g:=gb407) (o:=.cells #[.slice Ao34 t400.length co34,.int .i64 t403,.slice Ao38 t404.length co38] 27 (0,0)) (by (with_reducible repeat (first|refine blk_drewN ?_ _|refine blk_drew ?_|refine blk_alloc ?_ _));exact BK407.out) hb);have n11_:=Aside0.mk (blk_below (g:=gb418) (o:=.cells #[.slice Ao44 t411.length co44,.int .i64 t414,.slice Ao49 t415.length co49] 27 (0,0)) (by (with_reducible repeat (first|refine blk_drewN ?_ _|refine blk_drew ?_|refine blk_alloc ?_ _));exact BK418.out) hb);have n12_:=Aside0.mk (below_step (by repeat (first|(with_reducible first|exact HB.out|apply below_alloc|apply pw_below_drewN|apply below_drew1|refine below_set ?_ GE380.out|refine below_set ?_ GE399.out|refine below_set ?_ GE407.out|refine below_set ?_ GE418.out)|exact HB.out)) hb);clear HO_8;clear HO_400000;clear HO_400002;clear HO_408000;clear HO_408002;clear HO_419000;clear HO_419002;clear BK380;clear BK399;clear BK407;clear BK418;clear HB;have HO_8:=n0_;have HO_400000:=n1_;have HO_400002:=n2_;have HO_408000:=n3_;have HO_408002:=n4_;have HO_419000:=n5_;have HO_419002:=n6_;have HO430:=n7_;have BK380:=n8_;have BK399:=n9_;have BK407:=n10_;have BK418:=n11_;have HB:=n12_;clear n0_ n1_ n2_ n3_ n4_ n5_ n6_ n7_ n8_ n9_ n10_ n11_ n12_;(try clear hb);(try clear hb2);(try clear hk);(try clear hi);(try clear ho0);obtain ⟨Ao66,co66,eo66⟩:=Kd.R_slice HO430.out;subst eo66)|((with_reducible refine gate_callee (f:=10) rfl ?_);refine goesL_ (some 46) rfl rfl Try.func10 (by kernel_rfl) rfl #[.slice Ao41 t408.length co41,.slice Ao66 t428.length co66] rfl (by (try simp only [List.map_toArray,List.map_cons,List.map_nil]);first|done|rfl|(simp only [List.length_drop,List.length_take];rfl)) ?_;(with_reducible refine (laws_eqByteS.calls kj54 _ _ t408 _ _ t428 t431 _ ?side1 ?side2 ?side3 ?side4 A63.out).mono ?_);(case side1=>repeat (first|exact (Kd.R_reads' HO_8.out).2.2|(with_reducible refine Kd.C_alloc ?_ _)|(with_reducible refine Kd.C_drewN ?_ _)|(with_reducible refine Kd.C_drew ?_)));(case side2=>exact (Kd.R_reads' HO_8.out).2.1);(case side3=>repeat (first|exact (Kd.R_reads' HO430.out).2.2|(with_reducible refine Kd.C_alloc ?_ _)|(with_reducible refine Kd.C_drewN ?_ _)|(with_reducible refine Kd.C_drew ?_)));(case side4=>exact (Kd.R_reads' HO430.out).2.1);rintro e w' ⟨rfl,⟨nd,rfl⟩⟩;refine ⟨_,rfl,?_⟩))
         (try simp only [Act.put,List.setIfInBounds_toArray,List.set_cons_zero,List.set_cons_succ])
         go_cut [] (fun wc=>∃ (kq : Nat),Aside0 (laws_FnExactSumAdd.j4 kq l1 t408 l0_0 a0_1 l0_2 t392 t395 t396 t400 t403 t404 t411 t414 t415 = some r) ∧ Aside0 (kq ≤ kj54) ∧ Aside0 (Kd.R (Kd.int .u8) 5 wc w.heap.size (fun k_=>some k_ ≠ ((.slice Ao30 t396.length co30) : Value).ownBlock ∧ some k_ ≠ ((.slice Ao38 t404.length co38) : Value).ownBlock ∧ some k_ ≠ ((.slice Ao49 t415.length co49) : Value).ownBlock) (.slice Ao41 t408.length co41) t408) ∧ Aside0 (Kd.R (Kd.int .i64) 3 wc w.heap.size (fun k_=>some k_ ≠ ((.slice Ao34 t400.length co34) : Value).ownBlock ∧ some k_ ≠ ((.slice Ao44 t411.length co44) : Value).ownBlock) (.slice Ao27 t392.length co27) t392) ∧ Aside0 (Kd.R (Kd.int .u8) 5 wc w.heap.size (fun k_=>some k_ ≠ ((.slice Ao41 t408.length co41) : Value).ownBlock ∧ some k_ ≠ ((.slice Ao38 t404.length co38) : Value).ownBlock ∧ some k_ ≠ ((.slice Ao49 t415.length co49) : Value).ownBlock) (.slice Ao30 t396.length co30) t396) ∧ Aside0 (Kd.R (Kd.int .i64) 3 wc w.heap.size (fun k_=>some k_ ≠ ((.slice Ao27 t392.length co27) : Value).ownBlock ∧ some k_ ≠ ((.slice Ao44 t411.length co44) : Value).ownBlock) (.slice Ao34 t400.length co34) t400) ∧ Aside0 (Kd.R (Kd.int .u8) 5 wc w.heap.size (fun k_=>some k_ ≠ ((.slice Ao41 t408.length co41) : Value).ownBlock ∧ some k_ ≠ ((.slice Ao30 t396.length co30) : Value).ownBlock ∧ some k_ ≠ ((.slice Ao49 t415.length co49) : Value).ownBlock) (.slice Ao38 t404.length co38) t404) ∧ Aside0 (Kd.R (Kd.int .i64) 3 wc w.heap.size (fun k_=>some k_ ≠ ((.slice Ao27 t392.length co27) : Value).ownBlock ∧ some k_ ≠ ((.slice Ao34 t400.length co34) : Value).ownBlock) (.slice Ao44 t411.length co44) t411) ∧ Aside0 (Kd.R (Kd.int .u8) 5 wc w.heap.size (fun k_=>some k_ ≠ ((.slice Ao41 t408.length co41) : Value).ownBlock ∧ some k_ ≠ ((.slice Ao30 t396.length co30) : Value).ownBlock ∧ some k_ ≠ ((.slice Ao38 t404.length co38) : Value).ownBlock) (.slice Ao49 t415.length co49) t415) ∧ Aside0 (wc.heap[gb380]? = some (.cells #[(.slice A0_0 l0_0.length c0_0),.int .i64 a0_1,(.slice A0_2 l0_2.length c0_2)] 25 (0,0))) ∧ Aside0 (wc.heap[gb399]? = some (.cells #[(.slice Ao27 t392.length co27),.int .i64 t395,(.slice Ao30 t396.length co30)] 27 (0,0))) ∧ Aside0 (wc.heap[gb407]? = some (.cells #[(.slice Ao34 t400.length co34),.int .i64 t403,(.slice Ao38 t404.length co38)] 27 (0,0))) ∧ Aside0 (wc.heap[gb418]? = some (.cells #[(.slice Ao44 t411.length co44),.int .i64 t414,(.slice Ao49 t415.length co49)] 27 (0,0))) ∧ Aside0 (Below w.heap.size w wc))
         case first =>
          have H:=HC64.out
          clear HC64
          by_cases c67 : t431 = true
          case neg =>
           replace c67:=Bool.eq_false_iff.mpr c67
           subst c67
           have H1 : (some false) = some r:=by rw [if_neg (show ¬ (false = true) by decide)] at H;exact H
           clear H
           have H:=H1
           clear H1
           obtain rfl:=Option.some.inj H
           go_wp2
           go_ret
           exact ⟨by first|rfl|(simp [errW_none,errW_some]<;>rfl)|(simp [*,errW_none,errW_some]<;>rfl),by repeat (first|(with_reducible first|exact HB.out|apply below_alloc|apply pw_below_drewN|apply below_drew1|refine below_set ?_ GE380.out|refine below_set ?_ GE399.out|refine below_set ?_ GE407.out|refine below_set ?_ GE418.out)|exact HB.out)⟩
          subst c67
          have H1 : (laws_FnExactSumAdd.j4 kj54 l1 t408 l0_0 a0_1 l0_2 t392 t395 t396 t400 t403 t404 t411 t414 t415) = some r:=by rw [if_pos rfl] at H;exact H
          clear H
          have H:=H1
          clear H1
          have H':=Aside0.mk H
          clear H
          go_wp2
          go_meet
          case rel=>exact ⟨_,H',⟨by have:=HJ2.out;have:=HJ6.out;have:=HJ17.out;have:=HJ54.out;first|omega|exact Nat.le_refl _⟩,⟨by (with_reducible repeat (first|apply Kd.R_alloc|apply Kd.R_drewN|apply Kd.R_drew));exact Kd.R_mono HO_8.out (fun _ hk=>⟨hk.1.1,⟨hk.1.2.1,hk.1.2.2⟩⟩)⟩,⟨by (with_reducible repeat (first|apply Kd.R_alloc|apply Kd.R_drewN|apply Kd.R_drew));exact HO_400000.out⟩,⟨by (with_reducible repeat (first|apply Kd.R_alloc|apply Kd.R_drewN|apply Kd.R_drew));exact Kd.R_mono HO_400002.out (fun _ hk=>⟨hk.1.1,⟨hk.1.2.1,hk.1.2.2⟩⟩)⟩,⟨by (with_reducible repeat (first|apply Kd.R_alloc|apply Kd.R_drewN|apply Kd.R_drew));exact HO_408000.out⟩,⟨by (with_reducible repeat (first|apply Kd.R_alloc|apply Kd.R_drewN|apply Kd.R_drew));exact Kd.R_mono HO_408002.out (fun _ hk=>⟨hk.1.1,⟨hk.1.2.1,hk.1.2.2⟩⟩)⟩,⟨by (with_reducible repeat (first|apply Kd.R_alloc|apply Kd.R_drewN|apply Kd.R_drew));exact HO_419000.out⟩,⟨by (with_reducible repeat (first|apply Kd.R_alloc|apply Kd.R_drewN|apply Kd.R_drew));exact Kd.R_mono HO_419002.out (fun _ hk=>⟨hk.1.1,⟨hk.1.2.1,hk.1.2.2⟩⟩)⟩,⟨by (with_reducible repeat (first|refine blk_drewN ?_ _|refine blk_drew ?_|refine blk_alloc ?_ _));exact BK380.out⟩,⟨by (with_reducible repeat (first|refine blk_drewN ?_ _|refine blk_drew ?_|refine blk_alloc ?_ _));exact BK399.out⟩,⟨by (with_reducible repeat (first|refine blk_drewN ?_ _|refine blk_drew ?_|refine blk_alloc ?_ _));exact BK407.out⟩,⟨by (with_reducible repeat (first|refine blk_drewN ?_ _|refine blk_drew ?_|refine blk_alloc ?_ _));exact BK418.out⟩,⟨by repeat (first|(with_reducible first|exact HB.out|apply below_alloc|apply pw_below_drewN|apply below_drew1|refine below_set ?_ GE380.out|refine below_set ?_ GE399.out|refine below_set ?_ GE407.out|refine below_set ?_ GE418.out)|exact HB.out)⟩⟩
         case rest =>
          clear HC64
          (try clear c1);(try clear c2);(try clear p2);(try clear c3);(try clear c4);(try clear c5);(try clear c5b0);(try clear c5b1);(try clear c6);(try clear c7);(try clear c8);(try clear c9);(try clear c10);(try clear c10b0);(try clear c28);(try clear c35);(try clear c36);(try clear c45);(try clear c46);(try clear c47);(try clear c52);(try clear c61);(try clear c67);(try clear hcz19_0);(try clear hcz19_1);(try clear hcz19_2);(try clear hcz29_0);(try clear hcz29_1);(try clear hcz29_2);(try clear hcz31_0);(try clear hcz31_1);(try clear hcz31_2);(try clear hcz37_0);(try clear hcz37_1);(try clear hcz37_2);(try clear hcz40_0);(try clear hcz40_1);(try clear hcz40_2);(try clear hcz48_0);(try clear hcz48_1);(try clear hcz48_2);(try clear hcz50_0);(try clear hcz50_1);(try clear hcz50_2);(try clear hcz8_0);(try clear hcz8_1);(try clear hcz8_2);(try clear hfz19_0);(try clear hfz19_1);(try clear hfz19_2);(try clear hfz29_0);(try clear hfz29_1);(try clear hfz29_2);(try clear hfz31_0);(try clear hfz31_1);(try clear hfz31_2);(try clear hfz37_0);(try clear hfz37_1);(try clear hfz37_2);(try clear hfz40_0);(try clear hfz40_1);(try clear hfz40_2);(try clear hfz48_0);(try clear hfz48_1);(try clear hfz48_2);(try clear hfz50_0);(try clear hfz50_1);(try clear hfz50_2);(try clear hfz8_0);(try clear hfz8_1);(try clear hfz8_2);(try clear p2)
          obtain ⟨kq,HA,HJ63,HO_8,HO_400000,HO_400002,HO_408000,HO_408002,HO_419000,HO_419002,BK380,BK399,BK407,BK418,HB⟩:=hcut
          cases kq with
          | zero=>exact absurd HA.out (by simp [laws_FnExactSumAdd.j4])
          | succ kj63 =>
           have H:=HA.out
           clear HA
           simp only [laws_FnExactSumAdd.j4] at H
           replace H:=Option.bind_eq_some_iff.mp H
           obtain ⟨⟨t432,t433,t434⟩,A680,H⟩:=H
           replace H : ((laws_markByteS.f kj63 t408 t432).bind fun bt435=>(if bt435.1 < 0 then (laws_FnExactSumAdd.j5 kj63 l1 true l0_0 a0_1 l0_2 t392 t395 t396 t411 t414 t415) else ((laws_eqSum.f kj63 t411 t414 t415 t392 t395 t396).bind fun t437=>(laws_FnExactSumAdd.j5 kj63 l1 (!t437) l0_0 a0_1 l0_2 t392 t395 t396 t411 t414 t415)))) = some r:=H
           have A68:=Aside0.mk A680
           clear A680
           replace H:=Option.bind_eq_some_iff.mp H
           obtain ⟨⟨t435,t436⟩,A690,H⟩:=H
           replace H : (if t435 < 0 then (laws_FnExactSumAdd.j5 kj63 l1 true l0_0 a0_1 l0_2 t392 t395 t396 t411 t414 t415) else ((laws_eqSum.f kj63 t411 t414 t415 t392 t395 t396).bind fun t437=>(laws_FnExactSumAdd.j5 kj63 l1 (!t437) l0_0 a0_1 l0_2 t392 t395 t396 t411 t414 t415))) = some r:=H
           have A69:=Aside0.mk A690
           clear A690
           have HC70:=Aside0.mk H
           clear H
           have hnb71:=NB407_380.out
           have hnc71:=NB380_407.out
           have hnb72:=NB407_399.out
           have hnc72:=NB399_407.out
           have hnb73:=NB407_418.out
           have hnc73:=NB418_407.out
           have hcz74_0 : wc.cell? ⟨gb407,0,none⟩ = some (.slice Ao34 t400.length co34):=(blk_cell BK407.out 0).trans rfl
           have hcz74_1 : wc.cell? ⟨gb407,1,none⟩ = some (.int .i64 t403):=(blk_cell BK407.out 1).trans rfl
           have hcz74_2 : wc.cell? ⟨gb407,2,none⟩ = some (.slice Ao38 t404.length co38):=(blk_cell BK407.out 2).trans rfl
           have hfz74_0:=blk_frozen BK407.out 0
           have hfz74_1:=blk_frozen BK407.out 1
           have hfz74_2:=blk_frozen BK407.out 2
           go_upto_region 20 with (first|((with_reducible refine gate_callee (f:=11) rfl ?_);refine goesL_ (some 50) rfl rfl Try.func11 (by kernel_rfl) rfl #[.agg #[.slice Ao34 t400.length co34,.int .i64 t403,.slice Ao38 t404.length co38],.int .i64 1] rfl (by (try simp only [List.map_toArray,List.map_cons,List.map_nil]);first|done|rfl|(simp only [List.length_drop,List.length_take];rfl)) ?_;(with_reducible refine (laws_markSum.calls kj63 (fun k_=>some k_ = (.slice Ao34 t400.length co34 : Value).ownBlock) (.slice Ao34 t400.length co34) t400 t403 (fun k_=>some k_ = (.slice Ao38 t404.length co38 : Value).ownBlock) (.slice Ao38 t404.length co38) t404 1 t432 t433 t434 w _ ?side1 ?side2 ?side3 A68.out).mono ?_);(case side1=>repeat (first|(with_reducible first|exact HB.out|apply below_alloc|apply pw_below_drewN|apply below_drew1|refine below_set ?_ GE380.out|refine below_set ?_ GE399.out|refine below_set ?_ GE407.out|refine below_set ?_ GE418.out)|exact HB.out));(case side2=>exact Kd.R_tight rfl HO_408000.out);(case side3=>exact Kd.R_tight rfl HO_408002.out);rintro e w75 ⟨rfl,hy0,hy1,hb,hkp⟩;refine ⟨_,rfl,?_⟩;have n0_:=Aside0.mk (Kd.R_mono (ok':=fun k_=>some k_ ≠ (.slice Ao30 t396.length co30 : Value).ownBlock ∧ some k_ ≠ (.slice Ao38 t404.length co38 : Value).ownBlock ∧ some k_ ≠ (.slice Ao49 t415.length co49 : Value).ownBlock) (Kd.R_keptB ((Kd.R_apart' HO_8.out (Kd.R_typed HO_408000.out) (by decide))) hkp (fun k_ hk_ hs_=>Or.elim hs_ (fun e_=>(hk_.2) e_) (fun e_=>(hk_.1.2.1) e_))) (fun k_ hk_=>⟨hk_.1.1.1,hk_.1.1.2.1,hk_.1.1.2.2⟩));have n1_:=Aside0.mk (Kd.R_mono (ok':=fun k_=>some k_ ≠ (.slice Ao34 t400.length co34 : Value).ownBlock ∧ some k_ ≠ (.slice Ao44 t411.length co44 : Value).ownBlock) (Kd.R_keptB ((Kd.R_apart' HO_400000.out (Kd.R_typed HO_408002.out) (by decide))) hkp (fun k_ hk_ hs_=>Or.elim hs_ (fun e_=>(hk_.1.1) e_) (fun e_=>(hk_.2) e_))) (fun k_ hk_=>⟨hk_.1.1.1,hk_.1.1.2⟩));have n2_:=Aside0.mk (Kd.R_mono (ok':=fun k_=>some k_ ≠ (.slice Ao41 t408.length co41 : Value).ownBlock ∧ some k_ ≠ (.slice Ao38 t404.length co38 : Value).ownBlock ∧ some k_ ≠ (.slice Ao49 t415.length co49 : Value).ownBlock) (Kd.R_keptB ((Kd.R_apart' HO_400002.out (Kd.R_typed HO_408000.out) (by decide))) hkp (fun k_ hk_ hs_=>Or.elim hs_ (fun e_=>(hk_.2) e_) (fun e_=>(hk_.1.2.1) e_))) (fun k_ hk_=>⟨hk_.1.1.1,hk_.1.1.2.1,hk_.1.1.2.2⟩));have n3_:=Aside0.mk (Kd.R_reok rfl hy0 (fun k_ e_=>HO_408000.out.1 k_ e_));have n4_:=Aside0.mk (Kd.R_reok rfl hy1 (fun k_ e_=>HO_408002.out.1 k_ e_));have n5_:=Aside0.mk (Kd.R_mono (ok':=fun k_=>some k_ ≠ (.slice Ao27 t392.length co27 : Value).ownBlock ∧ some k_ ≠ (.slice Ao34 t400.length co34 : Value).ownBlock) (Kd.R_keptB ((Kd.R_apart' HO_419000.out (Kd.R_typed HO_408002.out) (by decide))) hkp (fun k_ hk_ hs_=>Or.elim hs_ (fun e_=>(hk_.1.2) e_) (fun e_=>(hk_.2) e_))) (fun k_ hk_=>⟨hk_.1.1.1,hk_.1.1.2⟩));have n6_:=Aside0.mk (Kd.R_mono (ok':=fun k_=>some k_ ≠ (.slice Ao41 t408.length co41 : Value).ownBlock ∧ some k_ ≠ (.slice Ao30 t396.length co30 : Value).ownBlock ∧ some k_ ≠ (.slice Ao38 t404.length co38 : Value).ownBlock) (Kd.R_keptB ((Kd.R_apart' HO_419002.out (Kd.R_typed HO_408000.out) (by decide))) hkp (fun k_ hk_ hs_=>Or.elim hs_ (fun e_=>(hk_.2) e_) (fun e_=>(hk_.1.2.2) e_))) (fun k_ hk_=>⟨hk_.1.1.1,hk_.1.1.2.1,hk_.1.1.2.2⟩));have n7_:=Aside0.mk (blk_kept (by (with_reducible repeat (first|refine blk_drewN ?_ _|refine blk_drew ?_|refine blk_alloc ?_ _));exact BK380.out) hkp (fun hs_=>Or.elim hs_ (fun e_=>(fun e_=>(Kd.R_ne HO_408000.out BK380.out (by decide)) e_) e_) (fun e_=>(fun e_=>(Kd.R_ne HO_408002.out BK380.out (by decide)) e_) e_)));have n8_:=Aside0.mk (blk_kept (by (with_reducible repeat (first|refine blk_drewN ?_ _|refine blk_drew ?_|refine blk_alloc ?_ _));exact BK399.out) hkp (fun hs_=>Or.elim hs_ (fun e_=>(fun e_=>(Kd.R_ne HO_408000.out BK399.out (by decide)) e_) e_) (fun e_=>(fun e_=>(Kd.R_ne HO_408002.out BK399.out (by decide)) e_) e_)));have n9_:=Aside0.mk (blk_kept (by (with_reducible repeat (first|refine blk_drewN ?_ _|refine blk_drew ?_|refine blk_alloc ?_ _));exact BK407.out) hkp (fun hs_=>Or.elim hs_ (fun e_=>(fun e_=>(Kd.R_ne HO_408000.out BK407.out (by decide)) e_) e_) (fun e_=>(fun e_=>(Kd.R_ne HO_408002.out BK407.out (by decide)) e_) e_)));have n10_:=Aside0.mk (blk_kept (by (with_reducible repeat (first|refine blk_drewN ?_ _|refine blk_drew ?_|refine blk_alloc ?_ _));exact BK418.out) hkp (fun hs_=>Or.elim hs_ (fun e_=>(fun e_=>(Kd.R_ne HO_408000.out BK418.out (by decide)) e_) e_) (fun e_=>(fun e_=>(Kd.R_ne HO_408002.out BK418.out (by decide)) e_) e_)));have n11_:=Aside0.mk (hb);clear HO_8;clear HO_400000;clear HO_400002;clear HO_408000;clear HO_408002;clear HO_419000;clear HO_419002;clear BK380;clear BK399;clear BK407;clear BK418;clear HB;have HO_8:=n0_;have HO_400000:=n1_;have HO_400002:=n2_;have HO_408000:=n3_;have HO_408002:=n4_;have HO_419000:=n5_;have HO_419002:=n6_;have BK380:=n7_;have BK399:=n8_;have BK407:=n9_;have BK418:=n10_;have HB:=n11_;clear n0_ n1_ n2_ n3_ n4_ n5_ n6_ n7_ n8_ n9_ n10_ n11_;(try clear hb);(try clear hkp);(try clear hy0);(try clear hy1))|((with_reducible refine gate_callee (f:=12) rfl ?_);refine goesL_ (some 53) rfl rfl Try.func12 (by kernel_rfl) rfl #[.slice Ao41 t408.length co41,.int .i64 t432] rfl (by (try simp only [List.map_toArray,List.map_cons,List.map_nil]);first|done|rfl|(simp only [List.length_drop,List.length_take];rfl)) ?_;(with_reducible refine (laws_markByteS.calls kj63 (fun k_=>some k_ = (.slice Ao41 t408.length co41 : Value).ownBlock) (.slice Ao41 t408.length co41) t408 t432 t435 t436 w _ ?side1 ?side2 A69.out).mono ?_);(case side1=>repeat (first|(with_reducible first|exact HB.out|apply below_alloc|apply pw_below_drewN|apply below_drew1|refine below_set ?_ GE380.out|refine below_set ?_ GE399.out|refine below_set ?_ GE407.out|refine below_set ?_ GE418.out)|exact HB.out));(case side2=>exact Kd.R_tight rfl HO_8.out);rintro e w76 ⟨rfl,hy0,hb,hkp⟩;refine ⟨_,rfl,?_⟩;have n0_:=Aside0.mk (Kd.R_reok rfl hy0 (fun k_ e_=>HO_8.out.1 k_ e_));have n1_:=Aside0.mk (Kd.R_mono (ok':=fun k_=>some k_ ≠ (.slice Ao34 t400.length co34 : Value).ownBlock ∧ some k_ ≠ (.slice Ao44 t411.length co44 : Value).ownBlock) (Kd.R_keptB ((Kd.R_apart' HO_400000.out (Kd.R_typed HO_8.out) (by decide))) hkp (fun k_ hk_ hs_=>(hk_.2) hs_)) (fun k_ hk_=>⟨hk_.1.1.1,hk_.1.1.2⟩));have n2_:=Aside0.mk (Kd.R_mono (ok':=fun k_=>some k_ ≠ (.slice Ao41 t408.length co41 : Value).ownBlock ∧ some k_ ≠ (.slice Ao38 t404.length co38 : Value).ownBlock ∧ some k_ ≠ (.slice Ao49 t415.length co49 : Value).ownBlock) (Kd.R_keptB (HO_400002.out) hkp (fun k_ hk_ hs_=>(hk_.1) hs_)) (fun k_ hk_=>⟨hk_.1.1,hk_.1.2.1,hk_.1.2.2⟩));have n3_:=Aside0.mk (Kd.R_mono (ok':=fun k_=>some k_ ≠ (.slice Ao27 t392.length co27 : Value).ownBlock ∧ some k_ ≠ (.slice Ao44 t411.length co44 : Value).ownBlock) (Kd.R_keptB ((Kd.R_apart' HO_408000.out (Kd.R_typed HO_8.out) (by decide))) hkp (fun k_ hk_ hs_=>(hk_.2) hs_)) (fun k_ hk_=>⟨hk_.1.1.1,hk_.1.1.2⟩));have n4_:=Aside0.mk (Kd.R_mono (ok':=fun k_=>some k_ ≠ (.slice Ao41 t408.length co41 : Value).ownBlock ∧ some k_ ≠ (.slice Ao30 t396.length co30 : Value).ownBlock ∧ some k_ ≠ (.slice Ao49 t415.length co49 : Value).ownBlock) (Kd.R_keptB (HO_408002.out) hkp (fun k_ hk_ hs_=>(hk_.1) hs_)) (fun k_ hk_=>⟨hk_.1.1,hk_.1.2.1,hk_.1.2.2⟩));have n5_:=Aside0.mk (Kd.R_mono (ok':=fun k_=>some k_ ≠ (.slice Ao27 t392.length co27 : Value).ownBlock ∧ some k_ ≠ (.slice Ao34 t400.length co34 : Value).ownBlock) (Kd.R_keptB ((Kd.R_apart' HO_419000.out (Kd.R_typed HO_8.out) (by decide))) hkp (fun k_ hk_ hs_=>(hk_.2) hs_)) (fun k_ hk_=>⟨hk_.1.1.1,hk_.1.1.2⟩));have n6_:=Aside0.mk (Kd.R_mono (ok':=fun k_=>some k_ ≠ (.slice Ao41 t408.length co41 : Value).ownBlock ∧ some k_ ≠ (.slice Ao30 t396.length co30 : Value).ownBlock ∧ some k_ ≠ (.slice Ao38 t404.length co38 : Value).ownBlock) (Kd.R_keptB (HO_419002.out) hkp (fun k_ hk_ hs_=>(hk_.1) hs_)) (fun k_ hk_=>⟨hk_.1.1,hk_.1.2.1,hk_.1.2.2⟩));have n7_:=Aside0.mk (blk_kept (by (with_reducible repeat (first|refine blk_drewN ?_ _|refine blk_drew ?_|refine blk_alloc ?_ _));exact BK380.out) hkp (fun hs_=>(fun e_=>(Kd.R_ne HO_8.out BK380.out (by decide)) e_) hs_));have n8_:=Aside0.mk (blk_kept (by (with_reducible repeat (first|refine blk_drewN ?_ _|refine blk_drew ?_|refine blk_alloc ?_ _));exact BK399.out) hkp (fun hs_=>(fun e_=>(Kd.R_ne HO_8.out BK399.out (by decide)) e_) hs_));have n9_:=Aside0.mk (blk_kept (by (with_reducible repeat (first|refine blk_drewN ?_ _|refine blk_drew ?_|refine blk_alloc ?_ _));exact BK407.out) hkp (fun hs_=>(fun e_=>(Kd.R_ne HO_8.out BK407.out (by decide)) e_) hs_));have n10_:=Aside0.mk (blk_kept (by (with_reducible repeat (first|refine blk_drewN ?_ _|refine blk_drew ?_|refine blk_alloc ?_ _));exact BK418.out) hkp (fun hs_=>(fun e_=>(Kd.R_ne HO_8.out BK418.out (by decide)) e_) hs_));have n11_:=Aside0.mk (hb);clear HO_8;clear HO_400000;clear HO_400002;clear HO_408000;clear HO_408002;clear HO_419000;clear HO_419002;clear BK380;clear BK399;clear BK407;clear BK418;clear HB;have HO_8:=n0_;have HO_400000:=n1_;have HO_400002:=n2_;have HO_408000:=n3_;have HO_408002:=n4_;have HO_419000:=n5_;have HO_419002:=n6_;have BK380:=n7_;have BK399:=n8_;have BK407:=n9_;have BK418:=n10_;have HB:=n11_;clear n0_ n1_ n2_ n3_ n4_ n5_ n6_ n7_ n8_ n9_ n10_ n11_;(try clear hb);(try clear hkp);(try clear hy0)))
           (try simp only [Act.put,List.setIfInBounds_toArray,List.set_cons_zero,List.set_cons_succ])
           go_cut [61] (fun v61 wc=>∃ (kq : Nat) (x61_69 : Bool),v61 = .bool x61_69 ∧ Aside0 (laws_FnExactSumAdd.j5 kq l1 x61_69 l0_0 a0_1 l0_2 t392 t395 t396 t411 t414 t415 = some r) ∧ Aside0 (kq ≤ kj63) ∧ Aside0 (Kd.R (Kd.int .i64) 3 wc w.heap.size (fun k_=>some k_ ≠ ((.slice Ao34 t400.length co34) : Value).ownBlock ∧ some k_ ≠ ((.slice Ao44 t411.length co44) : Value).ownBlock) (.slice Ao27 t392.length co27) t392) ∧ Aside0 (Kd.R (Kd.int .u8) 5 wc w.heap.size (fun k_=>some k_ ≠ ((.slice Ao38 t404.length co38) : Value).ownBlock ∧ some k_ ≠ ((.slice Ao49 t415.length co49) : Value).ownBlock) (.slice Ao30 t396.length co30) t396) ∧ Aside0 (Kd.R (Kd.int .i64) 3 wc w.heap.size (fun k_=>some k_ ≠ ((.slice Ao27 t392.length co27) : Value).ownBlock ∧ some k_ ≠ ((.slice Ao44 t411.length co44) : Value).ownBlock) (.slice Ao34 t400.length co34) t433) ∧ Aside0 (Kd.R (Kd.int .u8) 5 wc w.heap.size (fun k_=>some k_ ≠ ((.slice Ao30 t396.length co30) : Value).ownBlock ∧ some k_ ≠ ((.slice Ao49 t415.length co49) : Value).ownBlock) (.slice Ao38 t404.length co38) t434) ∧ Aside0 (Kd.R (Kd.int .i64) 3 wc w.heap.size (fun k_=>some k_ ≠ ((.slice Ao27 t392.length co27) : Value).ownBlock ∧ some k_ ≠ ((.slice Ao34 t400.length co34) : Value).ownBlock) (.slice Ao44 t411.length co44) t411) ∧ Aside0 (Kd.R (Kd.int .u8) 5 wc w.heap.size (fun k_=>some k_ ≠ ((.slice Ao30 t396.length co30) : Value).ownBlock ∧ some k_ ≠ ((.slice Ao38 t404.length co38) : Value).ownBlock) (.slice Ao49 t415.length co49) t415) ∧ Aside0 (wc.heap[gb380]? = some (.cells #[(.slice A0_0 l0_0.length c0_0),.int .i64 a0_1,(.slice A0_2 l0_2.length c0_2)] 25 (0,0))) ∧ Aside0 (wc.heap[gb399]? = some (.cells #[(.slice Ao27 t392.length co27),.int .i64 t395,(.slice Ao30 t396.length co30)] 27 (0,0))) ∧ Aside0 (wc.heap[gb407]? = some (.cells #[(.slice Ao34 t400.length co34),.int .i64 t403,(.slice Ao38 t404.length co38)] 27 (0,0))) ∧ Aside0 (wc.heap[gb418]? = some (.cells #[(.slice Ao44 t411.length co44),.int .i64 t414,(.slice Ao49 t415.length co49)] 27 (0,0))) ∧ Aside0 (Below w.heap.size w wc))
           case first =>
            have H:=HC70.out
            clear HC70
            by_cases c77 : t435 < 0
            case pos =>
             rw [if_pos c77] at H
             have c77b0 : decide (t435 < 0) = true:=decide_eq_true c77
             clear c77
             (first|rw [c77b0]|(simp only [i64_w,i32_w];rw [c77b0])|skip)
             (try (have ABc77:=Aside0.mk c77b0))
             have H':=Aside0.mk H
             clear H
             go_wp2
             (try simp only [ABc77.out] at *)
             go_meet
             case rel=>exact ⟨_,(true),(by first|rfl|(simp;done)|(simp [*];done)),H',⟨by have:=HJ2.out;have:=HJ6.out;have:=HJ17.out;have:=HJ54.out;have:=HJ63.out;first|omega|exact Nat.le_refl _⟩,⟨by (with_reducible repeat (first|apply Kd.R_alloc|apply Kd.R_drewN|apply Kd.R_drew));exact HO_400000.out⟩,⟨by (with_reducible repeat (first|apply Kd.R_alloc|apply Kd.R_drewN|apply Kd.R_drew));exact Kd.R_mono HO_400002.out (fun _ hk=>⟨hk.2.1,hk.2.2⟩)⟩,⟨by (with_reducible repeat (first|apply Kd.R_alloc|apply Kd.R_drewN|apply Kd.R_drew));exact HO_408000.out⟩,⟨by (with_reducible repeat (first|apply Kd.R_alloc|apply Kd.R_drewN|apply Kd.R_drew));exact Kd.R_mono HO_408002.out (fun _ hk=>⟨hk.2.1,hk.2.2⟩)⟩,⟨by (with_reducible repeat (first|apply Kd.R_alloc|apply Kd.R_drewN|apply Kd.R_drew));exact HO_419000.out⟩,⟨by (with_reducible repeat (first|apply Kd.R_alloc|apply Kd.R_drewN|apply Kd.R_drew));exact Kd.R_mono HO_419002.out (fun _ hk=>⟨hk.2.1,hk.2.2⟩)⟩,⟨by (with_reducible repeat (first|refine blk_drewN ?_ _|refine blk_drew ?_|refine blk_alloc ?_ _));exact BK380.out⟩,⟨by (with_reducible repeat (first|refine blk_drewN ?_ _|refine blk_drew ?_|refine blk_alloc ?_ _));exact BK399.out⟩,⟨by (with_reducible repeat (first|refine blk_drewN ?_ _|refine blk_drew ?_|refine blk_alloc ?_ _));exact BK407.out⟩,⟨by (with_reducible repeat (first|refine blk_drewN ?_ _|refine blk_drew ?_|refine blk_alloc ?_ _));exact BK418.out⟩,⟨by repeat (first|(with_reducible first|exact HB.out|apply below_alloc|apply pw_below_drewN|apply below_drew1|refine below_set ?_ GE380.out|refine below_set ?_ GE399.out|refine below_set ?_ GE407.out|refine below_set ?_ GE418.out)|exact HB.out)⟩⟩
            rw [if_neg c77] at H
            have c77b0 : decide (t435 < 0) = false:=decide_eq_false c77
            clear c77
            (first|rw [c77b0]|(simp only [i64_w,i32_w];rw [c77b0])|skip)
            (try (have ABc77:=Aside0.mk c77b0))
            replace H:=Option.bind_eq_some_iff.mp H
            obtain ⟨t437,A780,H⟩:=H
            replace H : (laws_FnExactSumAdd.j5 kj63 l1 (!t437) l0_0 a0_1 l0_2 t392 t395 t396 t411 t414 t415) = some r:=H
            have A78:=Aside0.mk A780
            clear A780
            have H':=Aside0.mk H
            clear H
            have hnb79:=NB418_380.out
            have hnc79:=NB380_418.out
            have hnb80:=NB418_399.out
            have hnc80:=NB399_418.out
            have hnb81:=NB418_407.out
            have hnc81:=NB407_418.out
            have hcz82_0 : w76.cell? ⟨gb418,0,none⟩ = some (.slice Ao44 t411.length co44):=(blk_cell BK418.out 0).trans rfl
            have hcz82_1 : w76.cell? ⟨gb418,1,none⟩ = some (.int .i64 t414):=(blk_cell BK418.out 1).trans rfl
            have hcz82_2 : w76.cell? ⟨gb418,2,none⟩ = some (.slice Ao49 t415.length co49):=(blk_cell BK418.out 2).trans rfl
            have hfz82_0:=blk_frozen BK418.out 0
            have hfz82_1:=blk_frozen BK418.out 1
            have hfz82_2:=blk_frozen BK418.out 2
            have hnb83:=NB399_380.out
            have hnc83:=NB380_399.out
            have hnb84:=NB399_407.out
            have hnc84:=NB407_399.out
            have hcz85_0 : w76.cell? ⟨gb399,0,none⟩ = some (.slice Ao27 t392.length co27):=(blk_cell BK399.out 0).trans rfl
            have hcz85_1 : w76.cell? ⟨gb399,1,none⟩ = some (.int .i64 t395):=(blk_cell BK399.out 1).trans rfl
            have hcz85_2 : w76.cell? ⟨gb399,2,none⟩ = some (.slice Ao30 t396.length co30):=(blk_cell BK399.out 2).trans rfl
            have hfz85_0:=blk_frozen BK399.out 0
            have hfz85_1:=blk_frozen BK399.out 1
            have hfz85_2:=blk_frozen BK399.out 2
            go_wp2_with (first|(go_at_call 9;(with_reducible refine (laws_eqSum.calls kj63 _ _ t411 t414 _ _ t415 _ _ t392 t395 _ _ t396 t437 _ ?side1 ?side2 ?side3 ?side4 ?side5 ?side6 ?side7 ?side8 A78.out).mono ?_);(case side1=>repeat (first|exact (Kd.R_reads' HO_419000.out).2.2|(with_reducible refine Kd.C_alloc ?_ _)|(with_reducible refine Kd.C_drewN ?_ _)|(with_reducible refine Kd.C_drew ?_)));(case side2=>exact (Kd.R_reads' HO_419000.out).2.1);(case side3=>repeat (first|exact (Kd.R_reads' HO_419002.out).2.2|(with_reducible refine Kd.C_alloc ?_ _)|(with_reducible refine Kd.C_drewN ?_ _)|(with_reducible refine Kd.C_drew ?_)));(case side4=>exact (Kd.R_reads' HO_419002.out).2.1);(case side5=>repeat (first|exact (Kd.R_reads' HO_400000.out).2.2|(with_reducible refine Kd.C_alloc ?_ _)|(with_reducible refine Kd.C_drewN ?_ _)|(with_reducible refine Kd.C_drew ?_)));(case side6=>exact (Kd.R_reads' HO_400000.out).2.1);(case side7=>repeat (first|exact (Kd.R_reads' HO_400002.out).2.2|(with_reducible refine Kd.C_alloc ?_ _)|(with_reducible refine Kd.C_drewN ?_ _)|(with_reducible refine Kd.C_drew ?_)));(case side8=>exact (Kd.R_reads' HO_400002.out).2.1);rintro e w86 ⟨rfl,hb⟩;have n0_:=Aside0.mk (Kd.R_below (by (with_reducible repeat (first|apply Kd.R_alloc|apply Kd.R_drewN|apply Kd.R_drew));exact HO_8.out) hb);have n1_:=Aside0.mk (Kd.R_below (by (with_reducible repeat (first|apply Kd.R_alloc|apply Kd.R_drewN|apply Kd.R_drew));exact HO_400000.out) hb);have n2_:=Aside0.mk (Kd.R_below (by (with_reducible repeat (first|apply Kd.R_alloc|apply Kd.R_drewN|apply Kd.R_drew));exact HO_400002.out) hb);have n3_:=Aside0.mk (Kd.R_below (by (with_reducible repeat (first|apply Kd.R_alloc|apply Kd.R_drewN|apply Kd.R_drew));exact HO_408000.out) hb);have n4_:=Aside0.mk (Kd.R_below (by (with_reducible repeat (first|apply Kd.R_alloc|apply Kd.R_drewN|apply Kd.R_drew));exact HO_408002.out) hb);have n5_:=Aside0.mk (Kd.R_below (by (with_reducible repeat (first|apply Kd.R_alloc|apply Kd.R_drewN|apply Kd.R_drew));exact HO_419000.out) hb);have n6_:=Aside0.mk (Kd.R_below (by (with_reducible repeat (first|apply Kd.R_alloc|apply Kd.R_drewN|apply Kd.R_drew));exact HO_419002.out) hb);have n7_:=Aside0.mk (blk_below (g:=gb380) (o:=.cells #[.slice A0_0 l0_0.length c0_0,.int .i64 a0_1,.slice A0_2 l0_2.length c0_2] 25 (0,0)) (by (with_reducible repeat (first|refine blk_drewN ?_ _|refine blk_drew ?_|refine blk_alloc ?_ _));exact BK380.out) hb);have n8_:=Aside0.mk (blk_below (g:=gb399) (o:=.cells #[.slice Ao27 t392.length co27,.int .i64 t395,.slice Ao30 t396.length co30] 27 (0,0)) (by (with_reducible repeat (first|refine blk_drewN ?_ _|refine blk_drew ?_|refine blk_alloc ?_ _));exact BK399.out) hb);have n9_:=Aside0.mk (blk_below (g:=gb407) (o:=.cells #[.slice Ao34 t400.length co34,.int .i64 t403,.slice Ao38 t404.length co38] 27 (0,0)) (by (with_reducible repeat (first|refine blk_drewN ?_ _|refine blk_drew ?_|refine blk_alloc ?_ _));exact BK407.out) hb);have n10_:=Aside0.mk (blk_below (g:=gb418) (o:=.cells #[.slice Ao44 t411.length co44,.int .i64 t414,.slice Ao49 t415.length co49] 27 (0,0)) (by (with_reducible repeat (first|refine blk_drewN ?_ _|refine blk_drew ?_|refine blk_alloc ?_ _));exact BK418.out) hb);have n11_:=Aside0.mk (below_step (by repeat (first|(with_reducible first|exact HB.out|apply below_alloc|apply pw_below_drewN|apply below_drew1|refine below_set ?_ GE380.out|refine below_set ?_ GE399.out|refine below_set ?_ GE407.out|refine below_set ?_ GE418.out)|exact HB.out)) hb);clear HO_8;clear HO_400000;clear HO_400002;clear HO_408000;clear HO_408002;clear HO_419000;clear HO_419002;clear BK380;clear BK399;clear BK407;clear BK418;clear HB;have HO_8:=n0_;have HO_400000:=n1_;have HO_400002:=n2_;have HO_408000:=n3_;have HO_408002:=n4_;have HO_419000:=n5_;have HO_419002:=n6_;have BK380:=n7_;have BK399:=n8_;have BK407:=n9_;have BK418:=n10_;have HB:=n11_;clear n0_ n1_ n2_ n3_ n4_ n5_ n6_ n7_ n8_ n9_ n10_ n11_;(try clear hb);(try clear hb2);(try clear hk);(try clear hi)))
            (try simp only [ABc77.out] at *)
            go_meet
            case rel=>exact ⟨_,(!t437),(by first|rfl|(simp;done)|(simp [*];done)),H',⟨by have:=HJ2.out;have:=HJ6.out;have:=HJ17.out;have:=HJ54.out;have:=HJ63.out;first|omega|exact Nat.le_refl _⟩,⟨by (with_reducible repeat (first|apply Kd.R_alloc|apply Kd.R_drewN|apply Kd.R_drew));exact HO_400000.out⟩,⟨by (with_reducible repeat (first|apply Kd.R_alloc|apply Kd.R_drewN|apply Kd.R_drew));exact Kd.R_mono HO_400002.out (fun _ hk=>⟨hk.2.1,hk.2.2⟩)⟩,⟨by (with_reducible repeat (first|apply Kd.R_alloc|apply Kd.R_drewN|apply Kd.R_drew));exact HO_408000.out⟩,⟨by (with_reducible repeat (first|apply Kd.R_alloc|apply Kd.R_drewN|apply Kd.R_drew));exact Kd.R_mono HO_408002.out (fun _ hk=>⟨hk.2.1,hk.2.2⟩)⟩,⟨by (with_reducible repeat (first|apply Kd.R_alloc|apply Kd.R_drewN|apply Kd.R_drew));exact HO_419000.out⟩,⟨by (with_reducible repeat (first|apply Kd.R_alloc|apply Kd.R_drewN|apply Kd.R_drew));exact Kd.R_mono HO_419002.out (fun _ hk=>⟨hk.2.1,hk.2.2⟩)⟩,⟨by (with_reducible repeat (first|refine blk_drewN ?_ _|refine blk_drew ?_|refine blk_alloc ?_ _));exact BK380.out⟩,⟨by (with_reducible repeat (first|refine blk_drewN ?_ _|refine blk_drew ?_|refine blk_alloc ?_ _));exact BK399.out⟩,⟨by (with_reducible repeat (first|refine blk_drewN ?_ _|refine blk_drew ?_|refine blk_alloc ?_ _));exact BK407.out⟩,⟨by (with_reducible repeat (first|refine blk_drewN ?_ _|refine blk_drew ?_|refine blk_alloc ?_ _));exact BK418.out⟩,⟨by repeat (first|(with_reducible first|exact HB.out|apply below_alloc|apply pw_below_drewN|apply below_drew1|refine below_set ?_ GE380.out|refine below_set ?_ GE399.out|refine below_set ?_ GE407.out|refine below_set ?_ GE418.out)|exact HB.out)⟩⟩
           case rest =>
            clear HC70
            (try clear c1);(try clear c2);(try clear p2);(try clear c3);(try clear c4);(try clear c5);(try clear c5b0);(try clear c5b1);(try clear c6);(try clear c7);(try clear c8);(try clear c9);(try clear c10);(try clear c10b0);(try clear c11);(try clear c12);(try clear c28);(try clear c35);(try clear c36);(try clear c45);(try clear c46);(try clear c47);(try clear c52);(try clear c61);(try clear c67);(try clear c71);(try clear c72);(try clear c73);(try clear c77);(try clear c77b0);(try clear c79);(try clear c80);(try clear c81);(try clear c83);(try clear c84);(try clear hcz19_0);(try clear hcz19_1);(try clear hcz19_2);(try clear hcz29_0);(try clear hcz29_1);(try clear hcz29_2);(try clear hcz31_0);(try clear hcz31_1);(try clear hcz31_2);(try clear hcz37_0);(try clear hcz37_1);(try clear hcz37_2);(try clear hcz40_0);(try clear hcz40_1);(try clear hcz40_2);(try clear hcz48_0);(try clear hcz48_1);(try clear hcz48_2);(try clear hcz50_0);(try clear hcz50_1);(try clear hcz50_2);(try clear hcz74_0);(try clear hcz74_1);(try clear hcz74_2);(try clear hcz82_0);(try clear hcz82_1);(try clear hcz82_2);(try clear hcz85_0);(try clear hcz85_1);(try clear hcz85_2);(try clear hcz8_0);(try clear hcz8_1);(try clear hcz8_2);(try clear hfz19_0);(try clear hfz19_1);(try clear hfz19_2);(try clear hfz29_0);(try clear hfz29_1);(try clear hfz29_2);(try clear hfz31_0);(try clear hfz31_1);(try clear hfz31_2);(try clear hfz37_0);(try clear hfz37_1);(try clear hfz37_2);(try clear hfz40_0);(try clear hfz40_1);(try clear hfz40_2);(try clear hfz48_0);(try clear hfz48_1);(try clear hfz48_2);(try clear hfz50_0);(try clear hfz50_1);(try clear hfz50_2);(try clear hfz74_0);(try clear hfz74_1);(try clear hfz74_2);(try clear hfz82_0);(try clear hfz82_1);(try clear hfz82_2);(try clear hfz85_0);(try clear hfz85_1);(try clear hfz85_2);(try clear hfz8_0);(try clear hfz8_1);(try clear hfz8_2);(try clear p2)
            obtain ⟨kq,x61_69,rfl,HA,HJ69,HO_400000,HO_400002,HO_408000,HO_408002,HO_419000,HO_419002,BK380,BK399,BK407,BK418,HB⟩:=hcut
            have hl408000_69:=(Kd.R_reads' HO_408000.out).1
            rw [hl408000_69] at HO_408000
            (try simp only [hl408000_69])
            (try simp only [hl408000_69] at BK380)
            (try simp only [hl408000_69] at BK399)
            (try simp only [hl408000_69] at BK407)
            (try simp only [hl408000_69] at BK418)
            (try simp only [hl408000_69] at HO_400000)
            (try simp only [hl408000_69] at HO_400002)
            (try simp only [hl408000_69] at HO_408002)
            (try simp only [hl408000_69] at HO_419000)
            (try simp only [hl408000_69] at HO_419002)
            have hl408002_69:=(Kd.R_reads' HO_408002.out).1
            rw [hl408002_69] at HO_408002
            (try simp only [hl408002_69])
            (try simp only [hl408002_69] at BK380)
            (try simp only [hl408002_69] at BK399)
            (try simp only [hl408002_69] at BK407)
            (try simp only [hl408002_69] at BK418)
            (try simp only [hl408002_69] at HO_400000)
            (try simp only [hl408002_69] at HO_400002)
            (try simp only [hl408002_69] at HO_408000)
            (try simp only [hl408002_69] at HO_419000)
            (try simp only [hl408002_69] at HO_419002)
            cases kq with
            | zero=>exact absurd HA.out (by simp [laws_FnExactSumAdd.j5])
            | succ kj69 =>
             have H:=HA.out
             clear HA
             simp only [laws_FnExactSumAdd.j5] at H
             have HC87:=Aside0.mk H
             clear H
             go_upto_if 61 with (fail)
             go_cut [] (fun wc=>∃ (kq : Nat),Aside0 (laws_FnExactSumAdd.j6 kq l1 l0_0 a0_1 l0_2 t392 t395 t396 t411 t414 t415 = some r) ∧ Aside0 (kq ≤ kj69) ∧ Aside0 (Kd.R (Kd.int .i64) 3 wc w.heap.size (fun k_=>some k_ ≠ ((.slice Ao34 t433.length co34) : Value).ownBlock ∧ some k_ ≠ ((.slice Ao44 t411.length co44) : Value).ownBlock) (.slice Ao27 t392.length co27) t392) ∧ Aside0 (Kd.R (Kd.int .u8) 5 wc w.heap.size (fun k_=>some k_ ≠ ((.slice Ao38 t434.length co38) : Value).ownBlock ∧ some k_ ≠ ((.slice Ao49 t415.length co49) : Value).ownBlock) (.slice Ao30 t396.length co30) t396) ∧ Aside0 (Kd.R (Kd.int .i64) 3 wc w.heap.size (fun k_=>some k_ ≠ ((.slice Ao27 t392.length co27) : Value).ownBlock ∧ some k_ ≠ ((.slice Ao44 t411.length co44) : Value).ownBlock) (.slice Ao34 t433.length co34) t433) ∧ Aside0 (Kd.R (Kd.int .u8) 5 wc w.heap.size (fun k_=>some k_ ≠ ((.slice Ao30 t396.length co30) : Value).ownBlock ∧ some k_ ≠ ((.slice Ao49 t415.length co49) : Value).ownBlock) (.slice Ao38 t434.length co38) t434) ∧ Aside0 (Kd.R (Kd.int .i64) 3 wc w.heap.size (fun k_=>some k_ ≠ ((.slice Ao27 t392.length co27) : Value).ownBlock ∧ some k_ ≠ ((.slice Ao34 t433.length co34) : Value).ownBlock) (.slice Ao44 t411.length co44) t411) ∧ Aside0 (Kd.R (Kd.int .u8) 5 wc w.heap.size (fun k_=>some k_ ≠ ((.slice Ao30 t396.length co30) : Value).ownBlock ∧ some k_ ≠ ((.slice Ao38 t434.length co38) : Value).ownBlock) (.slice Ao49 t415.length co49) t415) ∧ Aside0 (wc.heap[gb380]? = some (.cells #[(.slice A0_0 l0_0.length c0_0),.int .i64 a0_1,(.slice A0_2 l0_2.length c0_2)] 25 (0,0))) ∧ Aside0 (wc.heap[gb399]? = some (.cells #[(.slice Ao27 t392.length co27),.int .i64 t395,(.slice Ao30 t396.length co30)] 27 (0,0))) ∧ Aside0 (wc.heap[gb407]? = some (.cells #[(.slice Ao34 t433.length co34),.int .i64 t403,(.slice Ao38 t434.length co38)] 27 (0,0))) ∧ Aside0 (wc.heap[gb418]? = some (.cells #[(.slice Ao44 t411.length co44),.int .i64 t414,(.slice Ao49 t415.length co49)] 27 (0,0))) ∧ Aside0 (Below w.heap.size w wc))
             case first =>
              have H:=HC87.out
              clear HC87
              by_cases c88 : x61_69 = true
              case pos =>
               subst c88
               have H1 : (some false) = some r:=by rw [if_pos rfl] at H;exact H
               clear H
               have H:=H1
               clear H1
               obtain rfl:=Option.some.inj H
               go_wp2
               go_ret
               exact ⟨by first|rfl|(simp [errW_none,errW_some]<;>rfl)|(simp [*,errW_none,errW_some]<;>rfl),by repeat (first|(with_reducible first|exact HB.out|apply below_alloc|apply pw_below_drewN|apply below_drew1|refine below_set ?_ GE380.out|refine below_set ?_ GE399.out|refine below_set ?_ GE407.out|refine below_set ?_ GE418.out)|exact HB.out)⟩
              replace c88:=Bool.eq_false_iff.mpr c88
              subst c88
              have H1 : (laws_FnExactSumAdd.j6 kj69 l1 l0_0 a0_1 l0_2 t392 t395 t396 t411 t414 t415) = some r:=by rw [if_neg (show ¬ (false = true) by decide)] at H;exact H
              clear H
              have H:=H1
              clear H1
              have H':=Aside0.mk H
              clear H
              go_wp2
              go_meet
              case rel=>exact ⟨_,H',⟨by have:=HJ2.out;have:=HJ6.out;have:=HJ17.out;have:=HJ54.out;have:=HJ63.out;have:=HJ69.out;first|omega|exact Nat.le_refl _⟩,⟨by (try simp only [hl408000_69]);(try simp only [hl408002_69]);(with_reducible repeat (first|apply Kd.R_alloc|apply Kd.R_drewN|apply Kd.R_drew));exact HO_400000.out⟩,⟨by (try simp only [hl408000_69]);(try simp only [hl408002_69]);(with_reducible repeat (first|apply Kd.R_alloc|apply Kd.R_drewN|apply Kd.R_drew));exact HO_400002.out⟩,⟨by (try simp only [hl408000_69]);(try simp only [hl408002_69]);(with_reducible repeat (first|apply Kd.R_alloc|apply Kd.R_drewN|apply Kd.R_drew));exact HO_408000.out⟩,⟨by (try simp only [hl408000_69]);(try simp only [hl408002_69]);(with_reducible repeat (first|apply Kd.R_alloc|apply Kd.R_drewN|apply Kd.R_drew));exact HO_408002.out⟩,⟨by (try simp only [hl408000_69]);(try simp only [hl408002_69]);(with_reducible repeat (first|apply Kd.R_alloc|apply Kd.R_drewN|apply Kd.R_drew));exact HO_419000.out⟩,⟨by (try simp only [hl408000_69]);(try simp only [hl408002_69]);(with_reducible repeat (first|apply Kd.R_alloc|apply Kd.R_drewN|apply Kd.R_drew));exact HO_419002.out⟩,⟨by (try simp only [hl408000_69]);(try simp only [hl408002_69]);(with_reducible repeat (first|refine blk_drewN ?_ _|refine blk_drew ?_|refine blk_alloc ?_ _));exact BK380.out⟩,⟨by (try simp only [hl408000_69]);(try simp only [hl408002_69]);(with_reducible repeat (first|refine blk_drewN ?_ _|refine blk_drew ?_|refine blk_alloc ?_ _));exact BK399.out⟩,⟨by (try simp only [hl408000_69]);(try simp only [hl408002_69]);(with_reducible repeat (first|refine blk_drewN ?_ _|refine blk_drew ?_|refine blk_alloc ?_ _));exact BK407.out⟩,⟨by (try simp only [hl408000_69]);(try simp only [hl408002_69]);(with_reducible repeat (first|refine blk_drewN ?_ _|refine blk_drew ?_|refine blk_alloc ?_ _));exact BK418.out⟩,⟨by repeat (first|(with_reducible first|exact HB.out|apply below_alloc|apply pw_below_drewN|apply below_drew1|refine below_set ?_ GE380.out|refine below_set ?_ GE399.out|refine below_set ?_ GE407.out|refine below_set ?_ GE418.out)|exact HB.out)⟩⟩
             case rest =>
              clear HC87
              (try clear c1);(try clear c2);(try clear p2);(try clear c3);(try clear c4);(try clear c5);(try clear c5b0);(try clear c5b1);(try clear c6);(try clear c7);(try clear c8);(try clear c9);(try clear c10);(try clear c10b0);(try clear c11);(try clear c12);(try clear c28);(try clear c35);(try clear c36);(try clear c45);(try clear c46);(try clear c47);(try clear c52);(try clear c61);(try clear c67);(try clear c71);(try clear c72);(try clear c73);(try clear c77);(try clear c77b0);(try clear c79);(try clear c80);(try clear c81);(try clear c83);(try clear c84);(try clear c88);(try clear hcz19_0);(try clear hcz19_1);(try clear hcz19_2);(try clear hcz29_0);(try clear hcz29_1);(try clear hcz29_2);(try clear hcz31_0);(try clear hcz31_1);(try clear hcz31_2);(try clear hcz37_0);(try clear hcz37_1);(try clear hcz37_2);(try clear hcz40_0);(try clear hcz40_1);(try clear hcz40_2);(try clear hcz48_0);(try clear hcz48_1);(try clear hcz48_2);(try clear hcz50_0);(try clear hcz50_1);(try clear hcz50_2);(try clear hcz74_0);(try clear hcz74_1);(try clear hcz74_2);(try clear hcz82_0);(try clear hcz82_1);(try clear hcz82_2);(try clear hcz85_0);(try clear hcz85_1);(try clear hcz85_2);(try clear hcz8_0);(try clear hcz8_1);(try clear hcz8_2);(try clear hfz19_0);(try clear hfz19_1);(try clear hfz19_2);(try clear hfz29_0);(try clear hfz29_1);(try clear hfz29_2);(try clear hfz31_0);(try clear hfz31_1);(try clear hfz31_2);(try clear hfz37_0);(try clear hfz37_1);(try clear hfz37_2);(try clear hfz40_0);(try clear hfz40_1);(try clear hfz40_2);(try clear hfz48_0);(try clear hfz48_1);(try clear hfz48_2);(try clear hfz50_0);(try clear hfz50_1);(try clear hfz50_2);(try clear hfz74_0);(try clear hfz74_1);(try clear hfz74_2);(try clear hfz82_0);(try clear hfz82_1);(try clear hfz82_2);(try clear hfz85_0);(try clear hfz85_1);(try clear hfz85_2);(try clear hfz8_0);(try clear hfz8_1);(try clear hfz8_2);(try clear p2)
              obtain ⟨kq,HA,HJ86,HO_400000,HO_400002,HO_408000,HO_408002,HO_419000,HO_419002,BK380,BK399,BK407,BK418,HB⟩:=hcut
              cases kq with
              | zero=>exact absurd HA.out (by simp [laws_FnExactSumAdd.j6])
              | succ kj86 =>
               have H:=HA.out
               clear HA
               simp only [laws_FnExactSumAdd.j6] at H
               replace H:=Option.bind_eq_some_iff.mp H
               obtain ⟨⟨t438,t439,t440⟩,A890,H⟩:=H
               replace H : ((laws_heldSum.f kj86 t439 t414 t440 1).bind fun t441=>(if t441 < 0 then (some false) else (laws_FnExactSumAdd.j7 kj86 l1 t438 t441 l0_0 a0_1 l0_2 t392 t395 t396 t439 t414 t440))) = some r:=H
               have A89:=Aside0.mk A890
               clear A890
               replace H:=Option.bind_eq_some_iff.mp H
               obtain ⟨t441,A900,H⟩:=H
               replace H : (if t441 < 0 then (some false) else (laws_FnExactSumAdd.j7 kj86 l1 t438 t441 l0_0 a0_1 l0_2 t392 t395 t396 t439 t414 t440)) = some r:=H
               have A90:=Aside0.mk A900
               clear A900
               have HC91:=Aside0.mk H
               clear H
               have hnb92:=NB418_380.out
               have hnc92:=NB380_418.out
               have hnb93:=NB418_399.out
               have hnc93:=NB399_418.out
               have hnb94:=NB418_407.out
               have hnc94:=NB407_418.out
               have hcz95_0 : wc.cell? ⟨gb418,0,none⟩ = some (.slice Ao44 t411.length co44):=(blk_cell BK418.out 0).trans rfl
               have hcz95_1 : wc.cell? ⟨gb418,1,none⟩ = some (.int .i64 t414):=(blk_cell BK418.out 1).trans rfl
               have hcz95_2 : wc.cell? ⟨gb418,2,none⟩ = some (.slice Ao49 t415.length co49):=(blk_cell BK418.out 2).trans rfl
               have hfz95_0:=blk_frozen BK418.out 0
               have hfz95_1:=blk_frozen BK418.out 1
               have hfz95_2:=blk_frozen BK418.out 2
               go_upto_if 69 with (first|((with_reducible refine gate_callee (f:=11) rfl ?_);refine goesL_ (some 64) rfl rfl Try.func11 (by kernel_rfl) rfl #[.agg #[.slice Ao44 t411.length co44,.int .i64 t414,.slice Ao49 t415.length co49],.int .i64 1] rfl (by (try simp only [List.map_toArray,List.map_cons,List.map_nil]);first|done|rfl|(simp only [List.length_drop,List.length_take];rfl)) ?_;(with_reducible refine (laws_markSum.calls kj86 (fun k_=>some k_ = (.slice Ao44 t411.length co44 : Value).ownBlock) (.slice Ao44 t411.length co44) t411 t414 (fun k_=>some k_ = (.slice Ao49 t415.length co49 : Value).ownBlock) (.slice Ao49 t415.length co49) t415 1 t438 t439 t440 w _ ?side1 ?side2 ?side3 A89.out).mono ?_);(case side1=>repeat (first|(with_reducible first|exact HB.out|apply below_alloc|apply pw_below_drewN|apply below_drew1|refine below_set ?_ GE380.out|refine below_set ?_ GE399.out|refine below_set ?_ GE407.out|refine below_set ?_ GE418.out)|exact HB.out));(case side2=>exact Kd.R_tight rfl HO_419000.out);(case side3=>exact Kd.R_tight rfl HO_419002.out);rintro e w96 ⟨rfl,hy0,hy1,hb,hkp⟩;refine ⟨_,rfl,?_⟩;have n0_:=Aside0.mk (Kd.R_mono (ok':=fun k_=>some k_ ≠ (.slice Ao34 t433.length co34 : Value).ownBlock ∧ some k_ ≠ (.slice Ao44 t411.length co44 : Value).ownBlock) (Kd.R_keptB ((Kd.R_apart' HO_400000.out (Kd.R_typed HO_419002.out) (by decide))) hkp (fun k_ hk_ hs_=>Or.elim hs_ (fun e_=>(hk_.1.2) e_) (fun e_=>(hk_.2) e_))) (fun k_ hk_=>⟨hk_.1.1.1,hk_.1.1.2⟩));have n1_:=Aside0.mk (Kd.R_mono (ok':=fun k_=>some k_ ≠ (.slice Ao38 t434.length co38 : Value).ownBlock ∧ some k_ ≠ (.slice Ao49 t415.length co49 : Value).ownBlock) (Kd.R_keptB ((Kd.R_apart' HO_400002.out (Kd.R_typed HO_419000.out) (by decide))) hkp (fun k_ hk_ hs_=>Or.elim hs_ (fun e_=>(hk_.2) e_) (fun e_=>(hk_.1.2) e_))) (fun k_ hk_=>⟨hk_.1.1.1,hk_.1.1.2⟩));have n2_:=Aside0.mk (Kd.R_mono (ok':=fun k_=>some k_ ≠ (.slice Ao27 t392.length co27 : Value).ownBlock ∧ some k_ ≠ (.slice Ao44 t411.length co44 : Value).ownBlock) (Kd.R_keptB ((Kd.R_apart' HO_408000.out (Kd.R_typed HO_419002.out) (by decide))) hkp (fun k_ hk_ hs_=>Or.elim hs_ (fun e_=>(hk_.1.2) e_) (fun e_=>(hk_.2) e_))) (fun k_ hk_=>⟨hk_.1.1.1,hk_.1.1.2⟩));have n3_:=Aside0.mk (Kd.R_mono (ok':=fun k_=>some k_ ≠ (.slice Ao30 t396.length co30 : Value).ownBlock ∧ some k_ ≠ (.slice Ao49 t415.length co49 : Value).ownBlock) (Kd.R_keptB ((Kd.R_apart' HO_408002.out (Kd.R_typed HO_419000.out) (by decide))) hkp (fun k_ hk_ hs_=>Or.elim hs_ (fun e_=>(hk_.2) e_) (fun e_=>(hk_.1.2) e_))) (fun k_ hk_=>⟨hk_.1.1.1,hk_.1.1.2⟩));have n4_:=Aside0.mk (Kd.R_reok rfl hy0 (fun k_ e_=>HO_419000.out.1 k_ e_));have n5_:=Aside0.mk (Kd.R_reok rfl hy1 (fun k_ e_=>HO_419002.out.1 k_ e_));have n6_:=Aside0.mk (blk_kept (by (with_reducible repeat (first|refine blk_drewN ?_ _|refine blk_drew ?_|refine blk_alloc ?_ _));exact BK380.out) hkp (fun hs_=>Or.elim hs_ (fun e_=>(fun e_=>(Kd.R_ne HO_419000.out BK380.out (by decide)) e_) e_) (fun e_=>(fun e_=>(Kd.R_ne HO_419002.out BK380.out (by decide)) e_) e_)));have n7_:=Aside0.mk (blk_kept (by (with_reducible repeat (first|refine blk_drewN ?_ _|refine blk_drew ?_|refine blk_alloc ?_ _));exact BK399.out) hkp (fun hs_=>Or.elim hs_ (fun e_=>(fun e_=>(Kd.R_ne HO_419000.out BK399.out (by decide)) e_) e_) (fun e_=>(fun e_=>(Kd.R_ne HO_419002.out BK399.out (by decide)) e_) e_)));have n8_:=Aside0.mk (blk_kept (by (with_reducible repeat (first|refine blk_drewN ?_ _|refine blk_drew ?_|refine blk_alloc ?_ _));exact BK407.out) hkp (fun hs_=>Or.elim hs_ (fun e_=>(fun e_=>(Kd.R_ne HO_419000.out BK407.out (by decide)) e_) e_) (fun e_=>(fun e_=>(Kd.R_ne HO_419002.out BK407.out (by decide)) e_) e_)));have n9_:=Aside0.mk (blk_kept (by (with_reducible repeat (first|refine blk_drewN ?_ _|refine blk_drew ?_|refine blk_alloc ?_ _));exact BK418.out) hkp (fun hs_=>Or.elim hs_ (fun e_=>(fun e_=>(Kd.R_ne HO_419000.out BK418.out (by decide)) e_) e_) (fun e_=>(fun e_=>(Kd.R_ne HO_419002.out BK418.out (by decide)) e_) e_)));have n10_:=Aside0.mk (hb);clear HO_400000;clear HO_400002;clear HO_408000;clear HO_408002;clear HO_419000;clear HO_419002;clear BK380;clear BK399;clear BK407;clear BK418;clear HB;have HO_400000:=n0_;have HO_400002:=n1_;have HO_408000:=n2_;have HO_408002:=n3_;have HO_419000:=n4_;have HO_419002:=n5_;have BK380:=n6_;have BK399:=n7_;have BK407:=n8_;have BK418:=n9_;have HB:=n10_;clear n0_ n1_ n2_ n3_ n4_ n5_ n6_ n7_ n8_ n9_ n10_;(try clear hb);(try clear hkp);(try clear hy0);(try clear hy1);have hcz97_0 : w96.cell? ⟨gb418,0,none⟩ = some (.slice Ao44 t411.length co44):=(blk_cell BK418.out 0).trans rfl;have hcz97_1 : w96.cell? ⟨gb418,1,none⟩ = some (.int .i64 t414):=(blk_cell BK418.out 1).trans rfl;have hcz97_2 : w96.cell? ⟨gb418,2,none⟩ = some (.slice Ao49 t415.length co49):=(blk_cell BK418.out 2).trans rfl;have hfz97_0:=blk_frozen BK418.out 0;have hfz97_1:=blk_frozen BK418.out 1;have hfz97_2:=blk_frozen BK418.out 2)|((with_reducible refine gate_callee (f:=13) rfl ?_);refine goesL_ (some 67) rfl rfl Try.func13 (by kernel_rfl) rfl #[.agg #[.slice Ao44 t439.length co44,.int .i64 t414,.slice Ao49 t440.length co49],.int .i64 1] rfl (by (try simp only [List.map_toArray,List.map_cons,List.map_nil]);first|done|(rw [show t439.length = t411.length from (Kd.R_reads' HO_419000.out).1.symm,show t440.length = t415.length from (Kd.R_reads' HO_419002.out).1.symm]<;>rfl)|rfl|(simp only [List.length_drop,List.length_take];rfl)) ?_;(with_reducible refine (laws_heldSum.calls kj86 _ _ t439 t414 _ _ t440 1 t441 _ ?side1 ?side2 ?side3 ?side4 A90.out).mono ?_);(case side1=>repeat (first|exact (Kd.R_reads' HO_419000.out).2.2|(with_reducible refine Kd.C_alloc ?_ _)|(with_reducible refine Kd.C_drewN ?_ _)|(with_reducible refine Kd.C_drew ?_)));(case side2=>rw [show t439.length = t411.length from (Kd.R_reads' HO_419000.out).1.symm];exact (Kd.R_reads' HO_419000.out).2.1);(case side3=>repeat (first|exact (Kd.R_reads' HO_419002.out).2.2|(with_reducible refine Kd.C_alloc ?_ _)|(with_reducible refine Kd.C_drewN ?_ _)|(with_reducible refine Kd.C_drew ?_)));(case side4=>rw [show t440.length = t415.length from (Kd.R_reads' HO_419002.out).1.symm];exact (Kd.R_reads' HO_419002.out).2.1);rintro e w98 ⟨rfl,hb⟩;refine ⟨_,rfl,?_⟩;have n0_:=Aside0.mk (Kd.R_below (by (with_reducible repeat (first|apply Kd.R_alloc|apply Kd.R_drewN|apply Kd.R_drew));exact HO_400000.out) hb);have n1_:=Aside0.mk (Kd.R_below (by (with_reducible repeat (first|apply Kd.R_alloc|apply Kd.R_drewN|apply Kd.R_drew));exact HO_400002.out) hb);have n2_:=Aside0.mk (Kd.R_below (by (with_reducible repeat (first|apply Kd.R_alloc|apply Kd.R_drewN|apply Kd.R_drew));exact HO_408000.out) hb);have n3_:=Aside0.mk (Kd.R_below (by (with_reducible repeat (first|apply Kd.R_alloc|apply Kd.R_drewN|apply Kd.R_drew));exact HO_408002.out) hb);have n4_:=Aside0.mk (Kd.R_below (by (with_reducible repeat (first|apply Kd.R_alloc|apply Kd.R_drewN|apply Kd.R_drew));exact HO_419000.out) hb);have n5_:=Aside0.mk (Kd.R_below (by (with_reducible repeat (first|apply Kd.R_alloc|apply Kd.R_drewN|apply Kd.R_drew));exact HO_419002.out) hb);have n6_:=Aside0.mk (blk_below (g:=gb380) (o:=.cells #[.slice A0_0 l0_0.length c0_0,.int .i64 a0_1,.slice A0_2 l0_2.length c0_2] 25 (0,0)) (by (with_reducible repeat (first|refine blk_drewN ?_ _|refine blk_drew ?_|refine blk_alloc ?_ _));exact BK380.out) hb);have n7_:=Aside0.mk (blk_below (g:=gb399) (o:=.cells #[.slice Ao27 t392.length co27,.int .i64 t395,.slice Ao30 t396.length co30] 27 (0,0)) (by (with_reducible repeat (first|refine blk_drewN ?_ _|refine blk_drew ?_|refine blk_alloc ?_ _));exact BK399.out) hb);have n8_:=Aside0.mk (blk_below (g:=gb407) (o:=.cells #[.slice Ao34 t433.length co34,.int .i64 t403,.slice Ao38 t434.length co38] 27 (0,0)) (by (with_reducible repeat (first|refine blk_drewN ?_ _|refine blk_drew ?_|refine blk_alloc ?_ _));exact BK407.out) hb);have n9_:=Aside0.mk (blk_below (g:=gb418) (o:=.cells #[.slice Ao44 t411.length co44,.int .i64 t414,.slice Ao49 t415.length co49] 27 (0,0)) (by (with_reducible repeat (first|refine blk_drewN ?_ _|refine blk_drew ?_|refine blk_alloc ?_ _));exact BK418.out) hb);have n10_:=Aside0.mk (below_step (by repeat (first|(with_reducible first|exact HB.out|apply below_alloc|apply pw_below_drewN|apply below_drew1|refine below_set ?_ GE380.out|refine below_set ?_ GE399.out|refine below_set ?_ GE407.out|refine below_set ?_ GE418.out)|exact HB.out)) hb);clear HO_400000;clear HO_400002;clear HO_408000;clear HO_408002;clear HO_419000;clear HO_419002;clear BK380;clear BK399;clear BK407;clear BK418;clear HB;have HO_400000:=n0_;have HO_400002:=n1_;have HO_408000:=n2_;have HO_408002:=n3_;have HO_419000:=n4_;have HO_419002:=n5_;have BK380:=n6_;have BK399:=n7_;have BK407:=n8_;have BK418:=n9_;have HB:=n10_;clear n0_ n1_ n2_ n3_ n4_ n5_ n6_ n7_ n8_ n9_ n10_;(try clear hb);(try clear hb2);(try clear hk);(try clear hi)))
               (try simp only [Act.put,List.setIfInBounds_toArray,List.set_cons_zero,List.set_cons_succ])
               go_cut [] (fun wc=>∃ (kq : Nat),Aside0 (laws_FnExactSumAdd.j7 kq l1 t438 t441 l0_0 a0_1 l0_2 t392 t395 t396 t439 t414 t440 = some r) ∧ Aside0 (kq ≤ kj86) ∧ Aside0 (Kd.R (Kd.int .i64) 3 wc w.heap.size (fun k_=>some k_ ≠ ((.slice Ao34 t433.length co34) : Value).ownBlock ∧ some k_ ≠ ((.slice Ao44 t411.length co44) : Value).ownBlock) (.slice Ao27 t392.length co27) t392) ∧ Aside0 (Kd.R (Kd.int .u8) 5 wc w.heap.size (fun k_=>some k_ ≠ ((.slice Ao38 t434.length co38) : Value).ownBlock ∧ some k_ ≠ ((.slice Ao49 t415.length co49) : Value).ownBlock) (.slice Ao30 t396.length co30) t396) ∧ Aside0 (Kd.R (Kd.int .i64) 3 wc w.heap.size (fun k_=>some k_ ≠ ((.slice Ao27 t392.length co27) : Value).ownBlock ∧ some k_ ≠ ((.slice Ao44 t411.length co44) : Value).ownBlock) (.slice Ao34 t433.length co34) t433) ∧ Aside0 (Kd.R (Kd.int .u8) 5 wc w.heap.size (fun k_=>some k_ ≠ ((.slice Ao30 t396.length co30) : Value).ownBlock ∧ some k_ ≠ ((.slice Ao49 t415.length co49) : Value).ownBlock) (.slice Ao38 t434.length co38) t434) ∧ Aside0 (Kd.R (Kd.int .i64) 3 wc w.heap.size (fun k_=>some k_ ≠ ((.slice Ao27 t392.length co27) : Value).ownBlock ∧ some k_ ≠ ((.slice Ao34 t433.length co34) : Value).ownBlock) (.slice Ao44 t411.length co44) t439) ∧ Aside0 (Kd.R (Kd.int .u8) 5 wc w.heap.size (fun k_=>some k_ ≠ ((.slice Ao30 t396.length co30) : Value).ownBlock ∧ some k_ ≠ ((.slice Ao38 t434.length co38) : Value).ownBlock) (.slice Ao49 t415.length co49) t440) ∧ Aside0 (wc.heap[gb380]? = some (.cells #[(.slice A0_0 l0_0.length c0_0),.int .i64 a0_1,(.slice A0_2 l0_2.length c0_2)] 25 (0,0))) ∧ Aside0 (wc.heap[gb399]? = some (.cells #[(.slice Ao27 t392.length co27),.int .i64 t395,(.slice Ao30 t396.length co30)] 27 (0,0))) ∧ Aside0 (wc.heap[gb407]? = some (.cells #[(.slice Ao34 t433.length co34),.int .i64 t403,(.slice Ao38 t434.length co38)] 27 (0,0))) ∧ Aside0 (wc.heap[gb418]? = some (.cells #[(.slice Ao44 t411.length co44),.int .i64 t414,(.slice Ao49 t415.length co49)] 27 (0,0))) ∧ Aside0 (Below w.heap.size w wc))
               case first =>
                have H:=HC91.out
                clear HC91
                by_cases c99 : t441 < 0
                case pos =>
                 rw [if_pos c99] at H
                 have c99b0 : decide (t441 < 0) = true:=decide_eq_true c99
                 clear c99
                 (first|rw [c99b0]|(simp only [i64_w,i32_w];rw [c99b0])|skip)
                 (try (have ABc99:=Aside0.mk c99b0))
                 obtain rfl:=Option.some.inj H
                 go_wp2
                 go_ret
                 exact ⟨by first|rfl|(simp [errW_none,errW_some]<;>rfl)|(simp [*,errW_none,errW_some]<;>rfl),by repeat (first|(with_reducible first|exact HB.out|apply below_alloc|apply pw_below_drewN|apply below_drew1|refine below_set ?_ GE380.out|refine below_set ?_ GE399.out|refine below_set ?_ GE407.out|refine below_set ?_ GE418.out)|exact HB.out)⟩
                rw [if_neg c99] at H
                have c99b0 : decide (t441 < 0) = false:=decide_eq_false c99
                clear c99
                (first|rw [c99b0]|(simp only [i64_w,i32_w];rw [c99b0])|skip)
                (try (have ABc99:=Aside0.mk c99b0))
                have H':=Aside0.mk H
                clear H
                go_wp2
                (try simp only [ABc99.out] at *)
                go_meet
                case rel=>exact ⟨_,H',⟨by have:=HJ2.out;have:=HJ6.out;have:=HJ17.out;have:=HJ54.out;have:=HJ63.out;have:=HJ69.out;have:=HJ86.out;first|omega|exact Nat.le_refl _⟩,⟨by (try simp only [hl408000_69]);(try simp only [hl408002_69]);(with_reducible repeat (first|apply Kd.R_alloc|apply Kd.R_drewN|apply Kd.R_drew));exact HO_400000.out⟩,⟨by (try simp only [hl408000_69]);(try simp only [hl408002_69]);(with_reducible repeat (first|apply Kd.R_alloc|apply Kd.R_drewN|apply Kd.R_drew));exact HO_400002.out⟩,⟨by (try simp only [hl408000_69]);(try simp only [hl408002_69]);(with_reducible repeat (first|apply Kd.R_alloc|apply Kd.R_drewN|apply Kd.R_drew));exact HO_408000.out⟩,⟨by (try simp only [hl408000_69]);(try simp only [hl408002_69]);(with_reducible repeat (first|apply Kd.R_alloc|apply Kd.R_drewN|apply Kd.R_drew));exact HO_408002.out⟩,⟨by (try simp only [hl408000_69]);(try simp only [hl408002_69]);(with_reducible repeat (first|apply Kd.R_alloc|apply Kd.R_drewN|apply Kd.R_drew));exact HO_419000.out⟩,⟨by (try simp only [hl408000_69]);(try simp only [hl408002_69]);(with_reducible repeat (first|apply Kd.R_alloc|apply Kd.R_drewN|apply Kd.R_drew));exact HO_419002.out⟩,⟨by (try simp only [hl408000_69]);(try simp only [hl408002_69]);(with_reducible repeat (first|refine blk_drewN ?_ _|refine blk_drew ?_|refine blk_alloc ?_ _));exact BK380.out⟩,⟨by (try simp only [hl408000_69]);(try simp only [hl408002_69]);(with_reducible repeat (first|refine blk_drewN ?_ _|refine blk_drew ?_|refine blk_alloc ?_ _));exact BK399.out⟩,⟨by (try simp only [hl408000_69]);(try simp only [hl408002_69]);(with_reducible repeat (first|refine blk_drewN ?_ _|refine blk_drew ?_|refine blk_alloc ?_ _));exact BK407.out⟩,⟨by (try simp only [hl408000_69]);(try simp only [hl408002_69]);(with_reducible repeat (first|refine blk_drewN ?_ _|refine blk_drew ?_|refine blk_alloc ?_ _));exact BK418.out⟩,⟨by repeat (first|(with_reducible first|exact HB.out|apply below_alloc|apply pw_below_drewN|apply below_drew1|refine below_set ?_ GE380.out|refine below_set ?_ GE399.out|refine below_set ?_ GE407.out|refine below_set ?_ GE418.out)|exact HB.out)⟩⟩
               case rest =>
                clear HC91
                (try clear c1);(try clear c2);(try clear p2);(try clear c3);(try clear c4);(try clear c5);(try clear c5b0);(try clear c5b1);(try clear c6);(try clear c7);(try clear c8);(try clear c9);(try clear c10);(try clear c10b0);(try clear c11);(try clear c12);(try clear c13);(try clear c28);(try clear c35);(try clear c36);(try clear c45);(try clear c46);(try clear c47);(try clear c52);(try clear c61);(try clear c67);(try clear c71);(try clear c72);(try clear c73);(try clear c77);(try clear c77b0);(try clear c79);(try clear c80);(try clear c81);(try clear c83);(try clear c84);(try clear c88);(try clear c92);(try clear c93);(try clear c94);(try clear c99);(try clear c99b0);(try clear hcz19_0);(try clear hcz19_1);(try clear hcz19_2);(try clear hcz29_0);(try clear hcz29_1);(try clear hcz29_2);(try clear hcz31_0);(try clear hcz31_1);(try clear hcz31_2);(try clear hcz37_0);(try clear hcz37_1);(try clear hcz37_2);(try clear hcz40_0);(try clear hcz40_1);(try clear hcz40_2);(try clear hcz48_0);(try clear hcz48_1);(try clear hcz48_2);(try clear hcz50_0);(try clear hcz50_1);(try clear hcz50_2);(try clear hcz74_0);(try clear hcz74_1);(try clear hcz74_2);(try clear hcz82_0);(try clear hcz82_1);(try clear hcz82_2);(try clear hcz85_0);(try clear hcz85_1);(try clear hcz85_2);(try clear hcz8_0);(try clear hcz8_1);(try clear hcz8_2);(try clear hcz95_0);(try clear hcz95_1);(try clear hcz95_2);(try clear hcz97_0);(try clear hcz97_1);(try clear hcz97_2);(try clear hfz19_0);(try clear hfz19_1);(try clear hfz19_2);(try clear hfz29_0);(try clear hfz29_1);(try clear hfz29_2);(try clear hfz31_0);(try clear hfz31_1);(try clear hfz31_2);(try clear hfz37_0);(try clear hfz37_1);(try clear hfz37_2);(try clear hfz40_0);(try clear hfz40_1);(try clear hfz40_2);(try clear hfz48_0);(try clear hfz48_1);(try clear hfz48_2);(try clear hfz50_0);(try clear hfz50_1);(try clear hfz50_2);(try clear hfz74_0);(try clear hfz74_1);(try clear hfz74_2);(try clear hfz82_0);(try clear hfz82_1);(try clear hfz82_2);(try clear hfz85_0);(try clear hfz85_1);(try clear hfz85_2);(try clear hfz8_0);(try clear hfz8_1);(try clear hfz8_2);(try clear hfz95_0);(try clear hfz95_1);(try clear hfz95_2);(try clear hfz97_0);(try clear hfz97_1);(try clear hfz97_2);(try clear p2)
                obtain ⟨kq,HA,HJ90,HO_400000,HO_400002,HO_408000,HO_408002,HO_419000,HO_419002,BK380,BK399,BK407,BK418,HB⟩:=hcut
                have hl419000_90:=(Kd.R_reads' HO_419000.out).1
                rw [hl419000_90] at HO_419000
                (try simp only [hl419000_90])
                (try simp only [hl419000_90] at BK380)
                (try simp only [hl419000_90] at BK399)
                (try simp only [hl419000_90] at BK407)
                (try simp only [hl419000_90] at BK418)
                (try simp only [hl419000_90] at HO_400000)
                (try simp only [hl419000_90] at HO_400002)
                (try simp only [hl419000_90] at HO_408000)
                (try simp only [hl419000_90] at HO_408002)
                (try simp only [hl419000_90] at HO_419002)
                have hl419002_90:=(Kd.R_reads' HO_419002.out).1
                rw [hl419002_90] at HO_419002
                (try simp only [hl419002_90])
                (try simp only [hl419002_90] at BK380)
                (try simp only [hl419002_90] at BK399)
                (try simp only [hl419002_90] at BK407)
                (try simp only [hl419002_90] at BK418)
                (try simp only [hl419002_90] at HO_400000)
                (try simp only [hl419002_90] at HO_400002)
                (try simp only [hl419002_90] at HO_408000)
                (try simp only [hl419002_90] at HO_408002)
                (try simp only [hl419002_90] at HO_419000)
                cases kq with
                | zero=>exact absurd HA.out (by simp [laws_FnExactSumAdd.j7])
                | succ kj90 =>
                 have H:=HA.out
                 clear HA
                 simp only [laws_FnExactSumAdd.j7] at H
                 have HC100:=Aside0.mk H
                 clear H
                 go_upto_if 72 with (fail)
                 go_cut [] (fun wc=>∃ (kq : Nat),Aside0 (laws_FnExactSumAdd.j8 kq l1 t438 l0_0 a0_1 l0_2 t392 t395 t396 t439 t414 t440 = some r) ∧ Aside0 (kq ≤ kj90) ∧ Aside0 (Kd.R (Kd.int .i64) 3 wc w.heap.size (fun k_=>some k_ ≠ ((.slice Ao34 t433.length co34) : Value).ownBlock ∧ some k_ ≠ ((.slice Ao44 t439.length co44) : Value).ownBlock) (.slice Ao27 t392.length co27) t392) ∧ Aside0 (Kd.R (Kd.int .u8) 5 wc w.heap.size (fun k_=>some k_ ≠ ((.slice Ao38 t434.length co38) : Value).ownBlock ∧ some k_ ≠ ((.slice Ao49 t440.length co49) : Value).ownBlock) (.slice Ao30 t396.length co30) t396) ∧ Aside0 (Kd.R (Kd.int .i64) 3 wc w.heap.size (fun k_=>some k_ ≠ ((.slice Ao27 t392.length co27) : Value).ownBlock ∧ some k_ ≠ ((.slice Ao44 t439.length co44) : Value).ownBlock) (.slice Ao34 t433.length co34) t433) ∧ Aside0 (Kd.R (Kd.int .u8) 5 wc w.heap.size (fun k_=>some k_ ≠ ((.slice Ao30 t396.length co30) : Value).ownBlock ∧ some k_ ≠ ((.slice Ao49 t440.length co49) : Value).ownBlock) (.slice Ao38 t434.length co38) t434) ∧ Aside0 (Kd.R (Kd.int .i64) 3 wc w.heap.size (fun k_=>some k_ ≠ ((.slice Ao27 t392.length co27) : Value).ownBlock ∧ some k_ ≠ ((.slice Ao34 t433.length co34) : Value).ownBlock) (.slice Ao44 t439.length co44) t439) ∧ Aside0 (Kd.R (Kd.int .u8) 5 wc w.heap.size (fun k_=>some k_ ≠ ((.slice Ao30 t396.length co30) : Value).ownBlock ∧ some k_ ≠ ((.slice Ao38 t434.length co38) : Value).ownBlock) (.slice Ao49 t440.length co49) t440) ∧ Aside0 (wc.heap[gb380]? = some (.cells #[(.slice A0_0 l0_0.length c0_0),.int .i64 a0_1,(.slice A0_2 l0_2.length c0_2)] 25 (0,0))) ∧ Aside0 (wc.heap[gb399]? = some (.cells #[(.slice Ao27 t392.length co27),.int .i64 t395,(.slice Ao30 t396.length co30)] 27 (0,0))) ∧ Aside0 (wc.heap[gb407]? = some (.cells #[(.slice Ao34 t433.length co34),.int .i64 t403,(.slice Ao38 t434.length co38)] 27 (0,0))) ∧ Aside0 (wc.heap[gb418]? = some (.cells #[(.slice Ao44 t439.length co44),.int .i64 t414,(.slice Ao49 t440.length co49)] 27 (0,0))) ∧ Aside0 (Below w.heap.size w wc))
                 case first =>
                  have H:=HC100.out
                  clear HC100
                  by_cases c101 : t441 = t438
                  case neg =>
                   rw [if_neg c101] at H
                   have c101b0 : (t441 == t438) = false:=beq_eq_false_iff_ne.mpr c101
                   have c101b1 : (t441 != t438) = true:=bne_iff_ne.mpr c101
                   (first|rw [c101b0]|(simp only [i64_w,i32_w];rw [c101b0])|skip)
                   (try (have ABc101:=Aside0.mk c101b0))
                   obtain rfl:=Option.some.inj H
                   go_wp2
                   go_ret
                   exact ⟨by first|rfl|(simp [errW_none,errW_some]<;>rfl)|(simp [*,errW_none,errW_some]<;>rfl),by repeat (first|(with_reducible first|exact HB.out|apply below_alloc|apply pw_below_drewN|apply below_drew1|refine below_set ?_ GE380.out|refine below_set ?_ GE399.out|refine below_set ?_ GE407.out|refine below_set ?_ GE418.out)|exact HB.out)⟩
                  rw [if_pos c101] at H
                  have c101b0 : (t441 == t438) = true:=beq_iff_eq.mpr c101
                  have c101b1 : (t441 != t438) = false:=bne_eq_false_iff_eq.mpr c101
                  clear c101
                  (first|rw [c101b0]|(simp only [i64_w,i32_w];rw [c101b0])|skip)
                  (try (have ABc101:=Aside0.mk c101b0))
                  have H':=Aside0.mk H
                  clear H
                  go_wp2
                  (try simp only [ABc101.out] at *)
                  go_meet
                  case rel=>exact ⟨_,H',⟨by have:=HJ2.out;have:=HJ6.out;have:=HJ17.out;have:=HJ54.out;have:=HJ63.out;have:=HJ69.out;have:=HJ86.out;have:=HJ90.out;first|omega|exact Nat.le_refl _⟩,⟨by (try simp only [hl408000_69]);(try simp only [hl408002_69]);(try simp only [hl419000_90]);(try simp only [hl419002_90]);(with_reducible repeat (first|apply Kd.R_alloc|apply Kd.R_drewN|apply Kd.R_drew));exact HO_400000.out⟩,⟨by (try simp only [hl408000_69]);(try simp only [hl408002_69]);(try simp only [hl419000_90]);(try simp only [hl419002_90]);(with_reducible repeat (first|apply Kd.R_alloc|apply Kd.R_drewN|apply Kd.R_drew));exact HO_400002.out⟩,⟨by (try simp only [hl408000_69]);(try simp only [hl408002_69]);(try simp only [hl419000_90]);(try simp only [hl419002_90]);(with_reducible repeat (first|apply Kd.R_alloc|apply Kd.R_drewN|apply Kd.R_drew));exact HO_408000.out⟩,⟨by (try simp only [hl408000_69]);(try simp only [hl408002_69]);(try simp only [hl419000_90]);(try simp only [hl419002_90]);(with_reducible repeat (first|apply Kd.R_alloc|apply Kd.R_drewN|apply Kd.R_drew));exact HO_408002.out⟩,⟨by (try simp only [hl408000_69]);(try simp only [hl408002_69]);(try simp only [hl419000_90]);(try simp only [hl419002_90]);(with_reducible repeat (first|apply Kd.R_alloc|apply Kd.R_drewN|apply Kd.R_drew));exact HO_419000.out⟩,⟨by (try simp only [hl408000_69]);(try simp only [hl408002_69]);(try simp only [hl419000_90]);(try simp only [hl419002_90]);(with_reducible repeat (first|apply Kd.R_alloc|apply Kd.R_drewN|apply Kd.R_drew));exact HO_419002.out⟩,⟨by (try simp only [hl408000_69]);(try simp only [hl408002_69]);(try simp only [hl419000_90]);(try simp only [hl419002_90]);(with_reducible repeat (first|refine blk_drewN ?_ _|refine blk_drew ?_|refine blk_alloc ?_ _));exact BK380.out⟩,⟨by (try simp only [hl408000_69]);(try simp only [hl408002_69]);(try simp only [hl419000_90]);(try simp only [hl419002_90]);(with_reducible repeat (first|refine blk_drewN ?_ _|refine blk_drew ?_|refine blk_alloc ?_ _));exact BK399.out⟩,⟨by (try simp only [hl408000_69]);(try simp only [hl408002_69]);(try simp only [hl419000_90]);(try simp only [hl419002_90]);(with_reducible repeat (first|refine blk_drewN ?_ _|refine blk_drew ?_|refine blk_alloc ?_ _));exact BK407.out⟩,⟨by (try simp only [hl408000_69]);(try simp only [hl408002_69]);(try simp only [hl419000_90]);(try simp only [hl419002_90]);(with_reducible repeat (first|refine blk_drewN ?_ _|refine blk_drew ?_|refine blk_alloc ?_ _));exact BK418.out⟩,⟨by repeat (first|(with_reducible first|exact HB.out|apply below_alloc|apply pw_below_drewN|apply below_drew1|refine below_set ?_ GE380.out|refine below_set ?_ GE399.out|refine below_set ?_ GE407.out|refine below_set ?_ GE418.out)|exact HB.out)⟩⟩
                 case rest =>
                  clear HC100
                  (try clear c1);(try clear c2);(try clear p2);(try clear c3);(try clear c4);(try clear c5);(try clear c5b0);(try clear c5b1);(try clear c6);(try clear c7);(try clear c8);(try clear c9);(try clear c10);(try clear c10b0);(try clear c11);(try clear c12);(try clear c13);(try clear c28);(try clear c35);(try clear c36);(try clear c45);(try clear c46);(try clear c47);(try clear c52);(try clear c61);(try clear c67);(try clear c71);(try clear c72);(try clear c73);(try clear c77);(try clear c77b0);(try clear c79);(try clear c80);(try clear c81);(try clear c83);(try clear c84);(try clear c88);(try clear c92);(try clear c93);(try clear c94);(try clear c99);(try clear c99b0);(try clear c101);(try clear c101b0);(try clear c101b1);(try clear hcz19_0);(try clear hcz19_1);(try clear hcz19_2);(try clear hcz29_0);(try clear hcz29_1);(try clear hcz29_2);(try clear hcz31_0);(try clear hcz31_1);(try clear hcz31_2);(try clear hcz37_0);(try clear hcz37_1);(try clear hcz37_2);(try clear hcz40_0);(try clear hcz40_1);(try clear hcz40_2);(try clear hcz48_0);(try clear hcz48_1);(try clear hcz48_2);(try clear hcz50_0);(try clear hcz50_1);(try clear hcz50_2);(try clear hcz74_0);(try clear hcz74_1);(try clear hcz74_2);(try clear hcz82_0);(try clear hcz82_1);(try clear hcz82_2);(try clear hcz85_0);(try clear hcz85_1);(try clear hcz85_2);(try clear hcz8_0);(try clear hcz8_1);(try clear hcz8_2);(try clear hcz95_0);(try clear hcz95_1);(try clear hcz95_2);(try clear hcz97_0);(try clear hcz97_1);(try clear hcz97_2);(try clear hfz19_0);(try clear hfz19_1);(try clear hfz19_2);(try clear hfz29_0);(try clear hfz29_1);(try clear hfz29_2);(try clear hfz31_0);(try clear hfz31_1);(try clear hfz31_2);(try clear hfz37_0);(try clear hfz37_1);(try clear hfz37_2);(try clear hfz40_0);(try clear hfz40_1);(try clear hfz40_2);(try clear hfz48_0);(try clear hfz48_1);(try clear hfz48_2);(try clear hfz50_0);(try clear hfz50_1);(try clear hfz50_2);(try clear hfz74_0);(try clear hfz74_1);(try clear hfz74_2);(try clear hfz82_0);(try clear hfz82_1);(try clear hfz82_2);(try clear hfz85_0);(try clear hfz85_1);(try clear hfz85_2);(try clear hfz8_0);(try clear hfz8_1);(try clear hfz8_2);(try clear hfz95_0);(try clear hfz95_1);(try clear hfz95_2);(try clear hfz97_0);(try clear hfz97_1);(try clear hfz97_2);(try clear p2)
                  obtain ⟨kq,HA,HJ99,HO_400000,HO_400002,HO_408000,HO_408002,HO_419000,HO_419002,BK380,BK399,BK407,BK418,HB⟩:=hcut
                  cases kq with
                  | zero=>exact absurd HA.out (by simp [laws_FnExactSumAdd.j8])
                  | succ kj99 =>
                   have H:=HA.out
                   clear HA
                   simp only [laws_FnExactSumAdd.j8] at H
                   replace H:=Option.bind_eq_some_iff.mp H
                   obtain ⟨⟨t442,t445,t446⟩,A1020,H⟩:=H
                   replace H : ((laws_toByteS.f kj99 l1).bind fun t449=>((impl_SumAdd.f kj99 t442 t445 t446 t449).bind fun bt452=>((laws_eqSum.f kj99 bt452.1 bt452.2.1 bt452.2.2 t392 t395 t396).bind fun t460=>(if t460 = true then (laws_FnExactSumAdd.j9 kj99 t438 t439 t414 t440) else (some false))))) = some r:=H
                   have A102:=Aside0.mk A1020
                   clear A1020
                   replace H:=Option.bind_eq_some_iff.mp H
                   obtain ⟨t449,A1030,H⟩:=H
                   replace H : ((impl_SumAdd.f kj99 t442 t445 t446 t449).bind fun bt452=>((laws_eqSum.f kj99 bt452.1 bt452.2.1 bt452.2.2 t392 t395 t396).bind fun t460=>(if t460 = true then (laws_FnExactSumAdd.j9 kj99 t438 t439 t414 t440) else (some false)))) = some r:=H
                   have A103:=Aside0.mk A1030
                   clear A1030
                   replace H:=Option.bind_eq_some_iff.mp H
                   obtain ⟨⟨t452,t455,t456⟩,A1040,H⟩:=H
                   replace H : ((laws_eqSum.f kj99 t452 t455 t456 t392 t395 t396).bind fun t460=>(if t460 = true then (laws_FnExactSumAdd.j9 kj99 t438 t439 t414 t440) else (some false))) = some r:=H
                   have A104:=Aside0.mk A1040
                   clear A1040
                   replace H:=Option.bind_eq_some_iff.mp H
                   obtain ⟨t460,A1050,H⟩:=H
                   replace H : (if t460 = true then (laws_FnExactSumAdd.j9 kj99 t438 t439 t414 t440) else (some false)) = some r:=H
                   have A105:=Aside0.mk A1050
                   clear A1050
                   have HC106:=Aside0.mk H
                   clear H
                   have hnb107:=NB380_399.out
                   have hnc107:=NB399_380.out
                   have hnb108:=NB380_407.out
                   have hnc108:=NB407_380.out
                   have hnb109:=NB380_418.out
                   have hnc109:=NB418_380.out
                   have hcz110_0 : wc.cell? ⟨gb380,0,none⟩ = some (.slice A0_0 l0_0.length c0_0):=(blk_cell BK380.out 0).trans rfl
                   have hcz110_1 : wc.cell? ⟨gb380,1,none⟩ = some (.int .i64 a0_1):=(blk_cell BK380.out 1).trans rfl
                   have hcz110_2 : wc.cell? ⟨gb380,2,none⟩ = some (.slice A0_2 l0_2.length c0_2):=(blk_cell BK380.out 2).trans rfl
                   have hfz110_0:=blk_frozen BK380.out 0
                   have hfz110_1:=blk_frozen BK380.out 1
                   have hfz110_2:=blk_frozen BK380.out 2
                   go_upto_if 81 with (first|((with_reducible refine gate_callee (f:=6) rfl ?_);refine goesL_ (some 74) rfl rfl Try.func6 (by kernel_rfl) rfl #[.agg #[.slice A0_0 l0_0.length c0_0,.int .i64 a0_1,.slice A0_2 l0_2.length c0_2]] rfl (by (try simp only [List.map_toArray,List.map_cons,List.map_nil]);first|done|rfl|(simp only [List.length_drop,List.length_take];rfl)) ?_;(with_reducible refine (laws_toSum.calls kj99 _ _ l0_0 a0_1 _ _ l0_2 t442 t445 t446 _ ?side1 ?side2 ?side3 ?side4 A102.out).mono ?_);(case side1=>repeat (first|exact (Kd.C_below HR0_0.out HB.out)|(with_reducible refine Kd.C_alloc ?_ _)|(with_reducible refine Kd.C_drewN ?_ _)|(with_reducible refine Kd.C_drew ?_)));(case side2=>exact HC0_0.out);(case side3=>repeat (first|exact (Kd.C_below HR0_2.out HB.out)|(with_reducible refine Kd.C_alloc ?_ _)|(with_reducible refine Kd.C_drewN ?_ _)|(with_reducible refine Kd.C_drew ?_)));(case side4=>exact HC0_2.out);rintro e w111 ⟨v443,v447,rfl,ho0,ho1,hb⟩;refine ⟨_,rfl,?_⟩;have n0_:=Aside0.mk (Kd.R_elder' (by (with_reducible repeat (first|apply Kd.R_alloc|apply Kd.R_drewN|apply Kd.R_drew));exact HO_400000.out) (Kd.R_base ho0) hb);have n1_:=Aside0.mk (Kd.R_elder' (by (with_reducible repeat (first|apply Kd.R_alloc|apply Kd.R_drewN|apply Kd.R_drew));exact HO_400002.out) (Kd.R_base ho1) hb);have n2_:=Aside0.mk (Kd.R_elder' (by (with_reducible repeat (first|apply Kd.R_alloc|apply Kd.R_drewN|apply Kd.R_drew));exact HO_408000.out) (Kd.R_base ho0) hb);have n3_:=Aside0.mk (Kd.R_elder' (by (with_reducible repeat (first|apply Kd.R_alloc|apply Kd.R_drewN|apply Kd.R_drew));exact HO_408002.out) (Kd.R_base ho1) hb);have n4_:=Aside0.mk (Kd.R_elder' (by (with_reducible repeat (first|apply Kd.R_alloc|apply Kd.R_drewN|apply Kd.R_drew));exact HO_419000.out) (Kd.R_base ho0) hb);have n5_:=Aside0.mk (Kd.R_elder' (by (with_reducible repeat (first|apply Kd.R_alloc|apply Kd.R_drewN|apply Kd.R_drew));exact HO_419002.out) (Kd.R_base ho1) hb);have n6_:=Aside0.mk (Kd.R_lower (Kd.R_new' (Kd.R_new' (Kd.R_new' ho0 (Kd.R_lt (by (with_reducible repeat (first|apply Kd.R_alloc|apply Kd.R_drewN|apply Kd.R_drew));exact HO_400000.out))) (Kd.R_lt (by (with_reducible repeat (first|apply Kd.R_alloc|apply Kd.R_drewN|apply Kd.R_drew));exact HO_408000.out))) (Kd.R_lt (by (with_reducible repeat (first|apply Kd.R_alloc|apply Kd.R_drewN|apply Kd.R_drew));exact HO_419000.out))) (below_size (by repeat (first|(with_reducible first|exact HB.out|apply below_alloc|apply pw_below_drewN|apply below_drew1|refine below_set ?_ GE380.out|refine below_set ?_ GE399.out|refine below_set ?_ GE407.out|refine below_set ?_ GE418.out)|exact HB.out))));have n7_:=Aside0.mk (Kd.R_lower (Kd.R_new' (Kd.R_new' (Kd.R_new' ho1 (Kd.R_lt (by (with_reducible repeat (first|apply Kd.R_alloc|apply Kd.R_drewN|apply Kd.R_drew));exact HO_400002.out))) (Kd.R_lt (by (with_reducible repeat (first|apply Kd.R_alloc|apply Kd.R_drewN|apply Kd.R_drew));exact HO_408002.out))) (Kd.R_lt (by (with_reducible repeat (first|apply Kd.R_alloc|apply Kd.R_drewN|apply Kd.R_drew));exact HO_419002.out))) (below_size (by repeat (first|(with_reducible first|exact HB.out|apply below_alloc|apply pw_below_drewN|apply below_drew1|refine below_set ?_ GE380.out|refine below_set ?_ GE399.out|refine below_set ?_ GE407.out|refine below_set ?_ GE418.out)|exact HB.out))));have n8_:=Aside0.mk (blk_below (g:=gb380) (o:=.cells #[.slice A0_0 l0_0.length c0_0,.int .i64 a0_1,.slice A0_2 l0_2.length c0_2] 25 (0,0)) (by (with_reducible repeat (first|refine blk_drewN ?_ _|refine blk_drew ?_|refine blk_alloc ?_ _));exact BK380.out) hb);have n9_:=Aside0.mk (blk_below (g:=gb399) (o:=.cells #[.slice Ao27 t392.length co27,.int .i64 t395,.slice Ao30 t396.length co30] 27 (0,0)) (by (with_reducible repeat (first|refine blk_drewN ?_ _|refine blk_drew ?_|refine blk_alloc ?_ _));exact BK399.out) hb);have n10_:=Aside0.mk (blk_below (g:=gb407) (o:=.cells #[.slice Ao34 t433.length co34,.int .i64 t403,.slice Ao38 t434.length co38] 27 (0,0)) (by (with_reducible repeat (first|refine blk_drewN ?_ _|refine blk_drew ?_|refine blk_alloc ?_ _));exact BK407.out) hb);have n11_:=Aside0.mk (blk_below (g:=gb418) (o:=.cells #[.slice Ao44 t439.length co44,.int .i64 t414,.slice Ao49 t440.length co49] 27 (0,0)) (by (with_reducible repeat (first|refine blk_drewN ?_ _|refine blk_drew ?_|refine blk_alloc ?_ _));exact BK418.out) hb);have n12_:=Aside0.mk (below_step (by repeat (first|(with_reducible first|exact HB.out|apply below_alloc|apply pw_below_drewN|apply below_drew1|refine below_set ?_ GE380.out|refine below_set ?_ GE399.out|refine below_set ?_ GE407.out|refine below_set ?_ GE418.out)|exact HB.out)) hb);clear HO_400000;clear HO_400002;clear HO_408000;clear HO_408002;clear HO_419000;clear HO_419002;clear BK380;clear BK399;clear BK407;clear BK418;clear HB;have HO_400000:=n0_;have HO_400002:=n1_;have HO_408000:=n2_;have HO_408002:=n3_;have HO_419000:=n4_;have HO_419002:=n5_;have HO444:=n6_;have HO448:=n7_;have BK380:=n8_;have BK399:=n9_;have BK407:=n10_;have BK418:=n11_;have HB:=n12_;clear n0_ n1_ n2_ n3_ n4_ n5_ n6_ n7_ n8_ n9_ n10_ n11_ n12_;(try clear hb);(try clear hb2);(try clear hk);(try clear hi);(try clear ho0);(try clear ho1))|((with_reducible refine gate_callee (f:=7) rfl ?_);refine goesL_ (some 76) rfl rfl Try.func7 (by kernel_rfl) rfl #[.slice A1 l1.length c1] rfl (by (try simp only [List.map_toArray,List.map_cons,List.map_nil]);first|done|rfl|(simp only [List.length_drop,List.length_take];rfl)) ?_;(with_reducible refine (laws_toByteS.calls kj99 _ _ l1 t449 _ ?side1 ?side2 A103.out).mono ?_);(case side1=>repeat (first|exact (Kd.C_below HR1.out HB.out)|(with_reducible refine Kd.C_alloc ?_ _)|(with_reducible refine Kd.C_drewN ?_ _)|(with_reducible refine Kd.C_drew ?_)));(case side2=>exact HC1.out);rintro e w112 ⟨v450,rfl,ho0,hb⟩;refine ⟨_,rfl,?_⟩;have n0_:=Aside0.mk (Kd.R_below (by (with_reducible repeat (first|apply Kd.R_alloc|apply Kd.R_drewN|apply Kd.R_drew));exact HO_400000.out) hb);have n1_:=Aside0.mk (Kd.R_elder' (by (with_reducible repeat (first|apply Kd.R_alloc|apply Kd.R_drewN|apply Kd.R_drew));exact HO_400002.out) (Kd.R_base ho0) hb);have n2_:=Aside0.mk (Kd.R_below (by (with_reducible repeat (first|apply Kd.R_alloc|apply Kd.R_drewN|apply Kd.R_drew));exact HO_408000.out) hb);have n3_:=Aside0.mk (Kd.R_elder' (by (with_reducible repeat (first|apply Kd.R_alloc|apply Kd.R_drewN|apply Kd.R_drew));exact HO_408002.out) (Kd.R_base ho0) hb);have n4_:=Aside0.mk (Kd.R_below (by (with_reducible repeat (first|apply Kd.R_alloc|apply Kd.R_drewN|apply Kd.R_drew));exact HO_419000.out) hb);have n5_:=Aside0.mk (Kd.R_elder' (by (with_reducible repeat (first|apply Kd.R_alloc|apply Kd.R_drewN|apply Kd.R_drew));exact HO_419002.out) (Kd.R_base ho0) hb);have n6_:=Aside0.mk (Kd.R_below (by (with_reducible repeat (first|apply Kd.R_alloc|apply Kd.R_drewN|apply Kd.R_drew));exact HO444.out) hb);have n7_:=Aside0.mk (Kd.R_elder' (by (with_reducible repeat (first|apply Kd.R_alloc|apply Kd.R_drewN|apply Kd.R_drew));exact HO448.out) (Kd.R_base ho0) hb);have n8_:=Aside0.mk (Kd.R_lower (Kd.R_new' (Kd.R_new' (Kd.R_new' (Kd.R_new' ho0 (Kd.R_lt (by (with_reducible repeat (first|apply Kd.R_alloc|apply Kd.R_drewN|apply Kd.R_drew));exact HO_400002.out))) (Kd.R_lt (by (with_reducible repeat (first|apply Kd.R_alloc|apply Kd.R_drewN|apply Kd.R_drew));exact HO_408002.out))) (Kd.R_lt (by (with_reducible repeat (first|apply Kd.R_alloc|apply Kd.R_drewN|apply Kd.R_drew));exact HO_419002.out))) (Kd.R_lt (by (with_reducible repeat (first|apply Kd.R_alloc|apply Kd.R_drewN|apply Kd.R_drew));exact HO448.out))) (below_size (by repeat (first|(with_reducible first|exact HB.out|apply below_alloc|apply pw_below_drewN|apply below_drew1|refine below_set ?_ GE380.out|refine below_set ?_ GE399.out|refine below_set ?_ GE407.out|refine below_set ?_ GE418.out)|exact HB.out))));have n9_:=Aside0.mk (blk_below (g:=gb380) (o:=.cells #[.slice A0_0 l0_0.length c0_0,.int .i64 a0_1,.slice A0_2 l0_2.length c0_2] 25 (0,0)) (by (with_reducible repeat (first|refine blk_drewN ?_ _|refine blk_drew ?_|refine blk_alloc ?_ _));exact BK380.out) hb);have n10_:=Aside0.mk (blk_below (g:=gb399) (o:=.cells #[.slice Ao27 t392.length co27,.int .i64 t395,.slice Ao30 t396.length co30] 27 (0,0)) (by (with_reducible repeat (first|refine blk_drewN ?_ _|refine blk_drew ?_|refine blk_alloc ?_ _));exact BK399.out) hb);have n11_:=Aside0.mk (blk_below (g:=gb407) (o:=.cells #[.slice Ao34 t433.length co34,.int .i64 t403,.slice Ao38 t434.length co38] 27 (0,0)) (by (with_reducible repeat (first|refine blk_drewN ?_ _|refine blk_drew ?_|refine blk_alloc ?_ _));exact BK407.out) hb);have n12_:=Aside0.mk (blk_below (g:=gb418) (o:=.cells #[.slice Ao44 t439.length co44,.int .i64 t414,.slice Ao49 t440.length co49] 27 (0,0)) (by (with_reducible repeat (first|refine blk_drewN ?_ _|refine blk_drew ?_|refine blk_alloc ?_ _));exact BK418.out) hb);have n13_:=Aside0.mk (below_step (by repeat (first|(with_reducible first|exact HB.out|apply below_alloc|apply pw_below_drewN|apply below_drew1|refine below_set ?_ GE380.out|refine below_set ?_ GE399.out|refine below_set ?_ GE407.out|refine below_set ?_ GE418.out)|exact HB.out)) hb);clear HO_400000;clear HO_400002;clear HO_408000;clear HO_408002;clear HO_419000;clear HO_419002;clear HO444;clear HO448;clear BK380;clear BK399;clear BK407;clear BK418;clear HB;have HO_400000:=n0_;have HO_400002:=n1_;have HO_408000:=n2_;have HO_408002:=n3_;have HO_419000:=n4_;have HO_419002:=n5_;have HO444:=n6_;have HO448:=n7_;have HO451:=n8_;have BK380:=n9_;have BK399:=n10_;have BK407:=n11_;have BK418:=n12_;have HB:=n13_;clear n0_ n1_ n2_ n3_ n4_ n5_ n6_ n7_ n8_ n9_ n10_ n11_ n12_ n13_;(try clear hb);(try clear hb2);(try clear hk);(try clear hi);(try clear ho0);obtain ⟨Ao113,co113,eo113⟩:=Kd.R_slice HO444.out;subst eo113;obtain ⟨Ao114,co114,eo114⟩:=Kd.R_slice HO448.out;subst eo114;obtain ⟨Ao115,co115,eo115⟩:=Kd.R_slice HO451.out;subst eo115)|((with_reducible refine gate_callee (f:=8) rfl ?_);refine goesL_ (some 77) rfl rfl Try.func8 (by kernel_rfl) rfl #[.agg #[.slice Ao113 t442.length co113,.int .i64 t445,.slice Ao114 t446.length co114],.slice Ao115 t449.length co115] rfl (by (try simp only [List.map_toArray,List.map_cons,List.map_nil]);first|done|rfl|(simp only [List.length_drop,List.length_take];rfl)) ?_;(with_reducible refine (impl_SumAdd.calls kj99 _ _ t442 t445 _ _ t446 _ _ t449 t452 t455 t456 _ ?side1 ?side2 ?side3 ?side4 ?side5 ?side6 A104.out).mono ?_);(case side1=>repeat (first|exact (Kd.R_reads' HO444.out).2.2|(with_reducible refine Kd.C_alloc ?_ _)|(with_reducible refine Kd.C_drewN ?_ _)|(with_reducible refine Kd.C_drew ?_)));(case side2=>exact (Kd.R_reads' HO444.out).2.1);(case side3=>repeat (first|exact (Kd.R_reads' HO448.out).2.2|(with_reducible refine Kd.C_alloc ?_ _)|(with_reducible refine Kd.C_drewN ?_ _)|(with_reducible refine Kd.C_drew ?_)));(case side4=>exact (Kd.R_reads' HO448.out).2.1);(case side5=>repeat (first|exact (Kd.R_reads' HO451.out).2.2|(with_reducible refine Kd.C_alloc ?_ _)|(with_reducible refine Kd.C_drewN ?_ _)|(with_reducible refine Kd.C_drew ?_)));(case side6=>exact (Kd.R_reads' HO451.out).2.1);rintro e w116 ⟨v453,v457,rfl,ho0,ho1,hb⟩;refine ⟨_,rfl,?_⟩;have n0_:=Aside0.mk (Kd.R_elder' (by (with_reducible repeat (first|apply Kd.R_alloc|apply Kd.R_drewN|apply Kd.R_drew));exact HO_400000.out) (Kd.R_base ho0) hb);have n1_:=Aside0.mk (Kd.R_elder' (by (with_reducible repeat (first|apply Kd.R_alloc|apply Kd.R_drewN|apply Kd.R_drew));exact HO_400002.out) (Kd.R_base ho1) hb);have n2_:=Aside0.mk (Kd.R_elder' (by (with_reducible repeat (first|apply Kd.R_alloc|apply Kd.R_drewN|apply Kd.R_drew));exact HO_408000.out) (Kd.R_base ho0) hb);have n3_:=Aside0.mk (Kd.R_elder' (by (with_reducible repeat (first|apply Kd.R_alloc|apply Kd.R_drewN|apply Kd.R_drew));exact HO_408002.out) (Kd.R_base ho1) hb);have n4_:=Aside0.mk (Kd.R_elder' (by (with_reducible repeat (first|apply Kd.R_alloc|apply Kd.R_drewN|apply Kd.R_drew));exact HO_419000.out) (Kd.R_base ho0) hb);have n5_:=Aside0.mk (Kd.R_elder' (by (with_reducible repeat (first|apply Kd.R_alloc|apply Kd.R_drewN|apply Kd.R_drew));exact HO_419002.out) (Kd.R_base ho1) hb);have n6_:=Aside0.mk (Kd.R_elder' (by (with_reducible repeat (first|apply Kd.R_alloc|apply Kd.R_drewN|apply Kd.R_drew));exact HO444.out) (Kd.R_base ho0) hb);have n7_:=Aside0.mk (Kd.R_elder' (by (with_reducible repeat (first|apply Kd.R_alloc|apply Kd.R_drewN|apply Kd.R_drew));exact HO448.out) (Kd.R_base ho1) hb);have n8_:=Aside0.mk (Kd.R_elder' (by (with_reducible repeat (first|apply Kd.R_alloc|apply Kd.R_drewN|apply Kd.R_drew));exact HO451.out) (Kd.R_base ho1) hb);have n9_:=Aside0.mk (Kd.R_lower (Kd.R_new' (Kd.R_new' (Kd.R_new' (Kd.R_new' ho0 (Kd.R_lt (by (with_reducible repeat (first|apply Kd.R_alloc|apply Kd.R_drewN|apply Kd.R_drew));exact HO_400000.out))) (Kd.R_lt (by (with_reducible repeat (first|apply Kd.R_alloc|apply Kd.R_drewN|apply Kd.R_drew));exact HO_408000.out))) (Kd.R_lt (by (with_reducible repeat (first|apply Kd.R_alloc|apply Kd.R_drewN|apply Kd.R_drew));exact HO_419000.out))) (Kd.R_lt (by (with_reducible repeat (first|apply Kd.R_alloc|apply Kd.R_drewN|apply Kd.R_drew));exact HO444.out))) (below_size (by repeat (first|(with_reducible first|exact HB.out|apply below_alloc|apply pw_below_drewN|apply below_drew1|refine below_set ?_ GE380.out|refine below_set ?_ GE399.out|refine below_set ?_ GE407.out|refine below_set ?_ GE418.out)|exact HB.out))));have n10_:=Aside0.mk (Kd.R_lower (Kd.R_new' (Kd.R_new' (Kd.R_new' (Kd.R_new' (Kd.R_new' ho1 (Kd.R_lt (by (with_reducible repeat (first|apply Kd.R_alloc|apply Kd.R_drewN|apply Kd.R_drew));exact HO_400002.out))) (Kd.R_lt (by (with_reducible repeat (first|apply Kd.R_alloc|apply Kd.R_drewN|apply Kd.R_drew));exact HO_408002.out))) (Kd.R_lt (by (with_reducible repeat (first|apply Kd.R_alloc|apply Kd.R_drewN|apply Kd.R_drew));exact HO_419002.out))) (Kd.R_lt (by (with_reducible repeat (first|apply Kd.R_alloc|apply Kd.R_drewN|apply Kd.R_drew));exact HO448.out))) (Kd.R_lt (by (with_reducible repeat (first|apply Kd.R_alloc|apply Kd.R_drewN|apply Kd.R_drew));exact HO451.out))) (below_size (by repeat (first|(with_reducible first|exact HB.out|apply below_alloc|apply pw_below_drewN|apply below_drew1|refine below_set ?_ GE380.out|refine below_set ?_ GE399.out|refine below_set ?_ GE407.out|refine below_set ?_ GE418.out)|exact HB.out))));have n11_:=Aside0.mk (blk_below (g:=gb380) (o:=.cells #[.slice A0_0 l0_0.length c0_0,.int .i64 a0_1,.slice A0_2 l0_2.length c0_2] 25 (0,0)) (by (with_reducible repeat (first|refine blk_drewN ?_ _|refine blk_drew ?_|refine blk_alloc ?_ _));exact BK380.out) hb);have n12_:=Aside0.mk (blk_below (g:=gb399) (o:=.cells #[.slice Ao27 t392.length co27,.int .i64 t395,.slice Ao30 t396.length co30] 27 (0,0)) (by (with_reducible repeat (first|refine blk_drewN ?_ _|refine blk_drew ?_|refine blk_alloc ?_ _));exact BK399.out) hb);have n13_:=Aside0.mk (blk_below (g:=gb407) (o:=.cells #[.slice Ao34 t433.length co34,.int .i64 t403,.slice Ao38 t434.length co38] 27 (0,0)) (by (with_reducible repeat (first|refine blk_drewN ?_ _|refine blk_drew ?_|refine blk_alloc ?_ _));exact BK407.out) hb);have n14_:=Aside0.mk (blk_below (g:=gb418) (o:=.cells #[.slice Ao44 t439.length co44,.int .i64 t414,.slice Ao49 t440.length co49] 27 (0,0)) (by (with_reducible repeat (first|refine blk_drewN ?_ _|refine blk_drew ?_|refine blk_alloc ?_ _));exact BK418.out) hb);have n15_:=Aside0.mk (below_step (by repeat (first|(with_reducible first|exact HB.out|apply below_alloc|apply pw_below_drewN|apply below_drew1|refine below_set ?_ GE380.out|refine below_set ?_ GE399.out|refine below_set ?_ GE407.out|refine below_set ?_ GE418.out)|exact HB.out)) hb);clear HO_400000;clear HO_400002;clear HO_408000;clear HO_408002;clear HO_419000;clear HO_419002;clear HO444;clear HO448;clear HO451;clear BK380;clear BK399;clear BK407;clear BK418;clear HB;have HO_400000:=n0_;have HO_400002:=n1_;have HO_408000:=n2_;have HO_408002:=n3_;have HO_419000:=n4_;have HO_419002:=n5_;have HO444:=n6_;have HO448:=n7_;have HO451:=n8_;have HO454:=n9_;have HO458:=n10_;have BK380:=n11_;have BK399:=n12_;have BK407:=n13_;have BK418:=n14_;have HB:=n15_;clear n0_ n1_ n2_ n3_ n4_ n5_ n6_ n7_ n8_ n9_ n10_ n11_ n12_ n13_ n14_ n15_;(try clear hb);(try clear hb2);(try clear hk);(try clear hi);(try clear ho0);(try clear ho1))|((with_reducible refine gate_dst (N:=13) rfl ?_);refine box_event ?hg (N:=13) ?hd (cs:=#[.slice none 0 0,.int .i64 0,.slice none 0 0]) (t:=27) ?hr ?_;(case hd=>rfl);(case hg=>rfl);(case hr=>first|(go_simp;done)|(go_simp;rfl));intro gb459 hg w117 hbox hb;have n0_:=Aside0.mk (Kd.R_below (by (with_reducible repeat (first|apply Kd.R_alloc|apply Kd.R_drewN|apply Kd.R_drew));exact HO_400000.out) hb);have n1_:=Aside0.mk (Kd.R_below (by (with_reducible repeat (first|apply Kd.R_alloc|apply Kd.R_drewN|apply Kd.R_drew));exact HO_400002.out) hb);have n2_:=Aside0.mk (Kd.R_below (by (with_reducible repeat (first|apply Kd.R_alloc|apply Kd.R_drewN|apply Kd.R_drew));exact HO_408000.out) hb);have n3_:=Aside0.mk (Kd.R_below (by (with_reducible repeat (first|apply Kd.R_alloc|apply Kd.R_drewN|apply Kd.R_drew));exact HO_408002.out) hb);have n4_:=Aside0.mk (Kd.R_below (by (with_reducible repeat (first|apply Kd.R_alloc|apply Kd.R_drewN|apply Kd.R_drew));exact HO_419000.out) hb);have n5_:=Aside0.mk (Kd.R_below (by (with_reducible repeat (first|apply Kd.R_alloc|apply Kd.R_drewN|apply Kd.R_drew));exact HO_419002.out) hb);have n6_:=Aside0.mk (Kd.R_below (by (with_reducible repeat (first|apply Kd.R_alloc|apply Kd.R_drewN|apply Kd.R_drew));exact HO444.out) hb);have n7_:=Aside0.mk (Kd.R_below (by (with_reducible repeat (first|apply Kd.R_alloc|apply Kd.R_drewN|apply Kd.R_drew));exact HO448.out) hb);have n8_:=Aside0.mk (Kd.R_below (by (with_reducible repeat (first|apply Kd.R_alloc|apply Kd.R_drewN|apply Kd.R_drew));exact HO451.out) hb);have n9_:=Aside0.mk (Kd.R_below (by (with_reducible repeat (first|apply Kd.R_alloc|apply Kd.R_drewN|apply Kd.R_drew));exact HO454.out) hb);have n10_:=Aside0.mk (Kd.R_below (by (with_reducible repeat (first|apply Kd.R_alloc|apply Kd.R_drewN|apply Kd.R_drew));exact HO458.out) hb);have n11_:=Aside0.mk (blk_below (g:=gb380) (o:=.cells #[.slice A0_0 l0_0.length c0_0,.int .i64 a0_1,.slice A0_2 l0_2.length c0_2] 25 (0,0)) (by (with_reducible repeat (first|refine blk_drewN ?_ _|refine blk_drew ?_|refine blk_alloc ?_ _));exact BK380.out) hb);have n12_:=Aside0.mk (blk_below (g:=gb399) (o:=.cells #[.slice Ao27 t392.length co27,.int .i64 t395,.slice Ao30 t396.length co30] 27 (0,0)) (by (with_reducible repeat (first|refine blk_drewN ?_ _|refine blk_drew ?_|refine blk_alloc ?_ _));exact BK399.out) hb);have n13_:=Aside0.mk (blk_below (g:=gb407) (o:=.cells #[.slice Ao34 t433.length co34,.int .i64 t403,.slice Ao38 t434.length co38] 27 (0,0)) (by (with_reducible repeat (first|refine blk_drewN ?_ _|refine blk_drew ?_|refine blk_alloc ?_ _));exact BK407.out) hb);have n14_:=Aside0.mk (blk_below (g:=gb418) (o:=.cells #[.slice Ao44 t439.length co44,.int .i64 t414,.slice Ao49 t440.length co49] 27 (0,0)) (by (with_reducible repeat (first|refine blk_drewN ?_ _|refine blk_drew ?_|refine blk_alloc ?_ _));exact BK418.out) hb);have n15_:=Aside0.mk (below_step (by repeat (first|(with_reducible first|exact HB.out|apply below_alloc|apply pw_below_drewN|apply below_drew1|refine below_set ?_ GE380.out|refine below_set ?_ GE399.out|refine below_set ?_ GE407.out|refine below_set ?_ GE418.out)|exact HB.out)) hb);have n16_:=Aside0.mk (hbox);have n17_:=Aside0.mk ((by rw [hg];exact (below_size (by repeat (first|(with_reducible first|exact HB.out|apply below_alloc|apply pw_below_drewN|apply below_drew1|refine below_set ?_ GE380.out|refine below_set ?_ GE399.out|refine below_set ?_ GE407.out|refine below_set ?_ GE418.out)|exact HB.out))) : w.heap.size ≤ gb459));have n18_:=Aside0.mk ((by rw [hg];exact (below_size (by repeat (first|(with_reducible first|exact HB.out|apply below_alloc|apply pw_below_drewN|apply below_drew1|refine below_set ?_ GE380.out|refine below_set ?_ GE399.out|refine below_set ?_ GE407.out|refine below_set ?_ GE418.out)|exact HB.out))) : w.heap.size ≤ gb459));have n19_:=Aside0.mk ((by rw [hg];exact Nat.ne_of_lt (blk_lt (g:=gb380) (o:=.cells #[.slice A0_0 l0_0.length c0_0,.int .i64 a0_1,.slice A0_2 l0_2.length c0_2] 25 (0,0)) (by (with_reducible repeat (first|refine blk_drewN ?_ _|refine blk_drew ?_|refine blk_alloc ?_ _));exact BK380.out)) : gb380 ≠ gb459));have n20_:=Aside0.mk ((by rw [hg];exact Nat.ne_of_gt (blk_lt (g:=gb380) (o:=.cells #[.slice A0_0 l0_0.length c0_0,.int .i64 a0_1,.slice A0_2 l0_2.length c0_2] 25 (0,0)) (by (with_reducible repeat (first|refine blk_drewN ?_ _|refine blk_drew ?_|refine blk_alloc ?_ _));exact BK380.out)) : gb459 ≠ gb380));have n21_:=Aside0.mk ((by rw [hg];exact Nat.ne_of_lt (blk_lt (g:=gb399) (o:=.cells #[.slice Ao27 t392.length co27,.int .i64 t395,.slice Ao30 t396.length co30] 27 (0,0)) (by (with_reducible repeat (first|refine blk_drewN ?_ _|refine blk_drew ?_|refine blk_alloc ?_ _));exact BK399.out)) : gb399 ≠ gb459));have n22_:=Aside0.mk ((by rw [hg];exact Nat.ne_of_gt (blk_lt (g:=gb399) (o:=.cells #[.slice Ao27 t392.length co27,.int .i64 t395,.slice Ao30 t396.length co30] 27 (0,0)) (by (with_reducible repeat (first|refine blk_drewN ?_ _|refine blk_drew ?_|refine blk_alloc ?_ _));exact BK399.out)) : gb459 ≠ gb399));have n23_:=Aside0.mk ((by rw [hg];exact Nat.ne_of_lt (blk_lt (g:=gb407) (o:=.cells #[.slice Ao34 t433.length co34,.int .i64 t403,.slice Ao38 t434.length co38] 27 (0,0)) (by (with_reducible repeat (first|refine blk_drewN ?_ _|refine blk_drew ?_|refine blk_alloc ?_ _));exact BK407.out)) : gb407 ≠ gb459));have n24_:=Aside0.mk ((by rw [hg];exact Nat.ne_of_gt (blk_lt (g:=gb407) (o:=.cells #[.slice Ao34 t433.length co34,.int .i64 t403,.slice Ao38 t434.length co38] 27 (0,0)) (by (with_reducible repeat (first|refine blk_drewN ?_ _|refine blk_drew ?_|refine blk_alloc ?_ _));exact BK407.out)) : gb459 ≠ gb407));have n25_:=Aside0.mk ((by rw [hg];exact Nat.ne_of_lt (blk_lt (g:=gb418) (o:=.cells #[.slice Ao44 t439.length co44,.int .i64 t414,.slice Ao49 t440.length co49] 27 (0,0)) (by (with_reducible repeat (first|refine blk_drewN ?_ _|refine blk_drew ?_|refine blk_alloc ?_ _));exact BK418.out)) : gb418 ≠ gb459));have n26_:=Aside0.mk ((by rw [hg];exact Nat.ne_of_gt (blk_lt (g:=gb418) (o:=.cells #[.slice Ao44 t439.length co44,.int .i64 t414,.slice Ao49 t440.length co49] 27 (0,0)) (by (with_reducible repeat (first|refine blk_drewN ?_ _|refine blk_drew ?_|refine blk_alloc ?_ _));exact BK418.out)) : gb459 ≠ gb418));clear HO_400000;clear HO_400002;clear HO_408000;clear HO_408002;clear HO_419000;clear HO_419002;clear HO444;clear HO448;clear HO451;clear HO454;clear HO458;clear BK380;clear BK399;clear BK407;clear BK418;clear HB;have HO_400000:=n0_;have HO_400002:=n1_;have HO_408000:=n2_;have HO_408002:=n3_;have HO_419000:=n4_;have HO_419002:=n5_;have HO444:=n6_;have HO448:=n7_;have HO451:=n8_;have HO454:=n9_;have HO458:=n10_;have BK380:=n11_;have BK399:=n12_;have BK407:=n13_;have BK418:=n14_;have HB:=n15_;have BK459:=n16_;have GW459:=n17_;have GE459:=n18_;have NB380_459:=n19_;have NB459_380:=n20_;have NB399_459:=n21_;have NB459_399:=n22_;have NB407_459:=n23_;have NB459_407:=n24_;have NB418_459:=n25_;have NB459_418:=n26_;clear n0_ n1_ n2_ n3_ n4_ n5_ n6_ n7_ n8_ n9_ n10_ n11_ n12_ n13_ n14_ n15_ n16_ n17_ n18_ n19_ n20_ n21_ n22_ n23_ n24_ n25_ n26_;clear hb hbox hg;obtain ⟨Ao118,co118,eo118⟩:=Kd.R_slice HO454.out;subst eo118;have hnb119:=NB459_380.out;have hnc119:=NB380_459.out;have hnb120:=NB459_399.out;have hnc120:=NB399_459.out;have hnb121:=NB459_407.out;have hnc121:=NB407_459.out;have hnb122:=NB459_418.out;have hnc122:=NB418_459.out;have hcz123_0 : w117.cell? ⟨gb459,0,none⟩ = some (.slice none 0 0):=(blk_cell BK459.out 0).trans rfl;have hcz123_1 : w117.cell? ⟨gb459,1,none⟩ = some (.int .i64 0):=(blk_cell BK459.out 1).trans rfl;have hcz123_2 : w117.cell? ⟨gb459,2,none⟩ = some (.slice none 0 0):=(blk_cell BK459.out 2).trans rfl;have hfz123_0:=blk_frozen BK459.out 0;have hfz123_1:=blk_frozen BK459.out 1;have hfz123_2:=blk_frozen BK459.out 2;obtain ⟨Ao124,co124,eo124⟩:=Kd.R_slice HO458.out;subst eo124;have hnb125:=NB399_407.out;have hnc125:=NB407_399.out;have hnb126:=NB399_418.out;have hnc126:=NB418_399.out;have hcz127_0 : w117.cell? ⟨gb399,0,none⟩ = some (.slice Ao27 t392.length co27):=(blk_cell BK399.out 0).trans rfl;have hcz127_1 : w117.cell? ⟨gb399,1,none⟩ = some (.int .i64 t395):=(blk_cell BK399.out 1).trans rfl;have hcz127_2 : w117.cell? ⟨gb399,2,none⟩ = some (.slice Ao30 t396.length co30):=(blk_cell BK399.out 2).trans rfl;have hfz127_0:=blk_frozen BK399.out 0;have hfz127_1:=blk_frozen BK399.out 1;have hfz127_2:=blk_frozen BK399.out 2)|((with_reducible refine gate_callee (f:=9) rfl ?_);refine goesL_ (some 80) rfl rfl Try.func9 (by kernel_rfl) rfl #[.agg #[.slice Ao118 t452.length co118,.int .i64 t455,.slice Ao124 t456.length co124],.agg #[.slice Ao27 t392.length co27,.int .i64 t395,.slice Ao30 t396.length co30]] rfl (by (try simp only [List.map_toArray,List.map_cons,List.map_nil]);first|done|rfl|(simp only [List.length_drop,List.length_take];rfl)) ?_;(with_reducible refine (laws_eqSum.calls kj99 _ _ t452 t455 _ _ t456 _ _ t392 t395 _ _ t396 t460 _ ?side1 ?side2 ?side3 ?side4 ?side5 ?side6 ?side7 ?side8 A105.out).mono ?_);(case side1=>refine (Kd.R_reads' (e:=3) (base:=w.heap.size) (ok:=fun k_=>((((True ∧ some k_ ≠ (.slice Ao27 t392.length co27 : Value).ownBlock) ∧ some k_ ≠ (.slice Ao34 t433.length co34 : Value).ownBlock) ∧ some k_ ≠ (.slice Ao44 t439.length co44 : Value).ownBlock) ∧ some k_ ≠ (.slice Ao113 t442.length co113 : Value).ownBlock)) (n:=t452.length) (c:=co118) ?_).2.2;exact (by (with_reducible repeat (first|apply Kd.R_alloc|apply Kd.R_drewN|apply Kd.R_drew));exact (Kd.R_mono (Kd.R_far (p:=⟨gb459,2,none⟩) (Kd.R_far (p:=⟨gb459,1,none⟩) (Kd.R_far (p:=⟨gb459,0,none⟩) (Kd.R_types HO454.out BK459.out (by decide)) (fun _ hk=>hk.2) (.slice Ao118 t452.length co118)) (fun _ hk=>hk.2) (.int .i64 t455)) (fun _ hk=>hk.2) (.slice Ao124 t456.length co124)) (fun _ h_=>h_.1))));(case side2=>exact (Kd.R_reads' HO454.out).2.1);(case side3=>refine (Kd.R_reads' (e:=5) (base:=w.heap.size) (ok:=fun k_=>(((((True ∧ some k_ ≠ (.slice Ao30 t396.length co30 : Value).ownBlock) ∧ some k_ ≠ (.slice Ao38 t434.length co38 : Value).ownBlock) ∧ some k_ ≠ (.slice Ao49 t440.length co49 : Value).ownBlock) ∧ some k_ ≠ (.slice Ao114 t446.length co114 : Value).ownBlock) ∧ some k_ ≠ (.slice Ao115 t449.length co115 : Value).ownBlock)) (n:=t456.length) (c:=co124) ?_).2.2;exact (by (with_reducible repeat (first|apply Kd.R_alloc|apply Kd.R_drewN|apply Kd.R_drew));exact (Kd.R_mono (Kd.R_far (p:=⟨gb459,2,none⟩) (Kd.R_far (p:=⟨gb459,1,none⟩) (Kd.R_far (p:=⟨gb459,0,none⟩) (Kd.R_types HO458.out BK459.out (by decide)) (fun _ hk=>hk.2) (.slice Ao118 t452.length co118)) (fun _ hk=>hk.2) (.int .i64 t455)) (fun _ hk=>hk.2) (.slice Ao124 t456.length co124)) (fun _ h_=>h_.1))));(case side4=>exact (Kd.R_reads' HO458.out).2.1);(case side5=>refine (Kd.R_reads' (e:=3) (base:=w.heap.size) (ok:=fun k_=>(((some k_ ≠ (.slice Ao34 t433.length co34 : Value).ownBlock ∧ some k_ ≠ (.slice Ao44 t439.length co44 : Value).ownBlock) ∧ some k_ ≠ (.slice Ao113 t442.length co113 : Value).ownBlock) ∧ some k_ ≠ (.slice Ao118 t452.length co118 : Value).ownBlock)) (n:=t392.length) (c:=co27) ?_).2.2;exact (by (with_reducible repeat (first|apply Kd.R_alloc|apply Kd.R_drewN|apply Kd.R_drew));exact (Kd.R_mono (Kd.R_far (p:=⟨gb459,2,none⟩) (Kd.R_far (p:=⟨gb459,1,none⟩) (Kd.R_far (p:=⟨gb459,0,none⟩) (Kd.R_types HO_400000.out BK459.out (by decide)) (fun _ hk=>hk.2) (.slice Ao118 t452.length co118)) (fun _ hk=>hk.2) (.int .i64 t455)) (fun _ hk=>hk.2) (.slice Ao124 t456.length co124)) (fun _ h_=>h_.1))));(case side6=>exact (Kd.R_reads' HO_400000.out).2.1);(case side7=>refine (Kd.R_reads' (e:=5) (base:=w.heap.size) (ok:=fun k_=>((((some k_ ≠ (.slice Ao38 t434.length co38 : Value).ownBlock ∧ some k_ ≠ (.slice Ao49 t440.length co49 : Value).ownBlock) ∧ some k_ ≠ (.slice Ao114 t446.length co114 : Value).ownBlock) ∧ some k_ ≠ (.slice Ao115 t449.length co115 : Value).ownBlock) ∧ some k_ ≠ (.slice Ao124 t456.length co124 : Value).ownBlock)) (n:=t396.length) (c:=co30) ?_).2.2;exact (by (with_reducible repeat (first|apply Kd.R_alloc|apply Kd.R_drewN|apply Kd.R_drew));exact (Kd.R_mono (Kd.R_far (p:=⟨gb459,2,none⟩) (Kd.R_far (p:=⟨gb459,1,none⟩) (Kd.R_far (p:=⟨gb459,0,none⟩) (Kd.R_types HO_400002.out BK459.out (by decide)) (fun _ hk=>hk.2) (.slice Ao118 t452.length co118)) (fun _ hk=>hk.2) (.int .i64 t455)) (fun _ hk=>hk.2) (.slice Ao124 t456.length co124)) (fun _ h_=>h_.1))));(case side8=>exact (Kd.R_reads' HO_400002.out).2.1);rintro e w128 ⟨rfl,hb⟩;refine ⟨_,rfl,?_⟩;have n0_:=Aside0.mk (Kd.R_below (by (with_reducible repeat (first|apply Kd.R_alloc|apply Kd.R_drewN|apply Kd.R_drew));exact (Kd.R_mono (Kd.R_far (p:=⟨gb459,2,none⟩) (Kd.R_far (p:=⟨gb459,1,none⟩) (Kd.R_far (p:=⟨gb459,0,none⟩) (Kd.R_types HO_400000.out BK459.out (by decide)) (fun _ hk=>hk.2) (.slice Ao118 t452.length co118)) (fun _ hk=>hk.2) (.int .i64 t455)) (fun _ hk=>hk.2) (.slice Ao124 t456.length co124)) (fun _ h_=>h_.1))) hb);have n1_:=Aside0.mk (Kd.R_below (by (with_reducible repeat (first|apply Kd.R_alloc|apply Kd.R_drewN|apply Kd.R_drew));exact (Kd.R_mono (Kd.R_far (p:=⟨gb459,2,none⟩) (Kd.R_far (p:=⟨gb459,1,none⟩) (Kd.R_far (p:=⟨gb459,0,none⟩) (Kd.R_types HO_400002.out BK459.out (by decide)) (fun _ hk=>hk.2) (.slice Ao118 t452.length co118)) (fun _ hk=>hk.2) (.int .i64 t455)) (fun _ hk=>hk.2) (.slice Ao124 t456.length co124)) (fun _ h_=>h_.1))) hb);have n2_:=Aside0.mk (Kd.R_below (by (with_reducible repeat (first|apply Kd.R_alloc|apply Kd.R_drewN|apply Kd.R_drew));exact (Kd.R_mono (Kd.R_far (p:=⟨gb459,2,none⟩) (Kd.R_far (p:=⟨gb459,1,none⟩) (Kd.R_far (p:=⟨gb459,0,none⟩) (Kd.R_types HO_408000.out BK459.out (by decide)) (fun _ hk=>hk.2) (.slice Ao118 t452.length co118)) (fun _ hk=>hk.2) (.int .i64 t455)) (fun _ hk=>hk.2) (.slice Ao124 t456.length co124)) (fun _ h_=>h_.1))) hb);have n3_:=Aside0.mk (Kd.R_below (by (with_reducible repeat (first|apply Kd.R_alloc|apply Kd.R_drewN|apply Kd.R_drew));exact (Kd.R_mono (Kd.R_far (p:=⟨gb459,2,none⟩) (Kd.R_far (p:=⟨gb459,1,none⟩) (Kd.R_far (p:=⟨gb459,0,none⟩) (Kd.R_types HO_408002.out BK459.out (by decide)) (fun _ hk=>hk.2) (.slice Ao118 t452.length co118)) (fun _ hk=>hk.2) (.int .i64 t455)) (fun _ hk=>hk.2) (.slice Ao124 t456.length co124)) (fun _ h_=>h_.1))) hb);have n4_:=Aside0.mk (Kd.R_below (by (with_reducible repeat (first|apply Kd.R_alloc|apply Kd.R_drewN|apply Kd.R_drew));exact (Kd.R_mono (Kd.R_far (p:=⟨gb459,2,none⟩) (Kd.R_far (p:=⟨gb459,1,none⟩) (Kd.R_far (p:=⟨gb459,0,none⟩) (Kd.R_types HO_419000.out BK459.out (by decide)) (fun _ hk=>hk.2) (.slice Ao118 t452.length co118)) (fun _ hk=>hk.2) (.int .i64 t455)) (fun _ hk=>hk.2) (.slice Ao124 t456.length co124)) (fun _ h_=>h_.1))) hb);have n5_:=Aside0.mk (Kd.R_below (by (with_reducible repeat (first|apply Kd.R_alloc|apply Kd.R_drewN|apply Kd.R_drew));exact (Kd.R_mono (Kd.R_far (p:=⟨gb459,2,none⟩) (Kd.R_far (p:=⟨gb459,1,none⟩) (Kd.R_far (p:=⟨gb459,0,none⟩) (Kd.R_types HO_419002.out BK459.out (by decide)) (fun _ hk=>hk.2) (.slice Ao118 t452.length co118)) (fun _ hk=>hk.2) (.int .i64 t455)) (fun _ hk=>hk.2) (.slice Ao124 t456.length co124)) (fun _ h_=>h_.1))) hb);have n6_:=Aside0.mk (Kd.R_below (by (with_reducible repeat (first|apply Kd.R_alloc|apply Kd.R_drewN|apply Kd.R_drew));exact (Kd.R_mono (Kd.R_far (p:=⟨gb459,2,none⟩) (Kd.R_far (p:=⟨gb459,1,none⟩) (Kd.R_far (p:=⟨gb459,0,none⟩) (Kd.R_types HO444.out BK459.out (by decide)) (fun _ hk=>hk.2) (.slice Ao118 t452.length co118)) (fun _ hk=>hk.2) (.int .i64 t455)) (fun _ hk=>hk.2) (.slice Ao124 t456.length co124)) (fun _ h_=>h_.1))) hb);have n7_:=Aside0.mk (Kd.R_below (by (with_reducible repeat (first|apply Kd.R_alloc|apply Kd.R_drewN|apply Kd.R_drew));exact (Kd.R_mono (Kd.R_far (p:=⟨gb459,2,none⟩) (Kd.R_far (p:=⟨gb459,1,none⟩) (Kd.R_far (p:=⟨gb459,0,none⟩) (Kd.R_types HO448.out BK459.out (by decide)) (fun _ hk=>hk.2) (.slice Ao118 t452.length co118)) (fun _ hk=>hk.2) (.int .i64 t455)) (fun _ hk=>hk.2) (.slice Ao124 t456.length co124)) (fun _ h_=>h_.1))) hb);have n8_:=Aside0.mk (Kd.R_below (by (with_reducible repeat (first|apply Kd.R_alloc|apply Kd.R_drewN|apply Kd.R_drew));exact (Kd.R_mono (Kd.R_far (p:=⟨gb459,2,none⟩) (Kd.R_far (p:=⟨gb459,1,none⟩) (Kd.R_far (p:=⟨gb459,0,none⟩) (Kd.R_types HO451.out BK459.out (by decide)) (fun _ hk=>hk.2) (.slice Ao118 t452.length co118)) (fun _ hk=>hk.2) (.int .i64 t455)) (fun _ hk=>hk.2) (.slice Ao124 t456.length co124)) (fun _ h_=>h_.1))) hb);have n9_:=Aside0.mk (Kd.R_below (by (with_reducible repeat (first|apply Kd.R_alloc|apply Kd.R_drewN|apply Kd.R_drew));exact (Kd.R_mono (Kd.R_far (p:=⟨gb459,2,none⟩) (Kd.R_far (p:=⟨gb459,1,none⟩) (Kd.R_far (p:=⟨gb459,0,none⟩) (Kd.R_types HO454.out BK459.out (by decide)) (fun _ hk=>hk.2) (.slice Ao118 t452.length co118)) (fun _ hk=>hk.2) (.int .i64 t455)) (fun _ hk=>hk.2) (.slice Ao124 t456.length co124)) (fun _ h_=>h_.1))) hb);have n10_:=Aside0.mk (Kd.R_below (by (with_reducible repeat (first|apply Kd.R_alloc|apply Kd.R_drewN|apply Kd.R_drew));exact (Kd.R_mono (Kd.R_far (p:=⟨gb459,2,none⟩) (Kd.R_far (p:=⟨gb459,1,none⟩) (Kd.R_far (p:=⟨gb459,0,none⟩) (Kd.R_types HO458.out BK459.out (by decide)) (fun _ hk=>hk.2) (.slice Ao118 t452.length co118)) (fun _ hk=>hk.2) (.int .i64 t455)) (fun _ hk=>hk.2) (.slice Ao124 t456.length co124)) (fun _ h_=>h_.1))) hb);have n11_:=Aside0.mk (blk_below (g:=gb380) (o:=.cells #[.slice A0_0 l0_0.length c0_0,.int .i64 a0_1,.slice A0_2 l0_2.length c0_2] 25 (0,0)) (by (with_reducible repeat (first|refine blk_drewN ?_ _|refine blk_drew ?_|refine blk_alloc ?_ _));refine blk_far ?_ NB380_459.out _;(with_reducible repeat (first|refine blk_drewN ?_ _|refine blk_drew ?_|refine blk_alloc ?_ _));refine blk_far ?_ NB380_459.out _;(with_reducible repeat (first|refine blk_drewN ?_ _|refine blk_drew ?_|refine blk_alloc ?_ _));refine blk_far ?_ NB380_459.out _;(with_reducible repeat (first|refine blk_drewN ?_ _|refine blk_drew ?_|refine blk_alloc ?_ _));exact BK380.out) hb);have n12_:=Aside0.mk (blk_below (g:=gb399) (o:=.cells #[.slice Ao27 t392.length co27,.int .i64 t395,.slice Ao30 t396.length co30] 27 (0,0)) (by (with_reducible repeat (first|refine blk_drewN ?_ _|refine blk_drew ?_|refine blk_alloc ?_ _));refine blk_far ?_ NB399_459.out _;(with_reducible repeat (first|refine blk_drewN ?_ _|refine blk_drew ?_|refine blk_alloc ?_ _));refine blk_far ?_ NB399_459.out _;(with_reducible repeat (first|refine blk_drewN ?_ _|refine blk_drew ?_|refine blk_alloc ?_ _));refine blk_far ?_ NB399_459.out _;(with_reducible repeat (first|refine blk_drewN ?_ _|refine blk_drew ?_|refine blk_alloc ?_ _));exact BK399.out) hb);have n13_:=Aside0.mk (blk_below (g:=gb407) (o:=.cells #[.slice Ao34 t433.length co34,.int .i64 t403,.slice Ao38 t434.length co38] 27 (0,0)) (by (with_reducible repeat (first|refine blk_drewN ?_ _|refine blk_drew ?_|refine blk_alloc ?_ _));refine blk_far ?_ NB407_459.out _;(with_reducible repeat (first|refine blk_drewN ?_ _|refine blk_drew ?_|refine blk_alloc ?_ _));refine blk_far ?_ NB407_459.out _;(with_reducible repeat (first|refine blk_drewN ?_ _|refine blk_drew ?_|refine blk_alloc ?_ _));refine blk_far ?_ NB407_459.out _;(with_reducible repeat (first|refine blk_drewN ?_ _|refine blk_drew ?_|refine blk_alloc ?_ _));exact BK407.out) hb);have n14_:=Aside0.mk (blk_below (g:=gb418) (o:=.cells #[.slice Ao44 t439.length co44,.int .i64 t414,.slice Ao49 t440.length co49] 27 (0,0)) (by (with_reducible repeat (first|refine blk_drewN ?_ _|refine blk_drew ?_|refine blk_alloc ?_ _));refine blk_far ?_ NB418_459.out _;(with_reducible repeat (first|refine blk_drewN ?_ _|refine blk_drew ?_|refine blk_alloc ?_ _));refine blk_far ?_ NB418_459.out _;(with_reducible repeat (first|refine blk_drewN ?_ _|refine blk_drew ?_|refine blk_alloc ?_ _));refine blk_far ?_ NB418_459.out _;(with_reducible repeat (first|refine blk_drewN ?_ _|refine blk_drew ?_|refine blk_alloc ?_ _));exact BK418.out) hb);have n15_:=Aside0.mk (blk_below (g:=gb459) (o:=.cells #[.slice Ao118 t452.length co118,.int .i64 t455,.slice Ao124 t456.length co124] 27 (0,0)) (by (with_reducible repeat (first|refine blk_drewN ?_ _|refine blk_drew ?_|refine blk_alloc ?_ _));refine blk_put (cs:=#[.slice Ao118 t452.length co118,.int .i64 t455,.slice none 0 0]) ?_ 2 _ rfl;(with_reducible repeat (first|refine blk_drewN ?_ _|refine blk_drew ?_|refine blk_alloc ?_ _));refine blk_put (cs:=#[.slice Ao118 t452.length co118,.int .i64 0,.slice none 0 0]) ?_ 1 _ rfl;(with_reducible repeat (first|refine blk_drewN ?_ _|refine blk_drew ?_|refine blk_alloc ?_ _));refine blk_put (cs:=#[.slice none 0 0,.int .i64 0,.slice none 0 0]) ?_ 0 _ rfl;(with_reducible repeat (first|refine blk_drewN ?_ _|refine blk_drew ?_|refine blk_alloc ?_ _));exact BK459.out) hb);have n16_:=Aside0.mk (below_step (by repeat (first|(with_reducible first|exact HB.out|apply below_alloc|apply pw_below_drewN|apply below_drew1|refine below_set ?_ GE380.out|refine below_set ?_ GE399.out|refine below_set ?_ GE407.out|refine below_set ?_ GE418.out|refine below_set ?_ GE459.out)|exact HB.out)) hb);clear HO_400000;clear HO_400002;clear HO_408000;clear HO_408002;clear HO_419000;clear HO_419002;clear HO444;clear HO448;clear HO451;clear HO454;clear HO458;clear BK380;clear BK399;clear BK407;clear BK418;clear BK459;clear HB;have HO_400000:=n0_;have HO_400002:=n1_;have HO_408000:=n2_;have HO_408002:=n3_;have HO_419000:=n4_;have HO_419002:=n5_;have HO444:=n6_;have HO448:=n7_;have HO451:=n8_;have HO454:=n9_;have HO458:=n10_;have BK380:=n11_;have BK399:=n12_;have BK407:=n13_;have BK418:=n14_;have BK459:=n15_;have HB:=n16_;clear n0_ n1_ n2_ n3_ n4_ n5_ n6_ n7_ n8_ n9_ n10_ n11_ n12_ n13_ n14_ n15_ n16_;(try clear hb);(try clear hb2);(try clear hk);(try clear hi)))
                   (try simp only [Act.put,List.setIfInBounds_toArray,List.set_cons_zero,List.set_cons_succ])
                   go_cut [] (fun wc=>∃ (kq : Nat),Aside0 (laws_FnExactSumAdd.j9 kq t438 t439 t414 t440 = some r) ∧ Aside0 (kq ≤ kj99) ∧ Aside0 (Kd.R (Kd.int .i64) 3 wc w.heap.size (fun k_=>some k_ ≠ ((.slice Ao34 t433.length co34) : Value).ownBlock ∧ some k_ ≠ ((.slice Ao44 t439.length co44) : Value).ownBlock ∧ some k_ ≠ ((.slice Ao118 t452.length co118) : Value).ownBlock) (.slice Ao27 t392.length co27) t392) ∧ Aside0 (Kd.R (Kd.int .u8) 5 wc w.heap.size (fun k_=>some k_ ≠ ((.slice Ao38 t434.length co38) : Value).ownBlock ∧ some k_ ≠ ((.slice Ao49 t440.length co49) : Value).ownBlock ∧ some k_ ≠ ((.slice Ao124 t456.length co124) : Value).ownBlock) (.slice Ao30 t396.length co30) t396) ∧ Aside0 (Kd.R (Kd.int .i64) 3 wc w.heap.size (fun k_=>some k_ ≠ ((.slice Ao27 t392.length co27) : Value).ownBlock ∧ some k_ ≠ ((.slice Ao44 t439.length co44) : Value).ownBlock ∧ some k_ ≠ ((.slice Ao118 t452.length co118) : Value).ownBlock) (.slice Ao34 t433.length co34) t433) ∧ Aside0 (Kd.R (Kd.int .u8) 5 wc w.heap.size (fun k_=>some k_ ≠ ((.slice Ao30 t396.length co30) : Value).ownBlock ∧ some k_ ≠ ((.slice Ao49 t440.length co49) : Value).ownBlock ∧ some k_ ≠ ((.slice Ao124 t456.length co124) : Value).ownBlock) (.slice Ao38 t434.length co38) t434) ∧ Aside0 (Kd.R (Kd.int .i64) 3 wc w.heap.size (fun k_=>some k_ ≠ ((.slice Ao27 t392.length co27) : Value).ownBlock ∧ some k_ ≠ ((.slice Ao34 t433.length co34) : Value).ownBlock ∧ some k_ ≠ ((.slice Ao118 t452.length co118) : Value).ownBlock) (.slice Ao44 t439.length co44) t439) ∧ Aside0 (Kd.R (Kd.int .u8) 5 wc w.heap.size (fun k_=>some k_ ≠ ((.slice Ao30 t396.length co30) : Value).ownBlock ∧ some k_ ≠ ((.slice Ao38 t434.length co38) : Value).ownBlock ∧ some k_ ≠ ((.slice Ao124 t456.length co124) : Value).ownBlock) (.slice Ao49 t440.length co49) t440) ∧ Aside0 (Kd.R (Kd.int .i64) 3 wc w.heap.size (fun k_=>some k_ ≠ ((.slice Ao27 t392.length co27) : Value).ownBlock ∧ some k_ ≠ ((.slice Ao34 t433.length co34) : Value).ownBlock ∧ some k_ ≠ ((.slice Ao44 t439.length co44) : Value).ownBlock) (.slice Ao118 t452.length co118) t452) ∧ Aside0 (Kd.R (Kd.int .u8) 5 wc w.heap.size (fun k_=>some k_ ≠ ((.slice Ao30 t396.length co30) : Value).ownBlock ∧ some k_ ≠ ((.slice Ao38 t434.length co38) : Value).ownBlock ∧ some k_ ≠ ((.slice Ao49 t440.length co49) : Value).ownBlock) (.slice Ao124 t456.length co124) t456) ∧ Aside0 (wc.heap[gb380]? = some (.cells #[(.slice A0_0 l0_0.length c0_0),.int .i64 a0_1,(.slice A0_2 l0_2.length c0_2)] 25 (0,0))) ∧ Aside0 (wc.heap[gb399]? = some (.cells #[(.slice Ao27 t392.length co27),.int .i64 t395,(.slice Ao30 t396.length co30)] 27 (0,0))) ∧ Aside0 (wc.heap[gb407]? = some (.cells #[(.slice Ao34 t433.length co34),.int .i64 t403,(.slice Ao38 t434.length co38)] 27 (0,0))) ∧ Aside0 (wc.heap[gb418]? = some (.cells #[(.slice Ao44 t439.length co44),.int .i64 t414,(.slice Ao49 t440.length co49)] 27 (0,0))) ∧ Aside0 (wc.heap[gb459]? = some (.cells #[(.slice Ao118 t452.length co118),.int .i64 t455,(.slice Ao124 t456.length co124)] 27 (0,0))) ∧ Aside0 (Below w.heap.size w wc))
                   case first =>
                    have H:=HC106.out
                    clear HC106
                    by_cases c129 : t460 = true
                    case neg =>
                     replace c129:=Bool.eq_false_iff.mpr c129
                     subst c129
                     have H1 : (some false) = some r:=by rw [if_neg (show ¬ (false = true) by decide)] at H;exact H
                     clear H
                     have H:=H1
                     clear H1
                     obtain rfl:=Option.some.inj H
                     go_wp2
                     go_ret
                     exact ⟨by first|rfl|(simp [errW_none,errW_some]<;>rfl)|(simp [*,errW_none,errW_some]<;>rfl),by repeat (first|(with_reducible first|exact HB.out|apply below_alloc|apply pw_below_drewN|apply below_drew1|refine below_set ?_ GE380.out|refine below_set ?_ GE399.out|refine below_set ?_ GE407.out|refine below_set ?_ GE418.out|refine below_set ?_ GE459.out)|exact HB.out)⟩
                    subst c129
                    have H1 : (laws_FnExactSumAdd.j9 kj99 t438 t439 t414 t440) = some r:=by rw [if_pos rfl] at H;exact H
                    clear H
                    have H:=H1
                    clear H1
                    have H':=Aside0.mk H
                    clear H
                    go_wp2
                    go_meet
                    case rel=>exact ⟨_,H',⟨by have:=HJ2.out;have:=HJ6.out;have:=HJ17.out;have:=HJ54.out;have:=HJ63.out;have:=HJ69.out;have:=HJ86.out;have:=HJ90.out;have:=HJ99.out;first|omega|exact Nat.le_refl _⟩,⟨by (try simp only [hl408000_69]);(try simp only [hl408002_69]);(try simp only [hl419000_90]);(try simp only [hl419002_90]);(with_reducible repeat (first|apply Kd.R_alloc|apply Kd.R_drewN|apply Kd.R_drew));exact Kd.R_mono HO_400000.out (fun _ hk=>⟨hk.1.1.1,⟨hk.1.1.2,hk.2⟩⟩)⟩,⟨by (try simp only [hl408000_69]);(try simp only [hl408002_69]);(try simp only [hl419000_90]);(try simp only [hl419002_90]);(with_reducible repeat (first|apply Kd.R_alloc|apply Kd.R_drewN|apply Kd.R_drew));exact Kd.R_mono HO_400002.out (fun _ hk=>⟨hk.1.1.1.1,⟨hk.1.1.1.2,hk.2⟩⟩)⟩,⟨by (try simp only [hl408000_69]);(try simp only [hl408002_69]);(try simp only [hl419000_90]);(try simp only [hl419002_90]);(with_reducible repeat (first|apply Kd.R_alloc|apply Kd.R_drewN|apply Kd.R_drew));exact Kd.R_mono HO_408000.out (fun _ hk=>⟨hk.1.1.1,⟨hk.1.1.2,hk.2⟩⟩)⟩,⟨by (try simp only [hl408000_69]);(try simp only [hl408002_69]);(try simp only [hl419000_90]);(try simp only [hl419002_90]);(with_reducible repeat (first|apply Kd.R_alloc|apply Kd.R_drewN|apply Kd.R_drew));exact Kd.R_mono HO_408002.out (fun _ hk=>⟨hk.1.1.1.1,⟨hk.1.1.1.2,hk.2⟩⟩)⟩,⟨by (try simp only [hl408000_69]);(try simp only [hl408002_69]);(try simp only [hl419000_90]);(try simp only [hl419002_90]);(with_reducible repeat (first|apply Kd.R_alloc|apply Kd.R_drewN|apply Kd.R_drew));exact Kd.R_mono HO_419000.out (fun _ hk=>⟨hk.1.1.1,⟨hk.1.1.2,hk.2⟩⟩)⟩,⟨by (try simp only [hl408000_69]);(try simp only [hl408002_69]);(try simp only [hl419000_90]);(try simp only [hl419002_90]);(with_reducible repeat (first|apply Kd.R_alloc|apply Kd.R_drewN|apply Kd.R_drew));exact Kd.R_mono HO_419002.out (fun _ hk=>⟨hk.1.1.1.1,⟨hk.1.1.1.2,hk.2⟩⟩)⟩,⟨by (try simp only [hl408000_69]);(try simp only [hl408002_69]);(try simp only [hl419000_90]);(try simp only [hl419002_90]);(with_reducible repeat (first|apply Kd.R_alloc|apply Kd.R_drewN|apply Kd.R_drew));exact Kd.R_mono HO454.out (fun _ hk=>⟨hk.1.1.1.2,⟨hk.1.1.2,hk.1.2⟩⟩)⟩,⟨by (try simp only [hl408000_69]);(try simp only [hl408002_69]);(try simp only [hl419000_90]);(try simp only [hl419002_90]);(with_reducible repeat (first|apply Kd.R_alloc|apply Kd.R_drewN|apply Kd.R_drew));exact Kd.R_mono HO458.out (fun _ hk=>⟨hk.1.1.1.1.2,⟨hk.1.1.1.2,hk.1.1.2⟩⟩)⟩,⟨by (try simp only [hl408000_69]);(try simp only [hl408002_69]);(try simp only [hl419000_90]);(try simp only [hl419002_90]);(with_reducible repeat (first|refine blk_drewN ?_ _|refine blk_drew ?_|refine blk_alloc ?_ _));exact BK380.out⟩,⟨by (try simp only [hl408000_69]);(try simp only [hl408002_69]);(try simp only [hl419000_90]);(try simp only [hl419002_90]);(with_reducible repeat (first|refine blk_drewN ?_ _|refine blk_drew ?_|refine blk_alloc ?_ _));exact BK399.out⟩,⟨by (try simp only [hl408000_69]);(try simp only [hl408002_69]);(try simp only [hl419000_90]);(try simp only [hl419002_90]);(with_reducible repeat (first|refine blk_drewN ?_ _|refine blk_drew ?_|refine blk_alloc ?_ _));exact BK407.out⟩,⟨by (try simp only [hl408000_69]);(try simp only [hl408002_69]);(try simp only [hl419000_90]);(try simp only [hl419002_90]);(with_reducible repeat (first|refine blk_drewN ?_ _|refine blk_drew ?_|refine blk_alloc ?_ _));exact BK418.out⟩,⟨by (try simp only [hl408000_69]);(try simp only [hl408002_69]);(try simp only [hl419000_90]);(try simp only [hl419002_90]);(with_reducible repeat (first|refine blk_drewN ?_ _|refine blk_drew ?_|refine blk_alloc ?_ _));exact BK459.out⟩,⟨by repeat (first|(with_reducible first|exact HB.out|apply below_alloc|apply pw_below_drewN|apply below_drew1|refine below_set ?_ GE380.out|refine below_set ?_ GE399.out|refine below_set ?_ GE407.out|refine below_set ?_ GE418.out|refine below_set ?_ GE459.out)|exact HB.out)⟩⟩
                   case rest =>
                    clear HC106
                    (try clear c1);(try clear c2);(try clear p2);(try clear c3);(try clear c4);(try clear c5);(try clear c5b0);(try clear c5b1);(try clear c6);(try clear c7);(try clear c8);(try clear c9);(try clear c10);(try clear c10b0);(try clear c11);(try clear c12);(try clear c13);(try clear c28);(try clear c35);(try clear c36);(try clear c45);(try clear c46);(try clear c47);(try clear c52);(try clear c61);(try clear c67);(try clear c71);(try clear c72);(try clear c73);(try clear c77);(try clear c77b0);(try clear c79);(try clear c80);(try clear c81);(try clear c83);(try clear c84);(try clear c88);(try clear c92);(try clear c93);(try clear c94);(try clear c99);(try clear c99b0);(try clear c101);(try clear c101b0);(try clear c101b1);(try clear c107);(try clear c108);(try clear c109);(try clear c119);(try clear c120);(try clear c121);(try clear c122);(try clear c125);(try clear c126);(try clear c129);(try clear hcz110_0);(try clear hcz110_1);(try clear hcz110_2);(try clear hcz123_0);(try clear hcz123_1);(try clear hcz123_2);(try clear hcz127_0);(try clear hcz127_1);(try clear hcz127_2);(try clear hcz19_0);(try clear hcz19_1);(try clear hcz19_2);(try clear hcz29_0);(try clear hcz29_1);(try clear hcz29_2);(try clear hcz31_0);(try clear hcz31_1);(try clear hcz31_2);(try clear hcz37_0);(try clear hcz37_1);(try clear hcz37_2);(try clear hcz40_0);(try clear hcz40_1);(try clear hcz40_2);(try clear hcz48_0);(try clear hcz48_1);(try clear hcz48_2);(try clear hcz50_0);(try clear hcz50_1);(try clear hcz50_2);(try clear hcz74_0);(try clear hcz74_1);(try clear hcz74_2);(try clear hcz82_0);(try clear hcz82_1);(try clear hcz82_2);(try clear hcz85_0);(try clear hcz85_1);(try clear hcz85_2);(try clear hcz8_0);(try clear hcz8_1);(try clear hcz8_2);(try clear hcz95_0);(try clear hcz95_1);(try clear hcz95_2);(try clear hcz97_0);(try clear hcz97_1);(try clear hcz97_2);(try clear hfz110_0);(try clear hfz110_1);(try clear hfz110_2);(try clear hfz123_0);(try clear hfz123_1);(try clear hfz123_2);(try clear hfz127_0);(try clear hfz127_1);(try clear hfz127_2);(try clear hfz19_0);(try clear hfz19_1);(try clear hfz19_2);(try clear hfz29_0);(try clear hfz29_1);(try clear hfz29_2);(try clear hfz31_0);(try clear hfz31_1);(try clear hfz31_2);(try clear hfz37_0);(try clear hfz37_1);(try clear hfz37_2);(try clear hfz40_0);(try clear hfz40_1);(try clear hfz40_2);(try clear hfz48_0);(try clear hfz48_1);(try clear hfz48_2);(try clear hfz50_0);(try clear hfz50_1);(try clear hfz50_2);(try clear hfz74_0);(try clear hfz74_1);(try clear hfz74_2);(try clear hfz82_0);(try clear hfz82_1);(try clear hfz82_2);(try clear hfz85_0);(try clear hfz85_1);(try clear hfz85_2);(try clear hfz8_0);(try clear hfz8_1);(try clear hfz8_2);(try clear hfz95_0);(try clear hfz95_1);(try clear hfz95_2);(try clear hfz97_0);(try clear hfz97_1);(try clear hfz97_2);(try clear p2)
                    obtain ⟨kq,HA,HJ105,HO_400000,HO_400002,HO_408000,HO_408002,HO_419000,HO_419002,HO_460000,HO_460002,BK380,BK399,BK407,BK418,BK459,HB⟩:=hcut
                    cases kq with
                    | zero=>exact absurd HA.out (by simp [laws_FnExactSumAdd.j9])
                    | succ kj105 =>
                     have H:=HA.out
                     clear HA
                     simp only [laws_FnExactSumAdd.j9] at H
                     replace H:=Option.bind_eq_some_iff.mp H
                     obtain ⟨t461,A1300,H⟩:=H
                     replace H : (if t461 < 0 then (some false) else (if t461 = t438 then (some true) else (some false))) = some r:=H
                     have A130:=Aside0.mk A1300
                     clear A1300
                     by_cases c131 : t461 < 0
                     case pos =>
                      rw [if_pos c131] at H
                      have c131b0 : decide (t461 < 0) = true:=decide_eq_true c131
                      clear c131
                      obtain rfl:=Option.some.inj H
                      have hnb132:=NB418_380.out
                      have hnc132:=NB380_418.out
                      have hnb133:=NB418_399.out
                      have hnc133:=NB399_418.out
                      have hnb134:=NB418_407.out
                      have hnc134:=NB407_418.out
                      have hnb135:=NB418_459.out
                      have hnc135:=NB459_418.out
                      have hcz136_0 : wc.cell? ⟨gb418,0,none⟩ = some (.slice Ao44 t439.length co44):=(blk_cell BK418.out 0).trans rfl
                      have hcz136_1 : wc.cell? ⟨gb418,1,none⟩ = some (.int .i64 t414):=(blk_cell BK418.out 1).trans rfl
                      have hcz136_2 : wc.cell? ⟨gb418,2,none⟩ = some (.slice Ao49 t440.length co49):=(blk_cell BK418.out 2).trans rfl
                      have hfz136_0:=blk_frozen BK418.out 0
                      have hfz136_1:=blk_frozen BK418.out 1
                      have hfz136_2:=blk_frozen BK418.out 2
                      go_wp2_with (first|((with_reducible refine gate_callee (f:=13) rfl ?_);refine goesL_ (some 84) rfl rfl Try.func13 (by kernel_rfl) rfl #[.agg #[.slice Ao44 t439.length co44,.int .i64 t414,.slice Ao49 t440.length co49],.int .i64 1] rfl (by (try simp only [List.map_toArray,List.map_cons,List.map_nil]);first|done|rfl|(simp only [List.length_drop,List.length_take];rfl)) ?_;(with_reducible refine (laws_heldSum.calls kj105 _ _ t439 t414 _ _ t440 1 t461 _ ?side1 ?side2 ?side3 ?side4 A130.out).mono ?_);(case side1=>repeat (first|exact (Kd.R_reads' HO_419000.out).2.2|(with_reducible refine Kd.C_alloc ?_ _)|(with_reducible refine Kd.C_drewN ?_ _)|(with_reducible refine Kd.C_drew ?_)));(case side2=>exact (Kd.R_reads' HO_419000.out).2.1);(case side3=>repeat (first|exact (Kd.R_reads' HO_419002.out).2.2|(with_reducible refine Kd.C_alloc ?_ _)|(with_reducible refine Kd.C_drewN ?_ _)|(with_reducible refine Kd.C_drew ?_)));(case side4=>exact (Kd.R_reads' HO_419002.out).2.1);rintro e w137 ⟨rfl,hb⟩;refine ⟨_,rfl,?_⟩;have n0_:=Aside0.mk (Kd.R_below (by (with_reducible repeat (first|apply Kd.R_alloc|apply Kd.R_drewN|apply Kd.R_drew));exact HO_400000.out) hb);have n1_:=Aside0.mk (Kd.R_below (by (with_reducible repeat (first|apply Kd.R_alloc|apply Kd.R_drewN|apply Kd.R_drew));exact HO_400002.out) hb);have n2_:=Aside0.mk (Kd.R_below (by (with_reducible repeat (first|apply Kd.R_alloc|apply Kd.R_drewN|apply Kd.R_drew));exact HO_408000.out) hb);have n3_:=Aside0.mk (Kd.R_below (by (with_reducible repeat (first|apply Kd.R_alloc|apply Kd.R_drewN|apply Kd.R_drew));exact HO_408002.out) hb);have n4_:=Aside0.mk (Kd.R_below (by (with_reducible repeat (first|apply Kd.R_alloc|apply Kd.R_drewN|apply Kd.R_drew));exact HO_419000.out) hb);have n5_:=Aside0.mk (Kd.R_below (by (with_reducible repeat (first|apply Kd.R_alloc|apply Kd.R_drewN|apply Kd.R_drew));exact HO_419002.out) hb);have n6_:=Aside0.mk (Kd.R_below (by (with_reducible repeat (first|apply Kd.R_alloc|apply Kd.R_drewN|apply Kd.R_drew));exact HO_460000.out) hb);have n7_:=Aside0.mk (Kd.R_below (by (with_reducible repeat (first|apply Kd.R_alloc|apply Kd.R_drewN|apply Kd.R_drew));exact HO_460002.out) hb);have n8_:=Aside0.mk (blk_below (g:=gb380) (o:=.cells #[.slice A0_0 l0_0.length c0_0,.int .i64 a0_1,.slice A0_2 l0_2.length c0_2] 25 (0,0)) (by (with_reducible repeat (first|refine blk_drewN ?_ _|refine blk_drew ?_|refine blk_alloc ?_ _));exact BK380.out) hb);have n9_:=Aside0.mk (blk_below (g:=gb399) (o:=.cells #[.slice Ao27 t392.length co27,.int .i64 t395,.slice Ao30 t396.length co30] 27 (0,0)) (by (with_reducible repeat (first|refine blk_drewN ?_ _|refine blk_drew ?_|refine blk_alloc ?_ _));exact BK399.out) hb);have n10_:=Aside0.mk (blk_below (g:=gb407) (o:=.cells #[.slice Ao34 t433.length co34,.int .i64 t403,.slice Ao38 t434.length co38] 27 (0,0)) (by (with_reducible repeat (first|refine blk_drewN ?_ _|refine blk_drew ?_|refine blk_alloc ?_ _));exact BK407.out) hb);have n11_:=Aside0.mk (blk_below (g:=gb418) (o:=.cells #[.slice Ao44 t439.length co44,.int .i64 t414,.slice Ao49 t440.length co49] 27 (0,0)) (by (with_reducible repeat (first|refine blk_drewN ?_ _|refine blk_drew ?_|refine blk_alloc ?_ _));exact BK418.out) hb);have n12_:=Aside0.mk (blk_below (g:=gb459) (o:=.cells #[.slice Ao118 t452.length co118,.int .i64 t455,.slice Ao124 t456.length co124] 27 (0,0)) (by (with_reducible repeat (first|refine blk_drewN ?_ _|refine blk_drew ?_|refine blk_alloc ?_ _));exact BK459.out) hb);have n13_:=Aside0.mk (below_step (by repeat (first|(with_reducible first|exact HB.out|apply below_alloc|apply pw_below_drewN|apply below_drew1|refine below_set ?_ GE380.out|refine below_set ?_ GE399.out|refine below_set ?_ GE407.out|refine below_set ?_ GE418.out|refine below_set ?_ GE459.out)|exact HB.out)) hb);clear HO_400000;clear HO_400002;clear HO_408000;clear HO_408002;clear HO_419000;clear HO_419002;clear HO_460000;clear HO_460002;clear BK380;clear BK399;clear BK407;clear BK418;clear BK459;clear HB;have HO_400000:=n0_;have HO_400002:=n1_;have HO_408000:=n2_;have HO_408002:=n3_;have HO_419000:=n4_;have HO_419002:=n5_;have HO_460000:=n6_;have HO_460002:=n7_;have BK380:=n8_;have BK399:=n9_;have BK407:=n10_;have BK418:=n11_;have BK459:=n12_;have HB:=n13_;clear n0_ n1_ n2_ n3_ n4_ n5_ n6_ n7_ n8_ n9_ n10_ n11_ n12_ n13_;(try clear hb);(try clear hb2);(try clear hk);(try clear hi)))
                      go_ret
                      exact ⟨by first|rfl|(simp [errW_none,errW_some]<;>rfl)|(simp [*,errW_none,errW_some]<;>rfl),by repeat (first|(with_reducible first|exact HB.out|apply below_alloc|apply pw_below_drewN|apply below_drew1|refine below_set ?_ GE380.out|refine below_set ?_ GE399.out|refine below_set ?_ GE407.out|refine below_set ?_ GE418.out|refine below_set ?_ GE459.out)|exact HB.out)⟩
                     rw [if_neg c131] at H
                     have c131b0 : decide (t461 < 0) = false:=decide_eq_false c131
                     clear c131
                     by_cases c138 : t461 = t438
                     case neg =>
                      rw [if_neg c138] at H
                      have c138b0 : (t461 == t438) = false:=beq_eq_false_iff_ne.mpr c138
                      have c138b1 : (t461 != t438) = true:=bne_iff_ne.mpr c138
                      obtain rfl:=Option.some.inj H
                      have hnb145:=NB418_380.out
                      have hnc145:=NB380_418.out
                      have hnb146:=NB418_399.out
                      have hnc146:=NB399_418.out
                      have hnb147:=NB418_407.out
                      have hnc147:=NB407_418.out
                      have hnb148:=NB418_459.out
                      have hnc148:=NB459_418.out
                      have hcz149_0 : wc.cell? ⟨gb418,0,none⟩ = some (.slice Ao44 t439.length co44):=(blk_cell BK418.out 0).trans rfl
                      have hcz149_1 : wc.cell? ⟨gb418,1,none⟩ = some (.int .i64 t414):=(blk_cell BK418.out 1).trans rfl
                      have hcz149_2 : wc.cell? ⟨gb418,2,none⟩ = some (.slice Ao49 t440.length co49):=(blk_cell BK418.out 2).trans rfl
                      have hfz149_0:=blk_frozen BK418.out 0
                      have hfz149_1:=blk_frozen BK418.out 1
                      have hfz149_2:=blk_frozen BK418.out 2
                      go_wp2_with (first|((with_reducible refine gate_callee (f:=13) rfl ?_);refine goesL_ (some 84) rfl rfl Try.func13 (by kernel_rfl) rfl #[.agg #[.slice Ao44 t439.length co44,.int .i64 t414,.slice Ao49 t440.length co49],.int .i64 1] rfl (by (try simp only [List.map_toArray,List.map_cons,List.map_nil]);first|done|rfl|(simp only [List.length_drop,List.length_take];rfl)) ?_;(with_reducible refine (laws_heldSum.calls kj105 _ _ t439 t414 _ _ t440 1 t461 _ ?side1 ?side2 ?side3 ?side4 A130.out).mono ?_);(case side1=>repeat (first|exact (Kd.R_reads' HO_419000.out).2.2|(with_reducible refine Kd.C_alloc ?_ _)|(with_reducible refine Kd.C_drewN ?_ _)|(with_reducible refine Kd.C_drew ?_)));(case side2=>exact (Kd.R_reads' HO_419000.out).2.1);(case side3=>repeat (first|exact (Kd.R_reads' HO_419002.out).2.2|(with_reducible refine Kd.C_alloc ?_ _)|(with_reducible refine Kd.C_drewN ?_ _)|(with_reducible refine Kd.C_drew ?_)));(case side4=>exact (Kd.R_reads' HO_419002.out).2.1);rintro e w150 ⟨rfl,hb⟩;refine ⟨_,rfl,?_⟩;have n0_:=Aside0.mk (Kd.R_below (by (with_reducible repeat (first|apply Kd.R_alloc|apply Kd.R_drewN|apply Kd.R_drew));exact HO_400000.out) hb);have n1_:=Aside0.mk (Kd.R_below (by (with_reducible repeat (first|apply Kd.R_alloc|apply Kd.R_drewN|apply Kd.R_drew));exact HO_400002.out) hb);have n2_:=Aside0.mk (Kd.R_below (by (with_reducible repeat (first|apply Kd.R_alloc|apply Kd.R_drewN|apply Kd.R_drew));exact HO_408000.out) hb);have n3_:=Aside0.mk (Kd.R_below (by (with_reducible repeat (first|apply Kd.R_alloc|apply Kd.R_drewN|apply Kd.R_drew));exact HO_408002.out) hb);have n4_:=Aside0.mk (Kd.R_below (by (with_reducible repeat (first|apply Kd.R_alloc|apply Kd.R_drewN|apply Kd.R_drew));exact HO_419000.out) hb);have n5_:=Aside0.mk (Kd.R_below (by (with_reducible repeat (first|apply Kd.R_alloc|apply Kd.R_drewN|apply Kd.R_drew));exact HO_419002.out) hb);have n6_:=Aside0.mk (Kd.R_below (by (with_reducible repeat (first|apply Kd.R_alloc|apply Kd.R_drewN|apply Kd.R_drew));exact HO_460000.out) hb);have n7_:=Aside0.mk (Kd.R_below (by (with_reducible repeat (first|apply Kd.R_alloc|apply Kd.R_drewN|apply Kd.R_drew));exact HO_460002.out) hb);have n8_:=Aside0.mk (blk_below (g:=gb380) (o:=.cells #[.slice A0_0 l0_0.length c0_0,.int .i64 a0_1,.slice A0_2 l0_2.length c0_2] 25 (0,0)) (by (with_reducible repeat (first|refine blk_drewN ?_ _|refine blk_drew ?_|refine blk_alloc ?_ _));exact BK380.out) hb);have n9_:=Aside0.mk (blk_below (g:=gb399) (o:=.cells #[.slice Ao27 t392.length co27,.int .i64 t395,.slice Ao30 t396.length co30] 27 (0,0)) (by (with_reducible repeat (first|refine blk_drewN ?_ _|refine blk_drew ?_|refine blk_alloc ?_ _));exact BK399.out) hb);have n10_:=Aside0.mk (blk_below (g:=gb407) (o:=.cells #[.slice Ao34 t433.length co34,.int .i64 t403,.slice Ao38 t434.length co38] 27 (0,0)) (by (with_reducible repeat (first|refine blk_drewN ?_ _|refine blk_drew ?_|refine blk_alloc ?_ _));exact BK407.out) hb);have n11_:=Aside0.mk (blk_below (g:=gb418) (o:=.cells #[.slice Ao44 t439.length co44,.int .i64 t414,.slice Ao49 t440.length co49] 27 (0,0)) (by (with_reducible repeat (first|refine blk_drewN ?_ _|refine blk_drew ?_|refine blk_alloc ?_ _));exact BK418.out) hb);have n12_:=Aside0.mk (blk_below (g:=gb459) (o:=.cells #[.slice Ao118 t452.length co118,.int .i64 t455,.slice Ao124 t456.length co124] 27 (0,0)) (by (with_reducible repeat (first|refine blk_drewN ?_ _|refine blk_drew ?_|refine blk_alloc ?_ _));exact BK459.out) hb);have n13_:=Aside0.mk (below_step (by repeat (first|(with_reducible first|exact HB.out|apply below_alloc|apply pw_below_drewN|apply below_drew1|refine below_set ?_ GE380.out|refine below_set ?_ GE399.out|refine below_set ?_ GE407.out|refine below_set ?_ GE418.out|refine below_set ?_ GE459.out)|exact HB.out)) hb);clear HO_400000;clear HO_400002;clear HO_408000;clear HO_408002;clear HO_419000;clear HO_419002;clear HO_460000;clear HO_460002;clear BK380;clear BK399;clear BK407;clear BK418;clear BK459;clear HB;have HO_400000:=n0_;have HO_400002:=n1_;have HO_408000:=n2_;have HO_408002:=n3_;have HO_419000:=n4_;have HO_419002:=n5_;have HO_460000:=n6_;have HO_460002:=n7_;have BK380:=n8_;have BK399:=n9_;have BK407:=n10_;have BK418:=n11_;have BK459:=n12_;have HB:=n13_;clear n0_ n1_ n2_ n3_ n4_ n5_ n6_ n7_ n8_ n9_ n10_ n11_ n12_ n13_;(try clear hb);(try clear hb2);(try clear hk);(try clear hi)))
                      go_ret
                      exact ⟨by first|rfl|(simp [errW_none,errW_some]<;>rfl)|(simp [*,errW_none,errW_some]<;>rfl),by repeat (first|(with_reducible first|exact HB.out|apply below_alloc|apply pw_below_drewN|apply below_drew1|refine below_set ?_ GE380.out|refine below_set ?_ GE399.out|refine below_set ?_ GE407.out|refine below_set ?_ GE418.out|refine below_set ?_ GE459.out)|exact HB.out)⟩
                     rw [if_pos c138] at H
                     have c138b0 : (t461 == t438) = true:=beq_iff_eq.mpr c138
                     have c138b1 : (t461 != t438) = false:=bne_eq_false_iff_eq.mpr c138
                     clear c138
                     obtain rfl:=Option.some.inj H
                     have hnb139:=NB418_380.out
                     have hnc139:=NB380_418.out
                     have hnb140:=NB418_399.out
                     have hnc140:=NB399_418.out
                     have hnb141:=NB418_407.out
                     have hnc141:=NB407_418.out
                     have hnb142:=NB418_459.out
                     have hnc142:=NB459_418.out
                     have hcz143_0 : wc.cell? ⟨gb418,0,none⟩ = some (.slice Ao44 t439.length co44):=(blk_cell BK418.out 0).trans rfl
                     have hcz143_1 : wc.cell? ⟨gb418,1,none⟩ = some (.int .i64 t414):=(blk_cell BK418.out 1).trans rfl
                     have hcz143_2 : wc.cell? ⟨gb418,2,none⟩ = some (.slice Ao49 t440.length co49):=(blk_cell BK418.out 2).trans rfl
                     have hfz143_0:=blk_frozen BK418.out 0
                     have hfz143_1:=blk_frozen BK418.out 1
                     have hfz143_2:=blk_frozen BK418.out 2
                     go_wp2_with (first|((with_reducible refine gate_callee (f:=13) rfl ?_);refine goesL_ (some 84) rfl rfl Try.func13 (by kernel_rfl) rfl #[.agg #[.slice Ao44 t439.length co44,.int .i64 t414,.slice Ao49 t440.length co49],.int .i64 1] rfl (by (try simp only [List.map_toArray,List.map_cons,List.map_nil]);first|done|rfl|(simp only [List.length_drop,List.length_take];rfl)) ?_;(with_reducible refine (laws_heldSum.calls kj105 _ _ t439 t414 _ _ t440 1 t461 _ ?side1 ?side2 ?side3 ?side4 A130.out).mono ?_);(case side1=>repeat (first|exact (Kd.R_reads' HO_419000.out).2.2|(with_reducible refine Kd.C_alloc ?_ _)|(with_reducible refine Kd.C_drewN ?_ _)|(with_reducible refine Kd.C_drew ?_)));(case side2=>exact (Kd.R_reads' HO_419000.out).2.1);(case side3=>repeat (first|exact (Kd.R_reads' HO_419002.out).2.2|(with_reducible refine Kd.C_alloc ?_ _)|(with_reducible refine Kd.C_drewN ?_ _)|(with_reducible refine Kd.C_drew ?_)));(case side4=>exact (Kd.R_reads' HO_419002.out).2.1);rintro e w144 ⟨rfl,hb⟩;refine ⟨_,rfl,?_⟩;have n0_:=Aside0.mk (Kd.R_below (by (with_reducible repeat (first|apply Kd.R_alloc|apply Kd.R_drewN|apply Kd.R_drew));exact HO_400000.out) hb);have n1_:=Aside0.mk (Kd.R_below (by (with_reducible repeat (first|apply Kd.R_alloc|apply Kd.R_drewN|apply Kd.R_drew));exact HO_400002.out) hb);have n2_:=Aside0.mk (Kd.R_below (by (with_reducible repeat (first|apply Kd.R_alloc|apply Kd.R_drewN|apply Kd.R_drew));exact HO_408000.out) hb);have n3_:=Aside0.mk (Kd.R_below (by (with_reducible repeat (first|apply Kd.R_alloc|apply Kd.R_drewN|apply Kd.R_drew));exact HO_408002.out) hb);have n4_:=Aside0.mk (Kd.R_below (by (with_reducible repeat (first|apply Kd.R_alloc|apply Kd.R_drewN|apply Kd.R_drew));exact HO_419000.out) hb);have n5_:=Aside0.mk (Kd.R_below (by (with_reducible repeat (first|apply Kd.R_alloc|apply Kd.R_drewN|apply Kd.R_drew));exact HO_419002.out) hb);have n6_:=Aside0.mk (Kd.R_below (by (with_reducible repeat (first|apply Kd.R_alloc|apply Kd.R_drewN|apply Kd.R_drew));exact HO_460000.out) hb);have n7_:=Aside0.mk (Kd.R_below (by (with_reducible repeat (first|apply Kd.R_alloc|apply Kd.R_drewN|apply Kd.R_drew));exact HO_460002.out) hb);have n8_:=Aside0.mk (blk_below (g:=gb380) (o:=.cells #[.slice A0_0 l0_0.length c0_0,.int .i64 a0_1,.slice A0_2 l0_2.length c0_2] 25 (0,0)) (by (with_reducible repeat (first|refine blk_drewN ?_ _|refine blk_drew ?_|refine blk_alloc ?_ _));exact BK380.out) hb);have n9_:=Aside0.mk (blk_below (g:=gb399) (o:=.cells #[.slice Ao27 t392.length co27,.int .i64 t395,.slice Ao30 t396.length co30] 27 (0,0)) (by (with_reducible repeat (first|refine blk_drewN ?_ _|refine blk_drew ?_|refine blk_alloc ?_ _));exact BK399.out) hb);have n10_:=Aside0.mk (blk_below (g:=gb407) (o:=.cells #[.slice Ao34 t433.length co34,.int .i64 t403,.slice Ao38 t434.length co38] 27 (0,0)) (by (with_reducible repeat (first|refine blk_drewN ?_ _|refine blk_drew ?_|refine blk_alloc ?_ _));exact BK407.out) hb);have n11_:=Aside0.mk (blk_below (g:=gb418) (o:=.cells #[.slice Ao44 t439.length co44,.int .i64 t414,.slice Ao49 t440.length co49] 27 (0,0)) (by (with_reducible repeat (first|refine blk_drewN ?_ _|refine blk_drew ?_|refine blk_alloc ?_ _));exact BK418.out) hb);have n12_:=Aside0.mk (blk_below (g:=gb459) (o:=.cells #[.slice Ao118 t452.length co118,.int .i64 t455,.slice Ao124 t456.length co124] 27 (0,0)) (by (with_reducible repeat (first|refine blk_drewN ?_ _|refine blk_drew ?_|refine blk_alloc ?_ _));exact BK459.out) hb);have n13_:=Aside0.mk (below_step (by repeat (first|(with_reducible first|exact HB.out|apply below_alloc|apply pw_below_drewN|apply below_drew1|refine below_set ?_ GE380.out|refine below_set ?_ GE399.out|refine below_set ?_ GE407.out|refine below_set ?_ GE418.out|refine below_set ?_ GE459.out)|exact HB.out)) hb);clear HO_400000;clear HO_400002;clear HO_408000;clear HO_408002;clear HO_419000;clear HO_419002;clear HO_460000;clear HO_460002;clear BK380;clear BK399;clear BK407;clear BK418;clear BK459;clear HB;have HO_400000:=n0_;have HO_400002:=n1_;have HO_408000:=n2_;have HO_408002:=n3_;have HO_419000:=n4_;have HO_419002:=n5_;have HO_460000:=n6_;have HO_460002:=n7_;have BK380:=n8_;have BK399:=n9_;have BK407:=n10_;have BK418:=n11_;have BK459:=n12_;have HB:=n13_;clear n0_ n1_ n2_ n3_ n4_ n5_ n6_ n7_ n8_ n9_ n10_ n11_ n12_ n13_;(try clear hb);(try clear hb2);(try clear hk);(try clear hi)))
                     go_ret
                     exact ⟨by first|rfl|(simp [errW_none,errW_some]<;>rfl)|(simp [*,errW_none,errW_some]<;>rfl),by repeat (first|(with_reducible first|exact HB.out|apply below_alloc|apply pw_below_drewN|apply below_drew1|refine below_set ?_ GE380.out|refine below_set ?_ GE399.out|refine below_set ?_ GE407.out|refine below_set ?_ GE418.out|refine below_set ?_ GE459.out)|exact HB.out)⟩

end Go.Proofs.Ytboefincoghbbag.QFnExactSumAdd
