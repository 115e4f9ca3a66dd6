/- Plain functions with the same answers as the program's, and the proofs that they are. Printed by a program of this session (wip/myprint.py) out of Lean's print of the loaded program. Conditions: those in each theorem's head. -/
import Derived.Test.YtpkfmjdmfphbaagQFnExactMacx0
import Derived.Test.YtpkfmjdmfphbaagQFnExactMacx1
namespace Go.Proofs.Ytpkfmjdmfphbaag.QFnExactMac
open Go.RowKit Go.Proofs.Ytpkfmjdmfphbaag.Given Go.Proofs.YtpkfmjdmfphbaagW.PrintWords Go.Proofs.YtpkfmjdmfphbaagW.PrintLast Go.Proofs.YtpkfmjdmfphbaagW.PrintMore
open Go.Proofs.YtpkfmjdmfphbaagW.PrintWords.Aside0 renaming mk → Z0
open Go.Proofs.YtpkfmjdmfphbaagW.PrintWords renaming pw_below_drewN → Z1, below_drew1 → Z5, below_alloc → Z6
open Go.Proofs.YtpkfmjdmfphbaagW.PrintWords.Kd renaming R_drewN → Z2, R_alloc → Z3, R_drew → Z4, R_reads' → Z7, R_elder' → Z8, at_int → Z9
open Go.Proofs.YtpkfmjdmfphbaagW.PrintLast renaming any_of → Za, i64_w → Zb, i32_w → Zc
open List renaming setIfInBounds_toArray → Zd, set_cons_zero → Ze, set_cons_succ → Zf, length_drop → Zh, length_take → Zi, map_toArray → Zj, map_cons → Zk, map_nil → Zl
open Option renaming bind_some → Zg
open Nat renaming le_refl → Zm
attribute [local go_sem] max2_int min2_int max_two min_two max_three min_three max_four min_four   -- for this text's walks alone
set_option linter.unusedVariables false
set_option linter.unusedSimpArgs false

/-! ### spec_l7Block: function 21 -/
mutual
def spec_l7Block.l0 : Nat → List Int → List Int → List Int → Int → Option (List Int)
 | 0, _, _, _, _ => none
 | k + 1, x0, x1, x5, x6 => if x6 < 64 then (if x6 < 16 then (if 0 ≤ (wrap64 (4 * x6)) then (if (wrap64 (4 * x6)) < (x1.length : Int) then (if 0 ≤ (wrap64 ((wrap64 (4 * x6)) + 1)) then (if (wrap64 ((wrap64 (4 * x6)) + 1)) < (x1.length : Int) then (if 0 ≤ (wrap64 ((wrap64 (4 * x6)) + 2)) then (if (wrap64 ((wrap64 (4 * x6)) + 2)) < (x1.length : Int) then (if 0 ≤ (wrap64 ((wrap64 (4 * x6)) + 3)) then (if (wrap64 ((wrap64 (4 * x6)) + 3)) < (x1.length : Int) then (if 0 ≤ x6 then (if x6 < (x5.length : Int) then (spec_l7Block.l0 k x0 x1 (x5.set (x6 : Int).toNat (wrap64 ((wrap64 ((wrap64 ((wrap64 ((wrap64 (rd x1 (wrap64 (4 * x6)))) * 16777216)) + (wrap64 ((wrap64 (rd x1 (wrap64 ((wrap64 (4 * x6)) + 1)))) * 65536)))) + (wrap64 ((wrap64 (rd x1 (wrap64 ((wrap64 (4 * x6)) + 2)))) * 256)))) + (wrap64 (rd x1 (wrap64 ((wrap64 (4 * x6)) + 3))))))) (wrap64 (x6 + 1))) else (none)) else (none)) else (none)) else (none)) else (none)) else (none)) else (none)) else (none)) else (none)) else (none)) else (if 0 ≤ (wrap64 (x6 - 15)) then (if (wrap64 (x6 - 15)) < (x5.length : Int) then (if 0 ≤ (wrap64 (x6 - 2)) then (if (wrap64 (x6 - 2)) < (x5.length : Int) then (if 0 ≤ (wrap64 (x6 - 16)) then (if (wrap64 (x6 - 16)) < (x5.length : Int) then ((spec_l7Rot.f (rd x5 (wrap64 (x6 - 15))) 7).bind fun t119 => ((spec_l7Rot.f (rd x5 (wrap64 (x6 - 15))) 18).bind fun t120 => (if 0 ≤ (wrap64 (x6 - 7)) then (if (wrap64 (x6 - 7)) < (x5.length : Int) then ((spec_l7Rot.f (rd x5 (wrap64 (x6 - 2))) 17).bind fun t122 => ((spec_l7Rot.f (rd x5 (wrap64 (x6 - 2))) 19).bind fun t123 => (if 0 ≤ x6 then (if x6 < (x5.length : Int) then (spec_l7Block.l0 k x0 x1 (x5.set (x6 : Int).toNat (Go.bits .and .i64 (wrap64 ((wrap64 ((wrap64 ((rd x5 (wrap64 (x6 - 16))) + (Go.bits .xor .i64 (Go.bits .xor .i64 t119 t120) ((rd x5 (wrap64 (x6 - 15))) / 8)))) + (rd x5 (wrap64 (x6 - 7))))) + (Go.bits .xor .i64 (Go.bits .xor .i64 t122 t123) ((rd x5 (wrap64 (x6 - 2))) / 1024)))) 4294967295)) (wrap64 (x6 + 1))) else (none)) else (none)))) else (none)) else (none)))) else (none)) else (none)) else (none)) else (none)) else (none)) else (none))) else ((spec_l7K.f).bind fun t125 => ((some (([] : List Int) : List Int)).bind fun y128 => (if y128.length + x0.length < 17592186044416 then (spec_l7Block.l1 k x0 x5 t125 (y128 ++ x0) 0) else (none))))
def spec_l7Block.l1 : Nat → List Int → List Int → List Int → List Int → Int → Option (List Int)
 | 0, _, _, _, _, _ => none
 | k + 1, x0, x5, x9, x10, x11 => if x11 < 64 then (if 0 < (x10.length : Int) then (if 4 < (x10.length : Int) then (if 7 < (x10.length : Int) then ((spec_l7Rot.f (rd x10 4) 6).bind fun t137 => ((spec_l7Rot.f (rd x10 4) 11).bind fun t138 => ((spec_l7Rot.f (rd x10 4) 25).bind fun t139 => (if 5 < (x10.length : Int) then (if 6 < (x10.length : Int) then (if 0 ≤ x11 then (if x11 < (x9.length : Int) then (if x11 < (x5.length : Int) then ((spec_l7Rot.f (rd x10 0) 2).bind fun t144 => ((spec_l7Rot.f (rd x10 0) 13).bind fun t145 => ((spec_l7Rot.f (rd x10 0) 22).bind fun t146 => (if 1 < (x10.length : Int) then (if 2 < (x10.length : Int) then (if 3 < (x10.length : Int) then (spec_l7Block.l1 k x0 x5 x9 (([Go.bits .and .i64 (wrap64 ((wrap64 ((wrap64 ((wrap64 ((wrap64 ((rd x10 7) + (Go.bits .xor .i64 (Go.bits .xor .i64 t137 t138) t139))) + (Go.bits .xor .i64 (Go.bits .and .i64 (rd x10 4) (rd x10 5)) (Go.bits .and .i64 (wrap64 (4294967295 - (rd x10 4))) (rd x10 6))))) + (rd x9 x11))) + (rd x5 x11))) + (wrap64 ((Go.bits .xor .i64 (Go.bits .xor .i64 t144 t145) t146) + (Go.bits .xor .i64 (Go.bits .xor .i64 (Go.bits .and .i64 (rd x10 0) (rd x10 1)) (Go.bits .and .i64 (rd x10 0) (rd x10 2))) (Go.bits .and .i64 (rd x10 1) (rd x10 2))))))) 4294967295, rd x10 0, rd x10 1, rd x10 2, Go.bits .and .i64 (wrap64 ((rd x10 3) + (wrap64 ((wrap64 ((wrap64 ((wrap64 ((rd x10 7) + (Go.bits .xor .i64 (Go.bits .xor .i64 t137 t138) t139))) + (Go.bits .xor .i64 (Go.bits .and .i64 (rd x10 4) (rd x10 5)) (Go.bits .and .i64 (wrap64 (4294967295 - (rd x10 4))) (rd x10 6))))) + (rd x9 x11))) + (rd x5 x11))))) 4294967295, rd x10 4, rd x10 5, rd x10 6] : List Int)) (wrap64 (x11 + 1))) else (none)) else (none)) else (none))))) else (none)) else (none)) else (none)) else (none)) else (none))))) else (none)) else (none)) else (none)) else (spec_l7Block.l2 k x0 x10 (([] : List Int)) 0)
def spec_l7Block.l2 : Nat → List Int → List Int → List Int → Int → Option (List Int)
 | 0, _, _, _, _ => none
 | k + 1, x0, x10, x16, x17 => if x17 < 8 then (if 0 ≤ x17 then (if x17 < (x0.length : Int) then (if x17 < (x10.length : Int) then (if x16.length < 17592186044416 then (spec_l7Block.l2 k x0 x10 (x16 ++ [Go.bits .and .i64 (wrap64 ((rd x0 x17) + (rd x10 x17))) 4294967295]) (wrap64 (x17 + 1))) else (none)) else (none)) else (none)) else (none)) else (some x16)
end
def spec_l7Block.f (k : Nat) (l0 : List Int) (l1 : List Int) : Option (List Int) := spec_l7Block.l0 k l0 l1 (List.replicate 64 0) 0
theorem spec_l7Block.mono_l : ∀ k, (∀ y0 y1 y2 y3, LeO (spec_l7Block.l0 k y0 y1 y2 y3) (spec_l7Block.l0 (k + 1) y0 y1 y2 y3)) ∧ (∀ y0 y1 y2 y3 y4, LeO (spec_l7Block.l1 k y0 y1 y2 y3 y4) (spec_l7Block.l1 (k + 1) y0 y1 y2 y3 y4)) ∧ (∀ y0 y1 y2 y3, LeO (spec_l7Block.l2 k y0 y1 y2 y3) (spec_l7Block.l2 (k + 1) y0 y1 y2 y3))
 | 0 => ⟨fun _ _ _ _ r h => by simp [spec_l7Block.l0] at h, fun _ _ _ _ _ r h => by simp [spec_l7Block.l1] at h, fun _ _ _ _ r h => by simp [spec_l7Block.l2] at h⟩
 | k + 1 => by
  obtain ⟨ih0,ih1,ih2⟩:=spec_l7Block.mono_l k
  refine ⟨?_,?_,?_⟩
  · intro y0 y1 y2 y3
    unfold spec_l7Block.l0
    repeat' first
    | (with_reducible exact ih0 _ _ _ _)
    | (with_reducible exact ih1 _ _ _ _ _)
    | (with_reducible exact ih2 _ _ _ _)
    | (with_reducible exact LeO.refl _)
    | (with_reducible exact LeO.none _)
    | (with_reducible refine LeO.ite ?_ ?_)
    | (with_reducible refine LeO.bind ?_ (fun _=>?_))
    | exact ih0 _ _ _ _
    | exact ih1 _ _ _ _ _
    | exact ih2 _ _ _ _
    | exact LeO.none _
    | refine LeO.ite ?_ ?_
    | refine LeO.bind ?_ (fun _=>?_)
  · intro y0 y1 y2 y3 y4
    unfold spec_l7Block.l1
    repeat' first
    | (with_reducible exact ih0 _ _ _ _)
    | (with_reducible exact ih1 _ _ _ _ _)
    | (with_reducible exact ih2 _ _ _ _)
    | (with_reducible exact LeO.refl _)
    | (with_reducible exact LeO.none _)
    | (with_reducible refine LeO.ite ?_ ?_)
    | (with_reducible refine LeO.bind ?_ (fun _=>?_))
    | exact ih0 _ _ _ _
    | exact ih1 _ _ _ _ _
    | exact ih2 _ _ _ _
    | exact LeO.none _
    | refine LeO.ite ?_ ?_
    | refine LeO.bind ?_ (fun _=>?_)
  · intro y0 y1 y2 y3
    unfold spec_l7Block.l2
    repeat' first
    | (with_reducible exact ih0 _ _ _ _)
    | (with_reducible exact ih1 _ _ _ _ _)
    | (with_reducible exact ih2 _ _ _ _)
    | (with_reducible exact LeO.refl _)
    | (with_reducible exact LeO.none _)
    | (with_reducible refine LeO.ite ?_ ?_)
    | (with_reducible refine LeO.bind ?_ (fun _=>?_))
    | exact ih0 _ _ _ _
    | exact ih1 _ _ _ _ _
    | exact ih2 _ _ _ _
    | exact LeO.none _
    | refine LeO.ite ?_ ?_
    | refine LeO.bind ?_ (fun _=>?_)
theorem spec_l7Block.mono : ∀ a0 a1 k, LeO (spec_l7Block.f k a0 a1) (spec_l7Block.f (k + 1) a0 a1) := by
 intro a0 a1 k
 obtain ⟨ih0,ih1,ih2⟩:=spec_l7Block.mono_l k
 unfold spec_l7Block.f
 repeat' first
  | (with_reducible exact ih0 _ _ _ _)
  | (with_reducible exact ih1 _ _ _ _ _)
  | (with_reducible exact ih2 _ _ _ _)
  | (with_reducible exact LeO.refl _)
  | (with_reducible exact LeO.none _)
  | (with_reducible refine LeO.ite ?_ ?_)
  | (with_reducible refine LeO.bind ?_ (fun _=>?_))
  | exact ih0 _ _ _ _
  | exact ih1 _ _ _ _ _
  | exact ih2 _ _ _ _
  | exact LeO.none _
  | refine LeO.ite ?_ ?_
  | refine LeO.bind ?_ (fun _=>?_)
def spec_l7Block.T6 : Bool × List (List Nat × List Nat) := (true, [([], []), ([], []), ([], []), ([], []), ([3], [3]), ([2, 4], [2, 4]), ([5], [5]), ([6], [6]), ([7], [7]), ([], []), ([], []), ([10], [10]), ([11], [11]), ([9, 12], [9, 12]), ([13], [13]), ([14], [14]), ([15], [15]), ([8, 16], [8, 16]), ([], []), ([], []), ([19], [19]), ([20], [20]), ([18, 21], [18, 21]), ([22], [22]), ([23], [23]), ([24], [24]), ([17, 25], [17, 25]), ([], []), ([], []), ([28], [28]), ([29], [29]), ([27, 30], [27, 30]), ([31], [31]), ([32], [32]), ([26, 33], [26, 33]), ([0, 1, 0, 1, 2, 3, 4, 5, 6, 7, 8, 9, 10, 11, 12, 13, 14, 15, 16, 17, 18, 19, 20, 21, 22, 23, 24, 25, 26, 27, 28, 29, 30, 31, 32, 33, 34], [0, 1]), ([35, 34, 0, 1, 2, 3, 4, 5, 6, 7, 8, 9, 10, 11, 12, 13, 14, 15, 16, 17, 18, 19, 20, 21, 22, 23, 24, 25, 26, 27, 28, 29, 30, 31, 32, 33, 34], [34, 35])])
def spec_l7Block.B6 : List Nat := [0, 0, 0, 0, 8, 28, 60, 124, 252, 0, 0, 1024, 3072, 7680, 15872, 32256, 65024, 131068, 0, 0, 524288, 1572864, 3932160, 8126464, 16515072, 33292288, 67108860, 0, 0, 268435456, 805306368, 2013265920, 4160749568, 8455716864, 17179869180, 34359738367, 68719476735]
theorem spec_l7Block.tab6 : rtab .any (opsOf Try.f21 6) = spec_l7Block.T6 := by kernel_rfl
theorem spec_l7Block.bits6 : waitsOk spec_l7Block.T6.2 spec_l7Block.B6 = true := by kernel_rfl
def spec_l7Block.T9 : Bool × List (List Nat × List Nat) := (true, [([], []), ([], []), ([], []), ([], []), ([3], [3]), ([2, 4], [2, 4]), ([5], [5]), ([], []), ([7], [7]), ([], []), ([9, 8], [9]), ([8, 10], [8, 10]), ([], []), ([12], [12]), ([11, 13], [11, 13]), ([6, 14], [6, 14]), ([], []), ([], []), ([17], [17]), ([16, 18], [16, 18]), ([19], [19]), ([15, 20], [15, 20]), ([], []), ([22, 10], [22]), ([], []), ([24, 23], [24]), ([23, 25], [23, 25]), ([], []), ([27], [27]), ([26, 28], [26, 28]), ([21, 29], [21, 29]), ([30], [30]), ([0, 1, 0, 1, 2, 3, 4, 5, 6, 7, 8, 9, 10, 11, 12, 13, 14, 15, 16, 17, 18, 19, 20, 21, 22, 23, 24, 25, 26, 27, 28, 29, 30, 31], [0, 1]), ([32, 31, 25, 0, 1, 2, 3, 4, 5, 6, 7, 8, 9, 10, 11, 12, 13, 14, 15, 16, 17, 18, 19, 20, 21, 22, 23, 24, 25, 26, 27, 28, 29, 30, 31], [31, 32])])
def spec_l7Block.B9 : List Nat := [0, 0, 0, 0, 8, 28, 60, 0, 128, 0, 896, 1920, 0, 4096, 16256, 32764, 0, 0, 131072, 458752, 983040, 2097148, 0, 4196224, 0, 29362048, 62916480, 0, 134217728, 532678528, 1073741820, 2147483644, 4294967295, 8589934591]
theorem spec_l7Block.tab9 : rtab .any (opsOf Try.f21 9) = spec_l7Block.T9 := by kernel_rfl
theorem spec_l7Block.bits9 : waitsOk spec_l7Block.T9.2 spec_l7Block.B9 = true := by kernel_rfl
def spec_l7Block.T17 : Bool × List (List Nat × List Nat) := (true, [([], []), ([0], [0]), ([1], [1]), ([], []), ([3], [3]), ([], []), ([5, 4], [5]), ([4, 6], [4, 6]), ([], []), ([8, 6], [8]), ([7, 9], [7, 9]), ([2, 10], [2, 10]), ([], []), ([], []), ([13], [13]), ([14], [14]), ([12, 15], [12, 15]), ([], []), ([17], [17]), ([], []), ([19], [19]), ([20], [20]), ([18, 21], [18, 21]), ([16, 22], [16, 22]), ([11, 23], [11, 23]), ([], []), ([], []), ([25, 26], [25, 26]), ([27], [27]), ([24, 28], [24, 28]), ([], []), ([], []), ([30, 31], [30, 31]), ([32], [32]), ([29, 33], [29, 33]), ([34, 9, 0, 1, 2, 3, 4, 5, 6, 7, 8, 9, 10, 11, 12, 13, 14, 15, 16, 17, 18, 19, 20, 21, 22, 23, 24, 25, 26, 27, 28, 29, 30, 31, 32, 33, 34], [34])])
def spec_l7Block.B17 : List Nat := [0, 1, 3, 0, 8, 0, 56, 120, 0, 376, 1016, 2047, 0, 0, 8192, 24576, 61440, 0, 131072, 0, 524288, 1572864, 4063232, 8384512, 16777215, 0, 0, 100663296, 234881024, 536870911, 0, 0, 3221225472, 7516192768, 17179869183, 34359738367]
theorem spec_l7Block.tab17 : rtab .any (opsOf Try.f21 17) = spec_l7Block.T17 := by kernel_rfl
theorem spec_l7Block.bits17 : waitsOk spec_l7Block.T17.2 spec_l7Block.B17 = true := by kernel_rfl
def spec_l7Block.T18 : Bool × List (List Nat × List Nat) := (true, [([], []), ([0], [0]), ([], []), ([2, 1], [2]), ([1, 3], [1, 3]), ([], []), ([5, 3], [5]), ([4, 6], [4, 6]), ([], []), ([], []), ([9], [9]), ([10], [10]), ([8, 11], [8, 11]), ([], []), ([], []), ([14], [14]), ([15], [15]), ([13, 16], [13, 16]), ([12, 17], [12, 17]), ([], []), ([19], [19]), ([20], [20]), ([], []), ([22], [22]), ([23], [23]), ([21, 24], [21, 24]), ([18, 25], [18, 25]), ([7, 26], [7, 26]), ([27, 6, 0, 1, 2, 3, 4, 5, 6, 7, 8, 9, 10, 11, 12, 13, 14, 15, 16, 17, 18, 19, 20, 21, 22, 23, 24, 25, 26, 27], [27])])
def spec_l7Block.B18 : List Nat := [0, 1, 0, 7, 15, 0, 47, 127, 0, 0, 512, 1536, 3840, 0, 0, 16384, 49152, 122880, 261888, 0, 524288, 1572864, 0, 4194304, 12582912, 33030144, 67108608, 134217727, 268435455]
theorem spec_l7Block.tab18 : rtab .any (opsOf Try.f21 18) = spec_l7Block.T18 := by kernel_rfl
theorem spec_l7Block.bits18 : waitsOk spec_l7Block.T18.2 spec_l7Block.B18 = true := by kernel_rfl
def spec_l7Block.T19 : Bool × List (List Nat × List Nat) := (true, [([], []), ([], []), ([0, 1], [0, 1]), ([2], [2]), ([], []), ([4], [4]), ([5], [5]), ([], []), ([7], [7]), ([8], [8]), ([], []), ([10], [10]), ([11], [11]), ([], []), ([13], [13]), ([14], [14]), ([], []), ([15, 16], [15, 16]), ([17], [17]), ([], []), ([19], [19]), ([20], [20]), ([], []), ([22], [22]), ([23], [23]), ([], []), ([25], [25]), ([26], [26]), ([3, 6, 9, 12, 18, 21, 24, 27], [3, 6, 9, 12, 18, 21, 24, 27]), ([28, 0, 1, 2, 3, 4, 5, 6, 7, 8, 9, 10, 11, 12, 13, 14, 15, 16, 17, 18, 19, 20, 21, 22, 23, 24, 25, 26, 27, 28], [4, 7, 10, 13, 19, 22, 25, 28])])
def spec_l7Block.B19 : List Nat := [0, 0, 3, 7, 0, 16, 48, 0, 128, 384, 0, 1024, 3072, 0, 8192, 24576, 0, 122880, 253952, 0, 524288, 1572864, 0, 4194304, 12582912, 0, 33554432, 100663296, 268435455, 536870911]
theorem spec_l7Block.tab19 : rtab .any (opsOf Try.f21 19) = spec_l7Block.T19 := by kernel_rfl
theorem spec_l7Block.bits19 : waitsOk spec_l7Block.T19.2 spec_l7Block.B19 = true := by kernel_rfl
def spec_l7Block.T24 : Bool × List (List Nat × List Nat) := (true, [([], []), ([], []), ([], []), ([1, 2], [1, 2]), ([3], [3]), ([], []), ([], []), ([5, 6], [5, 6]), ([7], [7]), ([4, 8], [4, 8]), ([9], [9]), ([10], [10]), ([0, 11], [0, 11]), ([12, 12, 0, 1, 2, 3, 4, 5, 6, 7, 8, 9, 10, 11, 12], [0, 12])])
def spec_l7Block.B24 : List Nat := [0, 0, 0, 6, 14, 0, 0, 96, 224, 510, 1022, 2046, 4095, 8191]
theorem spec_l7Block.tab24 : rtab .any (opsOf Try.f21 24) = spec_l7Block.T24 := by kernel_rfl
theorem spec_l7Block.bits24 : waitsOk spec_l7Block.T24.2 spec_l7Block.B24 = true := by kernel_rfl
set_option maxHeartbeats 8000000 in
set_option maxRecDepth 100000 in
theorem spec_l7Block.calls (k : Nat) (A0 : Option Addr) (c0 : Nat) (l0 : List Int) (A1 : Option Addr) (c1 : Nat) (l1 : List Int) (r : List Int) (w : World) (hr0 : Kd.C (Kd.int .i64) w A0 l0.length l0) (hc0 : l0.length ≤ c0) (hr1 : Kd.C (Kd.int .u8) w A1 l1.length l1) (hc1 : l1.length ≤ c1) (h : spec_l7Block.f k l0 l1 = some r) :
 Calls Try.prog 21 #[.slice A0 l0.length c0, .slice A1 l1.length c1] w fun e w' => ∃ v0_ : Value, e = .returned (v0_) ∧ Kd.R (Kd.int .i64) 3 w' w.heap.size (fun _ => True) v0_ r ∧ Below w.heap.size w w' := by
 have HR0:=Z0 hr0
 have HC0:=Z0 hc0
 clear hr0 hc0
 have HR1:=Z0 hr1
 have HC1:=Z0 hc1
 clear hr1 hc1
 have HB:=Z0 (Below.refl w.heap.size w)
 have H : (spec_l7Block.l0 k l0 l1 (List.replicate 64 0) 0) = some r:=h
 clear h
 obtain ⟨y108,hy108⟩ : ∃ y_ : List Int,y_ = (List.replicate 64 0):=⟨_,rfl⟩
 replace H : (spec_l7Block.l0 k l0 l1 y108 0) = some r:=by first|(rw [hy108];with_reducible exact H)|(have H2_:=(Zg _ _).symm.trans H;rw [hy108];with_reducible exact H2_)|(have H2_:=(Zg _ _).symm.trans H;with_reducible exact H2_)|with_reducible exact H|(rw [hy108];exact H)|exact H
 have Ny108:=Z0 hy108
 clear hy108
 have H':=Z0 H
 clear H
 go_enter Try.func21,Try.ntmps21
 go_wp2_with (first|((with_reducible refine gate_dst (N:=18) rfl ?_);refine Kd.R_make (Kd.int .i64) _ 3 rfl (N:=18) rfl 29 _ _ rfl 64 rfl rfl Try.underlying29 (.int .i64 0) 8 info3 rfl (by decide) (by omega) 0 (ok:=fun _=>True) (okp:=fun _=>True) rfl (fun _ hk=>hk) trivial (by omega) (by omega) (Below.refl _ _) (Zm _) ?_;intro v109 w3 ho4 hb hg_ hnew_;clear hg_ hnew_;(first|rw [← Ny108.out] at ho4|(simp only [Int.reduceToNat] at ho4;rw [← Ny108.out] at ho4));have n0_:=Z0 (Kd.R_lower ho4 (below_size (by repeat (first|(with_reducible first|exact HB.out|apply Z6|apply Z1|apply Z5)|exact HB.out))));have n1_:=Z0 (below_step (by repeat (first|(with_reducible first|exact HB.out|apply Z6|apply Z1|apply Z5)|exact HB.out)) hb);clear HB;have HO110:=n0_;have HB:=n1_;clear n0_ n1_;clear hb ho4))
 go_loopg [6] k (fun kq v6 w'=>∃ (x5_1 : List Int) (x6_1 : Int),v6 = .int .i64 x6_1 ∧ Aside0 (spec_l7Block.l0 kq l0 l1 x5_1 x6_1 = some r) ∧ Aside0 (kq ≤ k) ∧ Aside0 (Kd.R (Kd.int .i64) 3 w' w.heap.size (fun _=>True) v109 x5_1) ∧ Aside0 (Below w.heap.size w w'))
 case atStart=>exact ⟨(y108),(0),(by first|rfl|(simp;done)|(simp [*];done)),H',⟨Zm _⟩,⟨by (with_reducible repeat (first|apply Z3|apply Z2|apply Z4));exact HO110.out⟩,⟨by repeat (first|(with_reducible first|exact HB.out|apply Z6|apply Z1|apply Z5)|exact HB.out)⟩⟩
 case round =>
  clear H'
  (try clear c1);(try clear c2);(try clear p2)
  obtain ⟨x5_1,x6_1,rfl,HA,HK1,HO_5,HB⟩:=hrel
  cases gk with
  | zero=>exact absurd HA.out (by simp [spec_l7Block.l0])
  | succ k1 =>
   have H:=HA.out
   clear HA
   simp only [spec_l7Block.l0] at H
   by_cases c5 : x6_1 < 64
   case pos =>
    rw [if_pos c5] at H
    have c5b0 : decide (x6_1 < 64) = true:=decide_eq_true c5
    clear c5
    by_cases c6 : x6_1 < 16
    case pos =>
     rw [if_pos c6] at H
     have c6b0 : decide (x6_1 < 16) = true:=decide_eq_true c6
     clear c6
     obtain ⟨ji7,hji7⟩ : ∃ j_ : Int,(wrap64 (4 * x6_1)) = j_:=⟨_,rfl⟩
     replace H : (if 0 ≤ (ji7) then (if (ji7) < (l1.length : Int) then (if 0 ≤ (wrap64 ((ji7) + 1)) then (if (wrap64 ((ji7) + 1)) < (l1.length : Int) then (if 0 ≤ (wrap64 ((ji7) + 2)) then (if (wrap64 ((ji7) + 2)) < (l1.length : Int) then (if 0 ≤ (wrap64 ((ji7) + 3)) then (if (wrap64 ((ji7) + 3)) < (l1.length : Int) then (if 0 ≤ x6_1 then (if x6_1 < (x5_1.length : Int) then (spec_l7Block.l0 k1 l0 l1 (x5_1.set (x6_1 : Int).toNat (wrap64 ((wrap64 ((wrap64 ((wrap64 ((wrap64 (rd l1 (ji7))) * 16777216)) + (wrap64 ((wrap64 (rd l1 (wrap64 ((ji7) + 1)))) * 65536)))) + (wrap64 ((wrap64 (rd l1 (wrap64 ((ji7) + 2)))) * 256)))) + (wrap64 (rd l1 (wrap64 ((ji7) + 3))))))) (wrap64 (x6_1 + 1))) else (none)) else (none)) else (none)) else (none)) else (none)) else (none)) else (none)) else (none)) else (none)) else (none)) = some r:=by first|(rw [hji7] at H;exact H)|(simp only [hji7] at H ⊢;exact H)
     have hji7w : (IntKind.i64.wrap (4 * x6_1)) = ji7:=(Zb _).trans hji7
     by_cases c8 : 0 ≤ (ji7)
     case neg =>
      rw [if_neg c8] at H
      exact absurd H (by simp)
     rw [if_pos c8] at H
     have c8b0 : decide (0 ≤ (ji7)) = true:=decide_eq_true c8
     clear c8
     by_cases c9 : (ji7) < (l1.length : Int)
     case neg =>
      rw [if_neg c9] at H
      exact absurd H (by simp)
     rw [if_pos c9] at H
     have c9b0 : decide ((ji7) < (l1.length : Int)) = true:=decide_eq_true c9
     clear c9
     obtain ⟨ji10,hji10⟩ : ∃ j_ : Int,(wrap64 ((ji7) + 1)) = j_:=⟨_,rfl⟩
     replace H : (if 0 ≤ (ji10) then (if (ji10) < (l1.length : Int) then (if 0 ≤ (wrap64 ((ji7) + 2)) then (if (wrap64 ((ji7) + 2)) < (l1.length : Int) then (if 0 ≤ (wrap64 ((ji7) + 3)) then (if (wrap64 ((ji7) + 3)) < (l1.length : Int) then (if 0 ≤ x6_1 then (if x6_1 < (x5_1.length : Int) then (spec_l7Block.l0 k1 l0 l1 (x5_1.set (x6_1 : Int).toNat (wrap64 ((wrap64 ((wrap64 ((wrap64 ((wrap64 (rd l1 (ji7))) * 16777216)) + (wrap64 ((wrap64 (rd l1 (ji10))) * 65536)))) + (wrap64 ((wrap64 (rd l1 (wrap64 ((ji7) + 2)))) * 256)))) + (wrap64 (rd l1 (wrap64 ((ji7) + 3))))))) (wrap64 (x6_1 + 1))) else (none)) else (none)) else (none)) else (none)) else (none)) else (none)) else (none)) else (none)) = some r:=by first|(rw [hji10] at H;exact H)|(simp only [hji10] at H ⊢;exact H)
     have hji10w : (IntKind.i64.wrap ((ji7) + 1)) = ji10:=(Zb _).trans hji10
     by_cases c11 : 0 ≤ (ji10)
     case neg =>
      rw [if_neg c11] at H
      exact absurd H (by simp)
     rw [if_pos c11] at H
     have c11b0 : decide (0 ≤ (ji10)) = true:=decide_eq_true c11
     clear c11
     by_cases c12 : (ji10) < (l1.length : Int)
     case neg =>
      rw [if_neg c12] at H
      exact absurd H (by simp)
     rw [if_pos c12] at H
     have c12b0 : decide ((ji10) < (l1.length : Int)) = true:=decide_eq_true c12
     clear c12
     obtain ⟨ji13,hji13⟩ : ∃ j_ : Int,(wrap64 ((ji7) + 2)) = j_:=⟨_,rfl⟩
     replace H : (if 0 ≤ (ji13) then (if (ji13) < (l1.length : Int) then (if 0 ≤ (wrap64 ((ji7) + 3)) then (if (wrap64 ((ji7) + 3)) < (l1.length : Int) then (if 0 ≤ x6_1 then (if x6_1 < (x5_1.length : Int) then (spec_l7Block.l0 k1 l0 l1 (x5_1.set (x6_1 : Int).toNat (wrap64 ((wrap64 ((wrap64 ((wrap64 ((wrap64 (rd l1 (ji7))) * 16777216)) + (wrap64 ((wrap64 (rd l1 (ji10))) * 65536)))) + (wrap64 ((wrap64 (rd l1 (ji13))) * 256)))) + (wrap64 (rd l1 (wrap64 ((ji7) + 3))))))) (wrap64 (x6_1 + 1))) else (none)) else (none)) else (none)) else (none)) else (none)) else (none)) = some r:=by first|(rw [hji13] at H;exact H)|(simp only [hji13] at H ⊢;exact H)
     have hji13w : (IntKind.i64.wrap ((ji7) + 2)) = ji13:=(Zb _).trans hji13
     by_cases c14 : 0 ≤ (ji13)
     case neg =>
      rw [if_neg c14] at H
      exact absurd H (by simp)
     rw [if_pos c14] at H
     have c14b0 : decide (0 ≤ (ji13)) = true:=decide_eq_true c14
     clear c14
     by_cases c15 : (ji13) < (l1.length : Int)
     case neg =>
      rw [if_neg c15] at H
      exact absurd H (by simp)
     rw [if_pos c15] at H
     have c15b0 : decide ((ji13) < (l1.length : Int)) = true:=decide_eq_true c15
     clear c15
     obtain ⟨ji16,hji16⟩ : ∃ j_ : Int,(wrap64 ((ji7) + 3)) = j_:=⟨_,rfl⟩
     replace H : (if 0 ≤ (ji16) then (if (ji16) < (l1.length : Int) then (if 0 ≤ x6_1 then (if x6_1 < (x5_1.length : Int) then (spec_l7Block.l0 k1 l0 l1 (x5_1.set (x6_1 : Int).toNat (wrap64 ((wrap64 ((wrap64 ((wrap64 ((wrap64 (rd l1 (ji7))) * 16777216)) + (wrap64 ((wrap64 (rd l1 (ji10))) * 65536)))) + (wrap64 ((wrap64 (rd l1 (ji13))) * 256)))) + (wrap64 (rd l1 (ji16)))))) (wrap64 (x6_1 + 1))) else (none)) else (none)) else (none)) else (none)) = some r:=by first|(rw [hji16] at H;exact H)|(simp only [hji16] at H ⊢;exact H)
     have hji16w : (IntKind.i64.wrap ((ji7) + 3)) = ji16:=(Zb _).trans hji16
     by_cases c17 : 0 ≤ (ji16)
     case neg =>
      rw [if_neg c17] at H
      exact absurd H (by simp)
     rw [if_pos c17] at H
     have c17b0 : decide (0 ≤ (ji16)) = true:=decide_eq_true c17
     clear c17
     by_cases c18 : (ji16) < (l1.length : Int)
     case neg =>
      rw [if_neg c18] at H
      exact absurd H (by simp)
     rw [if_pos c18] at H
     have c18b0 : decide ((ji16) < (l1.length : Int)) = true:=decide_eq_true c18
     clear c18
     by_cases c19 : 0 ≤ x6_1
     case neg =>
      rw [if_neg c19] at H
      exact absurd H (by simp)
     rw [if_pos c19] at H
     have c19b0 : decide (0 ≤ x6_1) = true:=decide_eq_true c19
     clear c19
     by_cases c20 : x6_1 < (x5_1.length : Int)
     case neg =>
      rw [if_neg c20] at H
      exact absurd H (by simp)
     rw [if_pos c20] at H
     have c20b0 : decide (x6_1 < (x5_1.length : Int)) = true:=decide_eq_true c20
     clear c20
     obtain ⟨y115,hy115⟩ : ∃ y_ : List Int,y_ = (x5_1.set (x6_1 : Int).toNat (wrap64 ((wrap64 ((wrap64 ((wrap64 ((wrap64 (rd l1 (ji7))) * 16777216)) + (wrap64 ((wrap64 (rd l1 (ji10))) * 65536)))) + (wrap64 ((wrap64 (rd l1 (ji13))) * 256)))) + (wrap64 (rd l1 (ji16)))))):=⟨_,rfl⟩
     replace H : (spec_l7Block.l0 k1 l0 l1 y115 (wrap64 (x6_1 + 1))) = some r:=by first|(rw [hy115];with_reducible exact H)|(have H2_:=(Zg _ _).symm.trans H;rw [hy115];with_reducible exact H2_)|(have H2_:=(Zg _ _).symm.trans H;with_reducible exact H2_)|with_reducible exact H|(rw [hy115];exact H)|exact H
     have Ny115:=Z0 hy115
     clear hy115
     have H':=Z0 H
     clear H
     try go_wp2
     have n0_:=Z0 (Z4 HO_5.out)
     have n1_:=Z0 (Z5 HB.out)
     clear HO_5
     clear HB
     have HO_5:=n0_
     have HB:=n1_
     clear n0_ n1_
     have p111 : 0 ≤ ((ji7) : Int):=of_decide_eq_true (by first|(with_reducible assumption)|assumption)
     have q111 : (ji7) < (l1.length : Int):=of_decide_eq_true (by first|(with_reducible assumption)|assumption)
     obtain ⟨ad111,e111,hx111_0⟩:=Z9 HR1.out (ji7) p111 q111
     have hw111_0:=hx111_0
     cases e111
     replace hx111_0:=(HB.out.cell (World.block_lt_of_cell? w _ hx111_0)).trans hx111_0
     replace p111:=eq_true p111
     replace q111:=eq_true q111
     have p112 : 0 ≤ ((ji10) : Int):=of_decide_eq_true (by first|(with_reducible assumption)|assumption)
     have q112 : (ji10) < (l1.length : Int):=of_decide_eq_true (by first|(with_reducible assumption)|assumption)
     obtain ⟨ad112,e112,hx112_0⟩:=Z9 HR1.out (ji10) p112 q112
     have hw112_0:=hx112_0
     obtain rfl : ad111 = ad112:=(by injection e112)
     replace hx112_0:=(HB.out.cell (World.block_lt_of_cell? w _ hx112_0)).trans hx112_0
     replace p112:=eq_true p112
     replace q112:=eq_true q112
     have p113 : 0 ≤ ((ji13) : Int):=of_decide_eq_true (by first|(with_reducible assumption)|assumption)
     have q113 : (ji13) < (l1.length : Int):=of_decide_eq_true (by first|(with_reducible assumption)|assumption)
     obtain ⟨ad113,e113,hx113_0⟩:=Z9 HR1.out (ji13) p113 q113
     have hw113_0:=hx113_0
     obtain rfl : ad111 = ad113:=(by injection e113)
     replace hx113_0:=(HB.out.cell (World.block_lt_of_cell? w _ hx113_0)).trans hx113_0
     replace p113:=eq_true p113
     replace q113:=eq_true q113
     have p114 : 0 ≤ ((ji16) : Int):=of_decide_eq_true (by first|(with_reducible assumption)|assumption)
     have q114 : (ji16) < (l1.length : Int):=of_decide_eq_true (by first|(with_reducible assumption)|assumption)
     obtain ⟨ad114,e114,hx114_0⟩:=Z9 HR1.out (ji16) p114 q114
     have hw114_0:=hx114_0
     obtain rfl : ad111 = ad114:=(by injection e114)
     replace hx114_0:=(HB.out.cell (World.block_lt_of_cell? w _ hx114_0)).trans hx114_0
     replace p114:=eq_true p114
     replace q114:=eq_true q114
     have p21 : 0 ≤ (x6_1 : Int):=of_decide_eq_true (by first|(with_reducible assumption)|assumption)
     have q21 : (x6_1 : Int) < ((x5_1.length : Int) : Int):=of_decide_eq_true (by first|(with_reducible assumption)|assumption)
     obtain ⟨go21,co21,eo21,gb21,gl21,cl21,HG21⟩:=Kd.R_form HO_5.out (by omega)
     (first|cases eo21|(injection eo21 with ea_ en_ ec_;(first|subst ea_|(injection ea_ with ea_;subst ea_));subst ec_;clear en_))
     have GB21:=Z0 gb21
     have GG21:=Z0 HG21
     clear gb21 gl21 HG21
     obtain ⟨hx21_0,hf21_0⟩:=Kd.R_celln 0 HO_5.out (x6_1 : Int) p21 q21
     replace p21:=eq_true p21
     replace q21:=eq_true q21
     have HP23:=Kd.R_putn HO_5.out (x6_1 : Int) (wrap64 ((wrap64 ((wrap64 ((wrap64 ((wrap64 (rd l1 (ji7))) * 16777216)) + (wrap64 ((wrap64 (rd l1 (ji10))) * 65536)))) + (wrap64 ((wrap64 (rd l1 (ji13))) * 256)))) + (wrap64 (rd l1 (ji16)))))
     rw [← Ny115.out] at HP23
     have HQ23:=Z0 HP23
     clear HP23
     refine start_ (n:=37) (S:=fun w'=>w'.cell? (ad111.add ((ji7)).toNat) = some (.int .u8 (rd l1 (ji7))) ∧ w'.cell? (ad111.add ((ji10)).toNat) = some (.int .u8 (rd l1 (ji10))) ∧ w'.cell? (ad111.add ((ji13)).toNat) = some (.int .u8 (rd l1 (ji13))) ∧ w'.cell? (ad111.add ((ji16)).toNat) = some (.int .u8 (rd l1 (ji16)))) (ds:=[36]) #[false,false,false,false,false,false,false,false,false,false,false,false,false,false,false,false,false,false,false,false,false,false,false,false,false,false,false,false,false,false,false,false,false,false,false,false,false] (by kernel_rfl) rfl rfl ⟨((HB.out.cell (World.block_lt_of_cell? w _ hw111_0)).trans hw111_0),((HB.out.cell (World.block_lt_of_cell? w _ hw112_0)).trans hw112_0),((HB.out.cell (World.block_lt_of_cell? w _ hw113_0)).trans hw113_0),((HB.out.cell (World.block_lt_of_cell? w _ hw114_0)).trans hw114_0)⟩ (fun hHeld=>?_);refine with_tabW spec_l7Block.tab6 spec_l7Block.bits6 (fun HT_ HW_=>?_)
     generalize wr.drew = w22 at HO_5 HB GG21 HQ23 hf21_0 hx111_0 hx112_0 hx113_0 hx114_0 hx21_0 hHeld ⊢
     refine pure_ (i:=0) (N:=some 25) (v:=?_) (a':=?_) #[true,false,false,false,false,false,false,false,false,false,false,false,false,false,false,false,false,false,false,false,false,false,false,false,false,false,false,false,false,false,false,false,false,false,false,false,false] rfl rfl (Za HT_.out (by kernel_rfl)) (fun _ _ _ h=>h) (Or.inl ⟨by rfl,?_⟩) ?_ ?_
     rotate_left
     · intro w'
       go_simp
       with_reducible rfl
     rotate_left
     · simp only [Act.put, Zd, Ze, Zf, Zb, Zc]
       rfl
     refine pure_ (i:=1) (N:=some 26) (v:=?_) (a':=?_) #[true,true,false,false,false,false,false,false,false,false,false,false,false,false,false,false,false,false,false,false,false,false,false,false,false,false,false,false,false,false,false,false,false,false,false,false,false] rfl rfl (Za HT_.out (by kernel_rfl)) (fun _ _ _ h=>h) (Or.inl ⟨by rfl,?_⟩) ?_ ?_
     rotate_left
     · intro w'
       go_simp
       with_reducible rfl
     rotate_left
     · simp only [Act.put, Zd, Ze, Zf, Zb, Zc]
       rfl
     refine pure_ (i:=2) (N:=some 27) (v:=?_) (a':=?_) #[true,true,true,false,false,false,false,false,false,false,false,false,false,false,false,false,false,false,false,false,false,false,false,false,false,false,false,false,false,false,false,false,false,false,false,false,false] rfl rfl (Za HT_.out (by kernel_rfl)) (fun _ _ _ h=>h) (Or.inl ⟨by rfl,?_⟩) ?_ ?_
     rotate_left
     · intro w'
       go_simp
       with_reducible rfl
     rotate_left
     · simp only [Act.put, Zd, Ze, Zf, Zb, Zc]
       rfl
     refine pure_ (i:=3) (N:=some 28) (v:=?_) (a':=?_) #[true,true,true,true,false,false,false,false,false,false,false,false,false,false,false,false,false,false,false,false,false,false,false,false,false,false,false,false,false,false,false,false,false,false,false,false,false] rfl rfl (Za HT_.out (by kernel_rfl)) (fun _ _ _ h=>h) (Or.inl ⟨by rfl,?_⟩) ?_ ?_
     rotate_left
     · intro w'
       go_simp
       with_reducible rfl
     rotate_left
     · simp only [Act.put, Zd, Ze, Zf, Zb, Zc]
       rfl
     refine pure_ (i:=4) (N:=some 29) (v:=?_) (a':=?_) #[true,true,true,true,true,false,false,false,false,false,false,false,false,false,false,false,false,false,false,false,false,false,false,false,false,false,false,false,false,false,false,false,false,false,false,false,false] rfl rfl (Za HT_.out (by kernel_rfl)) (fun _ _ _ h=>h) (Or.inl ⟨by rfl,?_⟩) ?_ ?_
     rotate_left
     · intro w'
       go_simp
       with_reducible rfl
     rotate_left
     · simp only [Act.put, Zd, Ze, Zf, Zb, Zc]
       rfl
     refine pure_ (i:=5) (N:=some 30) (v:=?_) (a':=?_) #[true,true,true,true,true,true,false,false,false,false,false,false,false,false,false,false,false,false,false,false,false,false,false,false,false,false,false,false,false,false,false,false,false,false,false,false,false] rfl rfl (Za HT_.out (by kernel_rfl)) (fun _ _ _ h=>h) (Or.inl ⟨by rfl,?_⟩) ?_ ?_
     rotate_left
     · intro w'
       go_simp
       with_reducible rfl
     rotate_left
     · simp only [Act.put, Zd, Ze, Zf, Zb, Zc]
       rfl
     refine pure_ (i:=9) (N:=some 34) (v:=?_) (a':=?_) #[true,true,true,true,true,true,false,false,false,true,false,false,false,false,false,false,false,false,false,false,false,false,false,false,false,false,false,false,false,false,false,false,false,false,false,false,false] rfl rfl (Za HT_.out (by kernel_rfl)) (fun _ _ _ h=>h) (Or.inl ⟨by rfl,?_⟩) ?_ ?_
     rotate_left
     · intro w'
       go_simp
       with_reducible rfl
     rotate_left
     · simp only [Act.put, Zd, Ze, Zf, Zb, Zc]
       rfl
     refine pure_ (i:=10) (N:=some 35) (v:=?_) (a':=?_) #[true,true,true,true,true,true,false,false,false,true,true,false,false,false,false,false,false,false,false,false,false,false,false,false,false,false,false,false,false,false,false,false,false,false,false,false,false] rfl rfl (Za HT_.out (by kernel_rfl)) (fun _ _ _ h=>h) (Or.inl ⟨by rfl,?_⟩) ?_ ?_
     rotate_left
     · intro w'
       go_simp
       with_reducible rfl
     rotate_left
     · simp only [Act.put, Zd, Ze, Zf, Zb, Zc]
       rfl
     refine pure_ (i:=11) (N:=some 36) (v:=?_) (a':=?_) #[true,true,true,true,true,true,false,false,false,true,true,true,false,false,false,false,false,false,false,false,false,false,false,false,false,false,false,false,false,false,false,false,false,false,false,false,false] rfl rfl (Za HT_.out (by kernel_rfl)) (fun _ _ _ h=>h) (Or.inl ⟨by rfl,?_⟩) ?_ ?_
     rotate_left
     · intro w'
       go_simp
       with_reducible rfl
     rotate_left
     · simp only [Act.put, Zd, Ze, Zf, Zb, Zc]
       rfl
     refine pure_ (i:=12) (N:=some 37) (v:=?_) (a':=?_) #[true,true,true,true,true,true,false,false,false,true,true,true,true,false,false,false,false,false,false,false,false,false,false,false,false,false,false,false,false,false,false,false,false,false,false,false,false] rfl rfl (Za HT_.out (by kernel_rfl)) (fun _ _ _ h=>h) (Or.inl ⟨by rfl,?_⟩) ?_ ?_
     rotate_left
     · intro w'
       go_simp
       with_reducible rfl
     rotate_left
     · simp only [Act.put, Zd, Ze, Zf, Zb, Zc]
       rfl
     refine pure_ (i:=13) (N:=some 38) (v:=?_) (a':=?_) #[true,true,true,true,true,true,false,false,false,true,true,true,true,true,false,false,false,false,false,false,false,false,false,false,false,false,false,false,false,false,false,false,false,false,false,false,false] rfl rfl (Za HT_.out (by kernel_rfl)) (fun _ _ _ h=>h) (Or.inl ⟨by rfl,?_⟩) ?_ ?_
     rotate_left
     · intro w'
       go_simp
       with_reducible rfl
     rotate_left
     · simp only [Act.put, Zd, Ze, Zf, Zb, Zc]
       rfl
     refine pure_ (i:=18) (N:=some 43) (v:=?_) (a':=?_) #[true,true,true,true,true,true,false,false,false,true,true,true,true,true,false,false,false,false,true,false,false,false,false,false,false,false,false,false,false,false,false,false,false,false,false,false,false] rfl rfl (Za HT_.out (by kernel_rfl)) (fun _ _ _ h=>h) (Or.inl ⟨by rfl,?_⟩) ?_ ?_
     rotate_left
     · intro w'
       go_simp
       with_reducible rfl
     rotate_left
     · simp only [Act.put, Zd, Ze, Zf, Zb, Zc]
       rfl
     refine pure_ (i:=19) (N:=some 44) (v:=?_) (a':=?_) #[true,true,true,true,true,true,false,false,false,true,true,true,true,true,false,false,false,false,true,true,false,false,false,false,false,false,false,false,false,false,false,false,false,false,false,false,false] rfl rfl (Za HT_.out (by kernel_rfl)) (fun _ _ _ h=>h) (Or.inl ⟨by rfl,?_⟩) ?_ ?_
     rotate_left
     · intro w'
       go_simp
       with_reducible rfl
     rotate_left
     · simp only [Act.put, Zd, Ze, Zf, Zb, Zc]
       rfl
     refine pure_ (i:=20) (N:=some 45) (v:=?_) (a':=?_) #[true,true,true,true,true,true,false,false,false,true,true,true,true,true,false,false,false,false,true,true,true,false,false,false,false,false,false,false,false,false,false,false,false,false,false,false,false] rfl rfl (Za HT_.out (by kernel_rfl)) (fun _ _ _ h=>h) (Or.inl ⟨by rfl,?_⟩) ?_ ?_
     rotate_left
     · intro w'
       go_simp
       with_reducible rfl
     rotate_left
     · simp only [Act.put, Zd, Ze, Zf, Zb, Zc]
       rfl
     refine pure_ (i:=21) (N:=some 46) (v:=?_) (a':=?_) #[true,true,true,true,true,true,false,false,false,true,true,true,true,true,false,false,false,false,true,true,true,true,false,false,false,false,false,false,false,false,false,false,false,false,false,false,false] rfl rfl (Za HT_.out (by kernel_rfl)) (fun _ _ _ h=>h) (Or.inl ⟨by rfl,?_⟩) ?_ ?_
     rotate_left
     · intro w'
       go_simp
       with_reducible rfl
     rotate_left
     · simp only [Act.put, Zd, Ze, Zf, Zb, Zc]
       rfl
     refine pure_ (i:=22) (N:=some 47) (v:=?_) (a':=?_) #[true,true,true,true,true,true,false,false,false,true,true,true,true,true,false,false,false,false,true,true,true,true,true,false,false,false,false,false,false,false,false,false,false,false,false,false,false] rfl rfl (Za HT_.out (by kernel_rfl)) (fun _ _ _ h=>h) (Or.inl ⟨by rfl,?_⟩) ?_ ?_
     rotate_left
     · intro w'
       go_simp
       with_reducible rfl
     rotate_left
     · simp only [Act.put, Zd, Ze, Zf, Zb, Zc]
       rfl
     refine pure_ (i:=27) (N:=some 52) (v:=?_) (a':=?_) #[true,true,true,true,true,true,false,false,false,true,true,true,true,true,false,false,false,false,true,true,true,true,true,false,false,false,false,true,false,false,false,false,false,false,false,false,false] rfl rfl (Za HT_.out (by kernel_rfl)) (fun _ _ _ h=>h) (Or.inl ⟨by rfl,?_⟩) ?_ ?_
     rotate_left
     · intro w'
       go_simp
       with_reducible rfl
     rotate_left
     · simp only [Act.put, Zd, Ze, Zf, Zb, Zc]
       rfl
     refine pure_ (i:=28) (N:=some 53) (v:=?_) (a':=?_) #[true,true,true,true,true,true,false,false,false,true,true,true,true,true,false,false,false,false,true,true,true,true,true,false,false,false,false,true,true,false,false,false,false,false,false,false,false] rfl rfl (Za HT_.out (by kernel_rfl)) (fun _ _ _ h=>h) (Or.inl ⟨by rfl,?_⟩) ?_ ?_
     rotate_left
     · intro w'
       go_simp
       with_reducible rfl
     rotate_left
     · simp only [Act.put, Zd, Ze, Zf, Zb, Zc]
       rfl
     refine pure_ (i:=29) (N:=some 54) (v:=?_) (a':=?_) #[true,true,true,true,true,true,false,false,false,true,true,true,true,true,false,false,false,false,true,true,true,true,true,false,false,false,false,true,true,true,false,false,false,false,false,false,false] rfl rfl (Za HT_.out (by kernel_rfl)) (fun _ _ _ h=>h) (Or.inl ⟨by rfl,?_⟩) ?_ ?_
     rotate_left
     · intro w'
       go_simp
       with_reducible rfl
     rotate_left
     · simp only [Act.put, Zd, Ze, Zf, Zb, Zc]
       rfl
     refine pure_ (i:=30) (N:=some 55) (v:=?_) (a':=?_) #[true,true,true,true,true,true,false,false,false,true,true,true,true,true,false,false,false,false,true,true,true,true,true,false,false,false,false,true,true,true,true,false,false,false,false,false,false] rfl rfl (Za HT_.out (by kernel_rfl)) (fun _ _ _ h=>h) (Or.inl ⟨by rfl,?_⟩) ?_ ?_
     rotate_left
     · intro w'
       go_simp
       with_reducible rfl
     rotate_left
     · simp only [Act.put, Zd, Ze, Zf, Zb, Zc]
       rfl
     refine pure_ (i:=31) (N:=some 56) (v:=?_) (a':=?_) #[true,true,true,true,true,true,false,false,false,true,true,true,true,true,false,false,false,false,true,true,true,true,true,false,false,false,false,true,true,true,true,true,false,false,false,false,false] rfl rfl (Za HT_.out (by kernel_rfl)) (fun _ _ _ h=>h) (Or.inl ⟨by rfl,?_⟩) ?_ ?_
     rotate_left
     · intro w'
       go_simp
       with_reducible rfl
     rotate_left
     · simp only [Act.put, Zd, Ze, Zf, Zb, Zc]
       rfl
     refine take_ (i:=6) (N:=some 31) (v:=?_) (a':=?_) #[true,true,true,true,true,true,true,false,false,true,true,true,true,true,false,false,false,false,true,true,true,true,true,false,false,false,false,true,true,true,true,true,false,false,false,false,false] rfl rfl (take_ofW HT_.out HW_.out (by kernel_rfl)) (fun _ _ _ h=>h) (Or.inl ⟨by rfl,?_⟩) hHeld ?_ ?_
     rotate_left
     · rintro w' ⟨s0, s1, s2, s3⟩
       go_simp
       with_reducible rfl
     rotate_left
     · simp only [Act.put, Zd, Ze, Zf, Zb, Zc]
       rfl
     refine pure_ (i:=7) (N:=some 32) (v:=?_) (a':=?_) #[true,true,true,true,true,true,true,true,false,true,true,true,true,true,false,false,false,false,true,true,true,true,true,false,false,false,false,true,true,true,true,true,false,false,false,false,false] rfl rfl (Za HT_.out (by kernel_rfl)) (fun _ _ _ h=>h) (Or.inl ⟨by rfl,?_⟩) ?_ ?_
     rotate_left
     · intro w'
       go_simp
       with_reducible rfl
     rotate_left
     · simp only [Act.put, Zd, Ze, Zf, Zb, Zc]
       rfl
     refine pure_ (i:=8) (N:=some 33) (v:=?_) (a':=?_) #[true,true,true,true,true,true,true,true,true,true,true,true,true,true,false,false,false,false,true,true,true,true,true,false,false,false,false,true,true,true,true,true,false,false,false,false,false] rfl rfl (Za HT_.out (by kernel_rfl)) (fun _ _ _ h=>h) (Or.inl ⟨by rfl,?_⟩) ?_ ?_
     rotate_left
     · intro w'
       go_simp
       with_reducible rfl
     rotate_left
     · simp only [Act.put, Zd, Ze, Zf, Zb, Zc]
       rfl
     refine take_ (i:=14) (N:=some 39) (v:=?_) (a':=?_) #[true,true,true,true,true,true,true,true,true,true,true,true,true,true,true,false,false,false,true,true,true,true,true,false,false,false,false,true,true,true,true,true,false,false,false,false,false] rfl rfl (take_ofW HT_.out HW_.out (by kernel_rfl)) (fun _ _ _ h=>h) (Or.inl ⟨by rfl,?_⟩) hHeld ?_ ?_
     rotate_left
     · rintro w' ⟨s0, s1, s2, s3⟩
       go_simp
       with_reducible rfl
     rotate_left
     · simp only [Act.put, Zd, Ze, Zf, Zb, Zc]
       rfl
     refine pure_ (i:=15) (N:=some 40) (v:=?_) (a':=?_) #[true,true,true,true,true,true,true,true,true,true,true,true,true,true,true,true,false,false,true,true,true,true,true,false,false,false,false,true,true,true,true,true,false,false,false,false,false] rfl rfl (Za HT_.out (by kernel_rfl)) (fun _ _ _ h=>h) (Or.inl ⟨by rfl,?_⟩) ?_ ?_
     rotate_left
     · intro w'
       go_simp
       with_reducible rfl
     rotate_left
     · simp only [Act.put, Zd, Ze, Zf, Zb, Zc]
       rfl
     refine pure_ (i:=16) (N:=some 41) (v:=?_) (a':=?_) #[true,true,true,true,true,true,true,true,true,true,true,true,true,true,true,true,true,false,true,true,true,true,true,false,false,false,false,true,true,true,true,true,false,false,false,false,false] rfl rfl (Za HT_.out (by kernel_rfl)) (fun _ _ _ h=>h) (Or.inl ⟨by rfl,?_⟩) ?_ ?_
     rotate_left
     · intro w'
       go_simp
       with_reducible rfl
     rotate_left
     · simp only [Act.put, Zd, Ze, Zf, Zb, Zc]
       rfl
     refine pure_ (i:=17) (N:=some 42) (v:=?_) (a':=?_) #[true,true,true,true,true,true,true,true,true,true,true,true,true,true,true,true,true,true,true,true,true,true,true,false,false,false,false,true,true,true,true,true,false,false,false,false,false] rfl rfl (Za HT_.out (by kernel_rfl)) (fun _ _ _ h=>h) (Or.inl ⟨by rfl,?_⟩) ?_ ?_
     rotate_left
     · intro w'
       go_simp
       with_reducible rfl
     rotate_left
     · simp only [Act.put, Zd, Ze, Zf, Zb, Zc]
       rfl
     refine take_ (i:=23) (N:=some 48) (v:=?_) (a':=?_) #[true,true,true,true,true,true,true,true,true,true,true,true,true,true,true,true,true,true,true,true,true,true,true,true,false,false,false,true,true,true,true,true,false,false,false,false,false] rfl rfl (take_ofW HT_.out HW_.out (by kernel_rfl)) (fun _ _ _ h=>h) (Or.inl ⟨by rfl,?_⟩) hHeld ?_ ?_
     rotate_left
     · rintro w' ⟨s0, s1, s2, s3⟩
       go_simp
       with_reducible rfl
     rotate_left
     · simp only [Act.put, Zd, Ze, Zf, Zb, Zc]
       rfl
     refine pure_ (i:=24) (N:=some 49) (v:=?_) (a':=?_) #[true,true,true,true,true,true,true,true,true,true,true,true,true,true,true,true,true,true,true,true,true,true,true,true,true,false,false,true,true,true,true,true,false,false,false,false,false] rfl rfl (Za HT_.out (by kernel_rfl)) (fun _ _ _ h=>h) (Or.inl ⟨by rfl,?_⟩) ?_ ?_
     rotate_left
     · intro w'
       go_simp
       with_reducible rfl
     rotate_left
     · simp only [Act.put, Zd, Ze, Zf, Zb, Zc]
       rfl
     refine pure_ (i:=25) (N:=some 50) (v:=?_) (a':=?_) #[true,true,true,true,true,true,true,true,true,true,true,true,true,true,true,true,true,true,true,true,true,true,true,true,true,true,false,true,true,true,true,true,false,false,false,false,false] rfl rfl (Za HT_.out (by kernel_rfl)) (fun _ _ _ h=>h) (Or.inl ⟨by rfl,?_⟩) ?_ ?_
     rotate_left
     · intro w'
       go_simp
       with_reducible rfl
     rotate_left
     · simp only [Act.put, Zd, Ze, Zf, Zb, Zc]
       rfl
     refine pure_ (i:=26) (N:=some 51) (v:=?_) (a':=?_) #[true,true,true,true,true,true,true,true,true,true,true,true,true,true,true,true,true,true,true,true,true,true,true,true,true,true,true,true,true,true,true,true,false,false,false,false,false] rfl rfl (Za HT_.out (by kernel_rfl)) (fun _ _ _ h=>h) (Or.inl ⟨by rfl,?_⟩) ?_ ?_
     rotate_left
     · intro w'
       go_simp
       with_reducible rfl
     rotate_left
     · simp only [Act.put, Zd, Ze, Zf, Zb, Zc]
       rfl
     refine take_ (i:=32) (N:=some 57) (v:=?_) (a':=?_) #[true,true,true,true,true,true,true,true,true,true,true,true,true,true,true,true,true,true,true,true,true,true,true,true,true,true,true,true,true,true,true,true,true,false,false,false,false] rfl rfl (take_ofW HT_.out HW_.out (by kernel_rfl)) (fun _ _ _ h=>h) (Or.inl ⟨by rfl,?_⟩) hHeld ?_ ?_
     rotate_left
     · rintro w' ⟨s0, s1, s2, s3⟩
       go_simp
       with_reducible rfl
     rotate_left
     · simp only [Act.put, Zd, Ze, Zf, Zb, Zc]
       rfl
     refine pure_ (i:=33) (N:=some 58) (v:=?_) (a':=?_) #[true,true,true,true,true,true,true,true,true,true,true,true,true,true,true,true,true,true,true,true,true,true,true,true,true,true,true,true,true,true,true,true,true,true,false,false,false] rfl rfl (Za HT_.out (by kernel_rfl)) (fun _ _ _ h=>h) (Or.inl ⟨by rfl,?_⟩) ?_ ?_
     rotate_left
     · intro w'
       go_simp
       with_reducible rfl
     rotate_left
     · simp only [Act.put, Zd, Ze, Zf, Zb, Zc]
       rfl
     refine pure_ (i:=34) (N:=some 59) (v:=?_) (a':=?_) #[true,true,true,true,true,true,true,true,true,true,true,true,true,true,true,true,true,true,true,true,true,true,true,true,true,true,true,true,true,true,true,true,true,true,true,false,false] rfl rfl (Za HT_.out (by kernel_rfl)) (fun _ _ _ h=>h) (Or.inl ⟨by rfl,?_⟩) ?_ ?_
     rotate_left
     · intro w'
       go_simp
       with_reducible rfl
     rotate_left
     · simp only [Act.put, Zd, Ze, Zf, Zb, Zc]
       rfl
     refine pure_ (i:=35) (N:=some 60) (v:=?_) (a':=?_) #[true,true,true,true,true,true,true,true,true,true,true,true,true,true,true,true,true,true,true,true,true,true,true,true,true,true,true,true,true,true,true,true,true,true,true,true,false] rfl rfl (Za HT_.out (by kernel_rfl)) (fun _ _ _ h=>h) (Or.inl ⟨by rfl,?_⟩) ?_ ?_
     rotate_left
     · intro w'
       go_simp
       with_reducible rfl
     rotate_left
     · simp only [Act.put, Zd, Ze, Zf, Zb, Zc]
       rfl
     refine last_ (i:=36) (N:=none) #[true,true,true,true,true,true,true,true,true,true,true,true,true,true,true,true,true,true,true,true,true,true,true,true,true,true,true,true,true,true,true,true,true,true,true,true,true] rfl rfl (one_of HT_.out (by kernel_rfl)) (by decide) (fun K hK=>?_)
     refine skip_ (w1:=?_) (by rfl) rfl ?_ ?_
     rotate_left
     · go_simp
       rfl
     refine hK.out _ _ ?_
     clear hK K
     refine done_ (done_of HT_.out (by kernel_rfl)) ?_
     try go_wp2
     go_roundg k1
     case measure=>have:=HK1.out;omega
     case rel=>exact ⟨(y115),(wrap64 (x6_1 + 1)),(by first|rfl|(simp;done)|(simp [*];done)),H',⟨by have:=HK1.out;omega⟩,⟨by (with_reducible repeat (first|apply Z3|apply Z2|apply Z4));exact HQ23.out⟩,⟨by repeat (first|(with_reducible first|exact HB.out|apply Z6|apply Z1|apply Z5|refine below_set ?_ GB21.out)|exact HB.out)⟩⟩
    rw [if_neg c6] at H
    have c6b0 : decide (x6_1 < 16) = false:=decide_eq_false c6
    clear c6
    obtain ⟨ji24,hji24⟩ : ∃ j_ : Int,(wrap64 (x6_1 - 15)) = j_:=⟨_,rfl⟩
    replace H : (if 0 ≤ (ji24) then (if (ji24) < (x5_1.length : Int) then (if 0 ≤ (wrap64 (x6_1 - 2)) then (if (wrap64 (x6_1 - 2)) < (x5_1.length : Int) then (if 0 ≤ (wrap64 (x6_1 - 16)) then (if (wrap64 (x6_1 - 16)) < (x5_1.length : Int) then ((spec_l7Rot.f (rd x5_1 (ji24)) 7).bind fun t119=>((spec_l7Rot.f (rd x5_1 (ji24)) 18).bind fun t120=>(if 0 ≤ (wrap64 (x6_1 - 7)) then (if (wrap64 (x6_1 - 7)) < (x5_1.length : Int) then ((spec_l7Rot.f (rd x5_1 (wrap64 (x6_1 - 2))) 17).bind fun t122=>((spec_l7Rot.f (rd x5_1 (wrap64 (x6_1 - 2))) 19).bind fun t123=>(if 0 ≤ x6_1 then (if x6_1 < (x5_1.length : Int) then (spec_l7Block.l0 k1 l0 l1 (x5_1.set (x6_1 : Int).toNat (Go.bits .and .i64 (wrap64 ((wrap64 ((wrap64 ((rd x5_1 (wrap64 (x6_1 - 16))) + (Go.bits .xor .i64 (Go.bits .xor .i64 t119 t120) ((rd x5_1 (ji24)) / 8)))) + (rd x5_1 (wrap64 (x6_1 - 7))))) + (Go.bits .xor .i64 (Go.bits .xor .i64 t122 t123) ((rd x5_1 (wrap64 (x6_1 - 2))) / 1024)))) 4294967295)) (wrap64 (x6_1 + 1))) else (none)) else (none)))) else (none)) else (none)))) else (none)) else (none)) else (none)) else (none)) else (none)) else (none)) = some r:=by first|(rw [hji24] at H;exact H)|(simp only [hji24] at H ⊢;exact H)
    have hji24w : (IntKind.i64.wrap (x6_1 - 15)) = ji24:=(Zb _).trans hji24
    by_cases c25 : 0 ≤ (ji24)
    case neg =>
     rw [if_neg c25] at H
     exact absurd H (by simp)
    rw [if_pos c25] at H
    have c25b0 : decide (0 ≤ (ji24)) = true:=decide_eq_true c25
    clear c25
    by_cases c26 : (ji24) < (x5_1.length : Int)
    case neg =>
     rw [if_neg c26] at H
     exact absurd H (by simp)
    rw [if_pos c26] at H
    have c26b0 : decide ((ji24) < (x5_1.length : Int)) = true:=decide_eq_true c26
    clear c26
    obtain ⟨ji27,hji27⟩ : ∃ j_ : Int,(wrap64 (x6_1 - 2)) = j_:=⟨_,rfl⟩
    replace H : (if 0 ≤ (ji27) then (if (ji27) < (x5_1.length : Int) then (if 0 ≤ (wrap64 (x6_1 - 16)) then (if (wrap64 (x6_1 - 16)) < (x5_1.length : Int) then ((spec_l7Rot.f (rd x5_1 (ji24)) 7).bind fun t119=>((spec_l7Rot.f (rd x5_1 (ji24)) 18).bind fun t120=>(if 0 ≤ (wrap64 (x6_1 - 7)) then (if (wrap64 (x6_1 - 7)) < (x5_1.length : Int) then ((spec_l7Rot.f (rd x5_1 (ji27)) 17).bind fun t122=>((spec_l7Rot.f (rd x5_1 (ji27)) 19).bind fun t123=>(if 0 ≤ x6_1 then (if x6_1 < (x5_1.length : Int) then (spec_l7Block.l0 k1 l0 l1 (x5_1.set (x6_1 : Int).toNat (Go.bits .and .i64 (wrap64 ((wrap64 ((wrap64 ((rd x5_1 (wrap64 (x6_1 - 16))) + (Go.bits .xor .i64 (Go.bits .xor .i64 t119 t120) ((rd x5_1 (ji24)) / 8)))) + (rd x5_1 (wrap64 (x6_1 - 7))))) + (Go.bits .xor .i64 (Go.bits .xor .i64 t122 t123) ((rd x5_1 (ji27)) / 1024)))) 4294967295)) (wrap64 (x6_1 + 1))) else (none)) else (none)))) else (none)) else (none)))) else (none)) else (none)) else (none)) else (none)) = some r:=by first|(rw [hji27] at H;exact H)|(simp only [hji27] at H ⊢;exact H)
    have hji27w : (IntKind.i64.wrap (x6_1 - 2)) = ji27:=(Zb _).trans hji27
    by_cases c28 : 0 ≤ (ji27)
    case neg =>
     rw [if_neg c28] at H
     exact absurd H (by simp)
    rw [if_pos c28] at H
    have c28b0 : decide (0 ≤ (ji27)) = true:=decide_eq_true c28
    clear c28
    by_cases c29 : (ji27) < (x5_1.length : Int)
    case neg =>
     rw [if_neg c29] at H
     exact absurd H (by simp)
    rw [if_pos c29] at H
    have c29b0 : decide ((ji27) < (x5_1.length : Int)) = true:=decide_eq_true c29
    clear c29
    obtain ⟨ji30,hji30⟩ : ∃ j_ : Int,(wrap64 (x6_1 - 16)) = j_:=⟨_,rfl⟩
    replace H : (if 0 ≤ (ji30) then (if (ji30) < (x5_1.length : Int) then ((spec_l7Rot.f (rd x5_1 (ji24)) 7).bind fun t119=>((spec_l7Rot.f (rd x5_1 (ji24)) 18).bind fun t120=>(if 0 ≤ (wrap64 (x6_1 - 7)) then (if (wrap64 (x6_1 - 7)) < (x5_1.length : Int) then ((spec_l7Rot.f (rd x5_1 (ji27)) 17).bind fun t122=>((spec_l7Rot.f (rd x5_1 (ji27)) 19).bind fun t123=>(if 0 ≤ x6_1 then (if x6_1 < (x5_1.length : Int) then (spec_l7Block.l0 k1 l0 l1 (x5_1.set (x6_1 : Int).toNat (Go.bits .and .i64 (wrap64 ((wrap64 ((wrap64 ((rd x5_1 (ji30)) + (Go.bits .xor .i64 (Go.bits .xor .i64 t119 t120) ((rd x5_1 (ji24)) / 8)))) + (rd x5_1 (wrap64 (x6_1 - 7))))) + (Go.bits .xor .i64 (Go.bits .xor .i64 t122 t123) ((rd x5_1 (ji27)) / 1024)))) 4294967295)) (wrap64 (x6_1 + 1))) else (none)) else (none)))) else (none)) else (none)))) else (none)) else (none)) = some r:=by first|(rw [hji30] at H;exact H)|(simp only [hji30] at H ⊢;exact H)
    have hji30w : (IntKind.i64.wrap (x6_1 - 16)) = ji30:=(Zb _).trans hji30
    by_cases c31 : 0 ≤ (ji30)
    case neg =>
     rw [if_neg c31] at H
     exact absurd H (by simp)
    rw [if_pos c31] at H
    have c31b0 : decide (0 ≤ (ji30)) = true:=decide_eq_true c31
    clear c31
    by_cases c32 : (ji30) < (x5_1.length : Int)
    case neg =>
     rw [if_neg c32] at H
     exact absurd H (by simp)
    rw [if_pos c32] at H
    have c32b0 : decide ((ji30) < (x5_1.length : Int)) = true:=decide_eq_true c32
    clear c32
    replace H:=Option.bind_eq_some_iff.mp H
    obtain ⟨t119,A330,H⟩:=H
    replace H : ((spec_l7Rot.f (rd x5_1 (ji24)) 18).bind fun t120=>(if 0 ≤ (wrap64 (x6_1 - 7)) then (if (wrap64 (x6_1 - 7)) < (x5_1.length : Int) then ((spec_l7Rot.f (rd x5_1 (ji27)) 17).bind fun t122=>((spec_l7Rot.f (rd x5_1 (ji27)) 19).bind fun t123=>(if 0 ≤ x6_1 then (if x6_1 < (x5_1.length : Int) then (spec_l7Block.l0 k1 l0 l1 (x5_1.set (x6_1 : Int).toNat (Go.bits .and .i64 (wrap64 ((wrap64 ((wrap64 ((rd x5_1 (ji30)) + (Go.bits .xor .i64 (Go.bits .xor .i64 t119 t120) ((rd x5_1 (ji24)) / 8)))) + (rd x5_1 (wrap64 (x6_1 - 7))))) + (Go.bits .xor .i64 (Go.bits .xor .i64 t122 t123) ((rd x5_1 (ji27)) / 1024)))) 4294967295)) (wrap64 (x6_1 + 1))) else (none)) else (none)))) else (none)) else (none))) = some r:=H
    have A33:=Z0 A330
    clear A330
    replace H:=Option.bind_eq_some_iff.mp H
    obtain ⟨t120,A340,H⟩:=H
    replace H : (if 0 ≤ (wrap64 (x6_1 - 7)) then (if (wrap64 (x6_1 - 7)) < (x5_1.length : Int) then ((spec_l7Rot.f (rd x5_1 (ji27)) 17).bind fun t122=>((spec_l7Rot.f (rd x5_1 (ji27)) 19).bind fun t123=>(if 0 ≤ x6_1 then (if x6_1 < (x5_1.length : Int) then (spec_l7Block.l0 k1 l0 l1 (x5_1.set (x6_1 : Int).toNat (Go.bits .and .i64 (wrap64 ((wrap64 ((wrap64 ((rd x5_1 (ji30)) + (Go.bits .xor .i64 (Go.bits .xor .i64 t119 t120) ((rd x5_1 (ji24)) / 8)))) + (rd x5_1 (wrap64 (x6_1 - 7))))) + (Go.bits .xor .i64 (Go.bits .xor .i64 t122 t123) ((rd x5_1 (ji27)) / 1024)))) 4294967295)) (wrap64 (x6_1 + 1))) else (none)) else (none)))) else (none)) else (none)) = some r:=H
    have A34:=Z0 A340
    clear A340
    obtain ⟨ji35,hji35⟩ : ∃ j_ : Int,(wrap64 (x6_1 - 7)) = j_:=⟨_,rfl⟩
    replace H : (if 0 ≤ (ji35) then (if (ji35) < (x5_1.length : Int) then ((spec_l7Rot.f (rd x5_1 (ji27)) 17).bind fun t122=>((spec_l7Rot.f (rd x5_1 (ji27)) 19).bind fun t123=>(if 0 ≤ x6_1 then (if x6_1 < (x5_1.length : Int) then (spec_l7Block.l0 k1 l0 l1 (x5_1.set (x6_1 : Int).toNat (Go.bits .and .i64 (wrap64 ((wrap64 ((wrap64 ((rd x5_1 (ji30)) + (Go.bits .xor .i64 (Go.bits .xor .i64 t119 t120) ((rd x5_1 (ji24)) / 8)))) + (rd x5_1 (ji35)))) + (Go.bits .xor .i64 (Go.bits .xor .i64 t122 t123) ((rd x5_1 (ji27)) / 1024)))) 4294967295)) (wrap64 (x6_1 + 1))) else (none)) else (none)))) else (none)) else (none)) = some r:=by first|(rw [hji35] at H;exact H)|(simp only [hji35] at H ⊢;exact H)
    (try rw [hji35] at A33)
    (try rw [hji35] at A34)
    have hji35w : (IntKind.i64.wrap (x6_1 - 7)) = ji35:=(Zb _).trans hji35
    by_cases c36 : 0 ≤ (ji35)
    case neg =>
     rw [if_neg c36] at H
     exact absurd H (by simp)
    rw [if_pos c36] at H
    have c36b0 : decide (0 ≤ (ji35)) = true:=decide_eq_true c36
    clear c36
    by_cases c37 : (ji35) < (x5_1.length : Int)
    case neg =>
     rw [if_neg c37] at H
     exact absurd H (by simp)
    rw [if_pos c37] at H
    have c37b0 : decide ((ji35) < (x5_1.length : Int)) = true:=decide_eq_true c37
    clear c37
    replace H:=Option.bind_eq_some_iff.mp H
    obtain ⟨t122,A380,H⟩:=H
    replace H : ((spec_l7Rot.f (rd x5_1 (ji27)) 19).bind fun t123=>(if 0 ≤ x6_1 then (if x6_1 < (x5_1.length : Int) then (spec_l7Block.l0 k1 l0 l1 (x5_1.set (x6_1 : Int).toNat (Go.bits .and .i64 (wrap64 ((wrap64 ((wrap64 ((rd x5_1 (ji30)) + (Go.bits .xor .i64 (Go.bits .xor .i64 t119 t120) ((rd x5_1 (ji24)) / 8)))) + (rd x5_1 (ji35)))) + (Go.bits .xor .i64 (Go.bits .xor .i64 t122 t123) ((rd x5_1 (ji27)) / 1024)))) 4294967295)) (wrap64 (x6_1 + 1))) else (none)) else (none))) = some r:=H
    have A38:=Z0 A380
    clear A380
    replace H:=Option.bind_eq_some_iff.mp H
    obtain ⟨t123,A390,H⟩:=H
    replace H : (if 0 ≤ x6_1 then (if x6_1 < (x5_1.length : Int) then (spec_l7Block.l0 k1 l0 l1 (x5_1.set (x6_1 : Int).toNat (Go.bits .and .i64 (wrap64 ((wrap64 ((wrap64 ((rd x5_1 (ji30)) + (Go.bits .xor .i64 (Go.bits .xor .i64 t119 t120) ((rd x5_1 (ji24)) / 8)))) + (rd x5_1 (ji35)))) + (Go.bits .xor .i64 (Go.bits .xor .i64 t122 t123) ((rd x5_1 (ji27)) / 1024)))) 4294967295)) (wrap64 (x6_1 + 1))) else (none)) else (none)) = some r:=H
    have A39:=Z0 A390
    clear A390
    by_cases c40 : 0 ≤ x6_1
    case neg =>
     rw [if_neg c40] at H
     exact absurd H (by simp)
    rw [if_pos c40] at H
    have c40b0 : decide (0 ≤ x6_1) = true:=decide_eq_true c40
    clear c40
    by_cases c41 : x6_1 < (x5_1.length : Int)
    case neg =>
     rw [if_neg c41] at H
     exact absurd H (by simp)
    rw [if_pos c41] at H
    have c41b0 : decide (x6_1 < (x5_1.length : Int)) = true:=decide_eq_true c41
    clear c41
    obtain ⟨y124,hy124⟩ : ∃ y_ : List Int,y_ = (x5_1.set (x6_1 : Int).toNat (Go.bits .and .i64 (wrap64 ((wrap64 ((wrap64 ((rd x5_1 (ji30)) + (Go.bits .xor .i64 (Go.bits .xor .i64 t119 t120) ((rd x5_1 (ji24)) / 8)))) + (rd x5_1 (ji35)))) + (Go.bits .xor .i64 (Go.bits .xor .i64 t122 t123) ((rd x5_1 (ji27)) / 1024)))) 4294967295)):=⟨_,rfl⟩
    replace H : (spec_l7Block.l0 k1 l0 l1 y124 (wrap64 (x6_1 + 1))) = some r:=by first|(rw [hy124];with_reducible exact H)|(have H2_:=(Zg _ _).symm.trans H;rw [hy124];with_reducible exact H2_)|(have H2_:=(Zg _ _).symm.trans H;with_reducible exact H2_)|with_reducible exact H|(rw [hy124];exact H)|exact H
    have Ny124:=Z0 hy124
    clear hy124
    have H':=Z0 H
    clear H
    obtain ⟨Ao43,co43,eo43⟩:=Kd.R_slice HO_5.out
    subst eo43
    have p116 : 0 ≤ ((ji24) : Int):=of_decide_eq_true (by first|(with_reducible assumption)|assumption)
    have q116 : (ji24) < (x5_1.length : Int):=of_decide_eq_true (by first|(with_reducible assumption)|assumption)
    obtain ⟨ad116,e116,hx116_0⟩:=Z9 (Z7 HO_5.out).2.2 (ji24) p116 q116
    cases e116
    replace p116:=eq_true p116
    replace q116:=eq_true q116
    have p117 : 0 ≤ ((ji27) : Int):=of_decide_eq_true (by first|(with_reducible assumption)|assumption)
    have q117 : (ji27) < (x5_1.length : Int):=of_decide_eq_true (by first|(with_reducible assumption)|assumption)
    obtain ⟨ad117,e117,hx117_0⟩:=Z9 (Z7 HO_5.out).2.2 (ji27) p117 q117
    obtain rfl : ad116 = ad117:=(by injection e117)
    replace p117:=eq_true p117
    replace q117:=eq_true q117
    try go_wp2
    have n0_:=Z0 (Z4 HO_5.out)
    have n1_:=Z0 (Z5 HB.out)
    clear HO_5
    clear HB
    have HO_5:=n0_
    have HB:=n1_
    clear n0_ n1_
    have p118 : 0 ≤ ((ji30) : Int):=of_decide_eq_true (by first|(with_reducible assumption)|assumption)
    have q118 : (ji30) < (x5_1.length : Int):=of_decide_eq_true (by first|(with_reducible assumption)|assumption)
    obtain ⟨ad118,e118,hx118_0⟩:=Z9 (Z7 HO_5.out).2.2 (ji30) p118 q118
    obtain rfl : ad116 = ad118:=(by injection e118)
    replace p118:=eq_true p118
    replace q118:=eq_true q118
    have p121 : 0 ≤ ((ji35) : Int):=of_decide_eq_true (by first|(with_reducible assumption)|assumption)
    have q121 : (ji35) < (x5_1.length : Int):=of_decide_eq_true (by first|(with_reducible assumption)|assumption)
    obtain ⟨ad121,e121,hx121_0⟩:=Z9 (Z7 HO_5.out).2.2 (ji35) p121 q121
    obtain rfl : ad116 = ad121:=(by injection e121)
    replace p121:=eq_true p121
    replace q121:=eq_true q121
    refine start_ (n:=34) (S:=fun w'=>w'.cell? (ad116.add ((ji30)).toNat) = some (.int .i64 (rd x5_1 (ji30))) ∧ w'.cell? (ad116.add ((ji35)).toNat) = some (.int .i64 (rd x5_1 (ji35)))) (ds:=[33]) #[false,false,false,false,false,false,false,false,false,false,false,false,false,false,false,false,false,false,false,false,false,false,false,false,false,false,false,false,false,false,false,false,false,false] (by kernel_rfl) rfl rfl ⟨hx118_0,hx121_0⟩ (fun hHeld=>?_);refine with_tabW spec_l7Block.tab9 spec_l7Block.bits9 (fun HT_ HW_=>?_)
    generalize wr.drew = w44 at HO_5 HB hx118_0 hx121_0 hHeld ⊢
    refine pure_ (i:=0) (N:=some 71) (v:=?_) (a':=?_) #[true,false,false,false,false,false,false,false,false,false,false,false,false,false,false,false,false,false,false,false,false,false,false,false,false,false,false,false,false,false,false,false,false,false] rfl rfl (Za HT_.out (by kernel_rfl)) (fun _ _ _ h=>h) (Or.inl ⟨by rfl,?_⟩) ?_ ?_
    rotate_left
    · intro w'
      go_simp
      with_reducible rfl
    rotate_left
    · simp only [Act.put, Zd, Ze, Zf, Zb, Zc]
      rfl
    refine pure_ (i:=1) (N:=some 72) (v:=?_) (a':=?_) #[true,true,false,false,false,false,false,false,false,false,false,false,false,false,false,false,false,false,false,false,false,false,false,false,false,false,false,false,false,false,false,false,false,false] rfl rfl (Za HT_.out (by kernel_rfl)) (fun _ _ _ h=>h) (Or.inl ⟨by rfl,?_⟩) ?_ ?_
    rotate_left
    · intro w'
      go_simp
      with_reducible rfl
    rotate_left
    · simp only [Act.put, Zd, Ze, Zf, Zb, Zc]
      rfl
    refine pure_ (i:=2) (N:=some 73) (v:=?_) (a':=?_) #[true,true,true,false,false,false,false,false,false,false,false,false,false,false,false,false,false,false,false,false,false,false,false,false,false,false,false,false,false,false,false,false,false,false] rfl rfl (Za HT_.out (by kernel_rfl)) (fun _ _ _ h=>h) (Or.inl ⟨by rfl,?_⟩) ?_ ?_
    rotate_left
    · intro w'
      go_simp
      with_reducible rfl
    rotate_left
    · simp only [Act.put, Zd, Ze, Zf, Zb, Zc]
      rfl
    refine pure_ (i:=3) (N:=some 74) (v:=?_) (a':=?_) #[true,true,true,true,false,false,false,false,false,false,false,false,false,false,false,false,false,false,false,false,false,false,false,false,false,false,false,false,false,false,false,false,false,false] rfl rfl (Za HT_.out (by kernel_rfl)) (fun _ _ _ h=>h) (Or.inl ⟨by rfl,?_⟩) ?_ ?_
    rotate_left
    · intro w'
      go_simp
      with_reducible rfl
    rotate_left
    · simp only [Act.put, Zd, Ze, Zf, Zb, Zc]
      rfl
    refine pure_ (i:=4) (N:=some 75) (v:=?_) (a':=?_) #[true,true,true,true,true,false,false,false,false,false,false,false,false,false,false,false,false,false,false,false,false,false,false,false,false,false,false,false,false,false,false,false,false,false] rfl rfl (Za HT_.out (by kernel_rfl)) (fun _ _ _ h=>h) (Or.inl ⟨by rfl,?_⟩) ?_ ?_
    rotate_left
    · intro w'
      go_simp
      with_reducible rfl
    rotate_left
    · simp only [Act.put, Zd, Ze, Zf, Zb, Zc]
      rfl
    refine pure_ (i:=5) (N:=some 76) (v:=?_) (a':=?_) #[true,true,true,true,true,true,false,false,false,false,false,false,false,false,false,false,false,false,false,false,false,false,false,false,false,false,false,false,false,false,false,false,false,false] rfl rfl (Za HT_.out (by kernel_rfl)) (fun _ _ _ h=>h) (Or.inl ⟨by rfl,?_⟩) ?_ ?_
    rotate_left
    · intro w'
      go_simp
      with_reducible rfl
    rotate_left
    · simp only [Act.put, Zd, Ze, Zf, Zb, Zc]
      rfl
    refine pure_ (i:=7) (N:=some 78) (v:=?_) (a':=?_) #[true,true,true,true,true,true,false,true,false,false,false,false,false,false,false,false,false,false,false,false,false,false,false,false,false,false,false,false,false,false,false,false,false,false] rfl rfl (Za HT_.out (by kernel_rfl)) (fun _ _ _ h=>h) (Or.inl ⟨by rfl,?_⟩) ?_ ?_
    rotate_left
    · intro w'
      go_simp
      with_reducible rfl
    rotate_left
    · simp only [Act.put, Zd, Ze, Zf, Zb, Zc]
      rfl
    refine pure_ (i:=9) (N:=some 80) (v:=?_) (a':=?_) #[true,true,true,true,true,true,false,true,false,true,false,false,false,false,false,false,false,false,false,false,false,false,false,false,false,false,false,false,false,false,false,false,false,false] rfl rfl (Za HT_.out (by kernel_rfl)) (fun _ _ _ h=>h) (Or.inl ⟨by rfl,?_⟩) ?_ ?_
    rotate_left
    · intro w'
      go_simp
      with_reducible rfl
    rotate_left
    · simp only [Act.put, Zd, Ze, Zf, Zb, Zc]
      rfl
    refine pure_ (i:=12) (N:=some 83) (v:=?_) (a':=?_) #[true,true,true,true,true,true,false,true,false,true,false,false,true,false,false,false,false,false,false,false,false,false,false,false,false,false,false,false,false,false,false,false,false,false] rfl rfl (Za HT_.out (by kernel_rfl)) (fun _ _ _ h=>h) (Or.inl ⟨by rfl,?_⟩) ?_ ?_
    rotate_left
    · intro w'
      go_simp
      with_reducible rfl
    rotate_left
    · simp only [Act.put, Zd, Ze, Zf, Zb, Zc]
      rfl
    refine pure_ (i:=13) (N:=some 84) (v:=?_) (a':=?_) #[true,true,true,true,true,true,false,true,false,true,false,false,true,true,false,false,false,false,false,false,false,false,false,false,false,false,false,false,false,false,false,false,false,false] rfl rfl (Za HT_.out (by kernel_rfl)) (fun _ _ _ h=>h) (Or.inl ⟨by rfl,?_⟩) ?_ ?_
    rotate_left
    · intro w'
      go_simp
      with_reducible rfl
    rotate_left
    · simp only [Act.put, Zd, Ze, Zf, Zb, Zc]
      rfl
    refine pure_ (i:=16) (N:=some 87) (v:=?_) (a':=?_) #[true,true,true,true,true,true,false,true,false,true,false,false,true,true,false,false,true,false,false,false,false,false,false,false,false,false,false,false,false,false,false,false,false,false] rfl rfl (Za HT_.out (by kernel_rfl)) (fun _ _ _ h=>h) (Or.inl ⟨by rfl,?_⟩) ?_ ?_
    rotate_left
    · intro w'
      go_simp
      with_reducible rfl
    rotate_left
    · simp only [Act.put, Zd, Ze, Zf, Zb, Zc]
      rfl
    refine pure_ (i:=17) (N:=some 88) (v:=?_) (a':=?_) #[true,true,true,true,true,true,false,true,false,true,false,false,true,true,false,false,true,true,false,false,false,false,false,false,false,false,false,false,false,false,false,false,false,false] rfl rfl (Za HT_.out (by kernel_rfl)) (fun _ _ _ h=>h) (Or.inl ⟨by rfl,?_⟩) ?_ ?_
    rotate_left
    · intro w'
      go_simp
      with_reducible rfl
    rotate_left
    · simp only [Act.put, Zd, Ze, Zf, Zb, Zc]
      rfl
    refine pure_ (i:=18) (N:=some 89) (v:=?_) (a':=?_) #[true,true,true,true,true,true,false,true,false,true,false,false,true,true,false,false,true,true,true,false,false,false,false,false,false,false,false,false,false,false,false,false,false,false] rfl rfl (Za HT_.out (by kernel_rfl)) (fun _ _ _ h=>h) (Or.inl ⟨by rfl,?_⟩) ?_ ?_
    rotate_left
    · intro w'
      go_simp
      with_reducible rfl
    rotate_left
    · simp only [Act.put, Zd, Ze, Zf, Zb, Zc]
      rfl
    refine pure_ (i:=19) (N:=some 90) (v:=?_) (a':=?_) #[true,true,true,true,true,true,false,true,false,true,false,false,true,true,false,false,true,true,true,true,false,false,false,false,false,false,false,false,false,false,false,false,false,false] rfl rfl (Za HT_.out (by kernel_rfl)) (fun _ _ _ h=>h) (Or.inl ⟨by rfl,?_⟩) ?_ ?_
    rotate_left
    · intro w'
      go_simp
      with_reducible rfl
    rotate_left
    · simp only [Act.put, Zd, Ze, Zf, Zb, Zc]
      rfl
    refine pure_ (i:=22) (N:=some 93) (v:=?_) (a':=?_) #[true,true,true,true,true,true,false,true,false,true,false,false,true,true,false,false,true,true,true,true,false,false,true,false,false,false,false,false,false,false,false,false,false,false] rfl rfl (Za HT_.out (by kernel_rfl)) (fun _ _ _ h=>h) (Or.inl ⟨by rfl,?_⟩) ?_ ?_
    rotate_left
    · intro w'
      go_simp
      with_reducible rfl
    rotate_left
    · simp only [Act.put, Zd, Ze, Zf, Zb, Zc]
      rfl
    refine pure_ (i:=24) (N:=some 95) (v:=?_) (a':=?_) #[true,true,true,true,true,true,false,true,false,true,false,false,true,true,false,false,true,true,true,true,false,false,true,false,true,false,false,false,false,false,false,false,false,false] rfl rfl (Za HT_.out (by kernel_rfl)) (fun _ _ _ h=>h) (Or.inl ⟨by rfl,?_⟩) ?_ ?_
    rotate_left
    · intro w'
      go_simp
      with_reducible rfl
    rotate_left
    · simp only [Act.put, Zd, Ze, Zf, Zb, Zc]
      rfl
    refine pure_ (i:=27) (N:=some 98) (v:=?_) (a':=?_) #[true,true,true,true,true,true,false,true,false,true,false,false,true,true,false,false,true,true,true,true,false,false,true,false,true,false,false,true,false,false,false,false,false,false] rfl rfl (Za HT_.out (by kernel_rfl)) (fun _ _ _ h=>h) (Or.inl ⟨by rfl,?_⟩) ?_ ?_
    rotate_left
    · intro w'
      go_simp
      with_reducible rfl
    rotate_left
    · simp only [Act.put, Zd, Ze, Zf, Zb, Zc]
      rfl
    refine pure_ (i:=28) (N:=some 99) (v:=?_) (a':=?_) #[true,true,true,true,true,true,false,true,false,true,false,false,true,true,false,false,true,true,true,true,false,false,true,false,true,false,false,true,true,false,false,false,false,false] rfl rfl (Za HT_.out (by kernel_rfl)) (fun _ _ _ h=>h) (Or.inl ⟨by rfl,?_⟩) ?_ ?_
    rotate_left
    · intro w'
      go_simp
      with_reducible rfl
    rotate_left
    · simp only [Act.put, Zd, Ze, Zf, Zb, Zc]
      rfl
    refine take_ (i:=6) (N:=some 77) (v:=?_) (a':=?_) #[true,true,true,true,true,true,true,true,false,true,false,false,true,true,false,false,true,true,true,true,false,false,true,false,true,false,false,true,true,false,false,false,false,false] rfl rfl (take_ofW HT_.out HW_.out (by kernel_rfl)) (fun _ _ _ h=>h) (Or.inl ⟨by rfl,?_⟩) hHeld ?_ ?_
    rotate_left
    · rintro w' ⟨s0, s1⟩
      go_simp
      with_reducible rfl
    rotate_left
    · simp only [Act.put, Zd, Ze, Zf, Zb, Zc]
      rfl
    refine take_ (i:=20) (N:=some 91) (v:=?_) (a':=?_) #[true,true,true,true,true,true,true,true,false,true,false,false,true,true,false,false,true,true,true,true,true,false,true,false,true,false,false,true,true,false,false,false,false,false] rfl rfl (take_ofW HT_.out HW_.out (by kernel_rfl)) (fun _ _ _ h=>h) (Or.inl ⟨by rfl,?_⟩) hHeld ?_ ?_
    rotate_left
    · rintro w' ⟨s0, s1⟩
      go_simp
      with_reducible rfl
    rotate_left
    · simp only [Act.put, Zd, Ze, Zf, Zb, Zc]
      rfl
    refine one_ (i:=8) (N:=some 79) #[true,true,true,true,true,true,true,true,true,true,false,false,true,true,false,false,true,true,true,true,true,false,true,false,true,false,false,true,true,false,false,false,false,false] rfl rfl (one_of HT_.out (by kernel_rfl)) (by decide) (fun K hK=>?_)
    refine goes_ Try.func29 (by kernel_rfl) rfl #[.int .i64 (rd x5_1 (ji24)),.int .u64 7] (by rfl) rfl rfl (by (try simp only [Zj,Zk,Zl]);first|done|(simp only [hji24];rfl)|rfl|(simp only [Zh,Zi];rfl)) ?_
    with_reducible refine (spec_l7Rot.calls (rd x5_1 (ji24)) 7 t119 _ A33.out).mono ?_
    rintro e w' ⟨rfl,⟨nd,rfl⟩⟩
    refine ⟨_,rfl,?_⟩
    refine hK.out _ _ ⟨hHeld.1,hHeld.2⟩ (fun hHeld=>?_)
    clear hK K
    refine norm_ (a':=?_) ?_ ?_
    rotate_left
    · show Act.put _ (some 79) _ = _
      simp only [Act.put,Zd,Ze,Zf,Zb,Zc]
      rfl
    refine one_ (i:=10) (N:=some 81) #[true,true,true,true,true,true,true,true,true,true,true,false,true,true,false,false,true,true,true,true,true,false,true,false,true,false,false,true,true,false,false,false,false,false] rfl rfl (one_of HT_.out (by kernel_rfl)) (by decide) (fun K hK=>?_)
    refine goes_ Try.func29 (by kernel_rfl) rfl #[.int .i64 (rd x5_1 (ji24)),.int .u64 18] (by rfl) rfl rfl (by (try simp only [Zj,Zk,Zl]);first|done|(simp only [hji24];rfl)|rfl|(simp only [Zh,Zi];rfl)) ?_
    with_reducible refine (spec_l7Rot.calls (rd x5_1 (ji24)) 18 t120 _ A34.out).mono ?_
    rintro e w' ⟨rfl,⟨nd,rfl⟩⟩
    refine ⟨_,rfl,?_⟩
    refine hK.out _ _ ⟨hHeld.1,hHeld.2⟩ (fun hHeld=>?_)
    clear hK K
    refine norm_ (a':=?_) ?_ ?_
    rotate_left
    · show Act.put _ (some 81) _ = _
      simp only [Act.put,Zd,Ze,Zf,Zb,Zc]
      rfl
    refine pure_ (i:=11) (N:=some 82) (v:=?_) (a':=?_) #[true,true,true,true,true,true,true,true,true,true,true,true,true,true,false,false,true,true,true,true,true,false,true,false,true,false,false,true,true,false,false,false,false,false] rfl rfl (Za HT_.out (by kernel_rfl)) (fun _ _ _ h=>h) (Or.inl ⟨by rfl,?_⟩) ?_ ?_
    rotate_left
    · intro w'
      go_simp
      with_reducible rfl
    rotate_left
    · simp only [Act.put, Zd, Ze, Zf, Zb, Zc]
      rfl
    refine pure_ (i:=14) (N:=some 85) (v:=?_) (a':=?_) #[true,true,true,true,true,true,true,true,true,true,true,true,true,true,true,false,true,true,true,true,true,false,true,false,true,false,false,true,true,false,false,false,false,false] rfl rfl (Za HT_.out (by kernel_rfl)) (fun _ _ _ h=>h) (Or.inl ⟨by rfl,?_⟩) ?_ ?_
    rotate_left
    · intro w'
      go_simp
      with_reducible rfl
    rotate_left
    · simp only [Act.put, Zd, Ze, Zf, Zb, Zc]
      rfl
    refine pure_ (i:=15) (N:=some 86) (v:=?_) (a':=?_) #[true,true,true,true,true,true,true,true,true,true,true,true,true,true,true,true,true,true,true,true,true,false,true,false,true,false,false,true,true,false,false,false,false,false] rfl rfl (Za HT_.out (by kernel_rfl)) (fun _ _ _ h=>h) (Or.inl ⟨by rfl,?_⟩) ?_ ?_
    rotate_left
    · intro w'
      go_simp
      with_reducible rfl
    rotate_left
    · simp only [Act.put, Zd, Ze, Zf, Zb, Zc]
      rfl
    refine pure_ (i:=21) (N:=some 92) (v:=?_) (a':=?_) #[true,true,true,true,true,true,true,true,true,true,true,true,true,true,true,true,true,true,true,true,true,true,true,false,true,false,false,true,true,false,false,false,false,false] rfl rfl (Za HT_.out (by kernel_rfl)) (fun _ _ _ h=>h) (Or.inl ⟨by rfl,?_⟩) ?_ ?_
    rotate_left
    · intro w'
      go_simp
      with_reducible rfl
    rotate_left
    · simp only [Act.put, Zd, Ze, Zf, Zb, Zc]
      rfl
    refine one_ (i:=23) (N:=some 94) #[true,true,true,true,true,true,true,true,true,true,true,true,true,true,true,true,true,true,true,true,true,true,true,true,true,false,false,true,true,false,false,false,false,false] rfl rfl (one_of HT_.out (by kernel_rfl)) (by decide) (fun K hK=>?_)
    refine goes_ Try.func29 (by kernel_rfl) rfl #[.int .i64 (rd x5_1 (ji27)),.int .u64 17] (by rfl) rfl rfl (by (try simp only [Zj,Zk,Zl]);first|done|(simp only [hji27];rfl)|rfl|(simp only [Zh,Zi];rfl)) ?_
    with_reducible refine (spec_l7Rot.calls (rd x5_1 (ji27)) 17 t122 _ A38.out).mono ?_
    rintro e w' ⟨rfl,⟨nd,rfl⟩⟩
    refine ⟨_,rfl,?_⟩
    refine hK.out _ _ ⟨hHeld.1,hHeld.2⟩ (fun hHeld=>?_)
    clear hK K
    refine norm_ (a':=?_) ?_ ?_
    rotate_left
    · show Act.put _ (some 94) _ = _
      simp only [Act.put,Zd,Ze,Zf,Zb,Zc]
      rfl
    refine one_ (i:=25) (N:=some 96) #[true,true,true,true,true,true,true,true,true,true,true,true,true,true,true,true,true,true,true,true,true,true,true,true,true,true,false,true,true,false,false,false,false,false] rfl rfl (one_of HT_.out (by kernel_rfl)) (by decide) (fun K hK=>?_)
    refine goes_ Try.func29 (by kernel_rfl) rfl #[.int .i64 (rd x5_1 (ji27)),.int .u64 19] (by rfl) rfl rfl (by (try simp only [Zj,Zk,Zl]);first|done|(simp only [hji27];rfl)|rfl|(simp only [Zh,Zi];rfl)) ?_
    with_reducible refine (spec_l7Rot.calls (rd x5_1 (ji27)) 19 t123 _ A39.out).mono ?_
    rintro e w' ⟨rfl,⟨nd,rfl⟩⟩
    refine ⟨_,rfl,?_⟩
    have p42 : 0 ≤ (x6_1 : Int):=of_decide_eq_true (by first|(with_reducible assumption)|assumption)
    have q42 : (x6_1 : Int) < ((x5_1.length : Int) : Int):=of_decide_eq_true (by first|(with_reducible assumption)|assumption)
    obtain ⟨go42,co42,eo42,gb42,gl42,cl42,HG42⟩:=Kd.R_form HO_5.out (by omega)
    (first|cases eo42|(injection eo42 with ea_ en_ ec_;(first|subst ea_|(injection ea_ with ea_;subst ea_));subst ec_;clear en_))
    have GB42:=Z0 gb42
    have GG42:=Z0 HG42
    clear gb42 gl42 HG42
    (first|simp only [add_plain] at hx116_0|skip)
    (first|simp only [add_plain] at hx117_0|skip)
    (first|simp only [add_plain] at hx118_0|skip)
    (first|simp only [add_plain] at hx121_0|skip)
    obtain ⟨hx42_0,hf42_0⟩:=Kd.R_celln 0 HO_5.out (x6_1 : Int) p42 q42
    replace p42:=eq_true p42
    replace q42:=eq_true q42
    have HP45:=Kd.R_putn HO_5.out (x6_1 : Int) (Go.bits .and .i64 (wrap64 ((wrap64 ((wrap64 ((rd x5_1 (ji30)) + (Go.bits .xor .i64 (Go.bits .xor .i64 t119 t120) ((rd x5_1 (ji24)) / 8)))) + (rd x5_1 (ji35)))) + (Go.bits .xor .i64 (Go.bits .xor .i64 t122 t123) ((rd x5_1 (ji27)) / 1024)))) 4294967295)
    rw [← Ny124.out] at HP45
    have HQ45:=Z0 HP45
    clear HP45
    refine hK.out _ _ ⟨hHeld.1,hHeld.2⟩ (fun hHeld=>?_)
    clear hK K
    refine norm_ (a':=?_) ?_ ?_
    rotate_left
    · show Act.put _ (some 96) _ = _
      simp only [Act.put,Zd,Ze,Zf,Zb,Zc]
      rfl
    refine pure_ (i:=26) (N:=some 97) (v:=?_) (a':=?_) #[true,true,true,true,true,true,true,true,true,true,true,true,true,true,true,true,true,true,true,true,true,true,true,true,true,true,true,true,true,false,false,false,false,false] rfl rfl (Za HT_.out (by kernel_rfl)) (fun _ _ _ h=>h) (Or.inl ⟨by rfl,?_⟩) ?_ ?_
    rotate_left
    · intro w'
      go_simp
      with_reducible rfl
    rotate_left
    · simp only [Act.put, Zd, Ze, Zf, Zb, Zc]
      rfl
    refine pure_ (i:=29) (N:=some 100) (v:=?_) (a':=?_) #[true,true,true,true,true,true,true,true,true,true,true,true,true,true,true,true,true,true,true,true,true,true,true,true,true,true,true,true,true,true,false,false,false,false] rfl rfl (Za HT_.out (by kernel_rfl)) (fun _ _ _ h=>h) (Or.inl ⟨by rfl,?_⟩) ?_ ?_
    rotate_left
    · intro w'
      go_simp
      with_reducible rfl
    rotate_left
    · simp only [Act.put, Zd, Ze, Zf, Zb, Zc]
      rfl
    refine pure_ (i:=30) (N:=some 101) (v:=?_) (a':=?_) #[true,true,true,true,true,true,true,true,true,true,true,true,true,true,true,true,true,true,true,true,true,true,true,true,true,true,true,true,true,true,true,false,false,false] rfl rfl (Za HT_.out (by kernel_rfl)) (fun _ _ _ h=>h) (Or.inl ⟨by rfl,?_⟩) ?_ ?_
    rotate_left
    · intro w'
      go_simp
      with_reducible rfl
    rotate_left
    · simp only [Act.put, Zd, Ze, Zf, Zb, Zc]
      rfl
    refine pure_ (i:=31) (N:=some 102) (v:=?_) (a':=?_) #[true,true,true,true,true,true,true,true,true,true,true,true,true,true,true,true,true,true,true,true,true,true,true,true,true,true,true,true,true,true,true,true,false,false] rfl rfl (Za HT_.out (by kernel_rfl)) (fun _ _ _ h=>h) (Or.inl ⟨by rfl,?_⟩) ?_ ?_
    rotate_left
    · intro w'
      go_simp
      with_reducible rfl
    rotate_left
    · simp only [Act.put, Zd, Ze, Zf, Zb, Zc]
      rfl
    refine pure_ (i:=32) (N:=some 103) (v:=?_) (a':=?_) #[true,true,true,true,true,true,true,true,true,true,true,true,true,true,true,true,true,true,true,true,true,true,true,true,true,true,true,true,true,true,true,true,true,false] rfl rfl (Za HT_.out (by kernel_rfl)) (fun _ _ _ h=>h) (Or.inl ⟨by rfl,?_⟩) ?_ ?_
    rotate_left
    · intro w'
      go_simp
      with_reducible rfl
    rotate_left
    · simp only [Act.put, Zd, Ze, Zf, Zb, Zc]
      rfl
    refine last_ (i:=33) (N:=none) #[true,true,true,true,true,true,true,true,true,true,true,true,true,true,true,true,true,true,true,true,true,true,true,true,true,true,true,true,true,true,true,true,true,true] rfl rfl (one_of HT_.out (by kernel_rfl)) (by decide) (fun K hK=>?_)
    refine skip_ (w1:=?_) (by rfl) rfl ?_ ?_
    rotate_left
    · go_simp
      rfl
    refine hK.out _ _ ?_
    clear hK K
    refine done_ (done_of HT_.out (by kernel_rfl)) ?_
    try go_wp2
    go_roundg k1
    case measure=>have:=HK1.out;omega
    case rel=>exact ⟨(y124),(wrap64 (x6_1 + 1)),(by first|rfl|(simp;done)|(simp [*];done)),H',⟨by have:=HK1.out;omega⟩,⟨by (with_reducible repeat (first|apply Z3|apply Z2|apply Z4));exact HQ45.out⟩,⟨by repeat (first|(with_reducible first|exact HB.out|apply Z6|apply Z1|apply Z5|refine below_set ?_ GB42.out)|exact HB.out)⟩⟩
   rw [if_neg c5] at H
   have c5b0 : decide (x6_1 < 64) = false:=decide_eq_false c5
   clear c5
   replace H:=Option.bind_eq_some_iff.mp H
   obtain ⟨t125,A460,H⟩:=H
   replace H : ((some (([] : List Int) : List Int)).bind fun y128=>(if y128.length + l0.length < 17592186044416 then (spec_l7Block.l1 k1 l0 x5_1 t125 (y128 ++ l0) 0) else (none))) = some r:=H
   have A46:=Z0 A460
   clear A460
   obtain ⟨y128,hy128⟩ : ∃ y_ : List Int,y_ = (([] : List Int)):=⟨_,rfl⟩
   replace H : (if y128.length + l0.length < 17592186044416 then (spec_l7Block.l1 k1 l0 x5_1 t125 (y128 ++ l0) 0) else (none)) = some r:=by first|(rw [hy128];with_reducible exact H)|(have H2_:=(Zg _ _).symm.trans H;rw [hy128];with_reducible exact H2_)|(have H2_:=(Zg _ _).symm.trans H;with_reducible exact H2_)|with_reducible exact H|(rw [hy128];exact H)|exact H
   have Ny128:=Z0 hy128
   clear hy128
   by_cases c47 : y128.length + l0.length < 17592186044416
   case neg =>
    rw [if_neg c47] at H
    exact absurd H (by simp)
   rw [if_pos c47] at H
   have LMc47:=Z0 c47
   clear c47
   obtain ⟨y131,hy131⟩ : ∃ y_ : List Int,y_ = (y128 ++ l0):=⟨_,rfl⟩
   replace H : (spec_l7Block.l1 k1 l0 x5_1 t125 y131 0) = some r:=by first|(rw [hy131];with_reducible exact H)|(have H2_:=(Zg _ _).symm.trans H;rw [hy131];with_reducible exact H2_)|(have H2_:=(Zg _ _).symm.trans H;with_reducible exact H2_)|with_reducible exact H|(rw [hy131];exact H)|exact H
   have Ny131:=Z0 hy131
   clear hy131
   have H':=Z0 H
   clear H
   go_wp2_with (first|((with_reducible refine gate_callee (f:=30) rfl ?_);refine goesL_ (some 104) rfl rfl Try.func30 (by kernel_rfl) rfl #[] rfl (by (try simp only [Zj,Zk,Zl]);first|done|rfl|(simp only [Zh,Zi];rfl)) ?_;(with_reducible refine (spec_l7K.calls  t125 _ A46.out).mono ?_);rintro e w48 ⟨v126,rfl,ho0,hb⟩;refine ⟨_,rfl,?_⟩;have n0_:=Z0 (Z8 (by (with_reducible repeat (first|apply Z3|apply Z2|apply Z4));exact HO_5.out) (Kd.R_base ho0) hb);have n1_:=Z0 (Kd.R_lower (Kd.R_new' ho0 (Kd.R_lt (by (with_reducible repeat (first|apply Z3|apply Z2|apply Z4));exact HO_5.out))) (below_size (by repeat (first|(with_reducible first|exact HB.out|apply Z6|apply Z1|apply Z5)|exact HB.out))));have n2_:=Z0 (below_step (by repeat (first|(with_reducible first|exact HB.out|apply Z6|apply Z1|apply Z5)|exact HB.out)) hb);clear HO_5;clear HB;have HO_5:=n0_;have HO127:=n1_;have HB:=n2_;clear n0_ n1_ n2_;(try clear hb);(try clear hb2);(try clear hk);(try clear hi);(try clear ho0))|((with_reducible refine gate_dst (N:=105) rfl ?_);refine Kd.R_lit (Kd.int .i64) _ 3 ?hg (N:=105) ?hd (xs:=([] : List Int)) (inner:=[]) (ok:=fun _=>True) (okp:=fun _=>True) ?hr ?hp (fun _ hk=>hk) trivial (Below.refl _ _) (Zm _) (by simp) ?_;(case hd=>rfl);(case hg=>rfl);(case hr=>first|(go_simp;done)|(go_simp;rfl));(case hp=>exact (Reps.none _ _));intro v129 w49 ho50 hb hg_ hnew_;clear hg_ hnew_;(first|rw [← Ny128.out] at ho50|(simp only [Int.reduceToNat] at ho50;rw [← Ny128.out] at ho50));have n0_:=Z0 (Z8 (by (with_reducible repeat (first|apply Z3|apply Z2|apply Z4));exact HO_5.out) (Kd.R_base ho50) hb);have n1_:=Z0 (Z8 (by (with_reducible repeat (first|apply Z3|apply Z2|apply Z4));exact HO127.out) (Kd.R_base ho50) hb);have n2_:=Z0 (Kd.R_lower (Kd.R_new' (Kd.R_new' ho50 (Kd.R_lt (by (with_reducible repeat (first|apply Z3|apply Z2|apply Z4));exact HO_5.out))) (Kd.R_lt (by (with_reducible repeat (first|apply Z3|apply Z2|apply Z4));exact HO127.out))) (below_size (by repeat (first|(with_reducible first|exact HB.out|apply Z6|apply Z1|apply Z5)|exact HB.out))));have n3_:=Z0 (below_step (by repeat (first|(with_reducible first|exact HB.out|apply Z6|apply Z1|apply Z5)|exact HB.out)) hb);clear HO_5;clear HO127;clear HB;have HO_5:=n0_;have HO127:=n1_;have HO130:=n2_;have HB:=n3_;clear n0_ n1_ n2_ n3_;clear hb ho50)|((with_reducible refine gate_builtin (b:=.append) (xs:=#[.tmp 105,.tmp 106]) rfl ?_);at_builtin;refine Kd.R_append_rows (Kd.int .i64) (w0:=w) w.heap.size rfl (.tmp 105) (.tmp 106) 29 3 (.int .i64 0) 8 rfl Try.underlying29 info3 rfl (by decide) (by omega) v129 y128 l0 _ _ _ (fun k_=>some k_ ≠ (v109 : Value).ownBlock ∧ some k_ ≠ (v126 : Value).ownBlock) (fun _=>False) rfl rfl ?aO ?aR (fun _ _ h=>h) (fun _ h=>h.elim) ?aF ?aB ?aS ?aL ?_;(case aR=>repeat (first|exact (Kd.C_below HR0.out HB.out)|(with_reducible refine Kd.C_alloc ?_ _)|(with_reducible refine Kd.C_drewN ?_ _)|(with_reducible refine Kd.C_drew ?_)));(case aB=>exact (by repeat (first|(with_reducible first|exact HB.out|apply Z6|apply Z1|apply Z5)|exact HB.out)));(case aF=>exact (fun k_ hk=>⟨Kd.fresh' (Kd.R_lt (by (with_reducible repeat (first|apply Z3|apply Z2|apply Z4));exact HO_5.out)) k_ hk,Kd.fresh' (Kd.R_lt (by (with_reducible repeat (first|apply Z3|apply Z2|apply Z4));exact HO127.out)) k_ hk⟩));(case aO=>exact (by (with_reducible repeat (first|apply Z3|apply Z2|apply Z4));exact Kd.R_mono HO130.out (fun _ hk=>⟨hk.1.2,hk.2⟩)));(case aS=>exact (below_size (by repeat (first|(with_reducible first|exact HB.out|apply Z6|apply Z1|apply Z5)|exact HB.out))));(case aL=>have:=LMc47.out;omega);intro v132 w51 ho hb hg hat;rw [← Ny131.out] at ho;have n0_:=Z0 (Kd.R_after (ok:=(fun k_=>some k_ ≠ (v126 : Value).ownBlock)) (by (with_reducible repeat (first|apply Z3|apply Z2|apply Z4));exact Kd.R_mono HO_5.out (fun _ hk=>⟨hk.1.2,hk.2⟩)) hg hat);have n1_:=Z0 (Kd.R_after (ok:=(fun k_=>some k_ ≠ (v109 : Value).ownBlock)) (by (with_reducible repeat (first|apply Z3|apply Z2|apply Z4));exact Kd.R_mono HO127.out (fun _ hk=>⟨hk.1.2,hk.2⟩)) hg hat);have n2_:=Z0 (hb);have n3_:=Z0 (ho);clear HO_5;clear HO127;clear HB;clear HO130;have HO_5:=n0_;have HO127:=n1_;have HB:=n2_;have HO133:=n3_;clear n0_ n1_ n2_ n3_;clear ho hb hg hat))
   go_loopg [10,11] k1 (fun kq v10 v11 w'=>∃ (x10_2 : List Int) (x11_2 : Int),v11 = .int .i64 x11_2 ∧ Aside0 (spec_l7Block.l1 kq l0 x5_1 t125 x10_2 x11_2 = some r) ∧ Aside0 (kq ≤ k1) ∧ Aside0 (Kd.R (Kd.int .i64) 3 w' w.heap.size (fun k_=>some k_ ≠ (v126 : Value).ownBlock ∧ some k_ ≠ (v10 : Value).ownBlock) v109 x5_1) ∧ Aside0 (Kd.R (Kd.int .i64) 3 w' w.heap.size (fun k_=>some k_ ≠ (v109 : Value).ownBlock ∧ some k_ ≠ (v10 : Value).ownBlock) v126 t125) ∧ Aside0 (Kd.R (Kd.int .i64) 3 w' w.heap.size (fun k_=>some k_ ≠ (v109 : Value).ownBlock ∧ some k_ ≠ (v126 : Value).ownBlock) v10 x10_2) ∧ Aside0 (Below w.heap.size w w'))
   case atStart=>exact ⟨(y131),(0),(by first|rfl|(simp;done)|(simp [*];done)),H',⟨Zm _⟩,⟨by (with_reducible repeat (first|apply Z3|apply Z2|apply Z4));exact HO_5.out⟩,⟨by (with_reducible repeat (first|apply Z3|apply Z2|apply Z4));exact HO127.out⟩,⟨by (with_reducible repeat (first|apply Z3|apply Z2|apply Z4));exact HO133.out⟩,⟨by repeat (first|(with_reducible first|exact HB.out|apply Z6|apply Z1|apply Z5)|exact HB.out)⟩⟩
   case round =>
    clear H'
    (try clear c1);(try clear p1);(try clear q1);(try clear hx1);(try clear c2);(try clear p2);(try clear c3);(try clear c4);(try clear p4);(try clear q4);(try clear hx4);(try clear hf4);(try clear c5);(try clear c5b0);(try clear c6);(try clear c6b0);(try clear p6);(try clear c8);(try clear c9);(try clear c11);(try clear p11);(try clear q11);(try clear hx11);(try clear c12);(try clear p12);(try clear q12);(try clear hx12);(try clear c14);(try clear c15);(try clear c17);(try clear c18);(try clear c19);(try clear c20);(try clear c25);(try clear c25b0);(try clear c26);(try clear c26b0);(try clear c28);(try clear c28b0);(try clear c29);(try clear c29b0);(try clear c30);(try clear c31);(try clear c31b0);(try clear c32);(try clear c32b0);(try clear c36);(try clear c36b0);(try clear c37);(try clear c37b0);(try clear c40);(try clear c40b0);(try clear c41);(try clear c41b0);(try clear p42);(try clear q42);(try clear hx42);(try clear hf42);(try clear c47);(try clear hx116_0);(try clear hx117_0);(try clear hx118_0);(try clear hx121_0);(try clear hx42_0);(try clear p116);(try clear p117);(try clear p118);(try clear p121);(try clear p42);(try clear q116);(try clear q117);(try clear q118);(try clear q121);(try clear q42)
    obtain ⟨x10_2,x11_2,rfl,HA,HK2,HO_5,HO_9,HO_10,HB⟩:=hrel
    cases gk with
    | zero=>exact absurd HA.out (by simp [spec_l7Block.l1])
    | succ k2 =>
     have H:=HA.out
     clear HA
     simp only [spec_l7Block.l1] at H
     by_cases c52 : x11_2 < 64
     case neg =>
      rw [if_neg c52] at H
      have c52b0 : decide (x11_2 < 64) = false:=decide_eq_false c52
      clear c52
      obtain ⟨y161,hy161⟩ : ∃ y_ : List Int,y_ = (([] : List Int)):=⟨_,rfl⟩
      replace H : (spec_l7Block.l2 k2 l0 x10_2 y161 0) = some r:=by first|(rw [hy161];with_reducible exact H)|(have H2_:=(Zg _ _).symm.trans H;rw [hy161];with_reducible exact H2_)|(have H2_:=(Zg _ _).symm.trans H;with_reducible exact H2_)|with_reducible exact H|(rw [hy161];exact H)|exact H
      have Ny161:=Z0 hy161
      clear hy161
      have H':=Z0 H
      clear H
      go_wp2_with (first|((with_reducible refine gate_dst (N:=210) rfl ?_);refine Kd.R_lit (Kd.int .i64) _ 3 ?hg (N:=210) ?hd (xs:=([] : List Int)) (inner:=[]) (ok:=fun _=>True) (okp:=fun _=>True) ?hr ?hp (fun _ hk=>hk) trivial (Below.refl _ _) (Zm _) (by simp) ?_;(case hd=>rfl);(case hg=>rfl);(case hr=>first|(go_simp;done)|(go_simp;rfl));(case hp=>exact (Reps.none _ _));intro v162 w78 ho79 hb hg_ hnew_;clear hg_ hnew_;(first|rw [← Ny161.out] at ho79|(simp only [Int.reduceToNat] at ho79;rw [← Ny161.out] at ho79));have n0_:=Z0 (Z8 (by (with_reducible repeat (first|apply Z3|apply Z2|apply Z4));exact HO_5.out) (Kd.R_base ho79) hb);have n1_:=Z0 (Z8 (by (with_reducible repeat (first|apply Z3|apply Z2|apply Z4));exact HO_9.out) (Kd.R_base ho79) hb);have n2_:=Z0 (Z8 (by (with_reducible repeat (first|apply Z3|apply Z2|apply Z4));exact HO_10.out) (Kd.R_base ho79) hb);have n3_:=Z0 (Kd.R_lower (Kd.R_new' (Kd.R_new' (Kd.R_new' ho79 (Kd.R_lt (by (with_reducible repeat (first|apply Z3|apply Z2|apply Z4));exact HO_5.out))) (Kd.R_lt (by (with_reducible repeat (first|apply Z3|apply Z2|apply Z4));exact HO_9.out))) (Kd.R_lt (by (with_reducible repeat (first|apply Z3|apply Z2|apply Z4));exact HO_10.out))) (below_size (by repeat (first|(with_reducible first|exact HB.out|apply Z6|apply Z1|apply Z5)|exact HB.out))));have n4_:=Z0 (below_step (by repeat (first|(with_reducible first|exact HB.out|apply Z6|apply Z1|apply Z5)|exact HB.out)) hb);clear HO_5;clear HO_9;clear HO_10;clear HB;have HO_5:=n0_;have HO_9:=n1_;have HO_10:=n2_;have HO163:=n3_;have HB:=n4_;clear n0_ n1_ n2_ n3_ n4_;clear hb ho79))
      go_loopg [16,17] k2 (fun kq v16 v17 w'=>∃ (x16_3 : List Int) (x17_3 : Int),v17 = .int .i64 x17_3 ∧ Aside0 (spec_l7Block.l2 kq l0 x10_2 x16_3 x17_3 = some r) ∧ Aside0 (kq ≤ k2) ∧ Aside0 (Kd.R (Kd.int .i64) 3 w' w.heap.size (fun k_=>some k_ ≠ (v16 : Value).ownBlock) u10 x10_2) ∧ Aside0 (Kd.R (Kd.int .i64) 3 w' w.heap.size (fun k_=>some k_ ≠ (u10 : Value).ownBlock) v16 x16_3) ∧ Aside0 (Below w.heap.size w w'))
      case atStart=>exact ⟨(y161),(0),(by first|rfl|(simp;done)|(simp [*];done)),H',⟨Zm _⟩,⟨by (with_reducible repeat (first|apply Z3|apply Z2|apply Z4));exact Kd.R_mono HO_10.out (fun _ hk=>hk.2)⟩,⟨by (with_reducible repeat (first|apply Z3|apply Z2|apply Z4));exact Kd.R_mono HO163.out (fun _ hk=>hk.2)⟩,⟨by repeat (first|(with_reducible first|exact HB.out|apply Z6|apply Z1|apply Z5)|exact HB.out)⟩⟩
      case round =>
       clear H'
       (try clear p1);(try clear q1);(try clear hx1);(try clear qi1);(try clear c2);(try clear p2);(try clear c5);(try clear c6);(try clear p6);(try clear p15);(try clear q15);(try clear hx15);(try clear qi15);(try clear c29);(try clear c52);(try clear c52b0);(try clear c53);(try clear c54);(try clear c55);(try clear c59);(try clear c60);(try clear c61);(try clear c62);(try clear c63);(try clear p64);(try clear c67);(try clear c68);(try clear c69);(try clear hx151_0);(try clear hx152_0);(try clear hx153_0);(try clear hx154_0);(try clear hx155_0);(try clear hx156_0);(try clear hx157_0);(try clear p151);(try clear p152);(try clear p153);(try clear p154);(try clear p155);(try clear p156);(try clear p157);(try clear q151);(try clear q152);(try clear q153);(try clear q154);(try clear q155);(try clear q156);(try clear q157)
       obtain ⟨x16_3,x17_3,rfl,HA,HK3,HO_10,HO_16,HB⟩:=hrel
       cases gk with
       | zero=>exact absurd HA.out (by simp [spec_l7Block.l2])
       | succ k3 =>
        have H:=HA.out
        clear HA
        simp only [spec_l7Block.l2] at H
        by_cases c80 : x17_3 < 8
        case neg =>
         rw [if_neg c80] at H
         have c80b0 : decide (x17_3 < 8) = false:=decide_eq_false c80
         clear c80
         obtain rfl:=Option.some.inj H
         go_wp2
         go_ret
         exact ⟨_,by first|rfl|(simp [errW_none,errW_some]<;>rfl)|(simp [*,errW_none,errW_some]<;>rfl),by (with_reducible repeat (first|apply Z3|apply Z2|apply Z4));exact Kd.R_mono HO_16.out (fun _ hk=>trivial),by repeat (first|(with_reducible first|exact HB.out|apply Z6|apply Z1|apply Z5)|exact HB.out)⟩
        rw [if_pos c80] at H
        have c80b0 : decide (x17_3 < 8) = true:=decide_eq_true c80
        clear c80
        by_cases c81 : 0 ≤ x17_3
        case neg =>
         rw [if_neg c81] at H
         exact absurd H (by simp)
        rw [if_pos c81] at H
        have c81b0 : decide (0 ≤ x17_3) = true:=decide_eq_true c81
        clear c81
        by_cases c82 : x17_3 < (l0.length : Int)
        case neg =>
         rw [if_neg c82] at H
         exact absurd H (by simp)
        rw [if_pos c82] at H
        have c82b0 : decide (x17_3 < (l0.length : Int)) = true:=decide_eq_true c82
        clear c82
        by_cases c83 : x17_3 < (x10_2.length : Int)
        case neg =>
         rw [if_neg c83] at H
         exact absurd H (by simp)
        rw [if_pos c83] at H
        have c83b0 : decide (x17_3 < (x10_2.length : Int)) = true:=decide_eq_true c83
        clear c83
        by_cases c84 : x16_3.length < 17592186044416
        case neg =>
         rw [if_neg c84] at H
         exact absurd H (by simp)
        rw [if_pos c84] at H
        have LMc84:=Z0 c84
        clear c84
        obtain ⟨y166,hy166⟩ : ∃ y_ : List Int,y_ = (x16_3 ++ [Go.bits .and .i64 (wrap64 ((rd l0 x17_3) + (rd x10_2 x17_3))) 4294967295]):=⟨_,rfl⟩
        replace H : (spec_l7Block.l2 k3 l0 x10_2 y166 (wrap64 (x17_3 + 1))) = some r:=by first|(rw [hy166];with_reducible exact H)|(have H2_:=(Zg _ _).symm.trans H;rw [hy166];with_reducible exact H2_)|(have H2_:=(Zg _ _).symm.trans H;with_reducible exact H2_)|with_reducible exact H|(rw [hy166];exact H)|exact H
        have Ny166:=Z0 hy166
        clear hy166
        have H':=Z0 H
        clear H
        try go_wp2
        have n0_:=Z0 (Z4 HO_10.out)
        have n1_:=Z0 (Z4 HO_16.out)
        have n2_:=Z0 (Z5 HB.out)
        clear HO_10
        clear HO_16
        clear HB
        have HO_10:=n0_
        have HO_16:=n1_
        have HB:=n2_
        clear n0_ n1_ n2_
        have p164 : 0 ≤ (x17_3 : Int):=of_decide_eq_true (by first|(with_reducible assumption)|assumption)
        have q164 : x17_3 < (l0.length : Int):=of_decide_eq_true (by first|(with_reducible assumption)|assumption)
        obtain ⟨ad164,e164,hx164_0⟩:=Z9 HR0.out x17_3 p164 q164
        have hw164_0:=hx164_0
        cases e164
        replace hx164_0:=(HB.out.cell (World.block_lt_of_cell? w _ hx164_0)).trans hx164_0
        replace p164:=eq_true p164
        replace q164:=eq_true q164
        obtain ⟨Ao86,co86,eo86⟩:=Kd.R_slice HO_10.out
        (first|subst eo86|(injection eo86 with f1_ f2_ f3_;have f4_:=f1_.symm;have f5_:=f3_.symm;clear f1_ f2_ f3_;subst f4_;subst f5_))
        have p165 : 0 ≤ (x17_3 : Int):=of_decide_eq_true (by first|(with_reducible assumption)|assumption)
        have q165 : x17_3 < (x10_2.length : Int):=of_decide_eq_true (by first|(with_reducible assumption)|assumption)
        obtain ⟨ad165,e165,hx165_0⟩:=Z9 (Z7 HO_10.out).2.2 x17_3 p165 q165
        cases e165
        replace p165:=eq_true p165
        replace q165:=eq_true q165
        refine start_ (n:=14) (S:=fun w'=>w'.cell? (ad164.add (x17_3).toNat) = some (.int .i64 (rd l0 x17_3)) ∧ w'.cell? (ad165.add (x17_3).toNat) = some (.int .i64 (rd x10_2 x17_3))) (ds:=[11,12]) #[false,false,false,false,false,false,false,false,false,false,false,false,false,false] (by kernel_rfl) rfl rfl ⟨((HB.out.cell (World.block_lt_of_cell? w _ hw164_0)).trans hw164_0),hx165_0⟩ (fun hHeld=>?_);refine with_tabW spec_l7Block.tab24 spec_l7Block.bits24 (fun HT_ HW_=>?_)
        generalize wr.drew = w85 at HO_10 HO_16 HB hx164_0 hx165_0 hHeld ⊢
        refine pure_ (i:=0) (N:=some 215) (v:=?_) (a':=?_) #[true,false,false,false,false,false,false,false,false,false,false,false,false,false] rfl rfl (Za HT_.out (by kernel_rfl)) (fun _ _ _ h=>h) (Or.inl ⟨by rfl,?_⟩) ?_ ?_
        rotate_left
        · intro w'
          go_simp
          with_reducible rfl
        rotate_left
        · simp only [Act.put, Zd, Ze, Zf, Zb, Zc]
          rfl
        refine pure_ (i:=1) (N:=some 216) (v:=?_) (a':=?_) #[true,true,false,false,false,false,false,false,false,false,false,false,false,false] rfl rfl (Za HT_.out (by kernel_rfl)) (fun _ _ _ h=>h) (Or.inl ⟨by rfl,?_⟩) ?_ ?_
        rotate_left
        · intro w'
          go_simp
          with_reducible rfl
        rotate_left
        · simp only [Act.put, Zd, Ze, Zf, Zb, Zc]
          rfl
        refine pure_ (i:=2) (N:=some 217) (v:=?_) (a':=?_) #[true,true,true,false,false,false,false,false,false,false,false,false,false,false] rfl rfl (Za HT_.out (by kernel_rfl)) (fun _ _ _ h=>h) (Or.inl ⟨by rfl,?_⟩) ?_ ?_
        rotate_left
        · intro w'
          go_simp
          with_reducible rfl
        rotate_left
        · simp only [Act.put, Zd, Ze, Zf, Zb, Zc]
          rfl
        refine pure_ (i:=3) (N:=some 218) (v:=?_) (a':=?_) #[true,true,true,true,false,false,false,false,false,false,false,false,false,false] rfl rfl (Za HT_.out (by kernel_rfl)) (fun _ _ _ h=>h) (Or.inl ⟨by rfl,?_⟩) ?_ ?_
        rotate_left
        · intro w'
          go_simp
          with_reducible rfl
        rotate_left
        · simp only [Act.put, Zd, Ze, Zf, Zb, Zc]
          rfl
        refine pure_ (i:=5) (N:=some 220) (v:=?_) (a':=?_) #[true,true,true,true,false,true,false,false,false,false,false,false,false,false] rfl rfl (Za HT_.out (by kernel_rfl)) (fun _ _ _ h=>h) (Or.inl ⟨by rfl,?_⟩) ?_ ?_
        rotate_left
        · intro w'
          go_simp
          with_reducible rfl
        rotate_left
        · simp only [Act.put, Zd, Ze, Zf, Zb, Zc]
          rfl
        refine pure_ (i:=6) (N:=some 221) (v:=?_) (a':=?_) #[true,true,true,true,false,true,true,false,false,false,false,false,false,false] rfl rfl (Za HT_.out (by kernel_rfl)) (fun _ _ _ h=>h) (Or.inl ⟨by rfl,?_⟩) ?_ ?_
        rotate_left
        · intro w'
          go_simp
          with_reducible rfl
        rotate_left
        · simp only [Act.put, Zd, Ze, Zf, Zb, Zc]
          rfl
        refine pure_ (i:=7) (N:=some 222) (v:=?_) (a':=?_) #[true,true,true,true,false,true,true,true,false,false,false,false,false,false] rfl rfl (Za HT_.out (by kernel_rfl)) (fun _ _ _ h=>h) (Or.inl ⟨by rfl,?_⟩) ?_ ?_
        rotate_left
        · intro w'
          go_simp
          with_reducible rfl
        rotate_left
        · simp only [Act.put, Zd, Ze, Zf, Zb, Zc]
          rfl
        refine take_ (i:=4) (N:=some 219) (v:=?_) (a':=?_) #[true,true,true,true,true,true,true,true,false,false,false,false,false,false] rfl rfl (take_ofW HT_.out HW_.out (by kernel_rfl)) (fun _ _ _ h=>h) (Or.inl ⟨by rfl,?_⟩) hHeld ?_ ?_
        rotate_left
        · rintro w' ⟨s0, s1⟩
          go_simp
          with_reducible rfl
        rotate_left
        · simp only [Act.put, Zd, Ze, Zf, Zb, Zc]
          rfl
        refine take_ (i:=8) (N:=some 223) (v:=?_) (a':=?_) #[true,true,true,true,true,true,true,true,true,false,false,false,false,false] rfl rfl (take_ofW HT_.out HW_.out (by kernel_rfl)) (fun _ _ _ h=>h) (Or.inl ⟨by rfl,?_⟩) hHeld ?_ ?_
        rotate_left
        · rintro w' ⟨s0, s1⟩
          go_simp
          with_reducible rfl
        rotate_left
        · simp only [Act.put, Zd, Ze, Zf, Zb, Zc]
          rfl
        refine pure_ (i:=9) (N:=some 224) (v:=?_) (a':=?_) #[true,true,true,true,true,true,true,true,true,true,false,false,false,false] rfl rfl (Za HT_.out (by kernel_rfl)) (fun _ _ _ h=>h) (Or.inl ⟨by rfl,?_⟩) ?_ ?_
        rotate_left
        · intro w'
          go_simp
          with_reducible rfl
        rotate_left
        · simp only [Act.put, Zd, Ze, Zf, Zb, Zc]
          rfl
        refine pure_ (i:=10) (N:=some 225) (v:=?_) (a':=?_) #[true,true,true,true,true,true,true,true,true,true,true,false,false,false] rfl rfl (Za HT_.out (by kernel_rfl)) (fun _ _ _ h=>h) (Or.inl ⟨by rfl,?_⟩) ?_ ?_
        rotate_left
        · intro w'
          go_simp
          with_reducible rfl
        rotate_left
        · simp only [Act.put, Zd, Ze, Zf, Zb, Zc]
          rfl
        refine last_ (i:=11) (N:=some 226) #[true,true,true,true,true,true,true,true,true,true,true,true,false,false] rfl rfl (one_of HT_.out (by kernel_rfl)) (by decide) (fun K hK=>?_)
        refine value_ (w1:=?_) (v:=?_) (by rfl) rfl ?_ ?_
        rotate_left 2
        · go_simp
          constructor
          · rfl
          · rfl
        refine hK.out _ _ ?_
        clear hK K
        refine norm_ (a':=?_) ?_ ?_
        rotate_left
        · show Act.put _ (some 226) _ = _
          simp only [Act.put,Zd,Ze,Zf,Zb,Zc]
          rfl
        refine last_ (i:=12) (N:=some 227) #[true,true,true,true,true,true,true,true,true,true,true,true,true,false] rfl rfl (one_of HT_.out (by kernel_rfl)) (by decide) (fun K hK=>?_)
        refine Kd.R_append_step (Kd.int .i64) (w0:=w) w.heap.size (by rfl) (.tmp 215) (.tmp 226) 29 3 (.int .i64 0) 8 rfl Try.underlying29 info3 rfl (by decide) (by omega) u16 x16_3 (Go.bits .and .i64 (wrap64 ((rd l0 x17_3) + (rd x10_2 x17_3))) 4294967295) [.int .i64 (Go.bits .and .i64 (wrap64 ((rd l0 x17_3) + (rd x10_2 x17_3))) 4294967295)] (fun k_=>some k_ ≠ (.slice (some ad165) x10_2.length co86 : Value).ownBlock) (fun _=>False) rfl rfl ?aP (fun _ hk=>hk.elim) ?aF ?aO ?aB ?aS ?aL ?_
        (case aP=>exact rfl)
        (case aB=>exact (by repeat (first|(with_reducible first|exact HB.out|apply Z6|apply Z1|apply Z5)|exact HB.out)))
        (case aF=>exact (fun k_ hk=>Kd.fresh' (Kd.R_lt (by (with_reducible repeat (first|apply Z3|apply Z2|apply Z4));exact HO_10.out)) k_ hk))
        (case aO=>exact (by (with_reducible repeat (first|apply Z3|apply Z2|apply Z4));exact HO_16.out))
        (case aS=>exact (below_size (by repeat (first|(with_reducible first|exact HB.out|apply Z6|apply Z1|apply Z5)|exact HB.out))))
        (case aL=>have:=LMc84.out;omega)
        intro v167 w87 ho hb hg hat
        rw [← Ny166.out] at ho
        have n0_:=Z0 (Kd.R_after (ok:=(fun _=>True)) (by (with_reducible repeat (first|apply Z3|apply Z2|apply Z4));exact Kd.R_mono HO_10.out (fun _ hk=>⟨trivial,hk⟩)) hg hat)
        have n1_:=Z0 (hb)
        have n2_:=Z0 (ho)
        clear HO_10
        clear HB
        clear HO_16
        have HO_10:=n0_
        have HB:=n1_
        have HO168:=n2_
        clear n0_ n1_ n2_
        clear ho hb hg hat
        refine hK.out _ _ ?_
        clear hK K
        refine norm_ (a':=?_) ?_ ?_
        rotate_left
        · show Act.put _ (some 227) _ = _
          simp only [Act.put,Zd,Ze,Zf,Zb,Zc]
          rfl
        refine pure_ (i:=13) (N:=some 16) (v:=?_) (a':=?_) #[true,true,true,true,true,true,true,true,true,true,true,true,true,true] rfl rfl (Za HT_.out (by kernel_rfl)) (fun _ _ _ h=>h) (Or.inl ⟨by rfl,?_⟩) ?_ ?_
        rotate_left
        · intro w'
          go_simp
          with_reducible rfl
        rotate_left
        · simp only [Act.put, Zd, Ze, Zf, Zb, Zc]
          rfl
        refine done_ (done_of HT_.out (by kernel_rfl)) ?_
        try go_wp2
        go_roundg k3
        case measure=>have:=HK1.out;have:=HK2.out;have:=HK3.out;omega
        case rel=>exact ⟨(y166),(wrap64 (x17_3 + 1)),(by first|rfl|(simp;done)|(simp [*];done)),H',⟨by have:=HK1.out;have:=HK2.out;have:=HK3.out;omega⟩,⟨by (with_reducible repeat (first|apply Z3|apply Z2|apply Z4));exact Kd.R_mono HO_10.out (fun _ hk=>hk.2)⟩,⟨by (with_reducible repeat (first|apply Z3|apply Z2|apply Z4));exact HO168.out⟩,⟨by repeat (first|(with_reducible first|exact HB.out|apply Z6|apply Z1|apply Z5)|exact HB.out)⟩⟩
     rw [if_pos c52] at H
     have c52b0 : decide (x11_2 < 64) = true:=decide_eq_true c52
     clear c52
     by_cases c53 : 0 < (x10_2.length : Int)
     case neg =>
      rw [if_neg c53] at H
      exact absurd H (by simp)
     rw [if_pos c53] at H
     have c53b0 : decide (0 < (x10_2.length : Int)) = true:=decide_eq_true c53
     have c53b1 : decide (0 < x10_2.length) = true:=decide_eq_true (by omega)
     clear c53
     by_cases c54 : 4 < (x10_2.length : Int)
     case neg =>
      rw [if_neg c54] at H
      exact absurd H (by simp)
     rw [if_pos c54] at H
     have c54b0 : decide (4 < (x10_2.length : Int)) = true:=decide_eq_true c54
     have c54b1 : decide (4 < x10_2.length) = true:=decide_eq_true (by omega)
     clear c54
     by_cases c55 : 7 < (x10_2.length : Int)
     case neg =>
      rw [if_neg c55] at H
      exact absurd H (by simp)
     rw [if_pos c55] at H
     have c55b0 : decide (7 < (x10_2.length : Int)) = true:=decide_eq_true c55
     have c55b1 : decide (7 < x10_2.length) = true:=decide_eq_true (by omega)
     clear c55
     replace H:=Option.bind_eq_some_iff.mp H
     obtain ⟨t137,A560,H⟩:=H
     replace H : ((spec_l7Rot.f (rd x10_2 4) 11).bind fun t138=>((spec_l7Rot.f (rd x10_2 4) 25).bind fun t139=>(if 5 < (x10_2.length : Int) then (if 6 < (x10_2.length : Int) then (if 0 ≤ x11_2 then (if x11_2 < (t125.length : Int) then (if x11_2 < (x5_1.length : Int) then ((spec_l7Rot.f (rd x10_2 0) 2).bind fun t144=>((spec_l7Rot.f (rd x10_2 0) 13).bind fun t145=>((spec_l7Rot.f (rd x10_2 0) 22).bind fun t146=>(if 1 < (x10_2.length : Int) then (if 2 < (x10_2.length : Int) then (if 3 < (x10_2.length : Int) then (spec_l7Block.l1 k2 l0 x5_1 t125 (([Go.bits .and .i64 (wrap64 ((wrap64 ((wrap64 ((wrap64 ((wrap64 ((rd x10_2 7) + (Go.bits .xor .i64 (Go.bits .xor .i64 t137 t138) t139))) + (Go.bits .xor .i64 (Go.bits .and .i64 (rd x10_2 4) (rd x10_2 5)) (Go.bits .and .i64 (wrap64 (4294967295 - (rd x10_2 4))) (rd x10_2 6))))) + (rd t125 x11_2))) + (rd x5_1 x11_2))) + (wrap64 ((Go.bits .xor .i64 (Go.bits .xor .i64 t144 t145) t146) + (Go.bits .xor .i64 (Go.bits .xor .i64 (Go.bits .and .i64 (rd x10_2 0) (rd x10_2 1)) (Go.bits .and .i64 (rd x10_2 0) (rd x10_2 2))) (Go.bits .and .i64 (rd x10_2 1) (rd x10_2 2))))))) 4294967295,rd x10_2 0,rd x10_2 1,rd x10_2 2,Go.bits .and .i64 (wrap64 ((rd x10_2 3) + (wrap64 ((wrap64 ((wrap64 ((wrap64 ((rd x10_2 7) + (Go.bits .xor .i64 (Go.bits .xor .i64 t137 t138) t139))) + (Go.bits .xor .i64 (Go.bits .and .i64 (rd x10_2 4) (rd x10_2 5)) (Go.bits .and .i64 (wrap64 (4294967295 - (rd x10_2 4))) (rd x10_2 6))))) + (rd t125 x11_2))) + (rd x5_1 x11_2))))) 4294967295,rd x10_2 4,rd x10_2 5,rd x10_2 6] : List Int)) (wrap64 (x11_2 + 1))) else (none)) else (none)) else (none))))) else (none)) else (none)) else (none)) else (none)) else (none)))) = some r:=H
     have A56:=Z0 A560
     clear A560
     replace H:=Option.bind_eq_some_iff.mp H
     obtain ⟨t138,A570,H⟩:=H
     replace H : ((spec_l7Rot.f (rd x10_2 4) 25).bind fun t139=>(if 5 < (x10_2.length : Int) then (if 6 < (x10_2.length : Int) then (if 0 ≤ x11_2 then (if x11_2 < (t125.length : Int) then (if x11_2 < (x5_1.length : Int) then ((spec_l7Rot.f (rd x10_2 0) 2).bind fun t144=>((spec_l7Rot.f (rd x10_2 0) 13).bind fun t145=>((spec_l7Rot.f (rd x10_2 0) 22).bind fun t146=>(if 1 < (x10_2.length : Int) then (if 2 < (x10_2.length : Int) then (if 3 < (x10_2.length : Int) then (spec_l7Block.l1 k2 l0 x5_1 t125 (([Go.bits .and .i64 (wrap64 ((wrap64 ((wrap64 ((wrap64 ((wrap64 ((rd x10_2 7) + (Go.bits .xor .i64 (Go.bits .xor .i64 t137 t138) t139))) + (Go.bits .xor .i64 (Go.bits .and .i64 (rd x10_2 4) (rd x10_2 5)) (Go.bits .and .i64 (wrap64 (4294967295 - (rd x10_2 4))) (rd x10_2 6))))) + (rd t125 x11_2))) + (rd x5_1 x11_2))) + (wrap64 ((Go.bits .xor .i64 (Go.bits .xor .i64 t144 t145) t146) + (Go.bits .xor .i64 (Go.bits .xor .i64 (Go.bits .and .i64 (rd x10_2 0) (rd x10_2 1)) (Go.bits .and .i64 (rd x10_2 0) (rd x10_2 2))) (Go.bits .and .i64 (rd x10_2 1) (rd x10_2 2))))))) 4294967295,rd x10_2 0,rd x10_2 1,rd x10_2 2,Go.bits .and .i64 (wrap64 ((rd x10_2 3) + (wrap64 ((wrap64 ((wrap64 ((wrap64 ((rd x10_2 7) + (Go.bits .xor .i64 (Go.bits .xor .i64 t137 t138) t139))) + (Go.bits .xor .i64 (Go.bits .and .i64 (rd x10_2 4) (rd x10_2 5)) (Go.bits .and .i64 (wrap64 (4294967295 - (rd x10_2 4))) (rd x10_2 6))))) + (rd t125 x11_2))) + (rd x5_1 x11_2))))) 4294967295,rd x10_2 4,rd x10_2 5,rd x10_2 6] : List Int)) (wrap64 (x11_2 + 1))) else (none)) else (none)) else (none))))) else (none)) else (none)) else (none)) else (none)) else (none))) = some r:=H
     have A57:=Z0 A570
     clear A570
     replace H:=Option.bind_eq_some_iff.mp H
     obtain ⟨t139,A580,H⟩:=H
     replace H : (if 5 < (x10_2.length : Int) then (if 6 < (x10_2.length : Int) then (if 0 ≤ x11_2 then (if x11_2 < (t125.length : Int) then (if x11_2 < (x5_1.length : Int) then ((spec_l7Rot.f (rd x10_2 0) 2).bind fun t144=>((spec_l7Rot.f (rd x10_2 0) 13).bind fun t145=>((spec_l7Rot.f (rd x10_2 0) 22).bind fun t146=>(if 1 < (x10_2.length : Int) then (if 2 < (x10_2.length : Int) then (if 3 < (x10_2.length : Int) then (spec_l7Block.l1 k2 l0 x5_1 t125 (([Go.bits .and .i64 (wrap64 ((wrap64 ((wrap64 ((wrap64 ((wrap64 ((rd x10_2 7) + (Go.bits .xor .i64 (Go.bits .xor .i64 t137 t138) t139))) + (Go.bits .xor .i64 (Go.bits .and .i64 (rd x10_2 4) (rd x10_2 5)) (Go.bits .and .i64 (wrap64 (4294967295 - (rd x10_2 4))) (rd x10_2 6))))) + (rd t125 x11_2))) + (rd x5_1 x11_2))) + (wrap64 ((Go.bits .xor .i64 (Go.bits .xor .i64 t144 t145) t146) + (Go.bits .xor .i64 (Go.bits .xor .i64 (Go.bits .and .i64 (rd x10_2 0) (rd x10_2 1)) (Go.bits .and .i64 (rd x10_2 0) (rd x10_2 2))) (Go.bits .and .i64 (rd x10_2 1) (rd x10_2 2))))))) 4294967295,rd x10_2 0,rd x10_2 1,rd x10_2 2,Go.bits .and .i64 (wrap64 ((rd x10_2 3) + (wrap64 ((wrap64 ((wrap64 ((wrap64 ((rd x10_2 7) + (Go.bits .xor .i64 (Go.bits .xor .i64 t137 t138) t139))) + (Go.bits .xor .i64 (Go.bits .and .i64 (rd x10_2 4) (rd x10_2 5)) (Go.bits .and .i64 (wrap64 (4294967295 - (rd x10_2 4))) (rd x10_2 6))))) + (rd t125 x11_2))) + (rd x5_1 x11_2))))) 4294967295,rd x10_2 4,rd x10_2 5,rd x10_2 6] : List Int)) (wrap64 (x11_2 + 1))) else (none)) else (none)) else (none))))) else (none)) else (none)) else (none)) else (none)) else (none)) = some r:=H
     have A58:=Z0 A580
     clear A580
     by_cases c59 : 5 < (x10_2.length : Int)
     case neg =>
      rw [if_neg c59] at H
      exact absurd H (by simp)
     rw [if_pos c59] at H
     have c59b0 : decide (5 < (x10_2.length : Int)) = true:=decide_eq_true c59
     have c59b1 : decide (5 < x10_2.length) = true:=decide_eq_true (by omega)
     clear c59
     by_cases c60 : 6 < (x10_2.length : Int)
     case neg =>
      rw [if_neg c60] at H
      exact absurd H (by simp)
     rw [if_pos c60] at H
     have c60b0 : decide (6 < (x10_2.length : Int)) = true:=decide_eq_true c60
     have c60b1 : decide (6 < x10_2.length) = true:=decide_eq_true (by omega)
     clear c60
     by_cases c61 : 0 ≤ x11_2
     case neg =>
      rw [if_neg c61] at H
      exact absurd H (by simp)
     rw [if_pos c61] at H
     have c61b0 : decide (0 ≤ x11_2) = true:=decide_eq_true c61
     clear c61
     by_cases c62 : x11_2 < (t125.length : Int)
     case neg =>
      rw [if_neg c62] at H
      exact absurd H (by simp)
     rw [if_pos c62] at H
     have c62b0 : decide (x11_2 < (t125.length : Int)) = true:=decide_eq_true c62
     clear c62
     by_cases c63 : x11_2 < (x5_1.length : Int)
     case neg =>
      rw [if_neg c63] at H
      exact absurd H (by simp)
     rw [if_pos c63] at H
     have c63b0 : decide (x11_2 < (x5_1.length : Int)) = true:=decide_eq_true c63
     clear c63
     replace H:=Option.bind_eq_some_iff.mp H
     obtain ⟨t144,A640,H⟩:=H
     replace H : ((spec_l7Rot.f (rd x10_2 0) 13).bind fun t145=>((spec_l7Rot.f (rd x10_2 0) 22).bind fun t146=>(if 1 < (x10_2.length : Int) then (if 2 < (x10_2.length : Int) then (if 3 < (x10_2.length : Int) then (spec_l7Block.l1 k2 l0 x5_1 t125 (([Go.bits .and .i64 (wrap64 ((wrap64 ((wrap64 ((wrap64 ((wrap64 ((rd x10_2 7) + (Go.bits .xor .i64 (Go.bits .xor .i64 t137 t138) t139))) + (Go.bits .xor .i64 (Go.bits .and .i64 (rd x10_2 4) (rd x10_2 5)) (Go.bits .and .i64 (wrap64 (4294967295 - (rd x10_2 4))) (rd x10_2 6))))) + (rd t125 x11_2))) + (rd x5_1 x11_2))) + (wrap64 ((Go.bits .xor .i64 (Go.bits .xor .i64 t144 t145) t146) + (Go.bits .xor .i64 (Go.bits .xor .i64 (Go.bits .and .i64 (rd x10_2 0) (rd x10_2 1)) (Go.bits .and .i64 (rd x10_2 0) (rd x10_2 2))) (Go.bits .and .i64 (rd x10_2 1) (rd x10_2 2))))))) 4294967295,rd x10_2 0,rd x10_2 1,rd x10_2 2,Go.bits .and .i64 (wrap64 ((rd x10_2 3) + (wrap64 ((wrap64 ((wrap64 ((wrap64 ((rd x10_2 7) + (Go.bits .xor .i64 (Go.bits .xor .i64 t137 t138) t139))) + (Go.bits .xor .i64 (Go.bits .and .i64 (rd x10_2 4) (rd x10_2 5)) (Go.bits .and .i64 (wrap64 (4294967295 - (rd x10_2 4))) (rd x10_2 6))))) + (rd t125 x11_2))) + (rd x5_1 x11_2))))) 4294967295,rd x10_2 4,rd x10_2 5,rd x10_2 6] : List Int)) (wrap64 (x11_2 + 1))) else (none)) else (none)) else (none)))) = some r:=H
     have A64:=Z0 A640
     clear A640
     replace H:=Option.bind_eq_some_iff.mp H
     obtain ⟨t145,A650,H⟩:=H
     replace H : ((spec_l7Rot.f (rd x10_2 0) 22).bind fun t146=>(if 1 < (x10_2.length : Int) then (if 2 < (x10_2.length : Int) then (if 3 < (x10_2.length : Int) then (spec_l7Block.l1 k2 l0 x5_1 t125 (([Go.bits .and .i64 (wrap64 ((wrap64 ((wrap64 ((wrap64 ((wrap64 ((rd x10_2 7) + (Go.bits .xor .i64 (Go.bits .xor .i64 t137 t138) t139))) + (Go.bits .xor .i64 (Go.bits .and .i64 (rd x10_2 4) (rd x10_2 5)) (Go.bits .and .i64 (wrap64 (4294967295 - (rd x10_2 4))) (rd x10_2 6))))) + (rd t125 x11_2))) + (rd x5_1 x11_2))) + (wrap64 ((Go.bits .xor .i64 (Go.bits .xor .i64 t144 t145) t146) + (Go.bits .xor .i64 (Go.bits .xor .i64 (Go.bits .and .i64 (rd x10_2 0) (rd x10_2 1)) (Go.bits .and .i64 (rd x10_2 0) (rd x10_2 2))) (Go.bits .and .i64 (rd x10_2 1) (rd x10_2 2))))))) 4294967295,rd x10_2 0,rd x10_2 1,rd x10_2 2,Go.bits .and .i64 (wrap64 ((rd x10_2 3) + (wrap64 ((wrap64 ((wrap64 ((wrap64 ((rd x10_2 7) + (Go.bits .xor .i64 (Go.bits .xor .i64 t137 t138) t139))) + (Go.bits .xor .i64 (Go.bits .and .i64 (rd x10_2 4) (rd x10_2 5)) (Go.bits .and .i64 (wrap64 (4294967295 - (rd x10_2 4))) (rd x10_2 6))))) + (rd t125 x11_2))) + (rd x5_1 x11_2))))) 4294967295,rd x10_2 4,rd x10_2 5,rd x10_2 6] : List Int)) (wrap64 (x11_2 + 1))) else (none)) else (none)) else (none))) = some r:=H
     have A65:=Z0 A650
     clear A650
     replace H:=Option.bind_eq_some_iff.mp H
     obtain ⟨t146,A660,H⟩:=H
     replace H : (if 1 < (x10_2.length : Int) then (if 2 < (x10_2.length : Int) then (if 3 < (x10_2.length : Int) then (spec_l7Block.l1 k2 l0 x5_1 t125 (([Go.bits .and .i64 (wrap64 ((wrap64 ((wrap64 ((wrap64 ((wrap64 ((rd x10_2 7) + (Go.bits .xor .i64 (Go.bits .xor .i64 t137 t138) t139))) + (Go.bits .xor .i64 (Go.bits .and .i64 (rd x10_2 4) (rd x10_2 5)) (Go.bits .and .i64 (wrap64 (4294967295 - (rd x10_2 4))) (rd x10_2 6))))) + (rd t125 x11_2))) + (rd x5_1 x11_2))) + (wrap64 ((Go.bits .xor .i64 (Go.bits .xor .i64 t144 t145) t146) + (Go.bits .xor .i64 (Go.bits .xor .i64 (Go.bits .and .i64 (rd x10_2 0) (rd x10_2 1)) (Go.bits .and .i64 (rd x10_2 0) (rd x10_2 2))) (Go.bits .and .i64 (rd x10_2 1) (rd x10_2 2))))))) 4294967295,rd x10_2 0,rd x10_2 1,rd x10_2 2,Go.bits .and .i64 (wrap64 ((rd x10_2 3) + (wrap64 ((wrap64 ((wrap64 ((wrap64 ((rd x10_2 7) + (Go.bits .xor .i64 (Go.bits .xor .i64 t137 t138) t139))) + (Go.bits .xor .i64 (Go.bits .and .i64 (rd x10_2 4) (rd x10_2 5)) (Go.bits .and .i64 (wrap64 (4294967295 - (rd x10_2 4))) (rd x10_2 6))))) + (rd t125 x11_2))) + (rd x5_1 x11_2))))) 4294967295,rd x10_2 4,rd x10_2 5,rd x10_2 6] : List Int)) (wrap64 (x11_2 + 1))) else (none)) else (none)) else (none)) = some r:=H
     have A66:=Z0 A660
     clear A660
     by_cases c67 : 1 < (x10_2.length : Int)
     case neg =>
      rw [if_neg c67] at H
      exact absurd H (by simp)
     rw [if_pos c67] at H
     have c67b0 : decide (1 < (x10_2.length : Int)) = true:=decide_eq_true c67
     have c67b1 : decide (1 < x10_2.length) = true:=decide_eq_true (by omega)
     clear c67
     by_cases c68 : 2 < (x10_2.length : Int)
     case neg =>
      rw [if_neg c68] at H
      exact absurd H (by simp)
     rw [if_pos c68] at H
     have c68b0 : decide (2 < (x10_2.length : Int)) = true:=decide_eq_true c68
     have c68b1 : decide (2 < x10_2.length) = true:=decide_eq_true (by omega)
     clear c68
     by_cases c69 : 3 < (x10_2.length : Int)
     case neg =>
      rw [if_neg c69] at H
      exact absurd H (by simp)
     rw [if_pos c69] at H
     have c69b0 : decide (3 < (x10_2.length : Int)) = true:=decide_eq_true c69
     have c69b1 : decide (3 < x10_2.length) = true:=decide_eq_true (by omega)
     clear c69
     obtain ⟨y158,hy158⟩ : ∃ y_ : List Int,y_ = (([Go.bits .and .i64 (wrap64 ((wrap64 ((wrap64 ((wrap64 ((wrap64 ((rd x10_2 7) + (Go.bits .xor .i64 (Go.bits .xor .i64 t137 t138) t139))) + (Go.bits .xor .i64 (Go.bits .and .i64 (rd x10_2 4) (rd x10_2 5)) (Go.bits .and .i64 (wrap64 (4294967295 - (rd x10_2 4))) (rd x10_2 6))))) + (rd t125 x11_2))) + (rd x5_1 x11_2))) + (wrap64 ((Go.bits .xor .i64 (Go.bits .xor .i64 t144 t145) t146) + (Go.bits .xor .i64 (Go.bits .xor .i64 (Go.bits .and .i64 (rd x10_2 0) (rd x10_2 1)) (Go.bits .and .i64 (rd x10_2 0) (rd x10_2 2))) (Go.bits .and .i64 (rd x10_2 1) (rd x10_2 2))))))) 4294967295,rd x10_2 0,rd x10_2 1,rd x10_2 2,Go.bits .and .i64 (wrap64 ((rd x10_2 3) + (wrap64 ((wrap64 ((wrap64 ((wrap64 ((rd x10_2 7) + (Go.bits .xor .i64 (Go.bits .xor .i64 t137 t138) t139))) + (Go.bits .xor .i64 (Go.bits .and .i64 (rd x10_2 4) (rd x10_2 5)) (Go.bits .and .i64 (wrap64 (4294967295 - (rd x10_2 4))) (rd x10_2 6))))) + (rd t125 x11_2))) + (rd x5_1 x11_2))))) 4294967295,rd x10_2 4,rd x10_2 5,rd x10_2 6] : List Int)):=⟨_,rfl⟩
     replace H : (spec_l7Block.l1 k2 l0 x5_1 t125 y158 (wrap64 (x11_2 + 1))) = some r:=by first|(rw [hy158];with_reducible exact H)|(have H2_:=(Zg _ _).symm.trans H;rw [hy158];with_reducible exact H2_)|(have H2_:=(Zg _ _).symm.trans H;with_reducible exact H2_)|with_reducible exact H|(rw [hy158];exact H)|exact H
     have Ny158:=Z0 hy158
     clear hy158
     have H':=Z0 H
     clear H
     obtain ⟨Ao70,co70,eo70⟩:=Kd.R_slice HO_10.out
     subst eo70
     have p134 : 0 ≤ (0 : Int):=(by omega)
     have q134 : 0 < (x10_2.length : Int):=of_decide_eq_true (by first|(with_reducible assumption)|assumption)
     obtain ⟨ad134,e134,hx134_0⟩:=Z9 (Z7 HO_10.out).2.2 0 p134 q134
     cases e134
     have qi134 : (0 < x10_2.length) = True:=eq_true (by omega)
     (try rw [show ((0 : Int)).toNat = 0 from rfl] at hx134_0)
     (try rw [Addr.add_zero'] at hx134_0)
     replace p134:=eq_true p134
     replace q134:=eq_true q134
     have p135 : 0 ≤ (4 : Int):=(by omega)
     have q135 : 4 < (x10_2.length : Int):=of_decide_eq_true (by first|(with_reducible assumption)|assumption)
     obtain ⟨ad135,e135,hx135_0⟩:=Z9 (Z7 HO_10.out).2.2 4 p135 q135
     obtain rfl : ad134 = ad135:=(by injection e135)
     (try simp only [show (4 : Int).toNat = 4 from rfl,Nat.reduceMul,Nat.reduceEqDiff,Go.Addr.add,↓reduceIte] at hx135_0)
     have qi135 : (4 < x10_2.length) = True:=eq_true (by omega)
     (try rw [show ((4 : Int)).toNat = 4 from rfl] at hx135_0)
     replace p135:=eq_true p135
     replace q135:=eq_true q135
     try go_wp2
     have n0_:=Z0 (Z4 HO_5.out)
     have n1_:=Z0 (Z4 HO_9.out)
     have n2_:=Z0 (Z4 HO_10.out)
     have n3_:=Z0 (Z5 HB.out)
     clear HO_5
     clear HO_9
     clear HO_10
     clear HB
     have HO_5:=n0_
     have HO_9:=n1_
     have HO_10:=n2_
     have HB:=n3_
     clear n0_ n1_ n2_ n3_
     have p136 : 0 ≤ (7 : Int):=(by omega)
     have q136 : 7 < (x10_2.length : Int):=of_decide_eq_true (by first|(with_reducible assumption)|assumption)
     obtain ⟨ad136,e136,hx136_0⟩:=Z9 (Z7 HO_10.out).2.2 7 p136 q136
     obtain rfl : ad134 = ad136:=(by injection e136)
     (try simp only [show (7 : Int).toNat = 7 from rfl,Nat.reduceMul,Nat.reduceEqDiff,Go.Addr.add,↓reduceIte] at hx136_0)
     have qi136 : (7 < x10_2.length) = True:=eq_true (by omega)
     (try rw [show ((7 : Int)).toNat = 7 from rfl] at hx136_0)
     replace p136:=eq_true p136
     replace q136:=eq_true q136
     have p140 : 0 ≤ (5 : Int):=(by omega)
     have q140 : 5 < (x10_2.length : Int):=of_decide_eq_true (by first|(with_reducible assumption)|assumption)
     obtain ⟨ad140,e140,hx140_0⟩:=Z9 (Z7 HO_10.out).2.2 5 p140 q140
     obtain rfl : ad134 = ad140:=(by injection e140)
     (try simp only [show (5 : Int).toNat = 5 from rfl,Nat.reduceMul,Nat.reduceEqDiff,Go.Addr.add,↓reduceIte] at hx140_0)
     have qi140 : (5 < x10_2.length) = True:=eq_true (by omega)
     (try rw [show ((5 : Int)).toNat = 5 from rfl] at hx140_0)
     replace p140:=eq_true p140
     replace q140:=eq_true q140
     have p141 : 0 ≤ (6 : Int):=(by omega)
     have q141 : 6 < (x10_2.length : Int):=of_decide_eq_true (by first|(with_reducible assumption)|assumption)
     obtain ⟨ad141,e141,hx141_0⟩:=Z9 (Z7 HO_10.out).2.2 6 p141 q141
     obtain rfl : ad134 = ad141:=(by injection e141)
     (try simp only [show (6 : Int).toNat = 6 from rfl,Nat.reduceMul,Nat.reduceEqDiff,Go.Addr.add,↓reduceIte] at hx141_0)
     have qi141 : (6 < x10_2.length) = True:=eq_true (by omega)
     (try rw [show ((6 : Int)).toNat = 6 from rfl] at hx141_0)
     replace p141:=eq_true p141
     replace q141:=eq_true q141
     obtain ⟨Ao72,co72,eo72⟩:=Kd.R_slice HO_9.out
     (first|subst eo72|(injection eo72 with f1_ f2_ f3_;have f4_:=f1_.symm;have f5_:=f3_.symm;clear f1_ f2_ f3_;subst f4_;subst f5_))
     have p142 : 0 ≤ (x11_2 : Int):=of_decide_eq_true (by first|(with_reducible assumption)|assumption)
     have q142 : x11_2 < (t125.length : Int):=of_decide_eq_true (by first|(with_reducible assumption)|assumption)
     obtain ⟨ad142,e142,hx142_0⟩:=Z9 (Z7 HO_9.out).2.2 x11_2 p142 q142
     cases e142
     replace p142:=eq_true p142
     replace q142:=eq_true q142
     obtain ⟨Ao73,co73,eo73⟩:=Kd.R_slice HO_5.out
     (first|subst eo73|(injection eo73 with f1_ f2_ f3_;have f4_:=f1_.symm;have f5_:=f3_.symm;clear f1_ f2_ f3_;subst f4_;subst f5_))
     have p143 : 0 ≤ (x11_2 : Int):=of_decide_eq_true (by first|(with_reducible assumption)|assumption)
     have q143 : x11_2 < (x5_1.length : Int):=of_decide_eq_true (by first|(with_reducible assumption)|assumption)
     obtain ⟨ad143,e143,hx143_0⟩:=Z9 (Z7 HO_5.out).2.2 x11_2 p143 q143
     cases e143
     replace p143:=eq_true p143
     replace q143:=eq_true q143
     refine start_ (n:=36) (S:=fun w'=>w'.cell? ⟨ad134.block,ad134.off + 7,none⟩ = some (.int .i64 (rd x10_2 7)) ∧ w'.cell? ⟨ad134.block,ad134.off + 5,none⟩ = some (.int .i64 (rd x10_2 5)) ∧ w'.cell? ⟨ad134.block,ad134.off + 6,none⟩ = some (.int .i64 (rd x10_2 6)) ∧ w'.cell? (ad142.add (x11_2).toNat) = some (.int .i64 (rd t125 x11_2)) ∧ w'.cell? (ad143.add (x11_2).toNat) = some (.int .i64 (rd x5_1 x11_2))) (ds:=[]) #[false,false,false,false,false,false,false,false,false,false,false,false,false,false,false,false,false,false,false,false,false,false,false,false,false,false,false,false,false,false,false,false,false,false,false,false] (by kernel_rfl) rfl rfl ⟨hx136_0,hx140_0,hx141_0,hx142_0,hx143_0⟩ (fun hHeld=>?_);refine with_tabW spec_l7Block.tab17 spec_l7Block.bits17 (fun HT_ HW_=>?_)
     generalize wr.drew = w71 at HO_5 HO_9 HO_10 HB hx136_0 hx140_0 hx141_0 hx142_0 hx143_0 hHeld ⊢
     refine pure_ (i:=0) (N:=some 118) (v:=?_) (a':=?_) #[true,false,false,false,false,false,false,false,false,false,false,false,false,false,false,false,false,false,false,false,false,false,false,false,false,false,false,false,false,false,false,false,false,false,false,false] rfl rfl (Za HT_.out (by kernel_rfl)) (fun _ _ _ h=>h) (Or.inl ⟨by rfl,?_⟩) ?_ ?_
     rotate_left
     · intro w'
       go_simp
       with_reducible rfl
     rotate_left
     · simp only [Act.put, Zd, Ze, Zf, Zb, Zc]
       rfl
     refine pure_ (i:=1) (N:=some 119) (v:=?_) (a':=?_) #[true,true,false,false,false,false,false,false,false,false,false,false,false,false,false,false,false,false,false,false,false,false,false,false,false,false,false,false,false,false,false,false,false,false,false,false] rfl rfl (Za HT_.out (by kernel_rfl)) (fun _ _ _ h=>h) (Or.inl ⟨by rfl,?_⟩) ?_ ?_
     rotate_left
     · intro w'
       go_simp
       with_reducible rfl
     rotate_left
     · simp only [Act.put, Zd, Ze, Zf, Zb, Zc]
       rfl
     refine pure_ (i:=3) (N:=some 121) (v:=?_) (a':=?_) #[true,true,false,true,false,false,false,false,false,false,false,false,false,false,false,false,false,false,false,false,false,false,false,false,false,false,false,false,false,false,false,false,false,false,false,false] rfl rfl (Za HT_.out (by kernel_rfl)) (fun _ _ _ h=>h) (Or.inl ⟨by rfl,?_⟩) ?_ ?_
     rotate_left
     · intro w'
       go_simp
       with_reducible rfl
     rotate_left
     · simp only [Act.put, Zd, Ze, Zf, Zb, Zc]
       rfl
     refine pure_ (i:=5) (N:=some 123) (v:=?_) (a':=?_) #[true,true,false,true,false,true,false,false,false,false,false,false,false,false,false,false,false,false,false,false,false,false,false,false,false,false,false,false,false,false,false,false,false,false,false,false] rfl rfl (Za HT_.out (by kernel_rfl)) (fun _ _ _ h=>h) (Or.inl ⟨by rfl,?_⟩) ?_ ?_
     rotate_left
     · intro w'
       go_simp
       with_reducible rfl
     rotate_left
     · simp only [Act.put, Zd, Ze, Zf, Zb, Zc]
       rfl
     refine pure_ (i:=8) (N:=some 126) (v:=?_) (a':=?_) #[true,true,false,true,false,true,false,false,true,false,false,false,false,false,false,false,false,false,false,false,false,false,false,false,false,false,false,false,false,false,false,false,false,false,false,false] rfl rfl (Za HT_.out (by kernel_rfl)) (fun _ _ _ h=>h) (Or.inl ⟨by rfl,?_⟩) ?_ ?_
     rotate_left
     · intro w'
       go_simp
       with_reducible rfl
     rotate_left
     · simp only [Act.put, Zd, Ze, Zf, Zb, Zc]
       rfl
     refine pure_ (i:=12) (N:=some 130) (v:=?_) (a':=?_) #[true,true,false,true,false,true,false,false,true,false,false,false,true,false,false,false,false,false,false,false,false,false,false,false,false,false,false,false,false,false,false,false,false,false,false,false] rfl rfl (Za HT_.out (by kernel_rfl)) (fun _ _ _ h=>h) (Or.inl ⟨by rfl,?_⟩) ?_ ?_
     rotate_left
     · intro w'
       go_simp
       with_reducible rfl
     rotate_left
     · simp only [Act.put, Zd, Ze, Zf, Zb, Zc]
       rfl
     refine pure_ (i:=13) (N:=some 131) (v:=?_) (a':=?_) #[true,true,false,true,false,true,false,false,true,false,false,false,true,true,false,false,false,false,false,false,false,false,false,false,false,false,false,false,false,false,false,false,false,false,false,false] rfl rfl (Za HT_.out (by kernel_rfl)) (fun _ _ _ h=>h) (Or.inl ⟨by rfl,?_⟩) ?_ ?_
     rotate_left
     · intro w'
       go_simp
       with_reducible rfl
     rotate_left
     · simp only [Act.put, Zd, Ze, Zf, Zb, Zc]
       rfl
     refine pure_ (i:=14) (N:=some 132) (v:=?_) (a':=?_) #[true,true,false,true,false,true,false,false,true,false,false,false,true,true,true,false,false,false,false,false,false,false,false,false,false,false,false,false,false,false,false,false,false,false,false,false] rfl rfl (Za HT_.out (by kernel_rfl)) (fun _ _ _ h=>h) (Or.inl ⟨by rfl,?_⟩) ?_ ?_
     rotate_left
     · intro w'
       go_simp
       with_reducible rfl
     rotate_left
     · simp only [Act.put, Zd, Ze, Zf, Zb, Zc]
       rfl
     refine pure_ (i:=17) (N:=some 135) (v:=?_) (a':=?_) #[true,true,false,true,false,true,false,false,true,false,false,false,true,true,true,false,false,true,false,false,false,false,false,false,false,false,false,false,false,false,false,false,false,false,false,false] rfl rfl (Za HT_.out (by kernel_rfl)) (fun _ _ _ h=>h) (Or.inl ⟨by rfl,?_⟩) ?_ ?_
     rotate_left
     · intro w'
       go_simp
       with_reducible rfl
     rotate_left
     · simp only [Act.put, Zd, Ze, Zf, Zb, Zc]
       rfl
     refine pure_ (i:=18) (N:=some 136) (v:=?_) (a':=?_) #[true,true,false,true,false,true,false,false,true,false,false,false,true,true,true,false,false,true,true,false,false,false,false,false,false,false,false,false,false,false,false,false,false,false,false,false] rfl rfl (Za HT_.out (by kernel_rfl)) (fun _ _ _ h=>h) (Or.inl ⟨by rfl,?_⟩) ?_ ?_
     rotate_left
     · intro w'
       go_simp
       with_reducible rfl
     rotate_left
     · simp only [Act.put, Zd, Ze, Zf, Zb, Zc]
       rfl
     refine pure_ (i:=19) (N:=some 137) (v:=?_) (a':=?_) #[true,true,false,true,false,true,false,false,true,false,false,false,true,true,true,false,false,true,true,true,false,false,false,false,false,false,false,false,false,false,false,false,false,false,false,false] rfl rfl (Za HT_.out (by kernel_rfl)) (fun _ _ _ h=>h) (Or.inl ⟨by rfl,?_⟩) ?_ ?_
     rotate_left
     · intro w'
       go_simp
       with_reducible rfl
     rotate_left
     · simp only [Act.put, Zd, Ze, Zf, Zb, Zc]
       rfl
     refine pure_ (i:=20) (N:=some 138) (v:=?_) (a':=?_) #[true,true,false,true,false,true,false,false,true,false,false,false,true,true,true,false,false,true,true,true,true,false,false,false,false,false,false,false,false,false,false,false,false,false,false,false] rfl rfl (Za HT_.out (by kernel_rfl)) (fun _ _ _ h=>h) (Or.inl ⟨by rfl,?_⟩) ?_ ?_
     rotate_left
     · intro w'
       go_simp
       with_reducible rfl
     rotate_left
     · simp only [Act.put, Zd, Ze, Zf, Zb, Zc]
       rfl
     refine pure_ (i:=25) (N:=some 143) (v:=?_) (a':=?_) #[true,true,false,true,false,true,false,false,true,false,false,false,true,true,true,false,false,true,true,true,true,false,false,false,false,true,false,false,false,false,false,false,false,false,false,false] rfl rfl (Za HT_.out (by kernel_rfl)) (fun _ _ _ h=>h) (Or.inl ⟨by rfl,?_⟩) ?_ ?_
     rotate_left
     · intro w'
       go_simp
       with_reducible rfl
     rotate_left
     · simp only [Act.put, Zd, Ze, Zf, Zb, Zc]
       rfl
     refine pure_ (i:=26) (N:=some 144) (v:=?_) (a':=?_) #[true,true,false,true,false,true,false,false,true,false,false,false,true,true,true,false,false,true,true,true,true,false,false,false,false,true,true,false,false,false,false,false,false,false,false,false] rfl rfl (Za HT_.out (by kernel_rfl)) (fun _ _ _ h=>h) (Or.inl ⟨by rfl,?_⟩) ?_ ?_
     rotate_left
     · intro w'
       go_simp
       with_reducible rfl
     rotate_left
     · simp only [Act.put, Zd, Ze, Zf, Zb, Zc]
       rfl
     refine pure_ (i:=27) (N:=some 145) (v:=?_) (a':=?_) #[true,true,false,true,false,true,false,false,true,false,false,false,true,true,true,false,false,true,true,true,true,false,false,false,false,true,true,true,false,false,false,false,false,false,false,false] rfl rfl (Za HT_.out (by kernel_rfl)) (fun _ _ _ h=>h) (Or.inl ⟨by rfl,?_⟩) ?_ ?_
     rotate_left
     · intro w'
       go_simp
       with_reducible rfl
     rotate_left
     · simp only [Act.put, Zd, Ze, Zf, Zb, Zc]
       rfl
     refine pure_ (i:=30) (N:=some 148) (v:=?_) (a':=?_) #[true,true,false,true,false,true,false,false,true,false,false,false,true,true,true,false,false,true,true,true,true,false,false,false,false,true,true,true,false,false,true,false,false,false,false,false] rfl rfl (Za HT_.out (by kernel_rfl)) (fun _ _ _ h=>h) (Or.inl ⟨by rfl,?_⟩) ?_ ?_
     rotate_left
     · intro w'
       go_simp
       with_reducible rfl
     rotate_left
     · simp only [Act.put, Zd, Ze, Zf, Zb, Zc]
       rfl
     refine pure_ (i:=31) (N:=some 149) (v:=?_) (a':=?_) #[true,true,false,true,false,true,false,false,true,false,false,false,true,true,true,false,false,true,true,true,true,false,false,false,false,true,true,true,false,false,true,true,false,false,false,false] rfl rfl (Za HT_.out (by kernel_rfl)) (fun _ _ _ h=>h) (Or.inl ⟨by rfl,?_⟩) ?_ ?_
     rotate_left
     · intro w'
       go_simp
       with_reducible rfl
     rotate_left
     · simp only [Act.put, Zd, Ze, Zf, Zb, Zc]
       rfl
     refine pure_ (i:=32) (N:=some 150) (v:=?_) (a':=?_) #[true,true,false,true,false,true,false,false,true,false,false,false,true,true,true,false,false,true,true,true,true,false,false,false,false,true,true,true,false,false,true,true,true,false,false,false] rfl rfl (Za HT_.out (by kernel_rfl)) (fun _ _ _ h=>h) (Or.inl ⟨by rfl,?_⟩) ?_ ?_
     rotate_left
     · intro w'
       go_simp
       with_reducible rfl
     rotate_left
     · simp only [Act.put, Zd, Ze, Zf, Zb, Zc]
       rfl
     refine take_ (i:=2) (N:=some 120) (v:=?_) (a':=?_) #[true,true,true,true,false,true,false,false,true,false,false,false,true,true,true,false,false,true,true,true,true,false,false,false,false,true,true,true,false,false,true,true,true,false,false,false] rfl rfl (take_ofW HT_.out HW_.out (by kernel_rfl)) (fun _ _ _ h=>h) (Or.inl ⟨by rfl,?_⟩) hHeld ?_ ?_
     rotate_left
     · rintro w' ⟨s0, s1, s2, s3, s4⟩
       go_simp
       with_reducible rfl
     rotate_left
     · simp only [Act.put, Zd, Ze, Zf, Zb, Zc]
       rfl
     refine take_ (i:=15) (N:=some 133) (v:=?_) (a':=?_) #[true,true,true,true,false,true,false,false,true,false,false,false,true,true,true,true,false,true,true,true,true,false,false,false,false,true,true,true,false,false,true,true,true,false,false,false] rfl rfl (take_ofW HT_.out HW_.out (by kernel_rfl)) (fun _ _ _ h=>h) (Or.inl ⟨by rfl,?_⟩) hHeld ?_ ?_
     rotate_left
     · rintro w' ⟨s0, s1, s2, s3, s4⟩
       go_simp
       with_reducible rfl
     rotate_left
     · simp only [Act.put, Zd, Ze, Zf, Zb, Zc]
       rfl
     refine pure_ (i:=16) (N:=some 134) (v:=?_) (a':=?_) #[true,true,true,true,false,true,false,false,true,false,false,false,true,true,true,true,true,true,true,true,true,false,false,false,false,true,true,true,false,false,true,true,true,false,false,false] rfl rfl (Za HT_.out (by kernel_rfl)) (fun _ _ _ h=>h) (Or.inl ⟨by rfl,?_⟩) ?_ ?_
     rotate_left
     · intro w'
       go_simp
       with_reducible rfl
     rotate_left
     · simp only [Act.put, Zd, Ze, Zf, Zb, Zc]
       rfl
     refine take_ (i:=21) (N:=some 139) (v:=?_) (a':=?_) #[true,true,true,true,false,true,false,false,true,false,false,false,true,true,true,true,true,true,true,true,true,true,false,false,false,true,true,true,false,false,true,true,true,false,false,false] rfl rfl (take_ofW HT_.out HW_.out (by kernel_rfl)) (fun _ _ _ h=>h) (Or.inl ⟨by rfl,?_⟩) hHeld ?_ ?_
     rotate_left
     · rintro w' ⟨s0, s1, s2, s3, s4⟩
       go_simp
       with_reducible rfl
     rotate_left
     · simp only [Act.put, Zd, Ze, Zf, Zb, Zc]
       rfl
     refine pure_ (i:=22) (N:=some 140) (v:=?_) (a':=?_) #[true,true,true,true,false,true,false,false,true,false,false,false,true,true,true,true,true,true,true,true,true,true,true,false,false,true,true,true,false,false,true,true,true,false,false,false] rfl rfl (Za HT_.out (by kernel_rfl)) (fun _ _ _ h=>h) (Or.inl ⟨by rfl,?_⟩) ?_ ?_
     rotate_left
     · intro w'
       go_simp
       with_reducible rfl
     rotate_left
     · simp only [Act.put, Zd, Ze, Zf, Zb, Zc]
       rfl
     refine pure_ (i:=23) (N:=some 141) (v:=?_) (a':=?_) #[true,true,true,true,false,true,false,false,true,false,false,false,true,true,true,true,true,true,true,true,true,true,true,true,false,true,true,true,false,false,true,true,true,false,false,false] rfl rfl (Za HT_.out (by kernel_rfl)) (fun _ _ _ h=>h) (Or.inl ⟨by rfl,?_⟩) ?_ ?_
     rotate_left
     · intro w'
       go_simp
       with_reducible rfl
     rotate_left
     · simp only [Act.put, Zd, Ze, Zf, Zb, Zc]
       rfl
     refine take_ (i:=28) (N:=some 146) (v:=?_) (a':=?_) #[true,true,true,true,false,true,false,false,true,false,false,false,true,true,true,true,true,true,true,true,true,true,true,true,false,true,true,true,true,false,true,true,true,false,false,false] rfl rfl (take_ofW HT_.out HW_.out (by kernel_rfl)) (fun _ _ _ h=>h) (Or.inl ⟨by rfl,?_⟩) hHeld ?_ ?_
     rotate_left
     · rintro w' ⟨s0, s1, s2, s3, s4⟩
       go_simp
       with_reducible rfl
     rotate_left
     · simp only [Act.put, Zd, Ze, Zf, Zb, Zc]
       rfl
     refine take_ (i:=33) (N:=some 151) (v:=?_) (a':=?_) #[true,true,true,true,false,true,false,false,true,false,false,false,true,true,true,true,true,true,true,true,true,true,true,true,false,true,true,true,true,false,true,true,true,true,false,false] rfl rfl (take_ofW HT_.out HW_.out (by kernel_rfl)) (fun _ _ _ h=>h) (Or.inl ⟨by rfl,?_⟩) hHeld ?_ ?_
     rotate_left
     · rintro w' ⟨s0, s1, s2, s3, s4⟩
       go_simp
       with_reducible rfl
     rotate_left
     · simp only [Act.put, Zd, Ze, Zf, Zb, Zc]
       rfl
     refine one_ (i:=4) (N:=some 122) #[true,true,true,true,true,true,false,false,true,false,false,false,true,true,true,true,true,true,true,true,true,true,true,true,false,true,true,true,true,false,true,true,true,true,false,false] rfl rfl (one_of HT_.out (by kernel_rfl)) (by decide) (fun K hK=>?_)
     refine goes_ Try.func29 (by kernel_rfl) rfl #[.int .i64 (rd x10_2 4),.int .u64 6] (by rfl) rfl rfl (by (try simp only [Zj,Zk,Zl]);first|done|rfl|(simp only [Zh,Zi];rfl)) ?_
     with_reducible refine (spec_l7Rot.calls (rd x10_2 4) 6 t137 _ A56.out).mono ?_
     rintro e w' ⟨rfl,⟨nd,rfl⟩⟩
     refine ⟨_,rfl,?_⟩
     refine hK.out _ _ ⟨hHeld.1,hHeld.2.1,hHeld.2.2.1,hHeld.2.2.2.1,hHeld.2.2.2.2⟩ (fun hHeld=>?_)
     clear hK K
     refine norm_ (a':=?_) ?_ ?_
     rotate_left
     · show Act.put _ (some 122) _ = _
       simp only [Act.put,Zd,Ze,Zf,Zb,Zc]
       rfl
     refine one_ (i:=6) (N:=some 124) #[true,true,true,true,true,true,true,false,true,false,false,false,true,true,true,true,true,true,true,true,true,true,true,true,false,true,true,true,true,false,true,true,true,true,false,false] rfl rfl (one_of HT_.out (by kernel_rfl)) (by decide) (fun K hK=>?_)
     refine goes_ Try.func29 (by kernel_rfl) rfl #[.int .i64 (rd x10_2 4),.int .u64 11] (by rfl) rfl rfl (by (try simp only [Zj,Zk,Zl]);first|done|rfl|(simp only [Zh,Zi];rfl)) ?_
     with_reducible refine (spec_l7Rot.calls (rd x10_2 4) 11 t138 _ A57.out).mono ?_
     rintro e w' ⟨rfl,⟨nd,rfl⟩⟩
     refine ⟨_,rfl,?_⟩
     refine hK.out _ _ ⟨hHeld.1,hHeld.2.1,hHeld.2.2.1,hHeld.2.2.2.1,hHeld.2.2.2.2⟩ (fun hHeld=>?_)
     clear hK K
     refine norm_ (a':=?_) ?_ ?_
     rotate_left
     · show Act.put _ (some 124) _ = _
       simp only [Act.put,Zd,Ze,Zf,Zb,Zc]
       rfl
     refine pure_ (i:=7) (N:=some 125) (v:=?_) (a':=?_) #[true,true,true,true,true,true,true,true,true,false,false,false,true,true,true,true,true,true,true,true,true,true,true,true,false,true,true,true,true,false,true,true,true,true,false,false] rfl rfl (Za HT_.out (by kernel_rfl)) (fun _ _ _ h=>h) (Or.inl ⟨by rfl,?_⟩) ?_ ?_
     rotate_left
     · intro w'
       go_simp
       with_reducible rfl
     rotate_left
     · simp only [Act.put, Zd, Ze, Zf, Zb, Zc]
       rfl
     refine one_ (i:=9) (N:=some 127) #[true,true,true,true,true,true,true,true,true,true,false,false,true,true,true,true,true,true,true,true,true,true,true,true,false,true,true,true,true,false,true,true,true,true,false,false] rfl rfl (one_of HT_.out (by kernel_rfl)) (by decide) (fun K hK=>?_)
     refine goes_ Try.func29 (by kernel_rfl) rfl #[.int .i64 (rd x10_2 4),.int .u64 25] (by rfl) rfl rfl (by (try simp only [Zj,Zk,Zl]);first|done|rfl|(simp only [Zh,Zi];rfl)) ?_
     with_reducible refine (spec_l7Rot.calls (rd x10_2 4) 25 t139 _ A58.out).mono ?_
     rintro e w' ⟨rfl,⟨nd,rfl⟩⟩
     refine ⟨_,rfl,?_⟩
     refine hK.out _ _ ⟨hHeld.1,hHeld.2.1,hHeld.2.2.1,hHeld.2.2.2.1,hHeld.2.2.2.2⟩ (fun hHeld=>?_)
     clear hK K
     refine norm_ (a':=?_) ?_ ?_
     rotate_left
     · show Act.put _ (some 127) _ = _
       simp only [Act.put,Zd,Ze,Zf,Zb,Zc]
       rfl
     refine pure_ (i:=10) (N:=some 128) (v:=?_) (a':=?_) #[true,true,true,true,true,true,true,true,true,true,true,false,true,true,true,true,true,true,true,true,true,true,true,true,false,true,true,true,true,false,true,true,true,true,false,false] rfl rfl (Za HT_.out (by kernel_rfl)) (fun _ _ _ h=>h) (Or.inl ⟨by rfl,?_⟩) ?_ ?_
     rotate_left
     · intro w'
       go_simp
       with_reducible rfl
     rotate_left
     · simp only [Act.put, Zd, Ze, Zf, Zb, Zc]
       rfl
     refine pure_ (i:=11) (N:=some 129) (v:=?_) (a':=?_) #[true,true,true,true,true,true,true,true,true,true,true,true,true,true,true,true,true,true,true,true,true,true,true,true,false,true,true,true,true,false,true,true,true,true,false,false] rfl rfl (Za HT_.out (by kernel_rfl)) (fun _ _ _ h=>h) (Or.inl ⟨by rfl,?_⟩) ?_ ?_
     rotate_left
     · intro w'
       go_simp
       with_reducible rfl
     rotate_left
     · simp only [Act.put, Zd, Ze, Zf, Zb, Zc]
       rfl
     refine pure_ (i:=24) (N:=some 142) (v:=?_) (a':=?_) #[true,true,true,true,true,true,true,true,true,true,true,true,true,true,true,true,true,true,true,true,true,true,true,true,true,true,true,true,true,false,true,true,true,true,false,false] rfl rfl (Za HT_.out (by kernel_rfl)) (fun _ _ _ h=>h) (Or.inl ⟨by rfl,?_⟩) ?_ ?_
     rotate_left
     · intro w'
       go_simp
       with_reducible rfl
     rotate_left
     · simp only [Act.put, Zd, Ze, Zf, Zb, Zc]
       rfl
     refine pure_ (i:=29) (N:=some 147) (v:=?_) (a':=?_) #[true,true,true,true,true,true,true,true,true,true,true,true,true,true,true,true,true,true,true,true,true,true,true,true,true,true,true,true,true,true,true,true,true,true,false,false] rfl rfl (Za HT_.out (by kernel_rfl)) (fun _ _ _ h=>h) (Or.inl ⟨by rfl,?_⟩) ?_ ?_
     rotate_left
     · intro w'
       go_simp
       with_reducible rfl
     rotate_left
     · simp only [Act.put, Zd, Ze, Zf, Zb, Zc]
       rfl
     refine pure_ (i:=34) (N:=some 152) (v:=?_) (a':=?_) #[true,true,true,true,true,true,true,true,true,true,true,true,true,true,true,true,true,true,true,true,true,true,true,true,true,true,true,true,true,true,true,true,true,true,true,false] rfl rfl (Za HT_.out (by kernel_rfl)) (fun _ _ _ h=>h) (Or.inl ⟨by rfl,?_⟩) ?_ ?_
     rotate_left
     · intro w'
       go_simp
       with_reducible rfl
     rotate_left
     · simp only [Act.put, Zd, Ze, Zf, Zb, Zc]
       rfl
     refine pure_ (i:=35) (N:=some 14) (v:=?_) (a':=?_) #[true,true,true,true,true,true,true,true,true,true,true,true,true,true,true,true,true,true,true,true,true,true,true,true,true,true,true,true,true,true,true,true,true,true,true,true] rfl rfl (Za HT_.out (by kernel_rfl)) (fun _ _ _ h=>h) (Or.inl ⟨by rfl,?_⟩) ?_ ?_
     rotate_left
     · intro w'
       go_simp
       with_reducible rfl
     rotate_left
     · simp only [Act.put, Zd, Ze, Zf, Zb, Zc]
       rfl
     refine done_ (done_of HT_.out (by kernel_rfl)) ?_
     try go_wp2
     (try (rw [drewN_self w71];generalize hq_ : World.drewN w71 _ = w71;have n0_ : Aside0 (Kd.R (Kd.int .i64) 3 w71 w.heap.size (fun k_=>(some k_ ≠ (.slice (some ad143) x5_1.length co73 : Value).ownBlock ∧ some k_ ≠ (.slice (some ad142) t125.length co72 : Value).ownBlock)) (.slice (some ad134) x10_2.length co70) x10_2):=⟨by rw [← hq_];exact (by (with_reducible repeat (first|apply Z3|apply Z2|apply Z4));exact HO_10.out)⟩;have n1_ : Aside0 (Kd.R (Kd.int .i64) 3 w71 w.heap.size (fun k_=>(some k_ ≠ (.slice (some ad142) t125.length co72 : Value).ownBlock ∧ some k_ ≠ (.slice (some ad134) x10_2.length co70 : Value).ownBlock)) (.slice (some ad143) x5_1.length co73) x5_1):=⟨by rw [← hq_];exact (by (with_reducible repeat (first|apply Z3|apply Z2|apply Z4));exact HO_5.out)⟩;have n2_ : Aside0 (Kd.R (Kd.int .i64) 3 w71 w.heap.size (fun k_=>(some k_ ≠ (.slice (some ad143) x5_1.length co73 : Value).ownBlock ∧ some k_ ≠ (.slice (some ad134) x10_2.length co70 : Value).ownBlock)) (.slice (some ad142) t125.length co72) t125):=⟨by rw [← hq_];exact (by (with_reducible repeat (first|apply Z3|apply Z2|apply Z4));exact HO_9.out)⟩;have n3_ : Aside0 (Below w.heap.size w w71):=⟨by rw [← hq_];exact (by repeat (first|(with_reducible first|exact HB.out|apply Z6|apply Z1|apply Z5)|exact HB.out))⟩;clear HO_10 HO_5 HO_9 HB hq_;have HO_10:=n0_;have HO_5:=n1_;have HO_9:=n2_;have HB:=n3_;clear n0_ n1_ n2_ n3_))
     have n0_:=Z0 (Z4 HO_5.out)
     have n1_:=Z0 (Z4 HO_9.out)
     have n2_:=Z0 (Z4 HO_10.out)
     have n3_:=Z0 (Z5 HB.out)
     clear HO_5
     clear HO_9
     clear HO_10
     clear HB
     have HO_5:=n0_
     have HO_9:=n1_
     have HO_10:=n2_
     have HB:=n3_
     clear n0_ n1_ n2_ n3_
     have p147 : 0 ≤ (1 : Int):=(by omega)
     have q147 : 1 < (x10_2.length : Int):=of_decide_eq_true (by first|(with_reducible assumption)|assumption)
     obtain ⟨ad147,e147,hx147_0⟩:=Z9 (Z7 HO_10.out).2.2 1 p147 q147
     obtain rfl : ad134 = ad147:=(by injection e147)
     (try simp only [show (1 : Int).toNat = 1 from rfl,Nat.reduceMul,Nat.reduceEqDiff,Go.Addr.add,↓reduceIte] at hx147_0)
     have qi147 : (1 < x10_2.length) = True:=eq_true (by omega)
     (try rw [show ((1 : Int)).toNat = 1 from rfl] at hx147_0)
     replace p147:=eq_true p147
     replace q147:=eq_true q147
     have p148 : 0 ≤ (2 : Int):=(by omega)
     have q148 : 2 < (x10_2.length : Int):=of_decide_eq_true (by first|(with_reducible assumption)|assumption)
     obtain ⟨ad148,e148,hx148_0⟩:=Z9 (Z7 HO_10.out).2.2 2 p148 q148
     obtain rfl : ad134 = ad148:=(by injection e148)
     (try simp only [show (2 : Int).toNat = 2 from rfl,Nat.reduceMul,Nat.reduceEqDiff,Go.Addr.add,↓reduceIte] at hx148_0)
     have qi148 : (2 < x10_2.length) = True:=eq_true (by omega)
     (try rw [show ((2 : Int)).toNat = 2 from rfl] at hx148_0)
     replace p148:=eq_true p148
     replace q148:=eq_true q148
     have p149 : 0 ≤ (1 : Int):=(by omega)
     have q149 : 1 < (x10_2.length : Int):=of_decide_eq_true (by first|(with_reducible assumption)|assumption)
     obtain ⟨ad149,e149,hx149_0⟩:=Z9 (Z7 HO_10.out).2.2 1 p149 q149
     obtain rfl : ad134 = ad149:=(by injection e149)
     (try simp only [show (1 : Int).toNat = 1 from rfl,Nat.reduceMul,Nat.reduceEqDiff,Go.Addr.add,↓reduceIte] at hx149_0)
     have qi149 : (1 < x10_2.length) = True:=eq_true (by omega)
     (try rw [show ((1 : Int)).toNat = 1 from rfl] at hx149_0)
     replace p149:=eq_true p149
     replace q149:=eq_true q149
     have p150 : 0 ≤ (2 : Int):=(by omega)
     have q150 : 2 < (x10_2.length : Int):=of_decide_eq_true (by first|(with_reducible assumption)|assumption)
     obtain ⟨ad150,e150,hx150_0⟩:=Z9 (Z7 HO_10.out).2.2 2 p150 q150
     obtain rfl : ad134 = ad150:=(by injection e150)
     (try simp only [show (2 : Int).toNat = 2 from rfl,Nat.reduceMul,Nat.reduceEqDiff,Go.Addr.add,↓reduceIte] at hx150_0)
     have qi150 : (2 < x10_2.length) = True:=eq_true (by omega)
     (try rw [show ((2 : Int)).toNat = 2 from rfl] at hx150_0)
     replace p150:=eq_true p150
     replace q150:=eq_true q150
     refine start_ (n:=29) (S:=fun w'=>w'.cell? ⟨ad134.block,ad134.off + 1,none⟩ = some (.int .i64 (rd x10_2 1)) ∧ w'.cell? ⟨ad134.block,ad134.off + 2,none⟩ = some (.int .i64 (rd x10_2 2)) ∧ w'.cell? ⟨ad134.block,ad134.off + 1,none⟩ = some (.int .i64 (rd x10_2 1)) ∧ w'.cell? ⟨ad134.block,ad134.off + 2,none⟩ = some (.int .i64 (rd x10_2 2))) (ds:=[]) #[false,false,false,false,false,false,false,false,false,false,false,false,false,false,false,false,false,false,false,false,false,false,false,false,false,false,false,false,false] (by kernel_rfl) rfl rfl ⟨hx147_0,hx148_0,hx149_0,hx150_0⟩ (fun hHeld=>?_);refine with_tabW spec_l7Block.tab18 spec_l7Block.bits18 (fun HT_ HW_=>?_)
     generalize w71.drew = w74 at HO_5 HO_9 HO_10 HB hx147_0 hx148_0 hx149_0 hx150_0 hHeld ⊢
     refine pure_ (i:=0) (N:=some 153) (v:=?_) (a':=?_) #[true,false,false,false,false,false,false,false,false,false,false,false,false,false,false,false,false,false,false,false,false,false,false,false,false,false,false,false,false] rfl rfl (Za HT_.out (by kernel_rfl)) (fun _ _ _ h=>h) (Or.inl ⟨by rfl,?_⟩) ?_ ?_
     rotate_left
     · intro w'
       go_simp
       with_reducible rfl
     rotate_left
     · simp only [Act.put, Zd, Ze, Zf, Zb, Zc]
       rfl
     refine pure_ (i:=2) (N:=some 155) (v:=?_) (a':=?_) #[true,false,true,false,false,false,false,false,false,false,false,false,false,false,false,false,false,false,false,false,false,false,false,false,false,false,false,false,false] rfl rfl (Za HT_.out (by kernel_rfl)) (fun _ _ _ h=>h) (Or.inl ⟨by rfl,?_⟩) ?_ ?_
     rotate_left
     · intro w'
       go_simp
       with_reducible rfl
     rotate_left
     · simp only [Act.put, Zd, Ze, Zf, Zb, Zc]
       rfl
     refine pure_ (i:=5) (N:=some 158) (v:=?_) (a':=?_) #[true,false,true,false,false,true,false,false,false,false,false,false,false,false,false,false,false,false,false,false,false,false,false,false,false,false,false,false,false] rfl rfl (Za HT_.out (by kernel_rfl)) (fun _ _ _ h=>h) (Or.inl ⟨by rfl,?_⟩) ?_ ?_
     rotate_left
     · intro w'
       go_simp
       with_reducible rfl
     rotate_left
     · simp only [Act.put, Zd, Ze, Zf, Zb, Zc]
       rfl
     refine pure_ (i:=8) (N:=some 161) (v:=?_) (a':=?_) #[true,false,true,false,false,true,false,false,true,false,false,false,false,false,false,false,false,false,false,false,false,false,false,false,false,false,false,false,false] rfl rfl (Za HT_.out (by kernel_rfl)) (fun _ _ _ h=>h) (Or.inl ⟨by rfl,?_⟩) ?_ ?_
     rotate_left
     · intro w'
       go_simp
       with_reducible rfl
     rotate_left
     · simp only [Act.put, Zd, Ze, Zf, Zb, Zc]
       rfl
     refine pure_ (i:=9) (N:=some 162) (v:=?_) (a':=?_) #[true,false,true,false,false,true,false,false,true,true,false,false,false,false,false,false,false,false,false,false,false,false,false,false,false,false,false,false,false] rfl rfl (Za HT_.out (by kernel_rfl)) (fun _ _ _ h=>h) (Or.inl ⟨by rfl,?_⟩) ?_ ?_
     rotate_left
     · intro w'
       go_simp
       with_reducible rfl
     rotate_left
     · simp only [Act.put, Zd, Ze, Zf, Zb, Zc]
       rfl
     refine pure_ (i:=10) (N:=some 163) (v:=?_) (a':=?_) #[true,false,true,false,false,true,false,false,true,true,true,false,false,false,false,false,false,false,false,false,false,false,false,false,false,false,false,false,false] rfl rfl (Za HT_.out (by kernel_rfl)) (fun _ _ _ h=>h) (Or.inl ⟨by rfl,?_⟩) ?_ ?_
     rotate_left
     · intro w'
       go_simp
       with_reducible rfl
     rotate_left
     · simp only [Act.put, Zd, Ze, Zf, Zb, Zc]
       rfl
     refine pure_ (i:=13) (N:=some 166) (v:=?_) (a':=?_) #[true,false,true,false,false,true,false,false,true,true,true,false,false,true,false,false,false,false,false,false,false,false,false,false,false,false,false,false,false] rfl rfl (Za HT_.out (by kernel_rfl)) (fun _ _ _ h=>h) (Or.inl ⟨by rfl,?_⟩) ?_ ?_
     rotate_left
     · intro w'
       go_simp
       with_reducible rfl
     rotate_left
     · simp only [Act.put, Zd, Ze, Zf, Zb, Zc]
       rfl
     refine pure_ (i:=14) (N:=some 167) (v:=?_) (a':=?_) #[true,false,true,false,false,true,false,false,true,true,true,false,false,true,true,false,false,false,false,false,false,false,false,false,false,false,false,false,false] rfl rfl (Za HT_.out (by kernel_rfl)) (fun _ _ _ h=>h) (Or.inl ⟨by rfl,?_⟩) ?_ ?_
     rotate_left
     · intro w'
       go_simp
       with_reducible rfl
     rotate_left
     · simp only [Act.put, Zd, Ze, Zf, Zb, Zc]
       rfl
     refine pure_ (i:=15) (N:=some 168) (v:=?_) (a':=?_) #[true,false,true,false,false,true,false,false,true,true,true,false,false,true,true,true,false,false,false,false,false,false,false,false,false,false,false,false,false] rfl rfl (Za HT_.out (by kernel_rfl)) (fun _ _ _ h=>h) (Or.inl ⟨by rfl,?_⟩) ?_ ?_
     rotate_left
     · intro w'
       go_simp
       with_reducible rfl
     rotate_left
     · simp only [Act.put, Zd, Ze, Zf, Zb, Zc]
       rfl
     refine pure_ (i:=19) (N:=some 172) (v:=?_) (a':=?_) #[true,false,true,false,false,true,false,false,true,true,true,false,false,true,true,true,false,false,false,true,false,false,false,false,false,false,false,false,false] rfl rfl (Za HT_.out (by kernel_rfl)) (fun _ _ _ h=>h) (Or.inl ⟨by rfl,?_⟩) ?_ ?_
     rotate_left
     · intro w'
       go_simp
       with_reducible rfl
     rotate_left
     · simp only [Act.put, Zd, Ze, Zf, Zb, Zc]
       rfl
     refine pure_ (i:=20) (N:=some 173) (v:=?_) (a':=?_) #[true,false,true,false,false,true,false,false,true,true,true,false,false,true,true,true,false,false,false,true,true,false,false,false,false,false,false,false,false] rfl rfl (Za HT_.out (by kernel_rfl)) (fun _ _ _ h=>h) (Or.inl ⟨by rfl,?_⟩) ?_ ?_
     rotate_left
     · intro w'
       go_simp
       with_reducible rfl
     rotate_left
     · simp only [Act.put, Zd, Ze, Zf, Zb, Zc]
       rfl
     refine pure_ (i:=22) (N:=some 175) (v:=?_) (a':=?_) #[true,false,true,false,false,true,false,false,true,true,true,false,false,true,true,true,false,false,false,true,true,false,true,false,false,false,false,false,false] rfl rfl (Za HT_.out (by kernel_rfl)) (fun _ _ _ h=>h) (Or.inl ⟨by rfl,?_⟩) ?_ ?_
     rotate_left
     · intro w'
       go_simp
       with_reducible rfl
     rotate_left
     · simp only [Act.put, Zd, Ze, Zf, Zb, Zc]
       rfl
     refine pure_ (i:=23) (N:=some 176) (v:=?_) (a':=?_) #[true,false,true,false,false,true,false,false,true,true,true,false,false,true,true,true,false,false,false,true,true,false,true,true,false,false,false,false,false] rfl rfl (Za HT_.out (by kernel_rfl)) (fun _ _ _ h=>h) (Or.inl ⟨by rfl,?_⟩) ?_ ?_
     rotate_left
     · intro w'
       go_simp
       with_reducible rfl
     rotate_left
     · simp only [Act.put, Zd, Ze, Zf, Zb, Zc]
       rfl
     refine take_ (i:=11) (N:=some 164) (v:=?_) (a':=?_) #[true,false,true,false,false,true,false,false,true,true,true,true,false,true,true,true,false,false,false,true,true,false,true,true,false,false,false,false,false] rfl rfl (take_ofW HT_.out HW_.out (by kernel_rfl)) (fun _ _ _ h=>h) (Or.inl ⟨by rfl,?_⟩) hHeld ?_ ?_
     rotate_left
     · rintro w' ⟨s0, s1, s2, s3⟩
       go_simp
       with_reducible rfl
     rotate_left
     · simp only [Act.put, Zd, Ze, Zf, Zb, Zc]
       rfl
     refine pure_ (i:=12) (N:=some 165) (v:=?_) (a':=?_) #[true,false,true,false,false,true,false,false,true,true,true,true,true,true,true,true,false,false,false,true,true,false,true,true,false,false,false,false,false] rfl rfl (Za HT_.out (by kernel_rfl)) (fun _ _ _ h=>h) (Or.inl ⟨by rfl,?_⟩) ?_ ?_
     rotate_left
     · intro w'
       go_simp
       with_reducible rfl
     rotate_left
     · simp only [Act.put, Zd, Ze, Zf, Zb, Zc]
       rfl
     refine take_ (i:=16) (N:=some 169) (v:=?_) (a':=?_) #[true,false,true,false,false,true,false,false,true,true,true,true,true,true,true,true,true,false,false,true,true,false,true,true,false,false,false,false,false] rfl rfl (take_ofW HT_.out HW_.out (by kernel_rfl)) (fun _ _ _ h=>h) (Or.inl ⟨by rfl,?_⟩) hHeld ?_ ?_
     rotate_left
     · rintro w' ⟨s0, s1, s2, s3⟩
       go_simp
       with_reducible rfl
     rotate_left
     · simp only [Act.put, Zd, Ze, Zf, Zb, Zc]
       rfl
     refine pure_ (i:=17) (N:=some 170) (v:=?_) (a':=?_) #[true,false,true,false,false,true,false,false,true,true,true,true,true,true,true,true,true,true,false,true,true,false,true,true,false,false,false,false,false] rfl rfl (Za HT_.out (by kernel_rfl)) (fun _ _ _ h=>h) (Or.inl ⟨by rfl,?_⟩) ?_ ?_
     rotate_left
     · intro w'
       go_simp
       with_reducible rfl
     rotate_left
     · simp only [Act.put, Zd, Ze, Zf, Zb, Zc]
       rfl
     refine pure_ (i:=18) (N:=some 171) (v:=?_) (a':=?_) #[true,false,true,false,false,true,false,false,true,true,true,true,true,true,true,true,true,true,true,true,true,false,true,true,false,false,false,false,false] rfl rfl (Za HT_.out (by kernel_rfl)) (fun _ _ _ h=>h) (Or.inl ⟨by rfl,?_⟩) ?_ ?_
     rotate_left
     · intro w'
       go_simp
       with_reducible rfl
     rotate_left
     · simp only [Act.put, Zd, Ze, Zf, Zb, Zc]
       rfl
     refine take_ (i:=21) (N:=some 174) (v:=?_) (a':=?_) #[true,false,true,false,false,true,false,false,true,true,true,true,true,true,true,true,true,true,true,true,true,true,true,true,false,false,false,false,false] rfl rfl (take_ofW HT_.out HW_.out (by kernel_rfl)) (fun _ _ _ h=>h) (Or.inl ⟨by rfl,?_⟩) hHeld ?_ ?_
     rotate_left
     · rintro w' ⟨s0, s1, s2, s3⟩
       go_simp
       with_reducible rfl
     rotate_left
     · simp only [Act.put, Zd, Ze, Zf, Zb, Zc]
       rfl
     refine take_ (i:=24) (N:=some 177) (v:=?_) (a':=?_) #[true,false,true,false,false,true,false,false,true,true,true,true,true,true,true,true,true,true,true,true,true,true,true,true,true,false,false,false,false] rfl rfl (take_ofW HT_.out HW_.out (by kernel_rfl)) (fun _ _ _ h=>h) (Or.inl ⟨by rfl,?_⟩) hHeld ?_ ?_
     rotate_left
     · rintro w' ⟨s0, s1, s2, s3⟩
       go_simp
       with_reducible rfl
     rotate_left
     · simp only [Act.put, Zd, Ze, Zf, Zb, Zc]
       rfl
     refine pure_ (i:=25) (N:=some 178) (v:=?_) (a':=?_) #[true,false,true,false,false,true,false,false,true,true,true,true,true,true,true,true,true,true,true,true,true,true,true,true,true,true,false,false,false] rfl rfl (Za HT_.out (by kernel_rfl)) (fun _ _ _ h=>h) (Or.inl ⟨by rfl,?_⟩) ?_ ?_
     rotate_left
     · intro w'
       go_simp
       with_reducible rfl
     rotate_left
     · simp only [Act.put, Zd, Ze, Zf, Zb, Zc]
       rfl
     refine pure_ (i:=26) (N:=some 179) (v:=?_) (a':=?_) #[true,false,true,false,false,true,false,false,true,true,true,true,true,true,true,true,true,true,true,true,true,true,true,true,true,true,true,false,false] rfl rfl (Za HT_.out (by kernel_rfl)) (fun _ _ _ h=>h) (Or.inl ⟨by rfl,?_⟩) ?_ ?_
     rotate_left
     · intro w'
       go_simp
       with_reducible rfl
     rotate_left
     · simp only [Act.put, Zd, Ze, Zf, Zb, Zc]
       rfl
     refine one_ (i:=1) (N:=some 154) #[true,true,true,false,false,true,false,false,true,true,true,true,true,true,true,true,true,true,true,true,true,true,true,true,true,true,true,false,false] rfl rfl (one_of HT_.out (by kernel_rfl)) (by decide) (fun K hK=>?_)
     refine goes_ Try.func29 (by kernel_rfl) rfl #[.int .i64 (rd x10_2 0),.int .u64 2] (by rfl) rfl rfl (by (try simp only [Zj,Zk,Zl]);first|done|rfl|(simp only [Zh,Zi];rfl)) ?_
     with_reducible refine (spec_l7Rot.calls (rd x10_2 0) 2 t144 _ A64.out).mono ?_
     rintro e w' ⟨rfl,⟨nd,rfl⟩⟩
     refine ⟨_,rfl,?_⟩
     refine hK.out _ _ ⟨hHeld.1,hHeld.2.1,hHeld.2.2.1,hHeld.2.2.2⟩ (fun hHeld=>?_)
     clear hK K
     refine norm_ (a':=?_) ?_ ?_
     rotate_left
     · show Act.put _ (some 154) _ = _
       simp only [Act.put,Zd,Ze,Zf,Zb,Zc]
       rfl
     refine one_ (i:=3) (N:=some 156) #[true,true,true,true,false,true,false,false,true,true,true,true,true,true,true,true,true,true,true,true,true,true,true,true,true,true,true,false,false] rfl rfl (one_of HT_.out (by kernel_rfl)) (by decide) (fun K hK=>?_)
     refine goes_ Try.func29 (by kernel_rfl) rfl #[.int .i64 (rd x10_2 0),.int .u64 13] (by rfl) rfl rfl (by (try simp only [Zj,Zk,Zl]);first|done|rfl|(simp only [Zh,Zi];rfl)) ?_
     with_reducible refine (spec_l7Rot.calls (rd x10_2 0) 13 t145 _ A65.out).mono ?_
     rintro e w' ⟨rfl,⟨nd,rfl⟩⟩
     refine ⟨_,rfl,?_⟩
     refine hK.out _ _ ⟨hHeld.1,hHeld.2.1,hHeld.2.2.1,hHeld.2.2.2⟩ (fun hHeld=>?_)
     clear hK K
     refine norm_ (a':=?_) ?_ ?_
     rotate_left
     · show Act.put _ (some 156) _ = _
       simp only [Act.put,Zd,Ze,Zf,Zb,Zc]
       rfl
     refine pure_ (i:=4) (N:=some 157) (v:=?_) (a':=?_) #[true,true,true,true,true,true,false,false,true,true,true,true,true,true,true,true,true,true,true,true,true,true,true,true,true,true,true,false,false] rfl rfl (Za HT_.out (by kernel_rfl)) (fun _ _ _ h=>h) (Or.inl ⟨by rfl,?_⟩) ?_ ?_
     rotate_left
     · intro w'
       go_simp
       with_reducible rfl
     rotate_left
     · simp only [Act.put, Zd, Ze, Zf, Zb, Zc]
       rfl
     refine one_ (i:=6) (N:=some 159) #[true,true,true,true,true,true,true,false,true,true,true,true,true,true,true,true,true,true,true,true,true,true,true,true,true,true,true,false,false] rfl rfl (one_of HT_.out (by kernel_rfl)) (by decide) (fun K hK=>?_)
     refine goes_ Try.func29 (by kernel_rfl) rfl #[.int .i64 (rd x10_2 0),.int .u64 22] (by rfl) rfl rfl (by (try simp only [Zj,Zk,Zl]);first|done|rfl|(simp only [Zh,Zi];rfl)) ?_
     with_reducible refine (spec_l7Rot.calls (rd x10_2 0) 22 t146 _ A66.out).mono ?_
     rintro e w' ⟨rfl,⟨nd,rfl⟩⟩
     refine ⟨_,rfl,?_⟩
     refine hK.out _ _ ⟨hHeld.1,hHeld.2.1,hHeld.2.2.1,hHeld.2.2.2⟩ (fun hHeld=>?_)
     clear hK K
     refine norm_ (a':=?_) ?_ ?_
     rotate_left
     · show Act.put _ (some 159) _ = _
       simp only [Act.put,Zd,Ze,Zf,Zb,Zc]
       rfl
     refine pure_ (i:=7) (N:=some 160) (v:=?_) (a':=?_) #[true,true,true,true,true,true,true,true,true,true,true,true,true,true,true,true,true,true,true,true,true,true,true,true,true,true,true,false,false] rfl rfl (Za HT_.out (by kernel_rfl)) (fun _ _ _ h=>h) (Or.inl ⟨by rfl,?_⟩) ?_ ?_
     rotate_left
     · intro w'
       go_simp
       with_reducible rfl
     rotate_left
     · simp only [Act.put, Zd, Ze, Zf, Zb, Zc]
       rfl
     refine pure_ (i:=27) (N:=some 180) (v:=?_) (a':=?_) #[true,true,true,true,true,true,true,true,true,true,true,true,true,true,true,true,true,true,true,true,true,true,true,true,true,true,true,true,false] rfl rfl (Za HT_.out (by kernel_rfl)) (fun _ _ _ h=>h) (Or.inl ⟨by rfl,?_⟩) ?_ ?_
     rotate_left
     · intro w'
       go_simp
       with_reducible rfl
     rotate_left
     · simp only [Act.put, Zd, Ze, Zf, Zb, Zc]
       rfl
     refine pure_ (i:=28) (N:=some 15) (v:=?_) (a':=?_) #[true,true,true,true,true,true,true,true,true,true,true,true,true,true,true,true,true,true,true,true,true,true,true,true,true,true,true,true,true] rfl rfl (Za HT_.out (by kernel_rfl)) (fun _ _ _ h=>h) (Or.inl ⟨by rfl,?_⟩) ?_ ?_
     rotate_left
     · intro w'
       go_simp
       with_reducible rfl
     rotate_left
     · simp only [Act.put, Zd, Ze, Zf, Zb, Zc]
       rfl
     refine done_ (done_of HT_.out (by kernel_rfl)) ?_
     try go_wp2
     (try (rw [drewN_self w74];generalize hq_ : World.drewN w74 _ = w74;have n0_ : Aside0 (Kd.R (Kd.int .i64) 3 w74 w.heap.size (fun k_=>(some k_ ≠ (.slice (some ad143) x5_1.length co73 : Value).ownBlock ∧ some k_ ≠ (.slice (some ad142) t125.length co72 : Value).ownBlock)) (.slice (some ad134) x10_2.length co70) x10_2):=⟨by rw [← hq_];exact (by (with_reducible repeat (first|apply Z3|apply Z2|apply Z4));exact HO_10.out)⟩;have n1_ : Aside0 (Kd.R (Kd.int .i64) 3 w74 w.heap.size (fun k_=>(some k_ ≠ (.slice (some ad142) t125.length co72 : Value).ownBlock ∧ some k_ ≠ (.slice (some ad134) x10_2.length co70 : Value).ownBlock)) (.slice (some ad143) x5_1.length co73) x5_1):=⟨by rw [← hq_];exact (by (with_reducible repeat (first|apply Z3|apply Z2|apply Z4));exact HO_5.out)⟩;have n2_ : Aside0 (Kd.R (Kd.int .i64) 3 w74 w.heap.size (fun k_=>(some k_ ≠ (.slice (some ad143) x5_1.length co73 : Value).ownBlock ∧ some k_ ≠ (.slice (some ad134) x10_2.length co70 : Value).ownBlock)) (.slice (some ad142) t125.length co72) t125):=⟨by rw [← hq_];exact (by (with_reducible repeat (first|apply Z3|apply Z2|apply Z4));exact HO_9.out)⟩;have n3_ : Aside0 (Below w.heap.size w w74):=⟨by rw [← hq_];exact (by repeat (first|(with_reducible first|exact HB.out|apply Z6|apply Z1|apply Z5)|exact HB.out))⟩;clear HO_10 HO_5 HO_9 HB hq_;have HO_10:=n0_;have HO_5:=n1_;have HO_9:=n2_;have HB:=n3_;clear n0_ n1_ n2_ n3_))
     have n0_:=Z0 (Z4 HO_5.out)
     have n1_:=Z0 (Z4 HO_9.out)
     have n2_:=Z0 (Z4 HO_10.out)
     have n3_:=Z0 (Z5 HB.out)
     clear HO_5
     clear HO_9
     clear HO_10
     clear HB
     have HO_5:=n0_
     have HO_9:=n1_
     have HO_10:=n2_
     have HB:=n3_
     clear n0_ n1_ n2_ n3_
     have p151 : 0 ≤ (0 : Int):=(by omega)
     have q151 : 0 < (x10_2.length : Int):=of_decide_eq_true (by first|(with_reducible assumption)|assumption)
     obtain ⟨ad151,e151,hx151_0⟩:=Z9 (Z7 HO_10.out).2.2 0 p151 q151
     obtain rfl : ad134 = ad151:=(by injection e151)
     have qi151 : (0 < x10_2.length) = True:=eq_true (by omega)
     (try rw [show ((0 : Int)).toNat = 0 from rfl] at hx151_0)
     (try rw [Addr.add_zero'] at hx151_0)
     replace p151:=eq_true p151
     replace q151:=eq_true q151
     have p152 : 0 ≤ (1 : Int):=(by omega)
     have q152 : 1 < (x10_2.length : Int):=of_decide_eq_true (by first|(with_reducible assumption)|assumption)
     obtain ⟨ad152,e152,hx152_0⟩:=Z9 (Z7 HO_10.out).2.2 1 p152 q152
     obtain rfl : ad134 = ad152:=(by injection e152)
     (try simp only [show (1 : Int).toNat = 1 from rfl,Nat.reduceMul,Nat.reduceEqDiff,Go.Addr.add,↓reduceIte] at hx152_0)
     have qi152 : (1 < x10_2.length) = True:=eq_true (by omega)
     (try rw [show ((1 : Int)).toNat = 1 from rfl] at hx152_0)
     replace p152:=eq_true p152
     replace q152:=eq_true q152
     have p153 : 0 ≤ (2 : Int):=(by omega)
     have q153 : 2 < (x10_2.length : Int):=of_decide_eq_true (by first|(with_reducible assumption)|assumption)
     obtain ⟨ad153,e153,hx153_0⟩:=Z9 (Z7 HO_10.out).2.2 2 p153 q153
     obtain rfl : ad134 = ad153:=(by injection e153)
     (try simp only [show (2 : Int).toNat = 2 from rfl,Nat.reduceMul,Nat.reduceEqDiff,Go.Addr.add,↓reduceIte] at hx153_0)
     have qi153 : (2 < x10_2.length) = True:=eq_true (by omega)
     (try rw [show ((2 : Int)).toNat = 2 from rfl] at hx153_0)
     replace p153:=eq_true p153
     replace q153:=eq_true q153
     have p154 : 0 ≤ (3 : Int):=(by omega)
     have q154 : 3 < (x10_2.length : Int):=of_decide_eq_true (by first|(with_reducible assumption)|assumption)
     obtain ⟨ad154,e154,hx154_0⟩:=Z9 (Z7 HO_10.out).2.2 3 p154 q154
     obtain rfl : ad134 = ad154:=(by injection e154)
     (try simp only [show (3 : Int).toNat = 3 from rfl,Nat.reduceMul,Nat.reduceEqDiff,Go.Addr.add,↓reduceIte] at hx154_0)
     have qi154 : (3 < x10_2.length) = True:=eq_true (by omega)
     (try rw [show ((3 : Int)).toNat = 3 from rfl] at hx154_0)
     replace p154:=eq_true p154
     replace q154:=eq_true q154
     have p155 : 0 ≤ (4 : Int):=(by omega)
     have q155 : 4 < (x10_2.length : Int):=of_decide_eq_true (by first|(with_reducible assumption)|assumption)
     obtain ⟨ad155,e155,hx155_0⟩:=Z9 (Z7 HO_10.out).2.2 4 p155 q155
     obtain rfl : ad134 = ad155:=(by injection e155)
     (try simp only [show (4 : Int).toNat = 4 from rfl,Nat.reduceMul,Nat.reduceEqDiff,Go.Addr.add,↓reduceIte] at hx155_0)
     have qi155 : (4 < x10_2.length) = True:=eq_true (by omega)
     (try rw [show ((4 : Int)).toNat = 4 from rfl] at hx155_0)
     replace p155:=eq_true p155
     replace q155:=eq_true q155
     have p156 : 0 ≤ (5 : Int):=(by omega)
     have q156 : 5 < (x10_2.length : Int):=of_decide_eq_true (by first|(with_reducible assumption)|assumption)
     obtain ⟨ad156,e156,hx156_0⟩:=Z9 (Z7 HO_10.out).2.2 5 p156 q156
     obtain rfl : ad134 = ad156:=(by injection e156)
     (try simp only [show (5 : Int).toNat = 5 from rfl,Nat.reduceMul,Nat.reduceEqDiff,Go.Addr.add,↓reduceIte] at hx156_0)
     have qi156 : (5 < x10_2.length) = True:=eq_true (by omega)
     (try rw [show ((5 : Int)).toNat = 5 from rfl] at hx156_0)
     replace p156:=eq_true p156
     replace q156:=eq_true q156
     have p157 : 0 ≤ (6 : Int):=(by omega)
     have q157 : 6 < (x10_2.length : Int):=of_decide_eq_true (by first|(with_reducible assumption)|assumption)
     obtain ⟨ad157,e157,hx157_0⟩:=Z9 (Z7 HO_10.out).2.2 6 p157 q157
     obtain rfl : ad134 = ad157:=(by injection e157)
     (try simp only [show (6 : Int).toNat = 6 from rfl,Nat.reduceMul,Nat.reduceEqDiff,Go.Addr.add,↓reduceIte] at hx157_0)
     have qi157 : (6 < x10_2.length) = True:=eq_true (by omega)
     (try rw [show ((6 : Int)).toNat = 6 from rfl] at hx157_0)
     replace p157:=eq_true p157
     replace q157:=eq_true q157
     refine start_ (n:=30) (S:=fun w'=>w'.cell? ad134 = some (.int .i64 (rd x10_2 0)) ∧ w'.cell? ⟨ad134.block,ad134.off + 1,none⟩ = some (.int .i64 (rd x10_2 1)) ∧ w'.cell? ⟨ad134.block,ad134.off + 2,none⟩ = some (.int .i64 (rd x10_2 2)) ∧ w'.cell? ⟨ad134.block,ad134.off + 3,none⟩ = some (.int .i64 (rd x10_2 3)) ∧ w'.cell? ⟨ad134.block,ad134.off + 4,none⟩ = some (.int .i64 (rd x10_2 4)) ∧ w'.cell? ⟨ad134.block,ad134.off + 5,none⟩ = some (.int .i64 (rd x10_2 5)) ∧ w'.cell? ⟨ad134.block,ad134.off + 6,none⟩ = some (.int .i64 (rd x10_2 6))) (ds:=[]) #[false,false,false,false,false,false,false,false,false,false,false,false,false,false,false,false,false,false,false,false,false,false,false,false,false,false,false,false,false,false] (by kernel_rfl) rfl rfl ⟨hx151_0,hx152_0,hx153_0,hx154_0,hx155_0,hx156_0,hx157_0⟩ (fun hHeld=>?_);refine with_tabW spec_l7Block.tab19 spec_l7Block.bits19 (fun HT_ HW_=>?_)
     generalize w74.drew = w75 at HO_5 HO_9 HO_10 HB hx151_0 hx152_0 hx153_0 hx154_0 hx155_0 hx156_0 hx157_0 hHeld ⊢
     refine pure_ (i:=0) (N:=some 181) (v:=?_) (a':=?_) #[true,false,false,false,false,false,false,false,false,false,false,false,false,false,false,false,false,false,false,false,false,false,false,false,false,false,false,false,false,false] rfl rfl (Za HT_.out (by kernel_rfl)) (fun _ _ _ h=>h) (Or.inl ⟨by rfl,?_⟩) ?_ ?_
     rotate_left
     · intro w'
       go_simp
       with_reducible rfl
     rotate_left
     · simp only [Act.put, Zd, Ze, Zf, Zb, Zc]
       rfl
     refine pure_ (i:=1) (N:=some 182) (v:=?_) (a':=?_) #[true,true,false,false,false,false,false,false,false,false,false,false,false,false,false,false,false,false,false,false,false,false,false,false,false,false,false,false,false,false] rfl rfl (Za HT_.out (by kernel_rfl)) (fun _ _ _ h=>h) (Or.inl ⟨by rfl,?_⟩) ?_ ?_
     rotate_left
     · intro w'
       go_simp
       with_reducible rfl
     rotate_left
     · simp only [Act.put, Zd, Ze, Zf, Zb, Zc]
       rfl
     refine pure_ (i:=2) (N:=some 183) (v:=?_) (a':=?_) #[true,true,true,false,false,false,false,false,false,false,false,false,false,false,false,false,false,false,false,false,false,false,false,false,false,false,false,false,false,false] rfl rfl (Za HT_.out (by kernel_rfl)) (fun _ _ _ h=>h) (Or.inl ⟨by rfl,?_⟩) ?_ ?_
     rotate_left
     · intro w'
       go_simp
       with_reducible rfl
     rotate_left
     · simp only [Act.put, Zd, Ze, Zf, Zb, Zc]
       rfl
     refine pure_ (i:=3) (N:=some 184) (v:=?_) (a':=?_) #[true,true,true,true,false,false,false,false,false,false,false,false,false,false,false,false,false,false,false,false,false,false,false,false,false,false,false,false,false,false] rfl rfl (Za HT_.out (by kernel_rfl)) (fun _ _ _ h=>h) (Or.inl ⟨by rfl,?_⟩) ?_ ?_
     rotate_left
     · intro w'
       go_simp
       with_reducible rfl
     rotate_left
     · simp only [Act.put, Zd, Ze, Zf, Zb, Zc]
       rfl
     refine pure_ (i:=4) (N:=some 185) (v:=?_) (a':=?_) #[true,true,true,true,true,false,false,false,false,false,false,false,false,false,false,false,false,false,false,false,false,false,false,false,false,false,false,false,false,false] rfl rfl (Za HT_.out (by kernel_rfl)) (fun _ _ _ h=>h) (Or.inl ⟨by rfl,?_⟩) ?_ ?_
     rotate_left
     · intro w'
       go_simp
       with_reducible rfl
     rotate_left
     · simp only [Act.put, Zd, Ze, Zf, Zb, Zc]
       rfl
     refine pure_ (i:=5) (N:=some 186) (v:=?_) (a':=?_) #[true,true,true,true,true,true,false,false,false,false,false,false,false,false,false,false,false,false,false,false,false,false,false,false,false,false,false,false,false,false] rfl rfl (Za HT_.out (by kernel_rfl)) (fun _ _ _ h=>h) (Or.inl ⟨by rfl,?_⟩) ?_ ?_
     rotate_left
     · intro w'
       go_simp
       with_reducible rfl
     rotate_left
     · simp only [Act.put, Zd, Ze, Zf, Zb, Zc]
       rfl
     refine pure_ (i:=7) (N:=some 188) (v:=?_) (a':=?_) #[true,true,true,true,true,true,false,true,false,false,false,false,false,false,false,false,false,false,false,false,false,false,false,false,false,false,false,false,false,false] rfl rfl (Za HT_.out (by kernel_rfl)) (fun _ _ _ h=>h) (Or.inl ⟨by rfl,?_⟩) ?_ ?_
     rotate_left
     · intro w'
       go_simp
       with_reducible rfl
     rotate_left
     · simp only [Act.put, Zd, Ze, Zf, Zb, Zc]
       rfl
     refine pure_ (i:=8) (N:=some 189) (v:=?_) (a':=?_) #[true,true,true,true,true,true,false,true,true,false,false,false,false,false,false,false,false,false,false,false,false,false,false,false,false,false,false,false,false,false] rfl rfl (Za HT_.out (by kernel_rfl)) (fun _ _ _ h=>h) (Or.inl ⟨by rfl,?_⟩) ?_ ?_
     rotate_left
     · intro w'
       go_simp
       with_reducible rfl
     rotate_left
     · simp only [Act.put, Zd, Ze, Zf, Zb, Zc]
       rfl
     refine pure_ (i:=10) (N:=some 191) (v:=?_) (a':=?_) #[true,true,true,true,true,true,false,true,true,false,true,false,false,false,false,false,false,false,false,false,false,false,false,false,false,false,false,false,false,false] rfl rfl (Za HT_.out (by kernel_rfl)) (fun _ _ _ h=>h) (Or.inl ⟨by rfl,?_⟩) ?_ ?_
     rotate_left
     · intro w'
       go_simp
       with_reducible rfl
     rotate_left
     · simp only [Act.put, Zd, Ze, Zf, Zb, Zc]
       rfl
     refine pure_ (i:=11) (N:=some 192) (v:=?_) (a':=?_) #[true,true,true,true,true,true,false,true,true,false,true,true,false,false,false,false,false,false,false,false,false,false,false,false,false,false,false,false,false,false] rfl rfl (Za HT_.out (by kernel_rfl)) (fun _ _ _ h=>h) (Or.inl ⟨by rfl,?_⟩) ?_ ?_
     rotate_left
     · intro w'
       go_simp
       with_reducible rfl
     rotate_left
     · simp only [Act.put, Zd, Ze, Zf, Zb, Zc]
       rfl
     refine pure_ (i:=13) (N:=some 194) (v:=?_) (a':=?_) #[true,true,true,true,true,true,false,true,true,false,true,true,false,true,false,false,false,false,false,false,false,false,false,false,false,false,false,false,false,false] rfl rfl (Za HT_.out (by kernel_rfl)) (fun _ _ _ h=>h) (Or.inl ⟨by rfl,?_⟩) ?_ ?_
     rotate_left
     · intro w'
       go_simp
       with_reducible rfl
     rotate_left
     · simp only [Act.put, Zd, Ze, Zf, Zb, Zc]
       rfl
     refine pure_ (i:=14) (N:=some 195) (v:=?_) (a':=?_) #[true,true,true,true,true,true,false,true,true,false,true,true,false,true,true,false,false,false,false,false,false,false,false,false,false,false,false,false,false,false] rfl rfl (Za HT_.out (by kernel_rfl)) (fun _ _ _ h=>h) (Or.inl ⟨by rfl,?_⟩) ?_ ?_
     rotate_left
     · intro w'
       go_simp
       with_reducible rfl
     rotate_left
     · simp only [Act.put, Zd, Ze, Zf, Zb, Zc]
       rfl
     refine pure_ (i:=16) (N:=some 197) (v:=?_) (a':=?_) #[true,true,true,true,true,true,false,true,true,false,true,true,false,true,true,false,true,false,false,false,false,false,false,false,false,false,false,false,false,false] rfl rfl (Za HT_.out (by kernel_rfl)) (fun _ _ _ h=>h) (Or.inl ⟨by rfl,?_⟩) ?_ ?_
     rotate_left
     · intro w'
       go_simp
       with_reducible rfl
     rotate_left
     · simp only [Act.put, Zd, Ze, Zf, Zb, Zc]
       rfl
     refine pure_ (i:=19) (N:=some 200) (v:=?_) (a':=?_) #[true,true,true,true,true,true,false,true,true,false,true,true,false,true,true,false,true,false,false,true,false,false,false,false,false,false,false,false,false,false] rfl rfl (Za HT_.out (by kernel_rfl)) (fun _ _ _ h=>h) (Or.inl ⟨by rfl,?_⟩) ?_ ?_
     rotate_left
     · intro w'
       go_simp
       with_reducible rfl
     rotate_left
     · simp only [Act.put, Zd, Ze, Zf, Zb, Zc]
       rfl
     refine pure_ (i:=20) (N:=some 201) (v:=?_) (a':=?_) #[true,true,true,true,true,true,false,true,true,false,true,true,false,true,true,false,true,false,false,true,true,false,false,false,false,false,false,false,false,false] rfl rfl (Za HT_.out (by kernel_rfl)) (fun _ _ _ h=>h) (Or.inl ⟨by rfl,?_⟩) ?_ ?_
     rotate_left
     · intro w'
       go_simp
       with_reducible rfl
     rotate_left
     · simp only [Act.put, Zd, Ze, Zf, Zb, Zc]
       rfl
     refine pure_ (i:=22) (N:=some 203) (v:=?_) (a':=?_) #[true,true,true,true,true,true,false,true,true,false,true,true,false,true,true,false,true,false,false,true,true,false,true,false,false,false,false,false,false,false] rfl rfl (Za HT_.out (by kernel_rfl)) (fun _ _ _ h=>h) (Or.inl ⟨by rfl,?_⟩) ?_ ?_
     rotate_left
     · intro w'
       go_simp
       with_reducible rfl
     rotate_left
     · simp only [Act.put, Zd, Ze, Zf, Zb, Zc]
       rfl
     refine pure_ (i:=23) (N:=some 204) (v:=?_) (a':=?_) #[true,true,true,true,true,true,false,true,true,false,true,true,false,true,true,false,true,false,false,true,true,false,true,true,false,false,false,false,false,false] rfl rfl (Za HT_.out (by kernel_rfl)) (fun _ _ _ h=>h) (Or.inl ⟨by rfl,?_⟩) ?_ ?_
     rotate_left
     · intro w'
       go_simp
       with_reducible rfl
     rotate_left
     · simp only [Act.put, Zd, Ze, Zf, Zb, Zc]
       rfl
     refine pure_ (i:=25) (N:=some 206) (v:=?_) (a':=?_) #[true,true,true,true,true,true,false,true,true,false,true,true,false,true,true,false,true,false,false,true,true,false,true,true,false,true,false,false,false,false] rfl rfl (Za HT_.out (by kernel_rfl)) (fun _ _ _ h=>h) (Or.inl ⟨by rfl,?_⟩) ?_ ?_
     rotate_left
     · intro w'
       go_simp
       with_reducible rfl
     rotate_left
     · simp only [Act.put, Zd, Ze, Zf, Zb, Zc]
       rfl
     refine pure_ (i:=26) (N:=some 207) (v:=?_) (a':=?_) #[true,true,true,true,true,true,false,true,true,false,true,true,false,true,true,false,true,false,false,true,true,false,true,true,false,true,true,false,false,false] rfl rfl (Za HT_.out (by kernel_rfl)) (fun _ _ _ h=>h) (Or.inl ⟨by rfl,?_⟩) ?_ ?_
     rotate_left
     · intro w'
       go_simp
       with_reducible rfl
     rotate_left
     · simp only [Act.put, Zd, Ze, Zf, Zb, Zc]
       rfl
     refine take_ (i:=6) (N:=some 187) (v:=?_) (a':=?_) #[true,true,true,true,true,true,true,true,true,false,true,true,false,true,true,false,true,false,false,true,true,false,true,true,false,true,true,false,false,false] rfl rfl (take_ofW HT_.out HW_.out (by kernel_rfl)) (fun _ _ _ h=>h) (Or.inl ⟨by rfl,?_⟩) hHeld ?_ ?_
     rotate_left
     · rintro w' ⟨s0, s1, s2, s3, s4, s5, s6⟩
       go_simp
       with_reducible rfl
     rotate_left
     · simp only [Act.put, Zd, Ze, Zf, Zb, Zc]
       rfl
     refine take_ (i:=9) (N:=some 190) (v:=?_) (a':=?_) #[true,true,true,true,true,true,true,true,true,true,true,true,false,true,true,false,true,false,false,true,true,false,true,true,false,true,true,false,false,false] rfl rfl (take_ofW HT_.out HW_.out (by kernel_rfl)) (fun _ _ _ h=>h) (Or.inl ⟨by rfl,?_⟩) hHeld ?_ ?_
     rotate_left
     · rintro w' ⟨s0, s1, s2, s3, s4, s5, s6⟩
       go_simp
       with_reducible rfl
     rotate_left
     · simp only [Act.put, Zd, Ze, Zf, Zb, Zc]
       rfl
     refine take_ (i:=12) (N:=some 193) (v:=?_) (a':=?_) #[true,true,true,true,true,true,true,true,true,true,true,true,true,true,true,false,true,false,false,true,true,false,true,true,false,true,true,false,false,false] rfl rfl (take_ofW HT_.out HW_.out (by kernel_rfl)) (fun _ _ _ h=>h) (Or.inl ⟨by rfl,?_⟩) hHeld ?_ ?_
     rotate_left
     · rintro w' ⟨s0, s1, s2, s3, s4, s5, s6⟩
       go_simp
       with_reducible rfl
     rotate_left
     · simp only [Act.put, Zd, Ze, Zf, Zb, Zc]
       rfl
     refine take_ (i:=15) (N:=some 196) (v:=?_) (a':=?_) #[true,true,true,true,true,true,true,true,true,true,true,true,true,true,true,true,true,false,false,true,true,false,true,true,false,true,true,false,false,false] rfl rfl (take_ofW HT_.out HW_.out (by kernel_rfl)) (fun _ _ _ h=>h) (Or.inl ⟨by rfl,?_⟩) hHeld ?_ ?_
     rotate_left
     · rintro w' ⟨s0, s1, s2, s3, s4, s5, s6⟩
       go_simp
       with_reducible rfl
     rotate_left
     · simp only [Act.put, Zd, Ze, Zf, Zb, Zc]
       rfl
     refine pure_ (i:=17) (N:=some 198) (v:=?_) (a':=?_) #[true,true,true,true,true,true,true,true,true,true,true,true,true,true,true,true,true,true,false,true,true,false,true,true,false,true,true,false,false,false] rfl rfl (Za HT_.out (by kernel_rfl)) (fun _ _ _ h=>h) (Or.inl ⟨by rfl,?_⟩) ?_ ?_
     rotate_left
     · intro w'
       go_simp
       with_reducible rfl
     rotate_left
     · simp only [Act.put, Zd, Ze, Zf, Zb, Zc]
       rfl
     refine pure_ (i:=18) (N:=some 199) (v:=?_) (a':=?_) #[true,true,true,true,true,true,true,true,true,true,true,true,true,true,true,true,true,true,true,true,true,false,true,true,false,true,true,false,false,false] rfl rfl (Za HT_.out (by kernel_rfl)) (fun _ _ _ h=>h) (Or.inl ⟨by rfl,?_⟩) ?_ ?_
     rotate_left
     · intro w'
       go_simp
       with_reducible rfl
     rotate_left
     · simp only [Act.put, Zd, Ze, Zf, Zb, Zc]
       rfl
     refine take_ (i:=21) (N:=some 202) (v:=?_) (a':=?_) #[true,true,true,true,true,true,true,true,true,true,true,true,true,true,true,true,true,true,true,true,true,true,true,true,false,true,true,false,false,false] rfl rfl (take_ofW HT_.out HW_.out (by kernel_rfl)) (fun _ _ _ h=>h) (Or.inl ⟨by rfl,?_⟩) hHeld ?_ ?_
     rotate_left
     · rintro w' ⟨s0, s1, s2, s3, s4, s5, s6⟩
       go_simp
       with_reducible rfl
     rotate_left
     · simp only [Act.put, Zd, Ze, Zf, Zb, Zc]
       rfl
     refine take_ (i:=24) (N:=some 205) (v:=?_) (a':=?_) #[true,true,true,true,true,true,true,true,true,true,true,true,true,true,true,true,true,true,true,true,true,true,true,true,true,true,true,false,false,false] rfl rfl (take_ofW HT_.out HW_.out (by kernel_rfl)) (fun _ _ _ h=>h) (Or.inl ⟨by rfl,?_⟩) hHeld ?_ ?_
     rotate_left
     · rintro w' ⟨s0, s1, s2, s3, s4, s5, s6⟩
       go_simp
       with_reducible rfl
     rotate_left
     · simp only [Act.put, Zd, Ze, Zf, Zb, Zc]
       rfl
     refine take_ (i:=27) (N:=some 208) (v:=?_) (a':=?_) #[true,true,true,true,true,true,true,true,true,true,true,true,true,true,true,true,true,true,true,true,true,true,true,true,true,true,true,true,false,false] rfl rfl (take_ofW HT_.out HW_.out (by kernel_rfl)) (fun _ _ _ h=>h) (Or.inl ⟨by rfl,?_⟩) hHeld ?_ ?_
     rotate_left
     · rintro w' ⟨s0, s1, s2, s3, s4, s5, s6⟩
       go_simp
       with_reducible rfl
     rotate_left
     · simp only [Act.put, Zd, Ze, Zf, Zb, Zc]
       rfl
     refine one_ (i:=28) (N:=some 209) #[true,true,true,true,true,true,true,true,true,true,true,true,true,true,true,true,true,true,true,true,true,true,true,true,true,true,true,true,true,false] rfl rfl (one_of HT_.out (by kernel_rfl)) (by decide) (fun K hK=>?_)
     refine Kd.R_lit_step (Kd.int .i64) _ 3 ?hg (N:=209) ?hd (xs:=([Go.bits .and .i64 (wrap64 ((wrap64 ((wrap64 ((wrap64 ((wrap64 ((rd x10_2 7) + (Go.bits .xor .i64 (Go.bits .xor .i64 t137 t138) t139))) + (Go.bits .xor .i64 (Go.bits .and .i64 (rd x10_2 4) (rd x10_2 5)) (Go.bits .and .i64 (wrap64 (4294967295 - (rd x10_2 4))) (rd x10_2 6))))) + (rd t125 x11_2))) + (rd x5_1 x11_2))) + (wrap64 ((Go.bits .xor .i64 (Go.bits .xor .i64 t144 t145) t146) + (Go.bits .xor .i64 (Go.bits .xor .i64 (Go.bits .and .i64 (rd x10_2 0) (rd x10_2 1)) (Go.bits .and .i64 (rd x10_2 0) (rd x10_2 2))) (Go.bits .and .i64 (rd x10_2 1) (rd x10_2 2))))))) 4294967295,rd x10_2 0,rd x10_2 1,rd x10_2 2,Go.bits .and .i64 (wrap64 ((rd x10_2 3) + (wrap64 ((wrap64 ((wrap64 ((wrap64 ((rd x10_2 7) + (Go.bits .xor .i64 (Go.bits .xor .i64 t137 t138) t139))) + (Go.bits .xor .i64 (Go.bits .and .i64 (rd x10_2 4) (rd x10_2 5)) (Go.bits .and .i64 (wrap64 (4294967295 - (rd x10_2 4))) (rd x10_2 6))))) + (rd t125 x11_2))) + (rd x5_1 x11_2))))) 4294967295,rd x10_2 4,rd x10_2 5,rd x10_2 6] : List Int)) (inner:=[.int .i64 (Go.bits .and .i64 (wrap64 ((wrap64 ((wrap64 ((wrap64 ((wrap64 ((rd x10_2 7) + (Go.bits .xor .i64 (Go.bits .xor .i64 t137 t138) t139))) + (Go.bits .xor .i64 (Go.bits .and .i64 (rd x10_2 4) (rd x10_2 5)) (Go.bits .and .i64 (wrap64 (4294967295 - (rd x10_2 4))) (rd x10_2 6))))) + (rd t125 x11_2))) + (rd x5_1 x11_2))) + (wrap64 ((Go.bits .xor .i64 (Go.bits .xor .i64 t144 t145) t146) + (Go.bits .xor .i64 (Go.bits .xor .i64 (Go.bits .and .i64 (rd x10_2 0) (rd x10_2 1)) (Go.bits .and .i64 (rd x10_2 0) (rd x10_2 2))) (Go.bits .and .i64 (rd x10_2 1) (rd x10_2 2))))))) 4294967295),.int .i64 (rd x10_2 0),.int .i64 (rd x10_2 1),.int .i64 (rd x10_2 2),.int .i64 (Go.bits .and .i64 (wrap64 ((rd x10_2 3) + (wrap64 ((wrap64 ((wrap64 ((wrap64 ((rd x10_2 7) + (Go.bits .xor .i64 (Go.bits .xor .i64 t137 t138) t139))) + (Go.bits .xor .i64 (Go.bits .and .i64 (rd x10_2 4) (rd x10_2 5)) (Go.bits .and .i64 (wrap64 (4294967295 - (rd x10_2 4))) (rd x10_2 6))))) + (rd t125 x11_2))) + (rd x5_1 x11_2))))) 4294967295),.int .i64 (rd x10_2 4),.int .i64 (rd x10_2 5),.int .i64 (rd x10_2 6)]) (ok:=fun _=>True) (okp:=fun _=>True) ?hr ?hp (fun _ hk=>hk) trivial (Below.refl _ _) (Zm _) (by simp) ?_;(case hd=>rfl);(case hg=>rfl);(case hr=>first|(go_simp;done)|(go_simp;rfl));(case hp=>exact (Reps.one (show Kd.M (Kd.int .i64) _ _ _ (Go.bits .and .i64 (wrap64 ((wrap64 ((wrap64 ((wrap64 ((wrap64 ((rd x10_2 7) + (Go.bits .xor .i64 (Go.bits .xor .i64 t137 t138) t139))) + (Go.bits .xor .i64 (Go.bits .and .i64 (rd x10_2 4) (rd x10_2 5)) (Go.bits .and .i64 (wrap64 (4294967295 - (rd x10_2 4))) (rd x10_2 6))))) + (rd t125 x11_2))) + (rd x5_1 x11_2))) + (wrap64 ((Go.bits .xor .i64 (Go.bits .xor .i64 t144 t145) t146) + (Go.bits .xor .i64 (Go.bits .xor .i64 (Go.bits .and .i64 (rd x10_2 0) (rd x10_2 1)) (Go.bits .and .i64 (rd x10_2 0) (rd x10_2 2))) (Go.bits .and .i64 (rd x10_2 1) (rd x10_2 2))))))) 4294967295) [.int .i64 (Go.bits .and .i64 (wrap64 ((wrap64 ((wrap64 ((wrap64 ((wrap64 ((rd x10_2 7) + (Go.bits .xor .i64 (Go.bits .xor .i64 t137 t138) t139))) + (Go.bits .xor .i64 (Go.bits .and .i64 (rd x10_2 4) (rd x10_2 5)) (Go.bits .and .i64 (wrap64 (4294967295 - (rd x10_2 4))) (rd x10_2 6))))) + (rd t125 x11_2))) + (rd x5_1 x11_2))) + (wrap64 ((Go.bits .xor .i64 (Go.bits .xor .i64 t144 t145) t146) + (Go.bits .xor .i64 (Go.bits .xor .i64 (Go.bits .and .i64 (rd x10_2 0) (rd x10_2 1)) (Go.bits .and .i64 (rd x10_2 0) (rd x10_2 2))) (Go.bits .and .i64 (rd x10_2 1) (rd x10_2 2))))))) 4294967295)] from rfl) (Reps.one (show Kd.M (Kd.int .i64) _ _ _ (rd x10_2 0) [.int .i64 (rd x10_2 0)] from rfl) (Reps.one (show Kd.M (Kd.int .i64) _ _ _ (rd x10_2 1) [.int .i64 (rd x10_2 1)] from rfl) (Reps.one (show Kd.M (Kd.int .i64) _ _ _ (rd x10_2 2) [.int .i64 (rd x10_2 2)] from rfl) (Reps.one (show Kd.M (Kd.int .i64) _ _ _ (Go.bits .and .i64 (wrap64 ((rd x10_2 3) + (wrap64 ((wrap64 ((wrap64 ((wrap64 ((rd x10_2 7) + (Go.bits .xor .i64 (Go.bits .xor .i64 t137 t138) t139))) + (Go.bits .xor .i64 (Go.bits .and .i64 (rd x10_2 4) (rd x10_2 5)) (Go.bits .and .i64 (wrap64 (4294967295 - (rd x10_2 4))) (rd x10_2 6))))) + (rd t125 x11_2))) + (rd x5_1 x11_2))))) 4294967295) [.int .i64 (Go.bits .and .i64 (wrap64 ((rd x10_2 3) + (wrap64 ((wrap64 ((wrap64 ((wrap64 ((rd x10_2 7) + (Go.bits .xor .i64 (Go.bits .xor .i64 t137 t138) t139))) + (Go.bits .xor .i64 (Go.bits .and .i64 (rd x10_2 4) (rd x10_2 5)) (Go.bits .and .i64 (wrap64 (4294967295 - (rd x10_2 4))) (rd x10_2 6))))) + (rd t125 x11_2))) + (rd x5_1 x11_2))))) 4294967295)] from rfl) (Reps.one (show Kd.M (Kd.int .i64) _ _ _ (rd x10_2 4) [.int .i64 (rd x10_2 4)] from rfl) (Reps.one (show Kd.M (Kd.int .i64) _ _ _ (rd x10_2 5) [.int .i64 (rd x10_2 5)] from rfl) (Reps.one (show Kd.M (Kd.int .i64) _ _ _ (rd x10_2 6) [.int .i64 (rd x10_2 6)] from rfl) (Reps.none _ _))))))))))
     intro v159 w76 ho77 hb hg_ hnew_
     have HS0_:=(hb.cell (World.block_lt_of_cell? _ _ (hHeld.1))).trans (hHeld.1)
     have HS1_:=(hb.cell (World.block_lt_of_cell? _ _ (hHeld.2.1))).trans (hHeld.2.1)
     have HS2_:=(hb.cell (World.block_lt_of_cell? _ _ (hHeld.2.2.1))).trans (hHeld.2.2.1)
     have HS3_:=(hb.cell (World.block_lt_of_cell? _ _ (hHeld.2.2.2.1))).trans (hHeld.2.2.2.1)
     have HS4_:=(hb.cell (World.block_lt_of_cell? _ _ (hHeld.2.2.2.2.1))).trans (hHeld.2.2.2.2.1)
     have HS5_:=(hb.cell (World.block_lt_of_cell? _ _ (hHeld.2.2.2.2.2.1))).trans (hHeld.2.2.2.2.2.1)
     have HS6_:=(hb.cell (World.block_lt_of_cell? _ _ (hHeld.2.2.2.2.2.2))).trans (hHeld.2.2.2.2.2.2)
     clear hg_ hnew_
     (first|rw [← Ny158.out] at ho77|(simp only [Int.reduceToNat] at ho77;rw [← Ny158.out] at ho77))
     have n0_:=Z0 (Z8 (by (with_reducible repeat (first|apply Z3|apply Z2|apply Z4));exact HO_5.out) (Kd.R_base ho77) hb)
     have n1_:=Z0 (Z8 (by (with_reducible repeat (first|apply Z3|apply Z2|apply Z4));exact HO_9.out) (Kd.R_base ho77) hb)
     have n2_:=Z0 (Z8 (by (with_reducible repeat (first|apply Z3|apply Z2|apply Z4));exact HO_10.out) (Kd.R_base ho77) hb)
     have n3_:=Z0 (Kd.R_lower (Kd.R_new' (Kd.R_new' (Kd.R_new' ho77 (Kd.R_lt (by (with_reducible repeat (first|apply Z3|apply Z2|apply Z4));exact HO_5.out))) (Kd.R_lt (by (with_reducible repeat (first|apply Z3|apply Z2|apply Z4));exact HO_9.out))) (Kd.R_lt (by (with_reducible repeat (first|apply Z3|apply Z2|apply Z4));exact HO_10.out))) (below_size (by repeat (first|(with_reducible first|exact HB.out|apply Z6|apply Z1|apply Z5)|exact HB.out))))
     have n4_:=Z0 (below_step (by repeat (first|(with_reducible first|exact HB.out|apply Z6|apply Z1|apply Z5)|exact HB.out)) hb)
     clear HO_5
     clear HO_9
     clear HO_10
     clear HB
     have HO_5:=n0_
     have HO_9:=n1_
     have HO_10:=n2_
     have HO160:=n3_
     have HB:=n4_
     clear n0_ n1_ n2_ n3_ n4_
     clear hb ho77
     refine hK.out _ _ ⟨HS0_,HS1_,HS2_,HS3_,HS4_,HS5_,HS6_⟩ (fun hHeld=>?_)
     clear hK K
     refine norm_ (a':=?_) ?_ ?_
     rotate_left
     · show Act.put _ (some 209) _ = _
       simp only [Act.put,Zd,Ze,Zf,Zb,Zc]
       rfl
     refine pure_ (i:=29) (N:=some 10) (v:=?_) (a':=?_) #[true,true,true,true,true,true,true,true,true,true,true,true,true,true,true,true,true,true,true,true,true,true,true,true,true,true,true,true,true,true] rfl rfl (Za HT_.out (by kernel_rfl)) (fun _ _ _ h=>h) (Or.inl ⟨by rfl,?_⟩) ?_ ?_
     rotate_left
     · intro w'
       go_simp
       with_reducible rfl
     rotate_left
     · simp only [Act.put, Zd, Ze, Zf, Zb, Zc]
       rfl
     refine done_ (done_of HT_.out (by kernel_rfl)) ?_
     try go_wp2
     go_roundg k2
     case measure=>have:=HK1.out;have:=HK2.out;omega
     case rel=>exact ⟨(y158),(wrap64 (x11_2 + 1)),(by first|rfl|(simp;done)|(simp [*];done)),H',⟨by have:=HK1.out;have:=HK2.out;omega⟩,⟨by (with_reducible repeat (first|apply Z3|apply Z2|apply Z4));exact Kd.R_mono HO_5.out (fun _ hk=>⟨hk.1.1,hk.2⟩)⟩,⟨by (with_reducible repeat (first|apply Z3|apply Z2|apply Z4));exact Kd.R_mono HO_9.out (fun _ hk=>⟨hk.1.1,hk.2⟩)⟩,⟨by (with_reducible repeat (first|apply Z3|apply Z2|apply Z4));exact Kd.R_mono HO160.out (fun _ hk=>⟨hk.1.1.2,hk.1.2⟩)⟩,⟨by repeat (first|(with_reducible first|exact HB.out|apply Z6|apply Z1|apply Z5)|exact HB.out)⟩⟩

end Go.Proofs.Ytpkfmjdmfphbaag.QFnExactMac
