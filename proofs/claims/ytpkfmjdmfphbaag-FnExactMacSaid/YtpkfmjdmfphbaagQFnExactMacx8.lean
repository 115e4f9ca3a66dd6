/- Plain functions with the same answers as the program's, and the proofs that they are. Printed by a program of this session (wip/myprint.py) out of Lean's print of the loaded program. Conditions: those in each theorem's head. -/
import Derived.Test.YtpkfmjdmfphbaagQFnExactMacx0
import Derived.Test.YtpkfmjdmfphbaagQFnExactMacx6
import Derived.Test.YtpkfmjdmfphbaagQFnExactMacx7
namespace Go.Proofs.Ytpkfmjdmfphbaag.QFnExactMac
open Go.RowKit Go.Proofs.Ytpkfmjdmfphbaag.Given Go.Proofs.YtpkfmjdmfphbaagW.PrintWords Go.Proofs.YtpkfmjdmfphbaagW.PrintLast Go.Proofs.YtpkfmjdmfphbaagW.PrintMore
open Go.Proofs.YtpkfmjdmfphbaagW.PrintWords.Aside0 renaming mk → Z0
open Go.Proofs.YtpkfmjdmfphbaagW.PrintWords renaming pw_below_drewN → Z1, below_drew1 → Z5, below_alloc → Z6
open Go.Proofs.YtpkfmjdmfphbaagW.PrintWords.Kd renaming R_drewN → Z2, R_alloc → Z3, R_drew → Z4, R_reads' → Z7, at_int → Z8
open Go.Proofs.YtpkfmjdmfphbaagW.PrintLast renaming any_of → Z9, i64_w → Za, i32_w → Zb
open List renaming setIfInBounds_toArray → Zc, set_cons_zero → Zd, set_cons_succ → Ze, length_drop → Zg, length_take → Zh, map_toArray → Zi, map_cons → Zj, map_nil → Zk
open Option renaming bind_some → Zf
open Nat renaming le_refl → Zl
attribute [local go_sem] max2_int min2_int max_two min_two max_three min_three max_four min_four   -- for this text's walks alone
set_option linter.unusedVariables false
set_option linter.unusedSimpArgs false

/-! ### impl_turned: function 26 -/
mutual
def impl_turned.l0 : Nat → List Int → List Int → List Int → List Int → Int → Int → Option (List Int)
 | 0, _, _, _, _, _, _ => none
 | k + 1, x0, x1, x5, x19, x20, x21 => if x21 < x20 then (if 0 ≤ x21 then (if x21 < (x19.length : Int) then (if x5.length < 35184372088832 then (impl_turned.l0 k x0 x1 (x5 ++ [(rd x19 x21) % 4294967296]) x19 x20 (wrap64 (x21 + 1))) else (none)) else (none)) else (none)) else ((impl_rounds.f).bind fun t378 => ((impl_schedule.f k x1).bind fun t381 => (impl_turned.l1 k x0 x5 t378 t381 (t381.length : Int) 0)))
def impl_turned.l1 : Nat → List Int → List Int → List Int → List Int → Int → Int → Option (List Int)
 | 0, _, _, _, _, _, _ => none
 | k + 1, x0, x5, x8, x33, x34, x35 => if x35 < x34 then (if 0 ≤ x35 then (if x35 < (x33.length : Int) then (if 0 < (x5.length : Int) then (if 4 < (x5.length : Int) then (if 7 < (x5.length : Int) then ((impl_rot.f (rd x5 4) 6).bind fun t388 => ((impl_rot.f (rd x5 4) 11).bind fun t389 => ((impl_rot.f (rd x5 4) 25).bind fun t390 => (if 5 < (x5.length : Int) then (if 6 < (x5.length : Int) then (if x35 < (x8.length : Int) then ((impl_rot.f (rd x5 0) 2).bind fun t394 => ((impl_rot.f (rd x5 0) 13).bind fun t395 => ((impl_rot.f (rd x5 0) 22).bind fun t396 => (if 1 < (x5.length : Int) then (if 2 < (x5.length : Int) then (if 3 < (x5.length : Int) then (impl_turned.l1 k x0 (([((((((rd x5 7) + (Go.bits .xor .u32 (Go.bits .xor .u32 t388 t389) t390)) + (Go.bits .xor .u32 (Go.bits .and .u32 (rd x5 4) (rd x5 5)) (Go.bits .and .u32 (Go.bits .xor .u32 IntKind.u32.max (rd x5 4)) (rd x5 6)))) + (rd x8 x35)) + (rd x33 x35)) + ((Go.bits .xor .u32 (Go.bits .xor .u32 t394 t395) t396) + (Go.bits .xor .u32 (Go.bits .xor .u32 (Go.bits .and .u32 (rd x5 0) (rd x5 1)) (Go.bits .and .u32 (rd x5 0) (rd x5 2))) (Go.bits .and .u32 (rd x5 1) (rd x5 2))))) % 4294967296, rd x5 0, rd x5 1, rd x5 2, ((rd x5 3) + (((((rd x5 7) + (Go.bits .xor .u32 (Go.bits .xor .u32 t388 t389) t390)) + (Go.bits .xor .u32 (Go.bits .and .u32 (rd x5 4) (rd x5 5)) (Go.bits .and .u32 (Go.bits .xor .u32 IntKind.u32.max (rd x5 4)) (rd x5 6)))) + (rd x8 x35)) + (rd x33 x35))) % 4294967296, rd x5 4, rd x5 5, rd x5 6] : List Int)) x8 x33 x34 (wrap64 (x35 + 1))) else (none)) else (none)) else (none))))) else (none)) else (none)) else (none))))) else (none)) else (none)) else (none)) else (none)) else (none)) else (impl_turned.l2 k x0 (([] : List Int)) x5 (x5.length : Int) 0)
def impl_turned.l2 : Nat → List Int → List Int → List Int → Int → Int → Option (List Int)
 | 0, _, _, _, _, _ => none
 | k + 1, x0, x15, x135, x136, x137 => if x137 < x136 then (if 0 ≤ x137 then (if x137 < (x135.length : Int) then (if x137 < (x0.length : Int) then (if x15.length < 17592186044416 then (impl_turned.l2 k x0 (x15 ++ [((rd x0 x137) + (rd x135 x137)) % 4294967296]) x135 x136 (wrap64 (x137 + 1))) else (none)) else (none)) else (none)) else (none)) else (some x15)
end
def impl_turned.f (k : Nat) (l0 : List Int) (l1 : List Int) : Option (List Int) := impl_turned.l0 k l0 l1 (([] : List Int)) l0 (l0.length : Int) 0
theorem impl_turned.mono_l : ∀ k, (∀ y0 y1 y2 y3 y4 y5, LeO (impl_turned.l0 k y0 y1 y2 y3 y4 y5) (impl_turned.l0 (k + 1) y0 y1 y2 y3 y4 y5)) ∧ (∀ y0 y1 y2 y3 y4 y5, LeO (impl_turned.l1 k y0 y1 y2 y3 y4 y5) (impl_turned.l1 (k + 1) y0 y1 y2 y3 y4 y5)) ∧ (∀ y0 y1 y2 y3 y4, LeO (impl_turned.l2 k y0 y1 y2 y3 y4) (impl_turned.l2 (k + 1) y0 y1 y2 y3 y4))
 | 0 => ⟨fun _ _ _ _ _ _ r h => by simp [impl_turned.l0] at h, fun _ _ _ _ _ _ r h => by simp [impl_turned.l1] at h, fun _ _ _ _ _ r h => by simp [impl_turned.l2] at h⟩
 | k + 1 => by
  obtain ⟨ih0,ih1,ih2⟩:=impl_turned.mono_l k
  refine ⟨?_,?_,?_⟩
  · intro y0 y1 y2 y3 y4 y5
    unfold impl_turned.l0
    repeat' first
    | (with_reducible exact ih0 _ _ _ _ _ _)
    | (with_reducible exact ih1 _ _ _ _ _ _)
    | (with_reducible exact ih2 _ _ _ _ _)
    | (with_reducible exact impl_schedule.mono _ _)
    | (with_reducible exact LeO.refl _)
    | (with_reducible exact LeO.none _)
    | (with_reducible refine LeO.ite ?_ ?_)
    | (with_reducible refine LeO.bind ?_ (fun _=>?_))
    | exact ih0 _ _ _ _ _ _
    | exact ih1 _ _ _ _ _ _
    | exact ih2 _ _ _ _ _
    | exact impl_schedule.mono _ _
    | exact LeO.none _
    | refine LeO.ite ?_ ?_
    | refine LeO.bind ?_ (fun _=>?_)
  · intro y0 y1 y2 y3 y4 y5
    unfold impl_turned.l1
    repeat' first
    | (with_reducible exact ih0 _ _ _ _ _ _)
    | (with_reducible exact ih1 _ _ _ _ _ _)
    | (with_reducible exact ih2 _ _ _ _ _)
    | (with_reducible exact impl_schedule.mono _ _)
    | (with_reducible exact LeO.refl _)
    | (with_reducible exact LeO.none _)
    | (with_reducible refine LeO.ite ?_ ?_)
    | (with_reducible refine LeO.bind ?_ (fun _=>?_))
    | exact ih0 _ _ _ _ _ _
    | exact ih1 _ _ _ _ _ _
    | exact ih2 _ _ _ _ _
    | exact impl_schedule.mono _ _
    | exact LeO.none _
    | refine LeO.ite ?_ ?_
    | refine LeO.bind ?_ (fun _=>?_)
  · intro y0 y1 y2 y3 y4
    unfold impl_turned.l2
    repeat' first
    | (with_reducible exact ih0 _ _ _ _ _ _)
    | (with_reducible exact ih1 _ _ _ _ _ _)
    | (with_reducible exact ih2 _ _ _ _ _)
    | (with_reducible exact impl_schedule.mono _ _)
    | (with_reducible exact LeO.refl _)
    | (with_reducible exact LeO.none _)
    | (with_reducible refine LeO.ite ?_ ?_)
    | (with_reducible refine LeO.bind ?_ (fun _=>?_))
    | exact ih0 _ _ _ _ _ _
    | exact ih1 _ _ _ _ _ _
    | exact ih2 _ _ _ _ _
    | exact impl_schedule.mono _ _
    | exact LeO.none _
    | refine LeO.ite ?_ ?_
    | refine LeO.bind ?_ (fun _=>?_)
theorem impl_turned.mono : ∀ a0 a1 k, LeO (impl_turned.f k a0 a1) (impl_turned.f (k + 1) a0 a1) := by
 intro a0 a1 k
 obtain ⟨ih0,ih1,ih2⟩:=impl_turned.mono_l k
 unfold impl_turned.f
 repeat' first
  | (with_reducible exact ih0 _ _ _ _ _ _)
  | (with_reducible exact ih1 _ _ _ _ _ _)
  | (with_reducible exact ih2 _ _ _ _ _)
  | (with_reducible exact impl_schedule.mono _ _)
  | (with_reducible exact LeO.refl _)
  | (with_reducible exact LeO.none _)
  | (with_reducible refine LeO.ite ?_ ?_)
  | (with_reducible refine LeO.bind ?_ (fun _=>?_))
  | exact ih0 _ _ _ _ _ _
  | exact ih1 _ _ _ _ _ _
  | exact ih2 _ _ _ _ _
  | exact impl_schedule.mono _ _
  | exact LeO.none _
  | refine LeO.ite ?_ ?_
  | refine LeO.bind ?_ (fun _=>?_)
def impl_turned.T11 : Bool × List (List Nat × List Nat) := (true, [([], []), ([0], [0]), ([1], [1]), ([], []), ([3], [3]), ([4], [4]), ([2, 0, 1, 2], [2]), ([5, 6, 0, 1, 2, 3, 4, 5, 6], [5])])
def impl_turned.B11 : List Nat := [0, 1, 3, 0, 8, 24, 7, 127]
theorem impl_turned.tab11 : rtab .any (opsOf Try.f26 11) = impl_turned.T11 := by kernel_rfl
theorem impl_turned.bits11 : waitsOk impl_turned.T11.2 impl_turned.B11 = true := by kernel_rfl
def impl_turned.T12 : Bool × List (List Nat × List Nat) := (true, [([], []), ([0], [0]), ([1], [1]), ([], []), ([3], [3]), ([], []), ([5, 4], [5]), ([4, 6], [4, 6]), ([], []), ([8, 6], [8]), ([7, 9], [7, 9]), ([2, 10], [2, 10]), ([], []), ([], []), ([13], [13]), ([14], [14]), ([12, 15], [12, 15]), ([], []), ([17], [17]), ([], []), ([19], [19]), ([20], [20]), ([18, 21], [18, 21]), ([16, 22], [16, 22]), ([11, 23], [11, 23]), ([], []), ([], []), ([25, 26], [25, 26]), ([27], [27]), ([24, 28], [24, 28]), ([], []), ([29, 30], [29, 30]), ([31, 9, 0, 1, 2, 3, 4, 5, 6, 7, 8, 9, 10, 11, 12, 13, 14, 15, 16, 17, 18, 19, 20, 21, 22, 23, 24, 25, 26, 27, 28, 29, 30, 31], [31])])
def impl_turned.B12 : List Nat := [0, 1, 3, 0, 8, 0, 56, 120, 0, 376, 1016, 2047, 0, 0, 8192, 24576, 61440, 0, 131072, 0, 524288, 1572864, 4063232, 8384512, 16777215, 0, 0, 100663296, 234881024, 536870911, 0, 2147483647, 4294967295]
theorem impl_turned.tab12 : rtab .any (opsOf Try.f26 12) = impl_turned.T12 := by kernel_rfl
theorem impl_turned.bits12 : waitsOk impl_turned.T12.2 impl_turned.B12 = true := by kernel_rfl
def impl_turned.T13 : Bool × List (List Nat × List Nat) := (true, [([], []), ([0], [0]), ([], []), ([2, 1], [2]), ([1, 3], [1, 3]), ([], []), ([5, 3], [5]), ([4, 6], [4, 6]), ([], []), ([], []), ([9], [9]), ([10], [10]), ([8, 11], [8, 11]), ([], []), ([], []), ([14], [14]), ([15], [15]), ([13, 16], [13, 16]), ([12, 17], [12, 17]), ([], []), ([19], [19]), ([20], [20]), ([], []), ([22], [22]), ([23], [23]), ([21, 24], [21, 24]), ([18, 25], [18, 25]), ([7, 26], [7, 26]), ([27, 6, 0, 1, 2, 3, 4, 5, 6, 7, 8, 9, 10, 11, 12, 13, 14, 15, 16, 17, 18, 19, 20, 21, 22, 23, 24, 25, 26, 27], [27])])
def impl_turned.B13 : List Nat := [0, 1, 0, 7, 15, 0, 47, 127, 0, 0, 512, 1536, 3840, 0, 0, 16384, 49152, 122880, 261888, 0, 524288, 1572864, 0, 4194304, 12582912, 33030144, 67108608, 134217727, 268435455]
theorem impl_turned.tab13 : rtab .any (opsOf Try.f26 13) = impl_turned.T13 := by kernel_rfl
theorem impl_turned.bits13 : waitsOk impl_turned.T13.2 impl_turned.B13 = true := by kernel_rfl
def impl_turned.T14 : Bool × List (List Nat × List Nat) := (true, [([], []), ([], []), ([0, 1], [0, 1]), ([], []), ([3], [3]), ([4], [4]), ([], []), ([6], [6]), ([7], [7]), ([], []), ([9], [9]), ([10], [10]), ([], []), ([12], [12]), ([13], [13]), ([], []), ([14, 15], [14, 15]), ([], []), ([17], [17]), ([18], [18]), ([], []), ([20], [20]), ([21], [21]), ([], []), ([23], [23]), ([24], [24]), ([2, 5, 8, 11, 16, 19, 22, 25], [2, 5, 8, 11, 16, 19, 22, 25]), ([26, 0, 1, 2, 3, 4, 5, 6, 7, 8, 9, 10, 11, 12, 13, 14, 15, 16, 17, 18, 19, 20, 21, 22, 23, 24, 25, 26], [3, 6, 9, 12, 17, 20, 23, 26])])
def impl_turned.B14 : List Nat := [0, 0, 3, 0, 8, 24, 0, 64, 192, 0, 512, 1536, 0, 4096, 12288, 0, 61440, 0, 131072, 393216, 0, 1048576, 3145728, 0, 8388608, 25165824, 67108863, 134217727]
theorem impl_turned.tab14 : rtab .any (opsOf Try.f26 14) = impl_turned.T14 := by kernel_rfl
theorem impl_turned.bits14 : waitsOk impl_turned.T14.2 impl_turned.B14 = true := by kernel_rfl
set_option maxHeartbeats 8000000 in
set_option maxRecDepth 100000 in
theorem impl_turned.calls (k : Nat) (A0 : Option Addr) (c0 : Nat) (l0 : List Int) (A1 : Option Addr) (c1 : Nat) (l1 : List Int) (r : List Int) (w : World) (hr0 : Kd.C (Kd.int .i64) w A0 l0.length l0) (hc0 : l0.length ≤ c0) (hr1 : Kd.C (Kd.int .u8) w A1 l1.length l1) (hc1 : l1.length ≤ c1) (h : impl_turned.f k l0 l1 = some r) :
 Calls Try.prog 26 #[.slice A0 l0.length c0, .slice A1 l1.length c1] w fun e w' => ∃ v0_ : Value, e = .returned (v0_) ∧ Kd.R (Kd.int .i64) 3 w' w.heap.size (fun _ => True) v0_ r ∧ Below w.heap.size w w' := by
 have HR0:=Z0 hr0
 have HC0:=Z0 hc0
 clear hr0 hc0
 have HR1:=Z0 hr1
 have HC1:=Z0 hc1
 clear hr1 hc1
 have HB:=Z0 (Below.refl w.heap.size w)
 have H : (impl_turned.l0 k l0 l1 (([] : List Int)) l0 (l0.length : Int) 0) = some r:=h
 clear h
 obtain ⟨y371,hy371⟩ : ∃ y_ : List Int,y_ = (([] : List Int)):=⟨_,rfl⟩
 replace H : (impl_turned.l0 k l0 l1 y371 l0 (l0.length : Int) 0) = some r:=by first|(rw [hy371];with_reducible exact H)|(have H2_:=(Zf _ _).symm.trans H;rw [hy371];with_reducible exact H2_)|(have H2_:=(Zf _ _).symm.trans H;with_reducible exact H2_)|with_reducible exact H|(rw [hy371];exact H)|exact H
 have Ny371:=Z0 hy371
 clear hy371
 have H':=Z0 H
 clear H
 go_enter Try.func26,Try.ntmps26
 go_wp2_with (first|((with_reducible refine gate_dst (N:=18) rfl ?_);refine Kd.R_lit (Kd.int .u32) _ 46 ?hg (N:=18) ?hd (xs:=([] : List Int)) (inner:=[]) (ok:=fun _=>True) (okp:=fun _=>True) ?hr ?hp (fun _ hk=>hk) trivial (Below.refl _ _) (Zl _) (by simp) ?_;(case hd=>rfl);(case hg=>rfl);(case hr=>first|(go_simp;done)|(go_simp;rfl)|(go_simp;simp [IntKind.wrap_u32];done)|(go_simp;simp only [IntKind.wrap_u32,Int.emod_add_emod,Int.add_emod_emod];done)|(go_simp;simp only [IntKind.wrap_u32,Int.emod_add_emod,Int.add_emod_emod];rfl));(case hp=>exact (Reps.none _ _));intro v372 w3 ho4 hb hg_ hnew_;clear hg_ hnew_;(first|rw [← Ny371.out] at ho4|(simp only [Int.reduceToNat] at ho4;rw [← Ny371.out] at ho4));have n0_:=Z0 (Kd.R_lower ho4 (below_size (by repeat (first|(with_reducible first|exact HB.out|apply Z6|apply Z1|apply Z5)|exact HB.out))));have n1_:=Z0 (below_step (by repeat (first|(with_reducible first|exact HB.out|apply Z6|apply Z1|apply Z5)|exact HB.out)) hb);clear HB;have HO373:=n0_;have HB:=n1_;clear n0_ n1_;clear hb ho4))
 go_loopg [5,21] k (fun kq v5 v21 w'=>∃ (x5_1 : List Int) (x21_1 : Int),v21 = .int .i64 x21_1 ∧ Aside0 (impl_turned.l0 kq l0 l1 x5_1 l0 (l0.length : Int) x21_1 = some r) ∧ Aside0 (kq ≤ k) ∧ Aside0 (Kd.R (Kd.int .u32) 46 w' w.heap.size (fun _=>True) v5 x5_1) ∧ Aside0 (Below w.heap.size w w'))
 case atStart=>exact ⟨(y371),(0),(by first|rfl|(simp;done)|(simp [*];done)),H',⟨Zl _⟩,⟨by (with_reducible repeat (first|apply Z3|apply Z2|apply Z4));exact HO373.out⟩,⟨by repeat (first|(with_reducible first|exact HB.out|apply Z6|apply Z1|apply Z5)|exact HB.out)⟩⟩
 case round =>
  clear H'
  (try clear c1);(try clear c2);(try clear p2)
  obtain ⟨x5_1,x21_1,rfl,HA,HK1,HO_5,HB⟩:=hrel
  cases gk with
  | zero=>exact absurd HA.out (by simp [impl_turned.l0])
  | succ k1 =>
   have H:=HA.out
   clear HA
   simp only [impl_turned.l0] at H
   by_cases c5 : x21_1 < (l0.length : Int)
   case pos =>
    rw [if_pos c5] at H
    have c5b0 : decide (x21_1 < (l0.length : Int)) = true:=decide_eq_true c5
    clear c5
    by_cases c6 : 0 ≤ x21_1
    case neg =>
     rw [if_neg c6] at H
     exact absurd H (by simp)
    rw [if_pos c6] at H
    have c6b0 : decide (0 ≤ x21_1) = true:=decide_eq_true c6
    clear c6
    by_cases c7 : x21_1 < (l0.length : Int)
    case neg =>
     rw [if_neg c7] at H
     exact absurd H (by simp)
    rw [if_pos c7] at H
    have c7b0 : decide (x21_1 < (l0.length : Int)) = true:=decide_eq_true c7
    clear c7
    by_cases c8 : x5_1.length < 35184372088832
    case neg =>
     rw [if_neg c8] at H
     exact absurd H (by simp)
    rw [if_pos c8] at H
    have LMc8:=Z0 c8
    clear c8
    obtain ⟨y375,hy375⟩ : ∃ y_ : List Int,y_ = (x5_1 ++ [(rd l0 x21_1) % 4294967296]):=⟨_,rfl⟩
    replace H : (impl_turned.l0 k1 l0 l1 y375 l0 (l0.length : Int) (wrap64 (x21_1 + 1))) = some r:=by first|(rw [hy375];with_reducible exact H)|(have H2_:=(Zf _ _).symm.trans H;rw [hy375];with_reducible exact H2_)|(have H2_:=(Zf _ _).symm.trans H;with_reducible exact H2_)|with_reducible exact H|(rw [hy375];exact H)|exact H
    have Ny375:=Z0 hy375
    clear hy375
    have H':=Z0 H
    clear H
    have p374 : 0 ≤ (x21_1 : Int):=of_decide_eq_true (by first|(with_reducible assumption)|assumption)
    have q374 : x21_1 < (l0.length : Int):=of_decide_eq_true (by first|(with_reducible assumption)|assumption)
    obtain ⟨ad374,e374,hx374_0⟩:=Z8 HR0.out x21_1 p374 q374
    cases e374
    replace hx374_0:=(HB.out.cell (World.block_lt_of_cell? w _ hx374_0)).trans hx374_0
    replace p374:=eq_true p374
    replace q374:=eq_true q374
    go_wp2_with (first|((with_reducible refine gate_builtin (b:=.append) (xs:=#[.tmp 25,.tmp 28]) rfl ?_);at_builtin;refine Kd.R_append (Kd.int .u32) (w0:=w) w.heap.size rfl (.tmp 25) (.tmp 28) 45 46 (.int .u32 0) 4 rfl Try.underlying45 info46 rfl (by decide) (by omega) u5 x5_1 ((rd l0 x21_1) % 4294967296) [.int .u32 ((rd l0 x21_1) % 4294967296)] (fun _=>True) (fun _=>False) rfl rfl ?aP (fun _ hk=>hk.elim) ?aF ?aO ?aB ?aS ?aL ?_;(case aP=>exact rfl);(case aB=>exact (by repeat (first|(with_reducible first|exact HB.out|apply Z6|apply Z1|apply Z5)|exact HB.out)));(case aF=>exact (fun _ _=>trivial));(case aO=>exact (by (with_reducible repeat (first|apply Z3|apply Z2|apply Z4));exact HO_5.out));(case aS=>exact (below_size (by repeat (first|(with_reducible first|exact HB.out|apply Z6|apply Z1|apply Z5)|exact HB.out))));(case aL=>have:=LMc8.out;omega);intro v376 w9 ho hb hg hat;rw [← Ny375.out] at ho;have n0_:=Z0 (hb);have n1_:=Z0 (ho);clear HB;clear HO_5;have HB:=n0_;have HO377:=n1_;clear n0_ n1_;clear ho hb hg hat))
    go_roundg k1
    case measure=>have:=HK1.out;omega
    case rel=>exact ⟨(y375),(wrap64 (x21_1 + 1)),(by first|rfl|(simp;done)|(simp [*];done)),H',⟨by have:=HK1.out;omega⟩,⟨by (with_reducible repeat (first|apply Z3|apply Z2|apply Z4));exact HO377.out⟩,⟨by repeat (first|(with_reducible first|exact HB.out|apply Z6|apply Z1|apply Z5)|exact HB.out)⟩⟩
   rw [if_neg c5] at H
   have c5b0 : decide (x21_1 < (l0.length : Int)) = false:=decide_eq_false c5
   clear c5
   replace H:=Option.bind_eq_some_iff.mp H
   obtain ⟨t378,A100,H⟩:=H
   replace H : ((impl_schedule.f k1 l1).bind fun t381=>(impl_turned.l1 k1 l0 x5_1 t378 t381 (t381.length : Int) 0)) = some r:=H
   have A10:=Z0 A100
   clear A100
   replace H:=Option.bind_eq_some_iff.mp H
   obtain ⟨t381,A110,H⟩:=H
   replace H : (impl_turned.l1 k1 l0 x5_1 t378 t381 (t381.length : Int) 0) = some r:=H
   have A11:=Z0 A110
   clear A110
   have H':=Z0 H
   clear H
   go_wp2_with (first|((with_reducible refine gate_callee (f:=34) rfl ?_);refine goesL_ (some 31) rfl rfl Try.func34 (by kernel_rfl) rfl #[] rfl (by (try simp only [Zi,Zj,Zk]);first|done|rfl|(simp only [Zg,Zh];rfl)) ?_;(with_reducible refine (impl_rounds.calls  t378 _ A10.out).mono ?_);rintro e w12 ⟨v379,rfl,ho0,hb⟩;refine ⟨_,rfl,?_⟩;have n0_:=Z0 (Kd.R_elder' (by (with_reducible repeat (first|apply Z3|apply Z2|apply Z4));exact HO_5.out) (Kd.R_base ho0) hb);have n1_:=Z0 (Kd.R_lower (Kd.R_new' ho0 (Kd.R_lt (by (with_reducible repeat (first|apply Z3|apply Z2|apply Z4));exact HO_5.out))) (below_size (by repeat (first|(with_reducible first|exact HB.out|apply Z6|apply Z1|apply Z5)|exact HB.out))));have n2_:=Z0 (below_step (by repeat (first|(with_reducible first|exact HB.out|apply Z6|apply Z1|apply Z5)|exact HB.out)) hb);clear HO_5;clear HB;have HO_5:=n0_;have HO380:=n1_;have HB:=n2_;clear n0_ n1_ n2_;(try clear hb);(try clear hb2);(try clear hk);(try clear hi);(try clear ho0))|((with_reducible refine gate_callee (f:=35) rfl ?_);refine goesL_ (some 33) rfl rfl Try.func35 (by kernel_rfl) rfl #[.slice A1 l1.length c1] rfl (by (try simp only [Zi,Zj,Zk]);first|done|rfl|(simp only [Zg,Zh];rfl)) ?_;(with_reducible refine (impl_schedule.calls k1 _ _ l1 t381 _ ?side1 ?side2 A11.out).mono ?_);(case side1=>repeat (first|exact (Kd.C_below HR1.out HB.out)|(with_reducible refine Kd.C_alloc ?_ _)|(with_reducible refine Kd.C_drewN ?_ _)|(with_reducible refine Kd.C_drew ?_)));(case side2=>exact HC1.out);rintro e w13 ⟨v382,rfl,ho0,hb⟩;refine ⟨_,rfl,?_⟩;have n0_:=Z0 (Kd.R_elder' (by (with_reducible repeat (first|apply Z3|apply Z2|apply Z4));exact HO_5.out) (Kd.R_base ho0) hb);have n1_:=Z0 (Kd.R_elder' (by (with_reducible repeat (first|apply Z3|apply Z2|apply Z4));exact HO380.out) (Kd.R_base ho0) hb);have n2_:=Z0 (Kd.R_lower (Kd.R_new' (Kd.R_new' ho0 (Kd.R_lt (by (with_reducible repeat (first|apply Z3|apply Z2|apply Z4));exact HO_5.out))) (Kd.R_lt (by (with_reducible repeat (first|apply Z3|apply Z2|apply Z4));exact HO380.out))) (below_size (by repeat (first|(with_reducible first|exact HB.out|apply Z6|apply Z1|apply Z5)|exact HB.out))));have n3_:=Z0 (below_step (by repeat (first|(with_reducible first|exact HB.out|apply Z6|apply Z1|apply Z5)|exact HB.out)) hb);clear HO_5;clear HO380;clear HB;have HO_5:=n0_;have HO380:=n1_;have HO383:=n2_;have HB:=n3_;clear n0_ n1_ n2_ n3_;(try clear hb);(try clear hb2);(try clear hk);(try clear hi);(try clear ho0);obtain ⟨Ao14,co14,eo14⟩:=Kd.R_slice HO383.out;subst eo14))
   go_loopg [5,35] k1 (fun kq v5 v35 w'=>∃ (x5_2 : List Int) (x35_2 : Int),v35 = .int .i64 x35_2 ∧ Aside0 (impl_turned.l1 kq l0 x5_2 t378 t381 (t381.length : Int) x35_2 = some r) ∧ Aside0 (kq ≤ k1) ∧ Aside0 (Kd.R (Kd.int .u32) 46 w' w.heap.size (fun k_=>some k_ ≠ (v379 : Value).ownBlock ∧ some k_ ≠ ((.slice Ao14 t381.length co14) : Value).ownBlock) v5 x5_2) ∧ Aside0 (Kd.R (Kd.int .u32) 46 w' w.heap.size (fun k_=>some k_ ≠ (v5 : Value).ownBlock ∧ some k_ ≠ ((.slice Ao14 t381.length co14) : Value).ownBlock) v379 t378) ∧ Aside0 (Kd.R (Kd.int .u32) 46 w' w.heap.size (fun k_=>some k_ ≠ (v5 : Value).ownBlock ∧ some k_ ≠ (v379 : Value).ownBlock) (.slice Ao14 t381.length co14) t381) ∧ Aside0 (Below w.heap.size w w'))
   case atStart=>exact ⟨(x5_1),(0),(by first|rfl|(simp;done)|(simp [*];done)),H',⟨Zl _⟩,⟨by (with_reducible repeat (first|apply Z3|apply Z2|apply Z4));exact Kd.R_mono HO_5.out (fun _ hk=>⟨hk.1.2,hk.2⟩)⟩,⟨by (with_reducible repeat (first|apply Z3|apply Z2|apply Z4));exact Kd.R_mono HO380.out (fun _ hk=>⟨hk.1.2,hk.2⟩)⟩,⟨by (with_reducible repeat (first|apply Z3|apply Z2|apply Z4));exact Kd.R_mono HO383.out (fun _ hk=>⟨hk.1.2,hk.2⟩)⟩,⟨by repeat (first|(with_reducible first|exact HB.out|apply Z6|apply Z1|apply Z5)|exact HB.out)⟩⟩
   case round =>
    clear H'
    (try clear c1);(try clear c2);(try clear p2);(try clear c3);(try clear p3);(try clear q3);(try clear hx3);(try clear c5);(try clear c5b0);(try clear c6);(try clear c6b0);(try clear p6);(try clear c7);(try clear c7b0);(try clear c8);(try clear hx374_0);(try clear p2);(try clear p374);(try clear q374)
    obtain ⟨x5_2,x35_2,rfl,HA,HK2,HO_5,HO_8,HO_33,HB⟩:=hrel
    cases gk with
    | zero=>exact absurd HA.out (by simp [impl_turned.l1])
    | succ k2 =>
     have H:=HA.out
     clear HA
     simp only [impl_turned.l1] at H
     by_cases c15 : x35_2 < (t381.length : Int)
     case neg =>
      rw [if_neg c15] at H
      have c15b0 : decide (x35_2 < (t381.length : Int)) = false:=decide_eq_false c15
      clear c15
      obtain ⟨y411,hy411⟩ : ∃ y_ : List Int,y_ = (([] : List Int)):=⟨_,rfl⟩
      replace H : (impl_turned.l2 k2 l0 y411 x5_2 (x5_2.length : Int) 0) = some r:=by first|(rw [hy411];with_reducible exact H)|(have H2_:=(Zf _ _).symm.trans H;rw [hy411];with_reducible exact H2_)|(have H2_:=(Zf _ _).symm.trans H;with_reducible exact H2_)|with_reducible exact H|(rw [hy411];exact H)|exact H
      have Ny411:=Z0 hy411
      clear hy411
      have H':=Z0 H
      clear H
      go_wp2_with (first|((with_reducible refine gate_dst (N:=134) rfl ?_);refine Kd.R_lit (Kd.int .i64) _ 3 ?hg (N:=134) ?hd (xs:=([] : List Int)) (inner:=[]) (ok:=fun _=>True) (okp:=fun _=>True) ?hr ?hp (fun _ hk=>hk) trivial (Below.refl _ _) (Zl _) (by simp) ?_;(case hd=>rfl);(case hg=>rfl);(case hr=>first|(go_simp;done)|(go_simp;rfl)|(go_simp;simp [IntKind.wrap_u32];done)|(go_simp;simp only [IntKind.wrap_u32,Int.emod_add_emod,Int.add_emod_emod];done)|(go_simp;simp only [IntKind.wrap_u32,Int.emod_add_emod,Int.add_emod_emod];rfl));(case hp=>exact (Reps.none _ _));intro v412 w41 ho42 hb hg_ hnew_;clear hg_ hnew_;(first|rw [← Ny411.out] at ho42|(simp only [Int.reduceToNat] at ho42;rw [← Ny411.out] at ho42));have n0_:=Z0 (Kd.R_below (by (with_reducible repeat (first|apply Z3|apply Z2|apply Z4));exact HO_5.out) hb);have n1_:=Z0 (Kd.R_below (by (with_reducible repeat (first|apply Z3|apply Z2|apply Z4));exact HO_8.out) hb);have n2_:=Z0 (Kd.R_below (by (with_reducible repeat (first|apply Z3|apply Z2|apply Z4));exact HO_33.out) hb);have n3_:=Z0 (Kd.R_lower ho42 (below_size (by repeat (first|(with_reducible first|exact HB.out|apply Z6|apply Z1|apply Z5)|exact HB.out))));have n4_:=Z0 (below_step (by repeat (first|(with_reducible first|exact HB.out|apply Z6|apply Z1|apply Z5)|exact HB.out)) hb);clear HO_5;clear HO_8;clear HO_33;clear HB;have HO_5:=n0_;have HO_8:=n1_;have HO_33:=n2_;have HO413:=n3_;have HB:=n4_;clear n0_ n1_ n2_ n3_ n4_;clear hb ho42;obtain ⟨Ao43,co43,eo43⟩:=Kd.R_slice HO_5.out;subst eo43))
      go_loopg [15,137] k2 (fun kq v15 v137 w'=>∃ (x15_3 : List Int) (x137_3 : Int),v137 = .int .i64 x137_3 ∧ Aside0 (impl_turned.l2 kq l0 x15_3 x5_2 (x5_2.length : Int) x137_3 = some r) ∧ Aside0 (kq ≤ k2) ∧ Aside0 (Kd.R (Kd.int .i64) 3 w' w.heap.size (fun _=>True) v15 x15_3) ∧ Aside0 (Kd.R (Kd.int .u32) 46 w' w.heap.size (fun _=>True) (.slice Ao43 x5_2.length co43) x5_2) ∧ Aside0 (Below w.heap.size w w'))
      case atStart=>exact ⟨(y411),(0),(by first|rfl|(simp;done)|(simp [*];done)),H',⟨Zl _⟩,⟨by (with_reducible repeat (first|apply Z3|apply Z2|apply Z4));exact HO413.out⟩,⟨by (with_reducible repeat (first|apply Z3|apply Z2|apply Z4));exact Kd.R_mono HO_5.out (fun _ hk=>trivial)⟩,⟨by repeat (first|(with_reducible first|exact HB.out|apply Z6|apply Z1|apply Z5)|exact HB.out)⟩⟩
      case round =>
       clear H'
       (try clear c1);(try clear c2);(try clear p2);(try clear c3);(try clear p4);(try clear q4);(try clear hx4);(try clear qi4);(try clear p6);(try clear c15);(try clear c15b0);(try clear c16);(try clear c17);(try clear c18);(try clear c19);(try clear c20);(try clear c24);(try clear c25);(try clear c26);(try clear c30);(try clear c31);(try clear c32);(try clear c36);(try clear p40);(try clear q40);(try clear hx40);(try clear qi40);(try clear hx401_0);(try clear hx402_0);(try clear hx403_0);(try clear hx404_0);(try clear hx405_0);(try clear hx406_0);(try clear hx407_0);(try clear p401);(try clear p402);(try clear p403);(try clear p404);(try clear p405);(try clear p406);(try clear p407);(try clear q401);(try clear q402);(try clear q403);(try clear q404);(try clear q405);(try clear q406);(try clear q407)
       obtain ⟨x15_3,x137_3,rfl,HA,HK3,HO_15,HO_135,HB⟩:=hrel
       cases gk with
       | zero=>exact absurd HA.out (by simp [impl_turned.l2])
       | succ k3 =>
        have H:=HA.out
        clear HA
        simp only [impl_turned.l2] at H
        by_cases c44 : x137_3 < (x5_2.length : Int)
        case neg =>
         rw [if_neg c44] at H
         have c44b0 : decide (x137_3 < (x5_2.length : Int)) = false:=decide_eq_false c44
         clear c44
         obtain rfl:=Option.some.inj H
         go_wp2
         go_ret
         exact ⟨_,by first|rfl|(simp [errW_none,errW_some]<;>rfl)|(simp [*,errW_none,errW_some]<;>rfl),by (with_reducible repeat (first|apply Z3|apply Z2|apply Z4));exact HO_15.out,by repeat (first|(with_reducible first|exact HB.out|apply Z6|apply Z1|apply Z5)|exact HB.out)⟩
        rw [if_pos c44] at H
        have c44b0 : decide (x137_3 < (x5_2.length : Int)) = true:=decide_eq_true c44
        clear c44
        by_cases c45 : 0 ≤ x137_3
        case neg =>
         rw [if_neg c45] at H
         exact absurd H (by simp)
        rw [if_pos c45] at H
        have c45b0 : decide (0 ≤ x137_3) = true:=decide_eq_true c45
        clear c45
        by_cases c46 : x137_3 < (x5_2.length : Int)
        case neg =>
         rw [if_neg c46] at H
         exact absurd H (by simp)
        rw [if_pos c46] at H
        have c46b0 : decide (x137_3 < (x5_2.length : Int)) = true:=decide_eq_true c46
        clear c46
        by_cases c47 : x137_3 < (l0.length : Int)
        case neg =>
         rw [if_neg c47] at H
         exact absurd H (by simp)
        rw [if_pos c47] at H
        have c47b0 : decide (x137_3 < (l0.length : Int)) = true:=decide_eq_true c47
        clear c47
        by_cases c48 : x15_3.length < 17592186044416
        case neg =>
         rw [if_neg c48] at H
         exact absurd H (by simp)
        rw [if_pos c48] at H
        have LMc48:=Z0 c48
        clear c48
        obtain ⟨y416,hy416⟩ : ∃ y_ : List Int,y_ = (x15_3 ++ [((rd l0 x137_3) + (rd x5_2 x137_3)) % 4294967296]):=⟨_,rfl⟩
        replace H : (impl_turned.l2 k3 l0 y416 x5_2 (x5_2.length : Int) (wrap64 (x137_3 + 1))) = some r:=by first|(rw [hy416];with_reducible exact H)|(have H2_:=(Zf _ _).symm.trans H;rw [hy416];with_reducible exact H2_)|(have H2_:=(Zf _ _).symm.trans H;with_reducible exact H2_)|with_reducible exact H|(rw [hy416];exact H)|exact H
        have Ny416:=Z0 hy416
        clear hy416
        have H':=Z0 H
        clear H
        have p414 : 0 ≤ (x137_3 : Int):=of_decide_eq_true (by first|(with_reducible assumption)|assumption)
        have q414 : x137_3 < (x5_2.length : Int):=of_decide_eq_true (by first|(with_reducible assumption)|assumption)
        obtain ⟨ad414,e414,hx414_0⟩:=Z8 (Z7 HO_135.out).2.2 x137_3 p414 q414
        cases e414
        replace p414:=eq_true p414
        replace q414:=eq_true q414
        have p415 : 0 ≤ (x137_3 : Int):=of_decide_eq_true (by first|(with_reducible assumption)|assumption)
        have q415 : x137_3 < (l0.length : Int):=of_decide_eq_true (by first|(with_reducible assumption)|assumption)
        obtain ⟨ad415,e415,hx415_0⟩:=Z8 HR0.out x137_3 p415 q415
        cases e415
        replace hx415_0:=(HB.out.cell (World.block_lt_of_cell? w _ hx415_0)).trans hx415_0
        replace p415:=eq_true p415
        replace q415:=eq_true q415
        go_wp2_with (first|((with_reducible refine gate_builtin (b:=.append) (xs:=#[.tmp 142,.tmp 151]) rfl ?_);at_builtin;refine Kd.R_append (Kd.int .i64) (w0:=w) w.heap.size rfl (.tmp 142) (.tmp 151) 29 3 (.int .i64 0) 8 rfl Try.underlying29 info3 rfl (by decide) (by omega) u15 x15_3 (((rd l0 x137_3) + (rd x5_2 x137_3)) % 4294967296) [.int .i64 (((rd l0 x137_3) + (rd x5_2 x137_3)) % 4294967296)] (fun _=>True) (fun _=>False) rfl rfl ?aP (fun _ hk=>hk.elim) ?aF ?aO ?aB ?aS ?aL ?_;(case aP=>exact rfl);(case aB=>exact (by repeat (first|(with_reducible first|exact HB.out|apply Z6|apply Z1|apply Z5)|exact HB.out)));(case aF=>exact (fun _ _=>trivial));(case aO=>exact (by (with_reducible repeat (first|apply Z3|apply Z2|apply Z4));exact HO_15.out));(case aS=>exact (below_size (by repeat (first|(with_reducible first|exact HB.out|apply Z6|apply Z1|apply Z5)|exact HB.out))));(case aL=>have:=LMc48.out;omega);intro v417 w49 ho hb hg hat;rw [← Ny416.out] at ho;have n0_:=Z0 (Kd.R_over' (by (with_reducible repeat (first|apply Z3|apply Z2|apply Z4));exact HO_135.out) (Kd.R_typed (by (with_reducible repeat (first|apply Z3|apply Z2|apply Z4));exact HO_15.out)) (by decide) hg);have n1_:=Z0 (hb);have n2_:=Z0 (ho);clear HO_135;clear HB;clear HO_15;have HO_135:=n0_;have HB:=n1_;have HO418:=n2_;clear n0_ n1_ n2_;clear ho hb hg hat))
        go_roundg k3
        case measure=>have:=HK1.out;have:=HK2.out;have:=HK3.out;omega
        case rel=>exact ⟨(y416),(wrap64 (x137_3 + 1)),(by first|rfl|(simp;done)|(simp [*];done)),H',⟨by have:=HK1.out;have:=HK2.out;have:=HK3.out;omega⟩,⟨by (with_reducible repeat (first|apply Z3|apply Z2|apply Z4));exact HO418.out⟩,⟨by (with_reducible repeat (first|apply Z3|apply Z2|apply Z4));exact HO_135.out⟩,⟨by repeat (first|(with_reducible first|exact HB.out|apply Z6|apply Z1|apply Z5)|exact HB.out)⟩⟩
     rw [if_pos c15] at H
     have c15b0 : decide (x35_2 < (t381.length : Int)) = true:=decide_eq_true c15
     clear c15
     by_cases c16 : 0 ≤ x35_2
     case neg =>
      rw [if_neg c16] at H
      exact absurd H (by simp)
     rw [if_pos c16] at H
     have c16b0 : decide (0 ≤ x35_2) = true:=decide_eq_true c16
     clear c16
     by_cases c17 : x35_2 < (t381.length : Int)
     case neg =>
      rw [if_neg c17] at H
      exact absurd H (by simp)
     rw [if_pos c17] at H
     have c17b0 : decide (x35_2 < (t381.length : Int)) = true:=decide_eq_true c17
     clear c17
     by_cases c18 : 0 < (x5_2.length : Int)
     case neg =>
      rw [if_neg c18] at H
      exact absurd H (by simp)
     rw [if_pos c18] at H
     have c18b0 : decide (0 < (x5_2.length : Int)) = true:=decide_eq_true c18
     have c18b1 : decide (0 < x5_2.length) = true:=decide_eq_true (by omega)
     clear c18
     by_cases c19 : 4 < (x5_2.length : Int)
     case neg =>
      rw [if_neg c19] at H
      exact absurd H (by simp)
     rw [if_pos c19] at H
     have c19b0 : decide (4 < (x5_2.length : Int)) = true:=decide_eq_true c19
     have c19b1 : decide (4 < x5_2.length) = true:=decide_eq_true (by omega)
     clear c19
     by_cases c20 : 7 < (x5_2.length : Int)
     case neg =>
      rw [if_neg c20] at H
      exact absurd H (by simp)
     rw [if_pos c20] at H
     have c20b0 : decide (7 < (x5_2.length : Int)) = true:=decide_eq_true c20
     have c20b1 : decide (7 < x5_2.length) = true:=decide_eq_true (by omega)
     clear c20
     replace H:=Option.bind_eq_some_iff.mp H
     obtain ⟨t388,A210,H⟩:=H
     replace H : ((impl_rot.f (rd x5_2 4) 11).bind fun t389=>((impl_rot.f (rd x5_2 4) 25).bind fun t390=>(if 5 < (x5_2.length : Int) then (if 6 < (x5_2.length : Int) then (if x35_2 < (t378.length : Int) then ((impl_rot.f (rd x5_2 0) 2).bind fun t394=>((impl_rot.f (rd x5_2 0) 13).bind fun t395=>((impl_rot.f (rd x5_2 0) 22).bind fun t396=>(if 1 < (x5_2.length : Int) then (if 2 < (x5_2.length : Int) then (if 3 < (x5_2.length : Int) then (impl_turned.l1 k2 l0 (([((((((rd x5_2 7) + (Go.bits .xor .u32 (Go.bits .xor .u32 t388 t389) t390)) + (Go.bits .xor .u32 (Go.bits .and .u32 (rd x5_2 4) (rd x5_2 5)) (Go.bits .and .u32 (Go.bits .xor .u32 IntKind.u32.max (rd x5_2 4)) (rd x5_2 6)))) + (rd t378 x35_2)) + (rd t381 x35_2)) + ((Go.bits .xor .u32 (Go.bits .xor .u32 t394 t395) t396) + (Go.bits .xor .u32 (Go.bits .xor .u32 (Go.bits .and .u32 (rd x5_2 0) (rd x5_2 1)) (Go.bits .and .u32 (rd x5_2 0) (rd x5_2 2))) (Go.bits .and .u32 (rd x5_2 1) (rd x5_2 2))))) % 4294967296,rd x5_2 0,rd x5_2 1,rd x5_2 2,((rd x5_2 3) + (((((rd x5_2 7) + (Go.bits .xor .u32 (Go.bits .xor .u32 t388 t389) t390)) + (Go.bits .xor .u32 (Go.bits .and .u32 (rd x5_2 4) (rd x5_2 5)) (Go.bits .and .u32 (Go.bits .xor .u32 IntKind.u32.max (rd x5_2 4)) (rd x5_2 6)))) + (rd t378 x35_2)) + (rd t381 x35_2))) % 4294967296,rd x5_2 4,rd x5_2 5,rd x5_2 6] : List Int)) t378 t381 (t381.length : Int) (wrap64 (x35_2 + 1))) else (none)) else (none)) else (none))))) else (none)) else (none)) else (none)))) = some r:=H
     have A21:=Z0 A210
     clear A210
     replace H:=Option.bind_eq_some_iff.mp H
     obtain ⟨t389,A220,H⟩:=H
     replace H : ((impl_rot.f (rd x5_2 4) 25).bind fun t390=>(if 5 < (x5_2.length : Int) then (if 6 < (x5_2.length : Int) then (if x35_2 < (t378.length : Int) then ((impl_rot.f (rd x5_2 0) 2).bind fun t394=>((impl_rot.f (rd x5_2 0) 13).bind fun t395=>((impl_rot.f (rd x5_2 0) 22).bind fun t396=>(if 1 < (x5_2.length : Int) then (if 2 < (x5_2.length : Int) then (if 3 < (x5_2.length : Int) then (impl_turned.l1 k2 l0 (([((((((rd x5_2 7) + (Go.bits .xor .u32 (Go.bits .xor .u32 t388 t389) t390)) + (Go.bits .xor .u32 (Go.bits .and .u32 (rd x5_2 4) (rd x5_2 5)) (Go.bits .and .u32 (Go.bits .xor .u32 IntKind.u32.max (rd x5_2 4)) (rd x5_2 6)))) + (rd t378 x35_2)) + (rd t381 x35_2)) + ((Go.bits .xor .u32 (Go.bits .xor .u32 t394 t395) t396) + (Go.bits .xor .u32 (Go.bits .xor .u32 (Go.bits .and .u32 (rd x5_2 0) (rd x5_2 1)) (Go.bits .and .u32 (rd x5_2 0) (rd x5_2 2))) (Go.bits .and .u32 (rd x5_2 1) (rd x5_2 2))))) % 4294967296,rd x5_2 0,rd x5_2 1,rd x5_2 2,((rd x5_2 3) + (((((rd x5_2 7) + (Go.bits .xor .u32 (Go.bits .xor .u32 t388 t389) t390)) + (Go.bits .xor .u32 (Go.bits .and .u32 (rd x5_2 4) (rd x5_2 5)) (Go.bits .and .u32 (Go.bits .xor .u32 IntKind.u32.max (rd x5_2 4)) (rd x5_2 6)))) + (rd t378 x35_2)) + (rd t381 x35_2))) % 4294967296,rd x5_2 4,rd x5_2 5,rd x5_2 6] : List Int)) t378 t381 (t381.length : Int) (wrap64 (x35_2 + 1))) else (none)) else (none)) else (none))))) else (none)) else (none)) else (none))) = some r:=H
     have A22:=Z0 A220
     clear A220
     replace H:=Option.bind_eq_some_iff.mp H
     obtain ⟨t390,A230,H⟩:=H
     replace H : (if 5 < (x5_2.length : Int) then (if 6 < (x5_2.length : Int) then (if x35_2 < (t378.length : Int) then ((impl_rot.f (rd x5_2 0) 2).bind fun t394=>((impl_rot.f (rd x5_2 0) 13).bind fun t395=>((impl_rot.f (rd x5_2 0) 22).bind fun t396=>(if 1 < (x5_2.length : Int) then (if 2 < (x5_2.length : Int) then (if 3 < (x5_2.length : Int) then (impl_turned.l1 k2 l0 (([((((((rd x5_2 7) + (Go.bits .xor .u32 (Go.bits .xor .u32 t388 t389) t390)) + (Go.bits .xor .u32 (Go.bits .and .u32 (rd x5_2 4) (rd x5_2 5)) (Go.bits .and .u32 (Go.bits .xor .u32 IntKind.u32.max (rd x5_2 4)) (rd x5_2 6)))) + (rd t378 x35_2)) + (rd t381 x35_2)) + ((Go.bits .xor .u32 (Go.bits .xor .u32 t394 t395) t396) + (Go.bits .xor .u32 (Go.bits .xor .u32 (Go.bits .and .u32 (rd x5_2 0) (rd x5_2 1)) (Go.bits .and .u32 (rd x5_2 0) (rd x5_2 2))) (Go.bits .and .u32 (rd x5_2 1) (rd x5_2 2))))) % 4294967296,rd x5_2 0,rd x5_2 1,rd x5_2 2,((rd x5_2 3) + (((((rd x5_2 7) + (Go.bits .xor .u32 (Go.bits .xor .u32 t388 t389) t390)) + (Go.bits .xor .u32 (Go.bits .and .u32 (rd x5_2 4) (rd x5_2 5)) (Go.bits .and .u32 (Go.bits .xor .u32 IntKind.u32.max (rd x5_2 4)) (rd x5_2 6)))) + (rd t378 x35_2)) + (rd t381 x35_2))) % 4294967296,rd x5_2 4,rd x5_2 5,rd x5_2 6] : List Int)) t378 t381 (t381.length : Int) (wrap64 (x35_2 + 1))) else (none)) else (none)) else (none))))) else (none)) else (none)) else (none)) = some r:=H
     have A23:=Z0 A230
     clear A230
     by_cases c24 : 5 < (x5_2.length : Int)
     case neg =>
      rw [if_neg c24] at H
      exact absurd H (by simp)
     rw [if_pos c24] at H
     have c24b0 : decide (5 < (x5_2.length : Int)) = true:=decide_eq_true c24
     have c24b1 : decide (5 < x5_2.length) = true:=decide_eq_true (by omega)
     clear c24
     by_cases c25 : 6 < (x5_2.length : Int)
     case neg =>
      rw [if_neg c25] at H
      exact absurd H (by simp)
     rw [if_pos c25] at H
     have c25b0 : decide (6 < (x5_2.length : Int)) = true:=decide_eq_true c25
     have c25b1 : decide (6 < x5_2.length) = true:=decide_eq_true (by omega)
     clear c25
     by_cases c26 : x35_2 < (t378.length : Int)
     case neg =>
      rw [if_neg c26] at H
      exact absurd H (by simp)
     rw [if_pos c26] at H
     have c26b0 : decide (x35_2 < (t378.length : Int)) = true:=decide_eq_true c26
     clear c26
     replace H:=Option.bind_eq_some_iff.mp H
     obtain ⟨t394,A270,H⟩:=H
     replace H : ((impl_rot.f (rd x5_2 0) 13).bind fun t395=>((impl_rot.f (rd x5_2 0) 22).bind fun t396=>(if 1 < (x5_2.length : Int) then (if 2 < (x5_2.length : Int) then (if 3 < (x5_2.length : Int) then (impl_turned.l1 k2 l0 (([((((((rd x5_2 7) + (Go.bits .xor .u32 (Go.bits .xor .u32 t388 t389) t390)) + (Go.bits .xor .u32 (Go.bits .and .u32 (rd x5_2 4) (rd x5_2 5)) (Go.bits .and .u32 (Go.bits .xor .u32 IntKind.u32.max (rd x5_2 4)) (rd x5_2 6)))) + (rd t378 x35_2)) + (rd t381 x35_2)) + ((Go.bits .xor .u32 (Go.bits .xor .u32 t394 t395) t396) + (Go.bits .xor .u32 (Go.bits .xor .u32 (Go.bits .and .u32 (rd x5_2 0) (rd x5_2 1)) (Go.bits .and .u32 (rd x5_2 0) (rd x5_2 2))) (Go.bits .and .u32 (rd x5_2 1) (rd x5_2 2))))) % 4294967296,rd x5_2 0,rd x5_2 1,rd x5_2 2,((rd x5_2 3) + (((((rd x5_2 7) + (Go.bits .xor .u32 (Go.bits .xor .u32 t388 t389) t390)) + (Go.bits .xor .u32 (Go.bits .and .u32 (rd x5_2 4) (rd x5_2 5)) (Go.bits .and .u32 (Go.bits .xor .u32 IntKind.u32.max (rd x5_2 4)) (rd x5_2 6)))) + (rd t378 x35_2)) + (rd t381 x35_2))) % 4294967296,rd x5_2 4,rd x5_2 5,rd x5_2 6] : List Int)) t378 t381 (t381.length : Int) (wrap64 (x35_2 + 1))) else (none)) else (none)) else (none)))) = some r:=H
     have A27:=Z0 A270
     clear A270
     replace H:=Option.bind_eq_some_iff.mp H
     obtain ⟨t395,A280,H⟩:=H
     replace H : ((impl_rot.f (rd x5_2 0) 22).bind fun t396=>(if 1 < (x5_2.length : Int) then (if 2 < (x5_2.length : Int) then (if 3 < (x5_2.length : Int) then (impl_turned.l1 k2 l0 (([((((((rd x5_2 7) + (Go.bits .xor .u32 (Go.bits .xor .u32 t388 t389) t390)) + (Go.bits .xor .u32 (Go.bits .and .u32 (rd x5_2 4) (rd x5_2 5)) (Go.bits .and .u32 (Go.bits .xor .u32 IntKind.u32.max (rd x5_2 4)) (rd x5_2 6)))) + (rd t378 x35_2)) + (rd t381 x35_2)) + ((Go.bits .xor .u32 (Go.bits .xor .u32 t394 t395) t396) + (Go.bits .xor .u32 (Go.bits .xor .u32 (Go.bits .and .u32 (rd x5_2 0) (rd x5_2 1)) (Go.bits .and .u32 (rd x5_2 0) (rd x5_2 2))) (Go.bits .and .u32 (rd x5_2 1) (rd x5_2 2))))) % 4294967296,rd x5_2 0,rd x5_2 1,rd x5_2 2,((rd x5_2 3) + (((((rd x5_2 7) + (Go.bits .xor .u32 (Go.bits .xor .u32 t388 t389) t390)) + (Go.bits .xor .u32 (Go.bits .and .u32 (rd x5_2 4) (rd x5_2 5)) (Go.bits .and .u32 (Go.bits .xor .u32 IntKind.u32.max (rd x5_2 4)) (rd x5_2 6)))) + (rd t378 x35_2)) + (rd t381 x35_2))) % 4294967296,rd x5_2 4,rd x5_2 5,rd x5_2 6] : List Int)) t378 t381 (t381.length : Int) (wrap64 (x35_2 + 1))) else (none)) else (none)) else (none))) = some r:=H
     have A28:=Z0 A280
     clear A280
     replace H:=Option.bind_eq_some_iff.mp H
     obtain ⟨t396,A290,H⟩:=H
     replace H : (if 1 < (x5_2.length : Int) then (if 2 < (x5_2.length : Int) then (if 3 < (x5_2.length : Int) then (impl_turned.l1 k2 l0 (([((((((rd x5_2 7) + (Go.bits .xor .u32 (Go.bits .xor .u32 t388 t389) t390)) + (Go.bits .xor .u32 (Go.bits .and .u32 (rd x5_2 4) (rd x5_2 5)) (Go.bits .and .u32 (Go.bits .xor .u32 IntKind.u32.max (rd x5_2 4)) (rd x5_2 6)))) + (rd t378 x35_2)) + (rd t381 x35_2)) + ((Go.bits .xor .u32 (Go.bits .xor .u32 t394 t395) t396) + (Go.bits .xor .u32 (Go.bits .xor .u32 (Go.bits .and .u32 (rd x5_2 0) (rd x5_2 1)) (Go.bits .and .u32 (rd x5_2 0) (rd x5_2 2))) (Go.bits .and .u32 (rd x5_2 1) (rd x5_2 2))))) % 4294967296,rd x5_2 0,rd x5_2 1,rd x5_2 2,((rd x5_2 3) + (((((rd x5_2 7) + (Go.bits .xor .u32 (Go.bits .xor .u32 t388 t389) t390)) + (Go.bits .xor .u32 (Go.bits .and .u32 (rd x5_2 4) (rd x5_2 5)) (Go.bits .and .u32 (Go.bits .xor .u32 IntKind.u32.max (rd x5_2 4)) (rd x5_2 6)))) + (rd t378 x35_2)) + (rd t381 x35_2))) % 4294967296,rd x5_2 4,rd x5_2 5,rd x5_2 6] : List Int)) t378 t381 (t381.length : Int) (wrap64 (x35_2 + 1))) else (none)) else (none)) else (none)) = some r:=H
     have A29:=Z0 A290
     clear A290
     by_cases c30 : 1 < (x5_2.length : Int)
     case neg =>
      rw [if_neg c30] at H
      exact absurd H (by simp)
     rw [if_pos c30] at H
     have c30b0 : decide (1 < (x5_2.length : Int)) = true:=decide_eq_true c30
     have c30b1 : decide (1 < x5_2.length) = true:=decide_eq_true (by omega)
     clear c30
     by_cases c31 : 2 < (x5_2.length : Int)
     case neg =>
      rw [if_neg c31] at H
      exact absurd H (by simp)
     rw [if_pos c31] at H
     have c31b0 : decide (2 < (x5_2.length : Int)) = true:=decide_eq_true c31
     have c31b1 : decide (2 < x5_2.length) = true:=decide_eq_true (by omega)
     clear c31
     by_cases c32 : 3 < (x5_2.length : Int)
     case neg =>
      rw [if_neg c32] at H
      exact absurd H (by simp)
     rw [if_pos c32] at H
     have c32b0 : decide (3 < (x5_2.length : Int)) = true:=decide_eq_true c32
     have c32b1 : decide (3 < x5_2.length) = true:=decide_eq_true (by omega)
     clear c32
     obtain ⟨y408,hy408⟩ : ∃ y_ : List Int,y_ = (([((((((rd x5_2 7) + (Go.bits .xor .u32 (Go.bits .xor .u32 t388 t389) t390)) + (Go.bits .xor .u32 (Go.bits .and .u32 (rd x5_2 4) (rd x5_2 5)) (Go.bits .and .u32 (Go.bits .xor .u32 IntKind.u32.max (rd x5_2 4)) (rd x5_2 6)))) + (rd t378 x35_2)) + (rd t381 x35_2)) + ((Go.bits .xor .u32 (Go.bits .xor .u32 t394 t395) t396) + (Go.bits .xor .u32 (Go.bits .xor .u32 (Go.bits .and .u32 (rd x5_2 0) (rd x5_2 1)) (Go.bits .and .u32 (rd x5_2 0) (rd x5_2 2))) (Go.bits .and .u32 (rd x5_2 1) (rd x5_2 2))))) % 4294967296,rd x5_2 0,rd x5_2 1,rd x5_2 2,((rd x5_2 3) + (((((rd x5_2 7) + (Go.bits .xor .u32 (Go.bits .xor .u32 t388 t389) t390)) + (Go.bits .xor .u32 (Go.bits .and .u32 (rd x5_2 4) (rd x5_2 5)) (Go.bits .and .u32 (Go.bits .xor .u32 IntKind.u32.max (rd x5_2 4)) (rd x5_2 6)))) + (rd t378 x35_2)) + (rd t381 x35_2))) % 4294967296,rd x5_2 4,rd x5_2 5,rd x5_2 6] : List Int)):=⟨_,rfl⟩
     replace H : (impl_turned.l1 k2 l0 y408 t378 t381 (t381.length : Int) (wrap64 (x35_2 + 1))) = some r:=by first|(rw [hy408];with_reducible exact H)|(have H2_:=(Zf _ _).symm.trans H;rw [hy408];with_reducible exact H2_)|(have H2_:=(Zf _ _).symm.trans H;with_reducible exact H2_)|with_reducible exact H|(rw [hy408];exact H)|exact H
     have Ny408:=Z0 hy408
     clear hy408
     have H':=Z0 H
     clear H
     have p384 : 0 ≤ (x35_2 : Int):=of_decide_eq_true (by first|(with_reducible assumption)|assumption)
     have q384 : x35_2 < (t381.length : Int):=of_decide_eq_true (by first|(with_reducible assumption)|assumption)
     obtain ⟨ad384,e384,hx384_0⟩:=Z8 (Z7 HO_33.out).2.2 x35_2 p384 q384
     cases e384
     replace p384:=eq_true p384
     replace q384:=eq_true q384
     try go_wp2
     have n0_:=Z0 (Z4 HO_5.out)
     have n1_:=Z0 (Z4 HO_8.out)
     have n2_:=Z0 (Z4 HO_33.out)
     have n3_:=Z0 (Z5 HB.out)
     clear HO_5
     clear HO_8
     clear HO_33
     clear HB
     have HO_5:=n0_
     have HO_8:=n1_
     have HO_33:=n2_
     have HB:=n3_
     clear n0_ n1_ n2_ n3_
     obtain ⟨Ao34,co34,eo34⟩:=Kd.R_slice HO_5.out
     (first|subst eo34|(injection eo34 with f1_ f2_ f3_;have f4_:=f1_.symm;have f5_:=f3_.symm;clear f1_ f2_ f3_;subst f4_;subst f5_))
     have p385 : 0 ≤ (0 : Int):=(by omega)
     have q385 : 0 < (x5_2.length : Int):=of_decide_eq_true (by first|(with_reducible assumption)|assumption)
     obtain ⟨ad385,e385,hx385_0⟩:=Z8 (Z7 HO_5.out).2.2 0 p385 q385
     cases e385
     have qi385 : (0 < x5_2.length) = True:=eq_true (by omega)
     (try rw [show ((0 : Int)).toNat = 0 from rfl] at hx385_0)
     (try rw [Addr.add_zero'] at hx385_0)
     replace p385:=eq_true p385
     replace q385:=eq_true q385
     have p386 : 0 ≤ (4 : Int):=(by omega)
     have q386 : 4 < (x5_2.length : Int):=of_decide_eq_true (by first|(with_reducible assumption)|assumption)
     obtain ⟨ad386,e386,hx386_0⟩:=Z8 (Z7 HO_5.out).2.2 4 p386 q386
     obtain rfl : ad385 = ad386:=(by injection e386)
     (try simp only [show (4 : Int).toNat = 4 from rfl,Nat.reduceMul,Nat.reduceEqDiff,Go.Addr.add,↓reduceIte] at hx386_0)
     have qi386 : (4 < x5_2.length) = True:=eq_true (by omega)
     (try rw [show ((4 : Int)).toNat = 4 from rfl] at hx386_0)
     replace p386:=eq_true p386
     replace q386:=eq_true q386
     refine start_ (n:=8) (S:=fun w'=>w'.cell? ad385 = some (.int .u32 (rd x5_2 0)) ∧ w'.cell? ⟨ad385.block,ad385.off + 4,none⟩ = some (.int .u32 (rd x5_2 4))) (ds:=[]) #[false,false,false,false,false,false,false,false] (by kernel_rfl) rfl rfl ⟨hx385_0,hx386_0⟩ (fun hHeld=>?_);refine with_tabW impl_turned.tab11 impl_turned.bits11 (fun HT_ HW_=>?_)
     generalize wr.drew = w33 at HO_5 HO_8 HO_33 HB hx385_0 hx386_0 hHeld ⊢
     refine pure_ (i:=0) (N:=some 40) (v:=?_) (a':=?_) #[true,false,false,false,false,false,false,false] rfl rfl (Z9 HT_.out (by kernel_rfl)) (fun _ _ _ h=>h) (Or.inl ⟨by rfl,?_⟩) ?_ ?_
     rotate_left
     · intro w'
       go_simp
       with_reducible rfl
     rotate_left
     · simp only [Act.put, Zc, Zd, Ze, Za, Zb]
       rfl
     refine pure_ (i:=1) (N:=some 41) (v:=?_) (a':=?_) #[true,true,false,false,false,false,false,false] rfl rfl (Z9 HT_.out (by kernel_rfl)) (fun _ _ _ h=>h) (Or.inl ⟨by rfl,?_⟩) ?_ ?_
     rotate_left
     · intro w'
       go_simp
       with_reducible rfl
     rotate_left
     · simp only [Act.put, Zc, Zd, Ze, Za, Zb]
       rfl
     refine pure_ (i:=3) (N:=some 43) (v:=?_) (a':=?_) #[true,true,false,true,false,false,false,false] rfl rfl (Z9 HT_.out (by kernel_rfl)) (fun _ _ _ h=>h) (Or.inl ⟨by rfl,?_⟩) ?_ ?_
     rotate_left
     · intro w'
       go_simp
       with_reducible rfl
     rotate_left
     · simp only [Act.put, Zc, Zd, Ze, Za, Zb]
       rfl
     refine pure_ (i:=4) (N:=some 44) (v:=?_) (a':=?_) #[true,true,false,true,true,false,false,false] rfl rfl (Z9 HT_.out (by kernel_rfl)) (fun _ _ _ h=>h) (Or.inl ⟨by rfl,?_⟩) ?_ ?_
     rotate_left
     · intro w'
       go_simp
       with_reducible rfl
     rotate_left
     · simp only [Act.put, Zc, Zd, Ze, Za, Zb]
       rfl
     refine take_ (i:=2) (N:=some 42) (v:=?_) (a':=?_) #[true,true,true,true,true,false,false,false] rfl rfl (take_ofW HT_.out HW_.out (by kernel_rfl)) (fun _ _ _ h=>h) (Or.inl ⟨by rfl,?_⟩) hHeld ?_ ?_
     rotate_left
     · rintro w' ⟨s0, s1⟩
       go_simp
       with_reducible rfl
     rotate_left
     · simp only [Act.put, Zc, Zd, Ze, Za, Zb]
       rfl
     refine pure_ (i:=6) (N:=some 11) (v:=?_) (a':=?_) #[true,true,true,true,true,false,true,false] rfl rfl (Z9 HT_.out (by kernel_rfl)) (fun _ _ _ h=>h) (Or.inl ⟨by rfl,?_⟩) ?_ ?_
     rotate_left
     · intro w'
       go_simp
       with_reducible rfl
     rotate_left
     · simp only [Act.put, Zc, Zd, Ze, Za, Zb]
       rfl
     refine take_ (i:=5) (N:=some 45) (v:=?_) (a':=?_) #[true,true,true,true,true,true,true,false] rfl rfl (take_ofW HT_.out HW_.out (by kernel_rfl)) (fun _ _ _ h=>h) (Or.inl ⟨by rfl,?_⟩) hHeld ?_ ?_
     rotate_left
     · rintro w' ⟨s0, s1⟩
       go_simp
       with_reducible rfl
     rotate_left
     · simp only [Act.put, Zc, Zd, Ze, Za, Zb]
       rfl
     refine pure_ (i:=7) (N:=some 12) (v:=?_) (a':=?_) #[true,true,true,true,true,true,true,true] rfl rfl (Z9 HT_.out (by kernel_rfl)) (fun _ _ _ h=>h) (Or.inl ⟨by rfl,?_⟩) ?_ ?_
     rotate_left
     · intro w'
       go_simp
       with_reducible rfl
     rotate_left
     · simp only [Act.put, Zc, Zd, Ze, Za, Zb]
       rfl
     refine done_ (done_of HT_.out (by kernel_rfl)) ?_
     try go_wp2
     have n0_:=Z0 (Z4 HO_5.out)
     have n1_:=Z0 (Z4 HO_8.out)
     have n2_:=Z0 (Z4 HO_33.out)
     have n3_:=Z0 (Z5 HB.out)
     clear HO_5
     clear HO_8
     clear HO_33
     clear HB
     have HO_5:=n0_
     have HO_8:=n1_
     have HO_33:=n2_
     have HB:=n3_
     clear n0_ n1_ n2_ n3_
     have p387 : 0 ≤ (7 : Int):=(by omega)
     have q387 : 7 < (x5_2.length : Int):=of_decide_eq_true (by first|(with_reducible assumption)|assumption)
     obtain ⟨ad387,e387,hx387_0⟩:=Z8 (Z7 HO_5.out).2.2 7 p387 q387
     obtain rfl : ad385 = ad387:=(by injection e387)
     (try simp only [show (7 : Int).toNat = 7 from rfl,Nat.reduceMul,Nat.reduceEqDiff,Go.Addr.add,↓reduceIte] at hx387_0)
     have qi387 : (7 < x5_2.length) = True:=eq_true (by omega)
     (try rw [show ((7 : Int)).toNat = 7 from rfl] at hx387_0)
     replace p387:=eq_true p387
     replace q387:=eq_true q387
     have p391 : 0 ≤ (5 : Int):=(by omega)
     have q391 : 5 < (x5_2.length : Int):=of_decide_eq_true (by first|(with_reducible assumption)|assumption)
     obtain ⟨ad391,e391,hx391_0⟩:=Z8 (Z7 HO_5.out).2.2 5 p391 q391
     obtain rfl : ad385 = ad391:=(by injection e391)
     (try simp only [show (5 : Int).toNat = 5 from rfl,Nat.reduceMul,Nat.reduceEqDiff,Go.Addr.add,↓reduceIte] at hx391_0)
     have qi391 : (5 < x5_2.length) = True:=eq_true (by omega)
     (try rw [show ((5 : Int)).toNat = 5 from rfl] at hx391_0)
     replace p391:=eq_true p391
     replace q391:=eq_true q391
     have p392 : 0 ≤ (6 : Int):=(by omega)
     have q392 : 6 < (x5_2.length : Int):=of_decide_eq_true (by first|(with_reducible assumption)|assumption)
     obtain ⟨ad392,e392,hx392_0⟩:=Z8 (Z7 HO_5.out).2.2 6 p392 q392
     obtain rfl : ad385 = ad392:=(by injection e392)
     (try simp only [show (6 : Int).toNat = 6 from rfl,Nat.reduceMul,Nat.reduceEqDiff,Go.Addr.add,↓reduceIte] at hx392_0)
     have qi392 : (6 < x5_2.length) = True:=eq_true (by omega)
     (try rw [show ((6 : Int)).toNat = 6 from rfl] at hx392_0)
     replace p392:=eq_true p392
     replace q392:=eq_true q392
     obtain ⟨Ao36,co36,eo36⟩:=Kd.R_slice HO_8.out
     (first|subst eo36|(injection eo36 with f1_ f2_ f3_;have f4_:=f1_.symm;have f5_:=f3_.symm;clear f1_ f2_ f3_;subst f4_;subst f5_))
     have p393 : 0 ≤ (x35_2 : Int):=of_decide_eq_true (by first|(with_reducible assumption)|assumption)
     have q393 : x35_2 < (t378.length : Int):=of_decide_eq_true (by first|(with_reducible assumption)|assumption)
     obtain ⟨ad393,e393,hx393_0⟩:=Z8 (Z7 HO_8.out).2.2 x35_2 p393 q393
     cases e393
     replace p393:=eq_true p393
     replace q393:=eq_true q393
     refine start_ (n:=33) (S:=fun w'=>w'.cell? ⟨ad385.block,ad385.off + 7,none⟩ = some (.int .u32 (rd x5_2 7)) ∧ w'.cell? ⟨ad385.block,ad385.off + 5,none⟩ = some (.int .u32 (rd x5_2 5)) ∧ w'.cell? ⟨ad385.block,ad385.off + 6,none⟩ = some (.int .u32 (rd x5_2 6)) ∧ w'.cell? (ad393.add (x35_2).toNat) = some (.int .u32 (rd t378 x35_2))) (ds:=[]) #[false,false,false,false,false,false,false,false,false,false,false,false,false,false,false,false,false,false,false,false,false,false,false,false,false,false,false,false,false,false,false,false,false] (by kernel_rfl) rfl rfl ⟨hx387_0,hx391_0,hx392_0,hx393_0⟩ (fun hHeld=>?_);refine with_tabW impl_turned.tab12 impl_turned.bits12 (fun HT_ HW_=>?_)
     generalize w33.drew = w35 at HO_5 HO_8 HO_33 HB hx387_0 hx391_0 hx392_0 hx393_0 hHeld ⊢
     refine pure_ (i:=0) (N:=some 46) (v:=?_) (a':=?_) #[true,false,false,false,false,false,false,false,false,false,false,false,false,false,false,false,false,false,false,false,false,false,false,false,false,false,false,false,false,false,false,false,false] rfl rfl (Z9 HT_.out (by kernel_rfl)) (fun _ _ _ h=>h) (Or.inl ⟨by rfl,?_⟩) ?_ ?_
     rotate_left
     · intro w'
       go_simp
       with_reducible rfl
     rotate_left
     · simp only [Act.put, Zc, Zd, Ze, Za, Zb]
       rfl
     refine pure_ (i:=1) (N:=some 47) (v:=?_) (a':=?_) #[true,true,false,false,false,false,false,false,false,false,false,false,false,false,false,false,false,false,false,false,false,false,false,false,false,false,false,false,false,false,false,false,false] rfl rfl (Z9 HT_.out (by kernel_rfl)) (fun _ _ _ h=>h) (Or.inl ⟨by rfl,?_⟩) ?_ ?_
     rotate_left
     · intro w'
       go_simp
       with_reducible rfl
     rotate_left
     · simp only [Act.put, Zc, Zd, Ze, Za, Zb]
       rfl
     refine pure_ (i:=3) (N:=some 49) (v:=?_) (a':=?_) #[true,true,false,true,false,false,false,false,false,false,false,false,false,false,false,false,false,false,false,false,false,false,false,false,false,false,false,false,false,false,false,false,false] rfl rfl (Z9 HT_.out (by kernel_rfl)) (fun _ _ _ h=>h) (Or.inl ⟨by rfl,?_⟩) ?_ ?_
     rotate_left
     · intro w'
       go_simp
       with_reducible rfl
     rotate_left
     · simp only [Act.put, Zc, Zd, Ze, Za, Zb]
       rfl
     refine pure_ (i:=5) (N:=some 51) (v:=?_) (a':=?_) #[true,true,false,true,false,true,false,false,false,false,false,false,false,false,false,false,false,false,false,false,false,false,false,false,false,false,false,false,false,false,false,false,false] rfl rfl (Z9 HT_.out (by kernel_rfl)) (fun _ _ _ h=>h) (Or.inl ⟨by rfl,?_⟩) ?_ ?_
     rotate_left
     · intro w'
       go_simp
       with_reducible rfl
     rotate_left
     · simp only [Act.put, Zc, Zd, Ze, Za, Zb]
       rfl
     refine pure_ (i:=8) (N:=some 54) (v:=?_) (a':=?_) #[true,true,false,true,false,true,false,false,true,false,false,false,false,false,false,false,false,false,false,false,false,false,false,false,false,false,false,false,false,false,false,false,false] rfl rfl (Z9 HT_.out (by kernel_rfl)) (fun _ _ _ h=>h) (Or.inl ⟨by rfl,?_⟩) ?_ ?_
     rotate_left
     · intro w'
       go_simp
       with_reducible rfl
     rotate_left
     · simp only [Act.put, Zc, Zd, Ze, Za, Zb]
       rfl
     refine pure_ (i:=12) (N:=some 58) (v:=?_) (a':=?_) #[true,true,false,true,false,true,false,false,true,false,false,false,true,false,false,false,false,false,false,false,false,false,false,false,false,false,false,false,false,false,false,false,false] rfl rfl (Z9 HT_.out (by kernel_rfl)) (fun _ _ _ h=>h) (Or.inl ⟨by rfl,?_⟩) ?_ ?_
     rotate_left
     · intro w'
       go_simp
       with_reducible rfl
     rotate_left
     · simp only [Act.put, Zc, Zd, Ze, Za, Zb]
       rfl
     refine pure_ (i:=13) (N:=some 59) (v:=?_) (a':=?_) #[true,true,false,true,false,true,false,false,true,false,false,false,true,true,false,false,false,false,false,false,false,false,false,false,false,false,false,false,false,false,false,false,false] rfl rfl (Z9 HT_.out (by kernel_rfl)) (fun _ _ _ h=>h) (Or.inl ⟨by rfl,?_⟩) ?_ ?_
     rotate_left
     · intro w'
       go_simp
       with_reducible rfl
     rotate_left
     · simp only [Act.put, Zc, Zd, Ze, Za, Zb]
       rfl
     refine pure_ (i:=14) (N:=some 60) (v:=?_) (a':=?_) #[true,true,false,true,false,true,false,false,true,false,false,false,true,true,true,false,false,false,false,false,false,false,false,false,false,false,false,false,false,false,false,false,false] rfl rfl (Z9 HT_.out (by kernel_rfl)) (fun _ _ _ h=>h) (Or.inl ⟨by rfl,?_⟩) ?_ ?_
     rotate_left
     · intro w'
       go_simp
       with_reducible rfl
     rotate_left
     · simp only [Act.put, Zc, Zd, Ze, Za, Zb]
       rfl
     refine pure_ (i:=17) (N:=some 63) (v:=?_) (a':=?_) #[true,true,false,true,false,true,false,false,true,false,false,false,true,true,true,false,false,true,false,false,false,false,false,false,false,false,false,false,false,false,false,false,false] rfl rfl (Z9 HT_.out (by kernel_rfl)) (fun _ _ _ h=>h) (Or.inl ⟨by rfl,?_⟩) ?_ ?_
     rotate_left
     · intro w'
       go_simp
       with_reducible rfl
     rotate_left
     · simp only [Act.put, Zc, Zd, Ze, Za, Zb]
       rfl
     refine pure_ (i:=18) (N:=some 64) (v:=?_) (a':=?_) #[true,true,false,true,false,true,false,false,true,false,false,false,true,true,true,false,false,true,true,false,false,false,false,false,false,false,false,false,false,false,false,false,false] rfl rfl (Z9 HT_.out (by kernel_rfl)) (fun _ _ _ h=>h) (Or.inl ⟨by rfl,?_⟩) ?_ ?_
     rotate_left
     · intro w'
       go_simp
       with_reducible rfl
     rotate_left
     · simp only [Act.put, Zc, Zd, Ze, Za, Zb]
       rfl
     refine pure_ (i:=19) (N:=some 65) (v:=?_) (a':=?_) #[true,true,false,true,false,true,false,false,true,false,false,false,true,true,true,false,false,true,true,true,false,false,false,false,false,false,false,false,false,false,false,false,false] rfl rfl (Z9 HT_.out (by kernel_rfl)) (fun _ _ _ h=>h) (Or.inl ⟨by rfl,?_⟩) ?_ ?_
     rotate_left
     · intro w'
       go_simp
       with_reducible rfl
     rotate_left
     · simp only [Act.put, Zc, Zd, Ze, Za, Zb]
       rfl
     refine pure_ (i:=20) (N:=some 66) (v:=?_) (a':=?_) #[true,true,false,true,false,true,false,false,true,false,false,false,true,true,true,false,false,true,true,true,true,false,false,false,false,false,false,false,false,false,false,false,false] rfl rfl (Z9 HT_.out (by kernel_rfl)) (fun _ _ _ h=>h) (Or.inl ⟨by rfl,?_⟩) ?_ ?_
     rotate_left
     · intro w'
       go_simp
       with_reducible rfl
     rotate_left
     · simp only [Act.put, Zc, Zd, Ze, Za, Zb]
       rfl
     refine pure_ (i:=25) (N:=some 71) (v:=?_) (a':=?_) #[true,true,false,true,false,true,false,false,true,false,false,false,true,true,true,false,false,true,true,true,true,false,false,false,false,true,false,false,false,false,false,false,false] rfl rfl (Z9 HT_.out (by kernel_rfl)) (fun _ _ _ h=>h) (Or.inl ⟨by rfl,?_⟩) ?_ ?_
     rotate_left
     · intro w'
       go_simp
       with_reducible rfl
     rotate_left
     · simp only [Act.put, Zc, Zd, Ze, Za, Zb]
       rfl
     refine pure_ (i:=26) (N:=some 72) (v:=?_) (a':=?_) #[true,true,false,true,false,true,false,false,true,false,false,false,true,true,true,false,false,true,true,true,true,false,false,false,false,true,true,false,false,false,false,false,false] rfl rfl (Z9 HT_.out (by kernel_rfl)) (fun _ _ _ h=>h) (Or.inl ⟨by rfl,?_⟩) ?_ ?_
     rotate_left
     · intro w'
       go_simp
       with_reducible rfl
     rotate_left
     · simp only [Act.put, Zc, Zd, Ze, Za, Zb]
       rfl
     refine pure_ (i:=27) (N:=some 73) (v:=?_) (a':=?_) #[true,true,false,true,false,true,false,false,true,false,false,false,true,true,true,false,false,true,true,true,true,false,false,false,false,true,true,true,false,false,false,false,false] rfl rfl (Z9 HT_.out (by kernel_rfl)) (fun _ _ _ h=>h) (Or.inl ⟨by rfl,?_⟩) ?_ ?_
     rotate_left
     · intro w'
       go_simp
       with_reducible rfl
     rotate_left
     · simp only [Act.put, Zc, Zd, Ze, Za, Zb]
       rfl
     refine pure_ (i:=30) (N:=some 76) (v:=?_) (a':=?_) #[true,true,false,true,false,true,false,false,true,false,false,false,true,true,true,false,false,true,true,true,true,false,false,false,false,true,true,true,false,false,true,false,false] rfl rfl (Z9 HT_.out (by kernel_rfl)) (fun _ _ _ h=>h) (Or.inl ⟨by rfl,?_⟩) ?_ ?_
     rotate_left
     · intro w'
       go_simp
       with_reducible rfl
     rotate_left
     · simp only [Act.put, Zc, Zd, Ze, Za, Zb]
       rfl
     refine take_ (i:=2) (N:=some 48) (v:=?_) (a':=?_) #[true,true,true,true,false,true,false,false,true,false,false,false,true,true,true,false,false,true,true,true,true,false,false,false,false,true,true,true,false,false,true,false,false] rfl rfl (take_ofW HT_.out HW_.out (by kernel_rfl)) (fun _ _ _ h=>h) (Or.inl ⟨by rfl,?_⟩) hHeld ?_ ?_
     rotate_left
     · rintro w' ⟨s0, s1, s2, s3⟩
       go_simp
       with_reducible rfl
     rotate_left
     · simp only [Act.put, Zc, Zd, Ze, Za, Zb]
       rfl
     refine take_ (i:=15) (N:=some 61) (v:=?_) (a':=?_) #[true,true,true,true,false,true,false,false,true,false,false,false,true,true,true,true,false,true,true,true,true,false,false,false,false,true,true,true,false,false,true,false,false] rfl rfl (take_ofW HT_.out HW_.out (by kernel_rfl)) (fun _ _ _ h=>h) (Or.inl ⟨by rfl,?_⟩) hHeld ?_ ?_
     rotate_left
     · rintro w' ⟨s0, s1, s2, s3⟩
       go_simp
       with_reducible rfl
     rotate_left
     · simp only [Act.put, Zc, Zd, Ze, Za, Zb]
       rfl
     refine pure_ (i:=16) (N:=some 62) (v:=?_) (a':=?_) #[true,true,true,true,false,true,false,false,true,false,false,false,true,true,true,true,true,true,true,true,true,false,false,false,false,true,true,true,false,false,true,false,false] rfl rfl (Z9 HT_.out (by kernel_rfl)) (fun _ _ _ h=>h) (Or.inl ⟨by rfl,?_⟩) ?_ ?_
     rotate_left
     · intro w'
       go_simp
       with_reducible rfl
     rotate_left
     · simp only [Act.put, Zc, Zd, Ze, Za, Zb]
       rfl
     refine take_ (i:=21) (N:=some 67) (v:=?_) (a':=?_) #[true,true,true,true,false,true,false,false,true,false,false,false,true,true,true,true,true,true,true,true,true,true,false,false,false,true,true,true,false,false,true,false,false] rfl rfl (take_ofW HT_.out HW_.out (by kernel_rfl)) (fun _ _ _ h=>h) (Or.inl ⟨by rfl,?_⟩) hHeld ?_ ?_
     rotate_left
     · rintro w' ⟨s0, s1, s2, s3⟩
       go_simp
       with_reducible rfl
     rotate_left
     · simp only [Act.put, Zc, Zd, Ze, Za, Zb]
       rfl
     refine pure_ (i:=22) (N:=some 68) (v:=?_) (a':=?_) #[true,true,true,true,false,true,false,false,true,false,false,false,true,true,true,true,true,true,true,true,true,true,true,false,false,true,true,true,false,false,true,false,false] rfl rfl (Z9 HT_.out (by kernel_rfl)) (fun _ _ _ h=>h) (Or.inl ⟨by rfl,?_⟩) ?_ ?_
     rotate_left
     · intro w'
       go_simp
       with_reducible rfl
     rotate_left
     · simp only [Act.put, Zc, Zd, Ze, Za, Zb]
       rfl
     refine pure_ (i:=23) (N:=some 69) (v:=?_) (a':=?_) #[true,true,true,true,false,true,false,false,true,false,false,false,true,true,true,true,true,true,true,true,true,true,true,true,false,true,true,true,false,false,true,false,false] rfl rfl (Z9 HT_.out (by kernel_rfl)) (fun _ _ _ h=>h) (Or.inl ⟨by rfl,?_⟩) ?_ ?_
     rotate_left
     · intro w'
       go_simp
       with_reducible rfl
     rotate_left
     · simp only [Act.put, Zc, Zd, Ze, Za, Zb]
       rfl
     refine take_ (i:=28) (N:=some 74) (v:=?_) (a':=?_) #[true,true,true,true,false,true,false,false,true,false,false,false,true,true,true,true,true,true,true,true,true,true,true,true,false,true,true,true,true,false,true,false,false] rfl rfl (take_ofW HT_.out HW_.out (by kernel_rfl)) (fun _ _ _ h=>h) (Or.inl ⟨by rfl,?_⟩) hHeld ?_ ?_
     rotate_left
     · rintro w' ⟨s0, s1, s2, s3⟩
       go_simp
       with_reducible rfl
     rotate_left
     · simp only [Act.put, Zc, Zd, Ze, Za, Zb]
       rfl
     refine one_ (i:=4) (N:=some 50) #[true,true,true,true,true,true,false,false,true,false,false,false,true,true,true,true,true,true,true,true,true,true,true,true,false,true,true,true,true,false,true,false,false] rfl rfl (one_of HT_.out (by kernel_rfl)) (by decide) (fun K hK=>?_)
     refine goes_ Try.func36 (by kernel_rfl) rfl #[.int .u32 (rd x5_2 4),.int .i64 6] (by rfl) rfl rfl (by (try simp only [Zi,Zj,Zk]);first|done|rfl|(simp only [Zg,Zh];rfl)) ?_
     with_reducible refine (impl_rot.calls (rd x5_2 4) 6 t388 _ A21.out).mono ?_
     rintro e w' ⟨rfl,⟨nd,rfl⟩⟩
     refine ⟨_,rfl,?_⟩
     refine hK.out _ _ ⟨hHeld.1,hHeld.2.1,hHeld.2.2.1,hHeld.2.2.2⟩ (fun hHeld=>?_)
     clear hK K
     refine norm_ (a':=?_) ?_ ?_
     rotate_left
     · show Act.put _ (some 50) _ = _
       simp only [Act.put,Zc,Zd,Ze,Za,Zb]
       rfl
     refine one_ (i:=6) (N:=some 52) #[true,true,true,true,true,true,true,false,true,false,false,false,true,true,true,true,true,true,true,true,true,true,true,true,false,true,true,true,true,false,true,false,false] rfl rfl (one_of HT_.out (by kernel_rfl)) (by decide) (fun K hK=>?_)
     refine goes_ Try.func36 (by kernel_rfl) rfl #[.int .u32 (rd x5_2 4),.int .i64 11] (by rfl) rfl rfl (by (try simp only [Zi,Zj,Zk]);first|done|rfl|(simp only [Zg,Zh];rfl)) ?_
     with_reducible refine (impl_rot.calls (rd x5_2 4) 11 t389 _ A22.out).mono ?_
     rintro e w' ⟨rfl,⟨nd,rfl⟩⟩
     refine ⟨_,rfl,?_⟩
     refine hK.out _ _ ⟨hHeld.1,hHeld.2.1,hHeld.2.2.1,hHeld.2.2.2⟩ (fun hHeld=>?_)
     clear hK K
     refine norm_ (a':=?_) ?_ ?_
     rotate_left
     · show Act.put _ (some 52) _ = _
       simp only [Act.put,Zc,Zd,Ze,Za,Zb]
       rfl
     refine pure_ (i:=7) (N:=some 53) (v:=?_) (a':=?_) #[true,true,true,true,true,true,true,true,true,false,false,false,true,true,true,true,true,true,true,true,true,true,true,true,false,true,true,true,true,false,true,false,false] rfl rfl (Z9 HT_.out (by kernel_rfl)) (fun _ _ _ h=>h) (Or.inl ⟨by rfl,?_⟩) ?_ ?_
     rotate_left
     · intro w'
       go_simp
       with_reducible rfl
     rotate_left
     · simp only [Act.put, Zc, Zd, Ze, Za, Zb]
       rfl
     refine one_ (i:=9) (N:=some 55) #[true,true,true,true,true,true,true,true,true,true,false,false,true,true,true,true,true,true,true,true,true,true,true,true,false,true,true,true,true,false,true,false,false] rfl rfl (one_of HT_.out (by kernel_rfl)) (by decide) (fun K hK=>?_)
     refine goes_ Try.func36 (by kernel_rfl) rfl #[.int .u32 (rd x5_2 4),.int .i64 25] (by rfl) rfl rfl (by (try simp only [Zi,Zj,Zk]);first|done|rfl|(simp only [Zg,Zh];rfl)) ?_
     with_reducible refine (impl_rot.calls (rd x5_2 4) 25 t390 _ A23.out).mono ?_
     rintro e w' ⟨rfl,⟨nd,rfl⟩⟩
     refine ⟨_,rfl,?_⟩
     refine hK.out _ _ ⟨hHeld.1,hHeld.2.1,hHeld.2.2.1,hHeld.2.2.2⟩ (fun hHeld=>?_)
     clear hK K
     refine norm_ (a':=?_) ?_ ?_
     rotate_left
     · show Act.put _ (some 55) _ = _
       simp only [Act.put,Zc,Zd,Ze,Za,Zb]
       rfl
     refine pure_ (i:=10) (N:=some 56) (v:=?_) (a':=?_) #[true,true,true,true,true,true,true,true,true,true,true,false,true,true,true,true,true,true,true,true,true,true,true,true,false,true,true,true,true,false,true,false,false] rfl rfl (Z9 HT_.out (by kernel_rfl)) (fun _ _ _ h=>h) (Or.inl ⟨by rfl,?_⟩) ?_ ?_
     rotate_left
     · intro w'
       go_simp
       with_reducible rfl
     rotate_left
     · simp only [Act.put, Zc, Zd, Ze, Za, Zb]
       rfl
     refine pure_ (i:=11) (N:=some 57) (v:=?_) (a':=?_) #[true,true,true,true,true,true,true,true,true,true,true,true,true,true,true,true,true,true,true,true,true,true,true,true,false,true,true,true,true,false,true,false,false] rfl rfl (Z9 HT_.out (by kernel_rfl)) (fun _ _ _ h=>h) (Or.inl ⟨by rfl,?_⟩) ?_ ?_
     rotate_left
     · intro w'
       go_simp
       with_reducible rfl
     rotate_left
     · simp only [Act.put, Zc, Zd, Ze, Za, Zb]
       rfl
     refine pure_ (i:=24) (N:=some 70) (v:=?_) (a':=?_) #[true,true,true,true,true,true,true,true,true,true,true,true,true,true,true,true,true,true,true,true,true,true,true,true,true,true,true,true,true,false,true,false,false] rfl rfl (Z9 HT_.out (by kernel_rfl)) (fun _ _ _ h=>h) (Or.inl ⟨by rfl,?_⟩) ?_ ?_
     rotate_left
     · intro w'
       go_simp
       with_reducible rfl
     rotate_left
     · simp only [Act.put, Zc, Zd, Ze, Za, Zb]
       rfl
     refine pure_ (i:=29) (N:=some 75) (v:=?_) (a':=?_) #[true,true,true,true,true,true,true,true,true,true,true,true,true,true,true,true,true,true,true,true,true,true,true,true,true,true,true,true,true,true,true,false,false] rfl rfl (Z9 HT_.out (by kernel_rfl)) (fun _ _ _ h=>h) (Or.inl ⟨by rfl,?_⟩) ?_ ?_
     rotate_left
     · intro w'
       go_simp
       with_reducible rfl
     rotate_left
     · simp only [Act.put, Zc, Zd, Ze, Za, Zb]
       rfl
     refine pure_ (i:=31) (N:=some 77) (v:=?_) (a':=?_) #[true,true,true,true,true,true,true,true,true,true,true,true,true,true,true,true,true,true,true,true,true,true,true,true,true,true,true,true,true,true,true,true,false] rfl rfl (Z9 HT_.out (by kernel_rfl)) (fun _ _ _ h=>h) (Or.inl ⟨by rfl,?_⟩) ?_ ?_
     rotate_left
     · intro w'
       go_simp
       with_reducible rfl
     rotate_left
     · simp only [Act.put, Zc, Zd, Ze, Za, Zb]
       rfl
     refine pure_ (i:=32) (N:=some 13) (v:=?_) (a':=?_) #[true,true,true,true,true,true,true,true,true,true,true,true,true,true,true,true,true,true,true,true,true,true,true,true,true,true,true,true,true,true,true,true,true] rfl rfl (Z9 HT_.out (by kernel_rfl)) (fun _ _ _ h=>h) (Or.inl ⟨by rfl,?_⟩) ?_ ?_
     rotate_left
     · intro w'
       go_simp
       with_reducible rfl
     rotate_left
     · simp only [Act.put, Zc, Zd, Ze, Za, Zb]
       rfl
     refine done_ (done_of HT_.out (by kernel_rfl)) ?_
     try go_wp2
     (try (rw [drewN_self w35];generalize hq_ : World.drewN w35 _ = w35;have n0_ : Aside0 (Kd.R (Kd.int .u32) 46 w35 w.heap.size (fun k_=>(some k_ ≠ (.slice (some ad385) x5_2.length co34 : Value).ownBlock ∧ some k_ ≠ (.slice (some ad393) t378.length co36 : Value).ownBlock)) (.slice (some ad384) t381.length co14) t381):=⟨by rw [← hq_];exact (by (with_reducible repeat (first|apply Z3|apply Z2|apply Z4));exact HO_33.out)⟩;have n1_ : Aside0 (Kd.R (Kd.int .u32) 46 w35 w.heap.size (fun k_=>(some k_ ≠ (.slice (some ad393) t378.length co36 : Value).ownBlock ∧ some k_ ≠ (.slice (some ad384) t381.length co14 : Value).ownBlock)) (.slice (some ad385) x5_2.length co34) x5_2):=⟨by rw [← hq_];exact (by (with_reducible repeat (first|apply Z3|apply Z2|apply Z4));exact HO_5.out)⟩;have n2_ : Aside0 (Kd.R (Kd.int .u32) 46 w35 w.heap.size (fun k_=>(some k_ ≠ (.slice (some ad385) x5_2.length co34 : Value).ownBlock ∧ some k_ ≠ (.slice (some ad384) t381.length co14 : Value).ownBlock)) (.slice (some ad393) t378.length co36) t378):=⟨by rw [← hq_];exact (by (with_reducible repeat (first|apply Z3|apply Z2|apply Z4));exact HO_8.out)⟩;have n3_ : Aside0 (Below w.heap.size w w35):=⟨by rw [← hq_];exact (by repeat (first|(with_reducible first|exact HB.out|apply Z6|apply Z1|apply Z5)|exact HB.out))⟩;clear HO_33 HO_5 HO_8 HB hq_;have HO_33:=n0_;have HO_5:=n1_;have HO_8:=n2_;have HB:=n3_;clear n0_ n1_ n2_ n3_))
     have n0_:=Z0 (Z4 HO_5.out)
     have n1_:=Z0 (Z4 HO_8.out)
     have n2_:=Z0 (Z4 HO_33.out)
     have n3_:=Z0 (Z5 HB.out)
     clear HO_5
     clear HO_8
     clear HO_33
     clear HB
     have HO_5:=n0_
     have HO_8:=n1_
     have HO_33:=n2_
     have HB:=n3_
     clear n0_ n1_ n2_ n3_
     have p397 : 0 ≤ (1 : Int):=(by omega)
     have q397 : 1 < (x5_2.length : Int):=of_decide_eq_true (by first|(with_reducible assumption)|assumption)
     obtain ⟨ad397,e397,hx397_0⟩:=Z8 (Z7 HO_5.out).2.2 1 p397 q397
     obtain rfl : ad385 = ad397:=(by injection e397)
     (try simp only [show (1 : Int).toNat = 1 from rfl,Nat.reduceMul,Nat.reduceEqDiff,Go.Addr.add,↓reduceIte] at hx397_0)
     have qi397 : (1 < x5_2.length) = True:=eq_true (by omega)
     (try rw [show ((1 : Int)).toNat = 1 from rfl] at hx397_0)
     replace p397:=eq_true p397
     replace q397:=eq_true q397
     have p398 : 0 ≤ (2 : Int):=(by omega)
     have q398 : 2 < (x5_2.length : Int):=of_decide_eq_true (by first|(with_reducible assumption)|assumption)
     obtain ⟨ad398,e398,hx398_0⟩:=Z8 (Z7 HO_5.out).2.2 2 p398 q398
     obtain rfl : ad385 = ad398:=(by injection e398)
     (try simp only [show (2 : Int).toNat = 2 from rfl,Nat.reduceMul,Nat.reduceEqDiff,Go.Addr.add,↓reduceIte] at hx398_0)
     have qi398 : (2 < x5_2.length) = True:=eq_true (by omega)
     (try rw [show ((2 : Int)).toNat = 2 from rfl] at hx398_0)
     replace p398:=eq_true p398
     replace q398:=eq_true q398
     have p399 : 0 ≤ (1 : Int):=(by omega)
     have q399 : 1 < (x5_2.length : Int):=of_decide_eq_true (by first|(with_reducible assumption)|assumption)
     obtain ⟨ad399,e399,hx399_0⟩:=Z8 (Z7 HO_5.out).2.2 1 p399 q399
     obtain rfl : ad385 = ad399:=(by injection e399)
     (try simp only [show (1 : Int).toNat = 1 from rfl,Nat.reduceMul,Nat.reduceEqDiff,Go.Addr.add,↓reduceIte] at hx399_0)
     have qi399 : (1 < x5_2.length) = True:=eq_true (by omega)
     (try rw [show ((1 : Int)).toNat = 1 from rfl] at hx399_0)
     replace p399:=eq_true p399
     replace q399:=eq_true q399
     have p400 : 0 ≤ (2 : Int):=(by omega)
     have q400 : 2 < (x5_2.length : Int):=of_decide_eq_true (by first|(with_reducible assumption)|assumption)
     obtain ⟨ad400,e400,hx400_0⟩:=Z8 (Z7 HO_5.out).2.2 2 p400 q400
     obtain rfl : ad385 = ad400:=(by injection e400)
     (try simp only [show (2 : Int).toNat = 2 from rfl,Nat.reduceMul,Nat.reduceEqDiff,Go.Addr.add,↓reduceIte] at hx400_0)
     have qi400 : (2 < x5_2.length) = True:=eq_true (by omega)
     (try rw [show ((2 : Int)).toNat = 2 from rfl] at hx400_0)
     replace p400:=eq_true p400
     replace q400:=eq_true q400
     refine start_ (n:=29) (S:=fun w'=>w'.cell? ⟨ad385.block,ad385.off + 1,none⟩ = some (.int .u32 (rd x5_2 1)) ∧ w'.cell? ⟨ad385.block,ad385.off + 2,none⟩ = some (.int .u32 (rd x5_2 2)) ∧ w'.cell? ⟨ad385.block,ad385.off + 1,none⟩ = some (.int .u32 (rd x5_2 1)) ∧ w'.cell? ⟨ad385.block,ad385.off + 2,none⟩ = some (.int .u32 (rd x5_2 2))) (ds:=[]) #[false,false,false,false,false,false,false,false,false,false,false,false,false,false,false,false,false,false,false,false,false,false,false,false,false,false,false,false,false] (by kernel_rfl) rfl rfl ⟨hx397_0,hx398_0,hx399_0,hx400_0⟩ (fun hHeld=>?_);refine with_tabW impl_turned.tab13 impl_turned.bits13 (fun HT_ HW_=>?_)
     generalize w35.drew = w37 at HO_5 HO_8 HO_33 HB hx397_0 hx398_0 hx399_0 hx400_0 hHeld ⊢
     refine pure_ (i:=0) (N:=some 78) (v:=?_) (a':=?_) #[true,false,false,false,false,false,false,false,false,false,false,false,false,false,false,false,false,false,false,false,false,false,false,false,false,false,false,false,false] rfl rfl (Z9 HT_.out (by kernel_rfl)) (fun _ _ _ h=>h) (Or.inl ⟨by rfl,?_⟩) ?_ ?_
     rotate_left
     · intro w'
       go_simp
       with_reducible rfl
     rotate_left
     · simp only [Act.put, Zc, Zd, Ze, Za, Zb]
       rfl
     refine pure_ (i:=2) (N:=some 80) (v:=?_) (a':=?_) #[true,false,true,false,false,false,false,false,false,false,false,false,false,false,false,false,false,false,false,false,false,false,false,false,false,false,false,false,false] rfl rfl (Z9 HT_.out (by kernel_rfl)) (fun _ _ _ h=>h) (Or.inl ⟨by rfl,?_⟩) ?_ ?_
     rotate_left
     · intro w'
       go_simp
       with_reducible rfl
     rotate_left
     · simp only [Act.put, Zc, Zd, Ze, Za, Zb]
       rfl
     refine pure_ (i:=5) (N:=some 83) (v:=?_) (a':=?_) #[true,false,true,false,false,true,false,false,false,false,false,false,false,false,false,false,false,false,false,false,false,false,false,false,false,false,false,false,false] rfl rfl (Z9 HT_.out (by kernel_rfl)) (fun _ _ _ h=>h) (Or.inl ⟨by rfl,?_⟩) ?_ ?_
     rotate_left
     · intro w'
       go_simp
       with_reducible rfl
     rotate_left
     · simp only [Act.put, Zc, Zd, Ze, Za, Zb]
       rfl
     refine pure_ (i:=8) (N:=some 86) (v:=?_) (a':=?_) #[true,false,true,false,false,true,false,false,true,false,false,false,false,false,false,false,false,false,false,false,false,false,false,false,false,false,false,false,false] rfl rfl (Z9 HT_.out (by kernel_rfl)) (fun _ _ _ h=>h) (Or.inl ⟨by rfl,?_⟩) ?_ ?_
     rotate_left
     · intro w'
       go_simp
       with_reducible rfl
     rotate_left
     · simp only [Act.put, Zc, Zd, Ze, Za, Zb]
       rfl
     refine pure_ (i:=9) (N:=some 87) (v:=?_) (a':=?_) #[true,false,true,false,false,true,false,false,true,true,false,false,false,false,false,false,false,false,false,false,false,false,false,false,false,false,false,false,false] rfl rfl (Z9 HT_.out (by kernel_rfl)) (fun _ _ _ h=>h) (Or.inl ⟨by rfl,?_⟩) ?_ ?_
     rotate_left
     · intro w'
       go_simp
       with_reducible rfl
     rotate_left
     · simp only [Act.put, Zc, Zd, Ze, Za, Zb]
       rfl
     refine pure_ (i:=10) (N:=some 88) (v:=?_) (a':=?_) #[true,false,true,false,false,true,false,false,true,true,true,false,false,false,false,false,false,false,false,false,false,false,false,false,false,false,false,false,false] rfl rfl (Z9 HT_.out (by kernel_rfl)) (fun _ _ _ h=>h) (Or.inl ⟨by rfl,?_⟩) ?_ ?_
     rotate_left
     · intro w'
       go_simp
       with_reducible rfl
     rotate_left
     · simp only [Act.put, Zc, Zd, Ze, Za, Zb]
       rfl
     refine pure_ (i:=13) (N:=some 91) (v:=?_) (a':=?_) #[true,false,true,false,false,true,false,false,true,true,true,false,false,true,false,false,false,false,false,false,false,false,false,false,false,false,false,false,false] rfl rfl (Z9 HT_.out (by kernel_rfl)) (fun _ _ _ h=>h) (Or.inl ⟨by rfl,?_⟩) ?_ ?_
     rotate_left
     · intro w'
       go_simp
       with_reducible rfl
     rotate_left
     · simp only [Act.put, Zc, Zd, Ze, Za, Zb]
       rfl
     refine pure_ (i:=14) (N:=some 92) (v:=?_) (a':=?_) #[true,false,true,false,false,true,false,false,true,true,true,false,false,true,true,false,false,false,false,false,false,false,false,false,false,false,false,false,false] rfl rfl (Z9 HT_.out (by kernel_rfl)) (fun _ _ _ h=>h) (Or.inl ⟨by rfl,?_⟩) ?_ ?_
     rotate_left
     · intro w'
       go_simp
       with_reducible rfl
     rotate_left
     · simp only [Act.put, Zc, Zd, Ze, Za, Zb]
       rfl
     refine pure_ (i:=15) (N:=some 93) (v:=?_) (a':=?_) #[true,false,true,false,false,true,false,false,true,true,true,false,false,true,true,true,false,false,false,false,false,false,false,false,false,false,false,false,false] rfl rfl (Z9 HT_.out (by kernel_rfl)) (fun _ _ _ h=>h) (Or.inl ⟨by rfl,?_⟩) ?_ ?_
     rotate_left
     · intro w'
       go_simp
       with_reducible rfl
     rotate_left
     · simp only [Act.put, Zc, Zd, Ze, Za, Zb]
       rfl
     refine pure_ (i:=19) (N:=some 97) (v:=?_) (a':=?_) #[true,false,true,false,false,true,false,false,true,true,true,false,false,true,true,true,false,false,false,true,false,false,false,false,false,false,false,false,false] rfl rfl (Z9 HT_.out (by kernel_rfl)) (fun _ _ _ h=>h) (Or.inl ⟨by rfl,?_⟩) ?_ ?_
     rotate_left
     · intro w'
       go_simp
       with_reducible rfl
     rotate_left
     · simp only [Act.put, Zc, Zd, Ze, Za, Zb]
       rfl
     refine pure_ (i:=20) (N:=some 98) (v:=?_) (a':=?_) #[true,false,true,false,false,true,false,false,true,true,true,false,false,true,true,true,false,false,false,true,true,false,false,false,false,false,false,false,false] rfl rfl (Z9 HT_.out (by kernel_rfl)) (fun _ _ _ h=>h) (Or.inl ⟨by rfl,?_⟩) ?_ ?_
     rotate_left
     · intro w'
       go_simp
       with_reducible rfl
     rotate_left
     · simp only [Act.put, Zc, Zd, Ze, Za, Zb]
       rfl
     refine pure_ (i:=22) (N:=some 100) (v:=?_) (a':=?_) #[true,false,true,false,false,true,false,false,true,true,true,false,false,true,true,true,false,false,false,true,true,false,true,false,false,false,false,false,false] rfl rfl (Z9 HT_.out (by kernel_rfl)) (fun _ _ _ h=>h) (Or.inl ⟨by rfl,?_⟩) ?_ ?_
     rotate_left
     · intro w'
       go_simp
       with_reducible rfl
     rotate_left
     · simp only [Act.put, Zc, Zd, Ze, Za, Zb]
       rfl
     refine pure_ (i:=23) (N:=some 101) (v:=?_) (a':=?_) #[true,false,true,false,false,true,false,false,true,true,true,false,false,true,true,true,false,false,false,true,true,false,true,true,false,false,false,false,false] rfl rfl (Z9 HT_.out (by kernel_rfl)) (fun _ _ _ h=>h) (Or.inl ⟨by rfl,?_⟩) ?_ ?_
     rotate_left
     · intro w'
       go_simp
       with_reducible rfl
     rotate_left
     · simp only [Act.put, Zc, Zd, Ze, Za, Zb]
       rfl
     refine take_ (i:=11) (N:=some 89) (v:=?_) (a':=?_) #[true,false,true,false,false,true,false,false,true,true,true,true,false,true,true,true,false,false,false,true,true,false,true,true,false,false,false,false,false] rfl rfl (take_ofW HT_.out HW_.out (by kernel_rfl)) (fun _ _ _ h=>h) (Or.inl ⟨by rfl,?_⟩) hHeld ?_ ?_
     rotate_left
     · rintro w' ⟨s0, s1, s2, s3⟩
       go_simp
       with_reducible rfl
     rotate_left
     · simp only [Act.put, Zc, Zd, Ze, Za, Zb]
       rfl
     refine pure_ (i:=12) (N:=some 90) (v:=?_) (a':=?_) #[true,false,true,false,false,true,false,false,true,true,true,true,true,true,true,true,false,false,false,true,true,false,true,true,false,false,false,false,false] rfl rfl (Z9 HT_.out (by kernel_rfl)) (fun _ _ _ h=>h) (Or.inl ⟨by rfl,?_⟩) ?_ ?_
     rotate_left
     · intro w'
       go_simp
       with_reducible rfl
     rotate_left
     · simp only [Act.put, Zc, Zd, Ze, Za, Zb]
       rfl
     refine take_ (i:=16) (N:=some 94) (v:=?_) (a':=?_) #[true,false,true,false,false,true,false,false,true,true,true,true,true,true,true,true,true,false,false,true,true,false,true,true,false,false,false,false,false] rfl rfl (take_ofW HT_.out HW_.out (by kernel_rfl)) (fun _ _ _ h=>h) (Or.inl ⟨by rfl,?_⟩) hHeld ?_ ?_
     rotate_left
     · rintro w' ⟨s0, s1, s2, s3⟩
       go_simp
       with_reducible rfl
     rotate_left
     · simp only [Act.put, Zc, Zd, Ze, Za, Zb]
       rfl
     refine pure_ (i:=17) (N:=some 95) (v:=?_) (a':=?_) #[true,false,true,false,false,true,false,false,true,true,true,true,true,true,true,true,true,true,false,true,true,false,true,true,false,false,false,false,false] rfl rfl (Z9 HT_.out (by kernel_rfl)) (fun _ _ _ h=>h) (Or.inl ⟨by rfl,?_⟩) ?_ ?_
     rotate_left
     · intro w'
       go_simp
       with_reducible rfl
     rotate_left
     · simp only [Act.put, Zc, Zd, Ze, Za, Zb]
       rfl
     refine pure_ (i:=18) (N:=some 96) (v:=?_) (a':=?_) #[true,false,true,false,false,true,false,false,true,true,true,true,true,true,true,true,true,true,true,true,true,false,true,true,false,false,false,false,false] rfl rfl (Z9 HT_.out (by kernel_rfl)) (fun _ _ _ h=>h) (Or.inl ⟨by rfl,?_⟩) ?_ ?_
     rotate_left
     · intro w'
       go_simp
       with_reducible rfl
     rotate_left
     · simp only [Act.put, Zc, Zd, Ze, Za, Zb]
       rfl
     refine take_ (i:=21) (N:=some 99) (v:=?_) (a':=?_) #[true,false,true,false,false,true,false,false,true,true,true,true,true,true,true,true,true,true,true,true,true,true,true,true,false,false,false,false,false] rfl rfl (take_ofW HT_.out HW_.out (by kernel_rfl)) (fun _ _ _ h=>h) (Or.inl ⟨by rfl,?_⟩) hHeld ?_ ?_
     rotate_left
     · rintro w' ⟨s0, s1, s2, s3⟩
       go_simp
       with_reducible rfl
     rotate_left
     · simp only [Act.put, Zc, Zd, Ze, Za, Zb]
       rfl
     refine take_ (i:=24) (N:=some 102) (v:=?_) (a':=?_) #[true,false,true,false,false,true,false,false,true,true,true,true,true,true,true,true,true,true,true,true,true,true,true,true,true,false,false,false,false] rfl rfl (take_ofW HT_.out HW_.out (by kernel_rfl)) (fun _ _ _ h=>h) (Or.inl ⟨by rfl,?_⟩) hHeld ?_ ?_
     rotate_left
     · rintro w' ⟨s0, s1, s2, s3⟩
       go_simp
       with_reducible rfl
     rotate_left
     · simp only [Act.put, Zc, Zd, Ze, Za, Zb]
       rfl
     refine pure_ (i:=25) (N:=some 103) (v:=?_) (a':=?_) #[true,false,true,false,false,true,false,false,true,true,true,true,true,true,true,true,true,true,true,true,true,true,true,true,true,true,false,false,false] rfl rfl (Z9 HT_.out (by kernel_rfl)) (fun _ _ _ h=>h) (Or.inl ⟨by rfl,?_⟩) ?_ ?_
     rotate_left
     · intro w'
       go_simp
       with_reducible rfl
     rotate_left
     · simp only [Act.put, Zc, Zd, Ze, Za, Zb]
       rfl
     refine pure_ (i:=26) (N:=some 104) (v:=?_) (a':=?_) #[true,false,true,false,false,true,false,false,true,true,true,true,true,true,true,true,true,true,true,true,true,true,true,true,true,true,true,false,false] rfl rfl (Z9 HT_.out (by kernel_rfl)) (fun _ _ _ h=>h) (Or.inl ⟨by rfl,?_⟩) ?_ ?_
     rotate_left
     · intro w'
       go_simp
       with_reducible rfl
     rotate_left
     · simp only [Act.put, Zc, Zd, Ze, Za, Zb]
       rfl
     refine one_ (i:=1) (N:=some 79) #[true,true,true,false,false,true,false,false,true,true,true,true,true,true,true,true,true,true,true,true,true,true,true,true,true,true,true,false,false] rfl rfl (one_of HT_.out (by kernel_rfl)) (by decide) (fun K hK=>?_)
     refine goes_ Try.func36 (by kernel_rfl) rfl #[.int .u32 (rd x5_2 0),.int .i64 2] (by rfl) rfl rfl (by (try simp only [Zi,Zj,Zk]);first|done|rfl|(simp only [Zg,Zh];rfl)) ?_
     with_reducible refine (impl_rot.calls (rd x5_2 0) 2 t394 _ A27.out).mono ?_
     rintro e w' ⟨rfl,⟨nd,rfl⟩⟩
     refine ⟨_,rfl,?_⟩
     refine hK.out _ _ ⟨hHeld.1,hHeld.2.1,hHeld.2.2.1,hHeld.2.2.2⟩ (fun hHeld=>?_)
     clear hK K
     refine norm_ (a':=?_) ?_ ?_
     rotate_left
     · show Act.put _ (some 79) _ = _
       simp only [Act.put,Zc,Zd,Ze,Za,Zb]
       rfl
     refine one_ (i:=3) (N:=some 81) #[true,true,true,true,false,true,false,false,true,true,true,true,true,true,true,true,true,true,true,true,true,true,true,true,true,true,true,false,false] rfl rfl (one_of HT_.out (by kernel_rfl)) (by decide) (fun K hK=>?_)
     refine goes_ Try.func36 (by kernel_rfl) rfl #[.int .u32 (rd x5_2 0),.int .i64 13] (by rfl) rfl rfl (by (try simp only [Zi,Zj,Zk]);first|done|rfl|(simp only [Zg,Zh];rfl)) ?_
     with_reducible refine (impl_rot.calls (rd x5_2 0) 13 t395 _ A28.out).mono ?_
     rintro e w' ⟨rfl,⟨nd,rfl⟩⟩
     refine ⟨_,rfl,?_⟩
     refine hK.out _ _ ⟨hHeld.1,hHeld.2.1,hHeld.2.2.1,hHeld.2.2.2⟩ (fun hHeld=>?_)
     clear hK K
     refine norm_ (a':=?_) ?_ ?_
     rotate_left
     · show Act.put _ (some 81) _ = _
       simp only [Act.put,Zc,Zd,Ze,Za,Zb]
       rfl
     refine pure_ (i:=4) (N:=some 82) (v:=?_) (a':=?_) #[true,true,true,true,true,true,false,false,true,true,true,true,true,true,true,true,true,true,true,true,true,true,true,true,true,true,true,false,false] rfl rfl (Z9 HT_.out (by kernel_rfl)) (fun _ _ _ h=>h) (Or.inl ⟨by rfl,?_⟩) ?_ ?_
     rotate_left
     · intro w'
       go_simp
       with_reducible rfl
     rotate_left
     · simp only [Act.put, Zc, Zd, Ze, Za, Zb]
       rfl
     refine one_ (i:=6) (N:=some 84) #[true,true,true,true,true,true,true,false,true,true,true,true,true,true,true,true,true,true,true,true,true,true,true,true,true,true,true,false,false] rfl rfl (one_of HT_.out (by kernel_rfl)) (by decide) (fun K hK=>?_)
     refine goes_ Try.func36 (by kernel_rfl) rfl #[.int .u32 (rd x5_2 0),.int .i64 22] (by rfl) rfl rfl (by (try simp only [Zi,Zj,Zk]);first|done|rfl|(simp only [Zg,Zh];rfl)) ?_
     with_reducible refine (impl_rot.calls (rd x5_2 0) 22 t396 _ A29.out).mono ?_
     rintro e w' ⟨rfl,⟨nd,rfl⟩⟩
     refine ⟨_,rfl,?_⟩
     refine hK.out _ _ ⟨hHeld.1,hHeld.2.1,hHeld.2.2.1,hHeld.2.2.2⟩ (fun hHeld=>?_)
     clear hK K
     refine norm_ (a':=?_) ?_ ?_
     rotate_left
     · show Act.put _ (some 84) _ = _
       simp only [Act.put,Zc,Zd,Ze,Za,Zb]
       rfl
     refine pure_ (i:=7) (N:=some 85) (v:=?_) (a':=?_) #[true,true,true,true,true,true,true,true,true,true,true,true,true,true,true,true,true,true,true,true,true,true,true,true,true,true,true,false,false] rfl rfl (Z9 HT_.out (by kernel_rfl)) (fun _ _ _ h=>h) (Or.inl ⟨by rfl,?_⟩) ?_ ?_
     rotate_left
     · intro w'
       go_simp
       with_reducible rfl
     rotate_left
     · simp only [Act.put, Zc, Zd, Ze, Za, Zb]
       rfl
     refine pure_ (i:=27) (N:=some 105) (v:=?_) (a':=?_) #[true,true,true,true,true,true,true,true,true,true,true,true,true,true,true,true,true,true,true,true,true,true,true,true,true,true,true,true,false] rfl rfl (Z9 HT_.out (by kernel_rfl)) (fun _ _ _ h=>h) (Or.inl ⟨by rfl,?_⟩) ?_ ?_
     rotate_left
     · intro w'
       go_simp
       with_reducible rfl
     rotate_left
     · simp only [Act.put, Zc, Zd, Ze, Za, Zb]
       rfl
     refine pure_ (i:=28) (N:=some 14) (v:=?_) (a':=?_) #[true,true,true,true,true,true,true,true,true,true,true,true,true,true,true,true,true,true,true,true,true,true,true,true,true,true,true,true,true] rfl rfl (Z9 HT_.out (by kernel_rfl)) (fun _ _ _ h=>h) (Or.inl ⟨by rfl,?_⟩) ?_ ?_
     rotate_left
     · intro w'
       go_simp
       with_reducible rfl
     rotate_left
     · simp only [Act.put, Zc, Zd, Ze, Za, Zb]
       rfl
     refine done_ (done_of HT_.out (by kernel_rfl)) ?_
     try go_wp2
     (try (rw [drewN_self w37];generalize hq_ : World.drewN w37 _ = w37;have n0_ : Aside0 (Kd.R (Kd.int .u32) 46 w37 w.heap.size (fun k_=>(some k_ ≠ (.slice (some ad385) x5_2.length co34 : Value).ownBlock ∧ some k_ ≠ (.slice (some ad393) t378.length co36 : Value).ownBlock)) (.slice (some ad384) t381.length co14) t381):=⟨by rw [← hq_];exact (by (with_reducible repeat (first|apply Z3|apply Z2|apply Z4));exact HO_33.out)⟩;have n1_ : Aside0 (Kd.R (Kd.int .u32) 46 w37 w.heap.size (fun k_=>(some k_ ≠ (.slice (some ad393) t378.length co36 : Value).ownBlock ∧ some k_ ≠ (.slice (some ad384) t381.length co14 : Value).ownBlock)) (.slice (some ad385) x5_2.length co34) x5_2):=⟨by rw [← hq_];exact (by (with_reducible repeat (first|apply Z3|apply Z2|apply Z4));exact HO_5.out)⟩;have n2_ : Aside0 (Kd.R (Kd.int .u32) 46 w37 w.heap.size (fun k_=>(some k_ ≠ (.slice (some ad385) x5_2.length co34 : Value).ownBlock ∧ some k_ ≠ (.slice (some ad384) t381.length co14 : Value).ownBlock)) (.slice (some ad393) t378.length co36) t378):=⟨by rw [← hq_];exact (by (with_reducible repeat (first|apply Z3|apply Z2|apply Z4));exact HO_8.out)⟩;have n3_ : Aside0 (Below w.heap.size w w37):=⟨by rw [← hq_];exact (by repeat (first|(with_reducible first|exact HB.out|apply Z6|apply Z1|apply Z5)|exact HB.out))⟩;clear HO_33 HO_5 HO_8 HB hq_;have HO_33:=n0_;have HO_5:=n1_;have HO_8:=n2_;have HB:=n3_;clear n0_ n1_ n2_ n3_))
     have n0_:=Z0 (Z4 HO_5.out)
     have n1_:=Z0 (Z4 HO_8.out)
     have n2_:=Z0 (Z4 HO_33.out)
     have n3_:=Z0 (Z5 HB.out)
     clear HO_5
     clear HO_8
     clear HO_33
     clear HB
     have HO_5:=n0_
     have HO_8:=n1_
     have HO_33:=n2_
     have HB:=n3_
     clear n0_ n1_ n2_ n3_
     have p401 : 0 ≤ (0 : Int):=(by omega)
     have q401 : 0 < (x5_2.length : Int):=of_decide_eq_true (by first|(with_reducible assumption)|assumption)
     obtain ⟨ad401,e401,hx401_0⟩:=Z8 (Z7 HO_5.out).2.2 0 p401 q401
     obtain rfl : ad385 = ad401:=(by injection e401)
     have qi401 : (0 < x5_2.length) = True:=eq_true (by omega)
     (try rw [show ((0 : Int)).toNat = 0 from rfl] at hx401_0)
     (try rw [Addr.add_zero'] at hx401_0)
     replace p401:=eq_true p401
     replace q401:=eq_true q401
     have p402 : 0 ≤ (1 : Int):=(by omega)
     have q402 : 1 < (x5_2.length : Int):=of_decide_eq_true (by first|(with_reducible assumption)|assumption)
     obtain ⟨ad402,e402,hx402_0⟩:=Z8 (Z7 HO_5.out).2.2 1 p402 q402
     obtain rfl : ad385 = ad402:=(by injection e402)
     (try simp only [show (1 : Int).toNat = 1 from rfl,Nat.reduceMul,Nat.reduceEqDiff,Go.Addr.add,↓reduceIte] at hx402_0)
     have qi402 : (1 < x5_2.length) = True:=eq_true (by omega)
     (try rw [show ((1 : Int)).toNat = 1 from rfl] at hx402_0)
     replace p402:=eq_true p402
     replace q402:=eq_true q402
     have p403 : 0 ≤ (2 : Int):=(by omega)
     have q403 : 2 < (x5_2.length : Int):=of_decide_eq_true (by first|(with_reducible assumption)|assumption)
     obtain ⟨ad403,e403,hx403_0⟩:=Z8 (Z7 HO_5.out).2.2 2 p403 q403
     obtain rfl : ad385 = ad403:=(by injection e403)
     (try simp only [show (2 : Int).toNat = 2 from rfl,Nat.reduceMul,Nat.reduceEqDiff,Go.Addr.add,↓reduceIte] at hx403_0)
     have qi403 : (2 < x5_2.length) = True:=eq_true (by omega)
     (try rw [show ((2 : Int)).toNat = 2 from rfl] at hx403_0)
     replace p403:=eq_true p403
     replace q403:=eq_true q403
     have p404 : 0 ≤ (3 : Int):=(by omega)
     have q404 : 3 < (x5_2.length : Int):=of_decide_eq_true (by first|(with_reducible assumption)|assumption)
     obtain ⟨ad404,e404,hx404_0⟩:=Z8 (Z7 HO_5.out).2.2 3 p404 q404
     obtain rfl : ad385 = ad404:=(by injection e404)
     (try simp only [show (3 : Int).toNat = 3 from rfl,Nat.reduceMul,Nat.reduceEqDiff,Go.Addr.add,↓reduceIte] at hx404_0)
     have qi404 : (3 < x5_2.length) = True:=eq_true (by omega)
     (try rw [show ((3 : Int)).toNat = 3 from rfl] at hx404_0)
     replace p404:=eq_true p404
     replace q404:=eq_true q404
     have p405 : 0 ≤ (4 : Int):=(by omega)
     have q405 : 4 < (x5_2.length : Int):=of_decide_eq_true (by first|(with_reducible assumption)|assumption)
     obtain ⟨ad405,e405,hx405_0⟩:=Z8 (Z7 HO_5.out).2.2 4 p405 q405
     obtain rfl : ad385 = ad405:=(by injection e405)
     (try simp only [show (4 : Int).toNat = 4 from rfl,Nat.reduceMul,Nat.reduceEqDiff,Go.Addr.add,↓reduceIte] at hx405_0)
     have qi405 : (4 < x5_2.length) = True:=eq_true (by omega)
     (try rw [show ((4 : Int)).toNat = 4 from rfl] at hx405_0)
     replace p405:=eq_true p405
     replace q405:=eq_true q405
     have p406 : 0 ≤ (5 : Int):=(by omega)
     have q406 : 5 < (x5_2.length : Int):=of_decide_eq_true (by first|(with_reducible assumption)|assumption)
     obtain ⟨ad406,e406,hx406_0⟩:=Z8 (Z7 HO_5.out).2.2 5 p406 q406
     obtain rfl : ad385 = ad406:=(by injection e406)
     (try simp only [show (5 : Int).toNat = 5 from rfl,Nat.reduceMul,Nat.reduceEqDiff,Go.Addr.add,↓reduceIte] at hx406_0)
     have qi406 : (5 < x5_2.length) = True:=eq_true (by omega)
     (try rw [show ((5 : Int)).toNat = 5 from rfl] at hx406_0)
     replace p406:=eq_true p406
     replace q406:=eq_true q406
     have p407 : 0 ≤ (6 : Int):=(by omega)
     have q407 : 6 < (x5_2.length : Int):=of_decide_eq_true (by first|(with_reducible assumption)|assumption)
     obtain ⟨ad407,e407,hx407_0⟩:=Z8 (Z7 HO_5.out).2.2 6 p407 q407
     obtain rfl : ad385 = ad407:=(by injection e407)
     (try simp only [show (6 : Int).toNat = 6 from rfl,Nat.reduceMul,Nat.reduceEqDiff,Go.Addr.add,↓reduceIte] at hx407_0)
     have qi407 : (6 < x5_2.length) = True:=eq_true (by omega)
     (try rw [show ((6 : Int)).toNat = 6 from rfl] at hx407_0)
     replace p407:=eq_true p407
     replace q407:=eq_true q407
     refine start_ (n:=28) (S:=fun w'=>w'.cell? ad385 = some (.int .u32 (rd x5_2 0)) ∧ w'.cell? ⟨ad385.block,ad385.off + 1,none⟩ = some (.int .u32 (rd x5_2 1)) ∧ w'.cell? ⟨ad385.block,ad385.off + 2,none⟩ = some (.int .u32 (rd x5_2 2)) ∧ w'.cell? ⟨ad385.block,ad385.off + 3,none⟩ = some (.int .u32 (rd x5_2 3)) ∧ w'.cell? ⟨ad385.block,ad385.off + 4,none⟩ = some (.int .u32 (rd x5_2 4)) ∧ w'.cell? ⟨ad385.block,ad385.off + 5,none⟩ = some (.int .u32 (rd x5_2 5)) ∧ w'.cell? ⟨ad385.block,ad385.off + 6,none⟩ = some (.int .u32 (rd x5_2 6))) (ds:=[]) #[false,false,false,false,false,false,false,false,false,false,false,false,false,false,false,false,false,false,false,false,false,false,false,false,false,false,false,false] (by kernel_rfl) rfl rfl ⟨hx401_0,hx402_0,hx403_0,hx404_0,hx405_0,hx406_0,hx407_0⟩ (fun hHeld=>?_);refine with_tabW impl_turned.tab14 impl_turned.bits14 (fun HT_ HW_=>?_)
     generalize w37.drew = w38 at HO_5 HO_8 HO_33 HB hx401_0 hx402_0 hx403_0 hx404_0 hx405_0 hx406_0 hx407_0 hHeld ⊢
     refine pure_ (i:=0) (N:=some 106) (v:=?_) (a':=?_) #[true,false,false,false,false,false,false,false,false,false,false,false,false,false,false,false,false,false,false,false,false,false,false,false,false,false,false,false] rfl rfl (Z9 HT_.out (by kernel_rfl)) (fun _ _ _ h=>h) (Or.inl ⟨by rfl,?_⟩) ?_ ?_
     rotate_left
     · intro w'
       go_simp
       with_reducible rfl
     rotate_left
     · simp only [Act.put, Zc, Zd, Ze, Za, Zb]
       rfl
     refine pure_ (i:=1) (N:=some 107) (v:=?_) (a':=?_) #[true,true,false,false,false,false,false,false,false,false,false,false,false,false,false,false,false,false,false,false,false,false,false,false,false,false,false,false] rfl rfl (Z9 HT_.out (by kernel_rfl)) (fun _ _ _ h=>h) (Or.inl ⟨by rfl,?_⟩) ?_ ?_
     rotate_left
     · intro w'
       go_simp
       with_reducible rfl
     rotate_left
     · simp only [Act.put, Zc, Zd, Ze, Za, Zb]
       rfl
     refine pure_ (i:=2) (N:=some 108) (v:=?_) (a':=?_) #[true,true,true,false,false,false,false,false,false,false,false,false,false,false,false,false,false,false,false,false,false,false,false,false,false,false,false,false] rfl rfl (Z9 HT_.out (by kernel_rfl)) (fun _ _ _ h=>h) (Or.inl ⟨by rfl,?_⟩) ?_ ?_
     rotate_left
     · intro w'
       go_simp
       with_reducible rfl
     rotate_left
     · simp only [Act.put, Zc, Zd, Ze, Za, Zb]
       rfl
     refine pure_ (i:=3) (N:=some 109) (v:=?_) (a':=?_) #[true,true,true,true,false,false,false,false,false,false,false,false,false,false,false,false,false,false,false,false,false,false,false,false,false,false,false,false] rfl rfl (Z9 HT_.out (by kernel_rfl)) (fun _ _ _ h=>h) (Or.inl ⟨by rfl,?_⟩) ?_ ?_
     rotate_left
     · intro w'
       go_simp
       with_reducible rfl
     rotate_left
     · simp only [Act.put, Zc, Zd, Ze, Za, Zb]
       rfl
     refine pure_ (i:=4) (N:=some 110) (v:=?_) (a':=?_) #[true,true,true,true,true,false,false,false,false,false,false,false,false,false,false,false,false,false,false,false,false,false,false,false,false,false,false,false] rfl rfl (Z9 HT_.out (by kernel_rfl)) (fun _ _ _ h=>h) (Or.inl ⟨by rfl,?_⟩) ?_ ?_
     rotate_left
     · intro w'
       go_simp
       with_reducible rfl
     rotate_left
     · simp only [Act.put, Zc, Zd, Ze, Za, Zb]
       rfl
     refine pure_ (i:=6) (N:=some 112) (v:=?_) (a':=?_) #[true,true,true,true,true,false,true,false,false,false,false,false,false,false,false,false,false,false,false,false,false,false,false,false,false,false,false,false] rfl rfl (Z9 HT_.out (by kernel_rfl)) (fun _ _ _ h=>h) (Or.inl ⟨by rfl,?_⟩) ?_ ?_
     rotate_left
     · intro w'
       go_simp
       with_reducible rfl
     rotate_left
     · simp only [Act.put, Zc, Zd, Ze, Za, Zb]
       rfl
     refine pure_ (i:=7) (N:=some 113) (v:=?_) (a':=?_) #[true,true,true,true,true,false,true,true,false,false,false,false,false,false,false,false,false,false,false,false,false,false,false,false,false,false,false,false] rfl rfl (Z9 HT_.out (by kernel_rfl)) (fun _ _ _ h=>h) (Or.inl ⟨by rfl,?_⟩) ?_ ?_
     rotate_left
     · intro w'
       go_simp
       with_reducible rfl
     rotate_left
     · simp only [Act.put, Zc, Zd, Ze, Za, Zb]
       rfl
     refine pure_ (i:=9) (N:=some 115) (v:=?_) (a':=?_) #[true,true,true,true,true,false,true,true,false,true,false,false,false,false,false,false,false,false,false,false,false,false,false,false,false,false,false,false] rfl rfl (Z9 HT_.out (by kernel_rfl)) (fun _ _ _ h=>h) (Or.inl ⟨by rfl,?_⟩) ?_ ?_
     rotate_left
     · intro w'
       go_simp
       with_reducible rfl
     rotate_left
     · simp only [Act.put, Zc, Zd, Ze, Za, Zb]
       rfl
     refine pure_ (i:=10) (N:=some 116) (v:=?_) (a':=?_) #[true,true,true,true,true,false,true,true,false,true,true,false,false,false,false,false,false,false,false,false,false,false,false,false,false,false,false,false] rfl rfl (Z9 HT_.out (by kernel_rfl)) (fun _ _ _ h=>h) (Or.inl ⟨by rfl,?_⟩) ?_ ?_
     rotate_left
     · intro w'
       go_simp
       with_reducible rfl
     rotate_left
     · simp only [Act.put, Zc, Zd, Ze, Za, Zb]
       rfl
     refine pure_ (i:=12) (N:=some 118) (v:=?_) (a':=?_) #[true,true,true,true,true,false,true,true,false,true,true,false,true,false,false,false,false,false,false,false,false,false,false,false,false,false,false,false] rfl rfl (Z9 HT_.out (by kernel_rfl)) (fun _ _ _ h=>h) (Or.inl ⟨by rfl,?_⟩) ?_ ?_
     rotate_left
     · intro w'
       go_simp
       with_reducible rfl
     rotate_left
     · simp only [Act.put, Zc, Zd, Ze, Za, Zb]
       rfl
     refine pure_ (i:=13) (N:=some 119) (v:=?_) (a':=?_) #[true,true,true,true,true,false,true,true,false,true,true,false,true,true,false,false,false,false,false,false,false,false,false,false,false,false,false,false] rfl rfl (Z9 HT_.out (by kernel_rfl)) (fun _ _ _ h=>h) (Or.inl ⟨by rfl,?_⟩) ?_ ?_
     rotate_left
     · intro w'
       go_simp
       with_reducible rfl
     rotate_left
     · simp only [Act.put, Zc, Zd, Ze, Za, Zb]
       rfl
     refine pure_ (i:=15) (N:=some 121) (v:=?_) (a':=?_) #[true,true,true,true,true,false,true,true,false,true,true,false,true,true,false,true,false,false,false,false,false,false,false,false,false,false,false,false] rfl rfl (Z9 HT_.out (by kernel_rfl)) (fun _ _ _ h=>h) (Or.inl ⟨by rfl,?_⟩) ?_ ?_
     rotate_left
     · intro w'
       go_simp
       with_reducible rfl
     rotate_left
     · simp only [Act.put, Zc, Zd, Ze, Za, Zb]
       rfl
     refine pure_ (i:=17) (N:=some 123) (v:=?_) (a':=?_) #[true,true,true,true,true,false,true,true,false,true,true,false,true,true,false,true,false,true,false,false,false,false,false,false,false,false,false,false] rfl rfl (Z9 HT_.out (by kernel_rfl)) (fun _ _ _ h=>h) (Or.inl ⟨by rfl,?_⟩) ?_ ?_
     rotate_left
     · intro w'
       go_simp
       with_reducible rfl
     rotate_left
     · simp only [Act.put, Zc, Zd, Ze, Za, Zb]
       rfl
     refine pure_ (i:=18) (N:=some 124) (v:=?_) (a':=?_) #[true,true,true,true,true,false,true,true,false,true,true,false,true,true,false,true,false,true,true,false,false,false,false,false,false,false,false,false] rfl rfl (Z9 HT_.out (by kernel_rfl)) (fun _ _ _ h=>h) (Or.inl ⟨by rfl,?_⟩) ?_ ?_
     rotate_left
     · intro w'
       go_simp
       with_reducible rfl
     rotate_left
     · simp only [Act.put, Zc, Zd, Ze, Za, Zb]
       rfl
     refine pure_ (i:=20) (N:=some 126) (v:=?_) (a':=?_) #[true,true,true,true,true,false,true,true,false,true,true,false,true,true,false,true,false,true,true,false,true,false,false,false,false,false,false,false] rfl rfl (Z9 HT_.out (by kernel_rfl)) (fun _ _ _ h=>h) (Or.inl ⟨by rfl,?_⟩) ?_ ?_
     rotate_left
     · intro w'
       go_simp
       with_reducible rfl
     rotate_left
     · simp only [Act.put, Zc, Zd, Ze, Za, Zb]
       rfl
     refine pure_ (i:=21) (N:=some 127) (v:=?_) (a':=?_) #[true,true,true,true,true,false,true,true,false,true,true,false,true,true,false,true,false,true,true,false,true,true,false,false,false,false,false,false] rfl rfl (Z9 HT_.out (by kernel_rfl)) (fun _ _ _ h=>h) (Or.inl ⟨by rfl,?_⟩) ?_ ?_
     rotate_left
     · intro w'
       go_simp
       with_reducible rfl
     rotate_left
     · simp only [Act.put, Zc, Zd, Ze, Za, Zb]
       rfl
     refine pure_ (i:=23) (N:=some 129) (v:=?_) (a':=?_) #[true,true,true,true,true,false,true,true,false,true,true,false,true,true,false,true,false,true,true,false,true,true,false,true,false,false,false,false] rfl rfl (Z9 HT_.out (by kernel_rfl)) (fun _ _ _ h=>h) (Or.inl ⟨by rfl,?_⟩) ?_ ?_
     rotate_left
     · intro w'
       go_simp
       with_reducible rfl
     rotate_left
     · simp only [Act.put, Zc, Zd, Ze, Za, Zb]
       rfl
     refine pure_ (i:=24) (N:=some 130) (v:=?_) (a':=?_) #[true,true,true,true,true,false,true,true,false,true,true,false,true,true,false,true,false,true,true,false,true,true,false,true,true,false,false,false] rfl rfl (Z9 HT_.out (by kernel_rfl)) (fun _ _ _ h=>h) (Or.inl ⟨by rfl,?_⟩) ?_ ?_
     rotate_left
     · intro w'
       go_simp
       with_reducible rfl
     rotate_left
     · simp only [Act.put, Zc, Zd, Ze, Za, Zb]
       rfl
     refine take_ (i:=5) (N:=some 111) (v:=?_) (a':=?_) #[true,true,true,true,true,true,true,true,false,true,true,false,true,true,false,true,false,true,true,false,true,true,false,true,true,false,false,false] rfl rfl (take_ofW HT_.out HW_.out (by kernel_rfl)) (fun _ _ _ h=>h) (Or.inl ⟨by rfl,?_⟩) hHeld ?_ ?_
     rotate_left
     · rintro w' ⟨s0, s1, s2, s3, s4, s5, s6⟩
       go_simp
       with_reducible rfl
     rotate_left
     · simp only [Act.put, Zc, Zd, Ze, Za, Zb]
       rfl
     refine take_ (i:=8) (N:=some 114) (v:=?_) (a':=?_) #[true,true,true,true,true,true,true,true,true,true,true,false,true,true,false,true,false,true,true,false,true,true,false,true,true,false,false,false] rfl rfl (take_ofW HT_.out HW_.out (by kernel_rfl)) (fun _ _ _ h=>h) (Or.inl ⟨by rfl,?_⟩) hHeld ?_ ?_
     rotate_left
     · rintro w' ⟨s0, s1, s2, s3, s4, s5, s6⟩
       go_simp
       with_reducible rfl
     rotate_left
     · simp only [Act.put, Zc, Zd, Ze, Za, Zb]
       rfl
     refine take_ (i:=11) (N:=some 117) (v:=?_) (a':=?_) #[true,true,true,true,true,true,true,true,true,true,true,true,true,true,false,true,false,true,true,false,true,true,false,true,true,false,false,false] rfl rfl (take_ofW HT_.out HW_.out (by kernel_rfl)) (fun _ _ _ h=>h) (Or.inl ⟨by rfl,?_⟩) hHeld ?_ ?_
     rotate_left
     · rintro w' ⟨s0, s1, s2, s3, s4, s5, s6⟩
       go_simp
       with_reducible rfl
     rotate_left
     · simp only [Act.put, Zc, Zd, Ze, Za, Zb]
       rfl
     refine take_ (i:=14) (N:=some 120) (v:=?_) (a':=?_) #[true,true,true,true,true,true,true,true,true,true,true,true,true,true,true,true,false,true,true,false,true,true,false,true,true,false,false,false] rfl rfl (take_ofW HT_.out HW_.out (by kernel_rfl)) (fun _ _ _ h=>h) (Or.inl ⟨by rfl,?_⟩) hHeld ?_ ?_
     rotate_left
     · rintro w' ⟨s0, s1, s2, s3, s4, s5, s6⟩
       go_simp
       with_reducible rfl
     rotate_left
     · simp only [Act.put, Zc, Zd, Ze, Za, Zb]
       rfl
     refine pure_ (i:=16) (N:=some 122) (v:=?_) (a':=?_) #[true,true,true,true,true,true,true,true,true,true,true,true,true,true,true,true,true,true,true,false,true,true,false,true,true,false,false,false] rfl rfl (Z9 HT_.out (by kernel_rfl)) (fun _ _ _ h=>h) (Or.inl ⟨by rfl,?_⟩) ?_ ?_
     rotate_left
     · intro w'
       go_simp
       with_reducible rfl
     rotate_left
     · simp only [Act.put, Zc, Zd, Ze, Za, Zb]
       rfl
     refine take_ (i:=19) (N:=some 125) (v:=?_) (a':=?_) #[true,true,true,true,true,true,true,true,true,true,true,true,true,true,true,true,true,true,true,true,true,true,false,true,true,false,false,false] rfl rfl (take_ofW HT_.out HW_.out (by kernel_rfl)) (fun _ _ _ h=>h) (Or.inl ⟨by rfl,?_⟩) hHeld ?_ ?_
     rotate_left
     · rintro w' ⟨s0, s1, s2, s3, s4, s5, s6⟩
       go_simp
       with_reducible rfl
     rotate_left
     · simp only [Act.put, Zc, Zd, Ze, Za, Zb]
       rfl
     refine take_ (i:=22) (N:=some 128) (v:=?_) (a':=?_) #[true,true,true,true,true,true,true,true,true,true,true,true,true,true,true,true,true,true,true,true,true,true,true,true,true,false,false,false] rfl rfl (take_ofW HT_.out HW_.out (by kernel_rfl)) (fun _ _ _ h=>h) (Or.inl ⟨by rfl,?_⟩) hHeld ?_ ?_
     rotate_left
     · rintro w' ⟨s0, s1, s2, s3, s4, s5, s6⟩
       go_simp
       with_reducible rfl
     rotate_left
     · simp only [Act.put, Zc, Zd, Ze, Za, Zb]
       rfl
     refine take_ (i:=25) (N:=some 131) (v:=?_) (a':=?_) #[true,true,true,true,true,true,true,true,true,true,true,true,true,true,true,true,true,true,true,true,true,true,true,true,true,true,false,false] rfl rfl (take_ofW HT_.out HW_.out (by kernel_rfl)) (fun _ _ _ h=>h) (Or.inl ⟨by rfl,?_⟩) hHeld ?_ ?_
     rotate_left
     · rintro w' ⟨s0, s1, s2, s3, s4, s5, s6⟩
       go_simp
       with_reducible rfl
     rotate_left
     · simp only [Act.put, Zc, Zd, Ze, Za, Zb]
       rfl
     refine one_ (i:=26) (N:=some 132) #[true,true,true,true,true,true,true,true,true,true,true,true,true,true,true,true,true,true,true,true,true,true,true,true,true,true,true,false] rfl rfl (one_of HT_.out (by kernel_rfl)) (by decide) (fun K hK=>?_)
     refine Kd.R_lit_step (Kd.int .u32) _ 46 ?hg (N:=132) ?hd (xs:=([((((((rd x5_2 7) + (Go.bits .xor .u32 (Go.bits .xor .u32 t388 t389) t390)) + (Go.bits .xor .u32 (Go.bits .and .u32 (rd x5_2 4) (rd x5_2 5)) (Go.bits .and .u32 (Go.bits .xor .u32 IntKind.u32.max (rd x5_2 4)) (rd x5_2 6)))) + (rd t378 x35_2)) + (rd t381 x35_2)) + ((Go.bits .xor .u32 (Go.bits .xor .u32 t394 t395) t396) + (Go.bits .xor .u32 (Go.bits .xor .u32 (Go.bits .and .u32 (rd x5_2 0) (rd x5_2 1)) (Go.bits .and .u32 (rd x5_2 0) (rd x5_2 2))) (Go.bits .and .u32 (rd x5_2 1) (rd x5_2 2))))) % 4294967296,rd x5_2 0,rd x5_2 1,rd x5_2 2,((rd x5_2 3) + (((((rd x5_2 7) + (Go.bits .xor .u32 (Go.bits .xor .u32 t388 t389) t390)) + (Go.bits .xor .u32 (Go.bits .and .u32 (rd x5_2 4) (rd x5_2 5)) (Go.bits .and .u32 (Go.bits .xor .u32 IntKind.u32.max (rd x5_2 4)) (rd x5_2 6)))) + (rd t378 x35_2)) + (rd t381 x35_2))) % 4294967296,rd x5_2 4,rd x5_2 5,rd x5_2 6] : List Int)) (inner:=[.int .u32 (((((((rd x5_2 7) + (Go.bits .xor .u32 (Go.bits .xor .u32 t388 t389) t390)) + (Go.bits .xor .u32 (Go.bits .and .u32 (rd x5_2 4) (rd x5_2 5)) (Go.bits .and .u32 (Go.bits .xor .u32 IntKind.u32.max (rd x5_2 4)) (rd x5_2 6)))) + (rd t378 x35_2)) + (rd t381 x35_2)) + ((Go.bits .xor .u32 (Go.bits .xor .u32 t394 t395) t396) + (Go.bits .xor .u32 (Go.bits .xor .u32 (Go.bits .and .u32 (rd x5_2 0) (rd x5_2 1)) (Go.bits .and .u32 (rd x5_2 0) (rd x5_2 2))) (Go.bits .and .u32 (rd x5_2 1) (rd x5_2 2))))) % 4294967296),.int .u32 (rd x5_2 0),.int .u32 (rd x5_2 1),.int .u32 (rd x5_2 2),.int .u32 (((rd x5_2 3) + (((((rd x5_2 7) + (Go.bits .xor .u32 (Go.bits .xor .u32 t388 t389) t390)) + (Go.bits .xor .u32 (Go.bits .and .u32 (rd x5_2 4) (rd x5_2 5)) (Go.bits .and .u32 (Go.bits .xor .u32 IntKind.u32.max (rd x5_2 4)) (rd x5_2 6)))) + (rd t378 x35_2)) + (rd t381 x35_2))) % 4294967296),.int .u32 (rd x5_2 4),.int .u32 (rd x5_2 5),.int .u32 (rd x5_2 6)]) (ok:=fun _=>True) (okp:=fun _=>True) ?hr ?hp (fun _ hk=>hk) trivial (Below.refl _ _) (Zl _) (by simp) ?_;(case hd=>rfl);(case hg=>rfl);(case hr=>first|(go_simp;done)|(go_simp;rfl)|(go_simp;simp [IntKind.wrap_u32];done)|(go_simp;simp only [IntKind.wrap_u32,Int.emod_add_emod,Int.add_emod_emod];done)|(go_simp;simp only [IntKind.wrap_u32,Int.emod_add_emod,Int.add_emod_emod];rfl));(case hp=>exact (Reps.one (show Kd.M (Kd.int .u32) _ _ _ (((((((rd x5_2 7) + (Go.bits .xor .u32 (Go.bits .xor .u32 t388 t389) t390)) + (Go.bits .xor .u32 (Go.bits .and .u32 (rd x5_2 4) (rd x5_2 5)) (Go.bits .and .u32 (Go.bits .xor .u32 IntKind.u32.max (rd x5_2 4)) (rd x5_2 6)))) + (rd t378 x35_2)) + (rd t381 x35_2)) + ((Go.bits .xor .u32 (Go.bits .xor .u32 t394 t395) t396) + (Go.bits .xor .u32 (Go.bits .xor .u32 (Go.bits .and .u32 (rd x5_2 0) (rd x5_2 1)) (Go.bits .and .u32 (rd x5_2 0) (rd x5_2 2))) (Go.bits .and .u32 (rd x5_2 1) (rd x5_2 2))))) % 4294967296) [.int .u32 (((((((rd x5_2 7) + (Go.bits .xor .u32 (Go.bits .xor .u32 t388 t389) t390)) + (Go.bits .xor .u32 (Go.bits .and .u32 (rd x5_2 4) (rd x5_2 5)) (Go.bits .and .u32 (Go.bits .xor .u32 IntKind.u32.max (rd x5_2 4)) (rd x5_2 6)))) + (rd t378 x35_2)) + (rd t381 x35_2)) + ((Go.bits .xor .u32 (Go.bits .xor .u32 t394 t395) t396) + (Go.bits .xor .u32 (Go.bits .xor .u32 (Go.bits .and .u32 (rd x5_2 0) (rd x5_2 1)) (Go.bits .and .u32 (rd x5_2 0) (rd x5_2 2))) (Go.bits .and .u32 (rd x5_2 1) (rd x5_2 2))))) % 4294967296)] from rfl) (Reps.one (show Kd.M (Kd.int .u32) _ _ _ (rd x5_2 0) [.int .u32 (rd x5_2 0)] from rfl) (Reps.one (show Kd.M (Kd.int .u32) _ _ _ (rd x5_2 1) [.int .u32 (rd x5_2 1)] from rfl) (Reps.one (show Kd.M (Kd.int .u32) _ _ _ (rd x5_2 2) [.int .u32 (rd x5_2 2)] from rfl) (Reps.one (show Kd.M (Kd.int .u32) _ _ _ (((rd x5_2 3) + (((((rd x5_2 7) + (Go.bits .xor .u32 (Go.bits .xor .u32 t388 t389) t390)) + (Go.bits .xor .u32 (Go.bits .and .u32 (rd x5_2 4) (rd x5_2 5)) (Go.bits .and .u32 (Go.bits .xor .u32 IntKind.u32.max (rd x5_2 4)) (rd x5_2 6)))) + (rd t378 x35_2)) + (rd t381 x35_2))) % 4294967296) [.int .u32 (((rd x5_2 3) + (((((rd x5_2 7) + (Go.bits .xor .u32 (Go.bits .xor .u32 t388 t389) t390)) + (Go.bits .xor .u32 (Go.bits .and .u32 (rd x5_2 4) (rd x5_2 5)) (Go.bits .and .u32 (Go.bits .xor .u32 IntKind.u32.max (rd x5_2 4)) (rd x5_2 6)))) + (rd t378 x35_2)) + (rd t381 x35_2))) % 4294967296)] from rfl) (Reps.one (show Kd.M (Kd.int .u32) _ _ _ (rd x5_2 4) [.int .u32 (rd x5_2 4)] from rfl) (Reps.one (show Kd.M (Kd.int .u32) _ _ _ (rd x5_2 5) [.int .u32 (rd x5_2 5)] from rfl) (Reps.one (show Kd.M (Kd.int .u32) _ _ _ (rd x5_2 6) [.int .u32 (rd x5_2 6)] from rfl) (Reps.none _ _))))))))))
     intro v409 w39 ho40 hb hg_ hnew_
     have HS0_:=(hb.cell (World.block_lt_of_cell? _ _ (hHeld.1))).trans (hHeld.1)
     have HS1_:=(hb.cell (World.block_lt_of_cell? _ _ (hHeld.2.1))).trans (hHeld.2.1)
     have HS2_:=(hb.cell (World.block_lt_of_cell? _ _ (hHeld.2.2.1))).trans (hHeld.2.2.1)
     have HS3_:=(hb.cell (World.block_lt_of_cell? _ _ (hHeld.2.2.2.1))).trans (hHeld.2.2.2.1)
     have HS4_:=(hb.cell (World.block_lt_of_cell? _ _ (hHeld.2.2.2.2.1))).trans (hHeld.2.2.2.2.1)
     have HS5_:=(hb.cell (World.block_lt_of_cell? _ _ (hHeld.2.2.2.2.2.1))).trans (hHeld.2.2.2.2.2.1)
     have HS6_:=(hb.cell (World.block_lt_of_cell? _ _ (hHeld.2.2.2.2.2.2))).trans (hHeld.2.2.2.2.2.2)
     clear hg_ hnew_
     (first|rw [← Ny408.out] at ho40|(simp only [Int.reduceToNat] at ho40;rw [← Ny408.out] at ho40))
     have n0_:=Z0 (Kd.R_elder' (by (with_reducible repeat (first|apply Z3|apply Z2|apply Z4));exact HO_5.out) (Kd.R_base ho40) hb)
     have n1_:=Z0 (Kd.R_elder' (by (with_reducible repeat (first|apply Z3|apply Z2|apply Z4));exact HO_8.out) (Kd.R_base ho40) hb)
     have n2_:=Z0 (Kd.R_elder' (by (with_reducible repeat (first|apply Z3|apply Z2|apply Z4));exact HO_33.out) (Kd.R_base ho40) hb)
     have n3_:=Z0 (Kd.R_lower (Kd.R_new' (Kd.R_new' (Kd.R_new' ho40 (Kd.R_lt (by (with_reducible repeat (first|apply Z3|apply Z2|apply Z4));exact HO_5.out))) (Kd.R_lt (by (with_reducible repeat (first|apply Z3|apply Z2|apply Z4));exact HO_8.out))) (Kd.R_lt (by (with_reducible repeat (first|apply Z3|apply Z2|apply Z4));exact HO_33.out))) (below_size (by repeat (first|(with_reducible first|exact HB.out|apply Z6|apply Z1|apply Z5)|exact HB.out))))
     have n4_:=Z0 (below_step (by repeat (first|(with_reducible first|exact HB.out|apply Z6|apply Z1|apply Z5)|exact HB.out)) hb)
     clear HO_5
     clear HO_8
     clear HO_33
     clear HB
     have HO_5:=n0_
     have HO_8:=n1_
     have HO_33:=n2_
     have HO410:=n3_
     have HB:=n4_
     clear n0_ n1_ n2_ n3_ n4_
     clear hb ho40
     refine hK.out _ _ ⟨HS0_,HS1_,HS2_,HS3_,HS4_,HS5_,HS6_⟩ (fun hHeld=>?_)
     clear hK K
     refine norm_ (a':=?_) ?_ ?_
     rotate_left
     · show Act.put _ (some 132) _ = _
       simp only [Act.put,Zc,Zd,Ze,Za,Zb]
       rfl
     refine pure_ (i:=27) (N:=some 5) (v:=?_) (a':=?_) #[true,true,true,true,true,true,true,true,true,true,true,true,true,true,true,true,true,true,true,true,true,true,true,true,true,true,true,true] rfl rfl (Z9 HT_.out (by kernel_rfl)) (fun _ _ _ h=>h) (Or.inl ⟨by rfl,?_⟩) ?_ ?_
     rotate_left
     · intro w'
       go_simp
       with_reducible rfl
     rotate_left
     · simp only [Act.put, Zc, Zd, Ze, Za, Zb]
       rfl
     refine done_ (done_of HT_.out (by kernel_rfl)) ?_
     try go_wp2
     go_roundg k2
     case measure=>have:=HK1.out;have:=HK2.out;omega
     case rel=>exact ⟨(y408),(wrap64 (x35_2 + 1)),(by first|rfl|(simp;done)|(simp [*];done)),H',⟨by have:=HK1.out;have:=HK2.out;omega⟩,⟨by (with_reducible repeat (first|apply Z3|apply Z2|apply Z4));exact Kd.R_mono HO410.out (fun _ hk=>⟨hk.1.2,hk.2⟩)⟩,⟨by (with_reducible repeat (first|apply Z3|apply Z2|apply Z4));exact Kd.R_mono HO_8.out (fun _ hk=>⟨hk.2,hk.1.2⟩)⟩,⟨by (with_reducible repeat (first|apply Z3|apply Z2|apply Z4));exact Kd.R_mono HO_33.out (fun _ hk=>⟨hk.2,hk.1.2⟩)⟩,⟨by repeat (first|(with_reducible first|exact HB.out|apply Z6|apply Z1|apply Z5)|exact HB.out)⟩⟩

end Go.Proofs.Ytpkfmjdmfphbaag.QFnExactMac
