/- Plain functions with the same answers as the program's, and the proofs that they are. Printed by a program of this session (wip/myprint.py) out of Lean's print of the loaded program. Conditions: those in each theorem's head. -/
import Derived.Test.YtpkfmjdmfphbaagQFnExactMacx0
import Derived.Test.YtpkfmjdmfphbaagQFnExactMacx1
import Derived.Test.YtpkfmjdmfphbaagQFnExactMacx2
import Derived.Test.YtpkfmjdmfphbaagQFnExactMacx3
import Derived.Test.YtpkfmjdmfphbaagQFnExactMacx4
namespace Go.Proofs.Ytpkfmjdmfphbaag.QFnExactMac
open Go.RowKit Go.Proofs.Ytpkfmjdmfphbaag.Given Go.Proofs.YtpkfmjdmfphbaagW.PrintWords Go.Proofs.YtpkfmjdmfphbaagW.PrintLast Go.Proofs.YtpkfmjdmfphbaagW.PrintMore
open Go.Proofs.YtpkfmjdmfphbaagW.PrintWords.Aside0 renaming mk → Z0
open Go.Proofs.YtpkfmjdmfphbaagW.PrintWords renaming pw_below_drewN → Z1, below_drew1 → Z5, below_alloc → Z6, below_set → Z7, blk_drewN → Z9, blk_alloc → Za, blk_drew → Zb, below_size → Zc, blk_cell → Zj, below_step → Zl, blk_frozen → Zm, gate_callee → Zo, gate_builtin → Zp
open Go.Proofs.YtpkfmjdmfphbaagW.PrintWords.Kd renaming R_drewN → Z2, R_alloc → Z3, R_drew → Z4, R_reads' → Z8, C_drewN → Zd, C_alloc → Ze, C_drew → Zf, R_elder' → Zg, R_new' → Zh, R_base → Zi, R_lt → Zk, R_lower → Zn, R_mono → Zq, C_below → Zr
open List renaming setIfInBounds_toArray → Zs, set_cons_zero → Zt, set_cons_succ → Zu, length_drop → Zw, length_take → Zx, map_toArray → Zy, map_cons → Zz, map_nil → ZZ36
open Option renaming bind_some → Zv
open Nat renaming le_refl → ZZ37
open Go.RowKit.Below renaming refl → ZZ38
attribute [local go_sem] max2_int min2_int max_two min_two max_three min_three max_four min_four   -- for this text's walks alone
set_option linter.unusedVariables false
set_option linter.unusedSimpArgs false

/-! ### spec_SumAdd: function 15 -/
mutual
def spec_SumAdd.j0 : Nat → List Int → Bool → List Int → Int → List Int → List Int → Int → List Int → Option (List Int × Int × List Int)
 | 0, _, _, _, _, _, _, _, _ => none
 | k + 1, x1, x20, x221000, x221001, x221002, x230000, x230001, x230002 => if x20 = true then (some (x230000, x230001, x230002)) else ((some (([] : List Int) : List Int)).bind fun y231 => (if y231.length + x221002.length < 140737488355328 then ((some (y231 ++ x221002 : List Int)).bind fun y234 => (if y234.length + x1.length < 140737488355328 then (spec_SumAdd.l0 k x1 (y234 ++ x1) 0 x221000 x221001 x221002 x230000 x230001 x230002) else (none))) else (none)))
def spec_SumAdd.l0 : Nat → List Int → List Int → Int → List Int → Int → List Int → List Int → Int → List Int → Option (List Int × Int × List Int)
 | 0, _, _, _, _, _, _, _, _, _ => none
 | k + 1, x1, x6, x7, x221000, x221001, x221002, x230000, x230001, x230002 => if (wrap64 ((x6.length : Int) - x7)) ≥ 64 then (if 0 ≤ x7 then (if x7 ≤ (wrap64 (x7 + 64)) then (if (wrap64 (x7 + 64)) ≤ (x6.length : Int) then ((spec_l7Block.f k x230000 ((x6.take ((wrap64 (x7 + 64)) : Int).toNat).drop (x7 : Int).toNat)).bind fun t244 => (spec_SumAdd.l0 k x1 x6 (wrap64 (x7 + 64)) x221000 x221001 x221002 t244 x230001 x230002)) else (none)) else (none)) else (none)) else ((some (([] : List Int) : List Int)).bind fun y247 => (if 0 ≤ x7 then (if x7 ≤ (x6.length : Int) then ((some (x6.drop (x7 : Int).toNat : List Int)).bind fun y250 => (if y247.length + y250.length < 140737488355328 then (some (x230000, wrap64 (x221001 + (x1.length : Int)), (y247 ++ y250))) else (none))) else (none)) else (none)))
end
def spec_SumAdd.f (k : Nat) (l0_0 : List Int) (a0_1 : Int) (l0_2 : List Int) (l1 : List Int) : Option (List Int × Int × List Int) := (spec_l7Copy.f l0_0 a0_1 l0_2).bind fun bt222 => ((spec_SumOk.f k l0_0 a0_1 l0_2).bind fun t230 => (if t230 = true then (spec_SumAdd.j0 k l1 (decide ((l1.length : Int) > (wrap64 (2147483647 - a0_1)))) l0_0 a0_1 l0_2 bt222.1 bt222.2.1 bt222.2.2) else (spec_SumAdd.j0 k l1 true l0_0 a0_1 l0_2 bt222.1 bt222.2.1 bt222.2.2)))
theorem spec_SumAdd.mono_l : ∀ k, (∀ y0 y1 y2 y3 y4 y5 y6 y7, LeO (spec_SumAdd.j0 k y0 y1 y2 y3 y4 y5 y6 y7) (spec_SumAdd.j0 (k + 1) y0 y1 y2 y3 y4 y5 y6 y7)) ∧ (∀ y0 y1 y2 y3 y4 y5 y6 y7 y8, LeO (spec_SumAdd.l0 k y0 y1 y2 y3 y4 y5 y6 y7 y8) (spec_SumAdd.l0 (k + 1) y0 y1 y2 y3 y4 y5 y6 y7 y8))
 | 0 => ⟨fun _ _ _ _ _ _ _ _ r h => by simp [spec_SumAdd.j0] at h, fun _ _ _ _ _ _ _ _ _ r h => by simp [spec_SumAdd.l0] at h⟩
 | k + 1 => by
  obtain ⟨ih0,ih1⟩:=spec_SumAdd.mono_l k
  refine ⟨?_,?_⟩
  · intro y0 y1 y2 y3 y4 y5 y6 y7
    unfold spec_SumAdd.j0
    repeat' first
    | (with_reducible exact ih0 _ _ _ _ _ _ _ _)
    | (with_reducible exact ih1 _ _ _ _ _ _ _ _ _)
    | (with_reducible exact spec_SumOk.mono _ _ _ _)
    | (with_reducible exact spec_l7Block.mono _ _ _)
    | (with_reducible exact LeO.refl _)
    | (with_reducible exact LeO.none _)
    | (with_reducible refine LeO.ite ?_ ?_)
    | (with_reducible refine LeO.bind ?_ (fun _=>?_))
    | exact ih0 _ _ _ _ _ _ _ _
    | exact ih1 _ _ _ _ _ _ _ _ _
    | exact spec_SumOk.mono _ _ _ _
    | exact spec_l7Block.mono _ _ _
    | exact LeO.none _
    | refine LeO.ite ?_ ?_
    | refine LeO.bind ?_ (fun _=>?_)
  · intro y0 y1 y2 y3 y4 y5 y6 y7 y8
    unfold spec_SumAdd.l0
    repeat' first
    | (with_reducible exact ih0 _ _ _ _ _ _ _ _)
    | (with_reducible exact ih1 _ _ _ _ _ _ _ _ _)
    | (with_reducible exact spec_SumOk.mono _ _ _ _)
    | (with_reducible exact spec_l7Block.mono _ _ _)
    | (with_reducible exact LeO.refl _)
    | (with_reducible exact LeO.none _)
    | (with_reducible refine LeO.ite ?_ ?_)
    | (with_reducible refine LeO.bind ?_ (fun _=>?_))
    | exact ih0 _ _ _ _ _ _ _ _
    | exact ih1 _ _ _ _ _ _ _ _ _
    | exact spec_SumOk.mono _ _ _ _
    | exact spec_l7Block.mono _ _ _
    | exact LeO.none _
    | refine LeO.ite ?_ ?_
    | refine LeO.bind ?_ (fun _=>?_)
theorem spec_SumAdd.mono : ∀ a0 a1 a2 a3 k, LeO (spec_SumAdd.f k a0 a1 a2 a3) (spec_SumAdd.f (k + 1) a0 a1 a2 a3) := by
 intro a0 a1 a2 a3 k
 obtain ⟨ih0,ih1⟩:=spec_SumAdd.mono_l k
 unfold spec_SumAdd.f
 repeat' first
  | (with_reducible exact ih0 _ _ _ _ _ _ _ _)
  | (with_reducible exact ih1 _ _ _ _ _ _ _ _ _)
  | (with_reducible exact spec_SumOk.mono _ _ _ _)
  | (with_reducible exact spec_l7Block.mono _ _ _)
  | (with_reducible exact LeO.refl _)
  | (with_reducible exact LeO.none _)
  | (with_reducible refine LeO.ite ?_ ?_)
  | (with_reducible refine LeO.bind ?_ (fun _=>?_))
  | exact ih0 _ _ _ _ _ _ _ _
  | exact ih1 _ _ _ _ _ _ _ _ _
  | exact spec_SumOk.mono _ _ _ _
  | exact spec_l7Block.mono _ _ _
  | exact LeO.none _
  | refine LeO.ite ?_ ?_
  | refine LeO.bind ?_ (fun _=>?_)
def spec_SumAdd.T7 : Bool × List (List Nat × List Nat) := (true, [([], []), ([0], [0]), ([], []), ([], []), ([], []), ([4], [4]), ([2, 3, 5], [2, 3, 5]), ([1, 6], [1, 6]), ([0, 1, 2, 3, 4, 5, 6, 7], []), ([8, 7, 7, 0, 1, 2, 3, 4, 5, 6, 7], [7, 8])])
def spec_SumAdd.B7 : List Nat := [0, 1, 0, 0, 0, 16, 60, 127, 255, 511]
theorem spec_SumAdd.tab7 : rtab .any (opsOf Try.f15 7) = spec_SumAdd.T7 := by kernel_rfl
theorem spec_SumAdd.bits7 : waitsOk spec_SumAdd.T7.2 spec_SumAdd.B7 = true := by kernel_rfl
set_option maxHeartbeats 8000000 in
set_option maxRecDepth 100000 in
theorem spec_SumAdd.calls (k : Nat) (A0_0 : Option Addr) (c0_0 : Nat) (l0_0 : List Int) (a0_1 : Int) (A0_2 : Option Addr) (c0_2 : Nat) (l0_2 : List Int) (A1 : Option Addr) (c1 : Nat) (l1 : List Int) (r1 : List Int) (r2 : Int) (r3 : List Int) (w : World) (hr0_0 : Kd.C (Kd.int .i64) w A0_0 l0_0.length l0_0) (hc0_0 : l0_0.length ≤ c0_0) (hr0_2 : Kd.C (Kd.int .u8) w A0_2 l0_2.length l0_2) (hc0_2 : l0_2.length ≤ c0_2) (hr1 : Kd.C (Kd.int .u8) w A1 l1.length l1) (hc1 : l1.length ≤ c1) (h : spec_SumAdd.f k l0_0 a0_1 l0_2 l1 = some (r1, r2, r3)) :
 Calls Try.prog 15 #[.agg #[.slice A0_0 l0_0.length c0_0, .int .i64 a0_1, .slice A0_2 l0_2.length c0_2], .slice A1 l1.length c1] w fun e w' => ∃ v0_ v2_ : Value, e = .returned (.agg #[v0_, .int .i64 r2, v2_]) ∧ Kd.R (Kd.int .i64) 3 w' w.heap.size (fun _ => True) v0_ r1 ∧ Kd.R (Kd.int .u8) 5 w' w.heap.size (fun _ => True) v2_ r3 ∧ Below w.heap.size w w' := by
 have hu31:=Try.underlying31
 have HR0_0:=Z0 hr0_0
 have HC0_0:=Z0 hc0_0
 clear hr0_0 hc0_0
 have HR0_2:=Z0 hr0_2
 have HC0_2:=Z0 hc0_2
 clear hr0_2 hc0_2
 have HR1:=Z0 hr1
 have HC1:=Z0 hc1
 clear hr1 hc1
 have HB:=Z0 (ZZ38 w.heap.size w)
 have H : ((spec_l7Copy.f l0_0 a0_1 l0_2).bind fun bt222=>((spec_SumOk.f k l0_0 a0_1 l0_2).bind fun t230=>(if t230 = true then (spec_SumAdd.j0 k l1 (decide ((l1.length : Int) > (wrap64 (2147483647 - a0_1)))) l0_0 a0_1 l0_2 bt222.1 bt222.2.1 bt222.2.2) else (spec_SumAdd.j0 k l1 true l0_0 a0_1 l0_2 bt222.1 bt222.2.1 bt222.2.2)))) = some (r1,r2,r3):=h
 clear h
 replace H:=Option.bind_eq_some_iff.mp H
 obtain ⟨⟨t222,t225,t226⟩,A30,H⟩:=H
 replace H : ((spec_SumOk.f k l0_0 a0_1 l0_2).bind fun t230=>(if t230 = true then (spec_SumAdd.j0 k l1 (decide ((l1.length : Int) > (wrap64 (2147483647 - a0_1)))) l0_0 a0_1 l0_2 t222 t225 t226) else (spec_SumAdd.j0 k l1 true l0_0 a0_1 l0_2 t222 t225 t226))) = some (r1,r2,r3):=H
 have A3:=Z0 A30
 clear A30
 have HC4:=Z0 H
 clear H
 go_enter Try.func15,Try.ntmps15
 go_upto_region 2 with (first|((with_reducible refine gate_dst (N:=2) rfl ?_);(try (refine gate_guard (by rfl) ?_;dsimp only));refine box_event ?hg (N:=2) ?hd (cs:=#[.slice A0_0 l0_0.length c0_0,.int .i64 a0_1,.slice A0_2 l0_2.length c0_2]) (t:=31) ?hr ?_;(case hd=>rfl);(case hg=>rfl);(case hr=>first|(go_simp;done)|(go_simp;rfl));intro gb220 hg w5 hbox hb;have n0_:=Z0 (Zl (by repeat (first|(with_reducible first|exact HB.out|apply Z6|apply Z1|apply Z5)|exact HB.out)) hb);have n1_:=Z0 (hbox);have n2_:=Z0 ((by rw [hg];exact (Zc (by repeat (first|(with_reducible first|exact HB.out|apply Z6|apply Z1|apply Z5)|exact HB.out))) : w.heap.size ≤ gb220));have n3_:=Z0 ((by rw [hg];exact (Zc (by repeat (first|(with_reducible first|exact HB.out|apply Z6|apply Z1|apply Z5)|exact HB.out))) : w.heap.size ≤ gb220));clear HB;have HB:=n0_;have BK220:=n1_;have GW220:=n2_;have GE220:=n3_;clear n0_ n1_ n2_ n3_;clear hb hbox hg)|((with_reducible refine gate_dst (N:=4) rfl ?_);(try (refine gate_guard (by rfl) ?_;dsimp only));refine box_event ?hg (N:=4) ?hd (cs:=#[.slice none 0 0,.int .i64 0,.slice none 0 0]) (t:=31) ?hr ?_;(case hd=>rfl);(case hg=>rfl);(case hr=>first|(go_simp;done)|(go_simp;rfl));intro gb221 hg w6 hbox hb;have n0_:=Z0 (blk_below (g:=gb220) (o:=.cells #[.slice A0_0 l0_0.length c0_0,.int .i64 a0_1,.slice A0_2 l0_2.length c0_2] 31 (0,0)) (by (with_reducible repeat (first|refine Z9 ?_ _|refine Zb ?_|refine Za ?_ _));exact BK220.out) hb);have n1_:=Z0 (Zl (by repeat (first|(with_reducible first|exact HB.out|apply Z6|apply Z1|apply Z5|refine Z7 ?_ GE220.out)|exact HB.out)) hb);have n2_:=Z0 (hbox);have n3_:=Z0 ((by rw [hg];exact (Zc (by repeat (first|(with_reducible first|exact HB.out|apply Z6|apply Z1|apply Z5|refine Z7 ?_ GE220.out)|exact HB.out))) : w.heap.size ≤ gb221));have n4_:=Z0 ((by rw [hg];exact (Zc (by repeat (first|(with_reducible first|exact HB.out|apply Z6|apply Z1|apply Z5|refine Z7 ?_ GE220.out)|exact HB.out))) : w.heap.size ≤ gb221));have n5_:=Z0 ((by rw [hg];exact Nat.ne_of_lt (blk_lt (g:=gb220) (o:=.cells #[.slice A0_0 l0_0.length c0_0,.int .i64 a0_1,.slice A0_2 l0_2.length c0_2] 31 (0,0)) (by (with_reducible repeat (first|refine Z9 ?_ _|refine Zb ?_|refine Za ?_ _));exact BK220.out)) : gb220 ≠ gb221));have n6_:=Z0 ((by rw [hg];exact Nat.ne_of_gt (blk_lt (g:=gb220) (o:=.cells #[.slice A0_0 l0_0.length c0_0,.int .i64 a0_1,.slice A0_2 l0_2.length c0_2] 31 (0,0)) (by (with_reducible repeat (first|refine Z9 ?_ _|refine Zb ?_|refine Za ?_ _));exact BK220.out)) : gb221 ≠ gb220));clear BK220;clear HB;have BK220:=n0_;have HB:=n1_;have BK221:=n2_;have GW221:=n3_;have GE221:=n4_;have NB220_221:=n5_;have NB221_220:=n6_;clear n0_ n1_ n2_ n3_ n4_ n5_ n6_;clear hb hbox hg;have hnb7:=NB220_221.out;have hnc7:=NB221_220.out;have hcz8_0 : w6.cell? ⟨gb220,0,none⟩ = some (.slice A0_0 l0_0.length c0_0):=(Zj BK220.out 0).trans rfl;have hcz8_1 : w6.cell? ⟨gb220,1,none⟩ = some (.int .i64 a0_1):=(Zj BK220.out 1).trans rfl;have hcz8_2 : w6.cell? ⟨gb220,2,none⟩ = some (.slice A0_2 l0_2.length c0_2):=(Zj BK220.out 2).trans rfl;have hfz8_0:=Zm BK220.out 0;have hfz8_1:=Zm BK220.out 1;have hfz8_2:=Zm BK220.out 2)|((with_reducible refine Zo (f:=22) rfl ?_);refine goesL_ (some 9) rfl rfl Try.func22 (by kernel_rfl) rfl #[.agg #[.slice A0_0 l0_0.length c0_0,.int .i64 a0_1,.slice A0_2 l0_2.length c0_2]] rfl (by (try simp only [Zy,Zz,ZZ36]);first|done|rfl|(simp only [Zw,Zx];rfl)) ?_;(with_reducible refine (spec_l7Copy.calls _ _ l0_0 a0_1 _ _ l0_2 t222 t225 t226 _ ?side1 ?side2 ?side3 ?side4 A3.out).mono ?_);(case side1=>repeat (first|exact (Zr HR0_0.out HB.out)|(with_reducible refine Ze ?_ _)|(with_reducible refine Zd ?_ _)|(with_reducible refine Zf ?_)));(case side2=>exact HC0_0.out);(case side3=>repeat (first|exact (Zr HR0_2.out HB.out)|(with_reducible refine Ze ?_ _)|(with_reducible refine Zd ?_ _)|(with_reducible refine Zf ?_)));(case side4=>exact HC0_2.out);rintro e w9 ⟨v223,v227,rfl,ho0,ho1,hb⟩;refine ⟨_,rfl,?_⟩;have n0_:=Z0 (Zn ho0 (Zc (by repeat (first|(with_reducible first|exact HB.out|apply Z6|apply Z1|apply Z5|refine Z7 ?_ GE220.out|refine Z7 ?_ GE221.out)|exact HB.out))));have n1_:=Z0 (Zn ho1 (Zc (by repeat (first|(with_reducible first|exact HB.out|apply Z6|apply Z1|apply Z5|refine Z7 ?_ GE220.out|refine Z7 ?_ GE221.out)|exact HB.out))));have n2_:=Z0 (blk_below (g:=gb220) (o:=.cells #[.slice A0_0 l0_0.length c0_0,.int .i64 a0_1,.slice A0_2 l0_2.length c0_2] 31 (0,0)) (by (with_reducible repeat (first|refine Z9 ?_ _|refine Zb ?_|refine Za ?_ _));exact BK220.out) hb);have n3_:=Z0 (blk_below (g:=gb221) (o:=.cells #[.slice none 0 0,.int .i64 0,.slice none 0 0] 31 (0,0)) (by (with_reducible repeat (first|refine Z9 ?_ _|refine Zb ?_|refine Za ?_ _));exact BK221.out) hb);have n4_:=Z0 (Zl (by repeat (first|(with_reducible first|exact HB.out|apply Z6|apply Z1|apply Z5|refine Z7 ?_ GE220.out|refine Z7 ?_ GE221.out)|exact HB.out)) hb);clear BK220;clear BK221;clear HB;have HO224:=n0_;have HO228:=n1_;have BK220:=n2_;have BK221:=n3_;have HB:=n4_;clear n0_ n1_ n2_ n3_ n4_;(try clear hb);(try clear hb2);(try clear hk);(try clear hi);(try clear ho0);(try clear ho1))|((with_reducible refine gate_dst (N:=5) rfl ?_);(try (refine gate_guard (by rfl) ?_;dsimp only));refine box_event ?hg (N:=5) ?hd (cs:=#[.slice none 0 0,.int .i64 0,.slice none 0 0]) (t:=31) ?hr ?_;(case hd=>rfl);(case hg=>rfl);(case hr=>first|(go_simp;done)|(go_simp;rfl));intro gb229 hg w10 hbox hb;have n0_:=Z0 (Kd.R_below (by (with_reducible repeat (first|apply Z3|apply Z2|apply Z4));exact HO224.out) hb);have n1_:=Z0 (Kd.R_below (by (with_reducible repeat (first|apply Z3|apply Z2|apply Z4));exact HO228.out) hb);have n2_:=Z0 (blk_below (g:=gb220) (o:=.cells #[.slice A0_0 l0_0.length c0_0,.int .i64 a0_1,.slice A0_2 l0_2.length c0_2] 31 (0,0)) (by (with_reducible repeat (first|refine Z9 ?_ _|refine Zb ?_|refine Za ?_ _));exact BK220.out) hb);have n3_:=Z0 (blk_below (g:=gb221) (o:=.cells #[.slice none 0 0,.int .i64 0,.slice none 0 0] 31 (0,0)) (by (with_reducible repeat (first|refine Z9 ?_ _|refine Zb ?_|refine Za ?_ _));exact BK221.out) hb);have n4_:=Z0 (Zl (by repeat (first|(with_reducible first|exact HB.out|apply Z6|apply Z1|apply Z5|refine Z7 ?_ GE220.out|refine Z7 ?_ GE221.out)|exact HB.out)) hb);have n5_:=Z0 (hbox);have n6_:=Z0 ((by rw [hg];exact (Zc (by repeat (first|(with_reducible first|exact HB.out|apply Z6|apply Z1|apply Z5|refine Z7 ?_ GE220.out|refine Z7 ?_ GE221.out)|exact HB.out))) : w.heap.size ≤ gb229));have n7_:=Z0 ((by rw [hg];exact (Zc (by repeat (first|(with_reducible first|exact HB.out|apply Z6|apply Z1|apply Z5|refine Z7 ?_ GE220.out|refine Z7 ?_ GE221.out)|exact HB.out))) : w.heap.size ≤ gb229));have n8_:=Z0 ((by rw [hg];exact Nat.ne_of_lt (blk_lt (g:=gb220) (o:=.cells #[.slice A0_0 l0_0.length c0_0,.int .i64 a0_1,.slice A0_2 l0_2.length c0_2] 31 (0,0)) (by (with_reducible repeat (first|refine Z9 ?_ _|refine Zb ?_|refine Za ?_ _));exact BK220.out)) : gb220 ≠ gb229));have n9_:=Z0 ((by rw [hg];exact Nat.ne_of_gt (blk_lt (g:=gb220) (o:=.cells #[.slice A0_0 l0_0.length c0_0,.int .i64 a0_1,.slice A0_2 l0_2.length c0_2] 31 (0,0)) (by (with_reducible repeat (first|refine Z9 ?_ _|refine Zb ?_|refine Za ?_ _));exact BK220.out)) : gb229 ≠ gb220));have n10_:=Z0 ((by rw [hg];exact Nat.ne_of_lt (blk_lt (g:=gb221) (o:=.cells #[.slice none 0 0,.int .i64 0,.slice none 0 0] 31 (0,0)) (by (with_reducible repeat (first|refine Z9 ?_ _|refine Zb ?_|refine Za ?_ _));exact BK221.out)) : gb221 ≠ gb229));have n11_:=Z0 ((by rw [hg];exact Nat.ne_of_gt (blk_lt (g:=gb221) (o:=.cells #[.slice none 0 0,.int .i64 0,.slice none 0 0] 31 (0,0)) (by (with_reducible repeat (first|refine Z9 ?_ _|refine Zb ?_|refine Za ?_ _));exact BK221.out)) : gb229 ≠ gb221));clear HO224;clear HO228;clear BK220;clear BK221;clear HB;have HO224:=n0_;have HO228:=n1_;have BK220:=n2_;have BK221:=n3_;have HB:=n4_;have BK229:=n5_;have GW229:=n6_;have GE229:=n7_;have NB220_229:=n8_;have NB229_220:=n9_;have NB221_229:=n10_;have NB229_221:=n11_;clear n0_ n1_ n2_ n3_ n4_ n5_ n6_ n7_ n8_ n9_ n10_ n11_;clear hb hbox hg;obtain ⟨Ao11,co11,eo11⟩:=Kd.R_slice HO224.out;subst eo11;have hnb12:=NB229_220.out;have hnc12:=NB220_229.out;have hnb13:=NB229_221.out;have hnc13:=NB221_229.out;have hcz14_0 : w10.cell? ⟨gb229,0,none⟩ = some (.slice none 0 0):=(Zj BK229.out 0).trans rfl;have hcz14_1 : w10.cell? ⟨gb229,1,none⟩ = some (.int .i64 0):=(Zj BK229.out 1).trans rfl;have hcz14_2 : w10.cell? ⟨gb229,2,none⟩ = some (.slice none 0 0):=(Zj BK229.out 2).trans rfl;have hfz14_0:=Zm BK229.out 0;have hfz14_1:=Zm BK229.out 1;have hfz14_2:=Zm BK229.out 2;obtain ⟨Ao15,co15,eo15⟩:=Kd.R_slice HO228.out;subst eo15))
 (try simp only [Act.put,Zs,Zt,Zu])
 go_cut [20] (fun v20 wc=>∃ (kq : Nat) (x20_3 : Bool),v20 = .bool x20_3 ∧ Aside0 (spec_SumAdd.j0 kq l1 x20_3 l0_0 a0_1 l0_2 t222 t225 t226 = some (r1,r2,r3)) ∧ Aside0 (kq ≤ k) ∧ Aside0 (Kd.R (Kd.int .i64) 3 wc w.heap.size (fun _=>True) (.slice Ao11 t222.length co11) t222) ∧ Aside0 (Kd.R (Kd.int .u8) 5 wc w.heap.size (fun _=>True) (.slice Ao15 t226.length co15) t226) ∧ Aside0 (wc.heap[gb220]? = some (.cells #[(.slice A0_0 l0_0.length c0_0),.int .i64 a0_1,(.slice A0_2 l0_2.length c0_2)] 31 (0,0))) ∧ Aside0 (wc.heap[gb221]? = some (.cells #[(.slice none 0 0),.int .i64 0,(.slice none 0 0)] 31 (0,0))) ∧ Aside0 (wc.heap[gb229]? = some (.cells #[(.slice Ao11 t222.length co11),.int .i64 t225,(.slice Ao15 t226.length co15)] 31 (0,0))) ∧ Aside0 (Below w.heap.size w wc))
 case first =>
  have H:=HC4.out
  clear HC4
  replace H:=Option.bind_eq_some_iff.mp H
  obtain ⟨t230,A160,H⟩:=H
  replace H : (if t230 = true then (spec_SumAdd.j0 k l1 (decide ((l1.length : Int) > (wrap64 (2147483647 - a0_1)))) l0_0 a0_1 l0_2 t222 t225 t226) else (spec_SumAdd.j0 k l1 true l0_0 a0_1 l0_2 t222 t225 t226)) = some (r1,r2,r3):=H
  have A16:=Z0 A160
  clear A160
  by_cases c17 : t230 = true
  case neg =>
   replace c17:=Bool.eq_false_iff.mpr c17
   subst c17
   have H1 : (spec_SumAdd.j0 k l1 true l0_0 a0_1 l0_2 t222 t225 t226) = some (r1,r2,r3):=by rw [if_neg (show ¬ (false = true) by decide)] at H;exact H
   clear H
   have H:=H1
   clear H1
   have H':=Z0 H
   clear H
   have hnb23:=NB220_221.out
   have hnc23:=NB221_220.out
   have hnb24:=NB220_229.out
   have hnc24:=NB229_220.out
   have hcz25_0 : w10.cell? ⟨gb220,0,none⟩ = some (.slice A0_0 l0_0.length c0_0):=(Zj BK220.out 0).trans rfl
   have hcz25_1 : w10.cell? ⟨gb220,1,none⟩ = some (.int .i64 a0_1):=(Zj BK220.out 1).trans rfl
   have hcz25_2 : w10.cell? ⟨gb220,2,none⟩ = some (.slice A0_2 l0_2.length c0_2):=(Zj BK220.out 2).trans rfl
   have hfz25_0:=Zm BK220.out 0
   have hfz25_1:=Zm BK220.out 1
   have hfz25_2:=Zm BK220.out 2
   go_wp2_with (first|((with_reducible refine Zo (f:=20) rfl ?_);refine goesL_ (some 11) rfl rfl Try.func20 (by kernel_rfl) rfl #[.agg #[.slice A0_0 l0_0.length c0_0,.int .i64 a0_1,.slice A0_2 l0_2.length c0_2]] rfl (by (try simp only [Zy,Zz,ZZ36]);first|done|rfl|(simp only [Zw,Zx];rfl)) ?_;(with_reducible refine (spec_SumOk.calls k _ _ l0_0 a0_1 _ _ l0_2 false _ ?side1 ?side2 ?side3 ?side4 A16.out).mono ?_);(case side1=>exact Zr HR0_0.out (by repeat (first|(with_reducible first|exact HB.out|apply Z6|apply Z1|apply Z5|refine Z7 ?_ GE220.out|refine Z7 ?_ GE221.out|refine Z7 ?_ GE229.out)|exact HB.out)));(case side2=>exact HC0_0.out);(case side3=>exact Zr HR0_2.out (by repeat (first|(with_reducible first|exact HB.out|apply Z6|apply Z1|apply Z5|refine Z7 ?_ GE220.out|refine Z7 ?_ GE221.out|refine Z7 ?_ GE229.out)|exact HB.out)));(case side4=>exact HC0_2.out);rintro e w26 ⟨rfl,hb⟩;refine ⟨_,rfl,?_⟩;have n0_:=Z0 (Kd.R_below (by (with_reducible repeat (first|apply Z3|apply Z2|apply Z4));exact (Zq (Kd.R_far (p:=⟨gb229,2,none⟩) (Kd.R_far (p:=⟨gb229,1,none⟩) (Kd.R_far (p:=⟨gb229,0,none⟩) (Kd.R_types HO224.out BK229.out (by decide)) (fun _ hk=>hk.2) (.slice Ao11 t222.length co11)) (fun _ hk=>hk.2) (.int .i64 t225)) (fun _ hk=>hk.2) (.slice Ao15 t226.length co15)) (fun _ h_=>h_.1))) hb);have n1_:=Z0 (Kd.R_below (by (with_reducible repeat (first|apply Z3|apply Z2|apply Z4));exact (Zq (Kd.R_far (p:=⟨gb229,2,none⟩) (Kd.R_far (p:=⟨gb229,1,none⟩) (Kd.R_far (p:=⟨gb229,0,none⟩) (Kd.R_types HO228.out BK229.out (by decide)) (fun _ hk=>hk.2) (.slice Ao11 t222.length co11)) (fun _ hk=>hk.2) (.int .i64 t225)) (fun _ hk=>hk.2) (.slice Ao15 t226.length co15)) (fun _ h_=>h_.1))) hb);have n2_:=Z0 (blk_below (g:=gb220) (o:=.cells #[.slice A0_0 l0_0.length c0_0,.int .i64 a0_1,.slice A0_2 l0_2.length c0_2] 31 (0,0)) (by (with_reducible repeat (first|refine Z9 ?_ _|refine Zb ?_|refine Za ?_ _));refine blk_far ?_ NB220_229.out _;(with_reducible repeat (first|refine Z9 ?_ _|refine Zb ?_|refine Za ?_ _));refine blk_far ?_ NB220_229.out _;(with_reducible repeat (first|refine Z9 ?_ _|refine Zb ?_|refine Za ?_ _));refine blk_far ?_ NB220_229.out _;(with_reducible repeat (first|refine Z9 ?_ _|refine Zb ?_|refine Za ?_ _));exact BK220.out) hb);have n3_:=Z0 (blk_below (g:=gb221) (o:=.cells #[.slice none 0 0,.int .i64 0,.slice none 0 0] 31 (0,0)) (by (with_reducible repeat (first|refine Z9 ?_ _|refine Zb ?_|refine Za ?_ _));refine blk_far ?_ NB221_229.out _;(with_reducible repeat (first|refine Z9 ?_ _|refine Zb ?_|refine Za ?_ _));refine blk_far ?_ NB221_229.out _;(with_reducible repeat (first|refine Z9 ?_ _|refine Zb ?_|refine Za ?_ _));refine blk_far ?_ NB221_229.out _;(with_reducible repeat (first|refine Z9 ?_ _|refine Zb ?_|refine Za ?_ _));exact BK221.out) hb);have n4_:=Z0 (blk_below (g:=gb229) (o:=.cells #[.slice Ao11 t222.length co11,.int .i64 t225,.slice Ao15 t226.length co15] 31 (0,0)) (by (with_reducible repeat (first|refine Z9 ?_ _|refine Zb ?_|refine Za ?_ _));refine blk_put (cs:=#[.slice Ao11 t222.length co11,.int .i64 t225,.slice none 0 0]) ?_ 2 _ rfl;(with_reducible repeat (first|refine Z9 ?_ _|refine Zb ?_|refine Za ?_ _));refine blk_put (cs:=#[.slice Ao11 t222.length co11,.int .i64 0,.slice none 0 0]) ?_ 1 _ rfl;(with_reducible repeat (first|refine Z9 ?_ _|refine Zb ?_|refine Za ?_ _));refine blk_put (cs:=#[.slice none 0 0,.int .i64 0,.slice none 0 0]) ?_ 0 _ rfl;(with_reducible repeat (first|refine Z9 ?_ _|refine Zb ?_|refine Za ?_ _));exact BK229.out) hb);have n5_:=Z0 (Zl (by repeat (first|(with_reducible first|exact HB.out|apply Z6|apply Z1|apply Z5|refine Z7 ?_ GE220.out|refine Z7 ?_ GE221.out|refine Z7 ?_ GE229.out)|exact HB.out)) hb);clear HO224;clear HO228;clear BK220;clear BK221;clear BK229;clear HB;have HO224:=n0_;have HO228:=n1_;have BK220:=n2_;have BK221:=n3_;have BK229:=n4_;have HB:=n5_;clear n0_ n1_ n2_ n3_ n4_ n5_;(try clear hb);(try clear hb2);(try clear hk);(try clear hi)))
   go_meet
   case rel=>exact ⟨_,(true),(by first|rfl|(simp;done)|(simp [*];done)),H',⟨by first|omega|exact ZZ37 _⟩,⟨by (with_reducible repeat (first|apply Z3|apply Z2|apply Z4));exact HO224.out⟩,⟨by (with_reducible repeat (first|apply Z3|apply Z2|apply Z4));exact HO228.out⟩,⟨by (with_reducible repeat (first|refine Z9 ?_ _|refine Zb ?_|refine Za ?_ _));exact BK220.out⟩,⟨by (with_reducible repeat (first|refine Z9 ?_ _|refine Zb ?_|refine Za ?_ _));exact BK221.out⟩,⟨by (with_reducible repeat (first|refine Z9 ?_ _|refine Zb ?_|refine Za ?_ _));exact BK229.out⟩,⟨by repeat (first|(with_reducible first|exact HB.out|apply Z6|apply Z1|apply Z5|refine Z7 ?_ GE220.out|refine Z7 ?_ GE221.out|refine Z7 ?_ GE229.out)|exact HB.out)⟩⟩
  subst c17
  have H1 : (spec_SumAdd.j0 k l1 (decide ((l1.length : Int) > (wrap64 (2147483647 - a0_1)))) l0_0 a0_1 l0_2 t222 t225 t226) = some (r1,r2,r3):=by rw [if_pos rfl] at H;exact H
  clear H
  have H:=H1
  clear H1
  have H':=Z0 H
  clear H
  have hnb18:=NB220_221.out
  have hnc18:=NB221_220.out
  have hnb19:=NB220_229.out
  have hnc19:=NB229_220.out
  have hcz20_0 : w10.cell? ⟨gb220,0,none⟩ = some (.slice A0_0 l0_0.length c0_0):=(Zj BK220.out 0).trans rfl
  have hcz20_1 : w10.cell? ⟨gb220,1,none⟩ = some (.int .i64 a0_1):=(Zj BK220.out 1).trans rfl
  have hcz20_2 : w10.cell? ⟨gb220,2,none⟩ = some (.slice A0_2 l0_2.length c0_2):=(Zj BK220.out 2).trans rfl
  have hfz20_0:=Zm BK220.out 0
  have hfz20_1:=Zm BK220.out 1
  have hfz20_2:=Zm BK220.out 2
  go_wp2_with (first|((with_reducible refine Zo (f:=20) rfl ?_);refine goesL_ (some 11) rfl rfl Try.func20 (by kernel_rfl) rfl #[.agg #[.slice A0_0 l0_0.length c0_0,.int .i64 a0_1,.slice A0_2 l0_2.length c0_2]] rfl (by (try simp only [Zy,Zz,ZZ36]);first|done|rfl|(simp only [Zw,Zx];rfl)) ?_;(with_reducible refine (spec_SumOk.calls k _ _ l0_0 a0_1 _ _ l0_2 true _ ?side1 ?side2 ?side3 ?side4 A16.out).mono ?_);(case side1=>exact Zr HR0_0.out (by repeat (first|(with_reducible first|exact HB.out|apply Z6|apply Z1|apply Z5|refine Z7 ?_ GE220.out|refine Z7 ?_ GE221.out|refine Z7 ?_ GE229.out)|exact HB.out)));(case side2=>exact HC0_0.out);(case side3=>exact Zr HR0_2.out (by repeat (first|(with_reducible first|exact HB.out|apply Z6|apply Z1|apply Z5|refine Z7 ?_ GE220.out|refine Z7 ?_ GE221.out|refine Z7 ?_ GE229.out)|exact HB.out)));(case side4=>exact HC0_2.out);rintro e w21 ⟨rfl,hb⟩;refine ⟨_,rfl,?_⟩;have n0_:=Z0 (Kd.R_below (by (with_reducible repeat (first|apply Z3|apply Z2|apply Z4));exact (Zq (Kd.R_far (p:=⟨gb229,2,none⟩) (Kd.R_far (p:=⟨gb229,1,none⟩) (Kd.R_far (p:=⟨gb229,0,none⟩) (Kd.R_types HO224.out BK229.out (by decide)) (fun _ hk=>hk.2) (.slice Ao11 t222.length co11)) (fun _ hk=>hk.2) (.int .i64 t225)) (fun _ hk=>hk.2) (.slice Ao15 t226.length co15)) (fun _ h_=>h_.1))) hb);have n1_:=Z0 (Kd.R_below (by (with_reducible repeat (first|apply Z3|apply Z2|apply Z4));exact (Zq (Kd.R_far (p:=⟨gb229,2,none⟩) (Kd.R_far (p:=⟨gb229,1,none⟩) (Kd.R_far (p:=⟨gb229,0,none⟩) (Kd.R_types HO228.out BK229.out (by decide)) (fun _ hk=>hk.2) (.slice Ao11 t222.length co11)) (fun _ hk=>hk.2) (.int .i64 t225)) (fun _ hk=>hk.2) (.slice Ao15 t226.length co15)) (fun _ h_=>h_.1))) hb);have n2_:=Z0 (blk_below (g:=gb220) (o:=.cells #[.slice A0_0 l0_0.length c0_0,.int .i64 a0_1,.slice A0_2 l0_2.length c0_2] 31 (0,0)) (by (with_reducible repeat (first|refine Z9 ?_ _|refine Zb ?_|refine Za ?_ _));refine blk_far ?_ NB220_229.out _;(with_reducible repeat (first|refine Z9 ?_ _|refine Zb ?_|refine Za ?_ _));refine blk_far ?_ NB220_229.out _;(with_reducible repeat (first|refine Z9 ?_ _|refine Zb ?_|refine Za ?_ _));refine blk_far ?_ NB220_229.out _;(with_reducible repeat (first|refine Z9 ?_ _|refine Zb ?_|refine Za ?_ _));exact BK220.out) hb);have n3_:=Z0 (blk_below (g:=gb221) (o:=.cells #[.slice none 0 0,.int .i64 0,.slice none 0 0] 31 (0,0)) (by (with_reducible repeat (first|refine Z9 ?_ _|refine Zb ?_|refine Za ?_ _));refine blk_far ?_ NB221_229.out _;(with_reducible repeat (first|refine Z9 ?_ _|refine Zb ?_|refine Za ?_ _));refine blk_far ?_ NB221_229.out _;(with_reducible repeat (first|refine Z9 ?_ _|refine Zb ?_|refine Za ?_ _));refine blk_far ?_ NB221_229.out _;(with_reducible repeat (first|refine Z9 ?_ _|refine Zb ?_|refine Za ?_ _));exact BK221.out) hb);have n4_:=Z0 (blk_below (g:=gb229) (o:=.cells #[.slice Ao11 t222.length co11,.int .i64 t225,.slice Ao15 t226.length co15] 31 (0,0)) (by (with_reducible repeat (first|refine Z9 ?_ _|refine Zb ?_|refine Za ?_ _));refine blk_put (cs:=#[.slice Ao11 t222.length co11,.int .i64 t225,.slice none 0 0]) ?_ 2 _ rfl;(with_reducible repeat (first|refine Z9 ?_ _|refine Zb ?_|refine Za ?_ _));refine blk_put (cs:=#[.slice Ao11 t222.length co11,.int .i64 0,.slice none 0 0]) ?_ 1 _ rfl;(with_reducible repeat (first|refine Z9 ?_ _|refine Zb ?_|refine Za ?_ _));refine blk_put (cs:=#[.slice none 0 0,.int .i64 0,.slice none 0 0]) ?_ 0 _ rfl;(with_reducible repeat (first|refine Z9 ?_ _|refine Zb ?_|refine Za ?_ _));exact BK229.out) hb);have n5_:=Z0 (Zl (by repeat (first|(with_reducible first|exact HB.out|apply Z6|apply Z1|apply Z5|refine Z7 ?_ GE220.out|refine Z7 ?_ GE221.out|refine Z7 ?_ GE229.out)|exact HB.out)) hb);clear HO224;clear HO228;clear BK220;clear BK221;clear BK229;clear HB;have HO224:=n0_;have HO228:=n1_;have BK220:=n2_;have BK221:=n3_;have BK229:=n4_;have HB:=n5_;clear n0_ n1_ n2_ n3_ n4_ n5_;(try clear hb);(try clear hb2);(try clear hk);(try clear hi);have hcz22_0 : w21.cell? ⟨gb220,0,none⟩ = some (.slice A0_0 l0_0.length c0_0):=(Zj BK220.out 0).trans rfl;have hcz22_1 : w21.cell? ⟨gb220,1,none⟩ = some (.int .i64 a0_1):=(Zj BK220.out 1).trans rfl;have hcz22_2 : w21.cell? ⟨gb220,2,none⟩ = some (.slice A0_2 l0_2.length c0_2):=(Zj BK220.out 2).trans rfl;have hfz22_0:=Zm BK220.out 0;have hfz22_1:=Zm BK220.out 1;have hfz22_2:=Zm BK220.out 2))
  go_meet
  case rel=>exact ⟨_,(decide ((l1.length : Int) > (wrap64 (2147483647 - a0_1)))),(by first|rfl|(simp;done)|(simp [*];done)),H',⟨by first|omega|exact ZZ37 _⟩,⟨by (with_reducible repeat (first|apply Z3|apply Z2|apply Z4));exact HO224.out⟩,⟨by (with_reducible repeat (first|apply Z3|apply Z2|apply Z4));exact HO228.out⟩,⟨by (with_reducible repeat (first|refine Z9 ?_ _|refine Zb ?_|refine Za ?_ _));exact BK220.out⟩,⟨by (with_reducible repeat (first|refine Z9 ?_ _|refine Zb ?_|refine Za ?_ _));exact BK221.out⟩,⟨by (with_reducible repeat (first|refine Z9 ?_ _|refine Zb ?_|refine Za ?_ _));exact BK229.out⟩,⟨by repeat (first|(with_reducible first|exact HB.out|apply Z6|apply Z1|apply Z5|refine Z7 ?_ GE220.out|refine Z7 ?_ GE221.out|refine Z7 ?_ GE229.out)|exact HB.out)⟩⟩
 case rest =>
  clear HC4
  (try clear c1);(try clear c2);(try clear p2);(try clear p6);(try clear c7);(try clear c12);(try clear c13);(try clear c15);(try clear c17);(try clear c18);(try clear c19);(try clear c20);(try clear c22);(try clear c23);(try clear c24);(try clear hcz14_0);(try clear hcz14_1);(try clear hcz14_2);(try clear hcz20_0);(try clear hcz20_1);(try clear hcz20_2);(try clear hcz22_0);(try clear hcz22_1);(try clear hcz22_2);(try clear hcz25_0);(try clear hcz25_1);(try clear hcz25_2);(try clear hcz8_0);(try clear hcz8_1);(try clear hcz8_2);(try clear hfz14_0);(try clear hfz14_1);(try clear hfz14_2);(try clear hfz20_0);(try clear hfz20_1);(try clear hfz20_2);(try clear hfz22_0);(try clear hfz22_1);(try clear hfz22_2);(try clear hfz25_0);(try clear hfz25_1);(try clear hfz25_2);(try clear hfz8_0);(try clear hfz8_1);(try clear hfz8_2)
  obtain ⟨kq,x20_3,rfl,HA,HJ3,HO_230000,HO_230002,BK220,BK221,BK229,HB⟩:=hcut
  cases kq with
  | zero=>exact absurd HA.out (by simp [spec_SumAdd.j0])
  | succ kj3 =>
   have H:=HA.out
   clear HA
   simp only [spec_SumAdd.j0] at H
   by_cases c27 : x20_3 = true
   case pos =>
    subst c27
    have H1 : (some (t222,t225,t226)) = some (r1,r2,r3):=by rw [if_pos rfl] at H;exact H
    clear H
    have H:=H1
    clear H1
    simp only [Option.some.injEq,Prod.mk.injEq] at H
    obtain ⟨rfl,rfl,rfl⟩:=H
    have hnb28:=NB229_220.out
    have hnc28:=NB220_229.out
    have hnb29:=NB229_221.out
    have hnc29:=NB221_229.out
    have hcz30_0 : wc.cell? ⟨gb229,0,none⟩ = some (.slice Ao11 t222.length co11):=(Zj BK229.out 0).trans rfl
    have hcz30_1 : wc.cell? ⟨gb229,1,none⟩ = some (.int .i64 t225):=(Zj BK229.out 1).trans rfl
    have hcz30_2 : wc.cell? ⟨gb229,2,none⟩ = some (.slice Ao15 t226.length co15):=(Zj BK229.out 2).trans rfl
    have hfz30_0:=Zm BK229.out 0
    have hfz30_1:=Zm BK229.out 1
    have hfz30_2:=Zm BK229.out 2
    have hnb31:=NB221_220.out
    have hnc31:=NB220_221.out
    have hcz32_0 : wc.cell? ⟨gb221,0,none⟩ = some (.slice none 0 0):=(Zj BK221.out 0).trans rfl
    have hcz32_1 : wc.cell? ⟨gb221,1,none⟩ = some (.int .i64 0):=(Zj BK221.out 1).trans rfl
    have hcz32_2 : wc.cell? ⟨gb221,2,none⟩ = some (.slice none 0 0):=(Zj BK221.out 2).trans rfl
    have hfz32_0:=Zm BK221.out 0
    have hfz32_1:=Zm BK221.out 1
    have hfz32_2:=Zm BK221.out 2
    go_wp2
    refine bodyPost_ret (results_cell_row rfl _ _ gb221 31 #[.slice Ao11 t222.length co11,.int .i64 t225,.slice Ao15 t226.length co15] (0,0) _ rfl (by (with_reducible repeat (first|refine Z9 ?_ _|refine Zb ?_|refine Za ?_ _));refine blk_put (cs:=#[.slice Ao11 t222.length co11,.int .i64 t225,.slice none 0 0]) ?_ 2 _ rfl;(with_reducible repeat (first|refine Z9 ?_ _|refine Zb ?_|refine Za ?_ _));refine blk_put (cs:=#[.slice Ao11 t222.length co11,.int .i64 0,.slice none 0 0]) ?_ 1 _ rfl;(with_reducible repeat (first|refine Z9 ?_ _|refine Zb ?_|refine Za ?_ _));refine blk_put (cs:=#[.slice none 0 0,.int .i64 0,.slice none 0 0]) ?_ 0 _ rfl;(with_reducible repeat (first|refine Z9 ?_ _|refine Zb ?_|refine Za ?_ _));exact BK221.out) Try.underlying31 rfl (by kernel_rfl)) rfl ?_
    exact ⟨_,_,by first|rfl|(simp [errW_none,errW_some]<;>rfl)|(simp [*,errW_none,errW_some]<;>rfl),by (with_reducible repeat (first|apply Z3|apply Z2|apply Z4));exact Zq (Kd.R_far (p:=⟨gb221,2,none⟩) (Kd.R_far (p:=⟨gb221,1,none⟩) (Kd.R_far (p:=⟨gb221,0,none⟩) (Kd.R_types HO_230000.out BK221.out (by decide)) (fun _ hk=>hk.2) (.slice Ao11 t222.length co11)) (fun _ hk=>hk.2) (.int .i64 t225)) (fun _ hk=>hk.2) (.slice Ao15 t226.length co15)) (fun _ hk=>trivial),by (with_reducible repeat (first|apply Z3|apply Z2|apply Z4));exact Zq (Kd.R_far (p:=⟨gb221,2,none⟩) (Kd.R_far (p:=⟨gb221,1,none⟩) (Kd.R_far (p:=⟨gb221,0,none⟩) (Kd.R_types HO_230002.out BK221.out (by decide)) (fun _ hk=>hk.2) (.slice Ao11 t222.length co11)) (fun _ hk=>hk.2) (.int .i64 t225)) (fun _ hk=>hk.2) (.slice Ao15 t226.length co15)) (fun _ hk=>trivial),by repeat (first|(with_reducible first|exact HB.out|apply Z6|apply Z1|apply Z5|refine Z7 ?_ GE220.out|refine Z7 ?_ GE221.out|refine Z7 ?_ GE229.out)|exact HB.out)⟩
   replace c27:=Bool.eq_false_iff.mpr c27
   subst c27
   have H1 : ((some (([] : List Int) : List Int)).bind fun y231=>(if y231.length + l0_2.length < 140737488355328 then ((some (y231 ++ l0_2 : List Int)).bind fun y234=>(if y234.length + l1.length < 140737488355328 then (spec_SumAdd.l0 kj3 l1 (y234 ++ l1) 0 l0_0 a0_1 l0_2 t222 t225 t226) else (none))) else (none))) = some (r1,r2,r3):=by rw [if_neg (show ¬ (false = true) by decide)] at H;exact H
   clear H
   have H:=H1
   clear H1
   obtain ⟨y231,hy231⟩ : ∃ y_ : List Int,y_ = (([] : List Int)):=⟨_,rfl⟩
   replace H : (if y231.length + l0_2.length < 140737488355328 then ((some (y231 ++ l0_2 : List Int)).bind fun y234=>(if y234.length + l1.length < 140737488355328 then (spec_SumAdd.l0 kj3 l1 (y234 ++ l1) 0 l0_0 a0_1 l0_2 t222 t225 t226) else (none))) else (none)) = some (r1,r2,r3):=by first|(rw [hy231];with_reducible exact H)|(have H2_:=(Zv _ _).symm.trans H;rw [hy231];with_reducible exact H2_)|(have H2_:=(Zv _ _).symm.trans H;with_reducible exact H2_)|with_reducible exact H|(rw [hy231];exact H)|exact H
   have Ny231:=Z0 hy231
   clear hy231
   by_cases c33 : y231.length + l0_2.length < 140737488355328
   case neg =>
    rw [if_neg c33] at H
    exact absurd H (by simp)
   rw [if_pos c33] at H
   have LMc33:=Z0 c33
   clear c33
   obtain ⟨y234,hy234⟩ : ∃ y_ : List Int,y_ = (y231 ++ l0_2):=⟨_,rfl⟩
   replace H : (if y234.length + l1.length < 140737488355328 then (spec_SumAdd.l0 kj3 l1 (y234 ++ l1) 0 l0_0 a0_1 l0_2 t222 t225 t226) else (none)) = some (r1,r2,r3):=by first|(rw [hy234];with_reducible exact H)|(have H2_:=(Zv _ _).symm.trans H;rw [hy234];with_reducible exact H2_)|(have H2_:=(Zv _ _).symm.trans H;with_reducible exact H2_)|with_reducible exact H|(rw [hy234];exact H)|exact H
   have Ny234:=Z0 hy234
   clear hy234
   by_cases c34 : y234.length + l1.length < 140737488355328
   case neg =>
    rw [if_neg c34] at H
    exact absurd H (by simp)
   rw [if_pos c34] at H
   have LMc34:=Z0 c34
   clear c34
   obtain ⟨y237,hy237⟩ : ∃ y_ : List Int,y_ = (y234 ++ l1):=⟨_,rfl⟩
   replace H : (spec_SumAdd.l0 kj3 l1 y237 0 l0_0 a0_1 l0_2 t222 t225 t226) = some (r1,r2,r3):=by first|(rw [hy237];with_reducible exact H)|(have H2_:=(Zv _ _).symm.trans H;rw [hy237];with_reducible exact H2_)|(have H2_:=(Zv _ _).symm.trans H;with_reducible exact H2_)|with_reducible exact H|(rw [hy237];exact H)|exact H
   have Ny237:=Z0 hy237
   clear hy237
   have H':=Z0 H
   clear H
   go_wp2_with (first|((with_reducible refine gate_dst (N:=22) rfl ?_);(try (refine gate_guard (by rfl) ?_;dsimp only));refine Kd.R_lit (Kd.int .u8) _ 5 ?hg (N:=22) ?hd (xs:=([] : List Int)) (inner:=[]) (ok:=fun _=>True) (okp:=fun _=>True) ?hr ?hp (fun _ hk=>hk) trivial (ZZ38 _ _) (ZZ37 _) (by simp) ?_;(case hd=>rfl);(case hg=>rfl);(case hr=>first|(go_simp;done)|(go_simp;rfl));(case hp=>exact (Reps.none _ _));intro v232 w35 ho36 hb hg_ hnew_;clear hg_ hnew_;(first|rw [← Ny231.out] at ho36|(simp only [Int.reduceToNat] at ho36;rw [← Ny231.out] at ho36));have n0_:=Z0 (Kd.R_below (by (with_reducible repeat (first|apply Z3|apply Z2|apply Z4));exact HO_230000.out) hb);have n1_:=Z0 (Zg (by (with_reducible repeat (first|apply Z3|apply Z2|apply Z4));exact HO_230002.out) (Zi ho36) hb);have n2_:=Z0 (Zn (Zh ho36 (Zk (by (with_reducible repeat (first|apply Z3|apply Z2|apply Z4));exact HO_230002.out))) (Zc (by repeat (first|(with_reducible first|exact HB.out|apply Z6|apply Z1|apply Z5|refine Z7 ?_ GE220.out|refine Z7 ?_ GE221.out|refine Z7 ?_ GE229.out)|exact HB.out))));have n3_:=Z0 (blk_below (g:=gb220) (o:=.cells #[.slice A0_0 l0_0.length c0_0,.int .i64 a0_1,.slice A0_2 l0_2.length c0_2] 31 (0,0)) (by (with_reducible repeat (first|refine Z9 ?_ _|refine Zb ?_|refine Za ?_ _));exact BK220.out) hb);have n4_:=Z0 (blk_below (g:=gb221) (o:=.cells #[.slice none 0 0,.int .i64 0,.slice none 0 0] 31 (0,0)) (by (with_reducible repeat (first|refine Z9 ?_ _|refine Zb ?_|refine Za ?_ _));exact BK221.out) hb);have n5_:=Z0 (blk_below (g:=gb229) (o:=.cells #[.slice Ao11 t222.length co11,.int .i64 t225,.slice Ao15 t226.length co15] 31 (0,0)) (by (with_reducible repeat (first|refine Z9 ?_ _|refine Zb ?_|refine Za ?_ _));exact BK229.out) hb);have n6_:=Z0 (Zl (by repeat (first|(with_reducible first|exact HB.out|apply Z6|apply Z1|apply Z5|refine Z7 ?_ GE220.out|refine Z7 ?_ GE221.out|refine Z7 ?_ GE229.out)|exact HB.out)) hb);clear HO_230000;clear HO_230002;clear BK220;clear BK221;clear BK229;clear HB;have HO_230000:=n0_;have HO_230002:=n1_;have HO233:=n2_;have BK220:=n3_;have BK221:=n4_;have BK229:=n5_;have HB:=n6_;clear n0_ n1_ n2_ n3_ n4_ n5_ n6_;clear hb ho36;have hnb37:=NB220_221.out;have hnc37:=NB221_220.out;have hnb38:=NB220_229.out;have hnc38:=NB229_220.out;have hcz39_0 : w35.cell? ⟨gb220,0,none⟩ = some (.slice A0_0 l0_0.length c0_0):=(Zj BK220.out 0).trans rfl;have hcz39_1 : w35.cell? ⟨gb220,1,none⟩ = some (.int .i64 a0_1):=(Zj BK220.out 1).trans rfl;have hcz39_2 : w35.cell? ⟨gb220,2,none⟩ = some (.slice A0_2 l0_2.length c0_2):=(Zj BK220.out 2).trans rfl;have hfz39_0:=Zm BK220.out 0;have hfz39_1:=Zm BK220.out 1;have hfz39_2:=Zm BK220.out 2)|((with_reducible refine Zp (b:=.append) (xs:=#[.tmp 22,.tmp 24]) rfl ?_);(try (refine gate_guard (by rfl) ?_;dsimp only));at_builtin;refine Kd.R_append_rows (Kd.int .u8) (w0:=w) w.heap.size rfl (.tmp 22) (.tmp 24) 22 5 (.int .u8 0) 1 rfl Try.underlying22 info5 rfl (by decide) (by omega) v232 y231 l0_2 _ _ _ (fun k_=>some k_ ≠ (.slice Ao15 t226.length co15 : Value).ownBlock) (fun _=>False) rfl rfl ?aO ?aR (fun _ _ h=>h) (fun _ h=>h.elim) ?aF ?aB ?aS ?aL ?_;(case aR=>repeat (first|exact (Zr HR0_2.out HB.out)|(with_reducible refine Ze ?_ _)|(with_reducible refine Zd ?_ _)|(with_reducible refine Zf ?_)));(case aB=>exact (by repeat (first|(with_reducible first|exact HB.out|apply Z6|apply Z1|apply Z5|refine Z7 ?_ GE220.out|refine Z7 ?_ GE221.out|refine Z7 ?_ GE229.out)|exact HB.out)));(case aF=>exact (fun k_ hk=>Kd.fresh' (Zk (by (with_reducible repeat (first|apply Z3|apply Z2|apply Z4));exact HO_230002.out)) k_ hk));(case aO=>exact (by (with_reducible repeat (first|apply Z3|apply Z2|apply Z4));exact Zq HO233.out (fun _ hk=>hk.2)));(case aS=>exact (Zc (by repeat (first|(with_reducible first|exact HB.out|apply Z6|apply Z1|apply Z5|refine Z7 ?_ GE220.out|refine Z7 ?_ GE221.out|refine Z7 ?_ GE229.out)|exact HB.out))));(case aL=>have:=LMc33.out;omega);intro v235 w40 ho hb hg hat;rw [← Ny234.out] at ho;have n0_:=Z0 (Kd.R_over' (by (with_reducible repeat (first|apply Z3|apply Z2|apply Z4));exact HO_230000.out) (Kd.R_typed (by (with_reducible repeat (first|apply Z3|apply Z2|apply Z4));exact HO233.out)) (by decide) hg);have n1_:=Z0 (Kd.R_after (ok:=(fun _=>True)) (by (with_reducible repeat (first|apply Z3|apply Z2|apply Z4));exact HO_230002.out) hg hat);have n2_:=Z0 (blk_grown (g:=gb220) (o:=.cells #[.slice A0_0 l0_0.length c0_0,.int .i64 a0_1,.slice A0_2 l0_2.length c0_2] 31 (0,0)) (by (with_reducible repeat (first|refine Z9 ?_ _|refine Zb ?_|refine Za ?_ _));exact BK220.out) hg (Kd.R_ne HO233.out BK220.out (by decide)));have n3_:=Z0 (blk_grown (g:=gb221) (o:=.cells #[.slice none 0 0,.int .i64 0,.slice none 0 0] 31 (0,0)) (by (with_reducible repeat (first|refine Z9 ?_ _|refine Zb ?_|refine Za ?_ _));exact BK221.out) hg (Kd.R_ne HO233.out BK221.out (by decide)));have n4_:=Z0 (blk_grown (g:=gb229) (o:=.cells #[.slice Ao11 t222.length co11,.int .i64 t225,.slice Ao15 t226.length co15] 31 (0,0)) (by (with_reducible repeat (first|refine Z9 ?_ _|refine Zb ?_|refine Za ?_ _));exact BK229.out) hg (Kd.R_ne HO233.out BK229.out (by decide)));have n5_:=Z0 (hb);have n6_:=Z0 (ho);clear HO_230000;clear HO_230002;clear BK220;clear BK221;clear BK229;clear HB;clear HO233;have HO_230000:=n0_;have HO_230002:=n1_;have BK220:=n2_;have BK221:=n3_;have BK229:=n4_;have HB:=n5_;have HO236:=n6_;clear n0_ n1_ n2_ n3_ n4_ n5_ n6_;clear ho hb hg hat)|((with_reducible refine Zp (b:=.append) (xs:=#[.tmp 25,.tmp 26]) rfl ?_);(try (refine gate_guard (by rfl) ?_;dsimp only));at_builtin;refine Kd.R_append_rows (Kd.int .u8) (w0:=w) w.heap.size rfl (.tmp 25) (.tmp 26) 22 5 (.int .u8 0) 1 rfl Try.underlying22 info5 rfl (by decide) (by omega) v235 y234 l1 _ _ _ (fun k_=>some k_ ≠ (.slice Ao15 t226.length co15 : Value).ownBlock) (fun _=>False) rfl rfl ?aO ?aR (fun _ _ h=>h) (fun _ h=>h.elim) ?aF ?aB ?aS ?aL ?_;(case aR=>repeat (first|exact (Zr HR1.out HB.out)|(with_reducible refine Ze ?_ _)|(with_reducible refine Zd ?_ _)|(with_reducible refine Zf ?_)));(case aB=>exact (by repeat (first|(with_reducible first|exact HB.out|apply Z6|apply Z1|apply Z5|refine Z7 ?_ GE220.out|refine Z7 ?_ GE221.out|refine Z7 ?_ GE229.out)|exact HB.out)));(case aF=>exact (fun k_ hk=>Kd.fresh' (Zk (by (with_reducible repeat (first|apply Z3|apply Z2|apply Z4));exact HO_230002.out)) k_ hk));(case aO=>exact (by (with_reducible repeat (first|apply Z3|apply Z2|apply Z4));exact HO236.out));(case aS=>exact (Zc (by repeat (first|(with_reducible first|exact HB.out|apply Z6|apply Z1|apply Z5|refine Z7 ?_ GE220.out|refine Z7 ?_ GE221.out|refine Z7 ?_ GE229.out)|exact HB.out))));(case aL=>have:=LMc34.out;omega);intro v238 w41 ho hb hg hat;rw [← Ny237.out] at ho;have n0_:=Z0 (Kd.R_over' (by (with_reducible repeat (first|apply Z3|apply Z2|apply Z4));exact HO_230000.out) (Kd.R_typed (by (with_reducible repeat (first|apply Z3|apply Z2|apply Z4));exact HO236.out)) (by decide) hg);have n1_:=Z0 (Kd.R_after (ok:=(fun _=>True)) (by (with_reducible repeat (first|apply Z3|apply Z2|apply Z4));exact HO_230002.out) hg hat);have n2_:=Z0 (blk_grown (g:=gb220) (o:=.cells #[.slice A0_0 l0_0.length c0_0,.int .i64 a0_1,.slice A0_2 l0_2.length c0_2] 31 (0,0)) (by (with_reducible repeat (first|refine Z9 ?_ _|refine Zb ?_|refine Za ?_ _));exact BK220.out) hg (Kd.R_ne HO236.out BK220.out (by decide)));have n3_:=Z0 (blk_grown (g:=gb221) (o:=.cells #[.slice none 0 0,.int .i64 0,.slice none 0 0] 31 (0,0)) (by (with_reducible repeat (first|refine Z9 ?_ _|refine Zb ?_|refine Za ?_ _));exact BK221.out) hg (Kd.R_ne HO236.out BK221.out (by decide)));have n4_:=Z0 (blk_grown (g:=gb229) (o:=.cells #[.slice Ao11 t222.length co11,.int .i64 t225,.slice Ao15 t226.length co15] 31 (0,0)) (by (with_reducible repeat (first|refine Z9 ?_ _|refine Zb ?_|refine Za ?_ _));exact BK229.out) hg (Kd.R_ne HO236.out BK229.out (by decide)));have n5_:=Z0 (hb);have n6_:=Z0 (ho);clear HO_230000;clear HO_230002;clear BK220;clear BK221;clear BK229;clear HB;clear HO236;have HO_230000:=n0_;have HO_230002:=n1_;have BK220:=n2_;have BK221:=n3_;have BK229:=n4_;have HB:=n5_;have HO239:=n6_;clear n0_ n1_ n2_ n3_ n4_ n5_ n6_;clear ho hb hg hat))
   go_loopg [7] kj3 (fun kq v7 w'=>∃ (x7_2 : Int) (x230000_2 : List Int) (u230000 : Value),v7 = .int .i64 x7_2 ∧ Aside0 (spec_SumAdd.l0 kq l1 y237 x7_2 l0_0 a0_1 l0_2 x230000_2 t225 t226 = some (r1,r2,r3)) ∧ Aside0 (kq ≤ kj3) ∧ Aside0 (Kd.R (Kd.int .u8) 5 w' w.heap.size (fun k_=>some k_ ≠ ((.slice Ao15 t226.length co15) : Value).ownBlock) v238 y237) ∧ Aside0 (Kd.R (Kd.int .i64) 3 w' w.heap.size (fun _=>True) u230000 x230000_2) ∧ Aside0 (Kd.R (Kd.int .u8) 5 w' w.heap.size (fun k_=>some k_ ≠ (v238 : Value).ownBlock) (.slice Ao15 t226.length co15) t226) ∧ Aside0 (w'.heap[gb220]? = some (.cells #[(.slice A0_0 l0_0.length c0_0),.int .i64 a0_1,(.slice A0_2 l0_2.length c0_2)] 31 (0,0))) ∧ Aside0 (w'.heap[gb221]? = some (.cells #[(.slice none 0 0),.int .i64 0,(.slice none 0 0)] 31 (0,0))) ∧ Aside0 (w'.heap[gb229]? = some (.cells #[u230000,.int .i64 t225,(.slice Ao15 t226.length co15)] 31 (0,0))) ∧ Aside0 (Below w.heap.size w w'))
   case atStart=>exact ⟨(0),(t222),(.slice Ao11 t222.length co11),(by first|rfl|(simp;done)|(simp [*];done)),H',⟨ZZ37 _⟩,⟨by (with_reducible repeat (first|apply Z3|apply Z2|apply Z4));exact HO239.out⟩,⟨by (with_reducible repeat (first|apply Z3|apply Z2|apply Z4));exact HO_230000.out⟩,⟨by (with_reducible repeat (first|apply Z3|apply Z2|apply Z4));exact Zq HO_230002.out (fun _ hk=>hk.2)⟩,⟨by (with_reducible repeat (first|refine Z9 ?_ _|refine Zb ?_|refine Za ?_ _));exact BK220.out⟩,⟨by (with_reducible repeat (first|refine Z9 ?_ _|refine Zb ?_|refine Za ?_ _));exact BK221.out⟩,⟨by (with_reducible repeat (first|refine Z9 ?_ _|refine Zb ?_|refine Za ?_ _));exact BK229.out⟩,⟨by repeat (first|(with_reducible first|exact HB.out|apply Z6|apply Z1|apply Z5|refine Z7 ?_ GE220.out|refine Z7 ?_ GE221.out|refine Z7 ?_ GE229.out)|exact HB.out)⟩⟩
   case round =>
    clear H'
    (try clear c1);(try clear c2);(try clear p2);(try clear c3);(try clear p6);(try clear c7);(try clear c12);(try clear c13);(try clear c15);(try clear c17);(try clear c18);(try clear c19);(try clear c20);(try clear c22);(try clear c23);(try clear c24);(try clear c27);(try clear c28);(try clear c29);(try clear c31);(try clear c33);(try clear c34);(try clear c37);(try clear c38);(try clear hcz14_0);(try clear hcz14_1);(try clear hcz14_2);(try clear hcz20_0);(try clear hcz20_1);(try clear hcz20_2);(try clear hcz22_0);(try clear hcz22_1);(try clear hcz22_2);(try clear hcz25_0);(try clear hcz25_1);(try clear hcz25_2);(try clear hcz30_0);(try clear hcz30_1);(try clear hcz30_2);(try clear hcz32_0);(try clear hcz32_1);(try clear hcz32_2);(try clear hcz39_0);(try clear hcz39_1);(try clear hcz39_2);(try clear hcz8_0);(try clear hcz8_1);(try clear hcz8_2);(try clear hfz14_0);(try clear hfz14_1);(try clear hfz14_2);(try clear hfz20_0);(try clear hfz20_1);(try clear hfz20_2);(try clear hfz22_0);(try clear hfz22_1);(try clear hfz22_2);(try clear hfz25_0);(try clear hfz25_1);(try clear hfz25_2);(try clear hfz30_0);(try clear hfz30_1);(try clear hfz30_2);(try clear hfz32_0);(try clear hfz32_1);(try clear hfz32_2);(try clear hfz39_0);(try clear hfz39_1);(try clear hfz39_2);(try clear hfz8_0);(try clear hfz8_1);(try clear hfz8_2);(try clear p2);(try clear p6)
    obtain ⟨x7_2,x230000_2,u230000,rfl,HA,HK2,HO_6,HO_230000,HO_230002,BK220,BK221,BK229,HB⟩:=hrel
    cases gk with
    | zero=>exact absurd HA.out (by simp [spec_SumAdd.l0])
    | succ k2 =>
     have H:=HA.out
     clear HA
     simp only [spec_SumAdd.l0] at H
     by_cases c42 : (wrap64 ((y237.length : Int) - x7_2)) ≥ 64
     case neg =>
      rw [if_neg c42] at H
      have c42b0 : decide (64 ≤ (wrap64 ((y237.length : Int) - x7_2))) = false:=decide_eq_false c42
      clear c42
      obtain ⟨y247,hy247⟩ : ∃ y_ : List Int,y_ = (([] : List Int)):=⟨_,rfl⟩
      replace H : (if 0 ≤ x7_2 then (if x7_2 ≤ (y237.length : Int) then ((some (y237.drop (x7_2 : Int).toNat : List Int)).bind fun y250=>(if y247.length + y250.length < 140737488355328 then (some (x230000_2,wrap64 (a0_1 + (l1.length : Int)),(y247 ++ y250))) else (none))) else (none)) else (none)) = some (r1,r2,r3):=by first|(rw [hy247];with_reducible exact H)|(have H2_:=(Zv _ _).symm.trans H;rw [hy247];with_reducible exact H2_)|(have H2_:=(Zv _ _).symm.trans H;with_reducible exact H2_)|with_reducible exact H|(rw [hy247];exact H)|exact H
      have Ny247:=Z0 hy247
      clear hy247
      by_cases c54 : 0 ≤ x7_2
      case neg =>
       rw [if_neg c54] at H
       exact absurd H (by simp)
      rw [if_pos c54] at H
      have c54b0:=eq_true c54
      have c54b1 : decide (0 ≤ x7_2) = true:=decide_eq_true c54
      clear c54
      by_cases c55 : x7_2 ≤ (y237.length : Int)
      case neg =>
       rw [if_neg c55] at H
       exact absurd H (by simp)
      rw [if_pos c55] at H
      have c55b0:=eq_true c55
      have c55b1 : decide (x7_2 ≤ (y237.length : Int)) = true:=decide_eq_true c55
      clear c55
      obtain ⟨y250,hy250⟩ : ∃ y_ : List Int,y_ = (y237.drop (x7_2 : Int).toNat):=⟨_,rfl⟩
      replace H : (if y247.length + y250.length < 140737488355328 then (some (x230000_2,wrap64 (a0_1 + (l1.length : Int)),(y247 ++ y250))) else (none)) = some (r1,r2,r3):=by first|(rw [hy250];with_reducible exact H)|(have H2_:=(Zv _ _).symm.trans H;rw [hy250];with_reducible exact H2_)|(have H2_:=(Zv _ _).symm.trans H;with_reducible exact H2_)|with_reducible exact H|(rw [hy250];exact H)|exact H
      have Ny250:=Z0 hy250
      clear hy250
      by_cases c56 : y247.length + y250.length < 140737488355328
      case neg =>
       rw [if_neg c56] at H
       exact absurd H (by simp)
      rw [if_pos c56] at H
      have LMc56:=Z0 c56
      clear c56
      obtain ⟨y254,hy254⟩ : ∃ y_ : List Int,y_ = (y247 ++ y250):=⟨_,rfl⟩
      replace H : (some (x230000_2,wrap64 (a0_1 + (l1.length : Int)),y254)) = some (r1,r2,r3):=by first|(rw [hy254];with_reducible exact H)|(have H2_:=(Zv _ _).symm.trans H;rw [hy254];with_reducible exact H2_)|(have H2_:=(Zv _ _).symm.trans H;with_reducible exact H2_)|with_reducible exact H|(rw [hy254];exact H)|exact H
      have Ny254:=Z0 hy254
      clear hy254
      simp only [Option.some.injEq,Prod.mk.injEq] at H
      obtain ⟨rfl,rfl,rfl⟩:=H
      obtain ⟨Ao57,co57,eo57⟩:=Kd.R_slice HO_6.out
      subst eo57
      have hnb58:=NB220_221.out
      have hnc58:=NB221_220.out
      have hnb59:=NB220_229.out
      have hnc59:=NB229_220.out
      have hcz60_0 : wr.cell? ⟨gb220,0,none⟩ = some (.slice A0_0 l0_0.length c0_0):=(Zj BK220.out 0).trans rfl
      have hcz60_1 : wr.cell? ⟨gb220,1,none⟩ = some (.int .i64 a0_1):=(Zj BK220.out 1).trans rfl
      have hcz60_2 : wr.cell? ⟨gb220,2,none⟩ = some (.slice A0_2 l0_2.length c0_2):=(Zj BK220.out 2).trans rfl
      have hfz60_0:=Zm BK220.out 0
      have hfz60_1:=Zm BK220.out 1
      have hfz60_2:=Zm BK220.out 2
      have hnb61:=NB229_221.out
      have hnc61:=NB221_229.out
      have hcz62_0 : wr.cell? ⟨gb229,0,none⟩ = some (u230000):=(Zj BK229.out 0).trans rfl
      have hcz62_1 : wr.cell? ⟨gb229,1,none⟩ = some (.int .i64 t225):=(Zj BK229.out 1).trans rfl
      have hcz62_2 : wr.cell? ⟨gb229,2,none⟩ = some (.slice Ao15 t226.length co15):=(Zj BK229.out 2).trans rfl
      have hfz62_0:=Zm BK229.out 0
      have hfz62_1:=Zm BK229.out 1
      have hfz62_2:=Zm BK229.out 2
      go_wp2_with (first|((with_reducible refine gate_dst (N:=50) rfl ?_);(try (refine gate_guard (by rfl) ?_;dsimp only));refine Kd.R_lit (Kd.int .u8) _ 5 ?hg (N:=50) ?hd (xs:=([] : List Int)) (inner:=[]) (ok:=fun _=>True) (okp:=fun _=>True) ?hr ?hp (fun _ hk=>hk) trivial (ZZ38 _ _) (ZZ37 _) (by simp) ?_;(case hd=>rfl);(case hg=>rfl);(case hr=>first|(go_simp;done)|(go_simp;rfl));(case hp=>exact (Reps.none _ _));intro v248 w63 ho64 hb hg_ hnew_;clear hg_ hnew_;(first|rw [← Ny247.out] at ho64|(simp only [Int.reduceToNat] at ho64;rw [← Ny247.out] at ho64));have n0_:=Z0 (Zg (by (with_reducible repeat (first|apply Z3|apply Z2|apply Z4));exact (Zq (Kd.R_far (p:=⟨gb229,1,none⟩) (Kd.R_types HO_6.out BK229.out (by decide)) (fun _ hk=>hk.2) (.int .i64 (wrap64 (a0_1 + (l1.length : Int))))) (fun _ h_=>h_.1))) (Zi ho64) hb);have n1_:=Z0 (Kd.R_below (by (with_reducible repeat (first|apply Z3|apply Z2|apply Z4));exact (Zq (Kd.R_far (p:=⟨gb229,1,none⟩) (Kd.R_types HO_230000.out BK229.out (by decide)) (fun _ hk=>hk.2) (.int .i64 (wrap64 (a0_1 + (l1.length : Int))))) (fun _ h_=>h_.1))) hb);have n2_:=Z0 (Zg (by (with_reducible repeat (first|apply Z3|apply Z2|apply Z4));exact (Zq (Kd.R_far (p:=⟨gb229,1,none⟩) (Kd.R_types HO_230002.out BK229.out (by decide)) (fun _ hk=>hk.2) (.int .i64 (wrap64 (a0_1 + (l1.length : Int))))) (fun _ h_=>h_.1))) (Zi ho64) hb);have n3_:=Z0 (Zn (Zh (Zh ho64 (Zk (by (with_reducible repeat (first|apply Z3|apply Z2|apply Z4));exact (Zq (Kd.R_far (p:=⟨gb229,1,none⟩) (Kd.R_types HO_6.out BK229.out (by decide)) (fun _ hk=>hk.2) (.int .i64 (wrap64 (a0_1 + (l1.length : Int))))) (fun _ h_=>h_.1))))) (Zk (by (with_reducible repeat (first|apply Z3|apply Z2|apply Z4));exact (Zq (Kd.R_far (p:=⟨gb229,1,none⟩) (Kd.R_types HO_230002.out BK229.out (by decide)) (fun _ hk=>hk.2) (.int .i64 (wrap64 (a0_1 + (l1.length : Int))))) (fun _ h_=>h_.1))))) (Zc (by repeat (first|(with_reducible first|exact HB.out|apply Z6|apply Z1|apply Z5|refine Z7 ?_ GE220.out|refine Z7 ?_ GE221.out|refine Z7 ?_ GE229.out)|exact HB.out))));have n4_:=Z0 (blk_below (g:=gb220) (o:=.cells #[.slice A0_0 l0_0.length c0_0,.int .i64 a0_1,.slice A0_2 l0_2.length c0_2] 31 (0,0)) (by (with_reducible repeat (first|refine Z9 ?_ _|refine Zb ?_|refine Za ?_ _));refine blk_far ?_ NB220_229.out _;(with_reducible repeat (first|refine Z9 ?_ _|refine Zb ?_|refine Za ?_ _));exact BK220.out) hb);have n5_:=Z0 (blk_below (g:=gb221) (o:=.cells #[.slice none 0 0,.int .i64 0,.slice none 0 0] 31 (0,0)) (by (with_reducible repeat (first|refine Z9 ?_ _|refine Zb ?_|refine Za ?_ _));refine blk_far ?_ NB221_229.out _;(with_reducible repeat (first|refine Z9 ?_ _|refine Zb ?_|refine Za ?_ _));exact BK221.out) hb);have n6_:=Z0 (blk_below (g:=gb229) (o:=.cells #[u230000,.int .i64 (wrap64 (a0_1 + (l1.length : Int))),.slice Ao15 t226.length co15] 31 (0,0)) (by (with_reducible repeat (first|refine Z9 ?_ _|refine Zb ?_|refine Za ?_ _));refine blk_put (cs:=#[u230000,.int .i64 t225,.slice Ao15 t226.length co15]) ?_ 1 _ rfl;(with_reducible repeat (first|refine Z9 ?_ _|refine Zb ?_|refine Za ?_ _));exact BK229.out) hb);have n7_:=Z0 (Zl (by repeat (first|(with_reducible first|exact HB.out|apply Z6|apply Z1|apply Z5|refine Z7 ?_ GE220.out|refine Z7 ?_ GE221.out|refine Z7 ?_ GE229.out)|exact HB.out)) hb);clear HO_6;clear HO_230000;clear HO_230002;clear BK220;clear BK221;clear BK229;clear HB;have HO_6:=n0_;have HO_230000:=n1_;have HO_230002:=n2_;have HO249:=n3_;have BK220:=n4_;have BK221:=n5_;have BK229:=n6_;have HB:=n7_;clear n0_ n1_ n2_ n3_ n4_ n5_ n6_ n7_;clear hb ho64;have q65 : (x7_2 : Int) ≤ ((y237.length : Int) : Int):=of_decide_eq_true (by first|(with_reducible assumption)|assumption);obtain ⟨i065,hi065,_,hsz65,_⟩:=info_parts info5;have hroom65 : y237.length ≤ co57:=(Z8 HO_6.out).2.1;have hC65 : Kd.C (Kd.int .u8) _ Ao57 y237.length y237:=(Z8 HO_6.out).2.2;have q065 : (0 : Int) ≤ (x7_2 : Int):=of_decide_eq_true (by first|(with_reducible assumption)|assumption);have hcut65:=cut_from (P:=Try.prog) 22 5 .i64 Try.underlying22 hi065 1 hsz65 Ao57 y237.length co57 x7_2 q065 q65;have hr65:=Kd.C_drop (m:=(x7_2 : Int).toNat) (c:=co57) hC65 (by omega) hroom65;obtain ⟨A65,hA65⟩ : ∃ A1,A1 = (if co57 = (x7_2 : Int).toNat then Ao57 else (Ao57 : Option Addr).map (·.add ((x7_2 : Int).toNat * 1))):=⟨_,rfl⟩;obtain ⟨c65,hc65⟩ : ∃ c1,c1 = co57 - (x7_2 : Int).toNat:=⟨_,rfl⟩;have hy65 : y250.length = y237.length - (x7_2 : Int).toNat:=(by rw [Ny250.out,Zw]<;>omega);rw [show (y237).drop (x7_2 : Int).toNat = y250 from Ny250.out.symm] at hr65;replace hr65 : Kd.C (Kd.int .u8) _ A65 y250.length y250:=(by rw [hA65];exact hr65);rw [← hy65,← hA65,← hc65] at hcut65;have HR253:=Z0 hr65;have HC253:=Z0 (show y250.length ≤ c65 from by rw [hy65,hc65];exact Nat.sub_le_sub_right hroom65 _);clear hr65 hC65 hroom65 hi065 hsz65 hc65;have KY65:=Z0 hy65;have KA65:=Z0 hA65;clear hy65 hA65;have KL65:=Z0 (show (x7_2 : Int).toNat ≤ y237.length from by omega);replace q65:=eq_true q65)|((with_reducible refine Zp (b:=.append) (xs:=#[.tmp 50,.tmp 53]) rfl ?_);(try (refine gate_guard (by rfl) ?_;dsimp only));at_builtin;refine Kd.R_append_rows (Kd.int .u8) (w0:=w) w.heap.size rfl (.tmp 50) (.tmp 53) 22 5 (.int .u8 0) 1 rfl Try.underlying22 info5 rfl (by decide) (by omega) v248 y247 y250 _ _ _ (fun k_=>some k_ ≠ (.slice Ao57 y237.length co57 : Value).ownBlock ∧ some k_ ≠ (.slice Ao15 t226.length co15 : Value).ownBlock) (fun _=>False) rfl rfl ?aO ?aR (fun _ _ h=>h) (fun _ h=>h.elim) ?aF ?aB ?aS ?aL ?_;(case aR=>repeat (first|exact (by repeat (first|(with_reducible exact HR253.out)|(with_reducible refine Ze ?_ _)|(with_reducible refine Zd ?_ _)|(with_reducible refine Zf ?_)|exact HR253.out))|(with_reducible refine Ze ?_ _)|(with_reducible refine Zd ?_ _)|(with_reducible refine Zf ?_)));(case aB=>exact (by repeat (first|(with_reducible first|exact HB.out|apply Z6|apply Z1|apply Z5|refine Z7 ?_ GE220.out|refine Z7 ?_ GE221.out|refine Z7 ?_ GE229.out)|exact HB.out)));(case aF=>exact (fun k_ hk=>⟨Kd.fresh' (Zk (by (with_reducible repeat (first|apply Z3|apply Z2|apply Z4));exact HO_6.out)) k_ hk,Kd.fresh' (Zk (by (with_reducible repeat (first|apply Z3|apply Z2|apply Z4));exact HO_230002.out)) k_ hk⟩));(case aO=>exact (by (with_reducible repeat (first|apply Z3|apply Z2|apply Z4));exact Zq HO249.out (fun _ hk=>⟨hk.1.2,hk.2⟩)));(case aS=>exact (Zc (by repeat (first|(with_reducible first|exact HB.out|apply Z6|apply Z1|apply Z5|refine Z7 ?_ GE220.out|refine Z7 ?_ GE221.out|refine Z7 ?_ GE229.out)|exact HB.out))));(case aL=>have:=LMc56.out;omega);intro v255 w66 ho hb hg hat;rw [← Ny254.out] at ho;have n0_:=Z0 (Kd.R_after (ok:=(fun k_=>some k_ ≠ (.slice Ao15 t226.length co15 : Value).ownBlock)) (by (with_reducible repeat (first|apply Z3|apply Z2|apply Z4));exact HO_6.out) hg hat);have n1_:=Z0 (Kd.R_over' (by (with_reducible repeat (first|apply Z3|apply Z2|apply Z4));exact HO_230000.out) (Kd.R_typed (by (with_reducible repeat (first|apply Z3|apply Z2|apply Z4));exact HO249.out)) (by decide) hg);have n2_:=Z0 (Kd.R_after (ok:=(fun k_=>some k_ ≠ (.slice Ao57 y237.length co57 : Value).ownBlock)) (by (with_reducible repeat (first|apply Z3|apply Z2|apply Z4));exact HO_230002.out) hg hat);have n3_:=Z0 (blk_grown (g:=gb220) (o:=.cells #[.slice A0_0 l0_0.length c0_0,.int .i64 a0_1,.slice A0_2 l0_2.length c0_2] 31 (0,0)) (by (with_reducible repeat (first|refine Z9 ?_ _|refine Zb ?_|refine Za ?_ _));exact BK220.out) hg (Kd.R_ne HO249.out BK220.out (by decide)));have n4_:=Z0 (blk_grown (g:=gb221) (o:=.cells #[.slice none 0 0,.int .i64 0,.slice none 0 0] 31 (0,0)) (by (with_reducible repeat (first|refine Z9 ?_ _|refine Zb ?_|refine Za ?_ _));exact BK221.out) hg (Kd.R_ne HO249.out BK221.out (by decide)));have n5_:=Z0 (blk_grown (g:=gb229) (o:=.cells #[u230000,.int .i64 (wrap64 (a0_1 + (l1.length : Int))),.slice Ao15 t226.length co15] 31 (0,0)) (by (with_reducible repeat (first|refine Z9 ?_ _|refine Zb ?_|refine Za ?_ _));exact BK229.out) hg (Kd.R_ne HO249.out BK229.out (by decide)));have n6_:=Z0 (hb);have n7_:=Z0 ((show Kd.C (Kd.int .u8) w66 A65 y250.length y250 from by rw [Ny250.out,KA65.out];exact Kd.C_drop (m:=(x7_2 : Int).toNat) (c:=co57) ((Z8 (Kd.R_after (ok:=(fun k_=>some k_ ≠ (.slice Ao15 t226.length co15 : Value).ownBlock)) (by (with_reducible repeat (first|apply Z3|apply Z2|apply Z4));exact HO_6.out) hg hat)).2.2) KL65.out ((Z8 (Kd.R_after (ok:=(fun k_=>some k_ ≠ (.slice Ao15 t226.length co15 : Value).ownBlock)) (by (with_reducible repeat (first|apply Z3|apply Z2|apply Z4));exact HO_6.out) hg hat)).2.1)));have n8_:=Z0 (ho);clear HO_6;clear HO_230000;clear HO_230002;clear BK220;clear BK221;clear BK229;clear HB;clear HR253;clear HO249;have HO_6:=n0_;have HO_230000:=n1_;have HO_230002:=n2_;have BK220:=n3_;have BK221:=n4_;have BK229:=n5_;have HB:=n6_;have HR253:=n7_;have HO256:=n8_;clear n0_ n1_ n2_ n3_ n4_ n5_ n6_ n7_ n8_;clear ho hb hg hat;obtain ⟨Ao67,co67,eo67⟩:=Kd.R_slice HO256.out;subst eo67;have hcz68_0 : w66.cell? ⟨gb229,0,none⟩ = some (u230000):=(Zj BK229.out 0).trans rfl;have hcz68_1 : w66.cell? ⟨gb229,1,none⟩ = some (.int .i64 (wrap64 (a0_1 + (l1.length : Int)))):=(Zj BK229.out 1).trans rfl;have hcz68_2 : w66.cell? ⟨gb229,2,none⟩ = some (.slice Ao15 t226.length co15):=(Zj BK229.out 2).trans rfl;have hfz68_0:=Zm BK229.out 0;have hfz68_1:=Zm BK229.out 1;have hfz68_2:=Zm BK229.out 2;obtain ⟨Ao69,co69,eo69⟩:=Kd.R_slice HO_230000.out;subst eo69;have hcz70_0 : w66.cell? ⟨gb221,0,none⟩ = some (.slice none 0 0):=(Zj BK221.out 0).trans rfl;have hcz70_1 : w66.cell? ⟨gb221,1,none⟩ = some (.int .i64 0):=(Zj BK221.out 1).trans rfl;have hcz70_2 : w66.cell? ⟨gb221,2,none⟩ = some (.slice none 0 0):=(Zj BK221.out 2).trans rfl;have hfz70_0:=Zm BK221.out 0;have hfz70_1:=Zm BK221.out 1;have hfz70_2:=Zm BK221.out 2))
      refine bodyPost_ret (results_cell_row rfl _ _ gb221 31 #[.slice Ao69 x230000_2.length co69,.int .i64 (wrap64 (a0_1 + (l1.length : Int))),.slice Ao67 y254.length co67] (0,0) _ rfl (by (with_reducible repeat (first|refine Z9 ?_ _|refine Zb ?_|refine Za ?_ _));refine blk_put (cs:=#[.slice Ao69 x230000_2.length co69,.int .i64 (wrap64 (a0_1 + (l1.length : Int))),.slice none 0 0]) ?_ 2 _ rfl;(with_reducible repeat (first|refine Z9 ?_ _|refine Zb ?_|refine Za ?_ _));refine blk_put (cs:=#[.slice Ao69 x230000_2.length co69,.int .i64 0,.slice none 0 0]) ?_ 1 _ rfl;(with_reducible repeat (first|refine Z9 ?_ _|refine Zb ?_|refine Za ?_ _));refine blk_put (cs:=#[.slice none 0 0,.int .i64 0,.slice none 0 0]) ?_ 0 _ rfl;(with_reducible repeat (first|refine Z9 ?_ _|refine Zb ?_|refine Za ?_ _));refine blk_far ?_ NB221_229.out _;(with_reducible repeat (first|refine Z9 ?_ _|refine Zb ?_|refine Za ?_ _));exact BK221.out) Try.underlying31 rfl (by kernel_rfl)) rfl ?_
      exact ⟨_,_,by first|rfl|(simp [errW_none,errW_some]<;>rfl)|(simp [*,errW_none,errW_some]<;>rfl),by (with_reducible repeat (first|apply Z3|apply Z2|apply Z4));exact Zq (Kd.R_far (p:=⟨gb221,2,none⟩) (Kd.R_far (p:=⟨gb221,1,none⟩) (Kd.R_far (p:=⟨gb221,0,none⟩) (Kd.R_far (p:=⟨gb229,2,none⟩) (Kd.R_types (Kd.R_types HO_230000.out BK229.out (by decide)) BK221.out (by decide)) (fun _ hk=>hk.1.2) (.slice Ao67 y254.length co67)) (fun _ hk=>hk.2) (.slice Ao69 x230000_2.length co69)) (fun _ hk=>hk.2) (.int .i64 (wrap64 (a0_1 + (l1.length : Int))))) (fun _ hk=>hk.2) (.slice Ao67 y254.length co67)) (fun _ hk=>trivial),by (with_reducible repeat (first|apply Z3|apply Z2|apply Z4));exact Zq (Kd.R_far (p:=⟨gb221,2,none⟩) (Kd.R_far (p:=⟨gb221,1,none⟩) (Kd.R_far (p:=⟨gb221,0,none⟩) (Kd.R_far (p:=⟨gb229,2,none⟩) (Kd.R_types (Kd.R_types HO256.out BK229.out (by decide)) BK221.out (by decide)) (fun _ hk=>hk.1.2) (.slice Ao67 y254.length co67)) (fun _ hk=>hk.2) (.slice Ao69 x230000_2.length co69)) (fun _ hk=>hk.2) (.int .i64 (wrap64 (a0_1 + (l1.length : Int))))) (fun _ hk=>hk.2) (.slice Ao67 y254.length co67)) (fun _ hk=>trivial),by repeat (first|(with_reducible first|exact HB.out|apply Z6|apply Z1|apply Z5|refine Z7 ?_ GE220.out|refine Z7 ?_ GE221.out|refine Z7 ?_ GE229.out)|exact HB.out)⟩
     rw [if_pos c42] at H
     have c42b0 : decide (64 ≤ (wrap64 ((y237.length : Int) - x7_2))) = true:=decide_eq_true c42
     clear c42
     by_cases c43 : 0 ≤ x7_2
     case neg =>
      rw [if_neg c43] at H
      exact absurd H (by simp)
     rw [if_pos c43] at H
     have c43b0:=eq_true c43
     have c43b1 : decide (0 ≤ x7_2) = true:=decide_eq_true c43
     clear c43
     by_cases c44 : x7_2 ≤ (wrap64 (x7_2 + 64))
     case neg =>
      rw [if_neg c44] at H
      exact absurd H (by simp)
     rw [if_pos c44] at H
     have c44b0:=eq_true c44
     have c44b1 : decide (x7_2 ≤ (wrap64 (x7_2 + 64))) = true:=decide_eq_true c44
     by_cases c45 : (wrap64 (x7_2 + 64)) ≤ (y237.length : Int)
     case neg =>
      rw [if_neg c45] at H
      exact absurd H (by simp)
     rw [if_pos c45] at H
     have c45b0:=eq_true c45
     have c45b1 : decide ((wrap64 (x7_2 + 64)) ≤ (y237.length : Int)) = true:=decide_eq_true c45
     obtain ⟨y240,hy240⟩ : ∃ y_ : List Int,y_ = ((y237.take ((wrap64 (x7_2 + 64)) : Int).toNat).drop (x7_2 : Int).toNat):=⟨_,rfl⟩
     replace H : ((spec_l7Block.f k2 x230000_2 y240).bind fun t244=>(spec_SumAdd.l0 k2 l1 y237 (wrap64 (x7_2 + 64)) l0_0 a0_1 l0_2 t244 t225 t226)) = some (r1,r2,r3):=by first|(rw [hy240];with_reducible exact H)|(have H2_:=(Zv _ _).symm.trans H;rw [hy240];with_reducible exact H2_)|(have H2_:=(Zv _ _).symm.trans H;with_reducible exact H2_)|with_reducible exact H|(rw [hy240];exact H)|exact H
     have Ny240:=Z0 hy240
     clear hy240
     replace H:=Option.bind_eq_some_iff.mp H
     obtain ⟨t244,A460,H⟩:=H
     replace H : (spec_SumAdd.l0 k2 l1 y237 (wrap64 (x7_2 + 64)) l0_0 a0_1 l0_2 t244 t225 t226) = some (r1,r2,r3):=H
     have A46:=Z0 A460
     clear A460
     have H':=Z0 H
     clear H
     obtain ⟨Ao47,co47,eo47⟩:=Kd.R_slice HO_6.out
     subst eo47
     try go_wp2
     have n0_:=Z0 (Z4 HO_6.out)
     have n1_:=Z0 (Z4 HO_230000.out)
     have n2_:=Z0 (Z4 HO_230002.out)
     have n3_:=Z0 (Zb BK220.out)
     have n4_:=Z0 (Zb BK221.out)
     have n5_:=Z0 (Zb BK229.out)
     have n6_:=Z0 (Z5 HB.out)
     clear HO_6
     clear HO_230000
     clear HO_230002
     clear BK220
     clear BK221
     clear BK229
     clear HB
     have HO_6:=n0_
     have HO_230000:=n1_
     have HO_230002:=n2_
     have BK220:=n3_
     have BK221:=n4_
     have BK229:=n5_
     have HB:=n6_
     clear n0_ n1_ n2_ n3_ n4_ n5_ n6_
     have q49 : ((wrap64 (x7_2 + 64)) : Int) ≤ ((y237.length : Int) : Int):=of_decide_eq_true (by first|(with_reducible assumption)|assumption)
     obtain ⟨i049,hi049,_,hsz49,_⟩:=info_parts info5
     have hroom49 : y237.length ≤ co47:=(Z8 HO_6.out).2.1
     have hC49 : Kd.C (Kd.int .u8) _ Ao47 y237.length y237:=(Z8 HO_6.out).2.2
     have ql49 : (x7_2 : Int) ≤ ((wrap64 (x7_2 + 64)) : Int):=of_decide_eq_true (by first|(with_reducible assumption)|assumption)
     have q049 : (0 : Int) ≤ (x7_2 : Int):=of_decide_eq_true (by first|(with_reducible assumption)|assumption)
     have hcut49:=cut_mid (P:=Try.prog) 22 5 .i64 .i64 Try.underlying22 hi049 1 hsz49 Ao47 y237.length co47 x7_2 (wrap64 (x7_2 + 64)) q049 ql49 q49 hroom49
     have hr49:=Kd.C_mid (lo:=(x7_2 : Int).toNat) (hi:=((wrap64 (x7_2 + 64)) : Int).toNat) (c:=co47) hC49 (by omega) (by omega) hroom49
     obtain ⟨A49,hA49⟩ : ∃ A1,A1 = (if co47 = (x7_2 : Int).toNat then Ao47 else (Ao47 : Option Addr).map (·.add ((x7_2 : Int).toNat * 1))):=⟨_,rfl⟩
     obtain ⟨c49,hc49⟩ : ∃ c1,c1 = co47 - (x7_2 : Int).toNat:=⟨_,rfl⟩
     have hy49 : y240.length = ((wrap64 (x7_2 + 64)) : Int).toNat - (x7_2 : Int).toNat:=(by rw [Ny240.out,Zw,Zx]<;>omega)
     rw [show ((y237).take ((wrap64 (x7_2 + 64)) : Int).toNat).drop (x7_2 : Int).toNat = y240 from Ny240.out.symm] at hr49
     replace hr49 : Kd.C (Kd.int .u8) _ A49 y240.length y240:=(by rw [hA49];exact hr49)
     rw [← hy49,← hA49,← hc49] at hcut49
     have HR243:=Z0 hr49
     have HC243:=Z0 (show y240.length ≤ c49 from by rw [hy49,hc49];exact Nat.sub_le_sub_right (Nat.le_trans (by omega) hroom49) _)
     clear hr49 hC49 hroom49 hi049 hsz49 hc49
     have KY49:=Z0 hy49
     have KA49:=Z0 hA49
     clear hy49 hA49
     have KL49:=Z0 (show ((wrap64 (x7_2 + 64)) : Int).toNat ≤ y237.length from by omega)
     have KM49:=Z0 (show (x7_2 : Int).toNat ≤ ((wrap64 (x7_2 + 64)) : Int).toNat from by omega)
     replace q49:=eq_true q49
     obtain ⟨Ao50,co50,eo50⟩:=Kd.R_slice HO_230000.out
     (first|subst eo50|(injection eo50 with f1_ f2_ f3_;have f4_:=f1_.symm;have f5_:=f3_.symm;clear f1_ f2_ f3_;subst f4_;subst f5_))
     refine start_ (n:=10) (S:=fun w'=>w'.cell? ⟨gb229,0,none⟩ = some (.slice Ao50 x230000_2.length co50) ∧ w'.cell? ⟨gb229,1,none⟩ = some (.int .i64 t225) ∧ w'.cell? ⟨gb229,2,none⟩ = some (.slice Ao15 t226.length co15)) (ds:=[9]) #[false,false,false,false,false,false,false,false,false,false] (by kernel_rfl) rfl rfl ⟨(Zj BK229.out 0).trans rfl,(Zj BK229.out 1).trans rfl,(Zj BK229.out 2).trans rfl⟩ (fun hHeld=>?_);refine with_tabW spec_SumAdd.tab7 spec_SumAdd.bits7 (fun HT_ HW_=>?_)
     generalize wr.drew = w48 at HO_6 HO_230000 HO_230002 BK220 BK221 BK229 HB HR243 hHeld ⊢
     refine pure_ (i:=0) (N:=some 33) (v:=?_) (a':=?_) #[true,false,false,false,false,false,false,false,false,false] rfl rfl (any_of HT_.out (by kernel_rfl)) (fun _ _ _ h=>h) (Or.inl ⟨by rfl,?_⟩) ?_ ?_
     rotate_left
     · intro w'
       go_simp
       with_reducible rfl
     rotate_left
     · simp only [Act.put, Zs, Zt, Zu, i64_w, i32_w]
       rfl
     refine pure_ (i:=2) (N:=some 35) (v:=?_) (a':=?_) #[true,false,true,false,false,false,false,false,false,false] rfl rfl (any_of HT_.out (by kernel_rfl)) (fun _ _ _ h=>h) (Or.inl ⟨by rfl,?_⟩) ?_ ?_
     rotate_left
     · intro w'
       go_simp
       with_reducible rfl
     rotate_left
     · simp only [Act.put, Zs, Zt, Zu, i64_w, i32_w]
       rfl
     refine pure_ (i:=3) (N:=some 36) (v:=?_) (a':=?_) #[true,false,true,true,false,false,false,false,false,false] rfl rfl (any_of HT_.out (by kernel_rfl)) (fun _ _ _ h=>h) (Or.inl ⟨by rfl,?_⟩) ?_ ?_
     rotate_left
     · intro w'
       go_simp
       with_reducible rfl
     rotate_left
     · simp only [Act.put, Zs, Zt, Zu, i64_w, i32_w]
       rfl
     refine pure_ (i:=4) (N:=some 37) (v:=?_) (a':=?_) #[true,false,true,true,true,false,false,false,false,false] rfl rfl (any_of HT_.out (by kernel_rfl)) (fun _ _ _ h=>h) (Or.inl ⟨by rfl,?_⟩) ?_ ?_
     rotate_left
     · intro w'
       go_simp
       with_reducible rfl
     rotate_left
     · simp only [Act.put, Zs, Zt, Zu, i64_w, i32_w]
       rfl
     refine pure_ (i:=5) (N:=some 38) (v:=?_) (a':=?_) #[true,false,true,true,true,true,false,false,false,false] rfl rfl (any_of HT_.out (by kernel_rfl)) (fun _ _ _ h=>h) (Or.inl ⟨by rfl,?_⟩) ?_ ?_
     rotate_left
     · intro w'
       go_simp
       with_reducible rfl
     rotate_left
     · simp only [Act.put, Zs, Zt, Zu, i64_w, i32_w]
       rfl
     refine pure_ (i:=6) (N:=some 39) (v:=?_) (a':=?_) #[true,false,true,true,true,true,true,false,false,false] rfl rfl (any_of HT_.out (by kernel_rfl)) (fun _ _ _ h=>h) (Or.inl ⟨by rfl,?_⟩) ?_ ?_
     rotate_left
     · intro w'
       go_simp
       with_reducible rfl
     rotate_left
     · simp only [Act.put, Zs, Zt, Zu, i64_w, i32_w]
       rfl
     refine take_ (i:=1) (N:=some 34) (v:=?_) (a':=?_) #[true,true,true,true,true,true,true,false,false,false] rfl rfl (take_ofW HT_.out HW_.out (by kernel_rfl)) (fun _ _ _ h=>h) (Or.inl ⟨by rfl,?_⟩) hHeld ?_ ?_
     rotate_left
     · rintro w' ⟨s0, s1, s2⟩
       go_simp
       with_reducible rfl
     rotate_left
     · simp only [Act.put, Zs, Zt, Zu, i64_w, i32_w]
       rfl
     refine one_ (i:=7) (N:=some 40) #[true,true,true,true,true,true,true,true,false,false] rfl rfl (one_of HT_.out (by kernel_rfl)) (by decide) (fun K hK=>?_)
     refine goes_ Try.func21 (by kernel_rfl) rfl #[.slice Ao50 x230000_2.length co50,.slice A49 y240.length c49] (by rfl) rfl rfl (by (try simp only [Zy,Zz,ZZ36]);first|done|rfl|(simp only [Zw,Zx];rfl)) ?_
     with_reducible refine (spec_l7Block.calls k2 _ _ x230000_2 _ _ y240 t244 _ ?side1 ?side2 ?side3 ?side4 A46.out).mono ?_
     (case side1=>repeat (first|exact (Z8 HO_230000.out).2.2|(with_reducible refine Ze ?_ _)|(with_reducible refine Zd ?_ _)|(with_reducible refine Zf ?_)))
     (case side2=>exact (Z8 HO_230000.out).2.1)
     (case side3=>repeat (first|exact (by repeat (first|(with_reducible exact HR243.out)|(with_reducible refine Ze ?_ _)|(with_reducible refine Zd ?_ _)|(with_reducible refine Zf ?_)|exact HR243.out))|(with_reducible refine Ze ?_ _)|(with_reducible refine Zd ?_ _)|(with_reducible refine Zf ?_)))
     (case side4=>exact HC243.out)
     rintro e w51 ⟨v245,rfl,ho0,hb⟩
     refine ⟨_,rfl,?_⟩
     have n0_:=Z0 (Kd.R_below (by (with_reducible repeat (first|apply Z3|apply Z2|apply Z4));exact HO_6.out) hb)
     have n1_:=Z0 (Zg (by (with_reducible repeat (first|apply Z3|apply Z2|apply Z4));exact HO_230000.out) (Zi ho0) hb)
     have n2_:=Z0 (Kd.R_below (by (with_reducible repeat (first|apply Z3|apply Z2|apply Z4));exact HO_230002.out) hb)
     have n3_:=Z0 (Zn (Zh ho0 (Zk (by (with_reducible repeat (first|apply Z3|apply Z2|apply Z4));exact HO_230000.out))) (Zc (by repeat (first|(with_reducible first|exact HB.out|apply Z6|apply Z1|apply Z5|refine Z7 ?_ GE220.out|refine Z7 ?_ GE221.out|refine Z7 ?_ GE229.out)|exact HB.out))))
     have n4_:=Z0 (blk_below (g:=gb220) (o:=.cells #[.slice A0_0 l0_0.length c0_0,.int .i64 a0_1,.slice A0_2 l0_2.length c0_2] 31 (0,0)) (by (with_reducible repeat (first|refine Z9 ?_ _|refine Zb ?_|refine Za ?_ _));exact BK220.out) hb)
     have n5_:=Z0 (blk_below (g:=gb221) (o:=.cells #[.slice none 0 0,.int .i64 0,.slice none 0 0] 31 (0,0)) (by (with_reducible repeat (first|refine Z9 ?_ _|refine Zb ?_|refine Za ?_ _));exact BK221.out) hb)
     have n6_:=Z0 (blk_below (g:=gb229) (o:=.cells #[.slice Ao50 x230000_2.length co50,.int .i64 t225,.slice Ao15 t226.length co15] 31 (0,0)) (by (with_reducible repeat (first|refine Z9 ?_ _|refine Zb ?_|refine Za ?_ _));exact BK229.out) hb)
     have n7_:=Z0 (Zr (by repeat (first|(with_reducible exact HR243.out)|(with_reducible refine Ze ?_ _)|(with_reducible refine Zd ?_ _)|(with_reducible refine Zf ?_)|exact HR243.out)) hb)
     have n8_:=Z0 (Zl (by repeat (first|(with_reducible first|exact HB.out|apply Z6|apply Z1|apply Z5|refine Z7 ?_ GE220.out|refine Z7 ?_ GE221.out|refine Z7 ?_ GE229.out)|exact HB.out)) hb)
     clear HO_6
     clear HO_230000
     clear HO_230002
     clear BK220
     clear BK221
     clear BK229
     clear HR243
     clear HB
     have HO_6:=n0_
     have HO_230000:=n1_
     have HO_230002:=n2_
     have HO246:=n3_
     have BK220:=n4_
     have BK221:=n5_
     have BK229:=n6_
     have HR243:=n7_
     have HB:=n8_
     clear n0_ n1_ n2_ n3_ n4_ n5_ n6_ n7_ n8_
     (try clear hb)
     (try clear hb2)
     (try clear hk)
     (try clear hi)
     (try clear ho0)
     obtain ⟨Ao52,co52,eo52⟩:=Kd.R_slice HO246.out
     (first|subst eo52|(injection eo52 with f1_ f2_ f3_;have f4_:=f1_.symm;have f5_:=f3_.symm;clear f1_ f2_ f3_;subst f4_;subst f5_))
     refine hK.out _ _ ⟨(Zj BK229.out 0).trans rfl,(Zj BK229.out 1).trans rfl,(Zj BK229.out 2).trans rfl⟩ (fun hHeld=>?_)
     clear hK K
     refine norm_ (a':=?_) ?_ ?_
     rotate_left
     · show Act.put _ (some 40) _ = _
       simp only [Act.put,Zs,Zt,Zu,i64_w,i32_w]
       rfl
     refine pure_ (i:=8) (N:=some 41) (v:=?_) (a':=?_) #[true,true,true,true,true,true,true,true,true,false] rfl rfl (any_of HT_.out (by kernel_rfl)) (fun _ _ _ h=>h) (Or.inl ⟨by rfl,?_⟩) ?_ ?_
     rotate_left
     · intro w'
       go_simp
       with_reducible rfl
     rotate_left
     · simp only [Act.put, Zs, Zt, Zu, i64_w, i32_w]
       rfl
     refine last_ (i:=9) (N:=none) #[true,true,true,true,true,true,true,true,true,true] rfl rfl (one_of HT_.out (by kernel_rfl)) (by decide) (fun K hK=>?_)
     have hs53 : w51.cell? ⟨gb229,0,none⟩ = some (.slice Ao50 x230000_2.length co50):=(Zj BK229.out 0).trans rfl
     have hfs53:=Zm BK229.out 0
     have hns53_0:=NB220_229.out
     have hns53_1:=NB221_229.out
     have hms53_0:=NB229_220.out
     have hms53_1:=NB229_221.out
     refine skip_ (w1:=?_) (by rfl) rfl ?_ ?_
     rotate_left
     · go_simp
       rfl
     refine hK.out _ _ ?_
     clear hK K
     refine done_ (done_of HT_.out (by kernel_rfl)) ?_
     try go_wp2
     go_roundg k2
     case measure=>have:=HJ3.out;have:=HK2.out;omega
     case rel=>exact ⟨(wrap64 (x7_2 + 64)),(t244),(.slice Ao52 t244.length co52),(by first|rfl|(simp;done)|(simp [*];done)),H',⟨by have:=HJ3.out;have:=HK2.out;omega⟩,⟨by (with_reducible repeat (first|apply Z3|apply Z2|apply Z4));exact Zq (Kd.R_far (p:=⟨gb229,0,none⟩) (Kd.R_types HO_6.out BK229.out (by decide)) (fun _ hk=>hk.2) (.slice Ao52 t244.length co52)) (fun _ hk=>hk.1)⟩,⟨by (with_reducible repeat (first|apply Z3|apply Z2|apply Z4));exact Zq (Kd.R_far (p:=⟨gb229,0,none⟩) (Kd.R_types HO246.out BK229.out (by decide)) (fun _ hk=>hk.2) (.slice Ao52 t244.length co52)) (fun _ hk=>trivial)⟩,⟨by (with_reducible repeat (first|apply Z3|apply Z2|apply Z4));exact Zq (Kd.R_far (p:=⟨gb229,0,none⟩) (Kd.R_types HO_230002.out BK229.out (by decide)) (fun _ hk=>hk.2) (.slice Ao52 t244.length co52)) (fun _ hk=>hk.1)⟩,⟨by (with_reducible repeat (first|refine Z9 ?_ _|refine Zb ?_|refine Za ?_ _));refine blk_far ?_ NB220_229.out _;(with_reducible repeat (first|refine Z9 ?_ _|refine Zb ?_|refine Za ?_ _));exact BK220.out⟩,⟨by (with_reducible repeat (first|refine Z9 ?_ _|refine Zb ?_|refine Za ?_ _));refine blk_far ?_ NB221_229.out _;(with_reducible repeat (first|refine Z9 ?_ _|refine Zb ?_|refine Za ?_ _));exact BK221.out⟩,⟨by (with_reducible repeat (first|refine Z9 ?_ _|refine Zb ?_|refine Za ?_ _));refine blk_put (cs:=#[.slice Ao50 x230000_2.length co50,.int .i64 t225,.slice Ao15 t226.length co15]) ?_ 0 _ rfl;(with_reducible repeat (first|refine Z9 ?_ _|refine Zb ?_|refine Za ?_ _));exact BK229.out⟩,⟨by repeat (first|(with_reducible first|exact HB.out|apply Z6|apply Z1|apply Z5|refine Z7 ?_ GE220.out|refine Z7 ?_ GE221.out|refine Z7 ?_ GE229.out)|exact HB.out)⟩⟩

/-! ### spec_SumNew: function 16 -/
def spec_SumNew.f  : Option (List Int × Int × List Int) := some ((([1779033703, 3144134277, 1013904242, 2773480762, 1359893119, 2600822924, 528734635, 1541459225] : List Int)), 0, ([] : List Int))
set_option maxHeartbeats 8000000 in
set_option maxRecDepth 100000 in
theorem spec_SumNew.calls  (r1 : List Int) (r2 : Int) (r3 : List Int) (w : World) (h : spec_SumNew.f  = some (r1, r2, r3)) :
 Calls Try.prog 16 #[] w fun e w' => ∃ v0_ v2_ : Value, e = .returned (.agg #[v0_, .int .i64 r2, v2_]) ∧ Kd.R (Kd.int .i64) 3 w' w.heap.size (fun _ => True) v0_ r1 ∧ Kd.R (Kd.int .u8) 5 w' w.heap.size (fun _ => True) v2_ r3 ∧ Below w.heap.size w w' := by
 have hu31:=Try.underlying31
 have HB:=Z0 (ZZ38 w.heap.size w)
 have H : (some ((([1779033703,3144134277,1013904242,2773480762,1359893119,2600822924,528734635,1541459225] : List Int)),0,([] : List Int))) = some (r1,r2,r3):=h
 clear h
 obtain ⟨y258,hy258⟩ : ∃ y_ : List Int,y_ = (([1779033703,3144134277,1013904242,2773480762,1359893119,2600822924,528734635,1541459225] : List Int)):=⟨_,rfl⟩
 replace H : (some (y258,0,([] : List Int))) = some (r1,r2,r3):=by first|(rw [hy258];with_reducible exact H)|(have H2_:=(Zv _ _).symm.trans H;rw [hy258];with_reducible exact H2_)|(have H2_:=(Zv _ _).symm.trans H;with_reducible exact H2_)|with_reducible exact H|(rw [hy258];exact H)|exact H
 have Ny258:=Z0 hy258
 clear hy258
 simp only [Option.some.injEq,Prod.mk.injEq] at H
 obtain ⟨rfl,rfl,rfl⟩:=H
 go_enter Try.func16,Try.ntmps16
 go_wp2_with (first|((with_reducible refine gate_dst (N:=0) rfl ?_);refine box_event ?hg (N:=0) ?hd (cs:=#[.slice none 0 0,.int .i64 0,.slice none 0 0]) (t:=31) ?hr ?_;(case hd=>rfl);(case hg=>rfl);(case hr=>first|(go_simp;done)|(go_simp;rfl));intro gb257 hg w1 hbox hb;have n0_:=Z0 (Zl (by repeat (first|(with_reducible first|exact HB.out|apply Z6|apply Z1|apply Z5)|exact HB.out)) hb);have n1_:=Z0 (hbox);have n2_:=Z0 ((by rw [hg];exact (Zc (by repeat (first|(with_reducible first|exact HB.out|apply Z6|apply Z1|apply Z5)|exact HB.out))) : w.heap.size ≤ gb257));have n3_:=Z0 ((by rw [hg];exact (Zc (by repeat (first|(with_reducible first|exact HB.out|apply Z6|apply Z1|apply Z5)|exact HB.out))) : w.heap.size ≤ gb257));clear HB;have HB:=n0_;have BK257:=n1_;have GW257:=n2_;have GE257:=n3_;clear n0_ n1_ n2_ n3_;clear hb hbox hg)|((with_reducible refine gate_dst (N:=1) rfl ?_);refine Kd.R_lit (Kd.int .i64) _ 3 ?hg (N:=1) ?hd (xs:=([1779033703,3144134277,1013904242,2773480762,1359893119,2600822924,528734635,1541459225] : List Int)) (inner:=[.int .i64 1779033703,.int .i64 3144134277,.int .i64 1013904242,.int .i64 2773480762,.int .i64 1359893119,.int .i64 2600822924,.int .i64 528734635,.int .i64 1541459225]) (ok:=fun _=>True) (okp:=fun _=>True) ?hr ?hp (fun _ hk=>hk) trivial (ZZ38 _ _) (ZZ37 _) (by simp) ?_;(case hd=>rfl);(case hg=>rfl);(case hr=>first|(go_simp;done)|(go_simp;rfl));(case hp=>exact (Reps.one (show Kd.M (Kd.int .i64) _ _ _ 1779033703 [.int .i64 1779033703] from rfl) (Reps.one (show Kd.M (Kd.int .i64) _ _ _ 3144134277 [.int .i64 3144134277] from rfl) (Reps.one (show Kd.M (Kd.int .i64) _ _ _ 1013904242 [.int .i64 1013904242] from rfl) (Reps.one (show Kd.M (Kd.int .i64) _ _ _ 2773480762 [.int .i64 2773480762] from rfl) (Reps.one (show Kd.M (Kd.int .i64) _ _ _ 1359893119 [.int .i64 1359893119] from rfl) (Reps.one (show Kd.M (Kd.int .i64) _ _ _ 2600822924 [.int .i64 2600822924] from rfl) (Reps.one (show Kd.M (Kd.int .i64) _ _ _ 528734635 [.int .i64 528734635] from rfl) (Reps.one (show Kd.M (Kd.int .i64) _ _ _ 1541459225 [.int .i64 1541459225] from rfl) (Reps.none _ _))))))))));intro v259 w2 ho3 hb hg_ hnew_;clear hg_ hnew_;(first|rw [← Ny258.out] at ho3|(simp only [Int.reduceToNat] at ho3;rw [← Ny258.out] at ho3));have n0_:=Z0 (Zn ho3 (Zc (by repeat (first|(with_reducible first|exact HB.out|apply Z6|apply Z1|apply Z5|refine Z7 ?_ GE257.out)|exact HB.out))));have n1_:=Z0 (blk_below (g:=gb257) (o:=.cells #[.slice none 0 0,.int .i64 0,.slice none 0 0] 31 (0,0)) (by (with_reducible repeat (first|refine Z9 ?_ _|refine Zb ?_|refine Za ?_ _));exact BK257.out) hb);have n2_:=Z0 (Zl (by repeat (first|(with_reducible first|exact HB.out|apply Z6|apply Z1|apply Z5|refine Z7 ?_ GE257.out)|exact HB.out)) hb);clear BK257;clear HB;have HO260:=n0_;have BK257:=n1_;have HB:=n2_;clear n0_ n1_ n2_;clear hb ho3;obtain ⟨Ao4,co4,eo4⟩:=Kd.R_slice HO260.out;subst eo4;have hcz5_0 : w2.cell? ⟨gb257,0,none⟩ = some (.slice none 0 0):=(Zj BK257.out 0).trans rfl;have hcz5_1 : w2.cell? ⟨gb257,1,none⟩ = some (.int .i64 0):=(Zj BK257.out 1).trans rfl;have hcz5_2 : w2.cell? ⟨gb257,2,none⟩ = some (.slice none 0 0):=(Zj BK257.out 2).trans rfl;have hfz5_0:=Zm BK257.out 0;have hfz5_1:=Zm BK257.out 1;have hfz5_2:=Zm BK257.out 2))
 refine bodyPost_ret (results_cell_row rfl _ _ gb257 31 #[.slice Ao4 y258.length co4,.int .i64 0,.slice none 0 0] (0,0) _ rfl (by (with_reducible repeat (first|refine Z9 ?_ _|refine Zb ?_|refine Za ?_ _));refine blk_put (cs:=#[.slice Ao4 y258.length co4,.int .i64 0,.slice none 0 0]) ?_ 2 _ rfl;(with_reducible repeat (first|refine Z9 ?_ _|refine Zb ?_|refine Za ?_ _));refine blk_put (cs:=#[.slice Ao4 y258.length co4,.int .i64 0,.slice none 0 0]) ?_ 1 _ rfl;(with_reducible repeat (first|refine Z9 ?_ _|refine Zb ?_|refine Za ?_ _));refine blk_put (cs:=#[.slice none 0 0,.int .i64 0,.slice none 0 0]) ?_ 0 _ rfl;(with_reducible repeat (first|refine Z9 ?_ _|refine Zb ?_|refine Za ?_ _));exact BK257.out) Try.underlying31 rfl (by kernel_rfl)) rfl ?_
 exact ⟨_,_,by first|rfl|(simp [errW_none,errW_some]<;>rfl)|(simp [*,errW_none,errW_some]<;>rfl),by (with_reducible repeat (first|apply Z3|apply Z2|apply Z4));exact Zq (Kd.R_far (p:=⟨gb257,2,none⟩) (Kd.R_far (p:=⟨gb257,1,none⟩) (Kd.R_far (p:=⟨gb257,0,none⟩) (Kd.R_types HO260.out BK257.out (by decide)) (fun _ hk=>hk.2) (.slice Ao4 y258.length co4)) (fun _ hk=>hk.2) (.int .i64 0)) (fun _ hk=>hk.2) (.slice none 0 0)) (fun _ hk=>trivial),by first|exact Kd.R_nil _ _ _ _ _|exact Kd.N_nil _ _ _ _ _|exact Kd.V_nil _ _ _ _ _|exact Kd.Q_nil _ _ _ _ _|exact Kd.S_nil _ _ _ _ _,by repeat (first|(with_reducible first|exact HB.out|apply Z6|apply Z1|apply Z5|refine Z7 ?_ GE257.out)|exact HB.out)⟩

/-! ### spec_Digest: function 10 -/
def spec_Digest.f (k : Nat) (l0 : List Int) : Option (List Int) := (spec_SumNew.f).bind fun bt261 => ((spec_SumAdd.f k bt261.1 bt261.2.1 bt261.2.2 l0).bind fun bt268 => ((spec_SumEnd.f k bt268.1 bt268.2.1 bt268.2.2).bind fun t275 => (some t275)))
theorem spec_Digest.mono : ∀ a0 k, LeO (spec_Digest.f k a0) (spec_Digest.f (k + 1) a0) := by
 intro a0 k
 unfold spec_Digest.f
 repeat' first
  | (with_reducible exact spec_SumAdd.mono _ _ _ _ _)
  | (with_reducible exact spec_SumEnd.mono _ _ _ _)
  | (with_reducible exact LeO.refl _)
  | (with_reducible exact LeO.none _)
  | (with_reducible refine LeO.ite ?_ ?_)
  | (with_reducible refine LeO.bind ?_ (fun _=>?_))
  | exact spec_SumAdd.mono _ _ _ _ _
  | exact spec_SumEnd.mono _ _ _ _
  | exact LeO.none _
  | refine LeO.ite ?_ ?_
  | refine LeO.bind ?_ (fun _=>?_)
set_option maxHeartbeats 8000000 in
set_option maxRecDepth 100000 in
theorem spec_Digest.calls (k : Nat) (A0 : Option Addr) (c0 : Nat) (l0 : List Int) (r : List Int) (w : World) (hr0 : Kd.C (Kd.int .u8) w A0 l0.length l0) (hc0 : l0.length ≤ c0) (h : spec_Digest.f k l0 = some r) :
 Calls Try.prog 10 #[.slice A0 l0.length c0] w fun e w' => ∃ v0_ : Value, e = .returned (v0_) ∧ Kd.R (Kd.int .u8) 5 w' w.heap.size (fun _ => True) v0_ r ∧ Below w.heap.size w w' := by
 have HR0:=Z0 hr0
 have HC0:=Z0 hc0
 clear hr0 hc0
 have HB:=Z0 (ZZ38 w.heap.size w)
 have H : ((spec_SumNew.f).bind fun bt261=>((spec_SumAdd.f k bt261.1 bt261.2.1 bt261.2.2 l0).bind fun bt268=>((spec_SumEnd.f k bt268.1 bt268.2.1 bt268.2.2).bind fun t275=>(some t275)))) = some r:=h
 clear h
 replace H:=Option.bind_eq_some_iff.mp H
 obtain ⟨⟨t261,t264,t265⟩,A20,H⟩:=H
 replace H : ((spec_SumAdd.f k t261 t264 t265 l0).bind fun bt268=>((spec_SumEnd.f k bt268.1 bt268.2.1 bt268.2.2).bind fun t275=>(some t275))) = some r:=H
 have A2:=Z0 A20
 clear A20
 replace H:=Option.bind_eq_some_iff.mp H
 obtain ⟨⟨t268,t271,t272⟩,A30,H⟩:=H
 replace H : ((spec_SumEnd.f k t268 t271 t272).bind fun t275=>(some t275)) = some r:=H
 have A3:=Z0 A30
 clear A30
 replace H:=Option.bind_eq_some_iff.mp H
 obtain ⟨t275,A40,H⟩:=H
 replace H : (some t275) = some r:=H
 have A4:=Z0 A40
 clear A40
 obtain rfl:=Option.some.inj H
 go_enter Try.func10,Try.ntmps10
 go_wp2_with (first|((with_reducible refine Zo (f:=16) rfl ?_);refine goesL_ (some 3) rfl rfl Try.func16 (by kernel_rfl) rfl #[] rfl (by (try simp only [Zy,Zz,ZZ36]);first|done|rfl|(simp only [Zw,Zx];rfl)) ?_;(with_reducible refine (spec_SumNew.calls  t261 t264 t265 _ A2.out).mono ?_);rintro e w5 ⟨v262,v266,rfl,ho0,ho1,hb⟩;refine ⟨_,rfl,?_⟩;have n0_:=Z0 (Zn ho0 (Zc (by repeat (first|(with_reducible first|exact HB.out|apply Z6|apply Z1|apply Z5)|exact HB.out))));have n1_:=Z0 (Zn ho1 (Zc (by repeat (first|(with_reducible first|exact HB.out|apply Z6|apply Z1|apply Z5)|exact HB.out))));have n2_:=Z0 (Zl (by repeat (first|(with_reducible first|exact HB.out|apply Z6|apply Z1|apply Z5)|exact HB.out)) hb);clear HB;have HO263:=n0_;have HO267:=n1_;have HB:=n2_;clear n0_ n1_ n2_;(try clear hb);(try clear hb2);(try clear hk);(try clear hi);(try clear ho0);(try clear ho1);obtain ⟨Ao6,co6,eo6⟩:=Kd.R_slice HO263.out;subst eo6;obtain ⟨Ao7,co7,eo7⟩:=Kd.R_slice HO267.out;subst eo7)|((with_reducible refine Zo (f:=15) rfl ?_);refine goesL_ (some 5) rfl rfl Try.func15 (by kernel_rfl) rfl #[.agg #[.slice Ao6 t261.length co6,.int .i64 t264,.slice Ao7 t265.length co7],.slice A0 l0.length c0] rfl (by (try simp only [Zy,Zz,ZZ36]);first|done|rfl|(simp only [Zw,Zx];rfl)) ?_;(with_reducible refine (spec_SumAdd.calls k _ _ t261 t264 _ _ t265 _ _ l0 t268 t271 t272 _ ?side1 ?side2 ?side3 ?side4 ?side5 ?side6 A3.out).mono ?_);(case side1=>repeat (first|exact (Z8 HO263.out).2.2|(with_reducible refine Ze ?_ _)|(with_reducible refine Zd ?_ _)|(with_reducible refine Zf ?_)));(case side2=>exact (Z8 HO263.out).2.1);(case side3=>repeat (first|exact (Z8 HO267.out).2.2|(with_reducible refine Ze ?_ _)|(with_reducible refine Zd ?_ _)|(with_reducible refine Zf ?_)));(case side4=>exact (Z8 HO267.out).2.1);(case side5=>repeat (first|exact (Zr HR0.out HB.out)|(with_reducible refine Ze ?_ _)|(with_reducible refine Zd ?_ _)|(with_reducible refine Zf ?_)));(case side6=>exact HC0.out);rintro e w8 ⟨v269,v273,rfl,ho0,ho1,hb⟩;refine ⟨_,rfl,?_⟩;have n0_:=Z0 (Zg (by (with_reducible repeat (first|apply Z3|apply Z2|apply Z4));exact HO263.out) (Zi ho0) hb);have n1_:=Z0 (Zg (by (with_reducible repeat (first|apply Z3|apply Z2|apply Z4));exact HO267.out) (Zi ho1) hb);have n2_:=Z0 (Zn (Zh ho0 (Zk (by (with_reducible repeat (first|apply Z3|apply Z2|apply Z4));exact HO263.out))) (Zc (by repeat (first|(with_reducible first|exact HB.out|apply Z6|apply Z1|apply Z5)|exact HB.out))));have n3_:=Z0 (Zn (Zh ho1 (Zk (by (with_reducible repeat (first|apply Z3|apply Z2|apply Z4));exact HO267.out))) (Zc (by repeat (first|(with_reducible first|exact HB.out|apply Z6|apply Z1|apply Z5)|exact HB.out))));have n4_:=Z0 (Zl (by repeat (first|(with_reducible first|exact HB.out|apply Z6|apply Z1|apply Z5)|exact HB.out)) hb);clear HO263;clear HO267;clear HB;have HO263:=n0_;have HO267:=n1_;have HO270:=n2_;have HO274:=n3_;have HB:=n4_;clear n0_ n1_ n2_ n3_ n4_;(try clear hb);(try clear hb2);(try clear hk);(try clear hi);(try clear ho0);(try clear ho1);obtain ⟨Ao9,co9,eo9⟩:=Kd.R_slice HO270.out;subst eo9;obtain ⟨Ao10,co10,eo10⟩:=Kd.R_slice HO274.out;subst eo10)|((with_reducible refine Zo (f:=14) rfl ?_);refine goesL_ (some 6) rfl rfl Try.func14 (by kernel_rfl) rfl #[.agg #[.slice Ao9 t268.length co9,.int .i64 t271,.slice Ao10 t272.length co10]] rfl (by (try simp only [Zy,Zz,ZZ36]);first|done|rfl|(simp only [Zw,Zx];rfl)) ?_;(with_reducible refine (spec_SumEnd.calls k _ _ t268 t271 _ _ t272 t275 _ ?side1 ?side2 ?side3 ?side4 A4.out).mono ?_);(case side1=>repeat (first|exact (Z8 HO270.out).2.2|(with_reducible refine Ze ?_ _)|(with_reducible refine Zd ?_ _)|(with_reducible refine Zf ?_)));(case side2=>exact (Z8 HO270.out).2.1);(case side3=>repeat (first|exact (Z8 HO274.out).2.2|(with_reducible refine Ze ?_ _)|(with_reducible refine Zd ?_ _)|(with_reducible refine Zf ?_)));(case side4=>exact (Z8 HO274.out).2.1);rintro e w11 ⟨v276,rfl,ho0,hb⟩;refine ⟨_,rfl,?_⟩;have n0_:=Z0 (Kd.R_below (by (with_reducible repeat (first|apply Z3|apply Z2|apply Z4));exact HO263.out) hb);have n1_:=Z0 (Zg (by (with_reducible repeat (first|apply Z3|apply Z2|apply Z4));exact HO267.out) (Zi ho0) hb);have n2_:=Z0 (Kd.R_below (by (with_reducible repeat (first|apply Z3|apply Z2|apply Z4));exact HO270.out) hb);have n3_:=Z0 (Zg (by (with_reducible repeat (first|apply Z3|apply Z2|apply Z4));exact HO274.out) (Zi ho0) hb);have n4_:=Z0 (Zn (Zh (Zh ho0 (Zk (by (with_reducible repeat (first|apply Z3|apply Z2|apply Z4));exact HO267.out))) (Zk (by (with_reducible repeat (first|apply Z3|apply Z2|apply Z4));exact HO274.out))) (Zc (by repeat (first|(with_reducible first|exact HB.out|apply Z6|apply Z1|apply Z5)|exact HB.out))));have n5_:=Z0 (Zl (by repeat (first|(with_reducible first|exact HB.out|apply Z6|apply Z1|apply Z5)|exact HB.out)) hb);clear HO263;clear HO267;clear HO270;clear HO274;clear HB;have HO263:=n0_;have HO267:=n1_;have HO270:=n2_;have HO274:=n3_;have HO277:=n4_;have HB:=n5_;clear n0_ n1_ n2_ n3_ n4_ n5_;(try clear hb);(try clear hb2);(try clear hk);(try clear hi);(try clear ho0)))
 go_ret
 exact ⟨_,by first|rfl|(simp [errW_none,errW_some]<;>rfl)|(simp [*,errW_none,errW_some]<;>rfl),by (with_reducible repeat (first|apply Z3|apply Z2|apply Z4));exact Zq HO277.out (fun _ hk=>trivial),by repeat (first|(with_reducible first|exact HB.out|apply Z6|apply Z1|apply Z5)|exact HB.out)⟩

/-! ### spec_Mac: function 4 -/
mutual
def spec_Mac.j0 : Nat → List Int → List Int → Option (List Int)
 | 0, _, _ => none
 | k + 1, x1, x5 => spec_Mac.l0 k x1 x5 (([] : List Int)) (([] : List Int)) 0
def spec_Mac.l0 : Nat → List Int → List Int → List Int → List Int → Int → Option (List Int)
 | 0, _, _, _, _, _ => none
 | k + 1, x1, x5, x6, x7, x8 => if x8 < 64 then (if x8 < (x5.length : Int) then (if 0 ≤ x8 then (if x6.length < 140737488355328 then (if x7.length < 140737488355328 then (spec_Mac.l0 k x1 x5 (x6 ++ [Go.bits .xor .u8 (rd x5 x8) 54]) (x7 ++ [Go.bits .xor .u8 (rd x5 x8) 92]) (wrap64 (x8 + 1))) else (none)) else (none)) else (none)) else (if x6.length < 140737488355328 then (if x7.length < 140737488355328 then (spec_Mac.l0 k x1 x5 (x6 ++ [Go.bits .xor .u8 0 54]) (x7 ++ [Go.bits .xor .u8 0 92]) (wrap64 (x8 + 1))) else (none)) else (none))) else (if x6.length + x1.length < 140737488355328 then ((spec_Digest.f k (x6 ++ x1)).bind fun t309 => (if x7.length + t309.length < 140737488355328 then ((spec_Digest.f k (x7 ++ t309)).bind fun t315 => (some t315)) else (none))) else (none))
end
def spec_Mac.f (k : Nat) (l0 : List Int) (l1 : List Int) : Option (List Int) := (some (([] : List Int) : List Int)).bind fun y278 => (if y278.length + l0.length < 140737488355328 then ((some (y278 ++ l0 : List Int)).bind fun y281 => (if (y281.length : Int) > 64 then ((spec_Digest.f k y281).bind fun t284 => (spec_Mac.j0 k l1 t284)) else (spec_Mac.j0 k l1 y281))) else (none))
theorem spec_Mac.mono_l : ∀ k, (∀ y0 y1, LeO (spec_Mac.j0 k y0 y1) (spec_Mac.j0 (k + 1) y0 y1)) ∧ (∀ y0 y1 y2 y3 y4, LeO (spec_Mac.l0 k y0 y1 y2 y3 y4) (spec_Mac.l0 (k + 1) y0 y1 y2 y3 y4))
 | 0 => ⟨fun _ _ r h => by simp [spec_Mac.j0] at h, fun _ _ _ _ _ r h => by simp [spec_Mac.l0] at h⟩
 | k + 1 => by
  obtain ⟨ih0,ih1⟩:=spec_Mac.mono_l k
  refine ⟨?_,?_⟩
  · intro y0 y1
    unfold spec_Mac.j0
    repeat' first
    | (with_reducible exact ih0 _ _)
    | (with_reducible exact ih1 _ _ _ _ _)
    | (with_reducible exact spec_Digest.mono _ _)
    | (with_reducible exact LeO.refl _)
    | (with_reducible exact LeO.none _)
    | (with_reducible refine LeO.ite ?_ ?_)
    | (with_reducible refine LeO.bind ?_ (fun _=>?_))
    | exact ih0 _ _
    | exact ih1 _ _ _ _ _
    | exact spec_Digest.mono _ _
    | exact LeO.none _
    | refine LeO.ite ?_ ?_
    | refine LeO.bind ?_ (fun _=>?_)
  · intro y0 y1 y2 y3 y4
    unfold spec_Mac.l0
    repeat' first
    | (with_reducible exact ih0 _ _)
    | (with_reducible exact ih1 _ _ _ _ _)
    | (with_reducible exact spec_Digest.mono _ _)
    | (with_reducible exact LeO.refl _)
    | (with_reducible exact LeO.none _)
    | (with_reducible refine LeO.ite ?_ ?_)
    | (with_reducible refine LeO.bind ?_ (fun _=>?_))
    | exact ih0 _ _
    | exact ih1 _ _ _ _ _
    | exact spec_Digest.mono _ _
    | exact LeO.none _
    | refine LeO.ite ?_ ?_
    | refine LeO.bind ?_ (fun _=>?_)
theorem spec_Mac.mono : ∀ a0 a1 k, LeO (spec_Mac.f k a0 a1) (spec_Mac.f (k + 1) a0 a1) := by
 intro a0 a1 k
 obtain ⟨ih0,ih1⟩:=spec_Mac.mono_l k
 unfold spec_Mac.f
 repeat' first
  | (with_reducible exact ih0 _ _)
  | (with_reducible exact ih1 _ _ _ _ _)
  | (with_reducible exact spec_Digest.mono _ _)
  | (with_reducible exact LeO.refl _)
  | (with_reducible exact LeO.none _)
  | (with_reducible refine LeO.ite ?_ ?_)
  | (with_reducible refine LeO.bind ?_ (fun _=>?_))
  | exact ih0 _ _
  | exact ih1 _ _ _ _ _
  | exact spec_Digest.mono _ _
  | exact LeO.none _
  | refine LeO.ite ?_ ?_
  | refine LeO.bind ?_ (fun _=>?_)
set_option maxHeartbeats 8000000 in
set_option maxRecDepth 100000 in
theorem spec_Mac.calls (k : Nat) (A0 : Option Addr) (c0 : Nat) (l0 : List Int) (A1 : Option Addr) (c1 : Nat) (l1 : List Int) (r : List Int) (w : World) (hr0 : Kd.C (Kd.int .u8) w A0 l0.length l0) (hc0 : l0.length ≤ c0) (hr1 : Kd.C (Kd.int .u8) w A1 l1.length l1) (hc1 : l1.length ≤ c1) (h : spec_Mac.f k l0 l1 = some r) :
 Calls Try.prog 4 #[.slice A0 l0.length c0, .slice A1 l1.length c1] w fun e w' => ∃ v0_ : Value, e = .returned (v0_) ∧ Kd.R (Kd.int .u8) 5 w' w.heap.size (fun _ => True) v0_ r ∧ Below w.heap.size w w' := by
 have HR0:=Z0 hr0
 have HC0:=Z0 hc0
 clear hr0 hc0
 have HR1:=Z0 hr1
 have HC1:=Z0 hc1
 clear hr1 hc1
 have HB:=Z0 (ZZ38 w.heap.size w)
 have H : ((some (([] : List Int) : List Int)).bind fun y278=>(if y278.length + l0.length < 140737488355328 then ((some (y278 ++ l0 : List Int)).bind fun y281=>(if (y281.length : Int) > 64 then ((spec_Digest.f k y281).bind fun t284=>(spec_Mac.j0 k l1 t284)) else (spec_Mac.j0 k l1 y281))) else (none))) = some r:=h
 clear h
 obtain ⟨y278,hy278⟩ : ∃ y_ : List Int,y_ = (([] : List Int)):=⟨_,rfl⟩
 replace H : (if y278.length + l0.length < 140737488355328 then ((some (y278 ++ l0 : List Int)).bind fun y281=>(if (y281.length : Int) > 64 then ((spec_Digest.f k y281).bind fun t284=>(spec_Mac.j0 k l1 t284)) else (spec_Mac.j0 k l1 y281))) else (none)) = some r:=by first|(rw [hy278];with_reducible exact H)|(have H2_:=(Zv _ _).symm.trans H;rw [hy278];with_reducible exact H2_)|(have H2_:=(Zv _ _).symm.trans H;with_reducible exact H2_)|with_reducible exact H|(rw [hy278];exact H)|exact H
 have Ny278:=Z0 hy278
 clear hy278
 by_cases c3 : y278.length + l0.length < 140737488355328
 case neg =>
  rw [if_neg c3] at H
  exact absurd H (by simp)
 rw [if_pos c3] at H
 have LMc3:=Z0 c3
 clear c3
 obtain ⟨y281,hy281⟩ : ∃ y_ : List Int,y_ = (y278 ++ l0):=⟨_,rfl⟩
 replace H : (if (y281.length : Int) > 64 then ((spec_Digest.f k y281).bind fun t284=>(spec_Mac.j0 k l1 t284)) else (spec_Mac.j0 k l1 y281)) = some r:=by first|(rw [hy281];with_reducible exact H)|(have H2_:=(Zv _ _).symm.trans H;rw [hy281];with_reducible exact H2_)|(have H2_:=(Zv _ _).symm.trans H;with_reducible exact H2_)|with_reducible exact H|(rw [hy281];exact H)|exact H
 have Ny281:=Z0 hy281
 clear hy281
 have HC4:=Z0 H
 clear H
 go_enter Try.func4,Try.ntmps4
 go_upto_if 15 with (first|((with_reducible refine gate_dst (N:=10) rfl ?_);refine Kd.R_lit (Kd.int .u8) _ 5 ?hg (N:=10) ?hd (xs:=([] : List Int)) (inner:=[]) (ok:=fun _=>True) (okp:=fun _=>True) ?hr ?hp (fun _ hk=>hk) trivial (ZZ38 _ _) (ZZ37 _) (by simp) ?_;(case hd=>rfl);(case hg=>rfl);(case hr=>first|(go_simp;done)|(go_simp;rfl));(case hp=>exact (Reps.none _ _));intro v279 w5 ho6 hb hg_ hnew_;clear hg_ hnew_;(first|rw [← Ny278.out] at ho6|(simp only [Int.reduceToNat] at ho6;rw [← Ny278.out] at ho6));have n0_:=Z0 (Zn ho6 (Zc (by repeat (first|(with_reducible first|exact HB.out|apply Z6|apply Z1|apply Z5)|exact HB.out))));have n1_:=Z0 (Zl (by repeat (first|(with_reducible first|exact HB.out|apply Z6|apply Z1|apply Z5)|exact HB.out)) hb);clear HB;have HO280:=n0_;have HB:=n1_;clear n0_ n1_;clear hb ho6)|((with_reducible refine Zp (b:=.append) (xs:=#[.tmp 10,.tmp 11]) rfl ?_);at_builtin;refine Kd.R_append_rows (Kd.int .u8) (w0:=w) w.heap.size rfl (.tmp 10) (.tmp 11) 22 5 (.int .u8 0) 1 rfl Try.underlying22 info5 rfl (by decide) (by omega) v279 y278 l0 _ _ _ (fun _=>True) (fun _=>False) rfl rfl ?aO ?aR (fun _ _ h=>h) (fun _ h=>h.elim) ?aF ?aB ?aS ?aL ?_;(case aR=>repeat (first|exact (Zr HR0.out HB.out)|(with_reducible refine Ze ?_ _)|(with_reducible refine Zd ?_ _)|(with_reducible refine Zf ?_)));(case aB=>exact (by repeat (first|(with_reducible first|exact HB.out|apply Z6|apply Z1|apply Z5)|exact HB.out)));(case aF=>exact (fun _ _=>trivial));(case aO=>exact (by (with_reducible repeat (first|apply Z3|apply Z2|apply Z4));exact HO280.out));(case aS=>exact (Zc (by repeat (first|(with_reducible first|exact HB.out|apply Z6|apply Z1|apply Z5)|exact HB.out))));(case aL=>have:=LMc3.out;omega);intro v282 w7 ho hb hg hat;rw [← Ny281.out] at ho;have n0_:=Z0 (hb);have n1_:=Z0 (ho);clear HB;clear HO280;have HB:=n0_;have HO283:=n1_;clear n0_ n1_;clear ho hb hg hat;obtain ⟨Ao8,co8,eo8⟩:=Kd.R_slice HO283.out;subst eo8))
 (try simp only [Act.put,Zs,Zt,Zu])
 go_cut [5] (fun v5 wc=>∃ (kq : Nat) (x5_3 : List Int),Aside0 (spec_Mac.j0 kq l1 x5_3 = some r) ∧ Aside0 (kq ≤ k) ∧ Aside0 (Kd.R (Kd.int .u8) 5 wc w.heap.size (fun _=>True) v5 x5_3) ∧ Aside0 (Below w.heap.size w wc))
 case first =>
  have H:=HC4.out
  clear HC4
  by_cases c9 : (y281.length : Int) > 64
  case neg =>
   rw [if_neg c9] at H
   have c9b0 : decide (64 < (y281.length : Int)) = false:=decide_eq_false c9
   have c9b1 : decide (64 < y281.length) = false:=decide_eq_false (by omega)
   clear c9
   (first|rw [c9b0]|(simp only [i64_w,i32_w];rw [c9b0])|skip)
   (try (have ABc9:=Z0 c9b0))
   have H':=Z0 H
   clear H
   go_wp2
   (try simp only [ABc9.out] at *)
   go_meet
   case rel=>exact ⟨_,(y281),H',⟨by first|omega|exact ZZ37 _⟩,⟨by (with_reducible repeat (first|apply Z3|apply Z2|apply Z4));exact HO283.out⟩,⟨by repeat (first|(with_reducible first|exact HB.out|apply Z6|apply Z1|apply Z5)|exact HB.out)⟩⟩
  rw [if_pos c9] at H
  have c9b0 : decide (64 < (y281.length : Int)) = true:=decide_eq_true c9
  have c9b1 : decide (64 < y281.length) = true:=decide_eq_true (by omega)
  clear c9
  (first|rw [c9b0]|(simp only [i64_w,i32_w];rw [c9b0])|skip)
  (try (have ABc9:=Z0 c9b0))
  replace H:=Option.bind_eq_some_iff.mp H
  obtain ⟨t284,A100,H⟩:=H
  replace H : (spec_Mac.j0 k l1 t284) = some r:=H
  have A10:=Z0 A100
  clear A100
  have H':=Z0 H
  clear H
  go_wp2_with (first|((with_reducible refine Zo (f:=10) rfl ?_);refine goesL_ (some 17) rfl rfl Try.func10 (by kernel_rfl) rfl #[.slice Ao8 y281.length co8] rfl (by (try simp only [Zy,Zz,ZZ36]);first|done|rfl|(simp only [Zw,Zx];rfl)) ?_;(with_reducible refine (spec_Digest.calls k _ _ y281 t284 _ ?side1 ?side2 A10.out).mono ?_);(case side1=>repeat (first|exact (Z8 HO283.out).2.2|(with_reducible refine Ze ?_ _)|(with_reducible refine Zd ?_ _)|(with_reducible refine Zf ?_)));(case side2=>exact (Z8 HO283.out).2.1);rintro e w11 ⟨v285,rfl,ho0,hb⟩;refine ⟨_,rfl,?_⟩;have n0_:=Z0 (Zg (by (with_reducible repeat (first|apply Z3|apply Z2|apply Z4));exact HO283.out) (Zi ho0) hb);have n1_:=Z0 (Zn (Zh ho0 (Zk (by (with_reducible repeat (first|apply Z3|apply Z2|apply Z4));exact HO283.out))) (Zc (by repeat (first|(with_reducible first|exact HB.out|apply Z6|apply Z1|apply Z5)|exact HB.out))));have n2_:=Z0 (Zl (by repeat (first|(with_reducible first|exact HB.out|apply Z6|apply Z1|apply Z5)|exact HB.out)) hb);clear HO283;clear HB;have HO283:=n0_;have HO286:=n1_;have HB:=n2_;clear n0_ n1_ n2_;(try clear hb);(try clear hb2);(try clear hk);(try clear hi);(try clear ho0)))
  (try simp only [ABc9.out] at *)
  go_meet
  case rel=>exact ⟨_,(t284),H',⟨by first|omega|exact ZZ37 _⟩,⟨by (with_reducible repeat (first|apply Z3|apply Z2|apply Z4));exact Zq HO286.out (fun _ hk=>trivial)⟩,⟨by repeat (first|(with_reducible first|exact HB.out|apply Z6|apply Z1|apply Z5)|exact HB.out)⟩⟩
 case rest =>
  clear HC4
  (try clear c1);(try clear p2);(try clear c3);(try clear c4);(try clear c9);(try clear c9b0);(try clear c9b1);(try clear c10)
  obtain ⟨kq,x5_3,HA,HJ3,HO_5,HB⟩:=hcut
  cases kq with
  | zero=>exact absurd HA.out (by simp [spec_Mac.j0])
  | succ kj3 =>
   have H:=HA.out
   clear HA
   simp only [spec_Mac.j0] at H
   obtain ⟨y287,hy287⟩ : ∃ y_ : List Int,y_ = (([] : List Int)):=⟨_,rfl⟩
   replace H : (spec_Mac.l0 kj3 l1 x5_3 y287 (([] : List Int)) 0) = some r:=by first|(rw [hy287];with_reducible exact H)|(have H2_:=(Zv _ _).symm.trans H;rw [hy287];with_reducible exact H2_)|(have H2_:=(Zv _ _).symm.trans H;with_reducible exact H2_)|with_reducible exact H|(rw [hy287];exact H)|exact H
   have Ny287:=Z0 hy287
   clear hy287
   obtain ⟨y290,hy290⟩ : ∃ y_ : List Int,y_ = (([] : List Int)):=⟨_,rfl⟩
   replace H : (spec_Mac.l0 kj3 l1 x5_3 y287 y290 0) = some r:=by first|(rw [hy290];with_reducible exact H)|(have H2_:=(Zv _ _).symm.trans H;rw [hy290];with_reducible exact H2_)|(have H2_:=(Zv _ _).symm.trans H;with_reducible exact H2_)|with_reducible exact H|(rw [hy290];exact H)|exact H
   have Ny290:=Z0 hy290
   clear hy290
   have H':=Z0 H
   clear H
   go_wp2_with (first|((with_reducible refine gate_dst (N:=18) rfl ?_);refine Kd.R_lit (Kd.int .u8) _ 5 ?hg (N:=18) ?hd (xs:=([] : List Int)) (inner:=[]) (ok:=fun _=>True) (okp:=fun _=>True) ?hr ?hp (fun _ hk=>hk) trivial (ZZ38 _ _) (ZZ37 _) (by simp) ?_;(case hd=>rfl);(case hg=>rfl);(case hr=>first|(go_simp;done)|(go_simp;rfl));(case hp=>exact (Reps.none _ _));intro v288 w12 ho13 hb hg_ hnew_;clear hg_ hnew_;(first|rw [← Ny287.out] at ho13|(simp only [Int.reduceToNat] at ho13;rw [← Ny287.out] at ho13));have n0_:=Z0 (Zg (by (with_reducible repeat (first|apply Z3|apply Z2|apply Z4));exact HO_5.out) (Zi ho13) hb);have n1_:=Z0 (Zn (Zh ho13 (Zk (by (with_reducible repeat (first|apply Z3|apply Z2|apply Z4));exact HO_5.out))) (Zc (by repeat (first|(with_reducible first|exact HB.out|apply Z6|apply Z1|apply Z5)|exact HB.out))));have n2_:=Z0 (Zl (by repeat (first|(with_reducible first|exact HB.out|apply Z6|apply Z1|apply Z5)|exact HB.out)) hb);clear HO_5;clear HB;have HO_5:=n0_;have HO289:=n1_;have HB:=n2_;clear n0_ n1_ n2_;clear hb ho13)|((with_reducible refine gate_dst (N:=19) rfl ?_);refine Kd.R_lit (Kd.int .u8) _ 5 ?hg (N:=19) ?hd (xs:=([] : List Int)) (inner:=[]) (ok:=fun _=>True) (okp:=fun _=>True) ?hr ?hp (fun _ hk=>hk) trivial (ZZ38 _ _) (ZZ37 _) (by simp) ?_;(case hd=>rfl);(case hg=>rfl);(case hr=>first|(go_simp;done)|(go_simp;rfl));(case hp=>exact (Reps.none _ _));intro v291 w14 ho15 hb hg_ hnew_;clear hg_ hnew_;(first|rw [← Ny290.out] at ho15|(simp only [Int.reduceToNat] at ho15;rw [← Ny290.out] at ho15));have n0_:=Z0 (Zg (by (with_reducible repeat (first|apply Z3|apply Z2|apply Z4));exact HO_5.out) (Zi ho15) hb);have n1_:=Z0 (Zg (by (with_reducible repeat (first|apply Z3|apply Z2|apply Z4));exact HO289.out) (Zi ho15) hb);have n2_:=Z0 (Zn (Zh (Zh ho15 (Zk (by (with_reducible repeat (first|apply Z3|apply Z2|apply Z4));exact HO_5.out))) (Zk (by (with_reducible repeat (first|apply Z3|apply Z2|apply Z4));exact HO289.out))) (Zc (by repeat (first|(with_reducible first|exact HB.out|apply Z6|apply Z1|apply Z5)|exact HB.out))));have n3_:=Z0 (Zl (by repeat (first|(with_reducible first|exact HB.out|apply Z6|apply Z1|apply Z5)|exact HB.out)) hb);clear HO_5;clear HO289;clear HB;have HO_5:=n0_;have HO289:=n1_;have HO292:=n2_;have HB:=n3_;clear n0_ n1_ n2_ n3_;clear hb ho15))
   go_loopg [6,7,8] kj3 (fun kq v6 v7 v8 w'=>∃ (x6_2 : List Int) (x7_2 : List Int) (x8_2 : Int),v8 = .int .i64 x8_2 ∧ Aside0 (spec_Mac.l0 kq l1 x5_3 x6_2 x7_2 x8_2 = some r) ∧ Aside0 (kq ≤ kj3) ∧ Aside0 (Kd.R (Kd.int .u8) 5 w' w.heap.size (fun k_=>some k_ ≠ (v6 : Value).ownBlock ∧ some k_ ≠ (v7 : Value).ownBlock) u5 x5_3) ∧ Aside0 (Kd.R (Kd.int .u8) 5 w' w.heap.size (fun k_=>some k_ ≠ (u5 : Value).ownBlock ∧ some k_ ≠ (v7 : Value).ownBlock) v6 x6_2) ∧ Aside0 (Kd.R (Kd.int .u8) 5 w' w.heap.size (fun k_=>some k_ ≠ (u5 : Value).ownBlock ∧ some k_ ≠ (v6 : Value).ownBlock) v7 x7_2) ∧ Aside0 (Below w.heap.size w w'))
   case atStart=>exact ⟨(y287),(y290),(0),(by first|rfl|(simp;done)|(simp [*];done)),H',⟨ZZ37 _⟩,⟨by (with_reducible repeat (first|apply Z3|apply Z2|apply Z4));exact Zq HO_5.out (fun _ hk=>⟨hk.1.2,hk.2⟩)⟩,⟨by (with_reducible repeat (first|apply Z3|apply Z2|apply Z4));exact Zq HO289.out (fun _ hk=>⟨hk.1.2,hk.2⟩)⟩,⟨by (with_reducible repeat (first|apply Z3|apply Z2|apply Z4));exact Zq HO292.out (fun _ hk=>⟨hk.1.2,hk.2⟩)⟩,⟨by repeat (first|(with_reducible first|exact HB.out|apply Z6|apply Z1|apply Z5)|exact HB.out)⟩⟩
   case round =>
    clear H'
    (try clear c1);(try clear p2);(try clear c3);(try clear c4);(try clear c9);(try clear c9b0);(try clear c9b1);(try clear c10);(try clear p2)
    obtain ⟨x6_2,x7_2,x8_2,rfl,HA,HK2,HO_5,HO_6,HO_7,HB⟩:=hrel
    cases gk with
    | zero=>exact absurd HA.out (by simp [spec_Mac.l0])
    | succ k2 =>
     have H:=HA.out
     clear HA
     simp only [spec_Mac.l0] at H
     by_cases c16 : x8_2 < 64
     case neg =>
      rw [if_neg c16] at H
      have c16b0 : decide (x8_2 < 64) = false:=decide_eq_false c16
      clear c16
      by_cases c29 : x6_2.length + l1.length < 140737488355328
      case neg =>
       rw [if_neg c29] at H
       exact absurd H (by simp)
      rw [if_pos c29] at H
      have LMc29:=Z0 c29
      clear c29
      obtain ⟨y306,hy306⟩ : ∃ y_ : List Int,y_ = (x6_2 ++ l1):=⟨_,rfl⟩
      replace H : ((spec_Digest.f k2 y306).bind fun t309=>(if x7_2.length + t309.length < 140737488355328 then ((spec_Digest.f k2 (x7_2 ++ t309)).bind fun t315=>(some t315)) else (none))) = some r:=by first|(rw [hy306];with_reducible exact H)|(have H2_:=(Zv _ _).symm.trans H;rw [hy306];with_reducible exact H2_)|(have H2_:=(Zv _ _).symm.trans H;with_reducible exact H2_)|with_reducible exact H|(rw [hy306];exact H)|exact H
      have Ny306:=Z0 hy306
      clear hy306
      replace H:=Option.bind_eq_some_iff.mp H
      obtain ⟨t309,A300,H⟩:=H
      replace H : (if x7_2.length + t309.length < 140737488355328 then ((spec_Digest.f k2 (x7_2 ++ t309)).bind fun t315=>(some t315)) else (none)) = some r:=H
      have A30:=Z0 A300
      clear A300
      by_cases c31 : x7_2.length + t309.length < 140737488355328
      case neg =>
       rw [if_neg c31] at H
       exact absurd H (by simp)
      rw [if_pos c31] at H
      have LMc31:=Z0 c31
      clear c31
      obtain ⟨y312,hy312⟩ : ∃ y_ : List Int,y_ = (x7_2 ++ t309):=⟨_,rfl⟩
      replace H : ((spec_Digest.f k2 y312).bind fun t315=>(some t315)) = some r:=by first|(rw [hy312];with_reducible exact H)|(have H2_:=(Zv _ _).symm.trans H;rw [hy312];with_reducible exact H2_)|(have H2_:=(Zv _ _).symm.trans H;with_reducible exact H2_)|with_reducible exact H|(rw [hy312];exact H)|exact H
      have Ny312:=Z0 hy312
      clear hy312
      replace H:=Option.bind_eq_some_iff.mp H
      obtain ⟨t315,A320,H⟩:=H
      replace H : (some t315) = some r:=H
      have A32:=Z0 A320
      clear A320
      obtain rfl:=Option.some.inj H
      go_wp2_with (first|((with_reducible refine Zp (b:=.append) (xs:=#[.tmp 43,.tmp 44]) rfl ?_);at_builtin;refine Kd.R_append_rows (Kd.int .u8) (w0:=w) w.heap.size rfl (.tmp 43) (.tmp 44) 22 5 (.int .u8 0) 1 rfl Try.underlying22 info5 rfl (by decide) (by omega) u6 x6_2 l1 _ _ _ (fun k_=>some k_ ≠ (u5 : Value).ownBlock ∧ some k_ ≠ (u7 : Value).ownBlock) (fun _=>False) rfl rfl ?aO ?aR (fun _ _ h=>h) (fun _ h=>h.elim) ?aF ?aB ?aS ?aL ?_;(case aR=>repeat (first|exact (Zr HR1.out HB.out)|(with_reducible refine Ze ?_ _)|(with_reducible refine Zd ?_ _)|(with_reducible refine Zf ?_)));(case aB=>exact (by repeat (first|(with_reducible first|exact HB.out|apply Z6|apply Z1|apply Z5)|exact HB.out)));(case aF=>exact (fun k_ hk=>⟨Kd.fresh' (Zk (by (with_reducible repeat (first|apply Z3|apply Z2|apply Z4));exact HO_5.out)) k_ hk,Kd.fresh' (Zk (by (with_reducible repeat (first|apply Z3|apply Z2|apply Z4));exact HO_7.out)) k_ hk⟩));(case aO=>exact (by (with_reducible repeat (first|apply Z3|apply Z2|apply Z4));exact HO_6.out));(case aS=>exact (Zc (by repeat (first|(with_reducible first|exact HB.out|apply Z6|apply Z1|apply Z5)|exact HB.out))));(case aL=>have:=LMc29.out;omega);intro v307 w33 ho hb hg hat;rw [← Ny306.out] at ho;have n0_:=Z0 (Kd.R_after (ok:=(fun k_=>some k_ ≠ (u7 : Value).ownBlock)) (by (with_reducible repeat (first|apply Z3|apply Z2|apply Z4));exact Zq HO_5.out (fun _ hk=>⟨hk.2,hk.1⟩)) hg hat);have n1_:=Z0 (Kd.R_after (ok:=(fun k_=>some k_ ≠ (u5 : Value).ownBlock)) (by (with_reducible repeat (first|apply Z3|apply Z2|apply Z4));exact HO_7.out) hg hat);have n2_:=Z0 (hb);have n3_:=Z0 (ho);clear HO_5;clear HO_7;clear HB;clear HO_6;have HO_5:=n0_;have HO_7:=n1_;have HB:=n2_;have HO308:=n3_;clear n0_ n1_ n2_ n3_;clear ho hb hg hat;obtain ⟨Ao34,co34,eo34⟩:=Kd.R_slice HO308.out;subst eo34)|((with_reducible refine Zo (f:=10) rfl ?_);refine goesL_ (some 46) rfl rfl Try.func10 (by kernel_rfl) rfl #[.slice Ao34 y306.length co34] rfl (by (try simp only [Zy,Zz,ZZ36]);first|done|rfl|(simp only [Zw,Zx];rfl)) ?_;(with_reducible refine (spec_Digest.calls k2 _ _ y306 t309 _ ?side1 ?side2 A30.out).mono ?_);(case side1=>repeat (first|exact (Z8 HO308.out).2.2|(with_reducible refine Ze ?_ _)|(with_reducible refine Zd ?_ _)|(with_reducible refine Zf ?_)));(case side2=>exact (Z8 HO308.out).2.1);rintro e w35 ⟨v310,rfl,ho0,hb⟩;refine ⟨_,rfl,?_⟩;have n0_:=Z0 (Zg (by (with_reducible repeat (first|apply Z3|apply Z2|apply Z4));exact HO_5.out) (Zi ho0) hb);have n1_:=Z0 (Zg (by (with_reducible repeat (first|apply Z3|apply Z2|apply Z4));exact HO_7.out) (Zi ho0) hb);have n2_:=Z0 (Zg (by (with_reducible repeat (first|apply Z3|apply Z2|apply Z4));exact HO308.out) (Zi ho0) hb);have n3_:=Z0 (Zn (Zh (Zh (Zh ho0 (Zk (by (with_reducible repeat (first|apply Z3|apply Z2|apply Z4));exact HO_5.out))) (Zk (by (with_reducible repeat (first|apply Z3|apply Z2|apply Z4));exact HO_7.out))) (Zk (by (with_reducible repeat (first|apply Z3|apply Z2|apply Z4));exact HO308.out))) (Zc (by repeat (first|(with_reducible first|exact HB.out|apply Z6|apply Z1|apply Z5)|exact HB.out))));have n4_:=Z0 (Zl (by repeat (first|(with_reducible first|exact HB.out|apply Z6|apply Z1|apply Z5)|exact HB.out)) hb);clear HO_5;clear HO_7;clear HO308;clear HB;have HO_5:=n0_;have HO_7:=n1_;have HO308:=n2_;have HO311:=n3_;have HB:=n4_;clear n0_ n1_ n2_ n3_ n4_;(try clear hb);(try clear hb2);(try clear hk);(try clear hi);(try clear ho0);obtain ⟨Ao37,co37,eo37⟩:=Kd.R_slice HO311.out;subst eo37)|((with_reducible refine Zp (b:=.append) (xs:=#[.tmp 42,.tmp 46]) rfl ?_);at_builtin;refine Kd.R_append_rows (Kd.int .u8) (w0:=w) w.heap.size rfl (.tmp 42) (.tmp 46) 22 5 (.int .u8 0) 1 rfl Try.underlying22 info5 rfl (by decide) (by omega) u7 x7_2 t309 _ _ _ (fun k_=>some k_ ≠ (u5 : Value).ownBlock ∧ some k_ ≠ (.slice Ao34 y306.length co34 : Value).ownBlock ∧ some k_ ≠ (.slice Ao37 t309.length co37 : Value).ownBlock) (fun _=>False) rfl rfl ?aO ?aR (fun _ _ h=>h) (fun _ h=>h.elim) ?aF ?aB ?aS ?aL ?_;(case aR=>repeat (first|exact (Z8 HO311.out).2.2|(with_reducible refine Ze ?_ _)|(with_reducible refine Zd ?_ _)|(with_reducible refine Zf ?_)));(case aB=>exact (by repeat (first|(with_reducible first|exact HB.out|apply Z6|apply Z1|apply Z5)|exact HB.out)));(case aF=>exact (fun k_ hk=>⟨Kd.fresh' (Zk (by (with_reducible repeat (first|apply Z3|apply Z2|apply Z4));exact HO_5.out)) k_ hk,Kd.fresh' (Zk (by (with_reducible repeat (first|apply Z3|apply Z2|apply Z4));exact HO308.out)) k_ hk,Kd.fresh' (Zk (by (with_reducible repeat (first|apply Z3|apply Z2|apply Z4));exact HO311.out)) k_ hk⟩));(case aO=>exact (by (with_reducible repeat (first|apply Z3|apply Z2|apply Z4));exact Zq HO_7.out (fun _ hk=>⟨hk.1.1,⟨hk.1.2,hk.2⟩⟩)));(case aS=>exact (Zc (by repeat (first|(with_reducible first|exact HB.out|apply Z6|apply Z1|apply Z5)|exact HB.out))));(case aL=>have:=LMc31.out;omega);intro v313 w36 ho hb hg hat;rw [← Ny312.out] at ho;have n0_:=Z0 (Kd.R_after (ok:=(fun k_=>some k_ ≠ (.slice Ao34 y306.length co34 : Value).ownBlock ∧ some k_ ≠ (.slice Ao37 t309.length co37 : Value).ownBlock)) (by (with_reducible repeat (first|apply Z3|apply Z2|apply Z4));exact Zq HO_5.out (fun _ hk=>⟨⟨hk.1.2,hk.2⟩,hk.1.1⟩)) hg hat);have n1_:=Z0 (Kd.R_after (ok:=(fun k_=>some k_ ≠ (u5 : Value).ownBlock ∧ some k_ ≠ (.slice Ao37 t309.length co37 : Value).ownBlock)) (by (with_reducible repeat (first|apply Z3|apply Z2|apply Z4));exact Zq HO308.out (fun _ hk=>⟨⟨hk.1.1,hk.2⟩,hk.1.2⟩)) hg hat);have n2_:=Z0 (Kd.R_after (ok:=(fun k_=>some k_ ≠ (u5 : Value).ownBlock ∧ some k_ ≠ (.slice Ao34 y306.length co34 : Value).ownBlock)) (by (with_reducible repeat (first|apply Z3|apply Z2|apply Z4));exact Zq HO311.out (fun _ hk=>⟨⟨hk.1.1.2,hk.2⟩,hk.1.2⟩)) hg hat);have n3_:=Z0 (hb);have n4_:=Z0 (ho);clear HO_5;clear HO308;clear HO311;clear HB;clear HO_7;have HO_5:=n0_;have HO308:=n1_;have HO311:=n2_;have HB:=n3_;have HO314:=n4_;clear n0_ n1_ n2_ n3_ n4_;clear ho hb hg hat;obtain ⟨Ao38,co38,eo38⟩:=Kd.R_slice HO314.out;subst eo38)|((with_reducible refine Zo (f:=10) rfl ?_);refine goesL_ (some 48) rfl rfl Try.func10 (by kernel_rfl) rfl #[.slice Ao38 y312.length co38] rfl (by (try simp only [Zy,Zz,ZZ36]);first|done|rfl|(simp only [Zw,Zx];rfl)) ?_;(with_reducible refine (spec_Digest.calls k2 _ _ y312 t315 _ ?side1 ?side2 A32.out).mono ?_);(case side1=>repeat (first|exact (Z8 HO314.out).2.2|(with_reducible refine Ze ?_ _)|(with_reducible refine Zd ?_ _)|(with_reducible refine Zf ?_)));(case side2=>exact (Z8 HO314.out).2.1);rintro e w39 ⟨v316,rfl,ho0,hb⟩;refine ⟨_,rfl,?_⟩;have n0_:=Z0 (Zg (by (with_reducible repeat (first|apply Z3|apply Z2|apply Z4));exact HO_5.out) (Zi ho0) hb);have n1_:=Z0 (Zg (by (with_reducible repeat (first|apply Z3|apply Z2|apply Z4));exact HO308.out) (Zi ho0) hb);have n2_:=Z0 (Zg (by (with_reducible repeat (first|apply Z3|apply Z2|apply Z4));exact HO311.out) (Zi ho0) hb);have n3_:=Z0 (Zg (by (with_reducible repeat (first|apply Z3|apply Z2|apply Z4));exact HO314.out) (Zi ho0) hb);have n4_:=Z0 (Zn (Zh (Zh (Zh (Zh ho0 (Zk (by (with_reducible repeat (first|apply Z3|apply Z2|apply Z4));exact HO_5.out))) (Zk (by (with_reducible repeat (first|apply Z3|apply Z2|apply Z4));exact HO308.out))) (Zk (by (with_reducible repeat (first|apply Z3|apply Z2|apply Z4));exact HO311.out))) (Zk (by (with_reducible repeat (first|apply Z3|apply Z2|apply Z4));exact HO314.out))) (Zc (by repeat (first|(with_reducible first|exact HB.out|apply Z6|apply Z1|apply Z5)|exact HB.out))));have n5_:=Z0 (Zl (by repeat (first|(with_reducible first|exact HB.out|apply Z6|apply Z1|apply Z5)|exact HB.out)) hb);clear HO_5;clear HO308;clear HO311;clear HO314;clear HB;have HO_5:=n0_;have HO308:=n1_;have HO311:=n2_;have HO314:=n3_;have HO317:=n4_;have HB:=n5_;clear n0_ n1_ n2_ n3_ n4_ n5_;(try clear hb);(try clear hb2);(try clear hk);(try clear hi);(try clear ho0)))
      go_ret
      exact ⟨_,by first|rfl|(simp [errW_none,errW_some]<;>rfl)|(simp [*,errW_none,errW_some]<;>rfl),by (with_reducible repeat (first|apply Z3|apply Z2|apply Z4));exact Zq HO317.out (fun _ hk=>trivial),by repeat (first|(with_reducible first|exact HB.out|apply Z6|apply Z1|apply Z5)|exact HB.out)⟩
     rw [if_pos c16] at H
     have c16b0 : decide (x8_2 < 64) = true:=decide_eq_true c16
     clear c16
     by_cases c17 : x8_2 < (x5_3.length : Int)
     case neg =>
      rw [if_neg c17] at H
      have c17b0 : decide (x8_2 < (x5_3.length : Int)) = false:=decide_eq_false c17
      clear c17
      by_cases c24 : x6_2.length < 140737488355328
      case neg =>
       rw [if_neg c24] at H
       exact absurd H (by simp)
      rw [if_pos c24] at H
      have LMc24:=Z0 c24
      clear c24
      obtain ⟨y300,hy300⟩ : ∃ y_ : List Int,y_ = (x6_2 ++ [Go.bits .xor .u8 0 54]):=⟨_,rfl⟩
      replace H : (if x7_2.length < 140737488355328 then (spec_Mac.l0 k2 l1 x5_3 y300 (x7_2 ++ [Go.bits .xor .u8 0 92]) (wrap64 (x8_2 + 1))) else (none)) = some r:=by first|(rw [hy300];with_reducible exact H)|(have H2_:=(Zv _ _).symm.trans H;rw [hy300];with_reducible exact H2_)|(have H2_:=(Zv _ _).symm.trans H;with_reducible exact H2_)|with_reducible exact H|(rw [hy300];exact H)|exact H
      have Ny300:=Z0 hy300
      clear hy300
      by_cases c25 : x7_2.length < 140737488355328
      case neg =>
       rw [if_neg c25] at H
       exact absurd H (by simp)
      rw [if_pos c25] at H
      have LMc25:=Z0 c25
      clear c25
      obtain ⟨y303,hy303⟩ : ∃ y_ : List Int,y_ = (x7_2 ++ [Go.bits .xor .u8 0 92]):=⟨_,rfl⟩
      replace H : (spec_Mac.l0 k2 l1 x5_3 y300 y303 (wrap64 (x8_2 + 1))) = some r:=by first|(rw [hy303];with_reducible exact H)|(have H2_:=(Zv _ _).symm.trans H;rw [hy303];with_reducible exact H2_)|(have H2_:=(Zv _ _).symm.trans H;with_reducible exact H2_)|with_reducible exact H|(rw [hy303];exact H)|exact H
      have Ny303:=Z0 hy303
      clear hy303
      have H':=Z0 H
      clear H
      obtain ⟨Ao26,co26,eo26⟩:=Kd.R_slice HO_5.out
      subst eo26
      go_wp2_with (first|((with_reducible refine Zp (b:=.append) (xs:=#[.tmp 32,.tmp 35]) rfl ?_);at_builtin;refine Kd.R_append (Kd.int .u8) (w0:=w) w.heap.size rfl (.tmp 32) (.tmp 35) 22 5 (.int .u8 0) 1 rfl Try.underlying22 info5 rfl (by decide) (by omega) u6 x6_2 (Go.bits .xor .u8 0 54) [.int .u8 (Go.bits .xor .u8 0 54)] (fun k_=>some k_ ≠ (.slice Ao26 x5_3.length co26 : Value).ownBlock ∧ some k_ ≠ (u7 : Value).ownBlock) (fun _=>False) rfl rfl ?aP (fun _ hk=>hk.elim) ?aF ?aO ?aB ?aS ?aL ?_;(case aP=>exact rfl);(case aB=>exact (by repeat (first|(with_reducible first|exact HB.out|apply Z6|apply Z1|apply Z5)|exact HB.out)));(case aF=>exact (fun k_ hk=>⟨Kd.fresh' (Zk (by (with_reducible repeat (first|apply Z3|apply Z2|apply Z4));exact HO_5.out)) k_ hk,Kd.fresh' (Zk (by (with_reducible repeat (first|apply Z3|apply Z2|apply Z4));exact HO_7.out)) k_ hk⟩));(case aO=>exact (by (with_reducible repeat (first|apply Z3|apply Z2|apply Z4));exact HO_6.out));(case aS=>exact (Zc (by repeat (first|(with_reducible first|exact HB.out|apply Z6|apply Z1|apply Z5)|exact HB.out))));(case aL=>have:=LMc24.out;omega);intro v301 w27 ho hb hg hat;rw [← Ny300.out] at ho;have n0_:=Z0 (Kd.R_after (ok:=(fun k_=>some k_ ≠ (u7 : Value).ownBlock)) (by (with_reducible repeat (first|apply Z3|apply Z2|apply Z4));exact Zq HO_5.out (fun _ hk=>⟨hk.2,hk.1⟩)) hg hat);have n1_:=Z0 (Kd.R_after (ok:=(fun k_=>some k_ ≠ (.slice Ao26 x5_3.length co26 : Value).ownBlock)) (by (with_reducible repeat (first|apply Z3|apply Z2|apply Z4));exact HO_7.out) hg hat);have n2_:=Z0 (hb);have n3_:=Z0 (ho);clear HO_5;clear HO_7;clear HB;clear HO_6;have HO_5:=n0_;have HO_7:=n1_;have HB:=n2_;have HO302:=n3_;clear n0_ n1_ n2_ n3_;clear ho hb hg hat)|((with_reducible refine Zp (b:=.append) (xs:=#[.tmp 37,.tmp 40]) rfl ?_);at_builtin;refine Kd.R_append (Kd.int .u8) (w0:=w) w.heap.size rfl (.tmp 37) (.tmp 40) 22 5 (.int .u8 0) 1 rfl Try.underlying22 info5 rfl (by decide) (by omega) u7 x7_2 (Go.bits .xor .u8 0 92) [.int .u8 (Go.bits .xor .u8 0 92)] (fun k_=>some k_ ≠ (.slice Ao26 x5_3.length co26 : Value).ownBlock ∧ some k_ ≠ (v301 : Value).ownBlock) (fun _=>False) rfl rfl ?aP (fun _ hk=>hk.elim) ?aF ?aO ?aB ?aS ?aL ?_;(case aP=>exact rfl);(case aB=>exact (by repeat (first|(with_reducible first|exact HB.out|apply Z6|apply Z1|apply Z5)|exact HB.out)));(case aF=>exact (fun k_ hk=>⟨Kd.fresh' (Zk (by (with_reducible repeat (first|apply Z3|apply Z2|apply Z4));exact HO_5.out)) k_ hk,Kd.fresh' (Zk (by (with_reducible repeat (first|apply Z3|apply Z2|apply Z4));exact HO302.out)) k_ hk⟩));(case aO=>exact (by (with_reducible repeat (first|apply Z3|apply Z2|apply Z4));exact HO_7.out));(case aS=>exact (Zc (by repeat (first|(with_reducible first|exact HB.out|apply Z6|apply Z1|apply Z5)|exact HB.out))));(case aL=>have:=LMc25.out;omega);intro v304 w28 ho hb hg hat;rw [← Ny303.out] at ho;have n0_:=Z0 (Kd.R_after (ok:=(fun k_=>some k_ ≠ (v301 : Value).ownBlock)) (by (with_reducible repeat (first|apply Z3|apply Z2|apply Z4));exact Zq HO_5.out (fun _ hk=>⟨hk.2,hk.1⟩)) hg hat);have n1_:=Z0 (Kd.R_after (ok:=(fun k_=>some k_ ≠ (.slice Ao26 x5_3.length co26 : Value).ownBlock)) (by (with_reducible repeat (first|apply Z3|apply Z2|apply Z4));exact HO302.out) hg hat);have n2_:=Z0 (hb);have n3_:=Z0 (ho);clear HO_5;clear HO302;clear HB;clear HO_7;have HO_5:=n0_;have HO302:=n1_;have HB:=n2_;have HO305:=n3_;clear n0_ n1_ n2_ n3_;clear ho hb hg hat))
      go_roundg k2
      case measure=>have:=HJ3.out;have:=HK2.out;omega
      case rel=>exact ⟨(y300),(y303),(wrap64 (x8_2 + 1)),(by first|rfl|(simp;done)|(simp [*];done)),H',⟨by have:=HJ3.out;have:=HK2.out;omega⟩,⟨by (with_reducible repeat (first|apply Z3|apply Z2|apply Z4));exact HO_5.out⟩,⟨by (with_reducible repeat (first|apply Z3|apply Z2|apply Z4));exact HO302.out⟩,⟨by (with_reducible repeat (first|apply Z3|apply Z2|apply Z4));exact HO305.out⟩,⟨by repeat (first|(with_reducible first|exact HB.out|apply Z6|apply Z1|apply Z5)|exact HB.out)⟩⟩
     rw [if_pos c17] at H
     have c17b0 : decide (x8_2 < (x5_3.length : Int)) = true:=decide_eq_true c17
     clear c17
     by_cases c18 : 0 ≤ x8_2
     case neg =>
      rw [if_neg c18] at H
      exact absurd H (by simp)
     rw [if_pos c18] at H
     have c18b0 : decide (0 ≤ x8_2) = true:=decide_eq_true c18
     clear c18
     by_cases c19 : x6_2.length < 140737488355328
     case neg =>
      rw [if_neg c19] at H
      exact absurd H (by simp)
     rw [if_pos c19] at H
     have LMc19:=Z0 c19
     clear c19
     obtain ⟨y294,hy294⟩ : ∃ y_ : List Int,y_ = (x6_2 ++ [Go.bits .xor .u8 (rd x5_3 x8_2) 54]):=⟨_,rfl⟩
     replace H : (if x7_2.length < 140737488355328 then (spec_Mac.l0 k2 l1 x5_3 y294 (x7_2 ++ [Go.bits .xor .u8 (rd x5_3 x8_2) 92]) (wrap64 (x8_2 + 1))) else (none)) = some r:=by first|(rw [hy294];with_reducible exact H)|(have H2_:=(Zv _ _).symm.trans H;rw [hy294];with_reducible exact H2_)|(have H2_:=(Zv _ _).symm.trans H;with_reducible exact H2_)|with_reducible exact H|(rw [hy294];exact H)|exact H
     have Ny294:=Z0 hy294
     clear hy294
     by_cases c20 : x7_2.length < 140737488355328
     case neg =>
      rw [if_neg c20] at H
      exact absurd H (by simp)
     rw [if_pos c20] at H
     have LMc20:=Z0 c20
     clear c20
     obtain ⟨y297,hy297⟩ : ∃ y_ : List Int,y_ = (x7_2 ++ [Go.bits .xor .u8 (rd x5_3 x8_2) 92]):=⟨_,rfl⟩
     replace H : (spec_Mac.l0 k2 l1 x5_3 y294 y297 (wrap64 (x8_2 + 1))) = some r:=by first|(rw [hy297];with_reducible exact H)|(have H2_:=(Zv _ _).symm.trans H;rw [hy297];with_reducible exact H2_)|(have H2_:=(Zv _ _).symm.trans H;with_reducible exact H2_)|with_reducible exact H|(rw [hy297];exact H)|exact H
     have Ny297:=Z0 hy297
     clear hy297
     have H':=Z0 H
     clear H
     obtain ⟨Ao21,co21,eo21⟩:=Kd.R_slice HO_5.out
     subst eo21
     have p293 : 0 ≤ (x8_2 : Int):=of_decide_eq_true (by first|(with_reducible assumption)|assumption)
     have q293 : x8_2 < (x5_3.length : Int):=of_decide_eq_true (by first|(with_reducible assumption)|assumption)
     obtain ⟨ad293,e293,hx293_0⟩:=Kd.at_int (Z8 HO_5.out).2.2 x8_2 p293 q293
     cases e293
     replace p293:=eq_true p293
     replace q293:=eq_true q293
     go_wp2_with (first|((with_reducible refine Zp (b:=.append) (xs:=#[.tmp 32,.tmp 35]) rfl ?_);at_builtin;refine Kd.R_append (Kd.int .u8) (w0:=w) w.heap.size rfl (.tmp 32) (.tmp 35) 22 5 (.int .u8 0) 1 rfl Try.underlying22 info5 rfl (by decide) (by omega) u6 x6_2 (Go.bits .xor .u8 (rd x5_3 x8_2) 54) [.int .u8 (Go.bits .xor .u8 (rd x5_3 x8_2) 54)] (fun k_=>some k_ ≠ (.slice (some ad293) x5_3.length co21 : Value).ownBlock ∧ some k_ ≠ (u7 : Value).ownBlock) (fun _=>False) rfl rfl ?aP (fun _ hk=>hk.elim) ?aF ?aO ?aB ?aS ?aL ?_;(case aP=>exact rfl);(case aB=>exact (by repeat (first|(with_reducible first|exact HB.out|apply Z6|apply Z1|apply Z5)|exact HB.out)));(case aF=>exact (fun k_ hk=>⟨Kd.fresh' (Zk (by (with_reducible repeat (first|apply Z3|apply Z2|apply Z4));exact HO_5.out)) k_ hk,Kd.fresh' (Zk (by (with_reducible repeat (first|apply Z3|apply Z2|apply Z4));exact HO_7.out)) k_ hk⟩));(case aO=>exact (by (with_reducible repeat (first|apply Z3|apply Z2|apply Z4));exact HO_6.out));(case aS=>exact (Zc (by repeat (first|(with_reducible first|exact HB.out|apply Z6|apply Z1|apply Z5)|exact HB.out))));(case aL=>have:=LMc19.out;omega);intro v295 w22 ho hb hg hat;rw [← Ny294.out] at ho;have n0_:=Z0 (Kd.R_after (ok:=(fun k_=>some k_ ≠ (u7 : Value).ownBlock)) (by (with_reducible repeat (first|apply Z3|apply Z2|apply Z4));exact Zq HO_5.out (fun _ hk=>⟨hk.2,hk.1⟩)) hg hat);have n1_:=Z0 (Kd.R_after (ok:=(fun k_=>some k_ ≠ (.slice (some ad293) x5_3.length co21 : Value).ownBlock)) (by (with_reducible repeat (first|apply Z3|apply Z2|apply Z4));exact HO_7.out) hg hat);have n2_:=Z0 (hb);have n3_:=Z0 (ho);clear HO_5;clear HO_7;clear HB;clear HO_6;have HO_5:=n0_;have HO_7:=n1_;have HB:=n2_;have HO296:=n3_;clear n0_ n1_ n2_ n3_;clear ho hb hg hat)|((with_reducible refine Zp (b:=.append) (xs:=#[.tmp 37,.tmp 40]) rfl ?_);at_builtin;refine Kd.R_append (Kd.int .u8) (w0:=w) w.heap.size rfl (.tmp 37) (.tmp 40) 22 5 (.int .u8 0) 1 rfl Try.underlying22 info5 rfl (by decide) (by omega) u7 x7_2 (Go.bits .xor .u8 (rd x5_3 x8_2) 92) [.int .u8 (Go.bits .xor .u8 (rd x5_3 x8_2) 92)] (fun k_=>some k_ ≠ (.slice (some ad293) x5_3.length co21 : Value).ownBlock ∧ some k_ ≠ (v295 : Value).ownBlock) (fun _=>False) rfl rfl ?aP (fun _ hk=>hk.elim) ?aF ?aO ?aB ?aS ?aL ?_;(case aP=>exact rfl);(case aB=>exact (by repeat (first|(with_reducible first|exact HB.out|apply Z6|apply Z1|apply Z5)|exact HB.out)));(case aF=>exact (fun k_ hk=>⟨Kd.fresh' (Zk (by (with_reducible repeat (first|apply Z3|apply Z2|apply Z4));exact HO_5.out)) k_ hk,Kd.fresh' (Zk (by (with_reducible repeat (first|apply Z3|apply Z2|apply Z4));exact HO296.out)) k_ hk⟩));(case aO=>exact (by (with_reducible repeat (first|apply Z3|apply Z2|apply Z4));exact HO_7.out));(case aS=>exact (Zc (by repeat (first|(with_reducible first|exact HB.out|apply Z6|apply Z1|apply Z5)|exact HB.out))));(case aL=>have:=LMc20.out;omega);intro v298 w23 ho hb hg hat;rw [← Ny297.out] at ho;have n0_:=Z0 (Kd.R_after (ok:=(fun k_=>some k_ ≠ (v295 : Value).ownBlock)) (by (with_reducible repeat (first|apply Z3|apply Z2|apply Z4));exact Zq HO_5.out (fun _ hk=>⟨hk.2,hk.1⟩)) hg hat);have n1_:=Z0 (Kd.R_after (ok:=(fun k_=>some k_ ≠ (.slice (some ad293) x5_3.length co21 : Value).ownBlock)) (by (with_reducible repeat (first|apply Z3|apply Z2|apply Z4));exact HO296.out) hg hat);have n2_:=Z0 (hb);have n3_:=Z0 (ho);clear HO_5;clear HO296;clear HB;clear HO_7;have HO_5:=n0_;have HO296:=n1_;have HB:=n2_;have HO299:=n3_;clear n0_ n1_ n2_ n3_;clear ho hb hg hat))
     go_roundg k2
     case measure=>have:=HJ3.out;have:=HK2.out;omega
     case rel=>exact ⟨(y294),(y297),(wrap64 (x8_2 + 1)),(by first|rfl|(simp;done)|(simp [*];done)),H',⟨by have:=HJ3.out;have:=HK2.out;omega⟩,⟨by (with_reducible repeat (first|apply Z3|apply Z2|apply Z4));exact HO_5.out⟩,⟨by (with_reducible repeat (first|apply Z3|apply Z2|apply Z4));exact HO296.out⟩,⟨by (with_reducible repeat (first|apply Z3|apply Z2|apply Z4));exact HO299.out⟩,⟨by repeat (first|(with_reducible first|exact HB.out|apply Z6|apply Z1|apply Z5)|exact HB.out)⟩⟩

end Go.Proofs.Ytpkfmjdmfphbaag.QFnExactMac
