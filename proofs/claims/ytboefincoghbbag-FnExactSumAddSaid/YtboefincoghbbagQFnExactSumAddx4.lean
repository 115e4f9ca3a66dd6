/- Plain functions with the same answers as the program's, and the proofs that they are. Printed by a program of this session (wip/myprint.py) out of Lean's print of the loaded program. Conditions: those in each theorem's head. -/
import Derived.Test.YtboefincoghbbagQFnExactSumAddx0
import Derived.Test.YtboefincoghbbagQFnExactSumAddx1
import Derived.Test.YtboefincoghbbagQFnExactSumAddx3
namespace Go.Proofs.Ytboefincoghbbag.QFnExactSumAdd
open Go.RowKit Go.Proofs.Ytboefincoghbbag.Given Go.Proofs.YtboefincoghbbagW.PrintWords Go.Proofs.YtboefincoghbbagW.PrintLast Go.Proofs.YtboefincoghbbagW.PrintMore
attribute [local go_sem] max2_int min2_int max_two min_two max_three min_three max_four min_four   -- for this text's walks alone
set_option linter.unusedVariables false
set_option linter.unusedSimpArgs false

/-! ### spec_SumAdd: function 5 -/
mutual
def spec_SumAdd.j0 : Nat → List Int → Bool → List Int → Int → List Int → List Int → Int → List Int → Option (List Int × Int × List Int)
 | 0, _, _, _, _, _, _, _, _ => none
 | k + 1, x1, x20, x187000, x187001, x187002, x196000, x196001, x196002 => if x20 = true then (some (x196000, x196001, x196002)) else ((some (([] : List Int) : List Int)).bind fun y197 => (if y197.length + x187002.length < 140737488355328 then ((some (y197 ++ x187002 : List Int)).bind fun y200 => (if y200.length + x1.length < 140737488355328 then (spec_SumAdd.l0 k x1 (y200 ++ x1) 0 x187000 x187001 x187002 x196000 x196001 x196002) else (none))) else (none)))
def spec_SumAdd.l0 : Nat → List Int → List Int → Int → List Int → Int → List Int → List Int → Int → List Int → Option (List Int × Int × List Int)
 | 0, _, _, _, _, _, _, _, _, _ => none
 | k + 1, x1, x6, x7, x187000, x187001, x187002, x196000, x196001, x196002 => if (wrap64 ((x6.length : Int) - x7)) ≥ 64 then (if 0 ≤ x7 then (if x7 ≤ (wrap64 (x7 + 64)) then (if (wrap64 (x7 + 64)) ≤ (x6.length : Int) then ((spec_l7Block.f k x196000 ((x6.take ((wrap64 (x7 + 64)) : Int).toNat).drop (x7 : Int).toNat)).bind fun t210 => (spec_SumAdd.l0 k x1 x6 (wrap64 (x7 + 64)) x187000 x187001 x187002 t210 x196001 x196002)) else (none)) else (none)) else (none)) else ((some (([] : List Int) : List Int)).bind fun y213 => (if 0 ≤ x7 then (if x7 ≤ (x6.length : Int) then ((some (x6.drop (x7 : Int).toNat : List Int)).bind fun y216 => (if y213.length + y216.length < 140737488355328 then (some (x196000, wrap64 (x187001 + (x1.length : Int)), (y213 ++ y216))) else (none))) else (none)) else (none)))
end
def spec_SumAdd.f (k : Nat) (l0_0 : List Int) (a0_1 : Int) (l0_2 : List Int) (l1 : List Int) : Option (List Int × Int × List Int) := (spec_l7Copy.f l0_0 a0_1 l0_2).bind fun bt188 => ((spec_SumOk.f k l0_0 a0_1 l0_2).bind fun t196 => (if t196 = true then (spec_SumAdd.j0 k l1 (decide ((l1.length : Int) > (wrap64 (2147483647 - a0_1)))) l0_0 a0_1 l0_2 bt188.1 bt188.2.1 bt188.2.2) else (spec_SumAdd.j0 k l1 true l0_0 a0_1 l0_2 bt188.1 bt188.2.1 bt188.2.2)))
theorem spec_SumAdd.mono_l : ∀ k, (∀ y0 y1 y2 y3 y4 y5 y6 y7, LeO (spec_SumAdd.j0 k y0 y1 y2 y3 y4 y5 y6 y7) (spec_SumAdd.j0 (k + 1) y0 y1 y2 y3 y4 y5 y6 y7)) ∧ (∀ y0 y1 y2 y3 y4 y5 y6 y7 y8, LeO (spec_SumAdd.l0 k y0 y1 y2 y3 y4 y5 y6 y7 y8) (spec_SumAdd.l0 (k + 1) y0 y1 y2 y3 y4 y5 y6 y7 y8))
 | 0 => ⟨fun _ _ _ _ _ _ _ _ r h => by simp [spec_SumAdd.j0] at h, fun _ _ _ _ _ _ _ _ _ r h => by simp [spec_SumAdd.l0] at h⟩
 | k + 1 => by
  obtain ⟨ih0,ih1⟩:=spec_SumAdd.mono_l k
  refine ⟨?_,?_⟩
  · intro y0 y1 y2 y3 y4 y5 y6 y7
    unfold spec_SumAdd.j0
    repeat' first
    | (with_reducible exact ih0 _ _ _ _ _ _ _ _)
    | (with_reducible exact ih1 _ _ _ _ _ _ _ _ _)
    | (with_reducible exact spec_SumOk.mono _ _ _ _)
    | (with_reducible exact spec_l7Block.mono _ _ _)
    | (with_reducible exact LeO.refl _)
    | (with_reducible exact LeO.none _)
    | (with_reducible refine LeO.ite ?_ ?_)
    | (with_reducible refine LeO.bind ?_ (fun _=>?_))
    | exact ih0 _ _ _ _ _ _ _ _
    | exact ih1 _ _ _ _ _ _ _ _ _
    | exact spec_SumOk.mono _ _ _ _
    | exact spec_l7Block.mono _ _ _
    | exact LeO.none _
    | refine LeO.ite ?_ ?_
    | refine LeO.bind ?_ (fun _=>?_)
  · intro y0 y1 y2 y3 y4 y5 y6 y7 y8
    unfold spec_SumAdd.l0
    repeat' first
    | (with_reducible exact ih0 _ _ _ _ _ _ _ _)
    | (with_reducible exact ih1 _ _ _ _ _ _ _ _ _)
    | (with_reducible exact spec_SumOk.mono _ _ _ _)
    | (with_reducible exact spec_l7Block.mono _ _ _)
    | (with_reducible exact LeO.refl _)
    | (with_reducible exact LeO.none _)
    | (with_reducible refine LeO.ite ?_ ?_)
    | (with_reducible refine LeO.bind ?_ (fun _=>?_))
    | exact ih0 _ _ _ _ _ _ _ _
    | exact ih1 _ _ _ _ _ _ _ _ _
    | exact spec_SumOk.mono _ _ _ _
    | exact spec_l7Block.mono _ _ _
    | exact LeO.none _
    | refine LeO.ite ?_ ?_
    | refine LeO.bind ?_ (fun _=>?_)
theorem spec_SumAdd.mono : ∀ a0 a1 a2 a3 k, LeO (spec_SumAdd.f k a0 a1 a2 a3) (spec_SumAdd.f (k + 1) a0 a1 a2 a3) := by
 intro a0 a1 a2 a3 k
 obtain ⟨ih0,ih1⟩:=spec_SumAdd.mono_l k
 unfold spec_SumAdd.f
 repeat' first
  | (with_reducible exact ih0 _ _ _ _ _ _ _ _)
  | (with_reducible exact ih1 _ _ _ _ _ _ _ _ _)
  | (with_reducible exact spec_SumOk.mono _ _ _ _)
  | (with_reducible exact spec_l7Block.mono _ _ _)
  | (with_reducible exact LeO.refl _)
  | (with_reducible exact LeO.none _)
  | (with_reducible refine LeO.ite ?_ ?_)
  | (with_reducible refine LeO.bind ?_ (fun _=>?_))
  | exact ih0 _ _ _ _ _ _ _ _
  | exact ih1 _ _ _ _ _ _ _ _ _
  | exact spec_SumOk.mono _ _ _ _
  | exact spec_l7Block.mono _ _ _
  | exact LeO.none _
  | refine LeO.ite ?_ ?_
  | refine LeO.bind ?_ (fun _=>?_)
def spec_SumAdd.T7 : Bool × List (List Nat × List Nat) := (true, [([], []), ([0], [0]), ([], []), ([], []), ([], []), ([4], [4]), ([2, 3, 5], [2, 3, 5]), ([1, 6], [1, 6]), ([0, 1, 2, 3, 4, 5, 6, 7], []), ([8, 7, 7, 0, 1, 2, 3, 4, 5, 6, 7], [7, 8])])
def spec_SumAdd.B7 : List Nat := [0, 1, 0, 0, 0, 16, 60, 127, 255, 511]
theorem spec_SumAdd.tab7 : rtab .any (opsOf Try.f5 7) = spec_SumAdd.T7 := by kernel_rfl
theorem spec_SumAdd.bits7 : waitsOk spec_SumAdd.T7.2 spec_SumAdd.B7 = true := by kernel_rfl
set_option maxHeartbeats 8000000 in
set_option maxRecDepth 100000 in
theorem spec_SumAdd.calls (k : Nat) (A0_0 : Option Addr) (c0_0 : Nat) (l0_0 : List Int) (a0_1 : Int) (A0_2 : Option Addr) (c0_2 : Nat) (l0_2 : List Int) (A1 : Option Addr) (c1 : Nat) (l1 : List Int) (r1 : List Int) (r2 : Int) (r3 : List Int) (w : World) (hr0_0 : Kd.C (Kd.int .i64) w A0_0 l0_0.length l0_0) (hc0_0 : l0_0.length ≤ c0_0) (hr0_2 : Kd.C (Kd.int .u8) w A0_2 l0_2.length l0_2) (hc0_2 : l0_2.length ≤ c0_2) (hr1 : Kd.C (Kd.int .u8) w A1 l1.length l1) (hc1 : l1.length ≤ c1) (h : spec_SumAdd.f k l0_0 a0_1 l0_2 l1 = some (r1, r2, r3)) :
 Calls Try.prog 5 #[.agg #[.slice A0_0 l0_0.length c0_0, .int .i64 a0_1, .slice A0_2 l0_2.length c0_2], .slice A1 l1.length c1] w fun e w' => ∃ v0_ v2_ : Value, e = .returned (.agg #[v0_, .int .i64 r2, v2_]) ∧ Kd.R (Kd.int .i64) 3 w' w.heap.size (fun _ => True) v0_ r1 ∧ Kd.R (Kd.int .u8) 5 w' w.heap.size (fun _ => True) v2_ r3 ∧ Below w.heap.size w w' := by
 have hu27:=Try.underlying27
 have HR0_0:=Aside0.mk hr0_0
 have HC0_0:=Aside0.mk hc0_0
 clear hr0_0 hc0_0
 have HR0_2:=Aside0.mk hr0_2
 have HC0_2:=Aside0.mk hc0_2
 clear hr0_2 hc0_2
 have HR1:=Aside0.mk hr1
 have HC1:=Aside0.mk hc1
 clear hr1 hc1
 have HB:=Aside0.mk (Below.refl w.heap.size w)
 have H : ((spec_l7Copy.f l0_0 a0_1 l0_2).bind fun bt188=>((spec_SumOk.f k l0_0 a0_1 l0_2).bind fun t196=>(if t196 = true then (spec_SumAdd.j0 k l1 (decide ((l1.length : Int) > (wrap64 (2147483647 - a0_1)))) l0_0 a0_1 l0_2 bt188.1 bt188.2.1 bt188.2.2) else (spec_SumAdd.j0 k l1 true l0_0 a0_1 l0_2 bt188.1 bt188.2.1 bt188.2.2)))) = some (r1,r2,r3):=h
 clear h
 replace H:=Option.bind_eq_some_iff.mp H
 obtain ⟨⟨t188,t191,t192⟩,A30,H⟩:=H
 replace H : ((spec_SumOk.f k l0_0 a0_1 l0_2).bind fun t196=>(if t196 = true then (spec_SumAdd.j0 k l1 (decide ((l1.length : Int) > (wrap64 (2147483647 - a0_1)))) l0_0 a0_1 l0_2 t188 t191 t192) else (spec_SumAdd.j0 k l1 true l0_0 a0_1 l0_2 t188 t191 t192))) = some (r1,r2,r3):=H
 have A3:=Aside0.mk A30
 clear A30
 have HC4:=Aside0.mk H
 clear H
 go_enter Try.func5,Try.ntmps5
 go_upto_region 2 with (first|((with_reducible refine gate_dst (N:=2) rfl ?_);(try (refine gate_guard (by rfl) ?_;dsimp only));refine box_event ?hg (N:=2) ?hd (cs:=#[.slice A0_0 l0_0.length c0_0,.int .i64 a0_1,.slice A0_2 l0_2.length c0_2]) (t:=27) ?hr ?_;(case hd=>rfl);(case hg=>rfl);(case hr=>first|(go_simp;done)|(go_simp;rfl));intro gb186 hg w5 hbox hb;have n0_:=Aside0.mk (below_step (by repeat (first|(with_reducible first|exact HB.out|apply below_alloc|apply pw_below_drewN|apply below_drew1)|exact HB.out)) hb);have n1_:=Aside0.mk (hbox);have n2_:=Aside0.mk ((by rw [hg];exact (below_size (by repeat (first|(with_reducible first|exact HB.out|apply below_alloc|apply pw_below_drewN|apply below_drew1)|exact HB.out))) : w.heap.size ≤ gb186));have n3_:=Aside0.mk ((by rw [hg];exact (below_size (by repeat (first|(with_reducible first|exact HB.out|apply below_alloc|apply pw_below_drewN|apply below_drew1)|exact HB.out))) : w.heap.size ≤ gb186));clear HB;have HB:=n0_;have BK186:=n1_;have GW186:=n2_;have GE186:=n3_;clear n0_ n1_ n2_ n3_;clear hb hbox hg)|((with_reducible refine gate_dst (N:=4) rfl ?_);(try (refine gate_guard (by rfl) ?_;dsimp only));refine box_event ?hg (N:=4) ?hd (cs:=#[.slice none 0 0,.int .i64 0,.slice none 0 0]) (t:=27) ?hr ?_;(case hd=>rfl);(case hg=>rfl);(case hr=>first|(go_simp;done)|(go_simp;rfl));intro gb187 hg w6 hbox hb;have n0_:=Aside0.mk (blk_below (g:=gb186) (o:=.cells #[.slice A0_0 l0_0.length c0_0,.int .i64 a0_1,.slice A0_2 l0_2.length c0_2] 27 (0,0)) (by (with_reducible repeat (first|refine blk_drewN ?_ _|refine blk_drew ?_|refine blk_alloc ?_ _));exact BK186.out) hb);have n1_:=Aside0.mk (below_step (by repeat (first|(with_reducible first|exact HB.out|apply below_alloc|apply pw_below_drewN|apply below_drew1|refine below_set ?_ GE186.out)|exact HB.out)) hb);have n2_:=Aside0.mk (hbox);have n3_:=Aside0.mk ((by rw [hg];exact (below_size (by repeat (first|(with_reducible first|exact HB.out|apply below_alloc|apply pw_below_drewN|apply below_drew1|refine below_set ?_ GE186.out)|exact HB.out))) : w.heap.size ≤ gb187));have n4_:=Aside0.mk ((by rw [hg];exact (below_size (by repeat (first|(with_reducible first|exact HB.out|apply below_alloc|apply pw_below_drewN|apply below_drew1|refine below_set ?_ GE186.out)|exact HB.out))) : w.heap.size ≤ gb187));have n5_:=Aside0.mk ((by rw [hg];exact Nat.ne_of_lt (blk_lt (g:=gb186) (o:=.cells #[.slice A0_0 l0_0.length c0_0,.int .i64 a0_1,.slice A0_2 l0_2.length c0_2] 27 (0,0)) (by (with_reducible repeat (first|refine blk_drewN ?_ _|refine blk_drew ?_|refine blk_alloc ?_ _));exact BK186.out)) : gb186 ≠ gb187));have n6_:=Aside0.mk ((by rw [hg];exact Nat.ne_of_gt (blk_lt (g:=gb186) (o:=.cells #[.slice A0_0 l0_0.length c0_0,.int .i64 a0_1,.slice A0_2 l0_2.length c0_2] 27 (0,0)) (by (with_reducible repeat (first|refine blk_drewN ?_ _|refine blk_drew ?_|refine blk_alloc ?_ _));exact BK186.out)) : gb187 ≠ gb186));clear BK186;clear HB;have BK186:=n0_;have HB:=n1_;have BK187:=n2_;have GW187:=n3_;have GE187:=n4_;have NB186_187:=n5_;have NB187_186:=n6_;clear n0_ n1_ n2_ n3_ n4_ n5_ n6_;clear hb hbox hg;have hnb7:=NB186_187.out;have hnc7:=NB187_186.out;have hcz8_0 : w6.cell? ⟨gb186,0,none⟩ = some (.slice A0_0 l0_0.length c0_0):=(blk_cell BK186.out 0).trans rfl;have hcz8_1 : w6.cell? ⟨gb186,1,none⟩ = some (.int .i64 a0_1):=(blk_cell BK186.out 1).trans rfl;have hcz8_2 : w6.cell? ⟨gb186,2,none⟩ = some (.slice A0_2 l0_2.length c0_2):=(blk_cell BK186.out 2).trans rfl;have hfz8_0:=blk_frozen BK186.out 0;have hfz8_1:=blk_frozen BK186.out 1;have hfz8_2:=blk_frozen BK186.out 2)|((with_reducible refine gate_callee (f:=16) rfl ?_);refine goesL_ (some 9) rfl rfl Try.func16 (by kernel_rfl) rfl #[.agg #[.slice A0_0 l0_0.length c0_0,.int .i64 a0_1,.slice A0_2 l0_2.length c0_2]] rfl (by (try simp only [List.map_toArray,List.map_cons,List.map_nil]);first|done|rfl|(simp only [List.length_drop,List.length_take];rfl)) ?_;(with_reducible refine (spec_l7Copy.calls _ _ l0_0 a0_1 _ _ l0_2 t188 t191 t192 _ ?side1 ?side2 ?side3 ?side4 A3.out).mono ?_);(case side1=>repeat (first|exact (Kd.C_below HR0_0.out HB.out)|(with_reducible refine Kd.C_alloc ?_ _)|(with_reducible refine Kd.C_drewN ?_ _)|(with_reducible refine Kd.C_drew ?_)));(case side2=>exact HC0_0.out);(case side3=>repeat (first|exact (Kd.C_below HR0_2.out HB.out)|(with_reducible refine Kd.C_alloc ?_ _)|(with_reducible refine Kd.C_drewN ?_ _)|(with_reducible refine Kd.C_drew ?_)));(case side4=>exact HC0_2.out);rintro e w9 ⟨v189,v193,rfl,ho0,ho1,hb⟩;refine ⟨_,rfl,?_⟩;have n0_:=Aside0.mk (Kd.R_lower ho0 (below_size (by repeat (first|(with_reducible first|exact HB.out|apply below_alloc|apply pw_below_drewN|apply below_drew1|refine below_set ?_ GE186.out|refine below_set ?_ GE187.out)|exact HB.out))));have n1_:=Aside0.mk (Kd.R_lower ho1 (below_size (by repeat (first|(with_reducible first|exact HB.out|apply below_alloc|apply pw_below_drewN|apply below_drew1|refine below_set ?_ GE186.out|refine below_set ?_ GE187.out)|exact HB.out))));have n2_:=Aside0.mk (blk_below (g:=gb186) (o:=.cells #[.slice A0_0 l0_0.length c0_0,.int .i64 a0_1,.slice A0_2 l0_2.length c0_2] 27 (0,0)) (by (with_reducible repeat (first|refine blk_drewN ?_ _|refine blk_drew ?_|refine blk_alloc ?_ _));exact BK186.out) hb);have n3_:=Aside0.mk (blk_below (g:=gb187) (o:=.cells #[.slice none 0 0,.int .i64 0,.slice none 0 0] 27 (0,0)) (by (with_reducible repeat (first|refine blk_drewN ?_ _|refine blk_drew ?_|refine blk_alloc ?_ _));exact BK187.out) hb);have n4_:=Aside0.mk (below_step (by repeat (first|(with_reducible first|exact HB.out|apply below_alloc|apply pw_below_drewN|apply below_drew1|refine below_set ?_ GE186.out|refine below_set ?_ GE187.out)|exact HB.out)) hb);clear BK186;clear BK187;clear HB;have HO190:=n0_;have HO194:=n1_;have BK186:=n2_;have BK187:=n3_;have HB:=n4_;clear n0_ n1_ n2_ n3_ n4_;(try clear hb);(try clear hb2);(try clear hk);(try clear hi);(try clear ho0);(try clear ho1))|((with_reducible refine gate_dst (N:=5) rfl ?_);(try (refine gate_guard (by rfl) ?_;dsimp only));refine box_event ?hg (N:=5) ?hd (cs:=#[.slice none 0 0,.int .i64 0,.slice none 0 0]) (t:=27) ?hr ?_;(case hd=>rfl);(case hg=>rfl);(case hr=>first|(go_simp;done)|(go_simp;rfl));intro gb195 hg w10 hbox hb;have n0_:=Aside0.mk (Kd.R_below (by (with_reducible repeat (first|apply Kd.R_alloc|apply Kd.R_drewN|apply Kd.R_drew));exact HO190.out) hb);have n1_:=Aside0.mk (Kd.R_below (by (with_reducible repeat (first|apply Kd.R_alloc|apply Kd.R_drewN|apply Kd.R_drew));exact HO194.out) hb);have n2_:=Aside0.mk (blk_below (g:=gb186) (o:=.cells #[.slice A0_0 l0_0.length c0_0,.int .i64 a0_1,.slice A0_2 l0_2.length c0_2] 27 (0,0)) (by (with_reducible repeat (first|refine blk_drewN ?_ _|refine blk_drew ?_|refine blk_alloc ?_ _));exact BK186.out) hb);have n3_:=Aside0.mk (blk_below (g:=gb187) (o:=.cells #[.slice none 0 0,.int .i64 0,.slice none 0 0] 27 (0,0)) (by (with_reducible repeat (first|refine blk_drewN ?_ _|refine blk_drew ?_|refine blk_alloc ?_ _));exact BK187.out) hb);have n4_:=Aside0.mk (below_step (by repeat (first|(with_reducible first|exact HB.out|apply below_alloc|apply pw_below_drewN|apply below_drew1|refine below_set ?_ GE186.out|refine below_set ?_ GE187.out)|exact HB.out)) hb);have n5_:=Aside0.mk (hbox);have n6_:=Aside0.mk ((by rw [hg];exact (below_size (by repeat (first|(with_reducible first|exact HB.out|apply below_alloc|apply pw_below_drewN|apply below_drew1|refine below_set ?_ GE186.out|refine below_set ?_ GE187.out)|exact HB.out))) : w.heap.size ≤ gb195));have n7_:=Aside0.mk ((by rw [hg];exact (below_size (by repeat (first|(with_reducible first|exact HB.out|apply below_alloc|apply pw_below_drewN|apply below_drew1|refine below_set ?_ GE186.out|refine below_set ?_ GE187.out)|exact HB.out))) : w.heap.size ≤ gb195));have n8_:=Aside0.mk ((by rw [hg];exact Nat.ne_of_lt (blk_lt (g:=gb186) (o:=.cells #[.slice A0_0 l0_0.length c0_0,.int .i64 a0_1,.slice A0_2 l0_2.length c0_2] 27 (0,0)) (by (with_reducible repeat (first|refine blk_drewN ?_ _|refine blk_drew ?_|refine blk_alloc ?_ _));exact BK186.out)) : gb186 ≠ gb195));have n9_:=Aside0.mk ((by rw [hg];exact Nat.ne_of_gt (blk_lt (g:=gb186) (o:=.cells #[.slice A0_0 l0_0.length c0_0,.int .i64 a0_1,.slice A0_2 l0_2.length c0_2] 27 (0,0)) (by (with_reducible repeat (first|refine blk_drewN ?_ _|refine blk_drew ?_|refine blk_alloc ?_ _));exact BK186.out)) : gb195 ≠ gb186));have n10_:=Aside0.mk ((by rw [hg];exact Nat.ne_of_lt (blk_lt (g:=gb187) (o:=.cells #[.slice none 0 0,.int .i64 0,.slice none 0 0] 27 (0,0)) (by (with_reducible repeat (first|refine blk_drewN ?_ _|refine blk_drew ?_|refine blk_alloc ?_ _));exact BK187.out)) : gb187 ≠ gb195));have n11_:=Aside0.mk ((by rw [hg];exact Nat.ne_of_gt (blk_lt (g:=gb187) (o:=.cells #[.slice none 0 0,.int .i64 0,.slice none 0 0] 27 (0,0)) (by (with_reducible repeat (first|refine blk_drewN ?_ _|refine blk_drew ?_|refine blk_alloc ?_ _));exact BK187.out)) : gb195 ≠ gb187));clear HO190;clear HO194;clear BK186;clear BK187;clear HB;have HO190:=n0_;have HO194:=n1_;have BK186:=n2_;have BK187:=n3_;have HB:=n4_;have BK195:=n5_;have GW195:=n6_;have GE195:=n7_;have NB186_195:=n8_;have NB195_186:=n9_;have NB187_195:=n10_;have NB195_187:=n11_;clear n0_ n1_ n2_ n3_ n4_ n5_ n6_ n7_ n8_ n9_ n10_ n11_;clear hb hbox hg;obtain ⟨Ao11,co11,eo11⟩:=Kd.R_slice HO190.out;subst eo11;have hnb12:=NB195_186.out;have hnc12:=NB186_195.out;have hnb13:=NB195_187.out;have hnc13:=NB187_195.out;have hcz14_0 : w10.cell? ⟨gb195,0,none⟩ = some (.slice none 0 0):=(blk_cell BK195.out 0).trans rfl;have hcz14_1 : w10.cell? ⟨gb195,1,none⟩ = some (.int .i64 0):=(blk_cell BK195.out 1).trans rfl;have hcz14_2 : w10.cell? ⟨gb195,2,none⟩ = some (.slice none 0 0):=(blk_cell BK195.out 2).trans rfl;have hfz14_0:=blk_frozen BK195.out 0;have hfz14_1:=blk_frozen BK195.out 1;have hfz14_2:=blk_frozen BK195.out 2;obtain ⟨Ao15,co15,eo15⟩:=Kd.R_slice HO194.out;subst eo15))
 (try simp only [Act.put,List.setIfInBounds_toArray,List.set_cons_zero,List.set_cons_succ])
 go_cut [20] (fun v20 wc=>∃ (kq : Nat) (x20_3 : Bool),v20 = .bool x20_3 ∧ Aside0 (spec_SumAdd.j0 kq l1 x20_3 l0_0 a0_1 l0_2 t188 t191 t192 = some (r1,r2,r3)) ∧ Aside0 (kq ≤ k) ∧ Aside0 (Kd.R (Kd.int .i64) 3 wc w.heap.size (fun _=>True) (.slice Ao11 t188.length co11) t188) ∧ Aside0 (Kd.R (Kd.int .u8) 5 wc w.heap.size (fun _=>True) (.slice Ao15 t192.length co15) t192) ∧ Aside0 (wc.heap[gb186]? = some (.cells #[(.slice A0_0 l0_0.length c0_0),.int .i64 a0_1,(.slice A0_2 l0_2.length c0_2)] 27 (0,0))) ∧ Aside0 (wc.heap[gb187]? = some (.cells #[(.slice none 0 0),.int .i64 0,(.slice none 0 0)] 27 (0,0))) ∧ Aside0 (wc.heap[gb195]? = some (.cells #[(.slice Ao11 t188.length co11),.int .i64 t191,(.slice Ao15 t192.length co15)] 27 (0,0))) ∧ Aside0 (Below w.heap.size w wc))
 case first =>
  have H:=HC4.out
  clear HC4
  replace H:=Option.bind_eq_some_iff.mp H
  obtain ⟨t196,A160,H⟩:=H
  replace H : (if t196 = true then (spec_SumAdd.j0 k l1 (decide ((l1.length : Int) > (wrap64 (2147483647 - a0_1)))) l0_0 a0_1 l0_2 t188 t191 t192) else (spec_SumAdd.j0 k l1 true l0_0 a0_1 l0_2 t188 t191 t192)) = some (r1,r2,r3):=H
  have A16:=Aside0.mk A160
  clear A160
  by_cases c17 : t196 = true
  case neg =>
   replace c17:=Bool.eq_false_iff.mpr c17
   subst c17
   have H1 : (spec_SumAdd.j0 k l1 true l0_0 a0_1 l0_2 t188 t191 t192) = some (r1,r2,r3):=by rw [if_neg (show ¬ (false = true) by decide)] at H;exact H
   clear H
   have H:=H1
   clear H1
   have H':=Aside0.mk H
   clear H
   have hnb23:=NB186_187.out
   have hnc23:=NB187_186.out
   have hnb24:=NB186_195.out
   have hnc24:=NB195_186.out
   have hcz25_0 : w10.cell? ⟨gb186,0,none⟩ = some (.slice A0_0 l0_0.length c0_0):=(blk_cell BK186.out 0).trans rfl
   have hcz25_1 : w10.cell? ⟨gb186,1,none⟩ = some (.int .i64 a0_1):=(blk_cell BK186.out 1).trans rfl
   have hcz25_2 : w10.cell? ⟨gb186,2,none⟩ = some (.slice A0_2 l0_2.length c0_2):=(blk_cell BK186.out 2).trans rfl
   have hfz25_0:=blk_frozen BK186.out 0
   have hfz25_1:=blk_frozen BK186.out 1
   have hfz25_2:=blk_frozen BK186.out 2
   go_wp2_with (first|((with_reducible refine gate_callee (f:=17) rfl ?_);refine goesL_ (some 11) rfl rfl Try.func17 (by kernel_rfl) rfl #[.agg #[.slice A0_0 l0_0.length c0_0,.int .i64 a0_1,.slice A0_2 l0_2.length c0_2]] rfl (by (try simp only [List.map_toArray,List.map_cons,List.map_nil]);first|done|rfl|(simp only [List.length_drop,List.length_take];rfl)) ?_;(with_reducible refine (spec_SumOk.calls k _ _ l0_0 a0_1 _ _ l0_2 false _ ?side1 ?side2 ?side3 ?side4 A16.out).mono ?_);(case side1=>exact Kd.C_below HR0_0.out (by repeat (first|(with_reducible first|exact HB.out|apply below_alloc|apply pw_below_drewN|apply below_drew1|refine below_set ?_ GE186.out|refine below_set ?_ GE187.out|refine below_set ?_ GE195.out)|exact HB.out)));(case side2=>exact HC0_0.out);(case side3=>exact Kd.C_below HR0_2.out (by repeat (first|(with_reducible first|exact HB.out|apply below_alloc|apply pw_below_drewN|apply below_drew1|refine below_set ?_ GE186.out|refine below_set ?_ GE187.out|refine below_set ?_ GE195.out)|exact HB.out)));(case side4=>exact HC0_2.out);rintro e w26 ⟨rfl,hb⟩;refine ⟨_,rfl,?_⟩;have n0_:=Aside0.mk (Kd.R_below (by (with_reducible repeat (first|apply Kd.R_alloc|apply Kd.R_drewN|apply Kd.R_drew));exact (Kd.R_mono (Kd.R_far (p:=⟨gb195,2,none⟩) (Kd.R_far (p:=⟨gb195,1,none⟩) (Kd.R_far (p:=⟨gb195,0,none⟩) (Kd.R_types HO190.out BK195.out (by decide)) (fun _ hk=>hk.2) (.slice Ao11 t188.length co11)) (fun _ hk=>hk.2) (.int .i64 t191)) (fun _ hk=>hk.2) (.slice Ao15 t192.length co15)) (fun _ h_=>h_.1))) hb);have n1_:=Aside0.mk (Kd.R_below (by (with_reducible repeat (first|apply Kd.R_alloc|apply Kd.R_drewN|apply Kd.R_drew));exact (Kd.R_mono (Kd.R_far (p:=⟨gb195,2,none⟩) (Kd.R_far (p:=⟨gb195,1,none⟩) (Kd.R_far (p:=⟨gb195,0,none⟩) (Kd.R_types HO194.out BK195.out (by decide)) (fun _ hk=>hk.2) (.slice Ao11 t188.length co11)) (fun _ hk=>hk.2) (.int .i64 t191)) (fun _ hk=>hk.2) (.slice Ao15 t192.length co15)) (fun _ h_=>h_.1))) hb);have n2_:=Aside0.mk (blk_below (g:=gb186) (o:=.cells #[.slice A0_0 l0_0.length c0_0,.int .i64 a0_1,.slice A0_2 l0_2.length c0_2] 27 (0,0)) (by (with_reducible repeat (first|refine blk_drewN ?_ _|refine blk_drew ?_|refine blk_alloc ?_ _));refine blk_far ?_ NB186_195.out _;(with_reducible repeat (first|refine blk_drewN ?_ _|refine blk_drew ?_|refine blk_alloc ?_ _));refine blk_far ?_ NB186_195.out _;(with_reducible repeat (first|refine blk_drewN ?_ _|refine blk_drew ?_|refine blk_alloc ?_ _));refine blk_far ?_ NB186_195.out _;(with_reducible repeat (first|refine blk_drewN ?_ _|refine blk_drew ?_|refine blk_alloc ?_ _));exact BK186.out) hb);have n3_:=Aside0.mk (blk_below (g:=gb187) (o:=.cells #[.slice none 0 0,.int .i64 0,.slice none 0 0] 27 (0,0)) (by (with_reducible repeat (first|refine blk_drewN ?_ _|refine blk_drew ?_|refine blk_alloc ?_ _));refine blk_far ?_ NB187_195.out _;(with_reducible repeat (first|refine blk_drewN ?_ _|refine blk_drew ?_|refine blk_alloc ?_ _));refine blk_far ?_ NB187_195.out _;(with_reducible repeat (first|refine blk_drewN ?_ _|refine blk_drew ?_|refine blk_alloc ?_ _));refine blk_far ?_ NB187_195.out _;(with_reducible repeat (first|refine blk_drewN ?_ _|refine blk_drew ?_|refine blk_alloc ?_ _));exact BK187.out) hb);have n4_:=Aside0.mk (blk_below (g:=gb195) (o:=.cells #[.slice Ao11 t188.length co11,.int .i64 t191,.slice Ao15 t192.length co15] 27 (0,0)) (by (with_reducible repeat (first|refine blk_drewN ?_ _|refine blk_drew ?_|refine blk_alloc ?_ _));refine blk_put (cs:=#[.slice Ao11 t188.length co11,.int .i64 t191,.slice none 0 0]) ?_ 2 _ rfl;(with_reducible repeat (first|refine blk_drewN ?_ _|refine blk_drew ?_|refine blk_alloc ?_ _));refine blk_put (cs:=#[.slice Ao11 t188.length co11,.int .i64 0,.slice none 0 0]) ?_ 1 _ rfl;(with_reducible repeat (first|refine blk_drewN ?_ _|refine blk_drew ?_|refine blk_alloc ?_ _));refine blk_put (cs:=#[.slice none 0 0,.int .i64 0,.slice none 0 0]) ?_ 0 _ rfl;(with_reducible repeat (first|refine blk_drewN ?_ _|refine blk_drew ?_|refine blk_alloc ?_ _));exact BK195.out) hb);have n5_:=Aside0.mk (below_step (by repeat (first|(with_reducible first|exact HB.out|apply below_alloc|apply pw_below_drewN|apply below_drew1|refine below_set ?_ GE186.out|refine below_set ?_ GE187.out|refine below_set ?_ GE195.out)|exact HB.out)) hb);clear HO190;clear HO194;clear BK186;clear BK187;clear BK195;clear HB;have HO190:=n0_;have HO194:=n1_;have BK186:=n2_;have BK187:=n3_;have BK195:=n4_;have HB:=n5_;clear n0_ n1_ n2_ n3_ n4_ n5_;(try clear hb);(try clear hb2);(try clear hk);(try clear hi)))
   go_meet
   case rel=>exact ⟨_,(true),(by first|rfl|(simp;done)|(simp [*];done)),H',⟨by first|omega|exact Nat.le_refl _⟩,⟨by (with_reducible repeat (first|apply Kd.R_alloc|apply Kd.R_drewN|apply Kd.R_drew));exact HO190.out⟩,⟨by (with_reducible repeat (first|apply Kd.R_alloc|apply Kd.R_drewN|apply Kd.R_drew));exact HO194.out⟩,⟨by (with_reducible repeat (first|refine blk_drewN ?_ _|refine blk_drew ?_|refine blk_alloc ?_ _));exact BK186.out⟩,⟨by (with_reducible repeat (first|refine blk_drewN ?_ _|refine blk_drew ?_|refine blk_alloc ?_ _));exact BK187.out⟩,⟨by (with_reducible repeat (first|refine blk_drewN ?_ _|refine blk_drew ?_|refine blk_alloc ?_ _));exact BK195.out⟩,⟨by repeat (first|(with_reducible first|exact HB.out|apply below_alloc|apply pw_below_drewN|apply below_drew1|refine below_set ?_ GE186.out|refine below_set ?_ GE187.out|refine below_set ?_ GE195.out)|exact HB.out)⟩⟩
  subst c17
  have H1 : (spec_SumAdd.j0 k l1 (decide ((l1.length : Int) > (wrap64 (2147483647 - a0_1)))) l0_0 a0_1 l0_2 t188 t191 t192) = some (r1,r2,r3):=by rw [if_pos rfl] at H;exact H
  clear H
  have H:=H1
  clear H1
  have H':=Aside0.mk H
  clear H
  have hnb18:=NB186_187.out
  have hnc18:=NB187_186.out
  have hnb19:=NB186_195.out
  have hnc19:=NB195_186.out
  have hcz20_0 : w10.cell? ⟨gb186,0,none⟩ = some (.slice A0_0 l0_0.length c0_0):=(blk_cell BK186.out 0).trans rfl
  have hcz20_1 : w10.cell? ⟨gb186,1,none⟩ = some (.int .i64 a0_1):=(blk_cell BK186.out 1).trans rfl
  have hcz20_2 : w10.cell? ⟨gb186,2,none⟩ = some (.slice A0_2 l0_2.length c0_2):=(blk_cell BK186.out 2).trans rfl
  have hfz20_0:=blk_frozen BK186.out 0
  have hfz20_1:=blk_frozen BK186.out 1
  have hfz20_2:=blk_frozen BK186.out 2
  go_wp2_with (first|((with_reducible refine gate_callee (f:=17) rfl ?_);refine goesL_ (some 11) rfl rfl Try.func17 (by kernel_rfl) rfl #[.agg #[.slice A0_0 l0_0.length c0_0,.int .i64 a0_1,.slice A0_2 l0_2.length c0_2]] rfl (by (try simp only [List.map_toArray,List.map_cons,List.map_nil]);first|done|rfl|(simp only [List.length_drop,List.length_take];rfl)) ?_;(with_reducible refine (spec_SumOk.calls k _ _ l0_0 a0_1 _ _ l0_2 true _ ?side1 ?side2 ?side3 ?side4 A16.out).mono ?_);(case side1=>exact Kd.C_below HR0_0.out (by repeat (first|(with_reducible first|exact HB.out|apply below_alloc|apply pw_below_drewN|apply below_drew1|refine below_set ?_ GE186.out|refine below_set ?_ GE187.out|refine below_set ?_ GE195.out)|exact HB.out)));(case side2=>exact HC0_0.out);(case side3=>exact Kd.C_below HR0_2.out (by repeat (first|(with_reducible first|exact HB.out|apply below_alloc|apply pw_below_drewN|apply below_drew1|refine below_set ?_ GE186.out|refine below_set ?_ GE187.out|refine below_set ?_ GE195.out)|exact HB.out)));(case side4=>exact HC0_2.out);rintro e w21 ⟨rfl,hb⟩;refine ⟨_,rfl,?_⟩;have n0_:=Aside0.mk (Kd.R_below (by (with_reducible repeat (first|apply Kd.R_alloc|apply Kd.R_drewN|apply Kd.R_drew));exact (Kd.R_mono (Kd.R_far (p:=⟨gb195,2,none⟩) (Kd.R_far (p:=⟨gb195,1,none⟩) (Kd.R_far (p:=⟨gb195,0,none⟩) (Kd.R_types HO190.out BK195.out (by decide)) (fun _ hk=>hk.2) (.slice Ao11 t188.length co11)) (fun _ hk=>hk.2) (.int .i64 t191)) (fun _ hk=>hk.2) (.slice Ao15 t192.length co15)) (fun _ h_=>h_.1))) hb);have n1_:=Aside0.mk (Kd.R_below (by (with_reducible repeat (first|apply Kd.R_alloc|apply Kd.R_drewN|apply Kd.R_drew));exact (Kd.R_mono (Kd.R_far (p:=⟨gb195,2,none⟩) (Kd.R_far (p:=⟨gb195,1,none⟩) (Kd.R_far (p:=⟨gb195,0,none⟩) (Kd.R_types HO194.out BK195.out (by decide)) (fun _ hk=>hk.2) (.slice Ao11 t188.length co11)) (fun _ hk=>hk.2) (.int .i64 t191)) (fun _ hk=>hk.2) (.slice Ao15 t192.length co15)) (fun _ h_=>h_.1))) hb);have n2_:=Aside0.mk (blk_below (g:=gb186) (o:=.cells #[.slice A0_0 l0_0.length c0_0,.int .i64 a0_1,.slice A0_2 l0_2.length c0_2] 27 (0,0)) (by (with_reducible repeat (first|refine blk_drewN ?_ _|refine blk_drew ?_|refine blk_alloc ?_ _));refine blk_far ?_ NB186_195.out _;(with_reducible repeat (first|refine blk_drewN ?_ _|refine blk_drew ?_|refine blk_alloc ?_ _));refine blk_far ?_ NB186_195.out _;(with_reducible repeat (first|refine blk_drewN ?_ _|refine blk_drew ?_|refine blk_alloc ?_ _));refine blk_far ?_ NB186_195.out _;(with_reducible repeat (first|refine blk_drewN ?_ _|refine blk_drew ?_|refine blk_alloc ?_ _));exact BK186.out) hb);have n3_:=Aside0.mk (blk_below (g:=gb187) (o:=.cells #[.slice none 0 0,.int .i64 0,.slice none 0 0] 27 (0,0)) (by (with_reducible repeat (first|refine blk_drewN ?_ _|refine blk_drew ?_|refine blk_alloc ?_ _));refine blk_far ?_ NB187_195.out _;(with_reducible repeat (first|refine blk_drewN ?_ _|refine blk_drew ?_|refine blk_alloc ?_ _));refine blk_far ?_ NB187_195.out _;(with_reducible repeat (first|refine blk_drewN ?_ _|refine blk_drew ?_|refine blk_alloc ?_ _));refine blk_far ?_ NB187_195.out _;(with_reducible repeat (first|refine blk_drewN ?_ _|refine blk_drew ?_|refine blk_alloc ?_ _));exact BK187.out) hb);have n4_:=Aside0.mk (blk_below (g:=gb195) (o:=.cells #[.slice Ao11 t188.length co11,.int .i64 t191,.slice Ao15 t192.length co15] 27 (0,0)) (by (with_reducible repeat (first|refine blk_drewN ?_ _|refine blk_drew ?_|refine blk_alloc ?_ _));refine blk_put (cs:=#[.slice Ao11 t188.length co11,.int .i64 t191,.slice none 0 0]) ?_ 2 _ rfl;(with_reducible repeat (first|refine blk_drewN ?_ _|refine blk_drew ?_|refine blk_alloc ?_ _));refine blk_put (cs:=#[.slice Ao11 t188.length co11,.int .i64 0,.slice none 0 0]) ?_ 1 _ rfl;(with_reducible repeat (first|refine blk_drewN ?_ _|refine blk_drew ?_|refine blk_alloc ?_ _));refine blk_put (cs:=#[.slice none 0 0,.int .i64 0,.slice none 0 0]) ?_ 0 _ rfl;(with_reducible repeat (first|refine blk_drewN ?_ _|refine blk_drew ?_|refine blk_alloc ?_ _));exact BK195.out) hb);have n5_:=Aside0.mk (below_step (by repeat (first|(with_reducible first|exact HB.out|apply below_alloc|apply pw_below_drewN|apply below_drew1|refine below_set ?_ GE186.out|refine below_set ?_ GE187.out|refine below_set ?_ GE195.out)|exact HB.out)) hb);clear HO190;clear HO194;clear BK186;clear BK187;clear BK195;clear HB;have HO190:=n0_;have HO194:=n1_;have BK186:=n2_;have BK187:=n3_;have BK195:=n4_;have HB:=n5_;clear n0_ n1_ n2_ n3_ n4_ n5_;(try clear hb);(try clear hb2);(try clear hk);(try clear hi);have hcz22_0 : w21.cell? ⟨gb186,0,none⟩ = some (.slice A0_0 l0_0.length c0_0):=(blk_cell BK186.out 0).trans rfl;have hcz22_1 : w21.cell? ⟨gb186,1,none⟩ = some (.int .i64 a0_1):=(blk_cell BK186.out 1).trans rfl;have hcz22_2 : w21.cell? ⟨gb186,2,none⟩ = some (.slice A0_2 l0_2.length c0_2):=(blk_cell BK186.out 2).trans rfl;have hfz22_0:=blk_frozen BK186.out 0;have hfz22_1:=blk_frozen BK186.out 1;have hfz22_2:=blk_frozen BK186.out 2))
  go_meet
  case rel=>exact ⟨_,(decide ((l1.length : Int) > (wrap64 (2147483647 - a0_1)))),(by first|rfl|(simp;done)|(simp [*];done)),H',⟨by first|omega|exact Nat.le_refl _⟩,⟨by (with_reducible repeat (first|apply Kd.R_alloc|apply Kd.R_drewN|apply Kd.R_drew));exact HO190.out⟩,⟨by (with_reducible repeat (first|apply Kd.R_alloc|apply Kd.R_drewN|apply Kd.R_drew));exact HO194.out⟩,⟨by (with_reducible repeat (first|refine blk_drewN ?_ _|refine blk_drew ?_|refine blk_alloc ?_ _));exact BK186.out⟩,⟨by (with_reducible repeat (first|refine blk_drewN ?_ _|refine blk_drew ?_|refine blk_alloc ?_ _));exact BK187.out⟩,⟨by (with_reducible repeat (first|refine blk_drewN ?_ _|refine blk_drew ?_|refine blk_alloc ?_ _));exact BK195.out⟩,⟨by repeat (first|(with_reducible first|exact HB.out|apply below_alloc|apply pw_below_drewN|apply below_drew1|refine below_set ?_ GE186.out|refine below_set ?_ GE187.out|refine below_set ?_ GE195.out)|exact HB.out)⟩⟩
 case rest =>
  clear HC4
  (try clear c1);(try clear c2);(try clear p2);(try clear c5);(try clear p6);(try clear c7);(try clear c12);(try clear c13);(try clear c16);(try clear c17);(try clear c18);(try clear c19);(try clear c23);(try clear c24);(try clear hcz14_0);(try clear hcz14_1);(try clear hcz14_2);(try clear hcz20_0);(try clear hcz20_1);(try clear hcz20_2);(try clear hcz22_0);(try clear hcz22_1);(try clear hcz22_2);(try clear hcz25_0);(try clear hcz25_1);(try clear hcz25_2);(try clear hcz8_0);(try clear hcz8_1);(try clear hcz8_2);(try clear hfz14_0);(try clear hfz14_1);(try clear hfz14_2);(try clear hfz20_0);(try clear hfz20_1);(try clear hfz20_2);(try clear hfz22_0);(try clear hfz22_1);(try clear hfz22_2);(try clear hfz25_0);(try clear hfz25_1);(try clear hfz25_2);(try clear hfz8_0);(try clear hfz8_1);(try clear hfz8_2)
  obtain ⟨kq,x20_3,rfl,HA,HJ3,HO_196000,HO_196002,BK186,BK187,BK195,HB⟩:=hcut
  cases kq with
  | zero=>exact absurd HA.out (by simp [spec_SumAdd.j0])
  | succ kj3 =>
   have H:=HA.out
   clear HA
   simp only [spec_SumAdd.j0] at H
   by_cases c27 : x20_3 = true
   case pos =>
    subst c27
    have H1 : (some (t188,t191,t192)) = some (r1,r2,r3):=by rw [if_pos rfl] at H;exact H
    clear H
    have H:=H1
    clear H1
    simp only [Option.some.injEq,Prod.mk.injEq] at H
    obtain ⟨rfl,rfl,rfl⟩:=H
    have hnb28:=NB195_186.out
    have hnc28:=NB186_195.out
    have hnb29:=NB195_187.out
    have hnc29:=NB187_195.out
    have hcz30_0 : wc.cell? ⟨gb195,0,none⟩ = some (.slice Ao11 t188.length co11):=(blk_cell BK195.out 0).trans rfl
    have hcz30_1 : wc.cell? ⟨gb195,1,none⟩ = some (.int .i64 t191):=(blk_cell BK195.out 1).trans rfl
    have hcz30_2 : wc.cell? ⟨gb195,2,none⟩ = some (.slice Ao15 t192.length co15):=(blk_cell BK195.out 2).trans rfl
    have hfz30_0:=blk_frozen BK195.out 0
    have hfz30_1:=blk_frozen BK195.out 1
    have hfz30_2:=blk_frozen BK195.out 2
    have hnb31:=NB187_186.out
    have hnc31:=NB186_187.out
    have hcz32_0 : wc.cell? ⟨gb187,0,none⟩ = some (.slice none 0 0):=(blk_cell BK187.out 0).trans rfl
    have hcz32_1 : wc.cell? ⟨gb187,1,none⟩ = some (.int .i64 0):=(blk_cell BK187.out 1).trans rfl
    have hcz32_2 : wc.cell? ⟨gb187,2,none⟩ = some (.slice none 0 0):=(blk_cell BK187.out 2).trans rfl
    have hfz32_0:=blk_frozen BK187.out 0
    have hfz32_1:=blk_frozen BK187.out 1
    have hfz32_2:=blk_frozen BK187.out 2
    go_wp2
    refine bodyPost_ret (results_cell_row rfl _ _ gb187 27 #[.slice Ao11 t188.length co11,.int .i64 t191,.slice Ao15 t192.length co15] (0,0) _ rfl (by (with_reducible repeat (first|refine blk_drewN ?_ _|refine blk_drew ?_|refine blk_alloc ?_ _));refine blk_put (cs:=#[.slice Ao11 t188.length co11,.int .i64 t191,.slice none 0 0]) ?_ 2 _ rfl;(with_reducible repeat (first|refine blk_drewN ?_ _|refine blk_drew ?_|refine blk_alloc ?_ _));refine blk_put (cs:=#[.slice Ao11 t188.length co11,.int .i64 0,.slice none 0 0]) ?_ 1 _ rfl;(with_reducible repeat (first|refine blk_drewN ?_ _|refine blk_drew ?_|refine blk_alloc ?_ _));refine blk_put (cs:=#[.slice none 0 0,.int .i64 0,.slice none 0 0]) ?_ 0 _ rfl;(with_reducible repeat (first|refine blk_drewN ?_ _|refine blk_drew ?_|refine blk_alloc ?_ _));exact BK187.out) Try.underlying27 rfl (by kernel_rfl)) rfl ?_
    exact ⟨_,_,by first|rfl|(simp [errW_none,errW_some]<;>rfl)|(simp [*,errW_none,errW_some]<;>rfl),by (with_reducible repeat (first|apply Kd.R_alloc|apply Kd.R_drewN|apply Kd.R_drew));exact Kd.R_mono (Kd.R_far (p:=⟨gb187,2,none⟩) (Kd.R_far (p:=⟨gb187,1,none⟩) (Kd.R_far (p:=⟨gb187,0,none⟩) (Kd.R_types HO_196000.out BK187.out (by decide)) (fun _ hk=>hk.2) (.slice Ao11 t188.length co11)) (fun _ hk=>hk.2) (.int .i64 t191)) (fun _ hk=>hk.2) (.slice Ao15 t192.length co15)) (fun _ hk=>trivial),by (with_reducible repeat (first|apply Kd.R_alloc|apply Kd.R_drewN|apply Kd.R_drew));exact Kd.R_mono (Kd.R_far (p:=⟨gb187,2,none⟩) (Kd.R_far (p:=⟨gb187,1,none⟩) (Kd.R_far (p:=⟨gb187,0,none⟩) (Kd.R_types HO_196002.out BK187.out (by decide)) (fun _ hk=>hk.2) (.slice Ao11 t188.length co11)) (fun _ hk=>hk.2) (.int .i64 t191)) (fun _ hk=>hk.2) (.slice Ao15 t192.length co15)) (fun _ hk=>trivial),by repeat (first|(with_reducible first|exact HB.out|apply below_alloc|apply pw_below_drewN|apply below_drew1|refine below_set ?_ GE186.out|refine below_set ?_ GE187.out|refine below_set ?_ GE195.out)|exact HB.out)⟩
   replace c27:=Bool.eq_false_iff.mpr c27
   subst c27
   have H1 : ((some (([] : List Int) : List Int)).bind fun y197=>(if y197.length + l0_2.length < 140737488355328 then ((some (y197 ++ l0_2 : List Int)).bind fun y200=>(if y200.length + l1.length < 140737488355328 then (spec_SumAdd.l0 kj3 l1 (y200 ++ l1) 0 l0_0 a0_1 l0_2 t188 t191 t192) else (none))) else (none))) = some (r1,r2,r3):=by rw [if_neg (show ¬ (false = true) by decide)] at H;exact H
   clear H
   have H:=H1
   clear H1
   obtain ⟨y197,hy197⟩ : ∃ y_ : List Int,y_ = (([] : List Int)):=⟨_,rfl⟩
   replace H : (if y197.length + l0_2.length < 140737488355328 then ((some (y197 ++ l0_2 : List Int)).bind fun y200=>(if y200.length + l1.length < 140737488355328 then (spec_SumAdd.l0 kj3 l1 (y200 ++ l1) 0 l0_0 a0_1 l0_2 t188 t191 t192) else (none))) else (none)) = some (r1,r2,r3):=by first|(rw [hy197];with_reducible exact H)|(have H2_:=(Option.bind_some _ _).symm.trans H;rw [hy197];with_reducible exact H2_)|(have H2_:=(Option.bind_some _ _).symm.trans H;with_reducible exact H2_)|with_reducible exact H|(rw [hy197];exact H)|exact H
   have Ny197:=Aside0.mk hy197
   clear hy197
   by_cases c33 : y197.length + l0_2.length < 140737488355328
   case neg =>
    rw [if_neg c33] at H
    exact absurd H (by simp)
   rw [if_pos c33] at H
   have LMc33:=Aside0.mk c33
   clear c33
   obtain ⟨y200,hy200⟩ : ∃ y_ : List Int,y_ = (y197 ++ l0_2):=⟨_,rfl⟩
   replace H : (if y200.length + l1.length < 140737488355328 then (spec_SumAdd.l0 kj3 l1 (y200 ++ l1) 0 l0_0 a0_1 l0_2 t188 t191 t192) else (none)) = some (r1,r2,r3):=by first|(rw [hy200];with_reducible exact H)|(have H2_:=(Option.bind_some _ _).symm.trans H;rw [hy200];with_reducible exact H2_)|(have H2_:=(Option.bind_some _ _).symm.trans H;with_reducible exact H2_)|with_reducible exact H|(rw [hy200];exact H)|exact H
   have Ny200:=Aside0.mk hy200
   clear hy200
   by_cases c34 : y200.length + l1.length < 140737488355328
   case neg =>
    rw [if_neg c34] at H
    exact absurd H (by simp)
   rw [if_pos c34] at H
   have LMc34:=Aside0.mk c34
   clear c34
   obtain ⟨y203,hy203⟩ : ∃ y_ : List Int,y_ = (y200 ++ l1):=⟨_,rfl⟩
   replace H : (spec_SumAdd.l0 kj3 l1 y203 0 l0_0 a0_1 l0_2 t188 t191 t192) = some (r1,r2,r3):=by first|(rw [hy203];with_reducible exact H)|(have H2_:=(Option.bind_some _ _).symm.trans H;rw [hy203];with_reducible exact H2_)|(have H2_:=(Option.bind_some _ _).symm.trans H;with_reducible exact H2_)|with_reducible exact H|(rw [hy203];exact H)|exact H
   have Ny203:=Aside0.mk hy203
   clear hy203
   have H':=Aside0.mk H
   clear H
   go_wp2_with (first|((with_reducible refine gate_dst (N:=22) rfl ?_);(try (refine gate_guard (by rfl) ?_;dsimp only));refine Kd.R_lit (Kd.int .u8) _ 5 ?hg (N:=22) ?hd (xs:=([] : List Int)) (inner:=[]) (ok:=fun _=>True) (okp:=fun _=>True) ?hr ?hp (fun _ hk=>hk) trivial (Below.refl _ _) (Nat.le_refl _) (by simp) ?_;(case hd=>rfl);(case hg=>rfl);(case hr=>first|(go_simp;done)|(go_simp;rfl));(case hp=>exact (Reps.none _ _));intro v198 w35 ho36 hb hg_ hnew_;clear hg_ hnew_;(first|rw [← Ny197.out] at ho36|(simp only [Int.reduceToNat] at ho36;rw [← Ny197.out] at ho36));have n0_:=Aside0.mk (Kd.R_below (by (with_reducible repeat (first|apply Kd.R_alloc|apply Kd.R_drewN|apply Kd.R_drew));exact HO_196000.out) hb);have n1_:=Aside0.mk (Kd.R_elder' (by (with_reducible repeat (first|apply Kd.R_alloc|apply Kd.R_drewN|apply Kd.R_drew));exact HO_196002.out) (Kd.R_base ho36) hb);have n2_:=Aside0.mk (Kd.R_lower (Kd.R_new' ho36 (Kd.R_lt (by (with_reducible repeat (first|apply Kd.R_alloc|apply Kd.R_drewN|apply Kd.R_drew));exact HO_196002.out))) (below_size (by repeat (first|(with_reducible first|exact HB.out|apply below_alloc|apply pw_below_drewN|apply below_drew1|refine below_set ?_ GE186.out|refine below_set ?_ GE187.out|refine below_set ?_ GE195.out)|exact HB.out))));have n3_:=Aside0.mk (blk_below (g:=gb186) (o:=.cells #[.slice A0_0 l0_0.length c0_0,.int .i64 a0_1,.slice A0_2 l0_2.length c0_2] 27 (0,0)) (by (with_reducible repeat (first|refine blk_drewN ?_ _|refine blk_drew ?_|refine blk_alloc ?_ _));exact BK186.out) hb);have n4_:=Aside0.mk (blk_below (g:=gb187) (o:=.cells #[.slice none 0 0,.int .i64 0,.slice none 0 0] 27 (0,0)) (by (with_reducible repeat (first|refine blk_drewN ?_ _|refine blk_drew ?_|refine blk_alloc ?_ _));exact BK187.out) hb);have n5_:=Aside0.mk (blk_below (g:=gb195) (o:=.cells #[.slice Ao11 t188.length co11,.int .i64 t191,.slice Ao15 t192.length co15] 27 (0,0)) (by (with_reducible repeat (first|refine blk_drewN ?_ _|refine blk_drew ?_|refine blk_alloc ?_ _));exact BK195.out) hb);have n6_:=Aside0.mk (below_step (by repeat (first|(with_reducible first|exact HB.out|apply below_alloc|apply pw_below_drewN|apply below_drew1|refine below_set ?_ GE186.out|refine below_set ?_ GE187.out|refine below_set ?_ GE195.out)|exact HB.out)) hb);clear HO_196000;clear HO_196002;clear BK186;clear BK187;clear BK195;clear HB;have HO_196000:=n0_;have HO_196002:=n1_;have HO199:=n2_;have BK186:=n3_;have BK187:=n4_;have BK195:=n5_;have HB:=n6_;clear n0_ n1_ n2_ n3_ n4_ n5_ n6_;clear hb ho36;have hnb37:=NB186_187.out;have hnc37:=NB187_186.out;have hnb38:=NB186_195.out;have hnc38:=NB195_186.out;have hcz39_0 : w35.cell? ⟨gb186,0,none⟩ = some (.slice A0_0 l0_0.length c0_0):=(blk_cell BK186.out 0).trans rfl;have hcz39_1 : w35.cell? ⟨gb186,1,none⟩ = some (.int .i64 a0_1):=(blk_cell BK186.out 1).trans rfl;have hcz39_2 : w35.cell? ⟨gb186,2,none⟩ = some (.slice A0_2 l0_2.length c0_2):=(blk_cell BK186.out 2).trans rfl;have hfz39_0:=blk_frozen BK186.out 0;have hfz39_1:=blk_frozen BK186.out 1;have hfz39_2:=blk_frozen BK186.out 2)|((with_reducible refine gate_builtin (b:=.append) (xs:=#[.tmp 22,.tmp 24]) rfl ?_);(try (refine gate_guard (by rfl) ?_;dsimp only));at_builtin;refine Kd.R_append_rows (Kd.int .u8) (w0:=w) w.heap.size rfl (.tmp 22) (.tmp 24) 23 5 (.int .u8 0) 1 rfl Try.underlying23 info5 rfl (by decide) (by omega) v198 y197 l0_2 _ _ _ (fun k_=>some k_ ≠ (.slice Ao15 t192.length co15 : Value).ownBlock) (fun _=>False) rfl rfl ?aO ?aR (fun _ _ h=>h) (fun _ h=>h.elim) ?aF ?aB ?aS ?aL ?_;(case aR=>repeat (first|exact (Kd.C_below HR0_2.out HB.out)|(with_reducible refine Kd.C_alloc ?_ _)|(with_reducible refine Kd.C_drewN ?_ _)|(with_reducible refine Kd.C_drew ?_)));(case aB=>exact (by repeat (first|(with_reducible first|exact HB.out|apply below_alloc|apply pw_below_drewN|apply below_drew1|refine below_set ?_ GE186.out|refine below_set ?_ GE187.out|refine below_set ?_ GE195.out)|exact HB.out)));(case aF=>exact (fun k_ hk=>Kd.fresh' (Kd.R_lt (by (with_reducible repeat (first|apply Kd.R_alloc|apply Kd.R_drewN|apply Kd.R_drew));exact HO_196002.out)) k_ hk));(case aO=>exact (by (with_reducible repeat (first|apply Kd.R_alloc|apply Kd.R_drewN|apply Kd.R_drew));exact Kd.R_mono HO199.out (fun _ hk=>hk.2)));(case aS=>exact (below_size (by repeat (first|(with_reducible first|exact HB.out|apply below_alloc|apply pw_below_drewN|apply below_drew1|refine below_set ?_ GE186.out|refine below_set ?_ GE187.out|refine below_set ?_ GE195.out)|exact HB.out))));(case aL=>have:=LMc33.out;omega);intro v201 w40 ho hb hg hat;rw [← Ny200.out] at ho;have n0_:=Aside0.mk (Kd.R_over' (by (with_reducible repeat (first|apply Kd.R_alloc|apply Kd.R_drewN|apply Kd.R_drew));exact HO_196000.out) (Kd.R_typed (by (with_reducible repeat (first|apply Kd.R_alloc|apply Kd.R_drewN|apply Kd.R_drew));exact HO199.out)) (by decide) hg);have n1_:=Aside0.mk (Kd.R_after (ok:=(fun _=>True)) (by (with_reducible repeat (first|apply Kd.R_alloc|apply Kd.R_drewN|apply Kd.R_drew));exact HO_196002.out) hg hat);have n2_:=Aside0.mk (blk_grown (g:=gb186) (o:=.cells #[.slice A0_0 l0_0.length c0_0,.int .i64 a0_1,.slice A0_2 l0_2.length c0_2] 27 (0,0)) (by (with_reducible repeat (first|refine blk_drewN ?_ _|refine blk_drew ?_|refine blk_alloc ?_ _));exact BK186.out) hg (Kd.R_ne HO199.out BK186.out (by decide)));have n3_:=Aside0.mk (blk_grown (g:=gb187) (o:=.cells #[.slice none 0 0,.int .i64 0,.slice none 0 0] 27 (0,0)) (by (with_reducible repeat (first|refine blk_drewN ?_ _|refine blk_drew ?_|refine blk_alloc ?_ _));exact BK187.out) hg (Kd.R_ne HO199.out BK187.out (by decide)));have n4_:=Aside0.mk (blk_grown (g:=gb195) (o:=.cells #[.slice Ao11 t188.length co11,.int .i64 t191,.slice Ao15 t192.length co15] 27 (0,0)) (by (with_reducible repeat (first|refine blk_drewN ?_ _|refine blk_drew ?_|refine blk_alloc ?_ _));exact BK195.out) hg (Kd.R_ne HO199.out BK195.out (by decide)));have n5_:=Aside0.mk (hb);have n6_:=Aside0.mk (ho);clear HO_196000;clear HO_196002;clear BK186;clear BK187;clear BK195;clear HB;clear HO199;have HO_196000:=n0_;have HO_196002:=n1_;have BK186:=n2_;have BK187:=n3_;have BK195:=n4_;have HB:=n5_;have HO202:=n6_;clear n0_ n1_ n2_ n3_ n4_ n5_ n6_;clear ho hb hg hat)|((with_reducible refine gate_builtin (b:=.append) (xs:=#[.tmp 25,.tmp 26]) rfl ?_);(try (refine gate_guard (by rfl) ?_;dsimp only));at_builtin;refine Kd.R_append_rows (Kd.int .u8) (w0:=w) w.heap.size rfl (.tmp 25) (.tmp 26) 23 5 (.int .u8 0) 1 rfl Try.underlying23 info5 rfl (by decide) (by omega) v201 y200 l1 _ _ _ (fun k_=>some k_ ≠ (.slice Ao15 t192.length co15 : Value).ownBlock) (fun _=>False) rfl rfl ?aO ?aR (fun _ _ h=>h) (fun _ h=>h.elim) ?aF ?aB ?aS ?aL ?_;(case aR=>repeat (first|exact (Kd.C_below HR1.out HB.out)|(with_reducible refine Kd.C_alloc ?_ _)|(with_reducible refine Kd.C_drewN ?_ _)|(with_reducible refine Kd.C_drew ?_)));(case aB=>exact (by repeat (first|(with_reducible first|exact HB.out|apply below_alloc|apply pw_below_drewN|apply below_drew1|refine below_set ?_ GE186.out|refine below_set ?_ GE187.out|refine below_set ?_ GE195.out)|exact HB.out)));(case aF=>exact (fun k_ hk=>Kd.fresh' (Kd.R_lt (by (with_reducible repeat (first|apply Kd.R_alloc|apply Kd.R_drewN|apply Kd.R_drew));exact HO_196002.out)) k_ hk));(case aO=>exact (by (with_reducible repeat (first|apply Kd.R_alloc|apply Kd.R_drewN|apply Kd.R_drew));exact HO202.out));(case aS=>exact (below_size (by repeat (first|(with_reducible first|exact HB.out|apply below_alloc|apply pw_below_drewN|apply below_drew1|refine below_set ?_ GE186.out|refine below_set ?_ GE187.out|refine below_set ?_ GE195.out)|exact HB.out))));(case aL=>have:=LMc34.out;omega);intro v204 w41 ho hb hg hat;rw [← Ny203.out] at ho;have n0_:=Aside0.mk (Kd.R_over' (by (with_reducible repeat (first|apply Kd.R_alloc|apply Kd.R_drewN|apply Kd.R_drew));exact HO_196000.out) (Kd.R_typed (by (with_reducible repeat (first|apply Kd.R_alloc|apply Kd.R_drewN|apply Kd.R_drew));exact HO202.out)) (by decide) hg);have n1_:=Aside0.mk (Kd.R_after (ok:=(fun _=>True)) (by (with_reducible repeat (first|apply Kd.R_alloc|apply Kd.R_drewN|apply Kd.R_drew));exact HO_196002.out) hg hat);have n2_:=Aside0.mk (blk_grown (g:=gb186) (o:=.cells #[.slice A0_0 l0_0.length c0_0,.int .i64 a0_1,.slice A0_2 l0_2.length c0_2] 27 (0,0)) (by (with_reducible repeat (first|refine blk_drewN ?_ _|refine blk_drew ?_|refine blk_alloc ?_ _));exact BK186.out) hg (Kd.R_ne HO202.out BK186.out (by decide)));have n3_:=Aside0.mk (blk_grown (g:=gb187) (o:=.cells #[.slice none 0 0,.int .i64 0,.slice none 0 0] 27 (0,0)) (by (with_reducible repeat (first|refine blk_drewN ?_ _|refine blk_drew ?_|refine blk_alloc ?_ _));exact BK187.out) hg (Kd.R_ne HO202.out BK187.out (by decide)));have n4_:=Aside0.mk (blk_grown (g:=gb195) (o:=.cells #[.slice Ao11 t188.length co11,.int .i64 t191,.slice Ao15 t192.length co15] 27 (0,0)) (by (with_reducible repeat (first|refine blk_drewN ?_ _|refine blk_drew ?_|refine blk_alloc ?_ _));exact BK195.out) hg (Kd.R_ne HO202.out BK195.out (by decide)));have n5_:=Aside0.mk (hb);have n6_:=Aside0.mk (ho);clear HO_196000;clear HO_196002;clear BK186;clear BK187;clear BK195;clear HB;clear HO202;have HO_196000:=n0_;have HO_196002:=n1_;have BK186:=n2_;have BK187:=n3_;have BK195:=n4_;have HB:=n5_;have HO205:=n6_;clear n0_ n1_ n2_ n3_ n4_ n5_ n6_;clear ho hb hg hat))
   go_loopg [7] kj3 (fun kq v7 w'=>∃ (x7_2 : Int) (x196000_2 : List Int) (u196000 : Value),v7 = .int .i64 x7_2 ∧ Aside0 (spec_SumAdd.l0 kq l1 y203 x7_2 l0_0 a0_1 l0_2 x196000_2 t191 t192 = some (r1,r2,r3)) ∧ Aside0 (kq ≤ kj3) ∧ Aside0 (Kd.R (Kd.int .u8) 5 w' w.heap.size (fun k_=>some k_ ≠ ((.slice Ao15 t192.length co15) : Value).ownBlock) v204 y203) ∧ Aside0 (Kd.R (Kd.int .i64) 3 w' w.heap.size (fun _=>True) u196000 x196000_2) ∧ Aside0 (Kd.R (Kd.int .u8) 5 w' w.heap.size (fun k_=>some k_ ≠ (v204 : Value).ownBlock) (.slice Ao15 t192.length co15) t192) ∧ Aside0 (w'.heap[gb186]? = some (.cells #[(.slice A0_0 l0_0.length c0_0),.int .i64 a0_1,(.slice A0_2 l0_2.length c0_2)] 27 (0,0))) ∧ Aside0 (w'.heap[gb187]? = some (.cells #[(.slice none 0 0),.int .i64 0,(.slice none 0 0)] 27 (0,0))) ∧ Aside0 (w'.heap[gb195]? = some (.cells #[u196000,.int .i64 t191,(.slice Ao15 t192.length co15)] 27 (0,0))) ∧ Aside0 (Below w.heap.size w w'))
   case atStart=>exact ⟨(0),(t188),(.slice Ao11 t188.length co11),(by first|rfl|(simp;done)|(simp [*];done)),H',⟨Nat.le_refl _⟩,⟨by (with_reducible repeat (first|apply Kd.R_alloc|apply Kd.R_drewN|apply Kd.R_drew));exact HO205.out⟩,⟨by (with_reducible repeat (first|apply Kd.R_alloc|apply Kd.R_drewN|apply Kd.R_drew));exact HO_196000.out⟩,⟨by (with_reducible repeat (first|apply Kd.R_alloc|apply Kd.R_drewN|apply Kd.R_drew));exact Kd.R_mono HO_196002.out (fun _ hk=>hk.2)⟩,⟨by (with_reducible repeat (first|refine blk_drewN ?_ _|refine blk_drew ?_|refine blk_alloc ?_ _));exact BK186.out⟩,⟨by (with_reducible repeat (first|refine blk_drewN ?_ _|refine blk_drew ?_|refine blk_alloc ?_ _));exact BK187.out⟩,⟨by (with_reducible repeat (first|refine blk_drewN ?_ _|refine blk_drew ?_|refine blk_alloc ?_ _));exact BK195.out⟩,⟨by repeat (first|(with_reducible first|exact HB.out|apply below_alloc|apply pw_below_drewN|apply below_drew1|refine below_set ?_ GE186.out|refine below_set ?_ GE187.out|refine below_set ?_ GE195.out)|exact HB.out)⟩⟩
   case round =>
    clear H'
    (try clear c1);(try clear c2);(try clear p2);(try clear c3);(try clear c5);(try clear p6);(try clear c7);(try clear c12);(try clear c13);(try clear c16);(try clear c17);(try clear c18);(try clear c19);(try clear c23);(try clear c24);(try clear c27);(try clear c28);(try clear c29);(try clear c31);(try clear c33);(try clear c34);(try clear c37);(try clear c38);(try clear hcz14_0);(try clear hcz14_1);(try clear hcz14_2);(try clear hcz20_0);(try clear hcz20_1);(try clear hcz20_2);(try clear hcz22_0);(try clear hcz22_1);(try clear hcz22_2);(try clear hcz25_0);(try clear hcz25_1);(try clear hcz25_2);(try clear hcz30_0);(try clear hcz30_1);(try clear hcz30_2);(try clear hcz32_0);(try clear hcz32_1);(try clear hcz32_2);(try clear hcz39_0);(try clear hcz39_1);(try clear hcz39_2);(try clear hcz8_0);(try clear hcz8_1);(try clear hcz8_2);(try clear hfz14_0);(try clear hfz14_1);(try clear hfz14_2);(try clear hfz20_0);(try clear hfz20_1);(try clear hfz20_2);(try clear hfz22_0);(try clear hfz22_1);(try clear hfz22_2);(try clear hfz25_0);(try clear hfz25_1);(try clear hfz25_2);(try clear hfz30_0);(try clear hfz30_1);(try clear hfz30_2);(try clear hfz32_0);(try clear hfz32_1);(try clear hfz32_2);(try clear hfz39_0);(try clear hfz39_1);(try clear hfz39_2);(try clear hfz8_0);(try clear hfz8_1);(try clear hfz8_2);(try clear p2);(try clear p6)
    obtain ⟨x7_2,x196000_2,u196000,rfl,HA,HK2,HO_6,HO_196000,HO_196002,BK186,BK187,BK195,HB⟩:=hrel
    cases gk with
    | zero=>exact absurd HA.out (by simp [spec_SumAdd.l0])
    | succ k2 =>
     have H:=HA.out
     clear HA
     simp only [spec_SumAdd.l0] at H
     by_cases c42 : (wrap64 ((y203.length : Int) - x7_2)) ≥ 64
     case neg =>
      rw [if_neg c42] at H
      have c42b0 : decide (64 ≤ (wrap64 ((y203.length : Int) - x7_2))) = false:=decide_eq_false c42
      clear c42
      obtain ⟨y213,hy213⟩ : ∃ y_ : List Int,y_ = (([] : List Int)):=⟨_,rfl⟩
      replace H : (if 0 ≤ x7_2 then (if x7_2 ≤ (y203.length : Int) then ((some (y203.drop (x7_2 : Int).toNat : List Int)).bind fun y216=>(if y213.length + y216.length < 140737488355328 then (some (x196000_2,wrap64 (a0_1 + (l1.length : Int)),(y213 ++ y216))) else (none))) else (none)) else (none)) = some (r1,r2,r3):=by first|(rw [hy213];with_reducible exact H)|(have H2_:=(Option.bind_some _ _).symm.trans H;rw [hy213];with_reducible exact H2_)|(have H2_:=(Option.bind_some _ _).symm.trans H;with_reducible exact H2_)|with_reducible exact H|(rw [hy213];exact H)|exact H
      have Ny213:=Aside0.mk hy213
      clear hy213
      by_cases c54 : 0 ≤ x7_2
      case neg =>
       rw [if_neg c54] at H
       exact absurd H (by simp)
      rw [if_pos c54] at H
      have c54b0:=eq_true c54
      have c54b1 : decide (0 ≤ x7_2) = true:=decide_eq_true c54
      clear c54
      by_cases c55 : x7_2 ≤ (y203.length : Int)
      case neg =>
       rw [if_neg c55] at H
       exact absurd H (by simp)
      rw [if_pos c55] at H
      have c55b0:=eq_true c55
      have c55b1 : decide (x7_2 ≤ (y203.length : Int)) = true:=decide_eq_true c55
      clear c55
      obtain ⟨y216,hy216⟩ : ∃ y_ : List Int,y_ = (y203.drop (x7_2 : Int).toNat):=⟨_,rfl⟩
      replace H : (if y213.length + y216.length < 140737488355328 then (some (x196000_2,wrap64 (a0_1 + (l1.length : Int)),(y213 ++ y216))) else (none)) = some (r1,r2,r3):=by first|(rw [hy216];with_reducible exact H)|(have H2_:=(Option.bind_some _ _).symm.trans H;rw [hy216];with_reducible exact H2_)|(have H2_:=(Option.bind_some _ _).symm.trans H;with_reducible exact H2_)|with_reducible exact H|(rw [hy216];exact H)|exact H
      have Ny216:=Aside0.mk hy216
      clear hy216
      by_cases c56 : y213.length + y216.length < 140737488355328
      case neg =>
       rw [if_neg c56] at H
       exact absurd H (by simp)
      rw [if_pos c56] at H
      have LMc56:=Aside0.mk c56
      clear c56
      obtain ⟨y220,hy220⟩ : ∃ y_ : List Int,y_ = (y213 ++ y216):=⟨_,rfl⟩
      replace H : (some (x196000_2,wrap64 (a0_1 + (l1.length : Int)),y220)) = some (r1,r2,r3):=by first|(rw [hy220];with_reducible exact H)|(have H2_:=(Option.bind_some _ _).symm.trans H;rw [hy220];with_reducible exact H2_)|(have H2_:=(Option.bind_some _ _).symm.trans H;with_reducible exact H2_)|with_reducible exact H|(rw [hy220];exact H)|exact H
      have Ny220:=Aside0.mk hy220
      clear hy220
      simp only [Option.some.injEq,Prod.mk.injEq] at H
      obtain ⟨rfl,rfl,rfl⟩:=H
      obtain ⟨Ao57,co57,eo57⟩:=Kd.R_slice HO_6.out
      subst eo57
      have hnb58:=NB186_187.out
      have hnc58:=NB187_186.out
      have hnb59:=NB186_195.out
      have hnc59:=NB195_186.out
      have hcz60_0 : wr.cell? ⟨gb186,0,none⟩ = some (.slice A0_0 l0_0.length c0_0):=(blk_cell BK186.out 0).trans rfl
      have hcz60_1 : wr.cell? ⟨gb186,1,none⟩ = some (.int .i64 a0_1):=(blk_cell BK186.out 1).trans rfl
      have hcz60_2 : wr.cell? ⟨gb186,2,none⟩ = some (.slice A0_2 l0_2.length c0_2):=(blk_cell BK186.out 2).trans rfl
      have hfz60_0:=blk_frozen BK186.out 0
      have hfz60_1:=blk_frozen BK186.out 1
      have hfz60_2:=blk_frozen BK186.out 2
      have hnb61:=NB195_187.out
      have hnc61:=NB187_195.out
      have hcz62_0 : wr.cell? ⟨gb195,0,none⟩ = some (u196000):=(blk_cell BK195.out 0).trans rfl
      have hcz62_1 : wr.cell? ⟨gb195,1,none⟩ = some (.int .i64 t191):=(blk_cell BK195.out 1).trans rfl
      have hcz62_2 : wr.cell? ⟨gb195,2,none⟩ = some (.slice Ao15 t192.length co15):=(blk_cell BK195.out 2).trans rfl
      have hfz62_0:=blk_frozen BK195.out 0
      have hfz62_1:=blk_frozen BK195.out 1
      have hfz62_2:=blk_frozen BK195.out 2
      go_wp2_with (first|((with_reducible refine gate_dst (N:=50) rfl ?_);(try (refine gate_guard (by rfl) ?_;dsimp only));refine Kd.R_lit (Kd.int .u8) _ 5 ?hg (N:=50) ?hd (xs:=([] : List Int)) (inner:=[]) (ok:=fun _=>True) (okp:=fun _=>True) ?hr ?hp (fun _ hk=>hk) trivial (Below.refl _ _) (Nat.le_refl _) (by simp) ?_;(case hd=>rfl);(case hg=>rfl);(case hr=>first|(go_simp;done)|(go_simp;rfl));(case hp=>exact (Reps.none _ _));intro v214 w63 ho64 hb hg_ hnew_;clear hg_ hnew_;(first|rw [← Ny213.out] at ho64|(simp only [Int.reduceToNat] at ho64;rw [← Ny213.out] at ho64));have n0_:=Aside0.mk (Kd.R_elder' (by (with_reducible repeat (first|apply Kd.R_alloc|apply Kd.R_drewN|apply Kd.R_drew));exact (Kd.R_mono (Kd.R_far (p:=⟨gb195,1,none⟩) (Kd.R_types HO_6.out BK195.out (by decide)) (fun _ hk=>hk.2) (.int .i64 (wrap64 (a0_1 + (l1.length : Int))))) (fun _ h_=>h_.1))) (Kd.R_base ho64) hb);have n1_:=Aside0.mk (Kd.R_below (by (with_reducible repeat (first|apply Kd.R_alloc|apply Kd.R_drewN|apply Kd.R_drew));exact (Kd.R_mono (Kd.R_far (p:=⟨gb195,1,none⟩) (Kd.R_types HO_196000.out BK195.out (by decide)) (fun _ hk=>hk.2) (.int .i64 (wrap64 (a0_1 + (l1.length : Int))))) (fun _ h_=>h_.1))) hb);have n2_:=Aside0.mk (Kd.R_elder' (by (with_reducible repeat (first|apply Kd.R_alloc|apply Kd.R_drewN|apply Kd.R_drew));exact (Kd.R_mono (Kd.R_far (p:=⟨gb195,1,none⟩) (Kd.R_types HO_196002.out BK195.out (by decide)) (fun _ hk=>hk.2) (.int .i64 (wrap64 (a0_1 + (l1.length : Int))))) (fun _ h_=>h_.1))) (Kd.R_base ho64) hb);have n3_:=Aside0.mk (Kd.R_lower (Kd.R_new' (Kd.R_new' ho64 (Kd.R_lt (by (with_reducible repeat (first|apply Kd.R_alloc|apply Kd.R_drewN|apply Kd.R_drew));exact (Kd.R_mono (Kd.R_far (p:=⟨gb195,1,none⟩) (Kd.R_types HO_6.out BK195.out (by decide)) (fun _ hk=>hk.2) (.int .i64 (wrap64 (a0_1 + (l1.length : Int))))) (fun _ h_=>h_.1))))) (Kd.R_lt (by (with_reducible repeat (first|apply Kd.R_alloc|apply Kd.R_drewN|apply Kd.R_drew));exact (Kd.R_mono (Kd.R_far (p:=⟨gb195,1,none⟩) (Kd.R_types HO_196002.out BK195.out (by decide)) (fun _ hk=>hk.2) (.int .i64 (wrap64 (a0_1 + (l1.length : Int))))) (fun _ h_=>h_.1))))) (below_size (by repeat (first|(with_reducible first|exact HB.out|apply below_alloc|apply pw_below_drewN|apply below_drew1|refine below_set ?_ GE186.out|refine below_set ?_ GE187.out|refine below_set ?_ GE195.out)|exact HB.out))));have n4_:=Aside0.mk (blk_below (g:=gb186) (o:=.cells #[.slice A0_0 l0_0.length c0_0,.int .i64 a0_1,.slice A0_2 l0_2.length c0_2] 27 (0,0)) (by (with_reducible repeat (first|refine blk_drewN ?_ _|refine blk_drew ?_|refine blk_alloc ?_ _));refine blk_far ?_ NB186_195.out _;(with_reducible repeat (first|refine blk_drewN ?_ _|refine blk_drew ?_|refine blk_alloc ?_ _));exact BK186.out) hb);have n5_:=Aside0.mk (blk_below (g:=gb187) (o:=.cells #[.slice none 0 0,.int .i64 0,.slice none 0 0] 27 (0,0)) (by (with_reducible repeat (first|refine blk_drewN ?_ _|refine blk_drew ?_|refine blk_alloc ?_ _));refine blk_far ?_ NB187_195.out _;(with_reducible repeat (first|refine blk_drewN ?_ _|refine blk_drew ?_|refine blk_alloc ?_ _));exact BK187.out) hb);have n6_:=Aside0.mk (blk_below (g:=gb195) (o:=.cells #[u196000,.int .i64 (wrap64 (a0_1 + (l1.length : Int))),.slice Ao15 t192.length co15] 27 (0,0)) (by (with_reducible repeat (first|refine blk_drewN ?_ _|refine blk_drew ?_|refine blk_alloc ?_ _));refine blk_put (cs:=#[u196000,.int .i64 t191,.slice Ao15 t192.length co15]) ?_ 1 _ rfl;(with_reducible repeat (first|refine blk_drewN ?_ _|refine blk_drew ?_|refine blk_alloc ?_ _));exact BK195.out) hb);have n7_:=Aside0.mk (below_step (by repeat (first|(with_reducible first|exact HB.out|apply below_alloc|apply pw_below_drewN|apply below_drew1|refine below_set ?_ GE186.out|refine below_set ?_ GE187.out|refine below_set ?_ GE195.out)|exact HB.out)) hb);clear HO_6;clear HO_196000;clear HO_196002;clear BK186;clear BK187;clear BK195;clear HB;have HO_6:=n0_;have HO_196000:=n1_;have HO_196002:=n2_;have HO215:=n3_;have BK186:=n4_;have BK187:=n5_;have BK195:=n6_;have HB:=n7_;clear n0_ n1_ n2_ n3_ n4_ n5_ n6_ n7_;clear hb ho64;have q65 : (x7_2 : Int) ≤ ((y203.length : Int) : Int):=of_decide_eq_true (by first|(with_reducible assumption)|assumption);obtain ⟨i065,hi065,_,hsz65,_⟩:=info_parts info5;have hroom65 : y203.length ≤ co57:=(Kd.R_reads' HO_6.out).2.1;have hC65 : Kd.C (Kd.int .u8) _ Ao57 y203.length y203:=(Kd.R_reads' HO_6.out).2.2;have q065 : (0 : Int) ≤ (x7_2 : Int):=of_decide_eq_true (by first|(with_reducible assumption)|assumption);have hcut65:=cut_from (P:=Try.prog) 23 5 .i64 Try.underlying23 hi065 1 hsz65 Ao57 y203.length co57 x7_2 q065 q65;have hr65:=Kd.C_drop (m:=(x7_2 : Int).toNat) (c:=co57) hC65 (by omega) hroom65;obtain ⟨A65,hA65⟩ : ∃ A1,A1 = (if co57 = (x7_2 : Int).toNat then Ao57 else (Ao57 : Option Addr).map (·.add ((x7_2 : Int).toNat * 1))):=⟨_,rfl⟩;obtain ⟨c65,hc65⟩ : ∃ c1,c1 = co57 - (x7_2 : Int).toNat:=⟨_,rfl⟩;have hy65 : y216.length = y203.length - (x7_2 : Int).toNat:=(by rw [Ny216.out,List.length_drop]<;>omega);rw [show (y203).drop (x7_2 : Int).toNat = y216 from Ny216.out.symm] at hr65;replace hr65 : Kd.C (Kd.int .u8) _ A65 y216.length y216:=(by rw [hA65];exact hr65);rw [← hy65,← hA65,← hc65] at hcut65;have HR219:=Aside0.mk hr65;have HC219:=Aside0.mk (show y216.length ≤ c65 from by rw [hy65,hc65];exact Nat.sub_le_sub_right hroom65 _);clear hr65 hC65 hroom65 hi065 hsz65 hc65;have KY65:=Aside0.mk hy65;have KA65:=Aside0.mk hA65;clear hy65 hA65;have KL65:=Aside0.mk (show (x7_2 : Int).toNat ≤ y203.length from by omega);replace q65:=eq_true q65)|((with_reducible refine gate_builtin (b:=.append) (xs:=#[.tmp 50,.tmp 53]) rfl ?_);(try (refine gate_guard (by rfl) ?_;dsimp only));at_builtin;refine Kd.R_append_rows (Kd.int .u8) (w0:=w) w.heap.size rfl (.tmp 50) (.tmp 53) 23 5 (.int .u8 0) 1 rfl Try.underlying23 info5 rfl (by decide) (by omega) v214 y213 y216 _ _ _ (fun k_=>some k_ ≠ (.slice Ao57 y203.length co57 : Value).ownBlock ∧ some k_ ≠ (.slice Ao15 t192.length co15 : Value).ownBlock) (fun _=>False) rfl rfl ?aO ?aR (fun _ _ h=>h) (fun _ h=>h.elim) ?aF ?aB ?aS ?aL ?_;(case aR=>repeat (first|exact (by repeat (first|(with_reducible exact HR219.out)|(with_reducible refine Kd.C_alloc ?_ _)|(with_reducible refine Kd.C_drewN ?_ _)|(with_reducible refine Kd.C_drew ?_)|exact HR219.out))|(with_reducible refine Kd.C_alloc ?_ _)|(with_reducible refine Kd.C_drewN ?_ _)|(with_reducible refine Kd.C_drew ?_)));(case aB=>exact (by repeat (first|(with_reducible first|exact HB.out|apply below_alloc|apply pw_below_drewN|apply below_drew1|refine below_set ?_ GE186.out|refine below_set ?_ GE187.out|refine below_set ?_ GE195.out)|exact HB.out)));(case aF=>exact (fun k_ hk=>⟨Kd.fresh' (Kd.R_lt (by (with_reducible repeat (first|apply Kd.R_alloc|apply Kd.R_drewN|apply Kd.R_drew));exact HO_6.out)) k_ hk,Kd.fresh' (Kd.R_lt (by (with_reducible repeat (first|apply Kd.R_alloc|apply Kd.R_drewN|apply Kd.R_drew));exact HO_196002.out)) k_ hk⟩));(case aO=>exact (by (with_reducible repeat (first|apply Kd.R_alloc|apply Kd.R_drewN|apply Kd.R_drew));exact Kd.R_mono HO215.out (fun _ hk=>⟨hk.1.2,hk.2⟩)));(case aS=>exact (below_size (by repeat (first|(with_reducible first|exact HB.out|apply below_alloc|apply pw_below_drewN|apply below_drew1|refine below_set ?_ GE186.out|refine below_set ?_ GE187.out|refine below_set ?_ GE195.out)|exact HB.out))));(case aL=>have:=LMc56.out;omega);intro v221 w66 ho hb hg hat;rw [← Ny220.out] at ho;have n0_:=Aside0.mk (Kd.R_after (ok:=(fun k_=>some k_ ≠ (.slice Ao15 t192.length co15 : Value).ownBlock)) (by (with_reducible repeat (first|apply Kd.R_alloc|apply Kd.R_drewN|apply Kd.R_drew));exact HO_6.out) hg hat);have n1_:=Aside0.mk (Kd.R_over' (by (with_reducible repeat (first|apply Kd.R_alloc|apply Kd.R_drewN|apply Kd.R_drew));exact HO_196000.out) (Kd.R_typed (by (with_reducible repeat (first|apply Kd.R_alloc|apply Kd.R_drewN|apply Kd.R_drew));exact HO215.out)) (by decide) hg);have n2_:=Aside0.mk (Kd.R_after (ok:=(fun k_=>some k_ ≠ (.slice Ao57 y203.length co57 : Value).ownBlock)) (by (with_reducible repeat (first|apply Kd.R_alloc|apply Kd.R_drewN|apply Kd.R_drew));exact HO_196002.out) hg hat);have n3_:=Aside0.mk (blk_grown (g:=gb186) (o:=.cells #[.slice A0_0 l0_0.length c0_0,.int .i64 a0_1,.slice A0_2 l0_2.length c0_2] 27 (0,0)) (by (with_reducible repeat (first|refine blk_drewN ?_ _|refine blk_drew ?_|refine blk_alloc ?_ _));exact BK186.out) hg (Kd.R_ne HO215.out BK186.out (by decide)));have n4_:=Aside0.mk (blk_grown (g:=gb187) (o:=.cells #[.slice none 0 0,.int .i64 0,.slice none 0 0] 27 (0,0)) (by (with_reducible repeat (first|refine blk_drewN ?_ _|refine blk_drew ?_|refine blk_alloc ?_ _));exact BK187.out) hg (Kd.R_ne HO215.out BK187.out (by decide)));have n5_:=Aside0.mk (blk_grown (g:=gb195) (o:=.cells #[u196000,.int .i64 (wrap64 (a0_1 + (l1.length : Int))),.slice Ao15 t192.length co15] 27 (0,0)) (by (with_reducible repeat (first|refine blk_drewN ?_ _|refine blk_drew ?_|refine blk_alloc ?_ _));exact BK195.out) hg (Kd.R_ne HO215.out BK195.out (by decide)));have n6_:=Aside0.mk (hb);have n7_:=Aside0.mk ((show Kd.C (Kd.int .u8) w66 A65 y216.length y216 from by rw [Ny216.out,KA65.out];exact Kd.C_drop (m:=(x7_2 : Int).toNat) (c:=co57) ((Kd.R_reads' (Kd.R_after (ok:=(fun k_=>some k_ ≠ (.slice Ao15 t192.length co15 : Value).ownBlock)) (by (with_reducible repeat (first|apply Kd.R_alloc|apply Kd.R_drewN|apply Kd.R_drew));exact HO_6.out) hg hat)).2.2) KL65.out ((Kd.R_reads' (Kd.R_after (ok:=(fun k_=>some k_ ≠ (.slice Ao15 t192.length co15 : Value).ownBlock)) (by (with_reducible repeat (first|apply Kd.R_alloc|apply Kd.R_drewN|apply Kd.R_drew));exact HO_6.out) hg hat)).2.1)));have n8_:=Aside0.mk (ho);clear HO_6;clear HO_196000;clear HO_196002;clear BK186;clear BK187;clear BK195;clear HB;clear HR219;clear HO215;have HO_6:=n0_;have HO_196000:=n1_;have HO_196002:=n2_;have BK186:=n3_;have BK187:=n4_;have BK195:=n5_;have HB:=n6_;have HR219:=n7_;have HO222:=n8_;clear n0_ n1_ n2_ n3_ n4_ n5_ n6_ n7_ n8_;clear ho hb hg hat;obtain ⟨Ao67,co67,eo67⟩:=Kd.R_slice HO222.out;subst eo67;have hcz68_0 : w66.cell? ⟨gb195,0,none⟩ = some (u196000):=(blk_cell BK195.out 0).trans rfl;have hcz68_1 : w66.cell? ⟨gb195,1,none⟩ = some (.int .i64 (wrap64 (a0_1 + (l1.length : Int)))):=(blk_cell BK195.out 1).trans rfl;have hcz68_2 : w66.cell? ⟨gb195,2,none⟩ = some (.slice Ao15 t192.length co15):=(blk_cell BK195.out 2).trans rfl;have hfz68_0:=blk_frozen BK195.out 0;have hfz68_1:=blk_frozen BK195.out 1;have hfz68_2:=blk_frozen BK195.out 2;obtain ⟨Ao69,co69,eo69⟩:=Kd.R_slice HO_196000.out;subst eo69;have hcz70_0 : w66.cell? ⟨gb187,0,none⟩ = some (.slice none 0 0):=(blk_cell BK187.out 0).trans rfl;have hcz70_1 : w66.cell? ⟨gb187,1,none⟩ = some (.int .i64 0):=(blk_cell BK187.out 1).trans rfl;have hcz70_2 : w66.cell? ⟨gb187,2,none⟩ = some (.slice none 0 0):=(blk_cell BK187.out 2).trans rfl;have hfz70_0:=blk_frozen BK187.out 0;have hfz70_1:=blk_frozen BK187.out 1;have hfz70_2:=blk_frozen BK187.out 2))
      refine bodyPost_ret (results_cell_row rfl _ _ gb187 27 #[.slice Ao69 x196000_2.length co69,.int .i64 (wrap64 (a0_1 + (l1.length : Int))),.slice Ao67 y220.length co67] (0,0) _ rfl (by (with_reducible repeat (first|refine blk_drewN ?_ _|refine blk_drew ?_|refine blk_alloc ?_ _));refine blk_put (cs:=#[.slice Ao69 x196000_2.length co69,.int .i64 (wrap64 (a0_1 + (l1.length : Int))),.slice none 0 0]) ?_ 2 _ rfl;(with_reducible repeat (first|refine blk_drewN ?_ _|refine blk_drew ?_|refine blk_alloc ?_ _));refine blk_put (cs:=#[.slice Ao69 x196000_2.length co69,.int .i64 0,.slice none 0 0]) ?_ 1 _ rfl;(with_reducible repeat (first|refine blk_drewN ?_ _|refine blk_drew ?_|refine blk_alloc ?_ _));refine blk_put (cs:=#[.slice none 0 0,.int .i64 0,.slice none 0 0]) ?_ 0 _ rfl;(with_reducible repeat (first|refine blk_drewN ?_ _|refine blk_drew ?_|refine blk_alloc ?_ _));refine blk_far ?_ NB187_195.out _;(with_reducible repeat (first|refine blk_drewN ?_ _|refine blk_drew ?_|refine blk_alloc ?_ _));exact BK187.out) Try.underlying27 rfl (by kernel_rfl)) rfl ?_
      exact ⟨_,_,by first|rfl|(simp [errW_none,errW_some]<;>rfl)|(simp [*,errW_none,errW_some]<;>rfl),by (with_reducible repeat (first|apply Kd.R_alloc|apply Kd.R_drewN|apply Kd.R_drew));exact Kd.R_mono (Kd.R_far (p:=⟨gb187,2,none⟩) (Kd.R_far (p:=⟨gb187,1,none⟩) (Kd.R_far (p:=⟨gb187,0,none⟩) (Kd.R_far (p:=⟨gb195,2,none⟩) (Kd.R_types (Kd.R_types HO_196000.out BK195.out (by decide)) BK187.out (by decide)) (fun _ hk=>hk.1.2) (.slice Ao67 y220.length co67)) (fun _ hk=>hk.2) (.slice Ao69 x196000_2.length co69)) (fun _ hk=>hk.2) (.int .i64 (wrap64 (a0_1 + (l1.length : Int))))) (fun _ hk=>hk.2) (.slice Ao67 y220.length co67)) (fun _ hk=>trivial),by (with_reducible repeat (first|apply Kd.R_alloc|apply Kd.R_drewN|apply Kd.R_drew));exact Kd.R_mono (Kd.R_far (p:=⟨gb187,2,none⟩) (Kd.R_far (p:=⟨gb187,1,none⟩) (Kd.R_far (p:=⟨gb187,0,none⟩) (Kd.R_far (p:=⟨gb195,2,none⟩) (Kd.R_types (Kd.R_types HO222.out BK195.out (by decide)) BK187.out (by decide)) (fun _ hk=>hk.1.2) (.slice Ao67 y220.length co67)) (fun _ hk=>hk.2) (.slice Ao69 x196000_2.length co69)) (fun _ hk=>hk.2) (.int .i64 (wrap64 (a0_1 + (l1.length : Int))))) (fun _ hk=>hk.2) (.slice Ao67 y220.length co67)) (fun _ hk=>trivial),by repeat (first|(with_reducible first|exact HB.out|apply below_alloc|apply pw_below_drewN|apply below_drew1|refine below_set ?_ GE186.out|refine below_set ?_ GE187.out|refine below_set ?_ GE195.out)|exact HB.out)⟩
     rw [if_pos c42] at H
     have c42b0 : decide (64 ≤ (wrap64 ((y203.length : Int) - x7_2))) = true:=decide_eq_true c42
     clear c42
     by_cases c43 : 0 ≤ x7_2
     case neg =>
      rw [if_neg c43] at H
      exact absurd H (by simp)
     rw [if_pos c43] at H
     have c43b0:=eq_true c43
     have c43b1 : decide (0 ≤ x7_2) = true:=decide_eq_true c43
     clear c43
     by_cases c44 : x7_2 ≤ (wrap64 (x7_2 + 64))
     case neg =>
      rw [if_neg c44] at H
      exact absurd H (by simp)
     rw [if_pos c44] at H
     have c44b0:=eq_true c44
     have c44b1 : decide (x7_2 ≤ (wrap64 (x7_2 + 64))) = true:=decide_eq_true c44
     by_cases c45 : (wrap64 (x7_2 + 64)) ≤ (y203.length : Int)
     case neg =>
      rw [if_neg c45] at H
      exact absurd H (by simp)
     rw [if_pos c45] at H
     have c45b0:=eq_true c45
     have c45b1 : decide ((wrap64 (x7_2 + 64)) ≤ (y203.length : Int)) = true:=decide_eq_true c45
     obtain ⟨y206,hy206⟩ : ∃ y_ : List Int,y_ = ((y203.take ((wrap64 (x7_2 + 64)) : Int).toNat).drop (x7_2 : Int).toNat):=⟨_,rfl⟩
     replace H : ((spec_l7Block.f k2 x196000_2 y206).bind fun t210=>(spec_SumAdd.l0 k2 l1 y203 (wrap64 (x7_2 + 64)) l0_0 a0_1 l0_2 t210 t191 t192)) = some (r1,r2,r3):=by first|(rw [hy206];with_reducible exact H)|(have H2_:=(Option.bind_some _ _).symm.trans H;rw [hy206];with_reducible exact H2_)|(have H2_:=(Option.bind_some _ _).symm.trans H;with_reducible exact H2_)|with_reducible exact H|(rw [hy206];exact H)|exact H
     have Ny206:=Aside0.mk hy206
     clear hy206
     replace H:=Option.bind_eq_some_iff.mp H
     obtain ⟨t210,A460,H⟩:=H
     replace H : (spec_SumAdd.l0 k2 l1 y203 (wrap64 (x7_2 + 64)) l0_0 a0_1 l0_2 t210 t191 t192) = some (r1,r2,r3):=H
     have A46:=Aside0.mk A460
     clear A460
     have H':=Aside0.mk H
     clear H
     obtain ⟨Ao47,co47,eo47⟩:=Kd.R_slice HO_6.out
     subst eo47
     try go_wp2
     have n0_:=Aside0.mk (Kd.R_drew HO_6.out)
     have n1_:=Aside0.mk (Kd.R_drew HO_196000.out)
     have n2_:=Aside0.mk (Kd.R_drew HO_196002.out)
     have n3_:=Aside0.mk (blk_drew BK186.out)
     have n4_:=Aside0.mk (blk_drew BK187.out)
     have n5_:=Aside0.mk (blk_drew BK195.out)
     have n6_:=Aside0.mk (below_drew1 HB.out)
     clear HO_6
     clear HO_196000
     clear HO_196002
     clear BK186
     clear BK187
     clear BK195
     clear HB
     have HO_6:=n0_
     have HO_196000:=n1_
     have HO_196002:=n2_
     have BK186:=n3_
     have BK187:=n4_
     have BK195:=n5_
     have HB:=n6_
     clear n0_ n1_ n2_ n3_ n4_ n5_ n6_
     have q49 : ((wrap64 (x7_2 + 64)) : Int) ≤ ((y203.length : Int) : Int):=of_decide_eq_true (by first|(with_reducible assumption)|assumption)
     obtain ⟨i049,hi049,_,hsz49,_⟩:=info_parts info5
     have hroom49 : y203.length ≤ co47:=(Kd.R_reads' HO_6.out).2.1
     have hC49 : Kd.C (Kd.int .u8) _ Ao47 y203.length y203:=(Kd.R_reads' HO_6.out).2.2
     have ql49 : (x7_2 : Int) ≤ ((wrap64 (x7_2 + 64)) : Int):=of_decide_eq_true (by first|(with_reducible assumption)|assumption)
     have q049 : (0 : Int) ≤ (x7_2 : Int):=of_decide_eq_true (by first|(with_reducible assumption)|assumption)
     have hcut49:=cut_mid (P:=Try.prog) 23 5 .i64 .i64 Try.underlying23 hi049 1 hsz49 Ao47 y203.length co47 x7_2 (wrap64 (x7_2 + 64)) q049 ql49 q49 hroom49
     have hr49:=Kd.C_mid (lo:=(x7_2 : Int).toNat) (hi:=((wrap64 (x7_2 + 64)) : Int).toNat) (c:=co47) hC49 (by omega) (by omega) hroom49
     obtain ⟨A49,hA49⟩ : ∃ A1,A1 = (if co47 = (x7_2 : Int).toNat then Ao47 else (Ao47 : Option Addr).map (·.add ((x7_2 : Int).toNat * 1))):=⟨_,rfl⟩
     obtain ⟨c49,hc49⟩ : ∃ c1,c1 = co47 - (x7_2 : Int).toNat:=⟨_,rfl⟩
     have hy49 : y206.length = ((wrap64 (x7_2 + 64)) : Int).toNat - (x7_2 : Int).toNat:=(by rw [Ny206.out,List.length_drop,List.length_take]<;>omega)
     rw [show ((y203).take ((wrap64 (x7_2 + 64)) : Int).toNat).drop (x7_2 : Int).toNat = y206 from Ny206.out.symm] at hr49
     replace hr49 : Kd.C (Kd.int .u8) _ A49 y206.length y206:=(by rw [hA49];exact hr49)
     rw [← hy49,← hA49,← hc49] at hcut49
     have HR209:=Aside0.mk hr49
     have HC209:=Aside0.mk (show y206.length ≤ c49 from by rw [hy49,hc49];exact Nat.sub_le_sub_right (Nat.le_trans (by omega) hroom49) _)
     clear hr49 hC49 hroom49 hi049 hsz49 hc49
     have KY49:=Aside0.mk hy49
     have KA49:=Aside0.mk hA49
     clear hy49 hA49
     have KL49:=Aside0.mk (show ((wrap64 (x7_2 + 64)) : Int).toNat ≤ y203.length from by omega)
     have KM49:=Aside0.mk (show (x7_2 : Int).toNat ≤ ((wrap64 (x7_2 + 64)) : Int).toNat from by omega)
     replace q49:=eq_true q49
     obtain ⟨Ao50,co50,eo50⟩:=Kd.R_slice HO_196000.out
     (first|subst eo50|(injection eo50 with f1_ f2_ f3_;have f4_:=f1_.symm;have f5_:=f3_.symm;clear f1_ f2_ f3_;subst f4_;subst f5_))
     refine start_ (n:=10) (S:=fun w'=>w'.cell? ⟨gb195,0,none⟩ = some (.slice Ao50 x196000_2.length co50) ∧ w'.cell? ⟨gb195,1,none⟩ = some (.int .i64 t191) ∧ w'.cell? ⟨gb195,2,none⟩ = some (.slice Ao15 t192.length co15)) (ds:=[9]) #[false,false,false,false,false,false,false,false,false,false] (by kernel_rfl) rfl rfl ⟨(blk_cell BK195.out 0).trans rfl,(blk_cell BK195.out 1).trans rfl,(blk_cell BK195.out 2).trans rfl⟩ (fun hHeld=>?_);refine with_tabW spec_SumAdd.tab7 spec_SumAdd.bits7 (fun HT_ HW_=>?_)
     generalize wr.drew = w48 at HO_6 HO_196000 HO_196002 BK186 BK187 BK195 HB HR209 hHeld ⊢
     refine pure_ (i:=0) (N:=some 33) (v:=?_) (a':=?_) #[true,false,false,false,false,false,false,false,false,false] rfl rfl (any_of HT_.out (by kernel_rfl)) (fun _ _ _ h=>h) (Or.inl ⟨by rfl,?_⟩) ?_ ?_
     rotate_left
     · intro w'
       go_simp
       with_reducible rfl
     rotate_left
     · simp only [Act.put, List.setIfInBounds_toArray, List.set_cons_zero, List.set_cons_succ, i64_w, i32_w]
       rfl
     refine pure_ (i:=2) (N:=some 35) (v:=?_) (a':=?_) #[true,false,true,false,false,false,false,false,false,false] rfl rfl (any_of HT_.out (by kernel_rfl)) (fun _ _ _ h=>h) (Or.inl ⟨by rfl,?_⟩) ?_ ?_
     rotate_left
     · intro w'
       go_simp
       with_reducible rfl
     rotate_left
     · simp only [Act.put, List.setIfInBounds_toArray, List.set_cons_zero, List.set_cons_succ, i64_w, i32_w]
       rfl
     refine pure_ (i:=3) (N:=some 36) (v:=?_) (a':=?_) #[true,false,true,true,false,false,false,false,false,false] rfl rfl (any_of HT_.out (by kernel_rfl)) (fun _ _ _ h=>h) (Or.inl ⟨by rfl,?_⟩) ?_ ?_
     rotate_left
     · intro w'
       go_simp
       with_reducible rfl
     rotate_left
     · simp only [Act.put, List.setIfInBounds_toArray, List.set_cons_zero, List.set_cons_succ, i64_w, i32_w]
       rfl
     refine pure_ (i:=4) (N:=some 37) (v:=?_) (a':=?_) #[true,false,true,true,true,false,false,false,false,false] rfl rfl (any_of HT_.out (by kernel_rfl)) (fun _ _ _ h=>h) (Or.inl ⟨by rfl,?_⟩) ?_ ?_
     rotate_left
     · intro w'
       go_simp
       with_reducible rfl
     rotate_left
     · simp only [Act.put, List.setIfInBounds_toArray, List.set_cons_zero, List.set_cons_succ, i64_w, i32_w]
       rfl
     refine pure_ (i:=5) (N:=some 38) (v:=?_) (a':=?_) #[true,false,true,true,true,true,false,false,false,false] rfl rfl (any_of HT_.out (by kernel_rfl)) (fun _ _ _ h=>h) (Or.inl ⟨by rfl,?_⟩) ?_ ?_
     rotate_left
     · intro w'
       go_simp
       with_reducible rfl
     rotate_left
     · simp only [Act.put, List.setIfInBounds_toArray, List.set_cons_zero, List.set_cons_succ, i64_w, i32_w]
       rfl
     refine pure_ (i:=6) (N:=some 39) (v:=?_) (a':=?_) #[true,false,true,true,true,true,true,false,false,false] rfl rfl (any_of HT_.out (by kernel_rfl)) (fun _ _ _ h=>h) (Or.inl ⟨by rfl,?_⟩) ?_ ?_
     rotate_left
     · intro w'
       go_simp
       with_reducible rfl
     rotate_left
     · simp only [Act.put, List.setIfInBounds_toArray, List.set_cons_zero, List.set_cons_succ, i64_w, i32_w]
       rfl
     refine take_ (i:=1) (N:=some 34) (v:=?_) (a':=?_) #[true,true,true,true,true,true,true,false,false,false] rfl rfl (take_ofW HT_.out HW_.out (by kernel_rfl)) (fun _ _ _ h=>h) (Or.inl ⟨by rfl,?_⟩) hHeld ?_ ?_
     rotate_left
     · rintro w' ⟨s0, s1, s2⟩
       go_simp
       with_reducible rfl
     rotate_left
     · simp only [Act.put, List.setIfInBounds_toArray, List.set_cons_zero, List.set_cons_succ, i64_w, i32_w]
       rfl
     refine one_ (i:=7) (N:=some 40) #[true,true,true,true,true,true,true,true,false,false] rfl rfl (one_of HT_.out (by kernel_rfl)) (by decide) (fun K hK=>?_)
     refine goes_ Try.func18 (by kernel_rfl) rfl #[.slice Ao50 x196000_2.length co50,.slice A49 y206.length c49] (by rfl) rfl rfl (by (try simp only [List.map_toArray,List.map_cons,List.map_nil]);first|done|rfl|(simp only [List.length_drop,List.length_take];rfl)) ?_
     with_reducible refine (spec_l7Block.calls k2 _ _ x196000_2 _ _ y206 t210 _ ?side1 ?side2 ?side3 ?side4 A46.out).mono ?_
     (case side1=>repeat (first|exact (Kd.R_reads' HO_196000.out).2.2|(with_reducible refine Kd.C_alloc ?_ _)|(with_reducible refine Kd.C_drewN ?_ _)|(with_reducible refine Kd.C_drew ?_)))
     (case side2=>exact (Kd.R_reads' HO_196000.out).2.1)
     (case side3=>repeat (first|exact (by repeat (first|(with_reducible exact HR209.out)|(with_reducible refine Kd.C_alloc ?_ _)|(with_reducible refine Kd.C_drewN ?_ _)|(with_reducible refine Kd.C_drew ?_)|exact HR209.out))|(with_reducible refine Kd.C_alloc ?_ _)|(with_reducible refine Kd.C_drewN ?_ _)|(with_reducible refine Kd.C_drew ?_)))
     (case side4=>exact HC209.out)
     rintro e w51 ⟨v211,rfl,ho0,hb⟩
     refine ⟨_,rfl,?_⟩
     have n0_:=Aside0.mk (Kd.R_below (by (with_reducible repeat (first|apply Kd.R_alloc|apply Kd.R_drewN|apply Kd.R_drew));exact HO_6.out) hb)
     have n1_:=Aside0.mk (Kd.R_elder' (by (with_reducible repeat (first|apply Kd.R_alloc|apply Kd.R_drewN|apply Kd.R_drew));exact HO_196000.out) (Kd.R_base ho0) hb)
     have n2_:=Aside0.mk (Kd.R_below (by (with_reducible repeat (first|apply Kd.R_alloc|apply Kd.R_drewN|apply Kd.R_drew));exact HO_196002.out) hb)
     have n3_:=Aside0.mk (Kd.R_lower (Kd.R_new' ho0 (Kd.R_lt (by (with_reducible repeat (first|apply Kd.R_alloc|apply Kd.R_drewN|apply Kd.R_drew));exact HO_196000.out))) (below_size (by repeat (first|(with_reducible first|exact HB.out|apply below_alloc|apply pw_below_drewN|apply below_drew1|refine below_set ?_ GE186.out|refine below_set ?_ GE187.out|refine below_set ?_ GE195.out)|exact HB.out))))
     have n4_:=Aside0.mk (blk_below (g:=gb186) (o:=.cells #[.slice A0_0 l0_0.length c0_0,.int .i64 a0_1,.slice A0_2 l0_2.length c0_2] 27 (0,0)) (by (with_reducible repeat (first|refine blk_drewN ?_ _|refine blk_drew ?_|refine blk_alloc ?_ _));exact BK186.out) hb)
     have n5_:=Aside0.mk (blk_below (g:=gb187) (o:=.cells #[.slice none 0 0,.int .i64 0,.slice none 0 0] 27 (0,0)) (by (with_reducible repeat (first|refine blk_drewN ?_ _|refine blk_drew ?_|refine blk_alloc ?_ _));exact BK187.out) hb)
     have n6_:=Aside0.mk (blk_below (g:=gb195) (o:=.cells #[.slice Ao50 x196000_2.length co50,.int .i64 t191,.slice Ao15 t192.length co15] 27 (0,0)) (by (with_reducible repeat (first|refine blk_drewN ?_ _|refine blk_drew ?_|refine blk_alloc ?_ _));exact BK195.out) hb)
     have n7_:=Aside0.mk (Kd.C_below (by repeat (first|(with_reducible exact HR209.out)|(with_reducible refine Kd.C_alloc ?_ _)|(with_reducible refine Kd.C_drewN ?_ _)|(with_reducible refine Kd.C_drew ?_)|exact HR209.out)) hb)
     have n8_:=Aside0.mk (below_step (by repeat (first|(with_reducible first|exact HB.out|apply below_alloc|apply pw_below_drewN|apply below_drew1|refine below_set ?_ GE186.out|refine below_set ?_ GE187.out|refine below_set ?_ GE195.out)|exact HB.out)) hb)
     clear HO_6
     clear HO_196000
     clear HO_196002
     clear BK186
     clear BK187
     clear BK195
     clear HR209
     clear HB
     have HO_6:=n0_
     have HO_196000:=n1_
     have HO_196002:=n2_
     have HO212:=n3_
     have BK186:=n4_
     have BK187:=n5_
     have BK195:=n6_
     have HR209:=n7_
     have HB:=n8_
     clear n0_ n1_ n2_ n3_ n4_ n5_ n6_ n7_ n8_
     (try clear hb)
     (try clear hb2)
     (try clear hk)
     (try clear hi)
     (try clear ho0)
     obtain ⟨Ao52,co52,eo52⟩:=Kd.R_slice HO212.out
     (first|subst eo52|(injection eo52 with f1_ f2_ f3_;have f4_:=f1_.symm;have f5_:=f3_.symm;clear f1_ f2_ f3_;subst f4_;subst f5_))
     refine hK.out _ _ ⟨(blk_cell BK195.out 0).trans rfl,(blk_cell BK195.out 1).trans rfl,(blk_cell BK195.out 2).trans rfl⟩ (fun hHeld=>?_)
     clear hK K
     refine norm_ (a':=?_) ?_ ?_
     rotate_left
     · show Act.put _ (some 40) _ = _
       simp only [Act.put,List.setIfInBounds_toArray,List.set_cons_zero,List.set_cons_succ,i64_w,i32_w]
       rfl
     refine pure_ (i:=8) (N:=some 41) (v:=?_) (a':=?_) #[true,true,true,true,true,true,true,true,true,false] rfl rfl (any_of HT_.out (by kernel_rfl)) (fun _ _ _ h=>h) (Or.inl ⟨by rfl,?_⟩) ?_ ?_
     rotate_left
     · intro w'
       go_simp
       with_reducible rfl
     rotate_left
     · simp only [Act.put, List.setIfInBounds_toArray, List.set_cons_zero, List.set_cons_succ, i64_w, i32_w]
       rfl
     refine last_ (i:=9) (N:=none) #[true,true,true,true,true,true,true,true,true,true] rfl rfl (one_of HT_.out (by kernel_rfl)) (by decide) (fun K hK=>?_)
     have hs53 : w51.cell? ⟨gb195,0,none⟩ = some (.slice Ao50 x196000_2.length co50):=(blk_cell BK195.out 0).trans rfl
     have hfs53:=blk_frozen BK195.out 0
     have hns53_0:=NB186_195.out
     have hns53_1:=NB187_195.out
     have hms53_0:=NB195_186.out
     have hms53_1:=NB195_187.out
     refine skip_ (w1:=?_) (by rfl) rfl ?_ ?_
     rotate_left
     · go_simp
       rfl
     refine hK.out _ _ ?_
     clear hK K
     refine done_ (done_of HT_.out (by kernel_rfl)) ?_
     try go_wp2
     go_roundg k2
     case measure=>have:=HJ3.out;have:=HK2.out;omega
     case rel=>exact ⟨(wrap64 (x7_2 + 64)),(t210),(.slice Ao52 t210.length co52),(by first|rfl|(simp;done)|(simp [*];done)),H',⟨by have:=HJ3.out;have:=HK2.out;omega⟩,⟨by (with_reducible repeat (first|apply Kd.R_alloc|apply Kd.R_drewN|apply Kd.R_drew));exact Kd.R_mono (Kd.R_far (p:=⟨gb195,0,none⟩) (Kd.R_types HO_6.out BK195.out (by decide)) (fun _ hk=>hk.2) (.slice Ao52 t210.length co52)) (fun _ hk=>hk.1)⟩,⟨by (with_reducible repeat (first|apply Kd.R_alloc|apply Kd.R_drewN|apply Kd.R_drew));exact Kd.R_mono (Kd.R_far (p:=⟨gb195,0,none⟩) (Kd.R_types HO212.out BK195.out (by decide)) (fun _ hk=>hk.2) (.slice Ao52 t210.length co52)) (fun _ hk=>trivial)⟩,⟨by (with_reducible repeat (first|apply Kd.R_alloc|apply Kd.R_drewN|apply Kd.R_drew));exact Kd.R_mono (Kd.R_far (p:=⟨gb195,0,none⟩) (Kd.R_types HO_196002.out BK195.out (by decide)) (fun _ hk=>hk.2) (.slice Ao52 t210.length co52)) (fun _ hk=>hk.1)⟩,⟨by (with_reducible repeat (first|refine blk_drewN ?_ _|refine blk_drew ?_|refine blk_alloc ?_ _));refine blk_far ?_ NB186_195.out _;(with_reducible repeat (first|refine blk_drewN ?_ _|refine blk_drew ?_|refine blk_alloc ?_ _));exact BK186.out⟩,⟨by (with_reducible repeat (first|refine blk_drewN ?_ _|refine blk_drew ?_|refine blk_alloc ?_ _));refine blk_far ?_ NB187_195.out _;(with_reducible repeat (first|refine blk_drewN ?_ _|refine blk_drew ?_|refine blk_alloc ?_ _));exact BK187.out⟩,⟨by (with_reducible repeat (first|refine blk_drewN ?_ _|refine blk_drew ?_|refine blk_alloc ?_ _));refine blk_put (cs:=#[.slice Ao50 x196000_2.length co50,.int .i64 t191,.slice Ao15 t192.length co15]) ?_ 0 _ rfl;(with_reducible repeat (first|refine blk_drewN ?_ _|refine blk_drew ?_|refine blk_alloc ?_ _));exact BK195.out⟩,⟨by repeat (first|(with_reducible first|exact HB.out|apply below_alloc|apply pw_below_drewN|apply below_drew1|refine below_set ?_ GE186.out|refine below_set ?_ GE187.out|refine below_set ?_ GE195.out)|exact HB.out)⟩⟩

/-! ### laws_toByteS: function 7 -/
def laws_toByteS.l0 : Nat → List Int → List Int → Int → Option (List Int)
 | 0, _, _, _ => none
 | k + 1, x0, x3, x4 => if x4 < (x0.length : Int) then (if 0 ≤ x4 then (if x4 < (x3.length : Int) then (laws_toByteS.l0 k x0 (x3.set (x4 : Int).toNat (rd x0 x4)) (wrap64 (x4 + 1))) else (none)) else (none)) else (some x3)
def laws_toByteS.f (k : Nat) (l0 : List Int) : Option (List Int) := if 0 ≤ (l0.length : Int) then (if ((l0.length : Int) : Int).toNat ≤ 281474976710656 then (laws_toByteS.l0 k l0 (List.replicate ((l0.length : Int) : Int).toNat 0) 0) else (none)) else (none)
theorem laws_toByteS.mono_l : ∀ k, (∀ y0 y1 y2, LeO (laws_toByteS.l0 k y0 y1 y2) (laws_toByteS.l0 (k + 1) y0 y1 y2))
 | 0 => fun _ _ _ r h => by simp [laws_toByteS.l0] at h
 | k + 1 => by
  have ih0:=laws_toByteS.mono_l k
  · intro y0 y1 y2
    unfold laws_toByteS.l0
    repeat' first
    | (with_reducible exact ih0 _ _ _)
    | (with_reducible exact LeO.refl _)
    | (with_reducible exact LeO.none _)
    | (with_reducible refine LeO.ite ?_ ?_)
    | (with_reducible refine LeO.bind ?_ (fun _=>?_))
    | exact ih0 _ _ _
    | exact LeO.none _
    | refine LeO.ite ?_ ?_
    | refine LeO.bind ?_ (fun _=>?_)
theorem laws_toByteS.mono : ∀ a0 k, LeO (laws_toByteS.f k a0) (laws_toByteS.f (k + 1) a0) := by
 intro a0 k
 have ih0:=laws_toByteS.mono_l k
 unfold laws_toByteS.f
 repeat' first
  | (with_reducible exact ih0 _ _ _)
  | (with_reducible exact LeO.refl _)
  | (with_reducible exact LeO.none _)
  | (with_reducible refine LeO.ite ?_ ?_)
  | (with_reducible refine LeO.bind ?_ (fun _=>?_))
  | exact ih0 _ _ _
  | exact LeO.none _
  | refine LeO.ite ?_ ?_
  | refine LeO.bind ?_ (fun _=>?_)
set_option maxHeartbeats 8000000 in
set_option maxRecDepth 100000 in
theorem laws_toByteS.calls (k : Nat) (A0 : Option Addr) (c0 : Nat) (l0 : List Int) (r : List Int) (w : World) (hr0 : Kd.C (Kd.int .u8) w A0 l0.length l0) (hc0 : l0.length ≤ c0) (h : laws_toByteS.f k l0 = some r) :
 Calls Try.prog 7 #[.slice A0 l0.length c0] w fun e w' => ∃ v0_ : Value, e = .returned (v0_) ∧ Kd.R (Kd.int .u8) 5 w' w.heap.size (fun _ => True) v0_ r ∧ Below w.heap.size w w' := by
 have HR0:=Aside0.mk hr0
 have HC0:=Aside0.mk hc0
 clear hr0 hc0
 have HB:=Aside0.mk (Below.refl w.heap.size w)
 have H : (if 0 ≤ (l0.length : Int) then (if ((l0.length : Int) : Int).toNat ≤ 281474976710656 then (laws_toByteS.l0 k l0 (List.replicate ((l0.length : Int) : Int).toNat 0) 0) else (none)) else (none)) = some r:=h
 clear h
 by_cases c2 : 0 ≤ (l0.length : Int)
 case neg =>
  rw [if_neg c2] at H
  exact absurd H (by simp)
 rw [if_pos c2] at H
 have c2b0:=eq_true c2
 have c2b1 : decide (0 ≤ (l0.length : Int)) = true:=decide_eq_true c2
 clear c2
 by_cases c3 : ((l0.length : Int) : Int).toNat ≤ 281474976710656
 case neg =>
  rw [if_neg c3] at H
  exact absurd H (by simp)
 rw [if_pos c3] at H
 have c3b0:=eq_true c3
 have c3b1 : decide (((l0.length : Int) : Int).toNat ≤ 281474976710656) = true:=decide_eq_true c3
 clear c3
 obtain ⟨y223,hy223⟩ : ∃ y_ : List Int,y_ = (List.replicate ((l0.length : Int) : Int).toNat 0):=⟨_,rfl⟩
 replace H : (laws_toByteS.l0 k l0 y223 0) = some r:=by first|(rw [hy223];with_reducible exact H)|(have H2_:=(Option.bind_some _ _).symm.trans H;rw [hy223];with_reducible exact H2_)|(have H2_:=(Option.bind_some _ _).symm.trans H;with_reducible exact H2_)|with_reducible exact H|(rw [hy223];exact H)|exact H
 have Ny223:=Aside0.mk hy223
 clear hy223
 have H':=Aside0.mk H
 clear H
 go_enter Try.func7,Try.ntmps7
 go_wp2_with (first|((with_reducible refine gate_dst (N:=7) rfl ?_);refine Kd.R_make (Kd.int .u8) _ 5 rfl (N:=7) rfl 23 _ _ rfl (l0.length : Int) rfl rfl Try.underlying23 (.int .u8 0) 1 info5 rfl (by decide) (by omega) 0 (ok:=fun _=>True) (okp:=fun _=>True) rfl (fun _ hk=>hk) trivial (of_decide_eq_true (by first|(with_reducible assumption)|assumption)) (Nat.le_trans (Nat.mul_le_mul_right _ (of_decide_eq_true (by first|(with_reducible assumption)|assumption) : (l0.length : Int).toNat ≤ 281474976710656)) (by omega)) (Below.refl _ _) (Nat.le_refl _) ?_;intro v224 w4 ho5 hb hg_ hnew_;clear hg_ hnew_;(first|rw [← Ny223.out] at ho5|(simp only [Int.reduceToNat] at ho5;rw [← Ny223.out] at ho5));have n0_:=Aside0.mk (Kd.R_lower ho5 (below_size (by repeat (first|(with_reducible first|exact HB.out|apply below_alloc|apply pw_below_drewN|apply below_drew1)|exact HB.out))));have n1_:=Aside0.mk (below_step (by repeat (first|(with_reducible first|exact HB.out|apply below_alloc|apply pw_below_drewN|apply below_drew1)|exact HB.out)) hb);clear HB;have HO225:=n0_;have HB:=n1_;clear n0_ n1_;clear hb ho5))
 go_loopg [4] k (fun kq v4 w'=>∃ (x3_1 : List Int) (x4_1 : Int),v4 = .int .i64 x4_1 ∧ Aside0 (laws_toByteS.l0 kq l0 x3_1 x4_1 = some r) ∧ Aside0 (kq ≤ k) ∧ Aside0 (Kd.R (Kd.int .u8) 5 w' w.heap.size (fun _=>True) v224 x3_1) ∧ Aside0 (Below w.heap.size w w'))
 case atStart=>exact ⟨(y223),(0),(by first|rfl|(simp;done)|(simp [*];done)),H',⟨Nat.le_refl _⟩,⟨by (with_reducible repeat (first|apply Kd.R_alloc|apply Kd.R_drewN|apply Kd.R_drew));exact HO225.out⟩,⟨by repeat (first|(with_reducible first|exact HB.out|apply below_alloc|apply pw_below_drewN|apply below_drew1)|exact HB.out)⟩⟩
 case round =>
  clear H'
  (try clear c2);(try clear c2b0);(try clear c2b1);(try clear p2);(try clear c3);(try clear c3b0);(try clear c3b1)
  obtain ⟨x3_1,x4_1,rfl,HA,HK1,HO_3,HB⟩:=hrel
  cases gk with
  | zero=>exact absurd HA.out (by simp [laws_toByteS.l0])
  | succ k1 =>
   have H:=HA.out
   clear HA
   simp only [laws_toByteS.l0] at H
   by_cases c6 : x4_1 < (l0.length : Int)
   case neg =>
    rw [if_neg c6] at H
    have c6b0 : decide (x4_1 < (l0.length : Int)) = false:=decide_eq_false c6
    clear c6
    obtain rfl:=Option.some.inj H
    go_wp2
    go_ret
    exact ⟨_,by first|rfl|(simp [errW_none,errW_some]<;>rfl)|(simp [*,errW_none,errW_some]<;>rfl),by (with_reducible repeat (first|apply Kd.R_alloc|apply Kd.R_drewN|apply Kd.R_drew));exact HO_3.out,by repeat (first|(with_reducible first|exact HB.out|apply below_alloc|apply pw_below_drewN|apply below_drew1)|exact HB.out)⟩
   rw [if_pos c6] at H
   have c6b0 : decide (x4_1 < (l0.length : Int)) = true:=decide_eq_true c6
   clear c6
   by_cases c7 : 0 ≤ x4_1
   case neg =>
    rw [if_neg c7] at H
    exact absurd H (by simp)
   rw [if_pos c7] at H
   have c7b0 : decide (0 ≤ x4_1) = true:=decide_eq_true c7
   clear c7
   by_cases c8 : x4_1 < (x3_1.length : Int)
   case neg =>
    rw [if_neg c8] at H
    exact absurd H (by simp)
   rw [if_pos c8] at H
   have c8b0 : decide (x4_1 < (x3_1.length : Int)) = true:=decide_eq_true c8
   clear c8
   obtain ⟨y227,hy227⟩ : ∃ y_ : List Int,y_ = (x3_1.set (x4_1 : Int).toNat (rd l0 x4_1)):=⟨_,rfl⟩
   replace H : (laws_toByteS.l0 k1 l0 y227 (wrap64 (x4_1 + 1))) = some r:=by first|(rw [hy227];with_reducible exact H)|(have H2_:=(Option.bind_some _ _).symm.trans H;rw [hy227];with_reducible exact H2_)|(have H2_:=(Option.bind_some _ _).symm.trans H;with_reducible exact H2_)|with_reducible exact H|(rw [hy227];exact H)|exact H
   have Ny227:=Aside0.mk hy227
   clear hy227
   have H':=Aside0.mk H
   clear H
   have p226 : 0 ≤ (x4_1 : Int):=of_decide_eq_true (by first|(with_reducible assumption)|assumption)
   have q226 : x4_1 < (l0.length : Int):=of_decide_eq_true (by first|(with_reducible assumption)|assumption)
   obtain ⟨ad226,e226,hx226_0⟩:=Kd.at_int HR0.out x4_1 p226 q226
   cases e226
   replace hx226_0:=(HB.out.cell (World.block_lt_of_cell? w _ hx226_0)).trans hx226_0
   replace p226:=eq_true p226
   replace q226:=eq_true q226
   have p9 : 0 ≤ (x4_1 : Int):=of_decide_eq_true (by first|(with_reducible assumption)|assumption)
   have q9 : (x4_1 : Int) < ((x3_1.length : Int) : Int):=of_decide_eq_true (by first|(with_reducible assumption)|assumption)
   obtain ⟨go9,co9,eo9,gb9,gl9,cl9,HG9⟩:=Kd.R_form HO_3.out (by omega)
   (first|cases eo9|(injection eo9 with ea_ en_ ec_;(first|subst ea_|(injection ea_ with ea_;subst ea_));subst ec_;clear en_))
   have GB9:=Aside0.mk gb9
   have GG9:=Aside0.mk HG9
   clear gb9 gl9 HG9
   obtain ⟨hx9_0,hf9_0⟩:=Kd.R_celln 0 HO_3.out (x4_1 : Int) p9 q9
   replace p9:=eq_true p9
   replace q9:=eq_true q9
   have HP10:=Kd.R_putg HO_3.out (x4_1 : Int) (rd l0 x4_1)
   go_wp2_with (first|((with_reducible refine gate_store (t:=5) (p:=20) rfl ?_);refine store_event (t:=5) (p:=20) (v:=?vo_w11) (w1:=(wr.setCell ⟨go9,(x4_1 : Int).toNat,none⟩ (.int .u8 (rd l0 x4_1)))) ?hg ?ho ?hn ?hr ?_;(case ho=>rfl);(case hg=>rfl);(case hn=>rfl);(case hr=>first|(go_simp;done)|(go_simp;rfl));intro w11 hw;have hg : wr.grownBy w11 (some go9):=(by rw [hw];exact HP10.2);have hp_ : Kd.R (Kd.int .u8) 5 w11 w.heap.size (fun _=>True) (.slice (some ⟨go9,0,none⟩) x3_1.length co9) y227:=(by rw [hw,Ny227.out];exact HP10.1);clear HP10;have n0_:=Aside0.mk (hp_);have n1_:=Aside0.mk ((by rw [hw];exact below_set (HB.out) GB9.out : Below w.heap.size w w11));clear HO_3;clear HB;have HO_3:=n0_;have HB:=n1_;clear n0_ n1_;clear hg hw hp_))
   go_roundg k1
   case measure=>have:=HK1.out;omega
   case rel=>exact ⟨(y227),(wrap64 (x4_1 + 1)),(by first|rfl|(simp;done)|(simp [*];done)),H',⟨by have:=HK1.out;omega⟩,⟨by (with_reducible repeat (first|apply Kd.R_alloc|apply Kd.R_drewN|apply Kd.R_drew));exact HO_3.out⟩,⟨by repeat (first|(with_reducible first|exact HB.out|apply below_alloc|apply pw_below_drewN|apply below_drew1)|exact HB.out)⟩⟩

/-! ### laws_toIntS: function 19 -/
def laws_toIntS.l0 : Nat → List Int → List Int → Int → Option (List Int)
 | 0, _, _, _ => none
 | k + 1, x0, x3, x4 => if x4 < (x0.length : Int) then (if 0 ≤ x4 then (if x4 < (x3.length : Int) then (laws_toIntS.l0 k x0 (x3.set (x4 : Int).toNat (rd x0 x4)) (wrap64 (x4 + 1))) else (none)) else (none)) else (some x3)
def laws_toIntS.f (k : Nat) (l0 : List Int) : Option (List Int) := if 0 ≤ (l0.length : Int) then (if ((l0.length : Int) : Int).toNat ≤ 35184372088832 then (laws_toIntS.l0 k l0 (List.replicate ((l0.length : Int) : Int).toNat 0) 0) else (none)) else (none)
theorem laws_toIntS.mono_l : ∀ k, (∀ y0 y1 y2, LeO (laws_toIntS.l0 k y0 y1 y2) (laws_toIntS.l0 (k + 1) y0 y1 y2))
 | 0 => fun _ _ _ r h => by simp [laws_toIntS.l0] at h
 | k + 1 => by
  have ih0:=laws_toIntS.mono_l k
  · intro y0 y1 y2
    unfold laws_toIntS.l0
    repeat' first
    | (with_reducible exact ih0 _ _ _)
    | (with_reducible exact LeO.refl _)
    | (with_reducible exact LeO.none _)
    | (with_reducible refine LeO.ite ?_ ?_)
    | (with_reducible refine LeO.bind ?_ (fun _=>?_))
    | exact ih0 _ _ _
    | exact LeO.none _
    | refine LeO.ite ?_ ?_
    | refine LeO.bind ?_ (fun _=>?_)
theorem laws_toIntS.mono : ∀ a0 k, LeO (laws_toIntS.f k a0) (laws_toIntS.f (k + 1) a0) := by
 intro a0 k
 have ih0:=laws_toIntS.mono_l k
 unfold laws_toIntS.f
 repeat' first
  | (with_reducible exact ih0 _ _ _)
  | (with_reducible exact LeO.refl _)
  | (with_reducible exact LeO.none _)
  | (with_reducible refine LeO.ite ?_ ?_)
  | (with_reducible refine LeO.bind ?_ (fun _=>?_))
  | exact ih0 _ _ _
  | exact LeO.none _
  | refine LeO.ite ?_ ?_
  | refine LeO.bind ?_ (fun _=>?_)
set_option maxHeartbeats 8000000 in
set_option maxRecDepth 100000 in
theorem laws_toIntS.calls (k : Nat) (A0 : Option Addr) (c0 : Nat) (l0 : List Int) (r : List Int) (w : World) (hr0 : Kd.C (Kd.int .i64) w A0 l0.length l0) (hc0 : l0.length ≤ c0) (h : laws_toIntS.f k l0 = some r) :
 Calls Try.prog 19 #[.slice A0 l0.length c0] w fun e w' => ∃ v0_ : Value, e = .returned (v0_) ∧ Kd.R (Kd.int .i64) 3 w' w.heap.size (fun _ => True) v0_ r ∧ Below w.heap.size w w' := by
 have HR0:=Aside0.mk hr0
 have HC0:=Aside0.mk hc0
 clear hr0 hc0
 have HB:=Aside0.mk (Below.refl w.heap.size w)
 have H : (if 0 ≤ (l0.length : Int) then (if ((l0.length : Int) : Int).toNat ≤ 35184372088832 then (laws_toIntS.l0 k l0 (List.replicate ((l0.length : Int) : Int).toNat 0) 0) else (none)) else (none)) = some r:=h
 clear h
 by_cases c2 : 0 ≤ (l0.length : Int)
 case neg =>
  rw [if_neg c2] at H
  exact absurd H (by simp)
 rw [if_pos c2] at H
 have c2b0:=eq_true c2
 have c2b1 : decide (0 ≤ (l0.length : Int)) = true:=decide_eq_true c2
 clear c2
 by_cases c3 : ((l0.length : Int) : Int).toNat ≤ 35184372088832
 case neg =>
  rw [if_neg c3] at H
  exact absurd H (by simp)
 rw [if_pos c3] at H
 have c3b0:=eq_true c3
 have c3b1 : decide (((l0.length : Int) : Int).toNat ≤ 35184372088832) = true:=decide_eq_true c3
 clear c3
 obtain ⟨y228,hy228⟩ : ∃ y_ : List Int,y_ = (List.replicate ((l0.length : Int) : Int).toNat 0):=⟨_,rfl⟩
 replace H : (laws_toIntS.l0 k l0 y228 0) = some r:=by first|(rw [hy228];with_reducible exact H)|(have H2_:=(Option.bind_some _ _).symm.trans H;rw [hy228];with_reducible exact H2_)|(have H2_:=(Option.bind_some _ _).symm.trans H;with_reducible exact H2_)|with_reducible exact H|(rw [hy228];exact H)|exact H
 have Ny228:=Aside0.mk hy228
 clear hy228
 have H':=Aside0.mk H
 clear H
 go_enter Try.func19,Try.ntmps19
 go_wp2_with (first|((with_reducible refine gate_dst (N:=7) rfl ?_);refine Kd.R_make (Kd.int .i64) _ 3 rfl (N:=7) rfl 22 _ _ rfl (l0.length : Int) rfl rfl Try.underlying22 (.int .i64 0) 8 info3 rfl (by decide) (by omega) 0 (ok:=fun _=>True) (okp:=fun _=>True) rfl (fun _ hk=>hk) trivial (of_decide_eq_true (by first|(with_reducible assumption)|assumption)) (Nat.le_trans (Nat.mul_le_mul_right _ (of_decide_eq_true (by first|(with_reducible assumption)|assumption) : (l0.length : Int).toNat ≤ 35184372088832)) (by omega)) (Below.refl _ _) (Nat.le_refl _) ?_;intro v229 w4 ho5 hb hg_ hnew_;clear hg_ hnew_;(first|rw [← Ny228.out] at ho5|(simp only [Int.reduceToNat] at ho5;rw [← Ny228.out] at ho5));have n0_:=Aside0.mk (Kd.R_lower ho5 (below_size (by repeat (first|(with_reducible first|exact HB.out|apply below_alloc|apply pw_below_drewN|apply below_drew1)|exact HB.out))));have n1_:=Aside0.mk (below_step (by repeat (first|(with_reducible first|exact HB.out|apply below_alloc|apply pw_below_drewN|apply below_drew1)|exact HB.out)) hb);clear HB;have HO230:=n0_;have HB:=n1_;clear n0_ n1_;clear hb ho5))
 go_loopg [4] k (fun kq v4 w'=>∃ (x3_1 : List Int) (x4_1 : Int),v4 = .int .i64 x4_1 ∧ Aside0 (laws_toIntS.l0 kq l0 x3_1 x4_1 = some r) ∧ Aside0 (kq ≤ k) ∧ Aside0 (Kd.R (Kd.int .i64) 3 w' w.heap.size (fun _=>True) v229 x3_1) ∧ Aside0 (Below w.heap.size w w'))
 case atStart=>exact ⟨(y228),(0),(by first|rfl|(simp;done)|(simp [*];done)),H',⟨Nat.le_refl _⟩,⟨by (with_reducible repeat (first|apply Kd.R_alloc|apply Kd.R_drewN|apply Kd.R_drew));exact HO230.out⟩,⟨by repeat (first|(with_reducible first|exact HB.out|apply below_alloc|apply pw_below_drewN|apply below_drew1)|exact HB.out)⟩⟩
 case round =>
  clear H'
  (try clear c1);(try clear c2);(try clear c2b0);(try clear c2b1);(try clear p2);(try clear c3);(try clear c3b0);(try clear c3b1)
  obtain ⟨x3_1,x4_1,rfl,HA,HK1,HO_3,HB⟩:=hrel
  cases gk with
  | zero=>exact absurd HA.out (by simp [laws_toIntS.l0])
  | succ k1 =>
   have H:=HA.out
   clear HA
   simp only [laws_toIntS.l0] at H
   by_cases c6 : x4_1 < (l0.length : Int)
   case neg =>
    rw [if_neg c6] at H
    have c6b0 : decide (x4_1 < (l0.length : Int)) = false:=decide_eq_false c6
    clear c6
    obtain rfl:=Option.some.inj H
    go_wp2
    go_ret
    exact ⟨_,by first|rfl|(simp [errW_none,errW_some]<;>rfl)|(simp [*,errW_none,errW_some]<;>rfl),by (with_reducible repeat (first|apply Kd.R_alloc|apply Kd.R_drewN|apply Kd.R_drew));exact HO_3.out,by repeat (first|(with_reducible first|exact HB.out|apply below_alloc|apply pw_below_drewN|apply below_drew1)|exact HB.out)⟩
   rw [if_pos c6] at H
   have c6b0 : decide (x4_1 < (l0.length : Int)) = true:=decide_eq_true c6
   clear c6
   by_cases c7 : 0 ≤ x4_1
   case neg =>
    rw [if_neg c7] at H
    exact absurd H (by simp)
   rw [if_pos c7] at H
   have c7b0 : decide (0 ≤ x4_1) = true:=decide_eq_true c7
   clear c7
   by_cases c8 : x4_1 < (x3_1.length : Int)
   case neg =>
    rw [if_neg c8] at H
    exact absurd H (by simp)
   rw [if_pos c8] at H
   have c8b0 : decide (x4_1 < (x3_1.length : Int)) = true:=decide_eq_true c8
   clear c8
   obtain ⟨y232,hy232⟩ : ∃ y_ : List Int,y_ = (x3_1.set (x4_1 : Int).toNat (rd l0 x4_1)):=⟨_,rfl⟩
   replace H : (laws_toIntS.l0 k1 l0 y232 (wrap64 (x4_1 + 1))) = some r:=by first|(rw [hy232];with_reducible exact H)|(have H2_:=(Option.bind_some _ _).symm.trans H;rw [hy232];with_reducible exact H2_)|(have H2_:=(Option.bind_some _ _).symm.trans H;with_reducible exact H2_)|with_reducible exact H|(rw [hy232];exact H)|exact H
   have Ny232:=Aside0.mk hy232
   clear hy232
   have H':=Aside0.mk H
   clear H
   have p231 : 0 ≤ (x4_1 : Int):=of_decide_eq_true (by first|(with_reducible assumption)|assumption)
   have q231 : x4_1 < (l0.length : Int):=of_decide_eq_true (by first|(with_reducible assumption)|assumption)
   obtain ⟨ad231,e231,hx231_0⟩:=Kd.at_int HR0.out x4_1 p231 q231
   cases e231
   replace hx231_0:=(HB.out.cell (World.block_lt_of_cell? w _ hx231_0)).trans hx231_0
   replace p231:=eq_true p231
   replace q231:=eq_true q231
   have p9 : 0 ≤ (x4_1 : Int):=of_decide_eq_true (by first|(with_reducible assumption)|assumption)
   have q9 : (x4_1 : Int) < ((x3_1.length : Int) : Int):=of_decide_eq_true (by first|(with_reducible assumption)|assumption)
   obtain ⟨go9,co9,eo9,gb9,gl9,cl9,HG9⟩:=Kd.R_form HO_3.out (by omega)
   (first|cases eo9|(injection eo9 with ea_ en_ ec_;(first|subst ea_|(injection ea_ with ea_;subst ea_));subst ec_;clear en_))
   have GB9:=Aside0.mk gb9
   have GG9:=Aside0.mk HG9
   clear gb9 gl9 HG9
   obtain ⟨hx9_0,hf9_0⟩:=Kd.R_celln 0 HO_3.out (x4_1 : Int) p9 q9
   replace p9:=eq_true p9
   replace q9:=eq_true q9
   have HP10:=Kd.R_putg HO_3.out (x4_1 : Int) (rd l0 x4_1)
   go_wp2_with (first|((with_reducible refine gate_store (t:=3) (p:=20) rfl ?_);refine store_event (t:=3) (p:=20) (v:=?vo_w11) (w1:=(wr.setCell ⟨go9,(x4_1 : Int).toNat,none⟩ (.int .i64 (rd l0 x4_1)))) ?hg ?ho ?hn ?hr ?_;(case ho=>rfl);(case hg=>rfl);(case hn=>rfl);(case hr=>first|(go_simp;done)|(go_simp;rfl));intro w11 hw;have hg : wr.grownBy w11 (some go9):=(by rw [hw];exact HP10.2);have hp_ : Kd.R (Kd.int .i64) 3 w11 w.heap.size (fun _=>True) (.slice (some ⟨go9,0,none⟩) x3_1.length co9) y232:=(by rw [hw,Ny232.out];exact HP10.1);clear HP10;have n0_:=Aside0.mk (hp_);have n1_:=Aside0.mk ((by rw [hw];exact below_set (HB.out) GB9.out : Below w.heap.size w w11));clear HO_3;clear HB;have HO_3:=n0_;have HB:=n1_;clear n0_ n1_;clear hg hw hp_))
   go_roundg k1
   case measure=>have:=HK1.out;omega
   case rel=>exact ⟨(y232),(wrap64 (x4_1 + 1)),(by first|rfl|(simp;done)|(simp [*];done)),H',⟨by have:=HK1.out;omega⟩,⟨by (with_reducible repeat (first|apply Kd.R_alloc|apply Kd.R_drewN|apply Kd.R_drew));exact HO_3.out⟩,⟨by repeat (first|(with_reducible first|exact HB.out|apply below_alloc|apply pw_below_drewN|apply below_drew1)|exact HB.out)⟩⟩

/-! ### laws_toSum: function 6 -/
def laws_toSum.f (k : Nat) (l0_0 : List Int) (a0_1 : Int) (l0_2 : List Int) : Option (List Int × Int × List Int) := (laws_toIntS.f k l0_0).bind fun t236 => ((laws_toByteS.f k l0_2).bind fun t239 => (some (t236, a0_1, t239)))
theorem laws_toSum.mono : ∀ a0 a1 a2 k, LeO (laws_toSum.f k a0 a1 a2) (laws_toSum.f (k + 1) a0 a1 a2) := by
 intro a0 a1 a2 k
 unfold laws_toSum.f
 repeat' first
  | (with_reducible exact laws_toByteS.mono _ _)
  | (with_reducible exact laws_toIntS.mono _ _)
  | (with_reducible exact LeO.refl _)
  | (with_reducible exact LeO.none _)
  | (with_reducible refine LeO.ite ?_ ?_)
  | (with_reducible refine LeO.bind ?_ (fun _=>?_))
  | exact laws_toByteS.mono _ _
  | exact laws_toIntS.mono _ _
  | exact LeO.none _
  | refine LeO.ite ?_ ?_
  | refine LeO.bind ?_ (fun _=>?_)
set_option maxHeartbeats 8000000 in
set_option maxRecDepth 100000 in
theorem laws_toSum.calls (k : Nat) (A0_0 : Option Addr) (c0_0 : Nat) (l0_0 : List Int) (a0_1 : Int) (A0_2 : Option Addr) (c0_2 : Nat) (l0_2 : List Int) (r1 : List Int) (r2 : Int) (r3 : List Int) (w : World) (hr0_0 : Kd.C (Kd.int .i64) w A0_0 l0_0.length l0_0) (hc0_0 : l0_0.length ≤ c0_0) (hr0_2 : Kd.C (Kd.int .u8) w A0_2 l0_2.length l0_2) (hc0_2 : l0_2.length ≤ c0_2) (h : laws_toSum.f k l0_0 a0_1 l0_2 = some (r1, r2, r3)) :
 Calls Try.prog 6 #[.agg #[.slice A0_0 l0_0.length c0_0, .int .i64 a0_1, .slice A0_2 l0_2.length c0_2]] w fun e w' => ∃ v0_ v2_ : Value, e = .returned (.agg #[v0_, .int .i64 r2, v2_]) ∧ Kd.R (Kd.int .i64) 3 w' w.heap.size (fun _ => True) v0_ r1 ∧ Kd.R (Kd.int .u8) 5 w' w.heap.size (fun _ => True) v2_ r3 ∧ Below w.heap.size w w' := by
 have hu25:=Try.underlying25
 have hu27:=Try.underlying27
 have HR0_0:=Aside0.mk hr0_0
 have HC0_0:=Aside0.mk hc0_0
 clear hr0_0 hc0_0
 have HR0_2:=Aside0.mk hr0_2
 have HC0_2:=Aside0.mk hc0_2
 clear hr0_2 hc0_2
 have HB:=Aside0.mk (Below.refl w.heap.size w)
 have H : ((laws_toIntS.f k l0_0).bind fun t236=>((laws_toByteS.f k l0_2).bind fun t239=>(some (t236,a0_1,t239)))) = some (r1,r2,r3):=h
 clear h
 replace H:=Option.bind_eq_some_iff.mp H
 obtain ⟨t236,A20,H⟩:=H
 replace H : ((laws_toByteS.f k l0_2).bind fun t239=>(some (t236,a0_1,t239))) = some (r1,r2,r3):=H
 have A2:=Aside0.mk A20
 clear A20
 replace H:=Option.bind_eq_some_iff.mp H
 obtain ⟨t239,A30,H⟩:=H
 replace H : (some (t236,a0_1,t239)) = some (r1,r2,r3):=H
 have A3:=Aside0.mk A30
 clear A30
 simp only [Option.some.injEq,Prod.mk.injEq] at H
 obtain ⟨rfl,rfl,rfl⟩:=H
 go_enter Try.func6,Try.ntmps6
 go_wp2_with (first|((with_reducible refine gate_dst (N:=1) rfl ?_);refine box_event ?hg (N:=1) ?hd (cs:=#[.slice A0_0 l0_0.length c0_0,.int .i64 a0_1,.slice A0_2 l0_2.length c0_2]) (t:=25) ?hr ?_;(case hd=>rfl);(case hg=>rfl);(case hr=>first|(go_simp;done)|(go_simp;rfl));intro gb233 hg w4 hbox hb;have n0_:=Aside0.mk (below_step (by repeat (first|(with_reducible first|exact HB.out|apply below_alloc|apply pw_below_drewN|apply below_drew1)|exact HB.out)) hb);have n1_:=Aside0.mk (hbox);have n2_:=Aside0.mk ((by rw [hg];exact (below_size (by repeat (first|(with_reducible first|exact HB.out|apply below_alloc|apply pw_below_drewN|apply below_drew1)|exact HB.out))) : w.heap.size ≤ gb233));have n3_:=Aside0.mk ((by rw [hg];exact (below_size (by repeat (first|(with_reducible first|exact HB.out|apply below_alloc|apply pw_below_drewN|apply below_drew1)|exact HB.out))) : w.heap.size ≤ gb233));clear HB;have HB:=n0_;have BK233:=n1_;have GW233:=n2_;have GE233:=n3_;clear n0_ n1_ n2_ n3_;clear hb hbox hg)|((with_reducible refine gate_dst (N:=2) rfl ?_);refine box_event ?hg (N:=2) ?hd (cs:=#[.slice none 0 0,.int .i64 0,.slice none 0 0]) (t:=27) ?hr ?_;(case hd=>rfl);(case hg=>rfl);(case hr=>first|(go_simp;done)|(go_simp;rfl));intro gb234 hg w5 hbox hb;have n0_:=Aside0.mk (blk_below (g:=gb233) (o:=.cells #[.slice A0_0 l0_0.length c0_0,.int .i64 a0_1,.slice A0_2 l0_2.length c0_2] 25 (0,0)) (by (with_reducible repeat (first|refine blk_drewN ?_ _|refine blk_drew ?_|refine blk_alloc ?_ _));exact BK233.out) hb);have n1_:=Aside0.mk (below_step (by repeat (first|(with_reducible first|exact HB.out|apply below_alloc|apply pw_below_drewN|apply below_drew1|refine below_set ?_ GE233.out)|exact HB.out)) hb);have n2_:=Aside0.mk (hbox);have n3_:=Aside0.mk ((by rw [hg];exact (below_size (by repeat (first|(with_reducible first|exact HB.out|apply below_alloc|apply pw_below_drewN|apply below_drew1|refine below_set ?_ GE233.out)|exact HB.out))) : w.heap.size ≤ gb234));have n4_:=Aside0.mk ((by rw [hg];exact (below_size (by repeat (first|(with_reducible first|exact HB.out|apply below_alloc|apply pw_below_drewN|apply below_drew1|refine below_set ?_ GE233.out)|exact HB.out))) : w.heap.size ≤ gb234));have n5_:=Aside0.mk ((by rw [hg];exact Nat.ne_of_lt (blk_lt (g:=gb233) (o:=.cells #[.slice A0_0 l0_0.length c0_0,.int .i64 a0_1,.slice A0_2 l0_2.length c0_2] 25 (0,0)) (by (with_reducible repeat (first|refine blk_drewN ?_ _|refine blk_drew ?_|refine blk_alloc ?_ _));exact BK233.out)) : gb233 ≠ gb234));have n6_:=Aside0.mk ((by rw [hg];exact Nat.ne_of_gt (blk_lt (g:=gb233) (o:=.cells #[.slice A0_0 l0_0.length c0_0,.int .i64 a0_1,.slice A0_2 l0_2.length c0_2] 25 (0,0)) (by (with_reducible repeat (first|refine blk_drewN ?_ _|refine blk_drew ?_|refine blk_alloc ?_ _));exact BK233.out)) : gb234 ≠ gb233));clear BK233;clear HB;have BK233:=n0_;have HB:=n1_;have BK234:=n2_;have GW234:=n3_;have GE234:=n4_;have NB233_234:=n5_;have NB234_233:=n6_;clear n0_ n1_ n2_ n3_ n4_ n5_ n6_;clear hb hbox hg)|((with_reducible refine gate_dst (N:=3) rfl ?_);refine box_event ?hg (N:=3) ?hd (cs:=#[.slice none 0 0,.int .i64 0,.slice none 0 0]) (t:=27) ?hr ?_;(case hd=>rfl);(case hg=>rfl);(case hr=>first|(go_simp;done)|(go_simp;rfl));intro gb235 hg w6 hbox hb;have n0_:=Aside0.mk (blk_below (g:=gb233) (o:=.cells #[.slice A0_0 l0_0.length c0_0,.int .i64 a0_1,.slice A0_2 l0_2.length c0_2] 25 (0,0)) (by (with_reducible repeat (first|refine blk_drewN ?_ _|refine blk_drew ?_|refine blk_alloc ?_ _));exact BK233.out) hb);have n1_:=Aside0.mk (blk_below (g:=gb234) (o:=.cells #[.slice none 0 0,.int .i64 0,.slice none 0 0] 27 (0,0)) (by (with_reducible repeat (first|refine blk_drewN ?_ _|refine blk_drew ?_|refine blk_alloc ?_ _));exact BK234.out) hb);have n2_:=Aside0.mk (below_step (by repeat (first|(with_reducible first|exact HB.out|apply below_alloc|apply pw_below_drewN|apply below_drew1|refine below_set ?_ GE233.out|refine below_set ?_ GE234.out)|exact HB.out)) hb);have n3_:=Aside0.mk (hbox);have n4_:=Aside0.mk ((by rw [hg];exact (below_size (by repeat (first|(with_reducible first|exact HB.out|apply below_alloc|apply pw_below_drewN|apply below_drew1|refine below_set ?_ GE233.out|refine below_set ?_ GE234.out)|exact HB.out))) : w.heap.size ≤ gb235));have n5_:=Aside0.mk ((by rw [hg];exact (below_size (by repeat (first|(with_reducible first|exact HB.out|apply below_alloc|apply pw_below_drewN|apply below_drew1|refine below_set ?_ GE233.out|refine below_set ?_ GE234.out)|exact HB.out))) : w.heap.size ≤ gb235));have n6_:=Aside0.mk ((by rw [hg];exact Nat.ne_of_lt (blk_lt (g:=gb233) (o:=.cells #[.slice A0_0 l0_0.length c0_0,.int .i64 a0_1,.slice A0_2 l0_2.length c0_2] 25 (0,0)) (by (with_reducible repeat (first|refine blk_drewN ?_ _|refine blk_drew ?_|refine blk_alloc ?_ _));exact BK233.out)) : gb233 ≠ gb235));have n7_:=Aside0.mk ((by rw [hg];exact Nat.ne_of_gt (blk_lt (g:=gb233) (o:=.cells #[.slice A0_0 l0_0.length c0_0,.int .i64 a0_1,.slice A0_2 l0_2.length c0_2] 25 (0,0)) (by (with_reducible repeat (first|refine blk_drewN ?_ _|refine blk_drew ?_|refine blk_alloc ?_ _));exact BK233.out)) : gb235 ≠ gb233));have n8_:=Aside0.mk ((by rw [hg];exact Nat.ne_of_lt (blk_lt (g:=gb234) (o:=.cells #[.slice none 0 0,.int .i64 0,.slice none 0 0] 27 (0,0)) (by (with_reducible repeat (first|refine blk_drewN ?_ _|refine blk_drew ?_|refine blk_alloc ?_ _));exact BK234.out)) : gb234 ≠ gb235));have n9_:=Aside0.mk ((by rw [hg];exact Nat.ne_of_gt (blk_lt (g:=gb234) (o:=.cells #[.slice none 0 0,.int .i64 0,.slice none 0 0] 27 (0,0)) (by (with_reducible repeat (first|refine blk_drewN ?_ _|refine blk_drew ?_|refine blk_alloc ?_ _));exact BK234.out)) : gb235 ≠ gb234));clear BK233;clear BK234;clear HB;have BK233:=n0_;have BK234:=n1_;have HB:=n2_;have BK235:=n3_;have GW235:=n4_;have GE235:=n5_;have NB233_235:=n6_;have NB235_233:=n7_;have NB234_235:=n8_;have NB235_234:=n9_;clear n0_ n1_ n2_ n3_ n4_ n5_ n6_ n7_ n8_ n9_;clear hb hbox hg;have hnb7:=NB233_234.out;have hnc7:=NB234_233.out;have hnb8:=NB233_235.out;have hnc8:=NB235_233.out;have hcz9_0 : w6.cell? ⟨gb233,0,none⟩ = some (.slice A0_0 l0_0.length c0_0):=(blk_cell BK233.out 0).trans rfl;have hcz9_1 : w6.cell? ⟨gb233,1,none⟩ = some (.int .i64 a0_1):=(blk_cell BK233.out 1).trans rfl;have hcz9_2 : w6.cell? ⟨gb233,2,none⟩ = some (.slice A0_2 l0_2.length c0_2):=(blk_cell BK233.out 2).trans rfl;have hfz9_0:=blk_frozen BK233.out 0;have hfz9_1:=blk_frozen BK233.out 1;have hfz9_2:=blk_frozen BK233.out 2)|((with_reducible refine gate_callee (f:=19) rfl ?_);refine goesL_ (some 6) rfl rfl Try.func19 (by kernel_rfl) rfl #[.slice A0_0 l0_0.length c0_0] rfl (by (try simp only [List.map_toArray,List.map_cons,List.map_nil]);first|done|rfl|(simp only [List.length_drop,List.length_take];rfl)) ?_;(with_reducible refine (laws_toIntS.calls k _ _ l0_0 t236 _ ?side1 ?side2 A2.out).mono ?_);(case side1=>repeat (first|exact (Kd.C_below HR0_0.out HB.out)|(with_reducible refine Kd.C_alloc ?_ _)|(with_reducible refine Kd.C_drewN ?_ _)|(with_reducible refine Kd.C_drew ?_)));(case side2=>exact HC0_0.out);rintro e w10 ⟨v237,rfl,ho0,hb⟩;refine ⟨_,rfl,?_⟩;have n0_:=Aside0.mk (Kd.R_lower ho0 (below_size (by repeat (first|(with_reducible first|exact HB.out|apply below_alloc|apply pw_below_drewN|apply below_drew1|refine below_set ?_ GE233.out|refine below_set ?_ GE234.out|refine below_set ?_ GE235.out)|exact HB.out))));have n1_:=Aside0.mk (blk_below (g:=gb233) (o:=.cells #[.slice A0_0 l0_0.length c0_0,.int .i64 a0_1,.slice A0_2 l0_2.length c0_2] 25 (0,0)) (by (with_reducible repeat (first|refine blk_drewN ?_ _|refine blk_drew ?_|refine blk_alloc ?_ _));exact BK233.out) hb);have n2_:=Aside0.mk (blk_below (g:=gb234) (o:=.cells #[.slice none 0 0,.int .i64 0,.slice none 0 0] 27 (0,0)) (by (with_reducible repeat (first|refine blk_drewN ?_ _|refine blk_drew ?_|refine blk_alloc ?_ _));exact BK234.out) hb);have n3_:=Aside0.mk (blk_below (g:=gb235) (o:=.cells #[.slice none 0 0,.int .i64 0,.slice none 0 0] 27 (0,0)) (by (with_reducible repeat (first|refine blk_drewN ?_ _|refine blk_drew ?_|refine blk_alloc ?_ _));exact BK235.out) hb);have n4_:=Aside0.mk (below_step (by repeat (first|(with_reducible first|exact HB.out|apply below_alloc|apply pw_below_drewN|apply below_drew1|refine below_set ?_ GE233.out|refine below_set ?_ GE234.out|refine below_set ?_ GE235.out)|exact HB.out)) hb);clear BK233;clear BK234;clear BK235;clear HB;have HO238:=n0_;have BK233:=n1_;have BK234:=n2_;have BK235:=n3_;have HB:=n4_;clear n0_ n1_ n2_ n3_ n4_;(try clear hb);(try clear hb2);(try clear hk);(try clear hi);(try clear ho0);obtain ⟨Ao11,co11,eo11⟩:=Kd.R_slice HO238.out;subst eo11;have hnb12:=NB235_234.out;have hnc12:=NB234_235.out;have hcz13_0 : w10.cell? ⟨gb235,0,none⟩ = some (.slice none 0 0):=(blk_cell BK235.out 0).trans rfl;have hcz13_1 : w10.cell? ⟨gb235,1,none⟩ = some (.int .i64 0):=(blk_cell BK235.out 1).trans rfl;have hcz13_2 : w10.cell? ⟨gb235,2,none⟩ = some (.slice none 0 0):=(blk_cell BK235.out 2).trans rfl;have hfz13_0:=blk_frozen BK235.out 0;have hfz13_1:=blk_frozen BK235.out 1;have hfz13_2:=blk_frozen BK235.out 2;have hcz14_0 : w10.cell? ⟨gb233,0,none⟩ = some (.slice A0_0 l0_0.length c0_0):=(blk_cell BK233.out 0).trans rfl;have hcz14_1 : w10.cell? ⟨gb233,1,none⟩ = some (.int .i64 a0_1):=(blk_cell BK233.out 1).trans rfl;have hcz14_2 : w10.cell? ⟨gb233,2,none⟩ = some (.slice A0_2 l0_2.length c0_2):=(blk_cell BK233.out 2).trans rfl;have hfz14_0:=blk_frozen BK233.out 0;have hfz14_1:=blk_frozen BK233.out 1;have hfz14_2:=blk_frozen BK233.out 2)|((with_reducible refine gate_callee (f:=7) rfl ?_);refine goesL_ (some 13) rfl rfl Try.func7 (by kernel_rfl) rfl #[.slice A0_2 l0_2.length c0_2] rfl (by (try simp only [List.map_toArray,List.map_cons,List.map_nil]);first|done|rfl|(simp only [List.length_drop,List.length_take];rfl)) ?_;(with_reducible refine (laws_toByteS.calls k _ _ l0_2 t239 _ ?side1 ?side2 A3.out).mono ?_);(case side1=>exact Kd.C_below HR0_2.out (by repeat (first|(with_reducible first|exact HB.out|apply below_alloc|apply pw_below_drewN|apply below_drew1|refine below_set ?_ GE233.out|refine below_set ?_ GE234.out|refine below_set ?_ GE235.out)|exact HB.out)));(case side2=>exact HC0_2.out);rintro e w15 ⟨v240,rfl,ho0,hb⟩;refine ⟨_,rfl,?_⟩;have n0_:=Aside0.mk (Kd.R_below (by (with_reducible repeat (first|apply Kd.R_alloc|apply Kd.R_drewN|apply Kd.R_drew));exact (Kd.R_mono (Kd.R_far (p:=⟨gb235,1,none⟩) (Kd.R_far (p:=⟨gb235,0,none⟩) (Kd.R_types HO238.out BK235.out (by decide)) (fun _ hk=>hk.2) (.slice Ao11 t236.length co11)) (fun _ hk=>hk.2) (.int .i64 a0_1)) (fun _ h_=>h_.1))) hb);have n1_:=Aside0.mk (Kd.R_lower ho0 (below_size (by repeat (first|(with_reducible first|exact HB.out|apply below_alloc|apply pw_below_drewN|apply below_drew1|refine below_set ?_ GE233.out|refine below_set ?_ GE234.out|refine below_set ?_ GE235.out)|exact HB.out))));have n2_:=Aside0.mk (blk_below (g:=gb233) (o:=.cells #[.slice A0_0 l0_0.length c0_0,.int .i64 a0_1,.slice A0_2 l0_2.length c0_2] 25 (0,0)) (by (with_reducible repeat (first|refine blk_drewN ?_ _|refine blk_drew ?_|refine blk_alloc ?_ _));refine blk_far ?_ NB233_235.out _;(with_reducible repeat (first|refine blk_drewN ?_ _|refine blk_drew ?_|refine blk_alloc ?_ _));refine blk_far ?_ NB233_235.out _;(with_reducible repeat (first|refine blk_drewN ?_ _|refine blk_drew ?_|refine blk_alloc ?_ _));exact BK233.out) hb);have n3_:=Aside0.mk (blk_below (g:=gb234) (o:=.cells #[.slice none 0 0,.int .i64 0,.slice none 0 0] 27 (0,0)) (by (with_reducible repeat (first|refine blk_drewN ?_ _|refine blk_drew ?_|refine blk_alloc ?_ _));refine blk_far ?_ NB234_235.out _;(with_reducible repeat (first|refine blk_drewN ?_ _|refine blk_drew ?_|refine blk_alloc ?_ _));refine blk_far ?_ NB234_235.out _;(with_reducible repeat (first|refine blk_drewN ?_ _|refine blk_drew ?_|refine blk_alloc ?_ _));exact BK234.out) hb);have n4_:=Aside0.mk (blk_below (g:=gb235) (o:=.cells #[.slice Ao11 t236.length co11,.int .i64 a0_1,.slice none 0 0] 27 (0,0)) (by (with_reducible repeat (first|refine blk_drewN ?_ _|refine blk_drew ?_|refine blk_alloc ?_ _));refine blk_put (cs:=#[.slice Ao11 t236.length co11,.int .i64 0,.slice none 0 0]) ?_ 1 _ rfl;(with_reducible repeat (first|refine blk_drewN ?_ _|refine blk_drew ?_|refine blk_alloc ?_ _));refine blk_put (cs:=#[.slice none 0 0,.int .i64 0,.slice none 0 0]) ?_ 0 _ rfl;(with_reducible repeat (first|refine blk_drewN ?_ _|refine blk_drew ?_|refine blk_alloc ?_ _));exact BK235.out) hb);have n5_:=Aside0.mk (below_step (by repeat (first|(with_reducible first|exact HB.out|apply below_alloc|apply pw_below_drewN|apply below_drew1|refine below_set ?_ GE233.out|refine below_set ?_ GE234.out|refine below_set ?_ GE235.out)|exact HB.out)) hb);clear HO238;clear BK233;clear BK234;clear BK235;clear HB;have HO238:=n0_;have HO241:=n1_;have BK233:=n2_;have BK234:=n3_;have BK235:=n4_;have HB:=n5_;clear n0_ n1_ n2_ n3_ n4_ n5_;(try clear hb);(try clear hb2);(try clear hk);(try clear hi);(try clear ho0);obtain ⟨Ao16,co16,eo16⟩:=Kd.R_slice HO241.out;subst eo16;have hcz17_0 : w15.cell? ⟨gb235,0,none⟩ = some (.slice Ao11 t236.length co11):=(blk_cell BK235.out 0).trans rfl;have hcz17_1 : w15.cell? ⟨gb235,1,none⟩ = some (.int .i64 a0_1):=(blk_cell BK235.out 1).trans rfl;have hcz17_2 : w15.cell? ⟨gb235,2,none⟩ = some (.slice none 0 0):=(blk_cell BK235.out 2).trans rfl;have hfz17_0:=blk_frozen BK235.out 0;have hfz17_1:=blk_frozen BK235.out 1;have hfz17_2:=blk_frozen BK235.out 2;have hcz18_0 : w15.cell? ⟨gb234,0,none⟩ = some (.slice none 0 0):=(blk_cell BK234.out 0).trans rfl;have hcz18_1 : w15.cell? ⟨gb234,1,none⟩ = some (.int .i64 0):=(blk_cell BK234.out 1).trans rfl;have hcz18_2 : w15.cell? ⟨gb234,2,none⟩ = some (.slice none 0 0):=(blk_cell BK234.out 2).trans rfl;have hfz18_0:=blk_frozen BK234.out 0;have hfz18_1:=blk_frozen BK234.out 1;have hfz18_2:=blk_frozen BK234.out 2))
 refine bodyPost_ret (results_cell_row rfl _ _ gb234 27 #[.slice Ao11 t236.length co11,.int .i64 a0_1,.slice Ao16 t239.length co16] (0,0) _ rfl (by (with_reducible repeat (first|refine blk_drewN ?_ _|refine blk_drew ?_|refine blk_alloc ?_ _));refine blk_put (cs:=#[.slice Ao11 t236.length co11,.int .i64 a0_1,.slice none 0 0]) ?_ 2 _ rfl;(with_reducible repeat (first|refine blk_drewN ?_ _|refine blk_drew ?_|refine blk_alloc ?_ _));refine blk_put (cs:=#[.slice Ao11 t236.length co11,.int .i64 0,.slice none 0 0]) ?_ 1 _ rfl;(with_reducible repeat (first|refine blk_drewN ?_ _|refine blk_drew ?_|refine blk_alloc ?_ _));refine blk_put (cs:=#[.slice none 0 0,.int .i64 0,.slice none 0 0]) ?_ 0 _ rfl;(with_reducible repeat (first|refine blk_drewN ?_ _|refine blk_drew ?_|refine blk_alloc ?_ _));refine blk_far ?_ NB234_235.out _;(with_reducible repeat (first|refine blk_drewN ?_ _|refine blk_drew ?_|refine blk_alloc ?_ _));exact BK234.out) Try.underlying27 rfl (by kernel_rfl)) rfl ?_
 exact ⟨_,_,by first|rfl|(simp [errW_none,errW_some]<;>rfl)|(simp [*,errW_none,errW_some]<;>rfl),by (with_reducible repeat (first|apply Kd.R_alloc|apply Kd.R_drewN|apply Kd.R_drew));exact Kd.R_mono (Kd.R_far (p:=⟨gb234,2,none⟩) (Kd.R_far (p:=⟨gb234,1,none⟩) (Kd.R_far (p:=⟨gb234,0,none⟩) (Kd.R_far (p:=⟨gb235,2,none⟩) (Kd.R_types (Kd.R_types HO238.out BK235.out (by decide)) BK234.out (by decide)) (fun _ hk=>hk.1.2) (.slice Ao16 t239.length co16)) (fun _ hk=>hk.2) (.slice Ao11 t236.length co11)) (fun _ hk=>hk.2) (.int .i64 a0_1)) (fun _ hk=>hk.2) (.slice Ao16 t239.length co16)) (fun _ hk=>trivial),by (with_reducible repeat (first|apply Kd.R_alloc|apply Kd.R_drewN|apply Kd.R_drew));exact Kd.R_mono (Kd.R_far (p:=⟨gb234,2,none⟩) (Kd.R_far (p:=⟨gb234,1,none⟩) (Kd.R_far (p:=⟨gb234,0,none⟩) (Kd.R_far (p:=⟨gb235,2,none⟩) (Kd.R_types (Kd.R_types HO241.out BK235.out (by decide)) BK234.out (by decide)) (fun _ hk=>hk.1.2) (.slice Ao16 t239.length co16)) (fun _ hk=>hk.2) (.slice Ao11 t236.length co11)) (fun _ hk=>hk.2) (.int .i64 a0_1)) (fun _ hk=>hk.2) (.slice Ao16 t239.length co16)) (fun _ hk=>trivial),by repeat (first|(with_reducible first|exact HB.out|apply below_alloc|apply pw_below_drewN|apply below_drew1|refine below_set ?_ GE233.out|refine below_set ?_ GE234.out|refine below_set ?_ GE235.out)|exact HB.out)⟩

/-! ### slices_Clone_int_int: function 20 -/
def slices_Clone_int_int.f (l0 : List Int) : Option (List Int) := (some (([] : List Int) : List Int)).bind fun y242 => (if y242.length + l0.length < 17592186044416 then (some (y242 ++ l0)) else (none))
set_option maxHeartbeats 8000000 in
set_option maxRecDepth 100000 in
theorem slices_Clone_int_int.callsS (ad0_ : Addr) (c0 : Nat) (l0 : List Int) (r : List Int) (w : World) (hr0 : Kd.C (Kd.int .i64) w (some ad0_) l0.length l0) (hc0 : l0.length ≤ c0) (h : slices_Clone_int_int.f l0 = some r) :
 Calls Try.prog 20 #[.slice (some ad0_) l0.length c0] w fun e w' => ∃ v0_ : Value, e = .returned (v0_) ∧ Kd.R (Kd.int .i64) 3 w' w.heap.size (fun _ => True) v0_ r ∧ Below w.heap.size w w' := by
 have HR0:=Aside0.mk hr0
 have HC0:=Aside0.mk hc0
 clear hr0 hc0
 have HB:=Aside0.mk (Below.refl w.heap.size w)
 have H : ((some (([] : List Int) : List Int)).bind fun y242=>(if y242.length + l0.length < 17592186044416 then (some (y242 ++ l0)) else (none))) = some r:=h
 clear h
 obtain ⟨y242,hy242⟩ : ∃ y_ : List Int,y_ = (([] : List Int)):=⟨_,rfl⟩
 replace H : (if y242.length + l0.length < 17592186044416 then (some (y242 ++ l0)) else (none)) = some r:=by first|(rw [hy242];with_reducible exact H)|(have H2_:=(Option.bind_some _ _).symm.trans H;rw [hy242];with_reducible exact H2_)|(have H2_:=(Option.bind_some _ _).symm.trans H;with_reducible exact H2_)|with_reducible exact H|(rw [hy242];exact H)|exact H
 have Ny242:=Aside0.mk hy242
 clear hy242
 by_cases c2 : y242.length + l0.length < 17592186044416
 case neg =>
  rw [if_neg c2] at H
  exact absurd H (by simp)
 rw [if_pos c2] at H
 have LMc2:=Aside0.mk c2
 clear c2
 obtain ⟨y245,hy245⟩ : ∃ y_ : List Int,y_ = (y242 ++ l0):=⟨_,rfl⟩
 replace H : (some y245) = some r:=by first|(rw [hy245];with_reducible exact H)|(have H2_:=(Option.bind_some _ _).symm.trans H;rw [hy245];with_reducible exact H2_)|(have H2_:=(Option.bind_some _ _).symm.trans H;with_reducible exact H2_)|with_reducible exact H|(rw [hy245];exact H)|exact H
 have Ny245:=Aside0.mk hy245
 clear hy245
 obtain rfl:=Option.some.inj H
 have hnil_:=fun w_ : World=>Lib.run_eql_slice_nil (P:=Try.prog) w_ 22 3 (some ad0_) l0.length c0 0 0 Try.underlying22
 go_enter Try.func20,Try.ntmps20
 go_wp2_with (first|((with_reducible refine gate_dst (N:=5) rfl ?_);refine Kd.R_lit (Kd.int .i64) _ 3 ?hg (N:=5) ?hd (xs:=([] : List Int)) (inner:=[]) (ok:=fun _=>True) (okp:=fun _=>True) ?hr ?hp (fun _ hk=>hk) trivial (Below.refl _ _) (Nat.le_refl _) (by simp) ?_;(case hd=>rfl);(case hg=>rfl);(case hr=>first|(go_simp;done)|(go_simp;rfl));(case hp=>exact (Reps.none _ _));intro v243 w3 ho4 hb hg_ hnew_;clear hg_ hnew_;(first|rw [← Ny242.out] at ho4|(simp only [Int.reduceToNat] at ho4;rw [← Ny242.out] at ho4));have n0_:=Aside0.mk (Kd.R_lower ho4 (below_size (by repeat (first|(with_reducible first|exact HB.out|apply below_alloc|apply pw_below_drewN|apply below_drew1)|exact HB.out))));have n1_:=Aside0.mk (below_step (by repeat (first|(with_reducible first|exact HB.out|apply below_alloc|apply pw_below_drewN|apply below_drew1)|exact HB.out)) hb);clear HB;have HO244:=n0_;have HB:=n1_;clear n0_ n1_;clear hb ho4)|((with_reducible refine gate_builtin (b:=.append) (xs:=#[.tmp 5,.tmp 6]) rfl ?_);at_builtin;refine Kd.R_append_rows (Kd.int .i64) (w0:=w) w.heap.size rfl (.tmp 5) (.tmp 6) 22 3 (.int .i64 0) 8 rfl Try.underlying22 info3 rfl (by decide) (by omega) v243 y242 l0 _ _ _ (fun _=>True) (fun _=>False) rfl rfl ?aO ?aR (fun _ _ h=>h) (fun _ h=>h.elim) ?aF ?aB ?aS ?aL ?_;(case aR=>repeat (first|exact (Kd.C_below HR0.out HB.out)|(with_reducible refine Kd.C_alloc ?_ _)|(with_reducible refine Kd.C_drewN ?_ _)|(with_reducible refine Kd.C_drew ?_)));(case aB=>exact (by repeat (first|(with_reducible first|exact HB.out|apply below_alloc|apply pw_below_drewN|apply below_drew1)|exact HB.out)));(case aF=>exact (fun _ _=>trivial));(case aO=>exact (by (with_reducible repeat (first|apply Kd.R_alloc|apply Kd.R_drewN|apply Kd.R_drew));exact HO244.out));(case aS=>exact (below_size (by repeat (first|(with_reducible first|exact HB.out|apply below_alloc|apply pw_below_drewN|apply below_drew1)|exact HB.out))));(case aL=>have:=LMc2.out;omega);intro v246 w5 ho hb hg hat;rw [← Ny245.out] at ho;have n0_:=Aside0.mk (hb);have n1_:=Aside0.mk (ho);clear HB;clear HO244;have HB:=n0_;have HO247:=n1_;clear n0_ n1_;clear ho hb hg hat))
 go_ret
 exact ⟨_,by first|rfl|(simp [errW_none,errW_some]<;>rfl)|(simp [*,errW_none,errW_some]<;>rfl),by (with_reducible repeat (first|apply Kd.R_alloc|apply Kd.R_drewN|apply Kd.R_drew));exact HO247.out,by repeat (first|(with_reducible first|exact HB.out|apply below_alloc|apply pw_below_drewN|apply below_drew1)|exact HB.out)⟩

set_option maxHeartbeats 8000000 in
set_option maxRecDepth 100000 in
theorem slices_Clone_int_int.calls (A0 : Option Addr) (c0 : Nat) (l0 : List Int) (r : List Int) (w : World) (hr0 : Kd.C (Kd.int .i64) w A0 l0.length l0) (hc0 : l0.length ≤ c0) (h : slices_Clone_int_int.f l0 = some r) :
 Calls Try.prog 20 #[.slice A0 l0.length c0] w fun e w' => ∃ v0_ : Value, e = .returned (v0_) ∧ Kd.R (Kd.int .i64) 3 w' w.heap.size (fun _ => True) v0_ r ∧ Below w.heap.size w w' := by
  cases A0 with
  | some ad=>exact slices_Clone_int_int.callsS ad c0 l0 r w hr0 hc0 h
  | none =>
    obtain rfl : l0 = [] := by
      obtain ⟨_,_,h3⟩:=hr0
      rcases Nat.eq_zero_or_pos l0.length with h0|h0
      · exact List.length_eq_zero_iff.1 h0
      · obtain ⟨_, h4, _⟩ := h3 h0
        cases h4
    obtain rfl : r = [] := by
      simp [slices_Clone_int_int.f] at h
      first|exact h|exact h.symm
    have hnil_:=fun w_ : World=>Lib.run_eql_slice_nil (P:=Try.prog) w_ 22 3 none 0 c0 0 0 Try.underlying22
    clear hr0 hc0 h
    go_enter Try.func20,Try.ntmps20
    go_wp2
    go_ret
    exact ⟨_,rfl,Kd.R_nil _ _ _ _ _,Below.refl _ _⟩

end Go.Proofs.Ytboefincoghbbag.QFnExactSumAdd
