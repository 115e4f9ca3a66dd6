/- Plain functions with the same answers as the program's, and the proofs that they are. Printed by a program of this session (wip/myprint.py) out of Lean's print of the loaded program. Conditions: those in each theorem's head. -/
import Derived.Test.YtpkfmjdmfphbaagQFnExactMacx0
import Derived.Test.YtpkfmjdmfphbaagQFnExactMacx1
import Derived.Test.YtpkfmjdmfphbaagQFnExactMacx2
namespace Go.Proofs.Ytpkfmjdmfphbaag.QFnExactMac
open Go.RowKit Go.Proofs.Ytpkfmjdmfphbaag.Given Go.Proofs.YtpkfmjdmfphbaagW.PrintWords Go.Proofs.YtpkfmjdmfphbaagW.PrintLast Go.Proofs.YtpkfmjdmfphbaagW.PrintMore
open Go.Proofs.YtpkfmjdmfphbaagW.PrintWords.Aside0 renaming mk → Z0
open Go.Proofs.YtpkfmjdmfphbaagW.PrintWords renaming pw_below_drewN → Z1, below_drew1 → Z5, below_alloc → Z6, below_set → Z7, blk_drewN → Z8, blk_alloc → Z9, blk_drew → Za, below_size → Zb, blk_cell → Ze, blk_frozen → Zf
open Go.Proofs.YtpkfmjdmfphbaagW.PrintWords.Kd renaming R_drewN → Z2, R_alloc → Z3, R_drew → Z4, C_drewN → Zc, C_alloc → Zd
open Option renaming bind_some → Zg
open List renaming length_drop → Zh, length_take → Zi, map_toArray → Zj
open Nat renaming le_refl → Zk
attribute [local go_sem] max2_int min2_int max_two min_two max_three min_three max_four min_four   -- for this text's walks alone
set_option linter.unusedVariables false
set_option linter.unusedSimpArgs false

/-! ### spec_SumEnd: function 14 -/
mutual
def spec_SumEnd.l0 : Nat → List Int → List Int → List Int → Int → List Int → Option (List Int)
 | 0, _, _, _, _, _ => none
 | k + 1, x3, x4, x170000, x170001, x170002 => if (Int.tmod (wrap64 ((x4.length : Int) + 8)) 64) = 0 then (spec_SumEnd.l1 k x3 x4 7 x170000 x170001 x170002) else (if x4.length < 140737488355328 then (spec_SumEnd.l0 k x3 (x4 ++ [0]) x170000 x170001 x170002) else (none))
def spec_SumEnd.l1 : Nat → List Int → List Int → Int → List Int → Int → List Int → Option (List Int)
 | 0, _, _, _, _, _, _ => none
 | k + 1, x3, x4, x5, x170000, x170001, x170002 => if x5 ≥ 0 then (if 0 ≤ (IntKind.u64.wrap (wrap64 (8 * x5))) then (if x4.length < 140737488355328 then (spec_SumEnd.l1 k x3 (x4 ++ [(Go.bits .and .i64 (shr .i64 (wrap64 (8 * x170001)) (IntKind.u64.wrap (wrap64 (8 * x5)))) 255) % 256]) (wrap64 (x5 - 1)) x170000 x170001 x170002) else (none)) else (none)) else ((some (([] : List Int) : List Int)).bind fun y189 => (if y189.length + x170000.length < 17592186044416 then (spec_SumEnd.l2 k x3 x4 (y189 ++ x170000) 0) else (none)))
def spec_SumEnd.l2 : Nat → List Int → List Int → List Int → Int → Option (List Int)
 | 0, _, _, _, _ => none
 | k + 1, x3, x4, x6, x7 => if x7 < (x4.length : Int) then (if 0 ≤ x7 then (if x7 ≤ (wrap64 (x7 + 64)) then (if (wrap64 (x7 + 64)) ≤ (x4.length : Int) then ((spec_l7Block.f k x6 ((x4.take ((wrap64 (x7 + 64)) : Int).toNat).drop (x7 : Int).toNat)).bind fun t199 => (spec_SumEnd.l2 k x3 x4 t199 (wrap64 (x7 + 64)))) else (none)) else (none)) else (none)) else (spec_SumEnd.l3 k x3 x6 0)
def spec_SumEnd.l3 : Nat → List Int → List Int → Int → Option (List Int)
 | 0, _, _, _ => none
 | k + 1, x3, x6, x8 => if x8 < 8 then (spec_SumEnd.l4 k x3 x6 x8 3) else (some x3)
def spec_SumEnd.l4 : Nat → List Int → List Int → Int → Int → Option (List Int)
 | 0, _, _, _, _ => none
 | k + 1, x3, x6, x8, x9 => if x9 ≥ 0 then (if 0 ≤ x8 then (if x8 < (x6.length : Int) then (if 0 ≤ (IntKind.u64.wrap (wrap64 (8 * x9))) then (if x3.length < 140737488355328 then (spec_SumEnd.l4 k (x3 ++ [(Go.bits .and .i64 (shr .i64 (rd x6 x8) (IntKind.u64.wrap (wrap64 (8 * x9)))) 255) % 256]) x6 x8 (wrap64 (x9 - 1))) else (none)) else (none)) else (none)) else (none)) else (spec_SumEnd.l3 k x3 x6 (wrap64 (x8 + 1)))
end
def spec_SumEnd.f (k : Nat) (l0_0 : List Int) (a0_1 : Int) (l0_2 : List Int) : Option (List Int) := (some (([] : List Int) : List Int)).bind fun y170 => ((spec_SumOk.f k l0_0 a0_1 l0_2).bind fun t173 => (if t173 = true then ((some (([] : List Int) : List Int)).bind fun y174 => (if y174.length + l0_2.length < 140737488355328 then ((some (y174 ++ l0_2 : List Int)).bind fun y177 => (if y177.length < 140737488355328 then (spec_SumEnd.l0 k y170 (y177 ++ [128]) l0_0 a0_1 l0_2) else (none))) else (none))) else (some y170)))
theorem spec_SumEnd.mono_l : ∀ k, (∀ y0 y1 y2 y3 y4, LeO (spec_SumEnd.l0 k y0 y1 y2 y3 y4) (spec_SumEnd.l0 (k + 1) y0 y1 y2 y3 y4)) ∧ (∀ y0 y1 y2 y3 y4 y5, LeO (spec_SumEnd.l1 k y0 y1 y2 y3 y4 y5) (spec_SumEnd.l1 (k + 1) y0 y1 y2 y3 y4 y5)) ∧ (∀ y0 y1 y2 y3, LeO (spec_SumEnd.l2 k y0 y1 y2 y3) (spec_SumEnd.l2 (k + 1) y0 y1 y2 y3)) ∧ (∀ y0 y1 y2, LeO (spec_SumEnd.l3 k y0 y1 y2) (spec_SumEnd.l3 (k + 1) y0 y1 y2)) ∧ (∀ y0 y1 y2 y3, LeO (spec_SumEnd.l4 k y0 y1 y2 y3) (spec_SumEnd.l4 (k + 1) y0 y1 y2 y3))
 | 0 => ⟨fun _ _ _ _ _ r h => by simp [spec_SumEnd.l0] at h, fun _ _ _ _ _ _ r h => by simp [spec_SumEnd.l1] at h, fun _ _ _ _ r h => by simp [spec_SumEnd.l2] at h, fun _ _ _ r h => by simp [spec_SumEnd.l3] at h, fun _ _ _ _ r h => by simp [spec_SumEnd.l4] at h⟩
 | k + 1 => by
  obtain ⟨ih0,ih1,ih2,ih3,ih4⟩:=spec_SumEnd.mono_l k
  refine ⟨?_,?_,?_,?_,?_⟩
  · intro y0 y1 y2 y3 y4
    unfold spec_SumEnd.l0
    repeat' first
    | (with_reducible exact ih0 _ _ _ _ _)
    | (with_reducible exact ih1 _ _ _ _ _ _)
    | (with_reducible exact ih2 _ _ _ _)
    | (with_reducible exact ih3 _ _ _)
    | (with_reducible exact ih4 _ _ _ _)
    | (with_reducible exact spec_SumOk.mono _ _ _ _)
    | (with_reducible exact spec_l7Block.mono _ _ _)
    | (with_reducible exact LeO.refl _)
    | (with_reducible exact LeO.none _)
    | (with_reducible refine LeO.ite ?_ ?_)
    | (with_reducible refine LeO.bind ?_ (fun _=>?_))
    | exact ih0 _ _ _ _ _
    | exact ih1 _ _ _ _ _ _
    | exact ih2 _ _ _ _
    | exact ih3 _ _ _
    | exact ih4 _ _ _ _
    | exact spec_SumOk.mono _ _ _ _
    | exact spec_l7Block.mono _ _ _
    | exact LeO.none _
    | refine LeO.ite ?_ ?_
    | refine LeO.bind ?_ (fun _=>?_)
  · intro y0 y1 y2 y3 y4 y5
    unfold spec_SumEnd.l1
    repeat' first
    | (with_reducible exact ih0 _ _ _ _ _)
    | (with_reducible exact ih1 _ _ _ _ _ _)
    | (with_reducible exact ih2 _ _ _ _)
    | (with_reducible exact ih3 _ _ _)
    | (with_reducible exact ih4 _ _ _ _)
    | (with_reducible exact spec_SumOk.mono _ _ _ _)
    | (with_reducible exact spec_l7Block.mono _ _ _)
    | (with_reducible exact LeO.refl _)
    | (with_reducible exact LeO.none _)
    | (with_reducible refine LeO.ite ?_ ?_)
    | (with_reducible refine LeO.bind ?_ (fun _=>?_))
    | exact ih0 _ _ _ _ _
    | exact ih1 _ _ _ _ _ _
    | exact ih2 _ _ _ _
    | exact ih3 _ _ _
    | exact ih4 _ _ _ _
    | exact spec_SumOk.mono _ _ _ _
    | exact spec_l7Block.mono _ _ _
    | exact LeO.none _
    | refine LeO.ite ?_ ?_
    | refine LeO.bind ?_ (fun _=>?_)
  · intro y0 y1 y2 y3
    unfold spec_SumEnd.l2
    repeat' first
    | (with_reducible exact ih0 _ _ _ _ _)
    | (with_reducible exact ih1 _ _ _ _ _ _)
    | (with_reducible exact ih2 _ _ _ _)
    | (with_reducible exact ih3 _ _ _)
    | (with_reducible exact ih4 _ _ _ _)
    | (with_reducible exact spec_SumOk.mono _ _ _ _)
    | (with_reducible exact spec_l7Block.mono _ _ _)
    | (with_reducible exact LeO.refl _)
    | (with_reducible exact LeO.none _)
    | (with_reducible refine LeO.ite ?_ ?_)
    | (with_reducible refine LeO.bind ?_ (fun _=>?_))
    | exact ih0 _ _ _ _ _
    | exact ih1 _ _ _ _ _ _
    | exact ih2 _ _ _ _
    | exact ih3 _ _ _
    | exact ih4 _ _ _ _
    | exact spec_SumOk.mono _ _ _ _
    | exact spec_l7Block.mono _ _ _
    | exact LeO.none _
    | refine LeO.ite ?_ ?_
    | refine LeO.bind ?_ (fun _=>?_)
  · intro y0 y1 y2
    unfold spec_SumEnd.l3
    repeat' first
    | (with_reducible exact ih0 _ _ _ _ _)
    | (with_reducible exact ih1 _ _ _ _ _ _)
    | (with_reducible exact ih2 _ _ _ _)
    | (with_reducible exact ih3 _ _ _)
    | (with_reducible exact ih4 _ _ _ _)
    | (with_reducible exact spec_SumOk.mono _ _ _ _)
    | (with_reducible exact spec_l7Block.mono _ _ _)
    | (with_reducible exact LeO.refl _)
    | (with_reducible exact LeO.none _)
    | (with_reducible refine LeO.ite ?_ ?_)
    | (with_reducible refine LeO.bind ?_ (fun _=>?_))
    | exact ih0 _ _ _ _ _
    | exact ih1 _ _ _ _ _ _
    | exact ih2 _ _ _ _
    | exact ih3 _ _ _
    | exact ih4 _ _ _ _
    | exact spec_SumOk.mono _ _ _ _
    | exact spec_l7Block.mono _ _ _
    | exact LeO.none _
    | refine LeO.ite ?_ ?_
    | refine LeO.bind ?_ (fun _=>?_)
  · intro y0 y1 y2 y3
    unfold spec_SumEnd.l4
    repeat' first
    | (with_reducible exact ih0 _ _ _ _ _)
    | (with_reducible exact ih1 _ _ _ _ _ _)
    | (with_reducible exact ih2 _ _ _ _)
    | (with_reducible exact ih3 _ _ _)
    | (with_reducible exact ih4 _ _ _ _)
    | (with_reducible exact spec_SumOk.mono _ _ _ _)
    | (with_reducible exact spec_l7Block.mono _ _ _)
    | (with_reducible exact LeO.refl _)
    | (with_reducible exact LeO.none _)
    | (with_reducible refine LeO.ite ?_ ?_)
    | (with_reducible refine LeO.bind ?_ (fun _=>?_))
    | exact ih0 _ _ _ _ _
    | exact ih1 _ _ _ _ _ _
    | exact ih2 _ _ _ _
    | exact ih3 _ _ _
    | exact ih4 _ _ _ _
    | exact spec_SumOk.mono _ _ _ _
    | exact spec_l7Block.mono _ _ _
    | exact LeO.none _
    | refine LeO.ite ?_ ?_
    | refine LeO.bind ?_ (fun _=>?_)
theorem spec_SumEnd.mono : ∀ a0 a1 a2 k, LeO (spec_SumEnd.f k a0 a1 a2) (spec_SumEnd.f (k + 1) a0 a1 a2) := by
 intro a0 a1 a2 k
 obtain ⟨ih0,ih1,ih2,ih3,ih4⟩:=spec_SumEnd.mono_l k
 unfold spec_SumEnd.f
 repeat' first
  | (with_reducible exact ih0 _ _ _ _ _)
  | (with_reducible exact ih1 _ _ _ _ _ _)
  | (with_reducible exact ih2 _ _ _ _)
  | (with_reducible exact ih3 _ _ _)
  | (with_reducible exact ih4 _ _ _ _)
  | (with_reducible exact spec_SumOk.mono _ _ _ _)
  | (with_reducible exact spec_l7Block.mono _ _ _)
  | (with_reducible exact LeO.refl _)
  | (with_reducible exact LeO.none _)
  | (with_reducible refine LeO.ite ?_ ?_)
  | (with_reducible refine LeO.bind ?_ (fun _=>?_))
  | exact ih0 _ _ _ _ _
  | exact ih1 _ _ _ _ _ _
  | exact ih2 _ _ _ _
  | exact ih3 _ _ _
  | exact ih4 _ _ _ _
  | exact spec_SumOk.mono _ _ _ _
  | exact spec_l7Block.mono _ _ _
  | exact LeO.none _
  | refine LeO.ite ?_ ?_
  | refine LeO.bind ?_ (fun _=>?_)
set_option maxHeartbeats 8000000 in
set_option maxRecDepth 100000 in
theorem spec_SumEnd.calls (k : Nat) (A0_0 : Option Addr) (c0_0 : Nat) (l0_0 : List Int) (a0_1 : Int) (A0_2 : Option Addr) (c0_2 : Nat) (l0_2 : List Int) (r : List Int) (w : World) (hr0_0 : Kd.C (Kd.int .i64) w A0_0 l0_0.length l0_0) (hc0_0 : l0_0.length ≤ c0_0) (hr0_2 : Kd.C (Kd.int .u8) w A0_2 l0_2.length l0_2) (hc0_2 : l0_2.length ≤ c0_2) (h : spec_SumEnd.f k l0_0 a0_1 l0_2 = some r) :
 Calls Try.prog 14 #[.agg #[.slice A0_0 l0_0.length c0_0, .int .i64 a0_1, .slice A0_2 l0_2.length c0_2]] w fun e w' => ∃ v0_ : Value, e = .returned (v0_) ∧ Kd.R (Kd.int .u8) 5 w' w.heap.size (fun _ => True) v0_ r ∧ Below w.heap.size w w' := by
 have hu31:=Try.underlying31
 have HR0_0:=Z0 hr0_0
 have HC0_0:=Z0 hc0_0
 clear hr0_0 hc0_0
 have HR0_2:=Z0 hr0_2
 have HC0_2:=Z0 hc0_2
 clear hr0_2 hc0_2
 have HB:=Z0 (Below.refl w.heap.size w)
 have H : ((some (([] : List Int) : List Int)).bind fun y170=>((spec_SumOk.f k l0_0 a0_1 l0_2).bind fun t173=>(if t173 = true then ((some (([] : List Int) : List Int)).bind fun y174=>(if y174.length + l0_2.length < 140737488355328 then ((some (y174 ++ l0_2 : List Int)).bind fun y177=>(if y177.length < 140737488355328 then (spec_SumEnd.l0 k y170 (y177 ++ [128]) l0_0 a0_1 l0_2) else (none))) else (none))) else (some y170)))) = some r:=h
 clear h
 obtain ⟨y170,hy170⟩ : ∃ y_ : List Int,y_ = (([] : List Int)):=⟨_,rfl⟩
 replace H : ((spec_SumOk.f k l0_0 a0_1 l0_2).bind fun t173=>(if t173 = true then ((some (([] : List Int) : List Int)).bind fun y174=>(if y174.length + l0_2.length < 140737488355328 then ((some (y174 ++ l0_2 : List Int)).bind fun y177=>(if y177.length < 140737488355328 then (spec_SumEnd.l0 k y170 (y177 ++ [128]) l0_0 a0_1 l0_2) else (none))) else (none))) else (some y170))) = some r:=by first|(rw [hy170];with_reducible exact H)|(have H2_:=(Zg _ _).symm.trans H;rw [hy170];with_reducible exact H2_)|(have H2_:=(Zg _ _).symm.trans H;with_reducible exact H2_)|with_reducible exact H|(rw [hy170];exact H)|exact H
 have Ny170:=Z0 hy170
 clear hy170
 replace H:=Option.bind_eq_some_iff.mp H
 obtain ⟨t173,A20,H⟩:=H
 replace H : (if t173 = true then ((some (([] : List Int) : List Int)).bind fun y174=>(if y174.length + l0_2.length < 140737488355328 then ((some (y174 ++ l0_2 : List Int)).bind fun y177=>(if y177.length < 140737488355328 then (spec_SumEnd.l0 k y170 (y177 ++ [128]) l0_0 a0_1 l0_2) else (none))) else (none))) else (some y170)) = some r:=H
 have A2:=Z0 A20
 clear A20
 by_cases c3 : t173 = true
 case neg =>
  replace c3:=Bool.eq_false_iff.mpr c3
  subst c3
  have H1 : (some y170) = some r:=by rw [if_neg (show ¬ (false = true) by decide)] at H;exact H
  clear H
  have H:=H1
  clear H1
  obtain rfl:=Option.some.inj H
  go_enter Try.func14,Try.ntmps14
  go_wp2_with (first|((with_reducible refine gate_dst (N:=1) rfl ?_);refine box_event ?hg (N:=1) ?hd (cs:=#[.slice A0_0 l0_0.length c0_0,.int .i64 a0_1,.slice A0_2 l0_2.length c0_2]) (t:=31) ?hr ?_;(case hd=>rfl);(case hg=>rfl);(case hr=>first|(go_simp;done)|(go_simp;rfl));intro gb169 hg w53 hbox hb;have n0_:=Z0 (below_step (by repeat (first|(with_reducible first|exact HB.out|apply Z6|apply Z1|apply Z5)|exact HB.out)) hb);have n1_:=Z0 (hbox);have n2_:=Z0 ((by rw [hg];exact (Zb (by repeat (first|(with_reducible first|exact HB.out|apply Z6|apply Z1|apply Z5)|exact HB.out))) : w.heap.size ≤ gb169));have n3_:=Z0 ((by rw [hg];exact (Zb (by repeat (first|(with_reducible first|exact HB.out|apply Z6|apply Z1|apply Z5)|exact HB.out))) : w.heap.size ≤ gb169));clear HB;have HB:=n0_;have BK169:=n1_;have GW169:=n2_;have GE169:=n3_;clear n0_ n1_ n2_ n3_;clear hb hbox hg)|((with_reducible refine gate_dst (N:=10) rfl ?_);refine Kd.R_lit (Kd.int .u8) _ 5 ?hg (N:=10) ?hd (xs:=([] : List Int)) (inner:=[]) (ok:=fun _=>True) (okp:=fun _=>True) ?hr ?hp (fun _ hk=>hk) trivial (Below.refl _ _) (Zk _) (by simp) ?_;(case hd=>rfl);(case hg=>rfl);(case hr=>first|(go_simp;done)|(go_simp;rfl));(case hp=>exact (Reps.none _ _));intro v171 w54 ho55 hb hg_ hnew_;clear hg_ hnew_;(first|rw [← Ny170.out] at ho55|(simp only [Int.reduceToNat] at ho55;rw [← Ny170.out] at ho55));have n0_:=Z0 (Kd.R_lower ho55 (Zb (by repeat (first|(with_reducible first|exact HB.out|apply Z6|apply Z1|apply Z5|refine Z7 ?_ GE169.out)|exact HB.out))));have n1_:=Z0 (blk_below (g:=gb169) (o:=.cells #[.slice A0_0 l0_0.length c0_0,.int .i64 a0_1,.slice A0_2 l0_2.length c0_2] 31 (0,0)) (by (with_reducible repeat (first|refine Z8 ?_ _|refine Za ?_|refine Z9 ?_ _));exact BK169.out) hb);have n2_:=Z0 (below_step (by repeat (first|(with_reducible first|exact HB.out|apply Z6|apply Z1|apply Z5|refine Z7 ?_ GE169.out)|exact HB.out)) hb);clear BK169;clear HB;have HO172:=n0_;have BK169:=n1_;have HB:=n2_;clear n0_ n1_ n2_;clear hb ho55;have hcz56_0 : w54.cell? ⟨gb169,0,none⟩ = some (.slice A0_0 l0_0.length c0_0):=(Ze BK169.out 0).trans rfl;have hcz56_1 : w54.cell? ⟨gb169,1,none⟩ = some (.int .i64 a0_1):=(Ze BK169.out 1).trans rfl;have hcz56_2 : w54.cell? ⟨gb169,2,none⟩ = some (.slice A0_2 l0_2.length c0_2):=(Ze BK169.out 2).trans rfl;have hfz56_0:=Zf BK169.out 0;have hfz56_1:=Zf BK169.out 1;have hfz56_2:=Zf BK169.out 2)|((with_reducible refine gate_callee (f:=20) rfl ?_);refine goesL_ (some 12) rfl rfl Try.func20 (by kernel_rfl) rfl #[.agg #[.slice A0_0 l0_0.length c0_0,.int .i64 a0_1,.slice A0_2 l0_2.length c0_2]] rfl (by (try simp only [Zj,List.map_cons,List.map_nil]);first|done|rfl|(simp only [Zh,Zi];rfl)) ?_;(with_reducible refine (spec_SumOk.calls k _ _ l0_0 a0_1 _ _ l0_2 false _ ?side1 ?side2 ?side3 ?side4 A2.out).mono ?_);(case side1=>repeat (first|exact (Kd.C_below HR0_0.out HB.out)|(with_reducible refine Zd ?_ _)|(with_reducible refine Zc ?_ _)|(with_reducible refine Kd.C_drew ?_)));(case side2=>exact HC0_0.out);(case side3=>repeat (first|exact (Kd.C_below HR0_2.out HB.out)|(with_reducible refine Zd ?_ _)|(with_reducible refine Zc ?_ _)|(with_reducible refine Kd.C_drew ?_)));(case side4=>exact HC0_2.out);rintro e w57 ⟨rfl,hb⟩;refine ⟨_,rfl,?_⟩;have n0_:=Z0 (Kd.R_below (by (with_reducible repeat (first|apply Z3|apply Z2|apply Z4));exact HO172.out) hb);have n1_:=Z0 (blk_below (g:=gb169) (o:=.cells #[.slice A0_0 l0_0.length c0_0,.int .i64 a0_1,.slice A0_2 l0_2.length c0_2] 31 (0,0)) (by (with_reducible repeat (first|refine Z8 ?_ _|refine Za ?_|refine Z9 ?_ _));exact BK169.out) hb);have n2_:=Z0 (below_step (by repeat (first|(with_reducible first|exact HB.out|apply Z6|apply Z1|apply Z5|refine Z7 ?_ GE169.out)|exact HB.out)) hb);clear HO172;clear BK169;clear HB;have HO172:=n0_;have BK169:=n1_;have HB:=n2_;clear n0_ n1_ n2_;(try clear hb);(try clear hb2);(try clear hk);(try clear hi)))
  go_ret
  exact ⟨_,by first|rfl|(simp [errW_none,errW_some]<;>rfl)|(simp [*,errW_none,errW_some]<;>rfl),by (with_reducible repeat (first|apply Z3|apply Z2|apply Z4));exact HO172.out,by repeat (first|(with_reducible first|exact HB.out|apply Z6|apply Z1|apply Z5|refine Z7 ?_ GE169.out)|exact HB.out)⟩
 subst c3
 have H1 : ((some (([] : List Int) : List Int)).bind fun y174=>(if y174.length + l0_2.length < 140737488355328 then ((some (y174 ++ l0_2 : List Int)).bind fun y177=>(if y177.length < 140737488355328 then (spec_SumEnd.l0 k y170 (y177 ++ [128]) l0_0 a0_1 l0_2) else (none))) else (none))) = some r:=by rw [if_pos rfl] at H;exact H
 clear H
 have H:=H1
 clear H1
 obtain ⟨y174,hy174⟩ : ∃ y_ : List Int,y_ = (([] : List Int)):=⟨_,rfl⟩
 replace H : (if y174.length + l0_2.length < 140737488355328 then ((some (y174 ++ l0_2 : List Int)).bind fun y177=>(if y177.length < 140737488355328 then (spec_SumEnd.l0 k y170 (y177 ++ [128]) l0_0 a0_1 l0_2) else (none))) else (none)) = some r:=by first|(rw [hy174];with_reducible exact H)|(have H2_:=(Zg _ _).symm.trans H;rw [hy174];with_reducible exact H2_)|(have H2_:=(Zg _ _).symm.trans H;with_reducible exact H2_)|with_reducible exact H|(rw [hy174];exact H)|exact H
 have Ny174:=Z0 hy174
 clear hy174
 by_cases c4 : y174.length + l0_2.length < 140737488355328
 case neg =>
  rw [if_neg c4] at H
  exact absurd H (by simp)
 rw [if_pos c4] at H
 have LMc4:=Z0 c4
 clear c4
 obtain ⟨y177,hy177⟩ : ∃ y_ : List Int,y_ = (y174 ++ l0_2):=⟨_,rfl⟩
 replace H : (if y177.length < 140737488355328 then (spec_SumEnd.l0 k y170 (y177 ++ [128]) l0_0 a0_1 l0_2) else (none)) = some r:=by first|(rw [hy177];with_reducible exact H)|(have H2_:=(Zg _ _).symm.trans H;rw [hy177];with_reducible exact H2_)|(have H2_:=(Zg _ _).symm.trans H;with_reducible exact H2_)|with_reducible exact H|(rw [hy177];exact H)|exact H
 have Ny177:=Z0 hy177
 clear hy177
 by_cases c5 : y177.length < 140737488355328
 case neg =>
  rw [if_neg c5] at H
  exact absurd H (by simp)
 rw [if_pos c5] at H
 have LMc5:=Z0 c5
 clear c5
 obtain ⟨y180,hy180⟩ : ∃ y_ : List Int,y_ = (y177 ++ [128]):=⟨_,rfl⟩
 replace H : (spec_SumEnd.l0 k y170 y180 l0_0 a0_1 l0_2) = some r:=by first|(rw [hy180];with_reducible exact H)|(have H2_:=(Zg _ _).symm.trans H;rw [hy180];with_reducible exact H2_)|(have H2_:=(Zg _ _).symm.trans H;with_reducible exact H2_)|with_reducible exact H|(rw [hy180];exact H)|exact H
 have Ny180:=Z0 hy180
 clear hy180
 have H':=Z0 H
 clear H
 go_enter Try.func14,Try.ntmps14
 go_wp2_with (first|((with_reducible refine gate_dst (N:=1) rfl ?_);refine box_event ?hg (N:=1) ?hd (cs:=#[.slice A0_0 l0_0.length c0_0,.int .i64 a0_1,.slice A0_2 l0_2.length c0_2]) (t:=31) ?hr ?_;(case hd=>rfl);(case hg=>rfl);(case hr=>first|(go_simp;done)|(go_simp;rfl));intro gb169 hg w6 hbox hb;have n0_:=Z0 (below_step (by repeat (first|(with_reducible first|exact HB.out|apply Z6|apply Z1|apply Z5)|exact HB.out)) hb);have n1_:=Z0 (hbox);have n2_:=Z0 ((by rw [hg];exact (Zb (by repeat (first|(with_reducible first|exact HB.out|apply Z6|apply Z1|apply Z5)|exact HB.out))) : w.heap.size ≤ gb169));have n3_:=Z0 ((by rw [hg];exact (Zb (by repeat (first|(with_reducible first|exact HB.out|apply Z6|apply Z1|apply Z5)|exact HB.out))) : w.heap.size ≤ gb169));clear HB;have HB:=n0_;have BK169:=n1_;have GW169:=n2_;have GE169:=n3_;clear n0_ n1_ n2_ n3_;clear hb hbox hg)|((with_reducible refine gate_dst (N:=10) rfl ?_);refine Kd.R_lit (Kd.int .u8) _ 5 ?hg (N:=10) ?hd (xs:=([] : List Int)) (inner:=[]) (ok:=fun _=>True) (okp:=fun _=>True) ?hr ?hp (fun _ hk=>hk) trivial (Below.refl _ _) (Zk _) (by simp) ?_;(case hd=>rfl);(case hg=>rfl);(case hr=>first|(go_simp;done)|(go_simp;rfl));(case hp=>exact (Reps.none _ _));intro v171 w7 ho8 hb hg_ hnew_;clear hg_ hnew_;(first|rw [← Ny170.out] at ho8|(simp only [Int.reduceToNat] at ho8;rw [← Ny170.out] at ho8));have n0_:=Z0 (Kd.R_lower ho8 (Zb (by repeat (first|(with_reducible first|exact HB.out|apply Z6|apply Z1|apply Z5|refine Z7 ?_ GE169.out)|exact HB.out))));have n1_:=Z0 (blk_below (g:=gb169) (o:=.cells #[.slice A0_0 l0_0.length c0_0,.int .i64 a0_1,.slice A0_2 l0_2.length c0_2] 31 (0,0)) (by (with_reducible repeat (first|refine Z8 ?_ _|refine Za ?_|refine Z9 ?_ _));exact BK169.out) hb);have n2_:=Z0 (below_step (by repeat (first|(with_reducible first|exact HB.out|apply Z6|apply Z1|apply Z5|refine Z7 ?_ GE169.out)|exact HB.out)) hb);clear BK169;clear HB;have HO172:=n0_;have BK169:=n1_;have HB:=n2_;clear n0_ n1_ n2_;clear hb ho8;have hcz9_0 : w7.cell? ⟨gb169,0,none⟩ = some (.slice A0_0 l0_0.length c0_0):=(Ze BK169.out 0).trans rfl;have hcz9_1 : w7.cell? ⟨gb169,1,none⟩ = some (.int .i64 a0_1):=(Ze BK169.out 1).trans rfl;have hcz9_2 : w7.cell? ⟨gb169,2,none⟩ = some (.slice A0_2 l0_2.length c0_2):=(Ze BK169.out 2).trans rfl;have hfz9_0:=Zf BK169.out 0;have hfz9_1:=Zf BK169.out 1;have hfz9_2:=Zf BK169.out 2)|((with_reducible refine gate_callee (f:=20) rfl ?_);refine goesL_ (some 12) rfl rfl Try.func20 (by kernel_rfl) rfl #[.agg #[.slice A0_0 l0_0.length c0_0,.int .i64 a0_1,.slice A0_2 l0_2.length c0_2]] rfl (by (try simp only [Zj,List.map_cons,List.map_nil]);first|done|rfl|(simp only [Zh,Zi];rfl)) ?_;(with_reducible refine (spec_SumOk.calls k _ _ l0_0 a0_1 _ _ l0_2 true _ ?side1 ?side2 ?side3 ?side4 A2.out).mono ?_);(case side1=>repeat (first|exact (Kd.C_below HR0_0.out HB.out)|(with_reducible refine Zd ?_ _)|(with_reducible refine Zc ?_ _)|(with_reducible refine Kd.C_drew ?_)));(case side2=>exact HC0_0.out);(case side3=>repeat (first|exact (Kd.C_below HR0_2.out HB.out)|(with_reducible refine Zd ?_ _)|(with_reducible refine Zc ?_ _)|(with_reducible refine Kd.C_drew ?_)));(case side4=>exact HC0_2.out);rintro e w10 ⟨rfl,hb⟩;refine ⟨_,rfl,?_⟩;have n0_:=Z0 (Kd.R_below (by (with_reducible repeat (first|apply Z3|apply Z2|apply Z4));exact HO172.out) hb);have n1_:=Z0 (blk_below (g:=gb169) (o:=.cells #[.slice A0_0 l0_0.length c0_0,.int .i64 a0_1,.slice A0_2 l0_2.length c0_2] 31 (0,0)) (by (with_reducible repeat (first|refine Z8 ?_ _|refine Za ?_|refine Z9 ?_ _));exact BK169.out) hb);have n2_:=Z0 (below_step (by repeat (first|(with_reducible first|exact HB.out|apply Z6|apply Z1|apply Z5|refine Z7 ?_ GE169.out)|exact HB.out)) hb);clear HO172;clear BK169;clear HB;have HO172:=n0_;have BK169:=n1_;have HB:=n2_;clear n0_ n1_ n2_;(try clear hb);(try clear hb2);(try clear hk);(try clear hi))|((with_reducible refine gate_dst (N:=15) rfl ?_);refine Kd.R_lit (Kd.int .u8) _ 5 ?hg (N:=15) ?hd (xs:=([] : List Int)) (inner:=[]) (ok:=fun _=>True) (okp:=fun _=>True) ?hr ?hp (fun _ hk=>hk) trivial (Below.refl _ _) (Zk _) (by simp) ?_;(case hd=>rfl);(case hg=>rfl);(case hr=>first|(go_simp;done)|(go_simp;rfl));(case hp=>exact (Reps.none _ _));intro v175 w11 ho12 hb hg_ hnew_;clear hg_ hnew_;(first|rw [← Ny174.out] at ho12|(simp only [Int.reduceToNat] at ho12;rw [← Ny174.out] at ho12));have n0_:=Z0 (Kd.R_elder' (by (with_reducible repeat (first|apply Z3|apply Z2|apply Z4));exact HO172.out) (Kd.R_base ho12) hb);have n1_:=Z0 (Kd.R_lower (Kd.R_new' ho12 (Kd.R_lt (by (with_reducible repeat (first|apply Z3|apply Z2|apply Z4));exact HO172.out))) (Zb (by repeat (first|(with_reducible first|exact HB.out|apply Z6|apply Z1|apply Z5|refine Z7 ?_ GE169.out)|exact HB.out))));have n2_:=Z0 (blk_below (g:=gb169) (o:=.cells #[.slice A0_0 l0_0.length c0_0,.int .i64 a0_1,.slice A0_2 l0_2.length c0_2] 31 (0,0)) (by (with_reducible repeat (first|refine Z8 ?_ _|refine Za ?_|refine Z9 ?_ _));exact BK169.out) hb);have n3_:=Z0 (below_step (by repeat (first|(with_reducible first|exact HB.out|apply Z6|apply Z1|apply Z5|refine Z7 ?_ GE169.out)|exact HB.out)) hb);clear HO172;clear BK169;clear HB;have HO172:=n0_;have HO176:=n1_;have BK169:=n2_;have HB:=n3_;clear n0_ n1_ n2_ n3_;clear hb ho12;have hcz13_0 : w11.cell? ⟨gb169,0,none⟩ = some (.slice A0_0 l0_0.length c0_0):=(Ze BK169.out 0).trans rfl;have hcz13_1 : w11.cell? ⟨gb169,1,none⟩ = some (.int .i64 a0_1):=(Ze BK169.out 1).trans rfl;have hcz13_2 : w11.cell? ⟨gb169,2,none⟩ = some (.slice A0_2 l0_2.length c0_2):=(Ze BK169.out 2).trans rfl;have hfz13_0:=Zf BK169.out 0;have hfz13_1:=Zf BK169.out 1;have hfz13_2:=Zf BK169.out 2)|((with_reducible refine gate_builtin (b:=.append) (xs:=#[.tmp 15,.tmp 17]) rfl ?_);at_builtin;refine Kd.R_append_rows (Kd.int .u8) (w0:=w) w.heap.size rfl (.tmp 15) (.tmp 17) 22 5 (.int .u8 0) 1 rfl Try.underlying22 info5 rfl (by decide) (by omega) v175 y174 l0_2 _ _ _ (fun k_=>some k_ ≠ (v171 : Value).ownBlock) (fun _=>False) rfl rfl ?aO ?aR (fun _ _ h=>h) (fun _ h=>h.elim) ?aF ?aB ?aS ?aL ?_;(case aR=>repeat (first|exact (Kd.C_below HR0_2.out HB.out)|(with_reducible refine Zd ?_ _)|(with_reducible refine Zc ?_ _)|(with_reducible refine Kd.C_drew ?_)));(case aB=>exact (by repeat (first|(with_reducible first|exact HB.out|apply Z6|apply Z1|apply Z5|refine Z7 ?_ GE169.out)|exact HB.out)));(case aF=>exact (fun k_ hk=>Kd.fresh' (Kd.R_lt (by (with_reducible repeat (first|apply Z3|apply Z2|apply Z4));exact HO172.out)) k_ hk));(case aO=>exact (by (with_reducible repeat (first|apply Z3|apply Z2|apply Z4));exact Kd.R_mono HO176.out (fun _ hk=>hk.2)));(case aS=>exact (Zb (by repeat (first|(with_reducible first|exact HB.out|apply Z6|apply Z1|apply Z5|refine Z7 ?_ GE169.out)|exact HB.out))));(case aL=>have:=LMc4.out;omega);intro v178 w14 ho hb hg hat;rw [← Ny177.out] at ho;have n0_:=Z0 (blk_grown (g:=gb169) (o:=.cells #[.slice A0_0 l0_0.length c0_0,.int .i64 a0_1,.slice A0_2 l0_2.length c0_2] 31 (0,0)) (by (with_reducible repeat (first|refine Z8 ?_ _|refine Za ?_|refine Z9 ?_ _));exact BK169.out) hg (Kd.R_ne HO176.out BK169.out (by decide)));have n1_:=Z0 (Kd.R_after (ok:=(fun _=>True)) (by (with_reducible repeat (first|apply Z3|apply Z2|apply Z4));exact HO172.out) hg hat);have n2_:=Z0 (hb);have n3_:=Z0 (ho);clear BK169;clear HO172;clear HB;clear HO176;have BK169:=n0_;have HO172:=n1_;have HB:=n2_;have HO179:=n3_;clear n0_ n1_ n2_ n3_;clear ho hb hg hat)|((with_reducible refine gate_builtin (b:=.append) (xs:=#[.tmp 18,.tmp 19]) rfl ?_);at_builtin;refine Kd.R_append (Kd.int .u8) (w0:=w) w.heap.size rfl (.tmp 18) (.tmp 19) 22 5 (.int .u8 0) 1 rfl Try.underlying22 info5 rfl (by decide) (by omega) v178 y177 128 [.int .u8 128] (fun k_=>some k_ ≠ (v171 : Value).ownBlock) (fun _=>False) rfl rfl ?aP (fun _ hk=>hk.elim) ?aF ?aO ?aB ?aS ?aL ?_;(case aP=>exact rfl);(case aB=>exact (by repeat (first|(with_reducible first|exact HB.out|apply Z6|apply Z1|apply Z5|refine Z7 ?_ GE169.out)|exact HB.out)));(case aF=>exact (fun k_ hk=>Kd.fresh' (Kd.R_lt (by (with_reducible repeat (first|apply Z3|apply Z2|apply Z4));exact HO172.out)) k_ hk));(case aO=>exact (by (with_reducible repeat (first|apply Z3|apply Z2|apply Z4));exact HO179.out));(case aS=>exact (Zb (by repeat (first|(with_reducible first|exact HB.out|apply Z6|apply Z1|apply Z5|refine Z7 ?_ GE169.out)|exact HB.out))));(case aL=>have:=LMc5.out;omega);intro v181 w15 ho hb hg hat;rw [← Ny180.out] at ho;have n0_:=Z0 (blk_grown (g:=gb169) (o:=.cells #[.slice A0_0 l0_0.length c0_0,.int .i64 a0_1,.slice A0_2 l0_2.length c0_2] 31 (0,0)) (by (with_reducible repeat (first|refine Z8 ?_ _|refine Za ?_|refine Z9 ?_ _));exact BK169.out) hg (Kd.R_ne HO179.out BK169.out (by decide)));have n1_:=Z0 (Kd.R_after (ok:=(fun _=>True)) (by (with_reducible repeat (first|apply Z3|apply Z2|apply Z4));exact HO172.out) hg hat);have n2_:=Z0 (hb);have n3_:=Z0 (ho);clear BK169;clear HO172;clear HB;clear HO179;have BK169:=n0_;have HO172:=n1_;have HB:=n2_;have HO182:=n3_;clear n0_ n1_ n2_ n3_;clear ho hb hg hat))
 go_loopg [4] k (fun kq v4 w'=>∃ (x4_1 : List Int),Aside0 (spec_SumEnd.l0 kq y170 x4_1 l0_0 a0_1 l0_2 = some r) ∧ Aside0 (kq ≤ k) ∧ Aside0 (Kd.R (Kd.int .u8) 5 w' w.heap.size (fun k_=>some k_ ≠ (v4 : Value).ownBlock) v171 y170) ∧ Aside0 (Kd.R (Kd.int .u8) 5 w' w.heap.size (fun k_=>some k_ ≠ (v171 : Value).ownBlock) v4 x4_1) ∧ Aside0 (w'.heap[gb169]? = some (.cells #[(.slice A0_0 l0_0.length c0_0),.int .i64 a0_1,(.slice A0_2 l0_2.length c0_2)] 31 (0,0))) ∧ Aside0 (Below w.heap.size w w'))
 case atStart=>exact ⟨(y180),H',⟨Zk _⟩,⟨by (with_reducible repeat (first|apply Z3|apply Z2|apply Z4));exact Kd.R_mono HO172.out (fun _ hk=>hk.2)⟩,⟨by (with_reducible repeat (first|apply Z3|apply Z2|apply Z4));exact HO182.out⟩,⟨by (with_reducible repeat (first|refine Z8 ?_ _|refine Za ?_|refine Z9 ?_ _));exact BK169.out⟩,⟨by repeat (first|(with_reducible first|exact HB.out|apply Z6|apply Z1|apply Z5|refine Z7 ?_ GE169.out)|exact HB.out)⟩⟩
 case round =>
  clear H'
  (try clear c1);(try clear c2);(try clear p2);(try clear c3);(try clear c4);(try clear c5);(try clear c14);(try clear hcz13_0);(try clear hcz13_1);(try clear hcz13_2);(try clear hcz9_0);(try clear hcz9_1);(try clear hcz9_2);(try clear hfz13_0);(try clear hfz13_1);(try clear hfz13_2);(try clear hfz9_0);(try clear hfz9_1);(try clear hfz9_2)
  obtain ⟨x4_1,HA,HK1,HO_3,HO_4,BK169,HB⟩:=hrel
  cases gk with
  | zero=>exact absurd HA.out (by simp [spec_SumEnd.l0])
  | succ k1 =>
   have H:=HA.out
   clear HA
   simp only [spec_SumEnd.l0] at H
   by_cases c16 : (Int.tmod (wrap64 ((x4_1.length : Int) + 8)) 64) = 0
   case neg =>
    rw [if_neg c16] at H
    have c16b0 : ((Int.tmod (wrap64 ((x4_1.length : Int) + 8)) 64) == 0) = false:=beq_eq_false_iff_ne.mpr c16
    have c16b1 : ((Int.tmod (wrap64 ((x4_1.length : Int) + 8)) 64) != 0) = true:=bne_iff_ne.mpr c16
    by_cases c50 : x4_1.length < 140737488355328
    case neg =>
     rw [if_neg c50] at H
     exact absurd H (by simp)
    rw [if_pos c50] at H
    have LMc50:=Z0 c50
    clear c50
    obtain ⟨y183,hy183⟩ : ∃ y_ : List Int,y_ = (x4_1 ++ [0]):=⟨_,rfl⟩
    replace H : (spec_SumEnd.l0 k1 y170 y183 l0_0 a0_1 l0_2) = some r:=by first|(rw [hy183];with_reducible exact H)|(have H2_:=(Zg _ _).symm.trans H;rw [hy183];with_reducible exact H2_)|(have H2_:=(Zg _ _).symm.trans H;with_reducible exact H2_)|with_reducible exact H|(rw [hy183];exact H)|exact H
    have Ny183:=Z0 hy183
    clear hy183
    have H':=Z0 H
    clear H
    obtain ⟨Ao51,co51,eo51⟩:=Kd.R_slice HO_4.out
    subst eo51
    go_wp2_with (first|((with_reducible refine gate_builtin (b:=.append) (xs:=#[.tmp 26,.tmp 27]) rfl ?_);at_builtin;refine Kd.R_append (Kd.int .u8) (w0:=w) w.heap.size rfl (.tmp 26) (.tmp 27) 22 5 (.int .u8 0) 1 rfl Try.underlying22 info5 rfl (by decide) (by omega) (.slice Ao51 x4_1.length co51) x4_1 0 [.int .u8 0] (fun k_=>some k_ ≠ (v171 : Value).ownBlock) (fun _=>False) rfl rfl ?aP (fun _ hk=>hk.elim) ?aF ?aO ?aB ?aS ?aL ?_;(case aP=>exact rfl);(case aB=>exact (by repeat (first|(with_reducible first|exact HB.out|apply Z6|apply Z1|apply Z5|refine Z7 ?_ GE169.out)|exact HB.out)));(case aF=>exact (fun k_ hk=>Kd.fresh' (Kd.R_lt (by (with_reducible repeat (first|apply Z3|apply Z2|apply Z4));exact HO_3.out)) k_ hk));(case aO=>exact (by (with_reducible repeat (first|apply Z3|apply Z2|apply Z4));exact HO_4.out));(case aS=>exact (Zb (by repeat (first|(with_reducible first|exact HB.out|apply Z6|apply Z1|apply Z5|refine Z7 ?_ GE169.out)|exact HB.out))));(case aL=>have:=LMc50.out;omega);intro v184 w52 ho hb hg hat;rw [← Ny183.out] at ho;have n0_:=Z0 (Kd.R_after (ok:=(fun _=>True)) (by (with_reducible repeat (first|apply Z3|apply Z2|apply Z4));exact Kd.R_mono HO_3.out (fun _ hk=>⟨trivial,hk⟩)) hg hat);have n1_:=Z0 (blk_grown (g:=gb169) (o:=.cells #[.slice A0_0 l0_0.length c0_0,.int .i64 a0_1,.slice A0_2 l0_2.length c0_2] 31 (0,0)) (by (with_reducible repeat (first|refine Z8 ?_ _|refine Za ?_|refine Z9 ?_ _));exact BK169.out) hg (Kd.R_ne HO_4.out BK169.out (by decide)));have n2_:=Z0 (hb);have n3_:=Z0 (ho);clear HO_3;clear BK169;clear HB;clear HO_4;have HO_3:=n0_;have BK169:=n1_;have HB:=n2_;have HO185:=n3_;clear n0_ n1_ n2_ n3_;clear ho hb hg hat))
    go_roundg k1
    case measure=>have:=HK1.out;omega
    case rel=>exact ⟨(y183),H',⟨by have:=HK1.out;omega⟩,⟨by (with_reducible repeat (first|apply Z3|apply Z2|apply Z4));exact Kd.R_mono HO_3.out (fun _ hk=>hk.2)⟩,⟨by (with_reducible repeat (first|apply Z3|apply Z2|apply Z4));exact HO185.out⟩,⟨by (with_reducible repeat (first|refine Z8 ?_ _|refine Za ?_|refine Z9 ?_ _));exact BK169.out⟩,⟨by repeat (first|(with_reducible first|exact HB.out|apply Z6|apply Z1|apply Z5|refine Z7 ?_ GE169.out)|exact HB.out)⟩⟩
   rw [if_pos c16] at H
   have c16b0 : ((Int.tmod (wrap64 ((x4_1.length : Int) + 8)) 64) == 0) = true:=beq_iff_eq.mpr c16
   have c16b1 : ((Int.tmod (wrap64 ((x4_1.length : Int) + 8)) 64) != 0) = false:=bne_eq_false_iff_eq.mpr c16
   clear c16
   have H':=Z0 H
   clear H
   obtain ⟨Ao17,co17,eo17⟩:=Kd.R_slice HO_4.out
   subst eo17
   go_wp2
   go_loopg [4,5] k1 (fun kq v4 v5 w'=>∃ (x4_2 : List Int) (x5_2 : Int),v5 = .int .i64 x5_2 ∧ Aside0 (spec_SumEnd.l1 kq y170 x4_2 x5_2 l0_0 a0_1 l0_2 = some r) ∧ Aside0 (kq ≤ k1) ∧ Aside0 (Kd.R (Kd.int .u8) 5 w' w.heap.size (fun k_=>some k_ ≠ (v4 : Value).ownBlock) v171 y170) ∧ Aside0 (Kd.R (Kd.int .u8) 5 w' w.heap.size (fun k_=>some k_ ≠ (v171 : Value).ownBlock) v4 x4_2) ∧ Aside0 (w'.heap[gb169]? = some (.cells #[(.slice A0_0 l0_0.length c0_0),.int .i64 a0_1,(.slice A0_2 l0_2.length c0_2)] 31 (0,0))) ∧ Aside0 (Below w.heap.size w w'))
   case atStart=>exact ⟨(x4_1),(7),(by first|rfl|(simp;done)|(simp [*];done)),H',⟨Zk _⟩,⟨by (with_reducible repeat (first|apply Z3|apply Z2|apply Z4));exact HO_3.out⟩,⟨by (with_reducible repeat (first|apply Z3|apply Z2|apply Z4));exact HO_4.out⟩,⟨by (with_reducible repeat (first|refine Z8 ?_ _|refine Za ?_|refine Z9 ?_ _));exact BK169.out⟩,⟨by repeat (first|(with_reducible first|exact HB.out|apply Z6|apply Z1|apply Z5|refine Z7 ?_ GE169.out)|exact HB.out)⟩⟩
   case round =>
    clear H'
    (try clear c1);(try clear c2);(try clear p2);(try clear c3);(try clear c4);(try clear c5);(try clear p6);(try clear c14);(try clear c16);(try clear c16b0);(try clear c16b1);(try clear hcz13_0);(try clear hcz13_1);(try clear hcz13_2);(try clear hcz9_0);(try clear hcz9_1);(try clear hcz9_2);(try clear hfz13_0);(try clear hfz13_1);(try clear hfz13_2);(try clear hfz9_0);(try clear hfz9_1);(try clear hfz9_2);(try clear p2)
    obtain ⟨x4_2,x5_2,rfl,HA,HK2,HO_3,HO_4,BK169,HB⟩:=hrel
    cases gk with
    | zero=>exact absurd HA.out (by simp [spec_SumEnd.l1])
    | succ k2 =>
     have H:=HA.out
     clear HA
     simp only [spec_SumEnd.l1] at H
     by_cases c18 : x5_2 ≥ 0
     case pos =>
      rw [if_pos c18] at H
      have c18b0 : decide (0 ≤ x5_2) = true:=decide_eq_true c18
      clear c18
      obtain ⟨ji19,hji19⟩ : ∃ j_ : Int,(IntKind.u64.wrap (wrap64 (8 * x5_2))) = j_:=⟨_,rfl⟩
      replace H : (if 0 ≤ (ji19) then (if x4_2.length < 140737488355328 then (spec_SumEnd.l1 k2 y170 (x4_2 ++ [(Go.bits .and .i64 (shr .i64 (wrap64 (8 * a0_1)) (ji19)) 255) % 256]) (wrap64 (x5_2 - 1)) l0_0 a0_1 l0_2) else (none)) else (none)) = some r:=by first|(rw [hji19] at H;exact H)|(simp only [hji19] at H ⊢;exact H)
      by_cases c20 : 0 ≤ (ji19)
      case neg =>
       rw [if_neg c20] at H
       exact absurd H (by simp)
      rw [if_pos c20] at H
      have c20b0:=eq_true c20
      have c20b1 : decide (0 ≤ (ji19)) = true:=decide_eq_true c20
      clear c20
      obtain ⟨ji21,hji21⟩ : ∃ j_ : Int,(shr .i64 (wrap64 (8 * a0_1)) (ji19)) = j_:=⟨_,rfl⟩
      replace H : (if x4_2.length < 140737488355328 then (spec_SumEnd.l1 k2 y170 (x4_2 ++ [(Go.bits .and .i64 (ji21) 255) % 256]) (wrap64 (x5_2 - 1)) l0_0 a0_1 l0_2) else (none)) = some r:=by first|(rw [hji21] at H;exact H)|(simp only [hji21] at H ⊢;exact H)
      have hji21_ : ((wrap64 (8 * a0_1)) / 2 ^ min (ji19).toNat 64) = ji21:=hji21
      have hji21z : (ji19) ≤ 64 → ((wrap64 (8 * a0_1)) / 2 ^ (ji19).toNat) = ji21:=shr_small hji21
      by_cases c22 : x4_2.length < 140737488355328
      case neg =>
       rw [if_neg c22] at H
       exact absurd H (by simp)
      rw [if_pos c22] at H
      have LMc22:=Z0 c22
      clear c22
      obtain ⟨y186,hy186⟩ : ∃ y_ : List Int,y_ = (x4_2 ++ [(Go.bits .and .i64 (ji21) 255) % 256]):=⟨_,rfl⟩
      replace H : (spec_SumEnd.l1 k2 y170 y186 (wrap64 (x5_2 - 1)) l0_0 a0_1 l0_2) = some r:=by first|(rw [hy186];with_reducible exact H)|(have H2_:=(Zg _ _).symm.trans H;rw [hy186];with_reducible exact H2_)|(have H2_:=(Zg _ _).symm.trans H;with_reducible exact H2_)|with_reducible exact H|(rw [hy186];exact H)|exact H
      have Ny186:=Z0 hy186
      clear hy186
      have H':=Z0 H
      clear H
      have hcz23_0 : wr.cell? ⟨gb169,0,none⟩ = some (.slice A0_0 l0_0.length c0_0):=(Ze BK169.out 0).trans rfl
      have hcz23_1 : wr.cell? ⟨gb169,1,none⟩ = some (.int .i64 a0_1):=(Ze BK169.out 1).trans rfl
      have hcz23_2 : wr.cell? ⟨gb169,2,none⟩ = some (.slice A0_2 l0_2.length c0_2):=(Ze BK169.out 2).trans rfl
      have hfz23_0:=Zf BK169.out 0
      have hfz23_1:=Zf BK169.out 1
      have hfz23_2:=Zf BK169.out 2
      go_wp2_with (first|((with_reducible refine gate_builtin (b:=.append) (xs:=#[.tmp 33,.tmp 43]) rfl ?_);at_builtin;refine Kd.R_append (Kd.int .u8) (w0:=w) w.heap.size rfl (.tmp 33) (.tmp 43) 22 5 (.int .u8 0) 1 rfl Try.underlying22 info5 rfl (by decide) (by omega) u4 x4_2 ((Go.bits .and .i64 (ji21) 255) % 256) [.int .u8 ((Go.bits .and .i64 (ji21) 255) % 256)] (fun k_=>some k_ ≠ (v171 : Value).ownBlock) (fun _=>False) rfl rfl ?aP (fun _ hk=>hk.elim) ?aF ?aO ?aB ?aS ?aL ?_;(case aP=>exact rfl);(case aB=>exact (by repeat (first|(with_reducible first|exact HB.out|apply Z6|apply Z1|apply Z5|refine Z7 ?_ GE169.out)|exact HB.out)));(case aF=>exact (fun k_ hk=>Kd.fresh' (Kd.R_lt (by (with_reducible repeat (first|apply Z3|apply Z2|apply Z4));exact HO_3.out)) k_ hk));(case aO=>exact (by (with_reducible repeat (first|apply Z3|apply Z2|apply Z4));exact HO_4.out));(case aS=>exact (Zb (by repeat (first|(with_reducible first|exact HB.out|apply Z6|apply Z1|apply Z5|refine Z7 ?_ GE169.out)|exact HB.out))));(case aL=>have:=LMc22.out;omega);intro v187 w24 ho hb hg hat;rw [← Ny186.out] at ho;have n0_:=Z0 (Kd.R_after (ok:=(fun _=>True)) (by (with_reducible repeat (first|apply Z3|apply Z2|apply Z4));exact Kd.R_mono HO_3.out (fun _ hk=>⟨trivial,hk⟩)) hg hat);have n1_:=Z0 (blk_grown (g:=gb169) (o:=.cells #[.slice A0_0 l0_0.length c0_0,.int .i64 a0_1,.slice A0_2 l0_2.length c0_2] 31 (0,0)) (by (with_reducible repeat (first|refine Z8 ?_ _|refine Za ?_|refine Z9 ?_ _));exact BK169.out) hg (Kd.R_ne HO_4.out BK169.out (by decide)));have n2_:=Z0 (hb);have n3_:=Z0 (ho);clear HO_3;clear BK169;clear HB;clear HO_4;have HO_3:=n0_;have BK169:=n1_;have HB:=n2_;have HO188:=n3_;clear n0_ n1_ n2_ n3_;clear ho hb hg hat))
      go_roundg k2
      case measure=>have:=HK1.out;have:=HK2.out;omega
      case rel=>exact ⟨(y186),(wrap64 (x5_2 - 1)),(by first|rfl|(simp;done)|(simp [*];done)),H',⟨by have:=HK1.out;have:=HK2.out;omega⟩,⟨by (with_reducible repeat (first|apply Z3|apply Z2|apply Z4));exact Kd.R_mono HO_3.out (fun _ hk=>hk.2)⟩,⟨by (with_reducible repeat (first|apply Z3|apply Z2|apply Z4));exact HO188.out⟩,⟨by (with_reducible repeat (first|refine Z8 ?_ _|refine Za ?_|refine Z9 ?_ _));exact BK169.out⟩,⟨by repeat (first|(with_reducible first|exact HB.out|apply Z6|apply Z1|apply Z5|refine Z7 ?_ GE169.out)|exact HB.out)⟩⟩
     rw [if_neg c18] at H
     have c18b0 : decide (0 ≤ x5_2) = false:=decide_eq_false c18
     clear c18
     obtain ⟨y189,hy189⟩ : ∃ y_ : List Int,y_ = (([] : List Int)):=⟨_,rfl⟩
     replace H : (if y189.length + l0_0.length < 17592186044416 then (spec_SumEnd.l2 k2 y170 x4_2 (y189 ++ l0_0) 0) else (none)) = some r:=by first|(rw [hy189];with_reducible exact H)|(have H2_:=(Zg _ _).symm.trans H;rw [hy189];with_reducible exact H2_)|(have H2_:=(Zg _ _).symm.trans H;with_reducible exact H2_)|with_reducible exact H|(rw [hy189];exact H)|exact H
     have Ny189:=Z0 hy189
     clear hy189
     by_cases c25 : y189.length + l0_0.length < 17592186044416
     case neg =>
      rw [if_neg c25] at H
      exact absurd H (by simp)
     rw [if_pos c25] at H
     have LMc25:=Z0 c25
     clear c25
     obtain ⟨y192,hy192⟩ : ∃ y_ : List Int,y_ = (y189 ++ l0_0):=⟨_,rfl⟩
     replace H : (spec_SumEnd.l2 k2 y170 x4_2 y192 0) = some r:=by first|(rw [hy192];with_reducible exact H)|(have H2_:=(Zg _ _).symm.trans H;rw [hy192];with_reducible exact H2_)|(have H2_:=(Zg _ _).symm.trans H;with_reducible exact H2_)|with_reducible exact H|(rw [hy192];exact H)|exact H
     have Ny192:=Z0 hy192
     clear hy192
     have H':=Z0 H
     clear H
     go_wp2_with (first|((with_reducible refine gate_dst (N:=45) rfl ?_);refine Kd.R_lit (Kd.int .i64) _ 3 ?hg (N:=45) ?hd (xs:=([] : List Int)) (inner:=[]) (ok:=fun _=>True) (okp:=fun _=>True) ?hr ?hp (fun _ hk=>hk) trivial (Below.refl _ _) (Zk _) (by simp) ?_;(case hd=>rfl);(case hg=>rfl);(case hr=>first|(go_simp;done)|(go_simp;rfl));(case hp=>exact (Reps.none _ _));intro v190 w26 ho27 hb hg_ hnew_;clear hg_ hnew_;(first|rw [← Ny189.out] at ho27|(simp only [Int.reduceToNat] at ho27;rw [← Ny189.out] at ho27));have n0_:=Z0 (Kd.R_below (by (with_reducible repeat (first|apply Z3|apply Z2|apply Z4));exact HO_3.out) hb);have n1_:=Z0 (Kd.R_below (by (with_reducible repeat (first|apply Z3|apply Z2|apply Z4));exact HO_4.out) hb);have n2_:=Z0 (Kd.R_lower ho27 (Zb (by repeat (first|(with_reducible first|exact HB.out|apply Z6|apply Z1|apply Z5|refine Z7 ?_ GE169.out)|exact HB.out))));have n3_:=Z0 (blk_below (g:=gb169) (o:=.cells #[.slice A0_0 l0_0.length c0_0,.int .i64 a0_1,.slice A0_2 l0_2.length c0_2] 31 (0,0)) (by (with_reducible repeat (first|refine Z8 ?_ _|refine Za ?_|refine Z9 ?_ _));exact BK169.out) hb);have n4_:=Z0 (below_step (by repeat (first|(with_reducible first|exact HB.out|apply Z6|apply Z1|apply Z5|refine Z7 ?_ GE169.out)|exact HB.out)) hb);clear HO_3;clear HO_4;clear BK169;clear HB;have HO_3:=n0_;have HO_4:=n1_;have HO191:=n2_;have BK169:=n3_;have HB:=n4_;clear n0_ n1_ n2_ n3_ n4_;clear hb ho27;have hcz28_0 : w26.cell? ⟨gb169,0,none⟩ = some (.slice A0_0 l0_0.length c0_0):=(Ze BK169.out 0).trans rfl;have hcz28_1 : w26.cell? ⟨gb169,1,none⟩ = some (.int .i64 a0_1):=(Ze BK169.out 1).trans rfl;have hcz28_2 : w26.cell? ⟨gb169,2,none⟩ = some (.slice A0_2 l0_2.length c0_2):=(Ze BK169.out 2).trans rfl;have hfz28_0:=Zf BK169.out 0;have hfz28_1:=Zf BK169.out 1;have hfz28_2:=Zf BK169.out 2)|((with_reducible refine gate_builtin (b:=.append) (xs:=#[.tmp 45,.tmp 47]) rfl ?_);at_builtin;refine Kd.R_append_rows (Kd.int .i64) (w0:=w) w.heap.size rfl (.tmp 45) (.tmp 47) 29 3 (.int .i64 0) 8 rfl Try.underlying29 info3 rfl (by decide) (by omega) v190 y189 l0_0 _ _ _ (fun _=>True) (fun _=>False) rfl rfl ?aO ?aR (fun _ _ h=>h) (fun _ h=>h.elim) ?aF ?aB ?aS ?aL ?_;(case aR=>repeat (first|exact (Kd.C_below HR0_0.out HB.out)|(with_reducible refine Zd ?_ _)|(with_reducible refine Zc ?_ _)|(with_reducible refine Kd.C_drew ?_)));(case aB=>exact (by repeat (first|(with_reducible first|exact HB.out|apply Z6|apply Z1|apply Z5|refine Z7 ?_ GE169.out)|exact HB.out)));(case aF=>exact (fun _ _=>trivial));(case aO=>exact (by (with_reducible repeat (first|apply Z3|apply Z2|apply Z4));exact HO191.out));(case aS=>exact (Zb (by repeat (first|(with_reducible first|exact HB.out|apply Z6|apply Z1|apply Z5|refine Z7 ?_ GE169.out)|exact HB.out))));(case aL=>have:=LMc25.out;omega);intro v193 w29 ho hb hg hat;rw [← Ny192.out] at ho;have n0_:=Z0 (Kd.R_over' (by (with_reducible repeat (first|apply Z3|apply Z2|apply Z4));exact HO_3.out) (Kd.R_typed (by (with_reducible repeat (first|apply Z3|apply Z2|apply Z4));exact HO191.out)) (by decide) hg);have n1_:=Z0 (Kd.R_over' (by (with_reducible repeat (first|apply Z3|apply Z2|apply Z4));exact HO_4.out) (Kd.R_typed (by (with_reducible repeat (first|apply Z3|apply Z2|apply Z4));exact HO191.out)) (by decide) hg);have n2_:=Z0 (blk_grown (g:=gb169) (o:=.cells #[.slice A0_0 l0_0.length c0_0,.int .i64 a0_1,.slice A0_2 l0_2.length c0_2] 31 (0,0)) (by (with_reducible repeat (first|refine Z8 ?_ _|refine Za ?_|refine Z9 ?_ _));exact BK169.out) hg (Kd.R_ne HO191.out BK169.out (by decide)));have n3_:=Z0 (hb);have n4_:=Z0 (ho);clear HO_3;clear HO_4;clear BK169;clear HB;clear HO191;have HO_3:=n0_;have HO_4:=n1_;have BK169:=n2_;have HB:=n3_;have HO194:=n4_;clear n0_ n1_ n2_ n3_ n4_;clear ho hb hg hat))
     go_loopg [6,7] k2 (fun kq v6 v7 w'=>∃ (x6_3 : List Int) (x7_3 : Int),v7 = .int .i64 x7_3 ∧ Aside0 (spec_SumEnd.l2 kq y170 x4_2 x6_3 x7_3 = some r) ∧ Aside0 (kq ≤ k2) ∧ Aside0 (Kd.R (Kd.int .u8) 5 w' w.heap.size (fun k_=>some k_ ≠ (u4 : Value).ownBlock) v171 y170) ∧ Aside0 (Kd.R (Kd.int .u8) 5 w' w.heap.size (fun k_=>some k_ ≠ (v171 : Value).ownBlock) u4 x4_2) ∧ Aside0 (Kd.R (Kd.int .i64) 3 w' w.heap.size (fun _=>True) v6 x6_3) ∧ Aside0 (w'.heap[gb169]? = some (.cells #[(.slice A0_0 l0_0.length c0_0),.int .i64 a0_1,(.slice A0_2 l0_2.length c0_2)] 31 (0,0))) ∧ Aside0 (Below w.heap.size w w'))
     case atStart=>exact ⟨(y192),(0),(by first|rfl|(simp;done)|(simp [*];done)),H',⟨Zk _⟩,⟨by (with_reducible repeat (first|apply Z3|apply Z2|apply Z4));exact HO_3.out⟩,⟨by (with_reducible repeat (first|apply Z3|apply Z2|apply Z4));exact HO_4.out⟩,⟨by (with_reducible repeat (first|apply Z3|apply Z2|apply Z4));exact HO194.out⟩,⟨by (with_reducible repeat (first|refine Z8 ?_ _|refine Za ?_|refine Z9 ?_ _));exact BK169.out⟩,⟨by repeat (first|(with_reducible first|exact HB.out|apply Z6|apply Z1|apply Z5|refine Z7 ?_ GE169.out)|exact HB.out)⟩⟩
     case round =>
      clear H'
      (try clear c1);(try clear c2);(try clear p2);(try clear c3);(try clear c4);(try clear c5);(try clear p6);(try clear c14);(try clear c16);(try clear c16b0);(try clear c16b1);(try clear c18);(try clear c18b0);(try clear c20);(try clear c20b0);(try clear c20b1);(try clear c22);(try clear c25);(try clear hcz13_0);(try clear hcz13_1);(try clear hcz13_2);(try clear hcz23_0);(try clear hcz23_1);(try clear hcz23_2);(try clear hcz28_0);(try clear hcz28_1);(try clear hcz28_2);(try clear hcz9_0);(try clear hcz9_1);(try clear hcz9_2);(try clear hfz13_0);(try clear hfz13_1);(try clear hfz13_2);(try clear hfz23_0);(try clear hfz23_1);(try clear hfz23_2);(try clear hfz28_0);(try clear hfz28_1);(try clear hfz28_2);(try clear hfz9_0);(try clear hfz9_1);(try clear hfz9_2);(try clear p2);(try clear p6)
      obtain ⟨x6_3,x7_3,rfl,HA,HK3,HO_3,HO_4,HO_6,BK169,HB⟩:=hrel
      cases gk with
      | zero=>exact absurd HA.out (by simp [spec_SumEnd.l2])
      | succ k3 =>
       have H:=HA.out
       clear HA
       simp only [spec_SumEnd.l2] at H
       by_cases c30 : x7_3 < (x4_2.length : Int)
       case pos =>
        rw [if_pos c30] at H
        have c30b0 : decide (x7_3 < (x4_2.length : Int)) = true:=decide_eq_true c30
        clear c30
        by_cases c31 : 0 ≤ x7_3
        case neg =>
         rw [if_neg c31] at H
         exact absurd H (by simp)
        rw [if_pos c31] at H
        have c31b0:=eq_true c31
        have c31b1 : decide (0 ≤ x7_3) = true:=decide_eq_true c31
        clear c31
        by_cases c32 : x7_3 ≤ (wrap64 (x7_3 + 64))
        case neg =>
         rw [if_neg c32] at H
         exact absurd H (by simp)
        rw [if_pos c32] at H
        have c32b0:=eq_true c32
        have c32b1 : decide (x7_3 ≤ (wrap64 (x7_3 + 64))) = true:=decide_eq_true c32
        by_cases c33 : (wrap64 (x7_3 + 64)) ≤ (x4_2.length : Int)
        case neg =>
         rw [if_neg c33] at H
         exact absurd H (by simp)
        rw [if_pos c33] at H
        have c33b0:=eq_true c33
        have c33b1 : decide ((wrap64 (x7_3 + 64)) ≤ (x4_2.length : Int)) = true:=decide_eq_true c33
        obtain ⟨y195,hy195⟩ : ∃ y_ : List Int,y_ = ((x4_2.take ((wrap64 (x7_3 + 64)) : Int).toNat).drop (x7_3 : Int).toNat):=⟨_,rfl⟩
        replace H : ((spec_l7Block.f k3 x6_3 y195).bind fun t199=>(spec_SumEnd.l2 k3 y170 x4_2 t199 (wrap64 (x7_3 + 64)))) = some r:=by first|(rw [hy195];with_reducible exact H)|(have H2_:=(Zg _ _).symm.trans H;rw [hy195];with_reducible exact H2_)|(have H2_:=(Zg _ _).symm.trans H;with_reducible exact H2_)|with_reducible exact H|(rw [hy195];exact H)|exact H
        have Ny195:=Z0 hy195
        clear hy195
        replace H:=Option.bind_eq_some_iff.mp H
        obtain ⟨t199,A340,H⟩:=H
        replace H : (spec_SumEnd.l2 k3 y170 x4_2 t199 (wrap64 (x7_3 + 64))) = some r:=H
        have A34:=Z0 A340
        clear A340
        have H':=Z0 H
        clear H
        obtain ⟨Ao35,co35,eo35⟩:=Kd.R_slice HO_4.out
        subst eo35
        have q36 : ((wrap64 (x7_3 + 64)) : Int) ≤ ((x4_2.length : Int) : Int):=of_decide_eq_true (by first|(with_reducible assumption)|assumption)
        obtain ⟨i036,hi036,_,hsz36,_⟩:=info_parts info5
        have hroom36 : x4_2.length ≤ co35:=(Kd.R_reads' HO_4.out).2.1
        have hC36 : Kd.C (Kd.int .u8) _ Ao35 x4_2.length x4_2:=(Kd.R_reads' HO_4.out).2.2
        have ql36 : (x7_3 : Int) ≤ ((wrap64 (x7_3 + 64)) : Int):=of_decide_eq_true (by first|(with_reducible assumption)|assumption)
        have q036 : (0 : Int) ≤ (x7_3 : Int):=of_decide_eq_true (by first|(with_reducible assumption)|assumption)
        have hcut36:=cut_mid (P:=Try.prog) 22 5 .i64 .i64 Try.underlying22 hi036 1 hsz36 Ao35 x4_2.length co35 x7_3 (wrap64 (x7_3 + 64)) q036 ql36 q36 hroom36
        have hr36:=Kd.C_mid (lo:=(x7_3 : Int).toNat) (hi:=((wrap64 (x7_3 + 64)) : Int).toNat) (c:=co35) hC36 (by omega) (by omega) hroom36
        obtain ⟨A36,hA36⟩ : ∃ A1,A1 = (if co35 = (x7_3 : Int).toNat then Ao35 else (Ao35 : Option Addr).map (·.add ((x7_3 : Int).toNat * 1))):=⟨_,rfl⟩
        obtain ⟨c36,hc36⟩ : ∃ c1,c1 = co35 - (x7_3 : Int).toNat:=⟨_,rfl⟩
        have hy36 : y195.length = ((wrap64 (x7_3 + 64)) : Int).toNat - (x7_3 : Int).toNat:=(by rw [Ny195.out,Zh,Zi]<;>omega)
        rw [show ((x4_2).take ((wrap64 (x7_3 + 64)) : Int).toNat).drop (x7_3 : Int).toNat = y195 from Ny195.out.symm] at hr36
        replace hr36 : Kd.C (Kd.int .u8) _ A36 y195.length y195:=(by rw [hA36];exact hr36)
        rw [← hy36,← hA36,← hc36] at hcut36
        have HR198:=Z0 hr36
        have HC198:=Z0 (show y195.length ≤ c36 from by rw [hy36,hc36];exact Nat.sub_le_sub_right (Nat.le_trans (by omega) hroom36) _)
        clear hr36 hC36 hroom36 hi036 hsz36 hc36
        have KY36:=Z0 hy36
        have KA36:=Z0 hA36
        clear hy36 hA36
        have KL36:=Z0 (show ((wrap64 (x7_3 + 64)) : Int).toNat ≤ x4_2.length from by omega)
        have KM36:=Z0 (show (x7_3 : Int).toNat ≤ ((wrap64 (x7_3 + 64)) : Int).toNat from by omega)
        replace q36:=eq_true q36
        obtain ⟨Ao37,co37,eo37⟩:=Kd.R_slice HO_6.out
        subst eo37
        go_wp2_with (first|((with_reducible refine gate_callee (f:=21) rfl ?_);refine goesL_ (some 61) rfl rfl Try.func21 (by kernel_rfl) rfl #[.slice Ao37 x6_3.length co37,.slice A36 y195.length c36] rfl (by (try simp only [Zj,List.map_cons,List.map_nil]);first|done|rfl|(simp only [Zh,Zi];rfl)) ?_;(with_reducible refine (spec_l7Block.calls k3 _ _ x6_3 _ _ y195 t199 _ ?side1 ?side2 ?side3 ?side4 A34.out).mono ?_);(case side1=>repeat (first|exact (Kd.R_reads' HO_6.out).2.2|(with_reducible refine Zd ?_ _)|(with_reducible refine Zc ?_ _)|(with_reducible refine Kd.C_drew ?_)));(case side2=>exact (Kd.R_reads' HO_6.out).2.1);(case side3=>repeat (first|exact (by repeat (first|(with_reducible exact HR198.out)|(with_reducible refine Zd ?_ _)|(with_reducible refine Zc ?_ _)|(with_reducible refine Kd.C_drew ?_)|exact HR198.out))|(with_reducible refine Zd ?_ _)|(with_reducible refine Zc ?_ _)|(with_reducible refine Kd.C_drew ?_)));(case side4=>exact HC198.out);rintro e w38 ⟨v200,rfl,ho0,hb⟩;refine ⟨_,rfl,?_⟩;have n0_:=Z0 (Kd.R_below (by (with_reducible repeat (first|apply Z3|apply Z2|apply Z4));exact HO_3.out) hb);have n1_:=Z0 (Kd.R_below (by (with_reducible repeat (first|apply Z3|apply Z2|apply Z4));exact HO_4.out) hb);have n2_:=Z0 (Kd.R_elder' (by (with_reducible repeat (first|apply Z3|apply Z2|apply Z4));exact HO_6.out) (Kd.R_base ho0) hb);have n3_:=Z0 (Kd.R_lower (Kd.R_new' ho0 (Kd.R_lt (by (with_reducible repeat (first|apply Z3|apply Z2|apply Z4));exact HO_6.out))) (Zb (by repeat (first|(with_reducible first|exact HB.out|apply Z6|apply Z1|apply Z5|refine Z7 ?_ GE169.out)|exact HB.out))));have n4_:=Z0 (blk_below (g:=gb169) (o:=.cells #[.slice A0_0 l0_0.length c0_0,.int .i64 a0_1,.slice A0_2 l0_2.length c0_2] 31 (0,0)) (by (with_reducible repeat (first|refine Z8 ?_ _|refine Za ?_|refine Z9 ?_ _));exact BK169.out) hb);have n5_:=Z0 (Kd.C_below (by repeat (first|(with_reducible exact HR198.out)|(with_reducible refine Zd ?_ _)|(with_reducible refine Zc ?_ _)|(with_reducible refine Kd.C_drew ?_)|exact HR198.out)) hb);have n6_:=Z0 (below_step (by repeat (first|(with_reducible first|exact HB.out|apply Z6|apply Z1|apply Z5|refine Z7 ?_ GE169.out)|exact HB.out)) hb);clear HO_3;clear HO_4;clear HO_6;clear BK169;clear HR198;clear HB;have HO_3:=n0_;have HO_4:=n1_;have HO_6:=n2_;have HO201:=n3_;have BK169:=n4_;have HR198:=n5_;have HB:=n6_;clear n0_ n1_ n2_ n3_ n4_ n5_ n6_;(try clear hb);(try clear hb2);(try clear hk);(try clear hi);(try clear ho0)))
        go_roundg k3
        case measure=>have:=HK1.out;have:=HK2.out;have:=HK3.out;omega
        case rel=>exact ⟨(t199),(wrap64 (x7_3 + 64)),(by first|rfl|(simp;done)|(simp [*];done)),H',⟨by have:=HK1.out;have:=HK2.out;have:=HK3.out;omega⟩,⟨by (with_reducible repeat (first|apply Z3|apply Z2|apply Z4));exact HO_3.out⟩,⟨by (with_reducible repeat (first|apply Z3|apply Z2|apply Z4));exact HO_4.out⟩,⟨by (with_reducible repeat (first|apply Z3|apply Z2|apply Z4));exact Kd.R_mono HO201.out (fun _ hk=>trivial)⟩,⟨by (with_reducible repeat (first|refine Z8 ?_ _|refine Za ?_|refine Z9 ?_ _));exact BK169.out⟩,⟨by repeat (first|(with_reducible first|exact HB.out|apply Z6|apply Z1|apply Z5|refine Z7 ?_ GE169.out)|exact HB.out)⟩⟩
       rw [if_neg c30] at H
       have c30b0 : decide (x7_3 < (x4_2.length : Int)) = false:=decide_eq_false c30
       clear c30
       have H':=Z0 H
       clear H
       obtain ⟨Ao39,co39,eo39⟩:=Kd.R_slice HO_4.out
       subst eo39
       go_wp2
       go_loopg [3,8] k3 (fun kq v3 v8 w'=>∃ (x3_4 : List Int) (x8_4 : Int),v8 = .int .i64 x8_4 ∧ Aside0 (spec_SumEnd.l3 kq x3_4 x6_3 x8_4 = some r) ∧ Aside0 (kq ≤ k3) ∧ Aside0 (Kd.R (Kd.int .u8) 5 w' w.heap.size (fun _=>True) v3 x3_4) ∧ Aside0 (Kd.R (Kd.int .i64) 3 w' w.heap.size (fun _=>True) u6 x6_3) ∧ Aside0 (w'.heap[gb169]? = some (.cells #[(.slice A0_0 l0_0.length c0_0),.int .i64 a0_1,(.slice A0_2 l0_2.length c0_2)] 31 (0,0))) ∧ Aside0 (Below w.heap.size w w'))
       case atStart=>exact ⟨(y170),(0),(by first|rfl|(simp;done)|(simp [*];done)),H',⟨Zk _⟩,⟨by (with_reducible repeat (first|apply Z3|apply Z2|apply Z4));exact Kd.R_mono HO_3.out (fun _ hk=>trivial)⟩,⟨by (with_reducible repeat (first|apply Z3|apply Z2|apply Z4));exact HO_6.out⟩,⟨by (with_reducible repeat (first|refine Z8 ?_ _|refine Za ?_|refine Z9 ?_ _));exact BK169.out⟩,⟨by repeat (first|(with_reducible first|exact HB.out|apply Z6|apply Z1|apply Z5|refine Z7 ?_ GE169.out)|exact HB.out)⟩⟩
       case round =>
        clear H'
        (try clear c1);(try clear c2);(try clear p2);(try clear c3);(try clear q3);(try clear c4);(try clear c5);(try clear p6);(try clear c14);(try clear c16);(try clear c16b0);(try clear c16b1);(try clear c18);(try clear c18b0);(try clear c20);(try clear c20b0);(try clear c20b1);(try clear c21);(try clear c22);(try clear c25);(try clear c30);(try clear c30b0);(try clear c31);(try clear c31b0);(try clear c31b1);(try clear c32);(try clear c32b0);(try clear c32b1);(try clear c33);(try clear c33b0);(try clear c33b1);(try clear c36);(try clear q36);(try clear hcz13_0);(try clear hcz13_1);(try clear hcz13_2);(try clear hcz23_0);(try clear hcz23_1);(try clear hcz23_2);(try clear hcz28_0);(try clear hcz28_1);(try clear hcz28_2);(try clear hcz9_0);(try clear hcz9_1);(try clear hcz9_2);(try clear hfz13_0);(try clear hfz13_1);(try clear hfz13_2);(try clear hfz23_0);(try clear hfz23_1);(try clear hfz23_2);(try clear hfz28_0);(try clear hfz28_1);(try clear hfz28_2);(try clear hfz9_0);(try clear hfz9_1);(try clear hfz9_2);(try clear p2);(try clear p6);(try clear q036);(try clear q36)
        obtain ⟨x3_4,x8_4,rfl,HA,HK4,HO_3,HO_6,BK169,HB⟩:=hrel
        cases gk with
        | zero=>exact absurd HA.out (by simp [spec_SumEnd.l3])
        | succ k4 =>
         have H:=HA.out
         clear HA
         simp only [spec_SumEnd.l3] at H
         by_cases c40 : x8_4 < 8
         case neg =>
          rw [if_neg c40] at H
          have c40b0 : decide (x8_4 < 8) = false:=decide_eq_false c40
          clear c40
          obtain rfl:=Option.some.inj H
          go_wp2
          go_ret
          exact ⟨_,by first|rfl|(simp [errW_none,errW_some]<;>rfl)|(simp [*,errW_none,errW_some]<;>rfl),by (with_reducible repeat (first|apply Z3|apply Z2|apply Z4));exact HO_3.out,by repeat (first|(with_reducible first|exact HB.out|apply Z6|apply Z1|apply Z5|refine Z7 ?_ GE169.out)|exact HB.out)⟩
         rw [if_pos c40] at H
         have c40b0 : decide (x8_4 < 8) = true:=decide_eq_true c40
         clear c40
         have H':=Z0 H
         clear H
         go_wp2
         go_loopg [3,9] k4 (fun kq v3 v9 w'=>∃ (x3_5 : List Int) (x9_5 : Int),v9 = .int .i64 x9_5 ∧ Aside0 (spec_SumEnd.l4 kq x3_5 x6_3 x8_4 x9_5 = some r) ∧ Aside0 (kq ≤ k4) ∧ Aside0 (Kd.R (Kd.int .u8) 5 w' w.heap.size (fun _=>True) v3 x3_5) ∧ Aside0 (Kd.R (Kd.int .i64) 3 w' w.heap.size (fun _=>True) u6 x6_3) ∧ Aside0 (w'.heap[gb169]? = some (.cells #[(.slice A0_0 l0_0.length c0_0),.int .i64 a0_1,(.slice A0_2 l0_2.length c0_2)] 31 (0,0))) ∧ Aside0 (Below w.heap.size w w'))
         case atStart=>exact ⟨(x3_4),(3),(by first|rfl|(simp;done)|(simp [*];done)),H',⟨Zk _⟩,⟨by (with_reducible repeat (first|apply Z3|apply Z2|apply Z4));exact HO_3.out⟩,⟨by (with_reducible repeat (first|apply Z3|apply Z2|apply Z4));exact HO_6.out⟩,⟨by (with_reducible repeat (first|refine Z8 ?_ _|refine Za ?_|refine Z9 ?_ _));exact BK169.out⟩,⟨by repeat (first|(with_reducible first|exact HB.out|apply Z6|apply Z1|apply Z5|refine Z7 ?_ GE169.out)|exact HB.out)⟩⟩
         case round =>
          clear H'
          (try clear c1);(try clear c2);(try clear p2);(try clear c3);(try clear q3);(try clear c4);(try clear c5);(try clear p6);(try clear c14);(try clear c16);(try clear c16b0);(try clear c16b1);(try clear c18);(try clear c18b0);(try clear c20);(try clear c20b0);(try clear c20b1);(try clear c21);(try clear c22);(try clear c25);(try clear c30);(try clear c30b0);(try clear c31);(try clear c31b0);(try clear c31b1);(try clear c32);(try clear c32b0);(try clear c32b1);(try clear c33);(try clear c33b0);(try clear c33b1);(try clear c36);(try clear q36);(try clear c40);(try clear c40b0);(try clear hcz13_0);(try clear hcz13_1);(try clear hcz13_2);(try clear hcz23_0);(try clear hcz23_1);(try clear hcz23_2);(try clear hcz28_0);(try clear hcz28_1);(try clear hcz28_2);(try clear hcz9_0);(try clear hcz9_1);(try clear hcz9_2);(try clear hfz13_0);(try clear hfz13_1);(try clear hfz13_2);(try clear hfz23_0);(try clear hfz23_1);(try clear hfz23_2);(try clear hfz28_0);(try clear hfz28_1);(try clear hfz28_2);(try clear hfz9_0);(try clear hfz9_1);(try clear hfz9_2);(try clear p2);(try clear p6);(try clear q036);(try clear q3);(try clear q36)
          obtain ⟨x3_5,x9_5,rfl,HA,HK5,HO_3,HO_6,BK169,HB⟩:=hrel
          cases gk with
          | zero=>exact absurd HA.out (by simp [spec_SumEnd.l4])
          | succ k5 =>
           have H:=HA.out
           clear HA
           simp only [spec_SumEnd.l4] at H
           by_cases c41 : x9_5 ≥ 0
           case neg =>
            rw [if_neg c41] at H
            have c41b0 : decide (0 ≤ x9_5) = false:=decide_eq_false c41
            clear c41
            have H':=Z0 H
            clear H
            go_wp2
            go_roundg k5
            case measure=>have:=HK1.out;have:=HK2.out;have:=HK3.out;have:=HK4.out;have:=HK5.out;omega
            case rel=>exact ⟨(x3_5),(wrap64 (x8_4 + 1)),(by first|rfl|(simp;done)|(simp [*];done)),H',⟨by have:=HK1.out;have:=HK2.out;have:=HK3.out;have:=HK4.out;have:=HK5.out;omega⟩,⟨by (with_reducible repeat (first|apply Z3|apply Z2|apply Z4));exact HO_3.out⟩,⟨by (with_reducible repeat (first|apply Z3|apply Z2|apply Z4));exact HO_6.out⟩,⟨by (with_reducible repeat (first|refine Z8 ?_ _|refine Za ?_|refine Z9 ?_ _));exact BK169.out⟩,⟨by repeat (first|(with_reducible first|exact HB.out|apply Z6|apply Z1|apply Z5|refine Z7 ?_ GE169.out)|exact HB.out)⟩⟩
           rw [if_pos c41] at H
           have c41b0 : decide (0 ≤ x9_5) = true:=decide_eq_true c41
           clear c41
           by_cases c42 : 0 ≤ x8_4
           case neg =>
            rw [if_neg c42] at H
            exact absurd H (by simp)
           rw [if_pos c42] at H
           have c42b0 : decide (0 ≤ x8_4) = true:=decide_eq_true c42
           clear c42
           by_cases c43 : x8_4 < (x6_3.length : Int)
           case neg =>
            rw [if_neg c43] at H
            exact absurd H (by simp)
           rw [if_pos c43] at H
           have c43b0 : decide (x8_4 < (x6_3.length : Int)) = true:=decide_eq_true c43
           clear c43
           obtain ⟨ji44,hji44⟩ : ∃ j_ : Int,(IntKind.u64.wrap (wrap64 (8 * x9_5))) = j_:=⟨_,rfl⟩
           replace H : (if 0 ≤ (ji44) then (if x3_5.length < 140737488355328 then (spec_SumEnd.l4 k5 (x3_5 ++ [(Go.bits .and .i64 (shr .i64 (rd x6_3 x8_4) (ji44)) 255) % 256]) x6_3 x8_4 (wrap64 (x9_5 - 1))) else (none)) else (none)) = some r:=by first|(rw [hji44] at H;exact H)|(simp only [hji44] at H ⊢;exact H)
           by_cases c45 : 0 ≤ (ji44)
           case neg =>
            rw [if_neg c45] at H
            exact absurd H (by simp)
           rw [if_pos c45] at H
           have c45b0:=eq_true c45
           have c45b1 : decide (0 ≤ (ji44)) = true:=decide_eq_true c45
           clear c45
           obtain ⟨ji46,hji46⟩ : ∃ j_ : Int,(shr .i64 (rd x6_3 x8_4) (ji44)) = j_:=⟨_,rfl⟩
           replace H : (if x3_5.length < 140737488355328 then (spec_SumEnd.l4 k5 (x3_5 ++ [(Go.bits .and .i64 (ji46) 255) % 256]) x6_3 x8_4 (wrap64 (x9_5 - 1))) else (none)) = some r:=by first|(rw [hji46] at H;exact H)|(simp only [hji46] at H ⊢;exact H)
           have hji46_ : ((rd x6_3 x8_4) / 2 ^ min (ji44).toNat 64) = ji46:=hji46
           have hji46z : (ji44) ≤ 64 → ((rd x6_3 x8_4) / 2 ^ (ji44).toNat) = ji46:=shr_small hji46
           by_cases c47 : x3_5.length < 140737488355328
           case neg =>
            rw [if_neg c47] at H
            exact absurd H (by simp)
           rw [if_pos c47] at H
           have LMc47:=Z0 c47
           clear c47
           obtain ⟨y203,hy203⟩ : ∃ y_ : List Int,y_ = (x3_5 ++ [(Go.bits .and .i64 (ji46) 255) % 256]):=⟨_,rfl⟩
           replace H : (spec_SumEnd.l4 k5 y203 x6_3 x8_4 (wrap64 (x9_5 - 1))) = some r:=by first|(rw [hy203];with_reducible exact H)|(have H2_:=(Zg _ _).symm.trans H;rw [hy203];with_reducible exact H2_)|(have H2_:=(Zg _ _).symm.trans H;with_reducible exact H2_)|with_reducible exact H|(rw [hy203];exact H)|exact H
           have Ny203:=Z0 hy203
           clear hy203
           have H':=Z0 H
           clear H
           obtain ⟨Ao48,co48,eo48⟩:=Kd.R_slice HO_6.out
           subst eo48
           have p202 : 0 ≤ (x8_4 : Int):=of_decide_eq_true (by first|(with_reducible assumption)|assumption)
           have q202 : x8_4 < (x6_3.length : Int):=of_decide_eq_true (by first|(with_reducible assumption)|assumption)
           obtain ⟨ad202,e202,hx202_0⟩:=Kd.at_int (Kd.R_reads' HO_6.out).2.2 x8_4 p202 q202
           cases e202
           replace p202:=eq_true p202
           replace q202:=eq_true q202
           go_wp2_with (first|((with_reducible refine gate_builtin (b:=.append) (xs:=#[.tmp 70,.tmp 81]) rfl ?_);at_builtin;refine Kd.R_append (Kd.int .u8) (w0:=w) w.heap.size rfl (.tmp 70) (.tmp 81) 22 5 (.int .u8 0) 1 rfl Try.underlying22 info5 rfl (by decide) (by omega) u3 x3_5 ((Go.bits .and .i64 (ji46) 255) % 256) [.int .u8 ((Go.bits .and .i64 (ji46) 255) % 256)] (fun _=>True) (fun _=>False) rfl rfl ?aP (fun _ hk=>hk.elim) ?aF ?aO ?aB ?aS ?aL ?_;(case aP=>exact rfl);(case aB=>exact (by repeat (first|(with_reducible first|exact HB.out|apply Z6|apply Z1|apply Z5|refine Z7 ?_ GE169.out)|exact HB.out)));(case aF=>exact (fun _ _=>trivial));(case aO=>exact (by (with_reducible repeat (first|apply Z3|apply Z2|apply Z4));exact HO_3.out));(case aS=>exact (Zb (by repeat (first|(with_reducible first|exact HB.out|apply Z6|apply Z1|apply Z5|refine Z7 ?_ GE169.out)|exact HB.out))));(case aL=>have:=LMc47.out;omega);intro v204 w49 ho hb hg hat;rw [← Ny203.out] at ho;have n0_:=Z0 (Kd.R_over' (by (with_reducible repeat (first|apply Z3|apply Z2|apply Z4));exact HO_6.out) (Kd.R_typed (by (with_reducible repeat (first|apply Z3|apply Z2|apply Z4));exact HO_3.out)) (by decide) hg);have n1_:=Z0 (blk_grown (g:=gb169) (o:=.cells #[.slice A0_0 l0_0.length c0_0,.int .i64 a0_1,.slice A0_2 l0_2.length c0_2] 31 (0,0)) (by (with_reducible repeat (first|refine Z8 ?_ _|refine Za ?_|refine Z9 ?_ _));exact BK169.out) hg (Kd.R_ne HO_3.out BK169.out (by decide)));have n2_:=Z0 (hb);have n3_:=Z0 (ho);clear HO_6;clear BK169;clear HB;clear HO_3;have HO_6:=n0_;have BK169:=n1_;have HB:=n2_;have HO205:=n3_;clear n0_ n1_ n2_ n3_;clear ho hb hg hat))
           go_roundg k5
           case measure=>have:=HK1.out;have:=HK2.out;have:=HK3.out;have:=HK4.out;have:=HK5.out;omega
           case rel=>exact ⟨(y203),(wrap64 (x9_5 - 1)),(by first|rfl|(simp;done)|(simp [*];done)),H',⟨by have:=HK1.out;have:=HK2.out;have:=HK3.out;have:=HK4.out;have:=HK5.out;omega⟩,⟨by (with_reducible repeat (first|apply Z3|apply Z2|apply Z4));exact HO205.out⟩,⟨by (with_reducible repeat (first|apply Z3|apply Z2|apply Z4));exact HO_6.out⟩,⟨by (with_reducible repeat (first|refine Z8 ?_ _|refine Za ?_|refine Z9 ?_ _));exact BK169.out⟩,⟨by repeat (first|(with_reducible first|exact HB.out|apply Z6|apply Z1|apply Z5|refine Z7 ?_ GE169.out)|exact HB.out)⟩⟩

end Go.Proofs.Ytpkfmjdmfphbaag.QFnExactMac
