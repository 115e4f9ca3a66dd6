/- Plain functions with the same answers as the program's, and the proofs that they are. Printed by a program of this session (wip/myprint.py) out of Lean's print of the loaded program. Conditions: those in each theorem's head. -/
import Derived.Test.YtpkfmjdmfphbaagQFnExactMacx0
import Derived.Test.YtpkfmjdmfphbaagQFnExactMacx6
import Derived.Test.YtpkfmjdmfphbaagQFnExactMacx9
import Derived.Test.YtpkfmjdmfphbaagQFnExactMacx10
namespace Go.Proofs.Ytpkfmjdmfphbaag.QFnExactMac
open Go.RowKit Go.Proofs.Ytpkfmjdmfphbaag.Given Go.Proofs.YtpkfmjdmfphbaagW.PrintWords Go.Proofs.YtpkfmjdmfphbaagW.PrintLast Go.Proofs.YtpkfmjdmfphbaagW.PrintMore
open Go.Proofs.YtpkfmjdmfphbaagW.PrintWords.Aside0 renaming mk → Z0
open Go.Proofs.YtpkfmjdmfphbaagW.PrintWords renaming pw_below_drewN → Z1, below_drew1 → Z5, below_alloc → Z6, below_size → Z8, below_step → Zg, gate_callee → Zi
open Go.Proofs.YtpkfmjdmfphbaagW.PrintWords.Kd renaming R_drewN → Z2, R_alloc → Z3, R_drew → Z4, R_reads' → Z7, C_drewN → Z9, C_alloc → Za, C_drew → Zb, R_elder' → Zc, R_new' → Zd, R_base → Ze, R_lt → Zf, R_lower → Zh, R_mono → Zj
open Option renaming bind_some → Zk
open List renaming length_drop → Zl, length_take → Zm, map_toArray → Zn, map_cons → Zo, map_nil → Zp
open Nat renaming le_refl → Zq
open Go.RowKit.Below renaming refl → Zr
attribute [local go_sem] max2_int min2_int max_two min_two max_three min_three max_four min_four   -- for this text's walks alone
set_option linter.unusedVariables false
set_option linter.unusedSimpArgs false

/-! ### impl_firstWords: function 27 -/
def impl_firstWords.f  : Option (List Int) := some (([1779033703, 3144134277, 1013904242, 2773480762, 1359893119, 2600822924, 528734635, 1541459225] : List Int))
set_option maxHeartbeats 8000000 in
set_option maxRecDepth 100000 in
theorem impl_firstWords.calls  (r : List Int) (w : World) (h : impl_firstWords.f  = some r) :
 Calls Try.prog 27 #[] w fun e w' => ∃ v0_ : Value, e = .returned (v0_) ∧ Kd.R (Kd.int .i64) 3 w' w.heap.size (fun _ => True) v0_ r ∧ Below w.heap.size w w' := by
 have HB:=Z0 (Zr w.heap.size w)
 have H : (some (([1779033703,3144134277,1013904242,2773480762,1359893119,2600822924,528734635,1541459225] : List Int))) = some r:=h
 clear h
 obtain ⟨y485,hy485⟩ : ∃ y_ : List Int,y_ = (([1779033703,3144134277,1013904242,2773480762,1359893119,2600822924,528734635,1541459225] : List Int)):=⟨_,rfl⟩
 replace H : (some y485) = some r:=by first|(rw [hy485];with_reducible exact H)|(have H2_:=(Zk _ _).symm.trans H;rw [hy485];with_reducible exact H2_)|(have H2_:=(Zk _ _).symm.trans H;with_reducible exact H2_)|with_reducible exact H|(rw [hy485];exact H)|exact H
 have Ny485:=Z0 hy485
 clear hy485
 obtain rfl:=Option.some.inj H
 go_enter Try.func27,Try.ntmps27
 go_wp2_with (first|((with_reducible refine gate_dst (N:=1) rfl ?_);refine Kd.R_lit (Kd.int .i64) _ 3 ?hg (N:=1) ?hd (xs:=([1779033703,3144134277,1013904242,2773480762,1359893119,2600822924,528734635,1541459225] : List Int)) (inner:=[.int .i64 1779033703,.int .i64 3144134277,.int .i64 1013904242,.int .i64 2773480762,.int .i64 1359893119,.int .i64 2600822924,.int .i64 528734635,.int .i64 1541459225]) (ok:=fun _=>True) (okp:=fun _=>True) ?hr ?hp (fun _ hk=>hk) trivial (Zr _ _) (Zq _) (by simp) ?_;(case hd=>rfl);(case hg=>rfl);(case hr=>first|(go_simp;done)|(go_simp;rfl));(case hp=>exact (Reps.one (show Kd.M (Kd.int .i64) _ _ _ 1779033703 [.int .i64 1779033703] from rfl) (Reps.one (show Kd.M (Kd.int .i64) _ _ _ 3144134277 [.int .i64 3144134277] from rfl) (Reps.one (show Kd.M (Kd.int .i64) _ _ _ 1013904242 [.int .i64 1013904242] from rfl) (Reps.one (show Kd.M (Kd.int .i64) _ _ _ 2773480762 [.int .i64 2773480762] from rfl) (Reps.one (show Kd.M (Kd.int .i64) _ _ _ 1359893119 [.int .i64 1359893119] from rfl) (Reps.one (show Kd.M (Kd.int .i64) _ _ _ 2600822924 [.int .i64 2600822924] from rfl) (Reps.one (show Kd.M (Kd.int .i64) _ _ _ 528734635 [.int .i64 528734635] from rfl) (Reps.one (show Kd.M (Kd.int .i64) _ _ _ 1541459225 [.int .i64 1541459225] from rfl) (Reps.none _ _))))))))));intro v486 w1 ho2 hb hg_ hnew_;clear hg_ hnew_;(first|rw [← Ny485.out] at ho2|(simp only [Int.reduceToNat] at ho2;rw [← Ny485.out] at ho2));have n0_:=Z0 (Zh ho2 (Z8 (by repeat (first|(with_reducible first|exact HB.out|apply Z6|apply Z1|apply Z5)|exact HB.out))));have n1_:=Z0 (Zg (by repeat (first|(with_reducible first|exact HB.out|apply Z6|apply Z1|apply Z5)|exact HB.out)) hb);clear HB;have HO487:=n0_;have HB:=n1_;clear n0_ n1_;clear hb ho2))
 go_ret
 exact ⟨_,by first|rfl|(simp [errW_none,errW_some]<;>rfl)|(simp [*,errW_none,errW_some]<;>rfl),by (with_reducible repeat (first|apply Z3|apply Z2|apply Z4));exact HO487.out,by repeat (first|(with_reducible first|exact HB.out|apply Z6|apply Z1|apply Z5)|exact HB.out)⟩

/-! ### impl_SumNew: function 19 -/
def impl_SumNew.f  : Option (List Int × Int × List Int) := (impl_firstWords.f).bind fun t489 => (some (t489, 0, ([] : List Int)))
set_option maxHeartbeats 8000000 in
set_option maxRecDepth 100000 in
theorem impl_SumNew.calls  (r1 : List Int) (r2 : Int) (r3 : List Int) (w : World) (h : impl_SumNew.f  = some (r1, r2, r3)) :
 Calls Try.prog 19 #[] w fun e w' => ∃ v0_ v2_ : Value, e = .returned (.agg #[v0_, .int .i64 r2, v2_]) ∧ Kd.R (Kd.int .i64) 3 w' w.heap.size (fun _ => True) v0_ r1 ∧ Kd.R (Kd.int .u8) 5 w' w.heap.size (fun _ => True) v2_ r3 ∧ Below w.heap.size w w' := by
 have hu31:=Try.underlying31
 have HB:=Z0 (Zr w.heap.size w)
 have H : ((impl_firstWords.f).bind fun t489=>(some (t489,0,([] : List Int)))) = some (r1,r2,r3):=h
 clear h
 replace H:=Option.bind_eq_some_iff.mp H
 obtain ⟨t489,A10,H⟩:=H
 replace H : (some (t489,0,([] : List Int))) = some (r1,r2,r3):=H
 have A1:=Z0 A10
 clear A10
 simp only [Option.some.injEq,Prod.mk.injEq] at H
 obtain ⟨rfl,rfl,rfl⟩:=H
 go_enter Try.func19,Try.ntmps19
 go_wp2_with (first|((with_reducible refine gate_dst (N:=0) rfl ?_);refine box_event ?hg (N:=0) ?hd (cs:=#[.slice none 0 0,.int .i64 0,.slice none 0 0]) (t:=31) ?hr ?_;(case hd=>rfl);(case hg=>rfl);(case hr=>first|(go_simp;done)|(go_simp;rfl));intro gb488 hg w2 hbox hb;have n0_:=Z0 (Zg (by repeat (first|(with_reducible first|exact HB.out|apply Z6|apply Z1|apply Z5)|exact HB.out)) hb);have n1_:=Z0 (hbox);have n2_:=Z0 ((by rw [hg];exact (Z8 (by repeat (first|(with_reducible first|exact HB.out|apply Z6|apply Z1|apply Z5)|exact HB.out))) : w.heap.size ≤ gb488));have n3_:=Z0 ((by rw [hg];exact (Z8 (by repeat (first|(with_reducible first|exact HB.out|apply Z6|apply Z1|apply Z5)|exact HB.out))) : w.heap.size ≤ gb488));clear HB;have HB:=n0_;have BK488:=n1_;have GW488:=n2_;have GE488:=n3_;clear n0_ n1_ n2_ n3_;clear hb hbox hg)|((with_reducible refine Zi (f:=27) rfl ?_);refine goesL_ (some 1) rfl rfl Try.func27 (by kernel_rfl) rfl #[] rfl (by (try simp only [Zn,Zo,Zp]);first|done|rfl|(simp only [Zl,Zm];rfl)) ?_;(with_reducible refine (impl_firstWords.calls  t489 _ A1.out).mono ?_);rintro e w3 ⟨v490,rfl,ho0,hb⟩;refine ⟨_,rfl,?_⟩;have n0_:=Z0 (Zh ho0 (Z8 (by repeat (first|(with_reducible first|exact HB.out|apply Z6|apply Z1|apply Z5|refine below_set ?_ GE488.out)|exact HB.out))));have n1_:=Z0 (blk_below (g:=gb488) (o:=.cells #[.slice none 0 0,.int .i64 0,.slice none 0 0] 31 (0,0)) (by (with_reducible repeat (first|refine blk_drewN ?_ _|refine blk_drew ?_|refine blk_alloc ?_ _));exact BK488.out) hb);have n2_:=Z0 (Zg (by repeat (first|(with_reducible first|exact HB.out|apply Z6|apply Z1|apply Z5|refine below_set ?_ GE488.out)|exact HB.out)) hb);clear BK488;clear HB;have HO491:=n0_;have BK488:=n1_;have HB:=n2_;clear n0_ n1_ n2_;(try clear hb);(try clear hb2);(try clear hk);(try clear hi);(try clear ho0);obtain ⟨Ao4,co4,eo4⟩:=Kd.R_slice HO491.out;subst eo4;have hcz5_0 : w3.cell? ⟨gb488,0,none⟩ = some (.slice none 0 0):=(blk_cell BK488.out 0).trans rfl;have hcz5_1 : w3.cell? ⟨gb488,1,none⟩ = some (.int .i64 0):=(blk_cell BK488.out 1).trans rfl;have hcz5_2 : w3.cell? ⟨gb488,2,none⟩ = some (.slice none 0 0):=(blk_cell BK488.out 2).trans rfl;have hfz5_0:=blk_frozen BK488.out 0;have hfz5_1:=blk_frozen BK488.out 1;have hfz5_2:=blk_frozen BK488.out 2))
 refine bodyPost_ret (results_cell_row rfl _ _ gb488 31 #[.slice Ao4 t489.length co4,.int .i64 0,.slice none 0 0] (0,0) _ rfl (by (with_reducible repeat (first|refine blk_drewN ?_ _|refine blk_drew ?_|refine blk_alloc ?_ _));refine blk_put (cs:=#[.slice Ao4 t489.length co4,.int .i64 0,.slice none 0 0]) ?_ 2 _ rfl;(with_reducible repeat (first|refine blk_drewN ?_ _|refine blk_drew ?_|refine blk_alloc ?_ _));refine blk_put (cs:=#[.slice Ao4 t489.length co4,.int .i64 0,.slice none 0 0]) ?_ 1 _ rfl;(with_reducible repeat (first|refine blk_drewN ?_ _|refine blk_drew ?_|refine blk_alloc ?_ _));refine blk_put (cs:=#[.slice none 0 0,.int .i64 0,.slice none 0 0]) ?_ 0 _ rfl;(with_reducible repeat (first|refine blk_drewN ?_ _|refine blk_drew ?_|refine blk_alloc ?_ _));exact BK488.out) Try.underlying31 rfl (by kernel_rfl)) rfl ?_
 exact ⟨_,_,by first|rfl|(simp [errW_none,errW_some]<;>rfl)|(simp [*,errW_none,errW_some]<;>rfl),by (with_reducible repeat (first|apply Z3|apply Z2|apply Z4));exact Zj (Kd.R_far (p:=⟨gb488,2,none⟩) (Kd.R_far (p:=⟨gb488,1,none⟩) (Kd.R_far (p:=⟨gb488,0,none⟩) (Kd.R_types HO491.out BK488.out (by decide)) (fun _ hk=>hk.2) (.slice Ao4 t489.length co4)) (fun _ hk=>hk.2) (.int .i64 0)) (fun _ hk=>hk.2) (.slice none 0 0)) (fun _ hk=>trivial),by first|exact Kd.R_nil _ _ _ _ _|exact Kd.N_nil _ _ _ _ _|exact Kd.V_nil _ _ _ _ _|exact Kd.Q_nil _ _ _ _ _|exact Kd.S_nil _ _ _ _ _,by repeat (first|(with_reducible first|exact HB.out|apply Z6|apply Z1|apply Z5|refine below_set ?_ GE488.out)|exact HB.out)⟩

/-! ### impl_Digest: function 11 -/
def impl_Digest.f (k : Nat) (l0 : List Int) : Option (List Int) := (impl_SumNew.f).bind fun bt492 => ((impl_SumAdd.f k bt492.1 bt492.2.1 bt492.2.2 l0).bind fun bt499 => ((impl_SumEnd.f k bt499.1 bt499.2.1 bt499.2.2).bind fun t506 => (some t506)))
theorem impl_Digest.mono : ∀ a0 k, LeO (impl_Digest.f k a0) (impl_Digest.f (k + 1) a0) := by
 intro a0 k
 unfold impl_Digest.f
 repeat' first
  | (with_reducible exact impl_SumAdd.mono _ _ _ _ _)
  | (with_reducible exact impl_SumEnd.mono _ _ _ _)
  | (with_reducible exact LeO.refl _)
  | (with_reducible exact LeO.none _)
  | (with_reducible refine LeO.ite ?_ ?_)
  | (with_reducible refine LeO.bind ?_ (fun _=>?_))
  | exact impl_SumAdd.mono _ _ _ _ _
  | exact impl_SumEnd.mono _ _ _ _
  | exact LeO.none _
  | refine LeO.ite ?_ ?_
  | refine LeO.bind ?_ (fun _=>?_)
set_option maxHeartbeats 8000000 in
set_option maxRecDepth 100000 in
theorem impl_Digest.calls (k : Nat) (A0 : Option Addr) (c0 : Nat) (l0 : List Int) (r : List Int) (w : World) (hr0 : Kd.C (Kd.int .u8) w A0 l0.length l0) (hc0 : l0.length ≤ c0) (h : impl_Digest.f k l0 = some r) :
 Calls Try.prog 11 #[.slice A0 l0.length c0] w fun e w' => ∃ v0_ : Value, e = .returned (v0_) ∧ Kd.R (Kd.int .u8) 5 w' w.heap.size (fun _ => True) v0_ r ∧ Below w.heap.size w w' := by
 have HR0:=Z0 hr0
 have HC0:=Z0 hc0
 clear hr0 hc0
 have HB:=Z0 (Zr w.heap.size w)
 have H : ((impl_SumNew.f).bind fun bt492=>((impl_SumAdd.f k bt492.1 bt492.2.1 bt492.2.2 l0).bind fun bt499=>((impl_SumEnd.f k bt499.1 bt499.2.1 bt499.2.2).bind fun t506=>(some t506)))) = some r:=h
 clear h
 replace H:=Option.bind_eq_some_iff.mp H
 obtain ⟨⟨t492,t495,t496⟩,A20,H⟩:=H
 replace H : ((impl_SumAdd.f k t492 t495 t496 l0).bind fun bt499=>((impl_SumEnd.f k bt499.1 bt499.2.1 bt499.2.2).bind fun t506=>(some t506))) = some r:=H
 have A2:=Z0 A20
 clear A20
 replace H:=Option.bind_eq_some_iff.mp H
 obtain ⟨⟨t499,t502,t503⟩,A30,H⟩:=H
 replace H : ((impl_SumEnd.f k t499 t502 t503).bind fun t506=>(some t506)) = some r:=H
 have A3:=Z0 A30
 clear A30
 replace H:=Option.bind_eq_some_iff.mp H
 obtain ⟨t506,A40,H⟩:=H
 replace H : (some t506) = some r:=H
 have A4:=Z0 A40
 clear A40
 obtain rfl:=Option.some.inj H
 go_enter Try.func11,Try.ntmps11
 go_wp2_with (first|((with_reducible refine Zi (f:=19) rfl ?_);refine goesL_ (some 3) rfl rfl Try.func19 (by kernel_rfl) rfl #[] rfl (by (try simp only [Zn,Zo,Zp]);first|done|rfl|(simp only [Zl,Zm];rfl)) ?_;(with_reducible refine (impl_SumNew.calls  t492 t495 t496 _ A2.out).mono ?_);rintro e w5 ⟨v493,v497,rfl,ho0,ho1,hb⟩;refine ⟨_,rfl,?_⟩;have n0_:=Z0 (Zh ho0 (Z8 (by repeat (first|(with_reducible first|exact HB.out|apply Z6|apply Z1|apply Z5)|exact HB.out))));have n1_:=Z0 (Zh ho1 (Z8 (by repeat (first|(with_reducible first|exact HB.out|apply Z6|apply Z1|apply Z5)|exact HB.out))));have n2_:=Z0 (Zg (by repeat (first|(with_reducible first|exact HB.out|apply Z6|apply Z1|apply Z5)|exact HB.out)) hb);clear HB;have HO494:=n0_;have HO498:=n1_;have HB:=n2_;clear n0_ n1_ n2_;(try clear hb);(try clear hb2);(try clear hk);(try clear hi);(try clear ho0);(try clear ho1);obtain ⟨Ao6,co6,eo6⟩:=Kd.R_slice HO494.out;subst eo6;obtain ⟨Ao7,co7,eo7⟩:=Kd.R_slice HO498.out;subst eo7)|((with_reducible refine Zi (f:=18) rfl ?_);refine goesL_ (some 5) rfl rfl Try.func18 (by kernel_rfl) rfl #[.agg #[.slice Ao6 t492.length co6,.int .i64 t495,.slice Ao7 t496.length co7],.slice A0 l0.length c0] rfl (by (try simp only [Zn,Zo,Zp]);first|done|rfl|(simp only [Zl,Zm];rfl)) ?_;(with_reducible refine (impl_SumAdd.calls k _ _ t492 t495 _ _ t496 _ _ l0 t499 t502 t503 _ ?side1 ?side2 ?side3 ?side4 ?side5 ?side6 A3.out).mono ?_);(case side1=>repeat (first|exact (Z7 HO494.out).2.2|(with_reducible refine Za ?_ _)|(with_reducible refine Z9 ?_ _)|(with_reducible refine Zb ?_)));(case side2=>exact (Z7 HO494.out).2.1);(case side3=>repeat (first|exact (Z7 HO498.out).2.2|(with_reducible refine Za ?_ _)|(with_reducible refine Z9 ?_ _)|(with_reducible refine Zb ?_)));(case side4=>exact (Z7 HO498.out).2.1);(case side5=>repeat (first|exact (Kd.C_below HR0.out HB.out)|(with_reducible refine Za ?_ _)|(with_reducible refine Z9 ?_ _)|(with_reducible refine Zb ?_)));(case side6=>exact HC0.out);rintro e w8 ⟨v500,v504,rfl,ho0,ho1,hb⟩;refine ⟨_,rfl,?_⟩;have n0_:=Z0 (Zc (by (with_reducible repeat (first|apply Z3|apply Z2|apply Z4));exact HO494.out) (Ze ho0) hb);have n1_:=Z0 (Zc (by (with_reducible repeat (first|apply Z3|apply Z2|apply Z4));exact HO498.out) (Ze ho1) hb);have n2_:=Z0 (Zh (Zd ho0 (Zf (by (with_reducible repeat (first|apply Z3|apply Z2|apply Z4));exact HO494.out))) (Z8 (by repeat (first|(with_reducible first|exact HB.out|apply Z6|apply Z1|apply Z5)|exact HB.out))));have n3_:=Z0 (Zh (Zd ho1 (Zf (by (with_reducible repeat (first|apply Z3|apply Z2|apply Z4));exact HO498.out))) (Z8 (by repeat (first|(with_reducible first|exact HB.out|apply Z6|apply Z1|apply Z5)|exact HB.out))));have n4_:=Z0 (Zg (by repeat (first|(with_reducible first|exact HB.out|apply Z6|apply Z1|apply Z5)|exact HB.out)) hb);clear HO494;clear HO498;clear HB;have HO494:=n0_;have HO498:=n1_;have HO501:=n2_;have HO505:=n3_;have HB:=n4_;clear n0_ n1_ n2_ n3_ n4_;(try clear hb);(try clear hb2);(try clear hk);(try clear hi);(try clear ho0);(try clear ho1);obtain ⟨Ao9,co9,eo9⟩:=Kd.R_slice HO501.out;subst eo9;obtain ⟨Ao10,co10,eo10⟩:=Kd.R_slice HO505.out;subst eo10)|((with_reducible refine Zi (f:=17) rfl ?_);refine goesL_ (some 6) rfl rfl Try.func17 (by kernel_rfl) rfl #[.agg #[.slice Ao9 t499.length co9,.int .i64 t502,.slice Ao10 t503.length co10]] rfl (by (try simp only [Zn,Zo,Zp]);first|done|rfl|(simp only [Zl,Zm];rfl)) ?_;(with_reducible refine (impl_SumEnd.calls k _ _ t499 t502 _ _ t503 t506 _ ?side1 ?side2 ?side3 ?side4 A4.out).mono ?_);(case side1=>repeat (first|exact (Z7 HO501.out).2.2|(with_reducible refine Za ?_ _)|(with_reducible refine Z9 ?_ _)|(with_reducible refine Zb ?_)));(case side2=>exact (Z7 HO501.out).2.1);(case side3=>repeat (first|exact (Z7 HO505.out).2.2|(with_reducible refine Za ?_ _)|(with_reducible refine Z9 ?_ _)|(with_reducible refine Zb ?_)));(case side4=>exact (Z7 HO505.out).2.1);rintro e w11 ⟨v507,rfl,ho0,hb⟩;refine ⟨_,rfl,?_⟩;have n0_:=Z0 (Kd.R_below (by (with_reducible repeat (first|apply Z3|apply Z2|apply Z4));exact HO494.out) hb);have n1_:=Z0 (Zc (by (with_reducible repeat (first|apply Z3|apply Z2|apply Z4));exact HO498.out) (Ze ho0) hb);have n2_:=Z0 (Kd.R_below (by (with_reducible repeat (first|apply Z3|apply Z2|apply Z4));exact HO501.out) hb);have n3_:=Z0 (Zc (by (with_reducible repeat (first|apply Z3|apply Z2|apply Z4));exact HO505.out) (Ze ho0) hb);have n4_:=Z0 (Zh (Zd (Zd ho0 (Zf (by (with_reducible repeat (first|apply Z3|apply Z2|apply Z4));exact HO498.out))) (Zf (by (with_reducible repeat (first|apply Z3|apply Z2|apply Z4));exact HO505.out))) (Z8 (by repeat (first|(with_reducible first|exact HB.out|apply Z6|apply Z1|apply Z5)|exact HB.out))));have n5_:=Z0 (Zg (by repeat (first|(with_reducible first|exact HB.out|apply Z6|apply Z1|apply Z5)|exact HB.out)) hb);clear HO494;clear HO498;clear HO501;clear HO505;clear HB;have HO494:=n0_;have HO498:=n1_;have HO501:=n2_;have HO505:=n3_;have HO508:=n4_;have HB:=n5_;clear n0_ n1_ n2_ n3_ n4_ n5_;(try clear hb);(try clear hb2);(try clear hk);(try clear hi);(try clear ho0)))
 go_ret
 exact ⟨_,by first|rfl|(simp [errW_none,errW_some]<;>rfl)|(simp [*,errW_none,errW_some]<;>rfl),by (with_reducible repeat (first|apply Z3|apply Z2|apply Z4));exact Zj HO508.out (fun _ hk=>trivial),by repeat (first|(with_reducible first|exact HB.out|apply Z6|apply Z1|apply Z5)|exact HB.out)⟩

/-! ### impl_xored: function 13 -/
def impl_xored.l0 : Nat → Int → List Int → List Int → Int → Int → Option (List Int)
 | 0, _, _, _, _, _ => none
 | k + 1, x1, x5, x9, x10, x11 => if x11 < x10 then (if 0 ≤ x11 then (if x11 < (x9.length : Int) then (if x5.length < 140737488355328 then (impl_xored.l0 k x1 (x5 ++ [Go.bits .xor .u8 (rd x9 x11) x1]) x9 x10 (wrap64 (x11 + 1))) else (none)) else (none)) else (none)) else (some x5)
def impl_xored.f (k : Nat) (l0 : List Int) (a1 : Int) : Option (List Int) := impl_xored.l0 k a1 (([] : List Int)) l0 (l0.length : Int) 0
theorem impl_xored.mono_l : ∀ k, (∀ y0 y1 y2 y3 y4, LeO (impl_xored.l0 k y0 y1 y2 y3 y4) (impl_xored.l0 (k + 1) y0 y1 y2 y3 y4))
 | 0 => fun _ _ _ _ _ r h => by simp [impl_xored.l0] at h
 | k + 1 => by
  have ih0:=impl_xored.mono_l k
  · intro y0 y1 y2 y3 y4
    unfold impl_xored.l0
    repeat' first
    | (with_reducible exact ih0 _ _ _ _ _)
    | (with_reducible exact LeO.refl _)
    | (with_reducible exact LeO.none _)
    | (with_reducible refine LeO.ite ?_ ?_)
    | (with_reducible refine LeO.bind ?_ (fun _=>?_))
    | exact ih0 _ _ _ _ _
    | exact LeO.none _
    | refine LeO.ite ?_ ?_
    | refine LeO.bind ?_ (fun _=>?_)
theorem impl_xored.mono : ∀ a0 a1 k, LeO (impl_xored.f k a0 a1) (impl_xored.f (k + 1) a0 a1) := by
 intro a0 a1 k
 have ih0:=impl_xored.mono_l k
 unfold impl_xored.f
 repeat' first
  | (with_reducible exact ih0 _ _ _ _ _)
  | (with_reducible exact LeO.refl _)
  | (with_reducible exact LeO.none _)
  | (with_reducible refine LeO.ite ?_ ?_)
  | (with_reducible refine LeO.bind ?_ (fun _=>?_))
  | exact ih0 _ _ _ _ _
  | exact LeO.none _
  | refine LeO.ite ?_ ?_
  | refine LeO.bind ?_ (fun _=>?_)
set_option maxHeartbeats 8000000 in
set_option maxRecDepth 100000 in
theorem impl_xored.calls (k : Nat) (A0 : Option Addr) (c0 : Nat) (l0 : List Int) (a1 : Int) (r : List Int) (w : World) (hr0 : Kd.C (Kd.int .u8) w A0 l0.length l0) (hc0 : l0.length ≤ c0) (h : impl_xored.f k l0 a1 = some r) :
 Calls Try.prog 13 #[.slice A0 l0.length c0, .int .u8 a1] w fun e w' => ∃ v0_ : Value, e = .returned (v0_) ∧ Kd.R (Kd.int .u8) 5 w' w.heap.size (fun _ => True) v0_ r ∧ Below w.heap.size w w' := by
 have HR0:=Z0 hr0
 have HC0:=Z0 hc0
 clear hr0 hc0
 have HB:=Z0 (Zr w.heap.size w)
 have H : (impl_xored.l0 k a1 (([] : List Int)) l0 (l0.length : Int) 0) = some r:=h
 clear h
 obtain ⟨y509,hy509⟩ : ∃ y_ : List Int,y_ = (([] : List Int)):=⟨_,rfl⟩
 replace H : (impl_xored.l0 k a1 y509 l0 (l0.length : Int) 0) = some r:=by first|(rw [hy509];with_reducible exact H)|(have H2_:=(Zk _ _).symm.trans H;rw [hy509];with_reducible exact H2_)|(have H2_:=(Zk _ _).symm.trans H;with_reducible exact H2_)|with_reducible exact H|(rw [hy509];exact H)|exact H
 have Ny509:=Z0 hy509
 clear hy509
 have H':=Z0 H
 clear H
 go_enter Try.func13,Try.ntmps13
 go_wp2_with (first|((with_reducible refine gate_dst (N:=8) rfl ?_);refine Kd.R_lit (Kd.int .u8) _ 5 ?hg (N:=8) ?hd (xs:=([] : List Int)) (inner:=[]) (ok:=fun _=>True) (okp:=fun _=>True) ?hr ?hp (fun _ hk=>hk) trivial (Zr _ _) (Zq _) (by simp) ?_;(case hd=>rfl);(case hg=>rfl);(case hr=>first|(go_simp;done)|(go_simp;rfl));(case hp=>exact (Reps.none _ _));intro v510 w3 ho4 hb hg_ hnew_;clear hg_ hnew_;(first|rw [← Ny509.out] at ho4|(simp only [Int.reduceToNat] at ho4;rw [← Ny509.out] at ho4));have n0_:=Z0 (Zh ho4 (Z8 (by repeat (first|(with_reducible first|exact HB.out|apply Z6|apply Z1|apply Z5)|exact HB.out))));have n1_:=Z0 (Zg (by repeat (first|(with_reducible first|exact HB.out|apply Z6|apply Z1|apply Z5)|exact HB.out)) hb);clear HB;have HO511:=n0_;have HB:=n1_;clear n0_ n1_;clear hb ho4))
 go_loopg [5,11] k (fun kq v5 v11 w'=>∃ (x5_1 : List Int) (x11_1 : Int),v11 = .int .i64 x11_1 ∧ Aside0 (impl_xored.l0 kq a1 x5_1 l0 (l0.length : Int) x11_1 = some r) ∧ Aside0 (kq ≤ k) ∧ Aside0 (Kd.R (Kd.int .u8) 5 w' w.heap.size (fun _=>True) v5 x5_1) ∧ Aside0 (Below w.heap.size w w'))
 case atStart=>exact ⟨(y509),(0),(by first|rfl|(simp;done)|(simp [*];done)),H',⟨Zq _⟩,⟨by (with_reducible repeat (first|apply Z3|apply Z2|apply Z4));exact HO511.out⟩,⟨by repeat (first|(with_reducible first|exact HB.out|apply Z6|apply Z1|apply Z5)|exact HB.out)⟩⟩
 case round =>
  clear H'
  (try clear c1);(try clear p2)
  obtain ⟨x5_1,x11_1,rfl,HA,HK1,HO_5,HB⟩:=hrel
  cases gk with
  | zero=>exact absurd HA.out (by simp [impl_xored.l0])
  | succ k1 =>
   have H:=HA.out
   clear HA
   simp only [impl_xored.l0] at H
   by_cases c5 : x11_1 < (l0.length : Int)
   case neg =>
    rw [if_neg c5] at H
    have c5b0 : decide (x11_1 < (l0.length : Int)) = false:=decide_eq_false c5
    clear c5
    obtain rfl:=Option.some.inj H
    go_wp2
    go_ret
    exact ⟨_,by first|rfl|(simp [errW_none,errW_some]<;>rfl)|(simp [*,errW_none,errW_some]<;>rfl),by (with_reducible repeat (first|apply Z3|apply Z2|apply Z4));exact HO_5.out,by repeat (first|(with_reducible first|exact HB.out|apply Z6|apply Z1|apply Z5)|exact HB.out)⟩
   rw [if_pos c5] at H
   have c5b0 : decide (x11_1 < (l0.length : Int)) = true:=decide_eq_true c5
   clear c5
   by_cases c6 : 0 ≤ x11_1
   case neg =>
    rw [if_neg c6] at H
    exact absurd H (by simp)
   rw [if_pos c6] at H
   have c6b0 : decide (0 ≤ x11_1) = true:=decide_eq_true c6
   clear c6
   by_cases c7 : x11_1 < (l0.length : Int)
   case neg =>
    rw [if_neg c7] at H
    exact absurd H (by simp)
   rw [if_pos c7] at H
   have c7b0 : decide (x11_1 < (l0.length : Int)) = true:=decide_eq_true c7
   clear c7
   by_cases c8 : x5_1.length < 140737488355328
   case neg =>
    rw [if_neg c8] at H
    exact absurd H (by simp)
   rw [if_pos c8] at H
   have LMc8:=Z0 c8
   clear c8
   obtain ⟨y513,hy513⟩ : ∃ y_ : List Int,y_ = (x5_1 ++ [Go.bits .xor .u8 (rd l0 x11_1) a1]):=⟨_,rfl⟩
   replace H : (impl_xored.l0 k1 a1 y513 l0 (l0.length : Int) (wrap64 (x11_1 + 1))) = some r:=by first|(rw [hy513];with_reducible exact H)|(have H2_:=(Zk _ _).symm.trans H;rw [hy513];with_reducible exact H2_)|(have H2_:=(Zk _ _).symm.trans H;with_reducible exact H2_)|with_reducible exact H|(rw [hy513];exact H)|exact H
   have Ny513:=Z0 hy513
   clear hy513
   have H':=Z0 H
   clear H
   have p512 : 0 ≤ (x11_1 : Int):=of_decide_eq_true (by first|(with_reducible assumption)|assumption)
   have q512 : x11_1 < (l0.length : Int):=of_decide_eq_true (by first|(with_reducible assumption)|assumption)
   obtain ⟨ad512,e512,hx512_0⟩:=Kd.at_int HR0.out x11_1 p512 q512
   cases e512
   replace hx512_0:=(HB.out.cell (World.block_lt_of_cell? w _ hx512_0)).trans hx512_0
   replace p512:=eq_true p512
   replace q512:=eq_true q512
   go_wp2_with (first|((with_reducible refine gate_builtin (b:=.append) (xs:=#[.tmp 15,.tmp 19]) rfl ?_);at_builtin;refine Kd.R_append (Kd.int .u8) (w0:=w) w.heap.size rfl (.tmp 15) (.tmp 19) 22 5 (.int .u8 0) 1 rfl Try.underlying22 info5 rfl (by decide) (by omega) u5 x5_1 (Go.bits .xor .u8 (rd l0 x11_1) a1) [.int .u8 (Go.bits .xor .u8 (rd l0 x11_1) a1)] (fun _=>True) (fun _=>False) rfl rfl ?aP (fun _ hk=>hk.elim) ?aF ?aO ?aB ?aS ?aL ?_;(case aP=>exact rfl);(case aB=>exact (by repeat (first|(with_reducible first|exact HB.out|apply Z6|apply Z1|apply Z5)|exact HB.out)));(case aF=>exact (fun _ _=>trivial));(case aO=>exact (by (with_reducible repeat (first|apply Z3|apply Z2|apply Z4));exact HO_5.out));(case aS=>exact (Z8 (by repeat (first|(with_reducible first|exact HB.out|apply Z6|apply Z1|apply Z5)|exact HB.out))));(case aL=>have:=LMc8.out;omega);intro v514 w9 ho hb hg hat;rw [← Ny513.out] at ho;have n0_:=Z0 (hb);have n1_:=Z0 (ho);clear HB;clear HO_5;have HB:=n0_;have HO515:=n1_;clear n0_ n1_;clear ho hb hg hat))
   go_roundg k1
   case measure=>have:=HK1.out;omega
   case rel=>exact ⟨(y513),(wrap64 (x11_1 + 1)),(by first|rfl|(simp;done)|(simp [*];done)),H',⟨by have:=HK1.out;omega⟩,⟨by (with_reducible repeat (first|apply Z3|apply Z2|apply Z4));exact HO515.out⟩,⟨by repeat (first|(with_reducible first|exact HB.out|apply Z6|apply Z1|apply Z5)|exact HB.out)⟩⟩

/-! ### impl_Mac: function 6 -/
def impl_Mac.f (k : Nat) (l0 : List Int) (l1 : List Int) : Option (List Int) := if (l0.length : Int) > 64 then ((impl_Digest.f k l0).bind fun t516 => ((slices_Clone_byte_byte.f t516).bind fun t519 => (if 0 ≤ (wrap64 (64 - (t516.length : Int))) then (if t519.length + (wrap64 (64 - (t516.length : Int)) : Int).toNat < 140737488355328 then ((some (t519 ++ List.replicate (wrap64 (64 - (t516.length : Int)) : Int).toNat 0 : List Int)).bind fun y522 => ((impl_xored.f k y522 54).bind fun t525 => (if t525.length + l1.length < 140737488355328 then ((impl_Digest.f k (t525 ++ l1)).bind fun t531 => ((impl_xored.f k y522 92).bind fun t534 => (if t534.length + t531.length < 140737488355328 then ((impl_Digest.f k (t534 ++ t531)).bind fun t540 => (some t540)) else (none)))) else (none)))) else (none)) else (none)))) else ((slices_Clone_byte_byte.f l0).bind fun t543 => (if 0 ≤ (wrap64 (64 - (l0.length : Int))) then (if t543.length + (wrap64 (64 - (l0.length : Int)) : Int).toNat < 140737488355328 then ((some (t543 ++ List.replicate (wrap64 (64 - (l0.length : Int)) : Int).toNat 0 : List Int)).bind fun y546 => ((impl_xored.f k y546 54).bind fun t549 => (if t549.length + l1.length < 140737488355328 then ((impl_Digest.f k (t549 ++ l1)).bind fun t555 => ((impl_xored.f k y546 92).bind fun t558 => (if t558.length + t555.length < 140737488355328 then ((impl_Digest.f k (t558 ++ t555)).bind fun t564 => (some t564)) else (none)))) else (none)))) else (none)) else (none)))
theorem impl_Mac.mono : ∀ a0 a1 k, LeO (impl_Mac.f k a0 a1) (impl_Mac.f (k + 1) a0 a1) := by
 intro a0 a1 k
 unfold impl_Mac.f
 repeat' first
  | (with_reducible exact impl_Digest.mono _ _)
  | (with_reducible exact impl_xored.mono _ _ _)
  | (with_reducible exact LeO.refl _)
  | (with_reducible exact LeO.none _)
  | (with_reducible refine LeO.ite ?_ ?_)
  | (with_reducible refine LeO.bind ?_ (fun _=>?_))
  | exact impl_Digest.mono _ _
  | exact impl_xored.mono _ _ _
  | exact LeO.none _
  | refine LeO.ite ?_ ?_
  | refine LeO.bind ?_ (fun _=>?_)
set_option maxHeartbeats 8000000 in
set_option maxRecDepth 100000 in
theorem impl_Mac.calls (k : Nat) (A0 : Option Addr) (c0 : Nat) (l0 : List Int) (A1 : Option Addr) (c1 : Nat) (l1 : List Int) (r : List Int) (w : World) (hr0 : Kd.C (Kd.int .u8) w A0 l0.length l0) (hc0 : l0.length ≤ c0) (hr1 : Kd.C (Kd.int .u8) w A1 l1.length l1) (hc1 : l1.length ≤ c1) (h : impl_Mac.f k l0 l1 = some r) :
 Calls Try.prog 6 #[.slice A0 l0.length c0, .slice A1 l1.length c1] w fun e w' => ∃ v0_ : Value, e = .returned (v0_) ∧ Kd.R (Kd.int .u8) 5 w' w.heap.size (fun _ => True) v0_ r ∧ Below w.heap.size w w' := by
 have HR0:=Z0 hr0
 have HC0:=Z0 hc0
 clear hr0 hc0
 have HR1:=Z0 hr1
 have HC1:=Z0 hc1
 clear hr1 hc1
 have HB:=Z0 (Zr w.heap.size w)
 have H : (if (l0.length : Int) > 64 then ((impl_Digest.f k l0).bind fun t516=>((slices_Clone_byte_byte.f t516).bind fun t519=>(if 0 ≤ (wrap64 (64 - (t516.length : Int))) then (if t519.length + (wrap64 (64 - (t516.length : Int)) : Int).toNat < 140737488355328 then ((some (t519 ++ List.replicate (wrap64 (64 - (t516.length : Int)) : Int).toNat 0 : List Int)).bind fun y522=>((impl_xored.f k y522 54).bind fun t525=>(if t525.length + l1.length < 140737488355328 then ((impl_Digest.f k (t525 ++ l1)).bind fun t531=>((impl_xored.f k y522 92).bind fun t534=>(if t534.length + t531.length < 140737488355328 then ((impl_Digest.f k (t534 ++ t531)).bind fun t540=>(some t540)) else (none)))) else (none)))) else (none)) else (none)))) else ((slices_Clone_byte_byte.f l0).bind fun t543=>(if 0 ≤ (wrap64 (64 - (l0.length : Int))) then (if t543.length + (wrap64 (64 - (l0.length : Int)) : Int).toNat < 140737488355328 then ((some (t543 ++ List.replicate (wrap64 (64 - (l0.length : Int)) : Int).toNat 0 : List Int)).bind fun y546=>((impl_xored.f k y546 54).bind fun t549=>(if t549.length + l1.length < 140737488355328 then ((impl_Digest.f k (t549 ++ l1)).bind fun t555=>((impl_xored.f k y546 92).bind fun t558=>(if t558.length + t555.length < 140737488355328 then ((impl_Digest.f k (t558 ++ t555)).bind fun t564=>(some t564)) else (none)))) else (none)))) else (none)) else (none)))) = some r:=h
 clear h
 by_cases c3 : (l0.length : Int) > 64
 case neg =>
  rw [if_neg c3] at H
  have c3b0 : decide (64 < (l0.length : Int)) = false:=decide_eq_false c3
  have c3b1 : decide (64 < l0.length) = false:=decide_eq_false (by omega)
  clear c3
  replace H:=Option.bind_eq_some_iff.mp H
  obtain ⟨t543,A290,H⟩:=H
  replace H : (if 0 ≤ (wrap64 (64 - (l0.length : Int))) then (if t543.length + (wrap64 (64 - (l0.length : Int)) : Int).toNat < 140737488355328 then ((some (t543 ++ List.replicate (wrap64 (64 - (l0.length : Int)) : Int).toNat 0 : List Int)).bind fun y546=>((impl_xored.f k y546 54).bind fun t549=>(if t549.length + l1.length < 140737488355328 then ((impl_Digest.f k (t549 ++ l1)).bind fun t555=>((impl_xored.f k y546 92).bind fun t558=>(if t558.length + t555.length < 140737488355328 then ((impl_Digest.f k (t558 ++ t555)).bind fun t564=>(some t564)) else (none)))) else (none)))) else (none)) else (none)) = some r:=H
  have A29:=Z0 A290
  clear A290
  obtain ⟨ji30,hji30⟩ : ∃ j_ : Int,(wrap64 (64 - (l0.length : Int))) = j_:=⟨_,rfl⟩
  replace H : (if 0 ≤ (ji30) then (if t543.length + (ji30 : Int).toNat < 140737488355328 then ((some (t543 ++ List.replicate (ji30 : Int).toNat 0 : List Int)).bind fun y546=>((impl_xored.f k y546 54).bind fun t549=>(if t549.length + l1.length < 140737488355328 then ((impl_Digest.f k (t549 ++ l1)).bind fun t555=>((impl_xored.f k y546 92).bind fun t558=>(if t558.length + t555.length < 140737488355328 then ((impl_Digest.f k (t558 ++ t555)).bind fun t564=>(some t564)) else (none)))) else (none)))) else (none)) else (none)) = some r:=by first|(rw [hji30] at H;exact H)|(simp only [hji30] at H ⊢;exact H)
  (try rw [hji30] at A29)
  have hji30w : (IntKind.i64.wrap (64 - (l0.length : Int))) = ji30:=(i64_w _).trans hji30
  by_cases c31 : 0 ≤ (ji30)
  case neg =>
   rw [if_neg c31] at H
   exact absurd H (by simp)
  rw [if_pos c31] at H
  have c31b0:=eq_true c31
  have c31b1 : decide (0 ≤ (ji30)) = true:=decide_eq_true c31
  clear c31
  by_cases c32 : t543.length + (ji30 : Int).toNat < 140737488355328
  case neg =>
   rw [if_neg c32] at H
   exact absurd H (by simp)
  rw [if_pos c32] at H
  have LMc32:=Z0 c32
  clear c32
  obtain ⟨y546,hy546⟩ : ∃ y_ : List Int,y_ = (t543 ++ List.replicate (ji30 : Int).toNat 0):=⟨_,rfl⟩
  replace H : ((impl_xored.f k y546 54).bind fun t549=>(if t549.length + l1.length < 140737488355328 then ((impl_Digest.f k (t549 ++ l1)).bind fun t555=>((impl_xored.f k y546 92).bind fun t558=>(if t558.length + t555.length < 140737488355328 then ((impl_Digest.f k (t558 ++ t555)).bind fun t564=>(some t564)) else (none)))) else (none))) = some r:=by first|(rw [hy546];with_reducible exact H)|(have H2_:=(Zk _ _).symm.trans H;rw [hy546];with_reducible exact H2_)|(have H2_:=(Zk _ _).symm.trans H;with_reducible exact H2_)|with_reducible exact H|(rw [hy546];exact H)|exact H
  have Ny546:=Z0 hy546
  clear hy546
  replace H:=Option.bind_eq_some_iff.mp H
  obtain ⟨t549,A330,H⟩:=H
  replace H : (if t549.length + l1.length < 140737488355328 then ((impl_Digest.f k (t549 ++ l1)).bind fun t555=>((impl_xored.f k y546 92).bind fun t558=>(if t558.length + t555.length < 140737488355328 then ((impl_Digest.f k (t558 ++ t555)).bind fun t564=>(some t564)) else (none)))) else (none)) = some r:=H
  have A33:=Z0 A330
  clear A330
  by_cases c34 : t549.length + l1.length < 140737488355328
  case neg =>
   rw [if_neg c34] at H
   exact absurd H (by simp)
  rw [if_pos c34] at H
  have LMc34:=Z0 c34
  clear c34
  obtain ⟨y552,hy552⟩ : ∃ y_ : List Int,y_ = (t549 ++ l1):=⟨_,rfl⟩
  replace H : ((impl_Digest.f k y552).bind fun t555=>((impl_xored.f k y546 92).bind fun t558=>(if t558.length + t555.length < 140737488355328 then ((impl_Digest.f k (t558 ++ t555)).bind fun t564=>(some t564)) else (none)))) = some r:=by first|(rw [hy552];with_reducible exact H)|(have H2_:=(Zk _ _).symm.trans H;rw [hy552];with_reducible exact H2_)|(have H2_:=(Zk _ _).symm.trans H;with_reducible exact H2_)|with_reducible exact H|(rw [hy552];exact H)|exact H
  have Ny552:=Z0 hy552
  clear hy552
  replace H:=Option.bind_eq_some_iff.mp H
  obtain ⟨t555,A350,H⟩:=H
  replace H : ((impl_xored.f k y546 92).bind fun t558=>(if t558.length + t555.length < 140737488355328 then ((impl_Digest.f k (t558 ++ t555)).bind fun t564=>(some t564)) else (none))) = some r:=H
  have A35:=Z0 A350
  clear A350
  replace H:=Option.bind_eq_some_iff.mp H
  obtain ⟨t558,A360,H⟩:=H
  replace H : (if t558.length + t555.length < 140737488355328 then ((impl_Digest.f k (t558 ++ t555)).bind fun t564=>(some t564)) else (none)) = some r:=H
  have A36:=Z0 A360
  clear A360
  by_cases c37 : t558.length + t555.length < 140737488355328
  case neg =>
   rw [if_neg c37] at H
   exact absurd H (by simp)
  rw [if_pos c37] at H
  have LMc37:=Z0 c37
  clear c37
  obtain ⟨y561,hy561⟩ : ∃ y_ : List Int,y_ = (t558 ++ t555):=⟨_,rfl⟩
  replace H : ((impl_Digest.f k y561).bind fun t564=>(some t564)) = some r:=by first|(rw [hy561];with_reducible exact H)|(have H2_:=(Zk _ _).symm.trans H;rw [hy561];with_reducible exact H2_)|(have H2_:=(Zk _ _).symm.trans H;with_reducible exact H2_)|with_reducible exact H|(rw [hy561];exact H)|exact H
  have Ny561:=Z0 hy561
  clear hy561
  replace H:=Option.bind_eq_some_iff.mp H
  obtain ⟨t564,A380,H⟩:=H
  replace H : (some t564) = some r:=H
  have A38:=Z0 A380
  clear A380
  obtain rfl:=Option.some.inj H
  go_enter Try.func6,Try.ntmps6
  go_wp2_with (first|((with_reducible refine Zi (f:=12) rfl ?_);refine goesL_ (some 13) rfl rfl Try.func12 (by kernel_rfl) rfl #[.slice A0 l0.length c0] rfl (by (try simp only [Zn,Zo,Zp]);first|done|rfl|(simp only [Zl,Zm];rfl)) ?_;(with_reducible refine (slices_Clone_byte_byte.calls _ _ l0 t543 _ ?side1 ?side2 A29.out).mono ?_);(case side1=>repeat (first|exact HR0.out|(with_reducible refine Za ?_ _)|(with_reducible refine Z9 ?_ _)|(with_reducible refine Zb ?_)));(case side2=>exact HC0.out);rintro e w39 ⟨v544,rfl,ho0,hb⟩;refine ⟨_,rfl,?_⟩;have n0_:=Z0 (Zh ho0 (Z8 (by repeat (first|(with_reducible first|exact HB.out|apply Z6|apply Z1|apply Z5)|exact HB.out))));have n1_:=Z0 (Zg (by repeat (first|(with_reducible first|exact HB.out|apply Z6|apply Z1|apply Z5)|exact HB.out)) hb);clear HB;have HO545:=n0_;have HB:=n1_;clear n0_ n1_;(try clear hb);(try clear hb2);(try clear hk);(try clear hi);(try clear ho0))|(at_builtin;refine Kd.R_append_zeros (Kd.int .u8) (w0:=w) w.heap.size rfl (.tmp 13) (.tmp 16) 22 3 5 (.int .u8 0) 1 rfl Try.underlying22 Try.underlying3 info5 rfl (by decide) (by omega) v544 t543 0 (ji30 : Int) (fun _=>True) rfl rfl rfl ?aF ?aO (of_decide_eq_true (by first|(with_reducible assumption)|assumption)) ?aB ?aS ?aL ?_;(case aB=>exact (by repeat (first|(with_reducible first|exact HB.out|apply Z6|apply Z1|apply Z5)|exact HB.out)));(case aF=>exact (fun _ _=>trivial));(case aO=>exact (by (with_reducible repeat (first|apply Z3|apply Z2|apply Z4));exact HO545.out));(case aS=>exact (Z8 (by repeat (first|(with_reducible first|exact HB.out|apply Z6|apply Z1|apply Z5)|exact HB.out))));(case aL=>have:=LMc32.out;omega);intro v547 w40 ho hb hg hat;rw [← Ny546.out] at ho;have n0_:=Z0 (hb);have n1_:=Z0 (ho);clear HB;clear HO545;have HB:=n0_;have HO548:=n1_;clear n0_ n1_;clear ho hb hg hat;obtain ⟨Ao41,co41,eo41⟩:=Kd.R_slice HO548.out;subst eo41)|((with_reducible refine Zi (f:=13) rfl ?_);refine goesL_ (some 19) rfl rfl Try.func13 (by kernel_rfl) rfl #[.slice Ao41 y546.length co41,.int .u8 54] rfl (by (try simp only [Zn,Zo,Zp]);first|done|rfl|(simp only [Zl,Zm];rfl)) ?_;(with_reducible refine (impl_xored.calls k _ _ y546 54 t549 _ ?side1 ?side2 A33.out).mono ?_);(case side1=>repeat (first|exact (Z7 HO548.out).2.2|(with_reducible refine Za ?_ _)|(with_reducible refine Z9 ?_ _)|(with_reducible refine Zb ?_)));(case side2=>exact (Z7 HO548.out).2.1);rintro e w42 ⟨v550,rfl,ho0,hb⟩;refine ⟨_,rfl,?_⟩;have n0_:=Z0 (Zc (by (with_reducible repeat (first|apply Z3|apply Z2|apply Z4));exact HO548.out) (Ze ho0) hb);have n1_:=Z0 (Zh (Zd ho0 (Zf (by (with_reducible repeat (first|apply Z3|apply Z2|apply Z4));exact HO548.out))) (Z8 (by repeat (first|(with_reducible first|exact HB.out|apply Z6|apply Z1|apply Z5)|exact HB.out))));have n2_:=Z0 (Zg (by repeat (first|(with_reducible first|exact HB.out|apply Z6|apply Z1|apply Z5)|exact HB.out)) hb);clear HO548;clear HB;have HO548:=n0_;have HO551:=n1_;have HB:=n2_;clear n0_ n1_ n2_;(try clear hb);(try clear hb2);(try clear hk);(try clear hi);(try clear ho0))|((with_reducible refine gate_builtin (b:=.append) (xs:=#[.tmp 19,.tmp 20]) rfl ?_);at_builtin;refine Kd.R_append_rows (Kd.int .u8) (w0:=w) w.heap.size rfl (.tmp 19) (.tmp 20) 22 5 (.int .u8 0) 1 rfl Try.underlying22 info5 rfl (by decide) (by omega) v550 t549 l1 _ _ _ (fun k_=>some k_ ≠ (.slice Ao41 y546.length co41 : Value).ownBlock) (fun _=>False) rfl rfl ?aO ?aR (fun _ _ h=>h) (fun _ h=>h.elim) ?aF ?aB ?aS ?aL ?_;(case aR=>repeat (first|exact (Kd.C_below HR1.out HB.out)|(with_reducible refine Za ?_ _)|(with_reducible refine Z9 ?_ _)|(with_reducible refine Zb ?_)));(case aB=>exact (by repeat (first|(with_reducible first|exact HB.out|apply Z6|apply Z1|apply Z5)|exact HB.out)));(case aF=>exact (fun k_ hk=>Kd.fresh' (Zf (by (with_reducible repeat (first|apply Z3|apply Z2|apply Z4));exact HO548.out)) k_ hk));(case aO=>exact (by (with_reducible repeat (first|apply Z3|apply Z2|apply Z4));exact Zj HO551.out (fun _ hk=>hk.2)));(case aS=>exact (Z8 (by repeat (first|(with_reducible first|exact HB.out|apply Z6|apply Z1|apply Z5)|exact HB.out))));(case aL=>have:=LMc34.out;omega);intro v553 w43 ho hb hg hat;rw [← Ny552.out] at ho;have n0_:=Z0 (Kd.R_after (ok:=(fun _=>True)) (by (with_reducible repeat (first|apply Z3|apply Z2|apply Z4));exact HO548.out) hg hat);have n1_:=Z0 (hb);have n2_:=Z0 (ho);clear HO548;clear HB;clear HO551;have HO548:=n0_;have HB:=n1_;have HO554:=n2_;clear n0_ n1_ n2_;clear ho hb hg hat;obtain ⟨Ao44,co44,eo44⟩:=Kd.R_slice HO554.out;subst eo44)|((with_reducible refine Zi (f:=11) rfl ?_);refine goesL_ (some 22) rfl rfl Try.func11 (by kernel_rfl) rfl #[.slice Ao44 y552.length co44] rfl (by (try simp only [Zn,Zo,Zp]);first|done|rfl|(simp only [Zl,Zm];rfl)) ?_;(with_reducible refine (impl_Digest.calls k _ _ y552 t555 _ ?side1 ?side2 A35.out).mono ?_);(case side1=>repeat (first|exact (Z7 HO554.out).2.2|(with_reducible refine Za ?_ _)|(with_reducible refine Z9 ?_ _)|(with_reducible refine Zb ?_)));(case side2=>exact (Z7 HO554.out).2.1);rintro e w45 ⟨v556,rfl,ho0,hb⟩;refine ⟨_,rfl,?_⟩;have n0_:=Z0 (Zc (by (with_reducible repeat (first|apply Z3|apply Z2|apply Z4));exact HO548.out) (Ze ho0) hb);have n1_:=Z0 (Zc (by (with_reducible repeat (first|apply Z3|apply Z2|apply Z4));exact HO554.out) (Ze ho0) hb);have n2_:=Z0 (Zh (Zd (Zd ho0 (Zf (by (with_reducible repeat (first|apply Z3|apply Z2|apply Z4));exact HO548.out))) (Zf (by (with_reducible repeat (first|apply Z3|apply Z2|apply Z4));exact HO554.out))) (Z8 (by repeat (first|(with_reducible first|exact HB.out|apply Z6|apply Z1|apply Z5)|exact HB.out))));have n3_:=Z0 (Zg (by repeat (first|(with_reducible first|exact HB.out|apply Z6|apply Z1|apply Z5)|exact HB.out)) hb);clear HO548;clear HO554;clear HB;have HO548:=n0_;have HO554:=n1_;have HO557:=n2_;have HB:=n3_;clear n0_ n1_ n2_ n3_;(try clear hb);(try clear hb2);(try clear hk);(try clear hi);(try clear ho0))|((with_reducible refine Zi (f:=13) rfl ?_);refine goesL_ (some 24) rfl rfl Try.func13 (by kernel_rfl) rfl #[.slice Ao41 y546.length co41,.int .u8 92] rfl (by (try simp only [Zn,Zo,Zp]);first|done|rfl|(simp only [Zl,Zm];rfl)) ?_;(with_reducible refine (impl_xored.calls k _ _ y546 92 t558 _ ?side1 ?side2 A36.out).mono ?_);(case side1=>repeat (first|exact (Z7 HO548.out).2.2|(with_reducible refine Za ?_ _)|(with_reducible refine Z9 ?_ _)|(with_reducible refine Zb ?_)));(case side2=>exact (Z7 HO548.out).2.1);rintro e w46 ⟨v559,rfl,ho0,hb⟩;refine ⟨_,rfl,?_⟩;have n0_:=Z0 (Zc (by (with_reducible repeat (first|apply Z3|apply Z2|apply Z4));exact HO548.out) (Ze ho0) hb);have n1_:=Z0 (Zc (by (with_reducible repeat (first|apply Z3|apply Z2|apply Z4));exact HO554.out) (Ze ho0) hb);have n2_:=Z0 (Zc (by (with_reducible repeat (first|apply Z3|apply Z2|apply Z4));exact HO557.out) (Ze ho0) hb);have n3_:=Z0 (Zh (Zd (Zd (Zd ho0 (Zf (by (with_reducible repeat (first|apply Z3|apply Z2|apply Z4));exact HO548.out))) (Zf (by (with_reducible repeat (first|apply Z3|apply Z2|apply Z4));exact HO554.out))) (Zf (by (with_reducible repeat (first|apply Z3|apply Z2|apply Z4));exact HO557.out))) (Z8 (by repeat (first|(with_reducible first|exact HB.out|apply Z6|apply Z1|apply Z5)|exact HB.out))));have n4_:=Z0 (Zg (by repeat (first|(with_reducible first|exact HB.out|apply Z6|apply Z1|apply Z5)|exact HB.out)) hb);clear HO548;clear HO554;clear HO557;clear HB;have HO548:=n0_;have HO554:=n1_;have HO557:=n2_;have HO560:=n3_;have HB:=n4_;clear n0_ n1_ n2_ n3_ n4_;(try clear hb);(try clear hb2);(try clear hk);(try clear hi);(try clear ho0);obtain ⟨Ao48,co48,eo48⟩:=Kd.R_slice HO557.out;subst eo48)|((with_reducible refine gate_builtin (b:=.append) (xs:=#[.tmp 24,.tmp 25]) rfl ?_);at_builtin;refine Kd.R_append_rows (Kd.int .u8) (w0:=w) w.heap.size rfl (.tmp 24) (.tmp 25) 22 5 (.int .u8 0) 1 rfl Try.underlying22 info5 rfl (by decide) (by omega) v559 t558 t555 _ _ _ (fun k_=>some k_ ≠ (.slice Ao41 y546.length co41 : Value).ownBlock ∧ some k_ ≠ (.slice Ao44 y552.length co44 : Value).ownBlock ∧ some k_ ≠ (.slice Ao48 t555.length co48 : Value).ownBlock) (fun _=>False) rfl rfl ?aO ?aR (fun _ _ h=>h) (fun _ h=>h.elim) ?aF ?aB ?aS ?aL ?_;(case aR=>repeat (first|exact (Z7 HO557.out).2.2|(with_reducible refine Za ?_ _)|(with_reducible refine Z9 ?_ _)|(with_reducible refine Zb ?_)));(case aB=>exact (by repeat (first|(with_reducible first|exact HB.out|apply Z6|apply Z1|apply Z5)|exact HB.out)));(case aF=>exact (fun k_ hk=>⟨Kd.fresh' (Zf (by (with_reducible repeat (first|apply Z3|apply Z2|apply Z4));exact HO548.out)) k_ hk,Kd.fresh' (Zf (by (with_reducible repeat (first|apply Z3|apply Z2|apply Z4));exact HO554.out)) k_ hk,Kd.fresh' (Zf (by (with_reducible repeat (first|apply Z3|apply Z2|apply Z4));exact HO557.out)) k_ hk⟩));(case aO=>exact (by (with_reducible repeat (first|apply Z3|apply Z2|apply Z4));exact Zj HO560.out (fun _ hk=>⟨hk.1.1.2,⟨hk.1.2,hk.2⟩⟩)));(case aS=>exact (Z8 (by repeat (first|(with_reducible first|exact HB.out|apply Z6|apply Z1|apply Z5)|exact HB.out))));(case aL=>have:=LMc37.out;omega);intro v562 w47 ho hb hg hat;rw [← Ny561.out] at ho;have n0_:=Z0 (Kd.R_after (ok:=(fun k_=>some k_ ≠ (.slice Ao44 y552.length co44 : Value).ownBlock ∧ some k_ ≠ (.slice Ao48 t555.length co48 : Value).ownBlock)) (by (with_reducible repeat (first|apply Z3|apply Z2|apply Z4));exact Zj HO548.out (fun _ hk=>⟨⟨hk.1.1.2,hk.1.2⟩,hk.2⟩)) hg hat);have n1_:=Z0 (Kd.R_after (ok:=(fun k_=>some k_ ≠ (.slice Ao41 y546.length co41 : Value).ownBlock ∧ some k_ ≠ (.slice Ao48 t555.length co48 : Value).ownBlock)) (by (with_reducible repeat (first|apply Z3|apply Z2|apply Z4));exact HO554.out) hg hat);have n2_:=Z0 (Kd.R_after (ok:=(fun k_=>some k_ ≠ (.slice Ao41 y546.length co41 : Value).ownBlock ∧ some k_ ≠ (.slice Ao44 y552.length co44 : Value).ownBlock)) (by (with_reducible repeat (first|apply Z3|apply Z2|apply Z4));exact Zj HO557.out (fun _ hk=>⟨⟨hk.1.1.2,hk.1.2⟩,hk.2⟩)) hg hat);have n3_:=Z0 (hb);have n4_:=Z0 (ho);clear HO548;clear HO554;clear HO557;clear HB;clear HO560;have HO548:=n0_;have HO554:=n1_;have HO557:=n2_;have HB:=n3_;have HO563:=n4_;clear n0_ n1_ n2_ n3_ n4_;clear ho hb hg hat;obtain ⟨Ao49,co49,eo49⟩:=Kd.R_slice HO563.out;subst eo49)|((with_reducible refine Zi (f:=11) rfl ?_);refine goesL_ (some 27) rfl rfl Try.func11 (by kernel_rfl) rfl #[.slice Ao49 y561.length co49] rfl (by (try simp only [Zn,Zo,Zp]);first|done|rfl|(simp only [Zl,Zm];rfl)) ?_;(with_reducible refine (impl_Digest.calls k _ _ y561 t564 _ ?side1 ?side2 A38.out).mono ?_);(case side1=>repeat (first|exact (Z7 HO563.out).2.2|(with_reducible refine Za ?_ _)|(with_reducible refine Z9 ?_ _)|(with_reducible refine Zb ?_)));(case side2=>exact (Z7 HO563.out).2.1);rintro e w50 ⟨v565,rfl,ho0,hb⟩;refine ⟨_,rfl,?_⟩;have n0_:=Z0 (Zc (by (with_reducible repeat (first|apply Z3|apply Z2|apply Z4));exact HO548.out) (Ze ho0) hb);have n1_:=Z0 (Zc (by (with_reducible repeat (first|apply Z3|apply Z2|apply Z4));exact HO554.out) (Ze ho0) hb);have n2_:=Z0 (Zc (by (with_reducible repeat (first|apply Z3|apply Z2|apply Z4));exact HO557.out) (Ze ho0) hb);have n3_:=Z0 (Zc (by (with_reducible repeat (first|apply Z3|apply Z2|apply Z4));exact HO563.out) (Ze ho0) hb);have n4_:=Z0 (Zh (Zd (Zd (Zd (Zd ho0 (Zf (by (with_reducible repeat (first|apply Z3|apply Z2|apply Z4));exact HO548.out))) (Zf (by (with_reducible repeat (first|apply Z3|apply Z2|apply Z4));exact HO554.out))) (Zf (by (with_reducible repeat (first|apply Z3|apply Z2|apply Z4));exact HO557.out))) (Zf (by (with_reducible repeat (first|apply Z3|apply Z2|apply Z4));exact HO563.out))) (Z8 (by repeat (first|(with_reducible first|exact HB.out|apply Z6|apply Z1|apply Z5)|exact HB.out))));have n5_:=Z0 (Zg (by repeat (first|(with_reducible first|exact HB.out|apply Z6|apply Z1|apply Z5)|exact HB.out)) hb);clear HO548;clear HO554;clear HO557;clear HO563;clear HB;have HO548:=n0_;have HO554:=n1_;have HO557:=n2_;have HO563:=n3_;have HO566:=n4_;have HB:=n5_;clear n0_ n1_ n2_ n3_ n4_ n5_;(try clear hb);(try clear hb2);(try clear hk);(try clear hi);(try clear ho0)))
  go_ret
  exact ⟨_,by first|rfl|(simp [errW_none,errW_some]<;>rfl)|(simp only [← hji30];first|rfl|(simp [errW_none,errW_some]<;>rfl))|(simp [*,errW_none,errW_some]<;>rfl),by (with_reducible repeat (first|apply Z3|apply Z2|apply Z4));exact Zj HO566.out (fun _ hk=>trivial),by repeat (first|(with_reducible first|exact HB.out|apply Z6|apply Z1|apply Z5)|exact HB.out)⟩
 rw [if_pos c3] at H
 have c3b0 : decide (64 < (l0.length : Int)) = true:=decide_eq_true c3
 have c3b1 : decide (64 < l0.length) = true:=decide_eq_true (by omega)
 clear c3
 replace H:=Option.bind_eq_some_iff.mp H
 obtain ⟨t516,A40,H⟩:=H
 replace H : ((slices_Clone_byte_byte.f t516).bind fun t519=>(if 0 ≤ (wrap64 (64 - (t516.length : Int))) then (if t519.length + (wrap64 (64 - (t516.length : Int)) : Int).toNat < 140737488355328 then ((some (t519 ++ List.replicate (wrap64 (64 - (t516.length : Int)) : Int).toNat 0 : List Int)).bind fun y522=>((impl_xored.f k y522 54).bind fun t525=>(if t525.length + l1.length < 140737488355328 then ((impl_Digest.f k (t525 ++ l1)).bind fun t531=>((impl_xored.f k y522 92).bind fun t534=>(if t534.length + t531.length < 140737488355328 then ((impl_Digest.f k (t534 ++ t531)).bind fun t540=>(some t540)) else (none)))) else (none)))) else (none)) else (none))) = some r:=H
 have A4:=Z0 A40
 clear A40
 replace H:=Option.bind_eq_some_iff.mp H
 obtain ⟨t519,A50,H⟩:=H
 replace H : (if 0 ≤ (wrap64 (64 - (t516.length : Int))) then (if t519.length + (wrap64 (64 - (t516.length : Int)) : Int).toNat < 140737488355328 then ((some (t519 ++ List.replicate (wrap64 (64 - (t516.length : Int)) : Int).toNat 0 : List Int)).bind fun y522=>((impl_xored.f k y522 54).bind fun t525=>(if t525.length + l1.length < 140737488355328 then ((impl_Digest.f k (t525 ++ l1)).bind fun t531=>((impl_xored.f k y522 92).bind fun t534=>(if t534.length + t531.length < 140737488355328 then ((impl_Digest.f k (t534 ++ t531)).bind fun t540=>(some t540)) else (none)))) else (none)))) else (none)) else (none)) = some r:=H
 have A5:=Z0 A50
 clear A50
 obtain ⟨ji6,hji6⟩ : ∃ j_ : Int,(wrap64 (64 - (t516.length : Int))) = j_:=⟨_,rfl⟩
 replace H : (if 0 ≤ (ji6) then (if t519.length + (ji6 : Int).toNat < 140737488355328 then ((some (t519 ++ List.replicate (ji6 : Int).toNat 0 : List Int)).bind fun y522=>((impl_xored.f k y522 54).bind fun t525=>(if t525.length + l1.length < 140737488355328 then ((impl_Digest.f k (t525 ++ l1)).bind fun t531=>((impl_xored.f k y522 92).bind fun t534=>(if t534.length + t531.length < 140737488355328 then ((impl_Digest.f k (t534 ++ t531)).bind fun t540=>(some t540)) else (none)))) else (none)))) else (none)) else (none)) = some r:=by first|(rw [hji6] at H;exact H)|(simp only [hji6] at H ⊢;exact H)
 (try rw [hji6] at A4)
 (try rw [hji6] at A5)
 have hji6w : (IntKind.i64.wrap (64 - (t516.length : Int))) = ji6:=(i64_w _).trans hji6
 by_cases c7 : 0 ≤ (ji6)
 case neg =>
  rw [if_neg c7] at H
  exact absurd H (by simp)
 rw [if_pos c7] at H
 have c7b0:=eq_true c7
 have c7b1 : decide (0 ≤ (ji6)) = true:=decide_eq_true c7
 clear c7
 by_cases c8 : t519.length + (ji6 : Int).toNat < 140737488355328
 case neg =>
  rw [if_neg c8] at H
  exact absurd H (by simp)
 rw [if_pos c8] at H
 have LMc8:=Z0 c8
 clear c8
 obtain ⟨y522,hy522⟩ : ∃ y_ : List Int,y_ = (t519 ++ List.replicate (ji6 : Int).toNat 0):=⟨_,rfl⟩
 replace H : ((impl_xored.f k y522 54).bind fun t525=>(if t525.length + l1.length < 140737488355328 then ((impl_Digest.f k (t525 ++ l1)).bind fun t531=>((impl_xored.f k y522 92).bind fun t534=>(if t534.length + t531.length < 140737488355328 then ((impl_Digest.f k (t534 ++ t531)).bind fun t540=>(some t540)) else (none)))) else (none))) = some r:=by first|(rw [hy522];with_reducible exact H)|(have H2_:=(Zk _ _).symm.trans H;rw [hy522];with_reducible exact H2_)|(have H2_:=(Zk _ _).symm.trans H;with_reducible exact H2_)|with_reducible exact H|(rw [hy522];exact H)|exact H
 have Ny522:=Z0 hy522
 clear hy522
 replace H:=Option.bind_eq_some_iff.mp H
 obtain ⟨t525,A90,H⟩:=H
 replace H : (if t525.length + l1.length < 140737488355328 then ((impl_Digest.f k (t525 ++ l1)).bind fun t531=>((impl_xored.f k y522 92).bind fun t534=>(if t534.length + t531.length < 140737488355328 then ((impl_Digest.f k (t534 ++ t531)).bind fun t540=>(some t540)) else (none)))) else (none)) = some r:=H
 have A9:=Z0 A90
 clear A90
 by_cases c10 : t525.length + l1.length < 140737488355328
 case neg =>
  rw [if_neg c10] at H
  exact absurd H (by simp)
 rw [if_pos c10] at H
 have LMc10:=Z0 c10
 clear c10
 obtain ⟨y528,hy528⟩ : ∃ y_ : List Int,y_ = (t525 ++ l1):=⟨_,rfl⟩
 replace H : ((impl_Digest.f k y528).bind fun t531=>((impl_xored.f k y522 92).bind fun t534=>(if t534.length + t531.length < 140737488355328 then ((impl_Digest.f k (t534 ++ t531)).bind fun t540=>(some t540)) else (none)))) = some r:=by first|(rw [hy528];with_reducible exact H)|(have H2_:=(Zk _ _).symm.trans H;rw [hy528];with_reducible exact H2_)|(have H2_:=(Zk _ _).symm.trans H;with_reducible exact H2_)|with_reducible exact H|(rw [hy528];exact H)|exact H
 have Ny528:=Z0 hy528
 clear hy528
 replace H:=Option.bind_eq_some_iff.mp H
 obtain ⟨t531,A110,H⟩:=H
 replace H : ((impl_xored.f k y522 92).bind fun t534=>(if t534.length + t531.length < 140737488355328 then ((impl_Digest.f k (t534 ++ t531)).bind fun t540=>(some t540)) else (none))) = some r:=H
 have A11:=Z0 A110
 clear A110
 replace H:=Option.bind_eq_some_iff.mp H
 obtain ⟨t534,A120,H⟩:=H
 replace H : (if t534.length + t531.length < 140737488355328 then ((impl_Digest.f k (t534 ++ t531)).bind fun t540=>(some t540)) else (none)) = some r:=H
 have A12:=Z0 A120
 clear A120
 by_cases c13 : t534.length + t531.length < 140737488355328
 case neg =>
  rw [if_neg c13] at H
  exact absurd H (by simp)
 rw [if_pos c13] at H
 have LMc13:=Z0 c13
 clear c13
 obtain ⟨y537,hy537⟩ : ∃ y_ : List Int,y_ = (t534 ++ t531):=⟨_,rfl⟩
 replace H : ((impl_Digest.f k y537).bind fun t540=>(some t540)) = some r:=by first|(rw [hy537];with_reducible exact H)|(have H2_:=(Zk _ _).symm.trans H;rw [hy537];with_reducible exact H2_)|(have H2_:=(Zk _ _).symm.trans H;with_reducible exact H2_)|with_reducible exact H|(rw [hy537];exact H)|exact H
 have Ny537:=Z0 hy537
 clear hy537
 replace H:=Option.bind_eq_some_iff.mp H
 obtain ⟨t540,A140,H⟩:=H
 replace H : (some t540) = some r:=H
 have A14:=Z0 A140
 clear A140
 obtain rfl:=Option.some.inj H
 go_enter Try.func6,Try.ntmps6
 go_wp2_with (first|((with_reducible refine Zi (f:=11) rfl ?_);refine goesL_ (some 11) rfl rfl Try.func11 (by kernel_rfl) rfl #[.slice A0 l0.length c0] rfl (by (try simp only [Zn,Zo,Zp]);first|done|rfl|(simp only [Zl,Zm];rfl)) ?_;(with_reducible refine (impl_Digest.calls k _ _ l0 t516 _ ?side1 ?side2 A4.out).mono ?_);(case side1=>repeat (first|exact HR0.out|(with_reducible refine Za ?_ _)|(with_reducible refine Z9 ?_ _)|(with_reducible refine Zb ?_)));(case side2=>exact HC0.out);rintro e w15 ⟨v517,rfl,ho0,hb⟩;refine ⟨_,rfl,?_⟩;have n0_:=Z0 (Zh ho0 (Z8 (by repeat (first|(with_reducible first|exact HB.out|apply Z6|apply Z1|apply Z5)|exact HB.out))));have n1_:=Z0 (Zg (by repeat (first|(with_reducible first|exact HB.out|apply Z6|apply Z1|apply Z5)|exact HB.out)) hb);clear HB;have HO518:=n0_;have HB:=n1_;clear n0_ n1_;(try clear hb);(try clear hb2);(try clear hk);(try clear hi);(try clear ho0);obtain ⟨Ao16,co16,eo16⟩:=Kd.R_slice HO518.out;subst eo16)|((with_reducible refine Zi (f:=12) rfl ?_);refine goesL_ (some 13) rfl rfl Try.func12 (by kernel_rfl) rfl #[.slice Ao16 t516.length co16] rfl (by (try simp only [Zn,Zo,Zp]);first|done|rfl|(simp only [Zl,Zm];rfl)) ?_;(with_reducible refine (slices_Clone_byte_byte.calls _ _ t516 t519 _ ?side1 ?side2 A5.out).mono ?_);(case side1=>repeat (first|exact (Z7 HO518.out).2.2|(with_reducible refine Za ?_ _)|(with_reducible refine Z9 ?_ _)|(with_reducible refine Zb ?_)));(case side2=>exact (Z7 HO518.out).2.1);rintro e w17 ⟨v520,rfl,ho0,hb⟩;refine ⟨_,rfl,?_⟩;have n0_:=Z0 (Zc (by (with_reducible repeat (first|apply Z3|apply Z2|apply Z4));exact HO518.out) (Ze ho0) hb);have n1_:=Z0 (Zh (Zd ho0 (Zf (by (with_reducible repeat (first|apply Z3|apply Z2|apply Z4));exact HO518.out))) (Z8 (by repeat (first|(with_reducible first|exact HB.out|apply Z6|apply Z1|apply Z5)|exact HB.out))));have n2_:=Z0 (Zg (by repeat (first|(with_reducible first|exact HB.out|apply Z6|apply Z1|apply Z5)|exact HB.out)) hb);clear HO518;clear HB;have HO518:=n0_;have HO521:=n1_;have HB:=n2_;clear n0_ n1_ n2_;(try clear hb);(try clear hb2);(try clear hk);(try clear hi);(try clear ho0))|(at_builtin;refine Kd.R_append_zeros (Kd.int .u8) (w0:=w) w.heap.size rfl (.tmp 13) (.tmp 16) 22 3 5 (.int .u8 0) 1 rfl Try.underlying22 Try.underlying3 info5 rfl (by decide) (by omega) v520 t519 0 (ji6 : Int) (fun k_=>some k_ ≠ (.slice Ao16 t516.length co16 : Value).ownBlock) rfl rfl rfl ?aF ?aO (of_decide_eq_true (by first|(with_reducible assumption)|assumption)) ?aB ?aS ?aL ?_;(case aB=>exact (by repeat (first|(with_reducible first|exact HB.out|apply Z6|apply Z1|apply Z5)|exact HB.out)));(case aF=>exact (fun k_ hk=>Kd.fresh' (Zf (by (with_reducible repeat (first|apply Z3|apply Z2|apply Z4));exact HO518.out)) k_ hk));(case aO=>exact (by (with_reducible repeat (first|apply Z3|apply Z2|apply Z4));exact Zj HO521.out (fun _ hk=>hk.2)));(case aS=>exact (Z8 (by repeat (first|(with_reducible first|exact HB.out|apply Z6|apply Z1|apply Z5)|exact HB.out))));(case aL=>have:=LMc8.out;omega);intro v523 w18 ho hb hg hat;rw [← Ny522.out] at ho;have n0_:=Z0 (Kd.R_after (ok:=(fun _=>True)) (by (with_reducible repeat (first|apply Z3|apply Z2|apply Z4));exact HO518.out) hg hat);have n1_:=Z0 (hb);have n2_:=Z0 (ho);clear HO518;clear HB;clear HO521;have HO518:=n0_;have HB:=n1_;have HO524:=n2_;clear n0_ n1_ n2_;clear ho hb hg hat;obtain ⟨Ao19,co19,eo19⟩:=Kd.R_slice HO524.out;subst eo19)|((with_reducible refine Zi (f:=13) rfl ?_);refine goesL_ (some 19) rfl rfl Try.func13 (by kernel_rfl) rfl #[.slice Ao19 y522.length co19,.int .u8 54] rfl (by (try simp only [Zn,Zo,Zp]);first|done|rfl|(simp only [Zl,Zm];rfl)) ?_;(with_reducible refine (impl_xored.calls k _ _ y522 54 t525 _ ?side1 ?side2 A9.out).mono ?_);(case side1=>repeat (first|exact (Z7 HO524.out).2.2|(with_reducible refine Za ?_ _)|(with_reducible refine Z9 ?_ _)|(with_reducible refine Zb ?_)));(case side2=>exact (Z7 HO524.out).2.1);rintro e w20 ⟨v526,rfl,ho0,hb⟩;refine ⟨_,rfl,?_⟩;have n0_:=Z0 (Zc (by (with_reducible repeat (first|apply Z3|apply Z2|apply Z4));exact HO518.out) (Ze ho0) hb);have n1_:=Z0 (Zc (by (with_reducible repeat (first|apply Z3|apply Z2|apply Z4));exact HO524.out) (Ze ho0) hb);have n2_:=Z0 (Zh (Zd (Zd ho0 (Zf (by (with_reducible repeat (first|apply Z3|apply Z2|apply Z4));exact HO518.out))) (Zf (by (with_reducible repeat (first|apply Z3|apply Z2|apply Z4));exact HO524.out))) (Z8 (by repeat (first|(with_reducible first|exact HB.out|apply Z6|apply Z1|apply Z5)|exact HB.out))));have n3_:=Z0 (Zg (by repeat (first|(with_reducible first|exact HB.out|apply Z6|apply Z1|apply Z5)|exact HB.out)) hb);clear HO518;clear HO524;clear HB;have HO518:=n0_;have HO524:=n1_;have HO527:=n2_;have HB:=n3_;clear n0_ n1_ n2_ n3_;(try clear hb);(try clear hb2);(try clear hk);(try clear hi);(try clear ho0))|((with_reducible refine gate_builtin (b:=.append) (xs:=#[.tmp 19,.tmp 20]) rfl ?_);at_builtin;refine Kd.R_append_rows (Kd.int .u8) (w0:=w) w.heap.size rfl (.tmp 19) (.tmp 20) 22 5 (.int .u8 0) 1 rfl Try.underlying22 info5 rfl (by decide) (by omega) v526 t525 l1 _ _ _ (fun k_=>some k_ ≠ (.slice Ao16 t516.length co16 : Value).ownBlock ∧ some k_ ≠ (.slice Ao19 y522.length co19 : Value).ownBlock) (fun _=>False) rfl rfl ?aO ?aR (fun _ _ h=>h) (fun _ h=>h.elim) ?aF ?aB ?aS ?aL ?_;(case aR=>repeat (first|exact (Kd.C_below HR1.out HB.out)|(with_reducible refine Za ?_ _)|(with_reducible refine Z9 ?_ _)|(with_reducible refine Zb ?_)));(case aB=>exact (by repeat (first|(with_reducible first|exact HB.out|apply Z6|apply Z1|apply Z5)|exact HB.out)));(case aF=>exact (fun k_ hk=>⟨Kd.fresh' (Zf (by (with_reducible repeat (first|apply Z3|apply Z2|apply Z4));exact HO518.out)) k_ hk,Kd.fresh' (Zf (by (with_reducible repeat (first|apply Z3|apply Z2|apply Z4));exact HO524.out)) k_ hk⟩));(case aO=>exact (by (with_reducible repeat (first|apply Z3|apply Z2|apply Z4));exact Zj HO527.out (fun _ hk=>⟨hk.1.2,hk.2⟩)));(case aS=>exact (Z8 (by repeat (first|(with_reducible first|exact HB.out|apply Z6|apply Z1|apply Z5)|exact HB.out))));(case aL=>have:=LMc10.out;omega);intro v529 w21 ho hb hg hat;rw [← Ny528.out] at ho;have n0_:=Z0 (Kd.R_after (ok:=(fun k_=>some k_ ≠ (.slice Ao19 y522.length co19 : Value).ownBlock)) (by (with_reducible repeat (first|apply Z3|apply Z2|apply Z4));exact Zj HO518.out (fun _ hk=>⟨hk.1.2,hk.2⟩)) hg hat);have n1_:=Z0 (Kd.R_after (ok:=(fun k_=>some k_ ≠ (.slice Ao16 t516.length co16 : Value).ownBlock)) (by (with_reducible repeat (first|apply Z3|apply Z2|apply Z4));exact HO524.out) hg hat);have n2_:=Z0 (hb);have n3_:=Z0 (ho);clear HO518;clear HO524;clear HB;clear HO527;have HO518:=n0_;have HO524:=n1_;have HB:=n2_;have HO530:=n3_;clear n0_ n1_ n2_ n3_;clear ho hb hg hat;obtain ⟨Ao22,co22,eo22⟩:=Kd.R_slice HO530.out;subst eo22)|((with_reducible refine Zi (f:=11) rfl ?_);refine goesL_ (some 22) rfl rfl Try.func11 (by kernel_rfl) rfl #[.slice Ao22 y528.length co22] rfl (by (try simp only [Zn,Zo,Zp]);first|done|rfl|(simp only [Zl,Zm];rfl)) ?_;(with_reducible refine (impl_Digest.calls k _ _ y528 t531 _ ?side1 ?side2 A11.out).mono ?_);(case side1=>repeat (first|exact (Z7 HO530.out).2.2|(with_reducible refine Za ?_ _)|(with_reducible refine Z9 ?_ _)|(with_reducible refine Zb ?_)));(case side2=>exact (Z7 HO530.out).2.1);rintro e w23 ⟨v532,rfl,ho0,hb⟩;refine ⟨_,rfl,?_⟩;have n0_:=Z0 (Zc (by (with_reducible repeat (first|apply Z3|apply Z2|apply Z4));exact HO518.out) (Ze ho0) hb);have n1_:=Z0 (Zc (by (with_reducible repeat (first|apply Z3|apply Z2|apply Z4));exact HO524.out) (Ze ho0) hb);have n2_:=Z0 (Zc (by (with_reducible repeat (first|apply Z3|apply Z2|apply Z4));exact HO530.out) (Ze ho0) hb);have n3_:=Z0 (Zh (Zd (Zd (Zd ho0 (Zf (by (with_reducible repeat (first|apply Z3|apply Z2|apply Z4));exact HO518.out))) (Zf (by (with_reducible repeat (first|apply Z3|apply Z2|apply Z4));exact HO524.out))) (Zf (by (with_reducible repeat (first|apply Z3|apply Z2|apply Z4));exact HO530.out))) (Z8 (by repeat (first|(with_reducible first|exact HB.out|apply Z6|apply Z1|apply Z5)|exact HB.out))));have n4_:=Z0 (Zg (by repeat (first|(with_reducible first|exact HB.out|apply Z6|apply Z1|apply Z5)|exact HB.out)) hb);clear HO518;clear HO524;clear HO530;clear HB;have HO518:=n0_;have HO524:=n1_;have HO530:=n2_;have HO533:=n3_;have HB:=n4_;clear n0_ n1_ n2_ n3_ n4_;(try clear hb);(try clear hb2);(try clear hk);(try clear hi);(try clear ho0))|((with_reducible refine Zi (f:=13) rfl ?_);refine goesL_ (some 24) rfl rfl Try.func13 (by kernel_rfl) rfl #[.slice Ao19 y522.length co19,.int .u8 92] rfl (by (try simp only [Zn,Zo,Zp]);first|done|rfl|(simp only [Zl,Zm];rfl)) ?_;(with_reducible refine (impl_xored.calls k _ _ y522 92 t534 _ ?side1 ?side2 A12.out).mono ?_);(case side1=>repeat (first|exact (Z7 HO524.out).2.2|(with_reducible refine Za ?_ _)|(with_reducible refine Z9 ?_ _)|(with_reducible refine Zb ?_)));(case side2=>exact (Z7 HO524.out).2.1);rintro e w24 ⟨v535,rfl,ho0,hb⟩;refine ⟨_,rfl,?_⟩;have n0_:=Z0 (Zc (by (with_reducible repeat (first|apply Z3|apply Z2|apply Z4));exact HO518.out) (Ze ho0) hb);have n1_:=Z0 (Zc (by (with_reducible repeat (first|apply Z3|apply Z2|apply Z4));exact HO524.out) (Ze ho0) hb);have n2_:=Z0 (Zc (by (with_reducible repeat (first|apply Z3|apply Z2|apply Z4));exact HO530.out) (Ze ho0) hb);have n3_:=Z0 (Zc (by (with_reducible repeat (first|apply Z3|apply Z2|apply Z4));exact HO533.out) (Ze ho0) hb);have n4_:=Z0 (Zh (Zd (Zd (Zd (Zd ho0 (Zf (by (with_reducible repeat (first|apply Z3|apply Z2|apply Z4));exact HO518.out))) (Zf (by (with_reducible repeat (first|apply Z3|apply Z2|apply Z4));exact HO524.out))) (Zf (by (with_reducible repeat (first|apply Z3|apply Z2|apply Z4));exact HO530.out))) (Zf (by (with_reducible repeat (first|apply Z3|apply Z2|apply Z4));exact HO533.out))) (Z8 (by repeat (first|(with_reducible first|exact HB.out|apply Z6|apply Z1|apply Z5)|exact HB.out))));have n5_:=Z0 (Zg (by repeat (first|(with_reducible first|exact HB.out|apply Z6|apply Z1|apply Z5)|exact HB.out)) hb);clear HO518;clear HO524;clear HO530;clear HO533;clear HB;have HO518:=n0_;have HO524:=n1_;have HO530:=n2_;have HO533:=n3_;have HO536:=n4_;have HB:=n5_;clear n0_ n1_ n2_ n3_ n4_ n5_;(try clear hb);(try clear hb2);(try clear hk);(try clear hi);(try clear ho0);obtain ⟨Ao26,co26,eo26⟩:=Kd.R_slice HO533.out;subst eo26)|((with_reducible refine gate_builtin (b:=.append) (xs:=#[.tmp 24,.tmp 25]) rfl ?_);at_builtin;refine Kd.R_append_rows (Kd.int .u8) (w0:=w) w.heap.size rfl (.tmp 24) (.tmp 25) 22 5 (.int .u8 0) 1 rfl Try.underlying22 info5 rfl (by decide) (by omega) v535 t534 t531 _ _ _ (fun k_=>some k_ ≠ (.slice Ao16 t516.length co16 : Value).ownBlock ∧ some k_ ≠ (.slice Ao19 y522.length co19 : Value).ownBlock ∧ some k_ ≠ (.slice Ao22 y528.length co22 : Value).ownBlock ∧ some k_ ≠ (.slice Ao26 t531.length co26 : Value).ownBlock) (fun _=>False) rfl rfl ?aO ?aR (fun _ _ h=>h) (fun _ h=>h.elim) ?aF ?aB ?aS ?aL ?_;(case aR=>repeat (first|exact (Z7 HO533.out).2.2|(with_reducible refine Za ?_ _)|(with_reducible refine Z9 ?_ _)|(with_reducible refine Zb ?_)));(case aB=>exact (by repeat (first|(with_reducible first|exact HB.out|apply Z6|apply Z1|apply Z5)|exact HB.out)));(case aF=>exact (fun k_ hk=>⟨Kd.fresh' (Zf (by (with_reducible repeat (first|apply Z3|apply Z2|apply Z4));exact HO518.out)) k_ hk,Kd.fresh' (Zf (by (with_reducible repeat (first|apply Z3|apply Z2|apply Z4));exact HO524.out)) k_ hk,Kd.fresh' (Zf (by (with_reducible repeat (first|apply Z3|apply Z2|apply Z4));exact HO530.out)) k_ hk,Kd.fresh' (Zf (by (with_reducible repeat (first|apply Z3|apply Z2|apply Z4));exact HO533.out)) k_ hk⟩));(case aO=>exact (by (with_reducible repeat (first|apply Z3|apply Z2|apply Z4));exact Zj HO536.out (fun _ hk=>⟨hk.1.1.1.2,⟨hk.1.1.2,⟨hk.1.2,hk.2⟩⟩⟩)));(case aS=>exact (Z8 (by repeat (first|(with_reducible first|exact HB.out|apply Z6|apply Z1|apply Z5)|exact HB.out))));(case aL=>have:=LMc13.out;omega);intro v538 w25 ho hb hg hat;rw [← Ny537.out] at ho;have n0_:=Z0 (Kd.R_after (ok:=(fun k_=>some k_ ≠ (.slice Ao19 y522.length co19 : Value).ownBlock ∧ some k_ ≠ (.slice Ao22 y528.length co22 : Value).ownBlock ∧ some k_ ≠ (.slice Ao26 t531.length co26 : Value).ownBlock)) (by (with_reducible repeat (first|apply Z3|apply Z2|apply Z4));exact Zj HO518.out (fun _ hk=>⟨⟨hk.1.1.1,⟨hk.1.1.2,hk.1.2⟩⟩,hk.2⟩)) hg hat);have n1_:=Z0 (Kd.R_after (ok:=(fun k_=>some k_ ≠ (.slice Ao16 t516.length co16 : Value).ownBlock ∧ some k_ ≠ (.slice Ao22 y528.length co22 : Value).ownBlock ∧ some k_ ≠ (.slice Ao26 t531.length co26 : Value).ownBlock)) (by (with_reducible repeat (first|apply Z3|apply Z2|apply Z4));exact Zj HO524.out (fun _ hk=>⟨⟨hk.1.1.1,⟨hk.1.1.2,hk.1.2⟩⟩,hk.2⟩)) hg hat);have n2_:=Z0 (Kd.R_after (ok:=(fun k_=>some k_ ≠ (.slice Ao16 t516.length co16 : Value).ownBlock ∧ some k_ ≠ (.slice Ao19 y522.length co19 : Value).ownBlock ∧ some k_ ≠ (.slice Ao26 t531.length co26 : Value).ownBlock)) (by (with_reducible repeat (first|apply Z3|apply Z2|apply Z4));exact Zj HO530.out (fun _ hk=>⟨⟨hk.1.1.1,⟨hk.1.1.2,hk.1.2⟩⟩,hk.2⟩)) hg hat);have n3_:=Z0 (Kd.R_after (ok:=(fun k_=>some k_ ≠ (.slice Ao16 t516.length co16 : Value).ownBlock ∧ some k_ ≠ (.slice Ao19 y522.length co19 : Value).ownBlock ∧ some k_ ≠ (.slice Ao22 y528.length co22 : Value).ownBlock)) (by (with_reducible repeat (first|apply Z3|apply Z2|apply Z4));exact Zj HO533.out (fun _ hk=>⟨⟨hk.1.1.1.2,⟨hk.1.1.2,hk.1.2⟩⟩,hk.2⟩)) hg hat);have n4_:=Z0 (hb);have n5_:=Z0 (ho);clear HO518;clear HO524;clear HO530;clear HO533;clear HB;clear HO536;have HO518:=n0_;have HO524:=n1_;have HO530:=n2_;have HO533:=n3_;have HB:=n4_;have HO539:=n5_;clear n0_ n1_ n2_ n3_ n4_ n5_;clear ho hb hg hat;obtain ⟨Ao27,co27,eo27⟩:=Kd.R_slice HO539.out;subst eo27)|((with_reducible refine Zi (f:=11) rfl ?_);refine goesL_ (some 27) rfl rfl Try.func11 (by kernel_rfl) rfl #[.slice Ao27 y537.length co27] rfl (by (try simp only [Zn,Zo,Zp]);first|done|rfl|(simp only [Zl,Zm];rfl)) ?_;(with_reducible refine (impl_Digest.calls k _ _ y537 t540 _ ?side1 ?side2 A14.out).mono ?_);(case side1=>repeat (first|exact (Z7 HO539.out).2.2|(with_reducible refine Za ?_ _)|(with_reducible refine Z9 ?_ _)|(with_reducible refine Zb ?_)));(case side2=>exact (Z7 HO539.out).2.1);rintro e w28 ⟨v541,rfl,ho0,hb⟩;refine ⟨_,rfl,?_⟩;have n0_:=Z0 (Zc (by (with_reducible repeat (first|apply Z3|apply Z2|apply Z4));exact HO518.out) (Ze ho0) hb);have n1_:=Z0 (Zc (by (with_reducible repeat (first|apply Z3|apply Z2|apply Z4));exact HO524.out) (Ze ho0) hb);have n2_:=Z0 (Zc (by (with_reducible repeat (first|apply Z3|apply Z2|apply Z4));exact HO530.out) (Ze ho0) hb);have n3_:=Z0 (Zc (by (with_reducible repeat (first|apply Z3|apply Z2|apply Z4));exact HO533.out) (Ze ho0) hb);have n4_:=Z0 (Zc (by (with_reducible repeat (first|apply Z3|apply Z2|apply Z4));exact HO539.out) (Ze ho0) hb);have n5_:=Z0 (Zh (Zd (Zd (Zd (Zd (Zd ho0 (Zf (by (with_reducible repeat (first|apply Z3|apply Z2|apply Z4));exact HO518.out))) (Zf (by (with_reducible repeat (first|apply Z3|apply Z2|apply Z4));exact HO524.out))) (Zf (by (with_reducible repeat (first|apply Z3|apply Z2|apply Z4));exact HO530.out))) (Zf (by (with_reducible repeat (first|apply Z3|apply Z2|apply Z4));exact HO533.out))) (Zf (by (with_reducible repeat (first|apply Z3|apply Z2|apply Z4));exact HO539.out))) (Z8 (by repeat (first|(with_reducible first|exact HB.out|apply Z6|apply Z1|apply Z5)|exact HB.out))));have n6_:=Z0 (Zg (by repeat (first|(with_reducible first|exact HB.out|apply Z6|apply Z1|apply Z5)|exact HB.out)) hb);clear HO518;clear HO524;clear HO530;clear HO533;clear HO539;clear HB;have HO518:=n0_;have HO524:=n1_;have HO530:=n2_;have HO533:=n3_;have HO539:=n4_;have HO542:=n5_;have HB:=n6_;clear n0_ n1_ n2_ n3_ n4_ n5_ n6_;(try clear hb);(try clear hb2);(try clear hk);(try clear hi);(try clear ho0)))
 go_ret
 exact ⟨_,by first|rfl|(simp [errW_none,errW_some]<;>rfl)|(simp only [← hji6];first|rfl|(simp [errW_none,errW_some]<;>rfl))|(simp [*,errW_none,errW_some]<;>rfl),by (with_reducible repeat (first|apply Z3|apply Z2|apply Z4));exact Zj HO542.out (fun _ hk=>trivial),by repeat (first|(with_reducible first|exact HB.out|apply Z6|apply Z1|apply Z5)|exact HB.out)⟩

/-! ### laws_eqByteS: function 7 -/
def laws_eqByteS.l0 : Nat → List Int → List Int → Int → Option (Bool)
 | 0, _, _, _ => none
 | k + 1, x0, x1, x5 => if x5 < (x0.length : Int) then (if 0 ≤ x5 then (if x5 < (x1.length : Int) then (if (rd x0 x5) = (rd x1 x5) then (laws_eqByteS.l0 k x0 x1 (wrap64 (x5 + 1))) else (some false)) else (none)) else (none)) else (some true)
def laws_eqByteS.f (k : Nat) (l0 : List Int) (l1 : List Int) : Option (Bool) := if (l0.length : Int) = (l1.length : Int) then (laws_eqByteS.l0 k l0 l1 0) else (some false)
theorem laws_eqByteS.mono_l : ∀ k, (∀ y0 y1 y2, LeO (laws_eqByteS.l0 k y0 y1 y2) (laws_eqByteS.l0 (k + 1) y0 y1 y2))
 | 0 => fun _ _ _ r h => by simp [laws_eqByteS.l0] at h
 | k + 1 => by
  have ih0:=laws_eqByteS.mono_l k
  · intro y0 y1 y2
    unfold laws_eqByteS.l0
    repeat' first
    | (with_reducible exact ih0 _ _ _)
    | (with_reducible exact LeO.refl _)
    | (with_reducible exact LeO.none _)
    | (with_reducible refine LeO.ite ?_ ?_)
    | (with_reducible refine LeO.bind ?_ (fun _=>?_))
    | exact ih0 _ _ _
    | exact LeO.none _
    | refine LeO.ite ?_ ?_
    | refine LeO.bind ?_ (fun _=>?_)
theorem laws_eqByteS.mono : ∀ a0 a1 k, LeO (laws_eqByteS.f k a0 a1) (laws_eqByteS.f (k + 1) a0 a1) := by
 intro a0 a1 k
 have ih0:=laws_eqByteS.mono_l k
 unfold laws_eqByteS.f
 repeat' first
  | (with_reducible exact ih0 _ _ _)
  | (with_reducible exact LeO.refl _)
  | (with_reducible exact LeO.none _)
  | (with_reducible refine LeO.ite ?_ ?_)
  | (with_reducible refine LeO.bind ?_ (fun _=>?_))
  | exact ih0 _ _ _
  | exact LeO.none _
  | refine LeO.ite ?_ ?_
  | refine LeO.bind ?_ (fun _=>?_)
set_option maxHeartbeats 8000000 in
set_option maxRecDepth 100000 in
theorem laws_eqByteS.calls (k : Nat) (A0 : Option Addr) (c0 : Nat) (l0 : List Int) (A1 : Option Addr) (c1 : Nat) (l1 : List Int) (r : Bool) (w : World) (hr0 : Kd.C (Kd.int .u8) w A0 l0.length l0) (hc0 : l0.length ≤ c0) (hr1 : Kd.C (Kd.int .u8) w A1 l1.length l1) (hc1 : l1.length ≤ c1) (h : laws_eqByteS.f k l0 l1 = some r) :
 Calls Try.prog 7 #[.slice A0 l0.length c0, .slice A1 l1.length c1] w fun e w' => e = .returned (.bool r) ∧ Drawn0 w w' := by
 have HR0:=Z0 hr0
 have HC0:=Z0 hc0
 clear hr0 hc0
 have HR1:=Z0 hr1
 have HC1:=Z0 hc1
 clear hr1 hc1
 have H : (if (l0.length : Int) = (l1.length : Int) then (laws_eqByteS.l0 k l0 l1 0) else (some false)) = some r:=h
 clear h
 by_cases c3 : (l0.length : Int) = (l1.length : Int)
 case neg =>
  rw [if_neg c3] at H
  have c3b0 : ((l0.length : Int) == (l1.length : Int)) = false:=beq_eq_false_iff_ne.mpr c3
  have c3b1 : ((l0.length : Int) != (l1.length : Int)) = true:=bne_iff_ne.mpr c3
  have c3b2 : (l0.length == l1.length) = false:=by first|simpa using c3|(simp at c3 ⊢;omega)
  obtain rfl:=Option.some.inj H
  go_enter Try.func7,Try.ntmps7
  go_wp2
  repeat (go_quiet (fail);try go_wp2)
  go_ret
  exact ⟨by first|rfl|(simp;done)|(simp [*];done),by repeat (first|exact Drawn0.refl _|apply Drawn0.step)⟩
 rw [if_pos c3] at H
 have c3b0 : ((l0.length : Int) == (l1.length : Int)) = true:=beq_iff_eq.mpr c3
 have c3b1 : ((l0.length : Int) != (l1.length : Int)) = false:=bne_eq_false_iff_eq.mpr c3
 have c3b2 : (l0.length == l1.length) = true:=by first|simpa using c3|(simp at c3 ⊢;omega)
 clear c3
 have H':=Z0 H
 clear H
 go_enter Try.func7,Try.ntmps7
 go_wp2
 repeat (go_quiet (fail);try go_wp2)
 go_loopg [5] k (fun kq v5 w'=>∃ (x5_1 : Int),v5 = .int .i64 x5_1 ∧ Aside0 (laws_eqByteS.l0 kq l0 l1 x5_1 = some r) ∧ Aside0 (kq ≤ k) ∧ Drawn0 w w')
 case atStart=>exact ⟨(0),(by first|rfl|(simp;done)|(simp [*];done)),H',⟨Zq _⟩,by repeat (first|exact Drawn0.refl _|apply Drawn0.step)⟩
 case round =>
  clear H'
  (try clear c1);(try clear p2);(try clear c3);(try clear c3b0);(try clear c3b1);(try clear c3b2)
  obtain ⟨x5_1,rfl,HA,HK1,⟨m1,rfl⟩⟩:=hrel
  cases gk with
  | zero=>exact absurd HA.out (by simp [laws_eqByteS.l0])
  | succ k1 =>
   have H:=HA.out
   clear HA
   simp only [laws_eqByteS.l0] at H
   by_cases c4 : x5_1 < (l0.length : Int)
   case neg =>
    rw [if_neg c4] at H
    have c4b0 : decide (x5_1 < (l0.length : Int)) = false:=decide_eq_false c4
    clear c4
    obtain rfl:=Option.some.inj H
    go_wp2
    repeat (go_quiet (fail);try go_wp2)
    go_ret
    exact ⟨by first|rfl|(simp;done)|(simp [*];done),by repeat (first|exact Drawn0.refl _|apply Drawn0.step)⟩
   rw [if_pos c4] at H
   have c4b0 : decide (x5_1 < (l0.length : Int)) = true:=decide_eq_true c4
   clear c4
   by_cases c5 : 0 ≤ x5_1
   case neg =>
    rw [if_neg c5] at H
    exact absurd H (by simp)
   rw [if_pos c5] at H
   have c5b0 : decide (0 ≤ x5_1) = true:=decide_eq_true c5
   clear c5
   by_cases c6 : x5_1 < (l1.length : Int)
   case neg =>
    rw [if_neg c6] at H
    exact absurd H (by simp)
   rw [if_pos c6] at H
   have c6b0 : decide (x5_1 < (l1.length : Int)) = true:=decide_eq_true c6
   clear c6
   by_cases c7 : (rd l0 x5_1) = (rd l1 x5_1)
   case neg =>
    rw [if_neg c7] at H
    have c7b0 : ((rd l0 x5_1) == (rd l1 x5_1)) = false:=beq_eq_false_iff_ne.mpr c7
    have c7b1 : ((rd l0 x5_1) != (rd l1 x5_1)) = true:=bne_iff_ne.mpr c7
    obtain rfl:=Option.some.inj H
    have p567 : 0 ≤ (x5_1 : Int):=of_decide_eq_true (by first|(with_reducible assumption)|assumption)
    have q567 : x5_1 < (l0.length : Int):=of_decide_eq_true (by first|(with_reducible assumption)|assumption)
    obtain ⟨ad567,e567,hx567_0⟩:=Kd.at_int HR0.out x5_1 p567 q567
    cases e567
    replace p567:=eq_true p567
    replace q567:=eq_true q567
    have p568 : 0 ≤ (x5_1 : Int):=of_decide_eq_true (by first|(with_reducible assumption)|assumption)
    have q568 : x5_1 < (l1.length : Int):=of_decide_eq_true (by first|(with_reducible assumption)|assumption)
    obtain ⟨ad568,e568,hx568_0⟩:=Kd.at_int HR1.out x5_1 p568 q568
    cases e568
    replace p568:=eq_true p568
    replace q568:=eq_true q568
    go_wp2
    repeat (go_quiet (fail);try go_wp2)
    go_ret
    exact ⟨by first|rfl|(simp;done)|(simp [*];done),by repeat (first|exact Drawn0.refl _|apply Drawn0.step)⟩
   rw [if_pos c7] at H
   have c7b0 : ((rd l0 x5_1) == (rd l1 x5_1)) = true:=beq_iff_eq.mpr c7
   have c7b1 : ((rd l0 x5_1) != (rd l1 x5_1)) = false:=bne_eq_false_iff_eq.mpr c7
   clear c7
   have H':=Z0 H
   clear H
   have p567 : 0 ≤ (x5_1 : Int):=of_decide_eq_true (by first|(with_reducible assumption)|assumption)
   have q567 : x5_1 < (l0.length : Int):=of_decide_eq_true (by first|(with_reducible assumption)|assumption)
   obtain ⟨ad567,e567,hx567_0⟩:=Kd.at_int HR0.out x5_1 p567 q567
   cases e567
   replace p567:=eq_true p567
   replace q567:=eq_true q567
   have p568 : 0 ≤ (x5_1 : Int):=of_decide_eq_true (by first|(with_reducible assumption)|assumption)
   have q568 : x5_1 < (l1.length : Int):=of_decide_eq_true (by first|(with_reducible assumption)|assumption)
   obtain ⟨ad568,e568,hx568_0⟩:=Kd.at_int HR1.out x5_1 p568 q568
   cases e568
   replace p568:=eq_true p568
   replace q568:=eq_true q568
   go_wp2
   repeat (go_quiet (fail);try go_wp2)
   go_roundg k1
   case measure=>have:=HK1.out;omega
   case rel=>exact ⟨(wrap64 (x5_1 + 1)),(by first|rfl|(simp;done)|(simp [*];done)),H',⟨by have:=HK1.out;omega⟩,by repeat (first|exact Drawn0.refl _|apply Drawn0.step)⟩

/-! ### laws_markByteS: function 8 -/
def laws_markByteS.l0 : Nat → List Int → Int → Int → Option (Int × List Int)
 | 0, _, _, _ => none
 | k + 1, x0, x1, x5 => if x5 < (x0.length : Int) then (if 0 ≤ x5 then (laws_markByteS.l0 k (x0.set (x5 : Int).toNat ((x1) % 256)) (wrap64 (x1 + 1)) (wrap64 (x5 + 1))) else (none)) else (some (x1, x0))
def laws_markByteS.f (k : Nat) (l0 : List Int) (a1 : Int) : Option (Int × List Int) := laws_markByteS.l0 k l0 a1 0
theorem laws_markByteS.mono_l : ∀ k, (∀ y0 y1 y2, LeO (laws_markByteS.l0 k y0 y1 y2) (laws_markByteS.l0 (k + 1) y0 y1 y2))
 | 0 => fun _ _ _ r h => by simp [laws_markByteS.l0] at h
 | k + 1 => by
  have ih0:=laws_markByteS.mono_l k
  · intro y0 y1 y2
    unfold laws_markByteS.l0
    repeat' first
    | (with_reducible exact ih0 _ _ _)
    | (with_reducible exact LeO.refl _)
    | (with_reducible exact LeO.none _)
    | (with_reducible refine LeO.ite ?_ ?_)
    | (with_reducible refine LeO.bind ?_ (fun _=>?_))
    | exact ih0 _ _ _
    | exact LeO.none _
    | refine LeO.ite ?_ ?_
    | refine LeO.bind ?_ (fun _=>?_)
theorem laws_markByteS.mono : ∀ a0 a1 k, LeO (laws_markByteS.f k a0 a1) (laws_markByteS.f (k + 1) a0 a1) := by
 intro a0 a1 k
 have ih0:=laws_markByteS.mono_l k
 unfold laws_markByteS.f
 repeat' first
  | (with_reducible exact ih0 _ _ _)
  | (with_reducible exact LeO.refl _)
  | (with_reducible exact LeO.none _)
  | (with_reducible refine LeO.ite ?_ ?_)
  | (with_reducible refine LeO.bind ?_ (fun _=>?_))
  | exact ih0 _ _ _
  | exact LeO.none _
  | refine LeO.ite ?_ ?_
  | refine LeO.bind ?_ (fun _=>?_)
set_option maxHeartbeats 8000000 in
set_option maxRecDepth 100000 in
theorem laws_markByteS.calls (k : Nat) (P0_ : Nat → Prop) (u9000_ : Value) (l0 : List Int) (a1 : Int) (r1 : Int) (r2 : List Int) (w0 w : World) (hB : Below w0.heap.size w0 w) (ho0 : Kd.R (Kd.int .u8) 5 w w0.heap.size P0_ u9000_ l0) (h : laws_markByteS.f k l0 a1 = some (r1, r2)) :
 Calls Try.prog 8 #[u9000_, .int .i64 a1] w fun e w' => e = .returned (.int .i64 r1) ∧ Kd.R (Kd.int .u8) 5 w' w0.heap.size (fun k_ => (P0_ k_ ∨ w.heap.size ≤ k_)) u9000_ r2 ∧ Below w0.heap.size w0 w' ∧ Kept w w' (fun k_ => P0_ k_) := by
 have HO0:=Z0 (show Kd.R (Kd.int .u8) 5 w w0.heap.size (fun k_=>(P0_ k_ ∨ w.heap.size ≤ k_)) u9000_ l0 from Zj ho0 (fun k_ hk=>(.inl hk)))
 have HK:=Z0 (Kept.refl w (fun k_=>P0_ k_))
 have HW0:=Z0 hB.size
 have HB:=Z0 hB
 clear hB
 have H : (laws_markByteS.l0 k l0 a1 0) = some (r1,r2):=h
 clear h
 have H':=Z0 H
 clear H
 go_enter Try.func8,Try.ntmps8
 go_wp2
 go_loopg [1,5] k (fun kq v1 v5 w'=>∃ (x0_1 : List Int) (x1_1 : Int) (x5_1 : Int),v1 = .int .i64 x1_1 ∧ v5 = .int .i64 x5_1 ∧ Aside0 (laws_markByteS.l0 kq x0_1 x1_1 x5_1 = some (r1,r2)) ∧ Aside0 (kq ≤ k) ∧ Aside0 (Kd.R (Kd.int .u8) 5 w' w0.heap.size (fun k_=>(P0_ k_ ∨ w.heap.size ≤ k_)) u9000_ x0_1) ∧ Aside0 (Kept w w' (fun k_=>P0_ k_)) ∧ Aside0 (Below w0.heap.size w0 w'))
 case atStart=>exact ⟨(l0),(a1),(0),(by first|rfl|(simp;done)|(simp [*];done)),(by first|rfl|(simp;done)|(simp [*];done)),H',⟨Zq _⟩,⟨by (with_reducible repeat (first|apply Z3|apply Z2|apply Z4));exact HO0.out⟩,⟨by repeat (first|(with_reducible first|exact HK.out|apply Kept.alloc|apply Kept.drewN|apply Kept.drew)|exact HK.out)⟩,⟨by repeat (first|(with_reducible first|exact HB.out|apply Z6|apply Z1|apply Z5)|exact HB.out)⟩⟩
 case round =>
  clear H'
  (try clear p2)
  obtain ⟨x0_1,x1_1,x5_1,rfl,rfl,HA,HK1,HO_0,HK,HB⟩:=hrel
  cases gk with
  | zero=>exact absurd HA.out (by simp [laws_markByteS.l0])
  | succ k1 =>
   have H:=HA.out
   clear HA
   simp only [laws_markByteS.l0] at H
   by_cases c3 : x5_1 < (x0_1.length : Int)
   case neg =>
    rw [if_neg c3] at H
    have c3b0 : decide (x5_1 < (x0_1.length : Int)) = false:=decide_eq_false c3
    clear c3
    simp only [Option.some.injEq,Prod.mk.injEq] at H
    obtain ⟨rfl,rfl⟩:=H
    obtain ⟨Ao9,co9,eo9⟩:=Kd.R_slice HO_0.out
    subst eo9
    go_wp2
    go_ret
    exact ⟨by first|rfl|(simp [errW_none,errW_some]<;>rfl)|(simp [*,errW_none,errW_some]<;>rfl),by (with_reducible repeat (first|apply Z3|apply Z2|apply Z4));exact HO_0.out,by repeat (first|(with_reducible first|exact HB.out|apply Z6|apply Z1|apply Z5)|exact HB.out),by repeat (first|(with_reducible first|exact HK.out|apply Kept.alloc|apply Kept.drewN|apply Kept.drew)|exact HK.out)⟩
   rw [if_pos c3] at H
   have c3b0 : decide (x5_1 < (x0_1.length : Int)) = true:=decide_eq_true c3
   clear c3
   by_cases c4 : 0 ≤ x5_1
   case neg =>
    rw [if_neg c4] at H
    exact absurd H (by simp)
   rw [if_pos c4] at H
   have c4b0 : decide (0 ≤ x5_1) = true:=decide_eq_true c4
   clear c4
   obtain ⟨y569,hy569⟩ : ∃ y_ : List Int,y_ = (x0_1.set (x5_1 : Int).toNat ((x1_1) % 256)):=⟨_,rfl⟩
   replace H : (laws_markByteS.l0 k1 y569 (wrap64 (x1_1 + 1)) (wrap64 (x5_1 + 1))) = some (r1,r2):=by first|(rw [hy569];with_reducible exact H)|(have H2_:=(Zk _ _).symm.trans H;rw [hy569];with_reducible exact H2_)|(have H2_:=(Zk _ _).symm.trans H;with_reducible exact H2_)|with_reducible exact H|(rw [hy569];exact H)|exact H
   have Ny569:=Z0 hy569
   clear hy569
   have H':=Z0 H
   clear H
   obtain ⟨Ao6,co6,eo6⟩:=Kd.R_slice HO_0.out
   subst eo6
   have p5 : 0 ≤ (x5_1 : Int):=of_decide_eq_true (by first|(with_reducible assumption)|assumption)
   have q5 : (x5_1 : Int) < ((x0_1.length : Int) : Int):=of_decide_eq_true (by first|(with_reducible assumption)|assumption)
   obtain ⟨go5,co5,eo5,gb5,gl5,cl5,HG5⟩:=Kd.R_form HO_0.out (by omega)
   (first|cases eo5|(injection eo5 with ea_ en_ ec_;(first|subst ea_|(injection ea_ with ea_;subst ea_));subst ec_;clear en_))
   have GB5:=Z0 gb5
   have GG5:=Z0 HG5
   clear gb5 gl5 HG5
   have HMgo5:=Z0 (show (P0_ go5 ∨ w.heap.size ≤ go5) from (HO_0.out.1 _ rfl))
   obtain ⟨hx5_0,hf5_0⟩:=Kd.R_celln 0 HO_0.out (x5_1 : Int) p5 q5
   replace p5:=eq_true p5
   replace q5:=eq_true q5
   have HP7:=Kd.R_putg HO_0.out (x5_1 : Int) ((x1_1) % 256)
   go_wp2_with (first|((with_reducible refine gate_store (t:=5) (p:=16) rfl ?_);refine store_event (t:=5) (p:=16) (v:=?vo_w8) (w1:=(wr.setCell ⟨go5,(x5_1 : Int).toNat,none⟩ (.int .u8 ((x1_1) % 256)))) ?hg ?ho ?hn ?hr ?_;(case ho=>rfl);(case hg=>rfl);(case hn=>rfl);(case hr=>first|(go_simp;done)|(go_simp;rfl));intro w8 hw;have hg : wr.grownBy w8 (some go5):=(by rw [hw];exact HP7.2);have hp_ : Kd.R (Kd.int .u8) 5 w8 w0.heap.size (fun k_=>(P0_ k_ ∨ w.heap.size ≤ k_)) (.slice (some ⟨go5,0,none⟩) x0_1.length co6) y569:=(by rw [hw,Ny569.out];exact HP7.1);clear HP7;have n0_:=Z0 (hp_);have n1_:=Z0 ((by rw [hw];exact below_set (HB.out) GB5.out : Below w0.heap.size w0 w8));have n2_:=Z0 (Kept.of_grown (S:=(fun k_=>P0_ k_)) hg (by repeat (first|(with_reducible first|exact HK.out|apply Kept.alloc|apply Kept.drewN|apply Kept.drew)|exact HK.out)) (fun k_ e_=>(HO_0.out.1 k_ e_)));clear HO_0;clear HB;clear HK;have HO_0:=n0_;have HB:=n1_;have HK:=n2_;clear n0_ n1_ n2_;clear hg hw hp_))
   go_roundg k1
   case measure=>have:=HK1.out;omega
   case rel=>exact ⟨(y569),(wrap64 (x1_1 + 1)),(wrap64 (x5_1 + 1)),(by first|rfl|(simp;done)|(simp [*];done)),(by first|rfl|(simp;done)|(simp [*];done)),H',⟨by have:=HK1.out;omega⟩,⟨by (with_reducible repeat (first|apply Z3|apply Z2|apply Z4));exact HO_0.out⟩,⟨by repeat (first|(with_reducible first|exact HK.out|apply Kept.alloc|apply Kept.drewN|apply Kept.drew)|exact HK.out)⟩,⟨by repeat (first|(with_reducible first|exact HB.out|apply Z6|apply Z1|apply Z5)|exact HB.out)⟩⟩

/-! ### laws_heldByteS: function 9 -/
def laws_heldByteS.l0 : Nat → List Int → Int → Int → Option (Int)
 | 0, _, _, _ => none
 | k + 1, x0, x1, x5 => if x5 < (x0.length : Int) then (if 0 ≤ x5 then (if (rd x0 x5) = ((x1) % 256) then (laws_heldByteS.l0 k x0 (wrap64 (x1 + 1)) (wrap64 (x5 + 1))) else (some (-1))) else (none)) else (some x1)
def laws_heldByteS.f (k : Nat) (l0 : List Int) (a1 : Int) : Option (Int) := laws_heldByteS.l0 k l0 a1 0
theorem laws_heldByteS.mono_l : ∀ k, (∀ y0 y1 y2, LeO (laws_heldByteS.l0 k y0 y1 y2) (laws_heldByteS.l0 (k + 1) y0 y1 y2))
 | 0 => fun _ _ _ r h => by simp [laws_heldByteS.l0] at h
 | k + 1 => by
  have ih0:=laws_heldByteS.mono_l k
  · intro y0 y1 y2
    unfold laws_heldByteS.l0
    repeat' first
    | (with_reducible exact ih0 _ _ _)
    | (with_reducible exact LeO.refl _)
    | (with_reducible exact LeO.none _)
    | (with_reducible refine LeO.ite ?_ ?_)
    | (with_reducible refine LeO.bind ?_ (fun _=>?_))
    | exact ih0 _ _ _
    | exact LeO.none _
    | refine LeO.ite ?_ ?_
    | refine LeO.bind ?_ (fun _=>?_)
theorem laws_heldByteS.mono : ∀ a0 a1 k, LeO (laws_heldByteS.f k a0 a1) (laws_heldByteS.f (k + 1) a0 a1) := by
 intro a0 a1 k
 have ih0:=laws_heldByteS.mono_l k
 unfold laws_heldByteS.f
 repeat' first
  | (with_reducible exact ih0 _ _ _)
  | (with_reducible exact LeO.refl _)
  | (with_reducible exact LeO.none _)
  | (with_reducible refine LeO.ite ?_ ?_)
  | (with_reducible refine LeO.bind ?_ (fun _=>?_))
  | exact ih0 _ _ _
  | exact LeO.none _
  | refine LeO.ite ?_ ?_
  | refine LeO.bind ?_ (fun _=>?_)
set_option maxHeartbeats 8000000 in
set_option maxRecDepth 100000 in
theorem laws_heldByteS.calls (k : Nat) (A0 : Option Addr) (c0 : Nat) (l0 : List Int) (a1 : Int) (r : Int) (w : World) (hr0 : Kd.C (Kd.int .u8) w A0 l0.length l0) (hc0 : l0.length ≤ c0) (h : laws_heldByteS.f k l0 a1 = some r) :
 Calls Try.prog 9 #[.slice A0 l0.length c0, .int .i64 a1] w fun e w' => e = .returned (.int .i64 r) ∧ Drawn0 w w' := by
 have HR0:=Z0 hr0
 have HC0:=Z0 hc0
 clear hr0 hc0
 have H : (laws_heldByteS.l0 k l0 a1 0) = some r:=h
 clear h
 have H':=Z0 H
 clear H
 go_enter Try.func9,Try.ntmps9
 go_wp2
 go_loopg [1,5] k (fun kq v1 v5 w'=>∃ (x1_1 : Int) (x5_1 : Int),v1 = .int .i64 x1_1 ∧ v5 = .int .i64 x5_1 ∧ Aside0 (laws_heldByteS.l0 kq l0 x1_1 x5_1 = some r) ∧ Aside0 (kq ≤ k) ∧ Drawn0 w w')
 case atStart=>exact ⟨(a1),(0),(by first|rfl|(simp;done)|(simp [*];done)),(by first|rfl|(simp;done)|(simp [*];done)),H',⟨Zq _⟩,by repeat (first|exact Drawn0.refl _|apply Drawn0.step)⟩
 case round =>
  clear H'
  (try clear p2)
  obtain ⟨x1_1,x5_1,rfl,rfl,HA,HK1,⟨m1,rfl⟩⟩:=hrel
  cases gk with
  | zero=>exact absurd HA.out (by simp [laws_heldByteS.l0])
  | succ k1 =>
   have H:=HA.out
   clear HA
   simp only [laws_heldByteS.l0] at H
   by_cases c3 : x5_1 < (l0.length : Int)
   case neg =>
    rw [if_neg c3] at H
    have c3b0 : decide (x5_1 < (l0.length : Int)) = false:=decide_eq_false c3
    clear c3
    obtain rfl:=Option.some.inj H
    go_wp2
    go_ret
    exact ⟨by first|rfl|(simp;done)|(simp [*];done),by repeat (first|exact Drawn0.refl _|apply Drawn0.step)⟩
   rw [if_pos c3] at H
   have c3b0 : decide (x5_1 < (l0.length : Int)) = true:=decide_eq_true c3
   clear c3
   by_cases c4 : 0 ≤ x5_1
   case neg =>
    rw [if_neg c4] at H
    exact absurd H (by simp)
   rw [if_pos c4] at H
   have c4b0 : decide (0 ≤ x5_1) = true:=decide_eq_true c4
   clear c4
   by_cases c5 : (rd l0 x5_1) = ((x1_1) % 256)
   case neg =>
    rw [if_neg c5] at H
    have c5b0 : ((rd l0 x5_1) == ((x1_1) % 256)) = false:=beq_eq_false_iff_ne.mpr c5
    have c5b1 : ((rd l0 x5_1) != ((x1_1) % 256)) = true:=bne_iff_ne.mpr c5
    obtain rfl:=Option.some.inj H
    have p570 : 0 ≤ (x5_1 : Int):=of_decide_eq_true (by first|(with_reducible assumption)|assumption)
    have q570 : x5_1 < (l0.length : Int):=of_decide_eq_true (by first|(with_reducible assumption)|assumption)
    obtain ⟨ad570,e570,hx570_0⟩:=Kd.at_int HR0.out x5_1 p570 q570
    cases e570
    replace p570:=eq_true p570
    replace q570:=eq_true q570
    go_wp2
    go_ret
    exact ⟨by first|rfl|(simp;done)|(simp [*];done),by repeat (first|exact Drawn0.refl _|apply Drawn0.step)⟩
   rw [if_pos c5] at H
   have c5b0 : ((rd l0 x5_1) == ((x1_1) % 256)) = true:=beq_iff_eq.mpr c5
   have c5b1 : ((rd l0 x5_1) != ((x1_1) % 256)) = false:=bne_eq_false_iff_eq.mpr c5
   clear c5
   have H':=Z0 H
   clear H
   have p570 : 0 ≤ (x5_1 : Int):=of_decide_eq_true (by first|(with_reducible assumption)|assumption)
   have q570 : x5_1 < (l0.length : Int):=of_decide_eq_true (by first|(with_reducible assumption)|assumption)
   obtain ⟨ad570,e570,hx570_0⟩:=Kd.at_int HR0.out x5_1 p570 q570
   cases e570
   replace p570:=eq_true p570
   replace q570:=eq_true q570
   go_wp2
   go_roundg k1
   case measure=>have:=HK1.out;omega
   case rel=>exact ⟨(wrap64 (x1_1 + 1)),(wrap64 (x5_1 + 1)),(by first|rfl|(simp;done)|(simp [*];done)),(by first|rfl|(simp;done)|(simp [*];done)),H',⟨by have:=HK1.out;omega⟩,by repeat (first|exact Drawn0.refl _|apply Drawn0.step)⟩

end Go.Proofs.Ytpkfmjdmfphbaag.QFnExactMac
