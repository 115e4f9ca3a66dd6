/- Plain functions with the same answers as the program's, and the proofs that they are. Printed by a program of this session (wip/myprint.py) out of Lean's print of the loaded program. Conditions: those in each theorem's head. -/
import Derived.Test.YtpkfmjdmfphbaagQFnExactMacx0
import Derived.Test.YtpkfmjdmfphbaagQFnExactMacx6
import Derived.Test.YtpkfmjdmfphbaagQFnExactMacx8
namespace Go.Proofs.Ytpkfmjdmfphbaag.QFnExactMac
open Go.RowKit Go.Proofs.Ytpkfmjdmfphbaag.Given Go.Proofs.YtpkfmjdmfphbaagW.PrintWords Go.Proofs.YtpkfmjdmfphbaagW.PrintLast Go.Proofs.YtpkfmjdmfphbaagW.PrintMore
open Go.Proofs.YtpkfmjdmfphbaagW.PrintWords.Aside0 renaming mk → Z0
open Go.Proofs.YtpkfmjdmfphbaagW.PrintWords renaming pw_below_drewN → Z1, below_drew1 → Z5, below_alloc → Z6, below_set → Z7, blk_drewN → Z8, blk_alloc → Z9, blk_drew → Za, below_size → Zb, blk_cell → Zf, below_step → Zg, blk_frozen → Zh
open Go.Proofs.YtpkfmjdmfphbaagW.PrintWords.Kd renaming R_drewN → Z2, R_alloc → Z3, R_drew → Z4, C_drewN → Zc, C_alloc → Zd, C_drew → Ze
open Option renaming bind_some → Zi
open List renaming length_drop → Zj, length_take → Zk, map_toArray → Zl, map_cons → Zm, map_nil → Zn
open Nat renaming le_refl → Zo
attribute [local go_sem] max2_int min2_int max_two min_two max_three min_three max_four min_four   -- for this text's walks alone
set_option linter.unusedVariables false
set_option linter.unusedSimpArgs false

/-! ### impl_SumEnd: function 17 -/
mutual
def impl_SumEnd.l0 : Nat → List Int → List Int → Int → List Int → Option (List Int)
 | 0, _, _, _, _ => none
 | k + 1, x3, x420000, x420001, x420002 => if ((x3.length : Int) % 64) = 56 then ((impl_high.f k (wrap64 (8 * x420001))).bind fun t430 => (if x3.length + t430.length < 140737488355328 then ((slices_Clone_int_int.f x420000).bind fun t436 => (impl_SumEnd.l1 k (x3 ++ t430) t436)) else (none))) else (if x3.length < 140737488355328 then (impl_SumEnd.l0 k (x3 ++ [0]) x420000 x420001 x420002) else (none))
def impl_SumEnd.l1 : Nat → List Int → List Int → Option (List Int)
 | 0, _, _ => none
 | k + 1, x3, x4 => if (x3.length : Int) > 0 then (if 64 ≤ (x3.length : Int) then ((impl_turned.f k x4 (x3.take 64)).bind fun t443 => (impl_SumEnd.l1 k (x3.drop (64 : Int).toNat) t443)) else (none)) else (impl_SumEnd.l2 k (([] : List Int)) x4 (x4.length : Int) 0)
def impl_SumEnd.l2 : Nat → List Int → List Int → Int → Int → Option (List Int)
 | 0, _, _, _, _ => none
 | k + 1, x5, x42, x43, x44 => if x44 < x43 then (if 0 ≤ x44 then (if x44 < (x42.length : Int) then ((some (([((rd x42 x44) / 16777216) % 256, ((rd x42 x44) / 65536) % 256, ((rd x42 x44) / 256) % 256, (rd x42 x44) % 256] : List Int) : List Int)).bind fun y453 => (if x5.length + y453.length < 140737488355328 then (impl_SumEnd.l2 k (x5 ++ y453) x42 x43 (wrap64 (x44 + 1))) else (none))) else (none)) else (none)) else (some x5)
end
def impl_SumEnd.f (k : Nat) (l0_0 : List Int) (a0_1 : Int) (l0_2 : List Int) : Option (List Int) := (impl_SumOk.f k l0_0 a0_1 l0_2).bind fun t420 => (if t420 = true then ((slices_Clone_byte_byte.f l0_2).bind fun t421 => (if t421.length < 140737488355328 then (impl_SumEnd.l0 k (t421 ++ [128]) l0_0 a0_1 l0_2) else (none))) else (some ([] : List Int)))
theorem impl_SumEnd.mono_l : ∀ k, (∀ y0 y1 y2 y3, LeO (impl_SumEnd.l0 k y0 y1 y2 y3) (impl_SumEnd.l0 (k + 1) y0 y1 y2 y3)) ∧ (∀ y0 y1, LeO (impl_SumEnd.l1 k y0 y1) (impl_SumEnd.l1 (k + 1) y0 y1)) ∧ (∀ y0 y1 y2 y3, LeO (impl_SumEnd.l2 k y0 y1 y2 y3) (impl_SumEnd.l2 (k + 1) y0 y1 y2 y3))
 | 0 => ⟨fun _ _ _ _ r h => by simp [impl_SumEnd.l0] at h, fun _ _ r h => by simp [impl_SumEnd.l1] at h, fun _ _ _ _ r h => by simp [impl_SumEnd.l2] at h⟩
 | k + 1 => by
  obtain ⟨ih0,ih1,ih2⟩:=impl_SumEnd.mono_l k
  refine ⟨?_,?_,?_⟩
  · intro y0 y1 y2 y3
    unfold impl_SumEnd.l0
    repeat' first
    | (with_reducible exact ih0 _ _ _ _)
    | (with_reducible exact ih1 _ _)
    | (with_reducible exact ih2 _ _ _ _)
    | (with_reducible exact impl_SumOk.mono _ _ _ _)
    | (with_reducible exact impl_high.mono _ _)
    | (with_reducible exact impl_turned.mono _ _ _)
    | (with_reducible exact LeO.refl _)
    | (with_reducible exact LeO.none _)
    | (with_reducible refine LeO.ite ?_ ?_)
    | (with_reducible refine LeO.bind ?_ (fun _=>?_))
    | exact ih0 _ _ _ _
    | exact ih1 _ _
    | exact ih2 _ _ _ _
    | exact impl_SumOk.mono _ _ _ _
    | exact impl_high.mono _ _
    | exact impl_turned.mono _ _ _
    | exact LeO.none _
    | refine LeO.ite ?_ ?_
    | refine LeO.bind ?_ (fun _=>?_)
  · intro y0 y1
    unfold impl_SumEnd.l1
    repeat' first
    | (with_reducible exact ih0 _ _ _ _)
    | (with_reducible exact ih1 _ _)
    | (with_reducible exact ih2 _ _ _ _)
    | (with_reducible exact impl_SumOk.mono _ _ _ _)
    | (with_reducible exact impl_high.mono _ _)
    | (with_reducible exact impl_turned.mono _ _ _)
    | (with_reducible exact LeO.refl _)
    | (with_reducible exact LeO.none _)
    | (with_reducible refine LeO.ite ?_ ?_)
    | (with_reducible refine LeO.bind ?_ (fun _=>?_))
    | exact ih0 _ _ _ _
    | exact ih1 _ _
    | exact ih2 _ _ _ _
    | exact impl_SumOk.mono _ _ _ _
    | exact impl_high.mono _ _
    | exact impl_turned.mono _ _ _
    | exact LeO.none _
    | refine LeO.ite ?_ ?_
    | refine LeO.bind ?_ (fun _=>?_)
  · intro y0 y1 y2 y3
    unfold impl_SumEnd.l2
    repeat' first
    | (with_reducible exact ih0 _ _ _ _)
    | (with_reducible exact ih1 _ _)
    | (with_reducible exact ih2 _ _ _ _)
    | (with_reducible exact impl_SumOk.mono _ _ _ _)
    | (with_reducible exact impl_high.mono _ _)
    | (with_reducible exact impl_turned.mono _ _ _)
    | (with_reducible exact LeO.refl _)
    | (with_reducible exact LeO.none _)
    | (with_reducible refine LeO.ite ?_ ?_)
    | (with_reducible refine LeO.bind ?_ (fun _=>?_))
    | exact ih0 _ _ _ _
    | exact ih1 _ _
    | exact ih2 _ _ _ _
    | exact impl_SumOk.mono _ _ _ _
    | exact impl_high.mono _ _
    | exact impl_turned.mono _ _ _
    | exact LeO.none _
    | refine LeO.ite ?_ ?_
    | refine LeO.bind ?_ (fun _=>?_)
theorem impl_SumEnd.mono : ∀ a0 a1 a2 k, LeO (impl_SumEnd.f k a0 a1 a2) (impl_SumEnd.f (k + 1) a0 a1 a2) := by
 intro a0 a1 a2 k
 obtain ⟨ih0,ih1,ih2⟩:=impl_SumEnd.mono_l k
 unfold impl_SumEnd.f
 repeat' first
  | (with_reducible exact ih0 _ _ _ _)
  | (with_reducible exact ih1 _ _)
  | (with_reducible exact ih2 _ _ _ _)
  | (with_reducible exact impl_SumOk.mono _ _ _ _)
  | (with_reducible exact impl_high.mono _ _)
  | (with_reducible exact impl_turned.mono _ _ _)
  | (with_reducible exact LeO.refl _)
  | (with_reducible exact LeO.none _)
  | (with_reducible refine LeO.ite ?_ ?_)
  | (with_reducible refine LeO.bind ?_ (fun _=>?_))
  | exact ih0 _ _ _ _
  | exact ih1 _ _
  | exact ih2 _ _ _ _
  | exact impl_SumOk.mono _ _ _ _
  | exact impl_high.mono _ _
  | exact impl_turned.mono _ _ _
  | exact LeO.none _
  | refine LeO.ite ?_ ?_
  | refine LeO.bind ?_ (fun _=>?_)
set_option maxHeartbeats 8000000 in
set_option maxRecDepth 100000 in
theorem impl_SumEnd.calls (k : Nat) (A0_0 : Option Addr) (c0_0 : Nat) (l0_0 : List Int) (a0_1 : Int) (A0_2 : Option Addr) (c0_2 : Nat) (l0_2 : List Int) (r : List Int) (w : World) (hr0_0 : Kd.C (Kd.int .i64) w A0_0 l0_0.length l0_0) (hc0_0 : l0_0.length ≤ c0_0) (hr0_2 : Kd.C (Kd.int .u8) w A0_2 l0_2.length l0_2) (hc0_2 : l0_2.length ≤ c0_2) (h : impl_SumEnd.f k l0_0 a0_1 l0_2 = some r) :
 Calls Try.prog 17 #[.agg #[.slice A0_0 l0_0.length c0_0, .int .i64 a0_1, .slice A0_2 l0_2.length c0_2]] w fun e w' => ∃ v0_ : Value, e = .returned (v0_) ∧ Kd.R (Kd.int .u8) 5 w' w.heap.size (fun _ => True) v0_ r ∧ Below w.heap.size w w' := by
 have hu31:=Try.underlying31
 have HR0_0:=Z0 hr0_0
 have HC0_0:=Z0 hc0_0
 clear hr0_0 hc0_0
 have HR0_2:=Z0 hr0_2
 have HC0_2:=Z0 hc0_2
 clear hr0_2 hc0_2
 have HB:=Z0 (Below.refl w.heap.size w)
 have H : ((impl_SumOk.f k l0_0 a0_1 l0_2).bind fun t420=>(if t420 = true then ((slices_Clone_byte_byte.f l0_2).bind fun t421=>(if t421.length < 140737488355328 then (impl_SumEnd.l0 k (t421 ++ [128]) l0_0 a0_1 l0_2) else (none))) else (some ([] : List Int)))) = some r:=h
 clear h
 replace H:=Option.bind_eq_some_iff.mp H
 obtain ⟨t420,A20,H⟩:=H
 replace H : (if t420 = true then ((slices_Clone_byte_byte.f l0_2).bind fun t421=>(if t421.length < 140737488355328 then (impl_SumEnd.l0 k (t421 ++ [128]) l0_0 a0_1 l0_2) else (none))) else (some ([] : List Int))) = some r:=H
 have A2:=Z0 A20
 clear A20
 by_cases c3 : t420 = true
 case neg =>
  replace c3:=Bool.eq_false_iff.mpr c3
  subst c3
  have H1 : (some ([] : List Int)) = some r:=by rw [if_neg (show ¬ (false = true) by decide)] at H;exact H
  clear H
  have H:=H1
  clear H1
  obtain rfl:=Option.some.inj H
  go_enter Try.func17,Try.ntmps17
  go_wp2_with (first|((with_reducible refine gate_dst (N:=1) rfl ?_);refine box_event ?hg (N:=1) ?hd (cs:=#[.slice A0_0 l0_0.length c0_0,.int .i64 a0_1,.slice A0_2 l0_2.length c0_2]) (t:=31) ?hr ?_;(case hd=>rfl);(case hg=>rfl);(case hr=>first|(go_simp;done)|(go_simp;rfl));intro gb419 hg w47 hbox hb;have n0_:=Z0 (Zg (by repeat (first|(with_reducible first|exact HB.out|apply Z6|apply Z1|apply Z5)|exact HB.out)) hb);have n1_:=Z0 (hbox);have n2_:=Z0 ((by rw [hg];exact (Zb (by repeat (first|(with_reducible first|exact HB.out|apply Z6|apply Z1|apply Z5)|exact HB.out))) : w.heap.size ≤ gb419));have n3_:=Z0 ((by rw [hg];exact (Zb (by repeat (first|(with_reducible first|exact HB.out|apply Z6|apply Z1|apply Z5)|exact HB.out))) : w.heap.size ≤ gb419));clear HB;have HB:=n0_;have BK419:=n1_;have GW419:=n2_;have GE419:=n3_;clear n0_ n1_ n2_ n3_;clear hb hbox hg;have hcz48_0 : w47.cell? ⟨gb419,0,none⟩ = some (.slice A0_0 l0_0.length c0_0):=(Zf BK419.out 0).trans rfl;have hcz48_1 : w47.cell? ⟨gb419,1,none⟩ = some (.int .i64 a0_1):=(Zf BK419.out 1).trans rfl;have hcz48_2 : w47.cell? ⟨gb419,2,none⟩ = some (.slice A0_2 l0_2.length c0_2):=(Zf BK419.out 2).trans rfl;have hfz48_0:=Zh BK419.out 0;have hfz48_1:=Zh BK419.out 1;have hfz48_2:=Zh BK419.out 2)|((with_reducible refine gate_callee (f:=23) rfl ?_);refine goesL_ (some 9) rfl rfl Try.func23 (by kernel_rfl) rfl #[.agg #[.slice A0_0 l0_0.length c0_0,.int .i64 a0_1,.slice A0_2 l0_2.length c0_2]] rfl (by (try simp only [Zl,Zm,Zn]);first|done|rfl|(simp only [Zj,Zk];rfl)) ?_;(with_reducible refine (impl_SumOk.calls k _ _ l0_0 a0_1 _ _ l0_2 false _ ?side1 ?side2 ?side3 ?side4 A2.out).mono ?_);(case side1=>repeat (first|exact (Kd.C_below HR0_0.out HB.out)|(with_reducible refine Zd ?_ _)|(with_reducible refine Zc ?_ _)|(with_reducible refine Ze ?_)));(case side2=>exact HC0_0.out);(case side3=>repeat (first|exact (Kd.C_below HR0_2.out HB.out)|(with_reducible refine Zd ?_ _)|(with_reducible refine Zc ?_ _)|(with_reducible refine Ze ?_)));(case side4=>exact HC0_2.out);rintro e w49 ⟨rfl,hb⟩;refine ⟨_,rfl,?_⟩;have n0_:=Z0 (blk_below (g:=gb419) (o:=.cells #[.slice A0_0 l0_0.length c0_0,.int .i64 a0_1,.slice A0_2 l0_2.length c0_2] 31 (0,0)) (by (with_reducible repeat (first|refine Z8 ?_ _|refine Za ?_|refine Z9 ?_ _));exact BK419.out) hb);have n1_:=Z0 (Zg (by repeat (first|(with_reducible first|exact HB.out|apply Z6|apply Z1|apply Z5|refine Z7 ?_ GE419.out)|exact HB.out)) hb);clear BK419;clear HB;have BK419:=n0_;have HB:=n1_;clear n0_ n1_;(try clear hb);(try clear hb2);(try clear hk);(try clear hi)))
  go_ret
  exact ⟨_,by first|rfl|(simp [errW_none,errW_some]<;>rfl)|(simp [*,errW_none,errW_some]<;>rfl),by first|exact Kd.R_nil _ _ _ _ _|exact Kd.N_nil _ _ _ _ _|exact Kd.V_nil _ _ _ _ _|exact Kd.Q_nil _ _ _ _ _|exact Kd.S_nil _ _ _ _ _,by repeat (first|(with_reducible first|exact HB.out|apply Z6|apply Z1|apply Z5|refine Z7 ?_ GE419.out)|exact HB.out)⟩
 subst c3
 have H1 : ((slices_Clone_byte_byte.f l0_2).bind fun t421=>(if t421.length < 140737488355328 then (impl_SumEnd.l0 k (t421 ++ [128]) l0_0 a0_1 l0_2) else (none))) = some r:=by rw [if_pos rfl] at H;exact H
 clear H
 have H:=H1
 clear H1
 replace H:=Option.bind_eq_some_iff.mp H
 obtain ⟨t421,A40,H⟩:=H
 replace H : (if t421.length < 140737488355328 then (impl_SumEnd.l0 k (t421 ++ [128]) l0_0 a0_1 l0_2) else (none)) = some r:=H
 have A4:=Z0 A40
 clear A40
 by_cases c5 : t421.length < 140737488355328
 case neg =>
  rw [if_neg c5] at H
  exact absurd H (by simp)
 rw [if_pos c5] at H
 have LMc5:=Z0 c5
 clear c5
 obtain ⟨y424,hy424⟩ : ∃ y_ : List Int,y_ = (t421 ++ [128]):=⟨_,rfl⟩
 replace H : (impl_SumEnd.l0 k y424 l0_0 a0_1 l0_2) = some r:=by first|(rw [hy424];with_reducible exact H)|(have H2_:=(Zi _ _).symm.trans H;rw [hy424];with_reducible exact H2_)|(have H2_:=(Zi _ _).symm.trans H;with_reducible exact H2_)|with_reducible exact H|(rw [hy424];exact H)|exact H
 have Ny424:=Z0 hy424
 clear hy424
 have H':=Z0 H
 clear H
 go_enter Try.func17,Try.ntmps17
 go_wp2_with (first|((with_reducible refine gate_dst (N:=1) rfl ?_);refine box_event ?hg (N:=1) ?hd (cs:=#[.slice A0_0 l0_0.length c0_0,.int .i64 a0_1,.slice A0_2 l0_2.length c0_2]) (t:=31) ?hr ?_;(case hd=>rfl);(case hg=>rfl);(case hr=>first|(go_simp;done)|(go_simp;rfl));intro gb419 hg w6 hbox hb;have n0_:=Z0 (Zg (by repeat (first|(with_reducible first|exact HB.out|apply Z6|apply Z1|apply Z5)|exact HB.out)) hb);have n1_:=Z0 (hbox);have n2_:=Z0 ((by rw [hg];exact (Zb (by repeat (first|(with_reducible first|exact HB.out|apply Z6|apply Z1|apply Z5)|exact HB.out))) : w.heap.size ≤ gb419));have n3_:=Z0 ((by rw [hg];exact (Zb (by repeat (first|(with_reducible first|exact HB.out|apply Z6|apply Z1|apply Z5)|exact HB.out))) : w.heap.size ≤ gb419));clear HB;have HB:=n0_;have BK419:=n1_;have GW419:=n2_;have GE419:=n3_;clear n0_ n1_ n2_ n3_;clear hb hbox hg;have hcz7_0 : w6.cell? ⟨gb419,0,none⟩ = some (.slice A0_0 l0_0.length c0_0):=(Zf BK419.out 0).trans rfl;have hcz7_1 : w6.cell? ⟨gb419,1,none⟩ = some (.int .i64 a0_1):=(Zf BK419.out 1).trans rfl;have hcz7_2 : w6.cell? ⟨gb419,2,none⟩ = some (.slice A0_2 l0_2.length c0_2):=(Zf BK419.out 2).trans rfl;have hfz7_0:=Zh BK419.out 0;have hfz7_1:=Zh BK419.out 1;have hfz7_2:=Zh BK419.out 2)|((with_reducible refine gate_callee (f:=23) rfl ?_);refine goesL_ (some 9) rfl rfl Try.func23 (by kernel_rfl) rfl #[.agg #[.slice A0_0 l0_0.length c0_0,.int .i64 a0_1,.slice A0_2 l0_2.length c0_2]] rfl (by (try simp only [Zl,Zm,Zn]);first|done|rfl|(simp only [Zj,Zk];rfl)) ?_;(with_reducible refine (impl_SumOk.calls k _ _ l0_0 a0_1 _ _ l0_2 true _ ?side1 ?side2 ?side3 ?side4 A2.out).mono ?_);(case side1=>repeat (first|exact (Kd.C_below HR0_0.out HB.out)|(with_reducible refine Zd ?_ _)|(with_reducible refine Zc ?_ _)|(with_reducible refine Ze ?_)));(case side2=>exact HC0_0.out);(case side3=>repeat (first|exact (Kd.C_below HR0_2.out HB.out)|(with_reducible refine Zd ?_ _)|(with_reducible refine Zc ?_ _)|(with_reducible refine Ze ?_)));(case side4=>exact HC0_2.out);rintro e w8 ⟨rfl,hb⟩;refine ⟨_,rfl,?_⟩;have n0_:=Z0 (blk_below (g:=gb419) (o:=.cells #[.slice A0_0 l0_0.length c0_0,.int .i64 a0_1,.slice A0_2 l0_2.length c0_2] 31 (0,0)) (by (with_reducible repeat (first|refine Z8 ?_ _|refine Za ?_|refine Z9 ?_ _));exact BK419.out) hb);have n1_:=Z0 (Zg (by repeat (first|(with_reducible first|exact HB.out|apply Z6|apply Z1|apply Z5|refine Z7 ?_ GE419.out)|exact HB.out)) hb);clear BK419;clear HB;have BK419:=n0_;have HB:=n1_;clear n0_ n1_;(try clear hb);(try clear hb2);(try clear hk);(try clear hi);have hcz9_0 : w8.cell? ⟨gb419,0,none⟩ = some (.slice A0_0 l0_0.length c0_0):=(Zf BK419.out 0).trans rfl;have hcz9_1 : w8.cell? ⟨gb419,1,none⟩ = some (.int .i64 a0_1):=(Zf BK419.out 1).trans rfl;have hcz9_2 : w8.cell? ⟨gb419,2,none⟩ = some (.slice A0_2 l0_2.length c0_2):=(Zf BK419.out 2).trans rfl;have hfz9_0:=Zh BK419.out 0;have hfz9_1:=Zh BK419.out 1;have hfz9_2:=Zh BK419.out 2)|((with_reducible refine gate_callee (f:=12) rfl ?_);refine goesL_ (some 13) rfl rfl Try.func12 (by kernel_rfl) rfl #[.slice A0_2 l0_2.length c0_2] rfl (by (try simp only [Zl,Zm,Zn]);first|done|rfl|(simp only [Zj,Zk];rfl)) ?_;(with_reducible refine (slices_Clone_byte_byte.calls _ _ l0_2 t421 _ ?side1 ?side2 A4.out).mono ?_);(case side1=>repeat (first|exact (Kd.C_below HR0_2.out HB.out)|(with_reducible refine Zd ?_ _)|(with_reducible refine Zc ?_ _)|(with_reducible refine Ze ?_)));(case side2=>exact HC0_2.out);rintro e w10 ⟨v422,rfl,ho0,hb⟩;refine ⟨_,rfl,?_⟩;have n0_:=Z0 (Kd.R_lower ho0 (Zb (by repeat (first|(with_reducible first|exact HB.out|apply Z6|apply Z1|apply Z5|refine Z7 ?_ GE419.out)|exact HB.out))));have n1_:=Z0 (blk_below (g:=gb419) (o:=.cells #[.slice A0_0 l0_0.length c0_0,.int .i64 a0_1,.slice A0_2 l0_2.length c0_2] 31 (0,0)) (by (with_reducible repeat (first|refine Z8 ?_ _|refine Za ?_|refine Z9 ?_ _));exact BK419.out) hb);have n2_:=Z0 (Zg (by repeat (first|(with_reducible first|exact HB.out|apply Z6|apply Z1|apply Z5|refine Z7 ?_ GE419.out)|exact HB.out)) hb);clear BK419;clear HB;have HO423:=n0_;have BK419:=n1_;have HB:=n2_;clear n0_ n1_ n2_;(try clear hb);(try clear hb2);(try clear hk);(try clear hi);(try clear ho0))|((with_reducible refine gate_builtin (b:=.append) (xs:=#[.tmp 13,.tmp 14]) rfl ?_);at_builtin;refine Kd.R_append (Kd.int .u8) (w0:=w) w.heap.size rfl (.tmp 13) (.tmp 14) 22 5 (.int .u8 0) 1 rfl Try.underlying22 info5 rfl (by decide) (by omega) v422 t421 128 [.int .u8 128] (fun _=>True) (fun _=>False) rfl rfl ?aP (fun _ hk=>hk.elim) ?aF ?aO ?aB ?aS ?aL ?_;(case aP=>exact rfl);(case aB=>exact (by repeat (first|(with_reducible first|exact HB.out|apply Z6|apply Z1|apply Z5|refine Z7 ?_ GE419.out)|exact HB.out)));(case aF=>exact (fun _ _=>trivial));(case aO=>exact (by (with_reducible repeat (first|apply Z3|apply Z2|apply Z4));exact HO423.out));(case aS=>exact (Zb (by repeat (first|(with_reducible first|exact HB.out|apply Z6|apply Z1|apply Z5|refine Z7 ?_ GE419.out)|exact HB.out))));(case aL=>have:=LMc5.out;omega);intro v425 w11 ho hb hg hat;rw [← Ny424.out] at ho;have n0_:=Z0 (blk_grown (g:=gb419) (o:=.cells #[.slice A0_0 l0_0.length c0_0,.int .i64 a0_1,.slice A0_2 l0_2.length c0_2] 31 (0,0)) (by (with_reducible repeat (first|refine Z8 ?_ _|refine Za ?_|refine Z9 ?_ _));exact BK419.out) hg (Kd.R_ne HO423.out BK419.out (by decide)));have n1_:=Z0 (hb);have n2_:=Z0 (ho);clear BK419;clear HB;clear HO423;have BK419:=n0_;have HB:=n1_;have HO426:=n2_;clear n0_ n1_ n2_;clear ho hb hg hat))
 go_loopg [3] k (fun kq v3 w'=>∃ (x3_1 : List Int),Aside0 (impl_SumEnd.l0 kq x3_1 l0_0 a0_1 l0_2 = some r) ∧ Aside0 (kq ≤ k) ∧ Aside0 (Kd.R (Kd.int .u8) 5 w' w.heap.size (fun _=>True) v3 x3_1) ∧ Aside0 (w'.heap[gb419]? = some (.cells #[(.slice A0_0 l0_0.length c0_0),.int .i64 a0_1,(.slice A0_2 l0_2.length c0_2)] 31 (0,0))) ∧ Aside0 (Below w.heap.size w w'))
 case atStart=>exact ⟨(y424),H',⟨Zo _⟩,⟨by (with_reducible repeat (first|apply Z3|apply Z2|apply Z4));exact HO426.out⟩,⟨by (with_reducible repeat (first|refine Z8 ?_ _|refine Za ?_|refine Z9 ?_ _));exact BK419.out⟩,⟨by repeat (first|(with_reducible first|exact HB.out|apply Z6|apply Z1|apply Z5|refine Z7 ?_ GE419.out)|exact HB.out)⟩⟩
 case round =>
  clear H'
  (try clear c1);(try clear c2);(try clear p2);(try clear c3);(try clear c5);(try clear hcz7_0);(try clear hcz7_1);(try clear hcz7_2);(try clear hcz9_0);(try clear hcz9_1);(try clear hcz9_2);(try clear hfz7_0);(try clear hfz7_1);(try clear hfz7_2);(try clear hfz9_0);(try clear hfz9_1);(try clear hfz9_2)
  obtain ⟨x3_1,HA,HK1,HO_3,BK419,HB⟩:=hrel
  cases gk with
  | zero=>exact absurd HA.out (by simp [impl_SumEnd.l0])
  | succ k1 =>
   have H:=HA.out
   clear HA
   simp only [impl_SumEnd.l0] at H
   by_cases c12 : ((x3_1.length : Int) % 64) = 56
   case neg =>
    rw [if_neg c12] at H
    have c12b0 : (((x3_1.length : Int) % 64) == 56) = false:=beq_eq_false_iff_ne.mpr c12
    have c12b1 : (((x3_1.length : Int) % 64) != 56) = true:=bne_iff_ne.mpr c12
    by_cases c44 : x3_1.length < 140737488355328
    case neg =>
     rw [if_neg c44] at H
     exact absurd H (by simp)
    rw [if_pos c44] at H
    have LMc44:=Z0 c44
    clear c44
    obtain ⟨y427,hy427⟩ : ∃ y_ : List Int,y_ = (x3_1 ++ [0]):=⟨_,rfl⟩
    replace H : (impl_SumEnd.l0 k1 y427 l0_0 a0_1 l0_2) = some r:=by first|(rw [hy427];with_reducible exact H)|(have H2_:=(Zi _ _).symm.trans H;rw [hy427];with_reducible exact H2_)|(have H2_:=(Zi _ _).symm.trans H;with_reducible exact H2_)|with_reducible exact H|(rw [hy427];exact H)|exact H
    have Ny427:=Z0 hy427
    clear hy427
    have H':=Z0 H
    clear H
    obtain ⟨Ao45,co45,eo45⟩:=Kd.R_slice HO_3.out
    subst eo45
    go_wp2_with (first|((with_reducible refine gate_builtin (b:=.append) (xs:=#[.tmp 20,.tmp 21]) rfl ?_);at_builtin;refine Kd.R_append (Kd.int .u8) (w0:=w) w.heap.size rfl (.tmp 20) (.tmp 21) 22 5 (.int .u8 0) 1 rfl Try.underlying22 info5 rfl (by decide) (by omega) (.slice Ao45 x3_1.length co45) x3_1 0 [.int .u8 0] (fun _=>True) (fun _=>False) rfl rfl ?aP (fun _ hk=>hk.elim) ?aF ?aO ?aB ?aS ?aL ?_;(case aP=>exact rfl);(case aB=>exact (by repeat (first|(with_reducible first|exact HB.out|apply Z6|apply Z1|apply Z5|refine Z7 ?_ GE419.out)|exact HB.out)));(case aF=>exact (fun _ _=>trivial));(case aO=>exact (by (with_reducible repeat (first|apply Z3|apply Z2|apply Z4));exact HO_3.out));(case aS=>exact (Zb (by repeat (first|(with_reducible first|exact HB.out|apply Z6|apply Z1|apply Z5|refine Z7 ?_ GE419.out)|exact HB.out))));(case aL=>have:=LMc44.out;omega);intro v428 w46 ho hb hg hat;rw [← Ny427.out] at ho;have n0_:=Z0 (blk_grown (g:=gb419) (o:=.cells #[.slice A0_0 l0_0.length c0_0,.int .i64 a0_1,.slice A0_2 l0_2.length c0_2] 31 (0,0)) (by (with_reducible repeat (first|refine Z8 ?_ _|refine Za ?_|refine Z9 ?_ _));exact BK419.out) hg (Kd.R_ne HO_3.out BK419.out (by decide)));have n1_:=Z0 (hb);have n2_:=Z0 (ho);clear BK419;clear HB;clear HO_3;have BK419:=n0_;have HB:=n1_;have HO429:=n2_;clear n0_ n1_ n2_;clear ho hb hg hat))
    go_roundg k1
    case measure=>have:=HK1.out;omega
    case rel=>exact ⟨(y427),H',⟨by have:=HK1.out;omega⟩,⟨by (with_reducible repeat (first|apply Z3|apply Z2|apply Z4));exact HO429.out⟩,⟨by (with_reducible repeat (first|refine Z8 ?_ _|refine Za ?_|refine Z9 ?_ _));exact BK419.out⟩,⟨by repeat (first|(with_reducible first|exact HB.out|apply Z6|apply Z1|apply Z5|refine Z7 ?_ GE419.out)|exact HB.out)⟩⟩
   rw [if_pos c12] at H
   have c12b0 : (((x3_1.length : Int) % 64) == 56) = true:=beq_iff_eq.mpr c12
   have c12b1 : (((x3_1.length : Int) % 64) != 56) = false:=bne_eq_false_iff_eq.mpr c12
   clear c12
   replace H:=Option.bind_eq_some_iff.mp H
   obtain ⟨t430,A130,H⟩:=H
   replace H : (if x3_1.length + t430.length < 140737488355328 then ((slices_Clone_int_int.f l0_0).bind fun t436=>(impl_SumEnd.l1 k1 (x3_1 ++ t430) t436)) else (none)) = some r:=H
   have A13:=Z0 A130
   clear A130
   by_cases c14 : x3_1.length + t430.length < 140737488355328
   case neg =>
    rw [if_neg c14] at H
    exact absurd H (by simp)
   rw [if_pos c14] at H
   have LMc14:=Z0 c14
   clear c14
   obtain ⟨y433,hy433⟩ : ∃ y_ : List Int,y_ = (x3_1 ++ t430):=⟨_,rfl⟩
   replace H : ((slices_Clone_int_int.f l0_0).bind fun t436=>(impl_SumEnd.l1 k1 y433 t436)) = some r:=by first|(rw [hy433];with_reducible exact H)|(have H2_:=(Zi _ _).symm.trans H;rw [hy433];with_reducible exact H2_)|(have H2_:=(Zi _ _).symm.trans H;with_reducible exact H2_)|with_reducible exact H|(rw [hy433];exact H)|exact H
   have Ny433:=Z0 hy433
   clear hy433
   replace H:=Option.bind_eq_some_iff.mp H
   obtain ⟨t436,A150,H⟩:=H
   replace H : (impl_SumEnd.l1 k1 y433 t436) = some r:=H
   have A15:=Z0 A150
   clear A150
   have H':=Z0 H
   clear H
   obtain ⟨Ao16,co16,eo16⟩:=Kd.R_slice HO_3.out
   subst eo16
   have hcz17_0 : wr.cell? ⟨gb419,0,none⟩ = some (.slice A0_0 l0_0.length c0_0):=(Zf BK419.out 0).trans rfl
   have hcz17_1 : wr.cell? ⟨gb419,1,none⟩ = some (.int .i64 a0_1):=(Zf BK419.out 1).trans rfl
   have hcz17_2 : wr.cell? ⟨gb419,2,none⟩ = some (.slice A0_2 l0_2.length c0_2):=(Zf BK419.out 2).trans rfl
   have hfz17_0:=Zh BK419.out 0
   have hfz17_1:=Zh BK419.out 1
   have hfz17_2:=Zh BK419.out 2
   go_wp2_with (first|((with_reducible refine gate_callee (f:=24) rfl ?_);refine goesL_ (some 27) rfl rfl Try.func24 (by kernel_rfl) rfl #[.int .i64 (wrap64 (8 * a0_1))] rfl (by (try simp only [Zl,Zm,Zn]);first|done|rfl|(simp only [Zj,Zk];rfl)) ?_;(with_reducible refine (impl_high.calls k1 (wrap64 (8 * a0_1)) t430 _ A13.out).mono ?_);rintro e w18 ⟨v431,rfl,ho0,hb⟩;refine ⟨_,rfl,?_⟩;have n0_:=Z0 (Kd.R_elder' (by (with_reducible repeat (first|apply Z3|apply Z2|apply Z4));exact HO_3.out) (Kd.R_base ho0) hb);have n1_:=Z0 (Kd.R_lower (Kd.R_new' ho0 (Kd.R_lt (by (with_reducible repeat (first|apply Z3|apply Z2|apply Z4));exact HO_3.out))) (Zb (by repeat (first|(with_reducible first|exact HB.out|apply Z6|apply Z1|apply Z5|refine Z7 ?_ GE419.out)|exact HB.out))));have n2_:=Z0 (blk_below (g:=gb419) (o:=.cells #[.slice A0_0 l0_0.length c0_0,.int .i64 a0_1,.slice A0_2 l0_2.length c0_2] 31 (0,0)) (by (with_reducible repeat (first|refine Z8 ?_ _|refine Za ?_|refine Z9 ?_ _));exact BK419.out) hb);have n3_:=Z0 (Zg (by repeat (first|(with_reducible first|exact HB.out|apply Z6|apply Z1|apply Z5|refine Z7 ?_ GE419.out)|exact HB.out)) hb);clear HO_3;clear BK419;clear HB;have HO_3:=n0_;have HO432:=n1_;have BK419:=n2_;have HB:=n3_;clear n0_ n1_ n2_ n3_;(try clear hb);(try clear hb2);(try clear hk);(try clear hi);(try clear ho0);obtain ⟨Ao20,co20,eo20⟩:=Kd.R_slice HO432.out;subst eo20)|((with_reducible refine gate_builtin (b:=.append) (xs:=#[.tmp 23,.tmp 27]) rfl ?_);at_builtin;refine Kd.R_append_rows (Kd.int .u8) (w0:=w) w.heap.size rfl (.tmp 23) (.tmp 27) 22 5 (.int .u8 0) 1 rfl Try.underlying22 info5 rfl (by decide) (by omega) (.slice Ao16 x3_1.length co16) x3_1 t430 _ _ _ (fun k_=>some k_ ≠ (.slice Ao20 t430.length co20 : Value).ownBlock) (fun _=>False) rfl rfl ?aO ?aR (fun _ _ h=>h) (fun _ h=>h.elim) ?aF ?aB ?aS ?aL ?_;(case aR=>repeat (first|exact (Kd.R_reads' HO432.out).2.2|(with_reducible refine Zd ?_ _)|(with_reducible refine Zc ?_ _)|(with_reducible refine Ze ?_)));(case aB=>exact (by repeat (first|(with_reducible first|exact HB.out|apply Z6|apply Z1|apply Z5|refine Z7 ?_ GE419.out)|exact HB.out)));(case aF=>exact (fun k_ hk=>Kd.fresh' (Kd.R_lt (by (with_reducible repeat (first|apply Z3|apply Z2|apply Z4));exact HO432.out)) k_ hk));(case aO=>exact (by (with_reducible repeat (first|apply Z3|apply Z2|apply Z4));exact Kd.R_mono HO_3.out (fun _ hk=>hk.2)));(case aS=>exact (Zb (by repeat (first|(with_reducible first|exact HB.out|apply Z6|apply Z1|apply Z5|refine Z7 ?_ GE419.out)|exact HB.out))));(case aL=>have:=LMc14.out;omega);intro v434 w19 ho hb hg hat;rw [← Ny433.out] at ho;have n0_:=Z0 (blk_grown (g:=gb419) (o:=.cells #[.slice A0_0 l0_0.length c0_0,.int .i64 a0_1,.slice A0_2 l0_2.length c0_2] 31 (0,0)) (by (with_reducible repeat (first|refine Z8 ?_ _|refine Za ?_|refine Z9 ?_ _));exact BK419.out) hg (Kd.R_ne HO_3.out BK419.out (by decide)));have n1_:=Z0 (Kd.R_after (ok:=(fun _=>True)) (by (with_reducible repeat (first|apply Z3|apply Z2|apply Z4));exact HO432.out) hg hat);have n2_:=Z0 (hb);have n3_:=Z0 (ho);clear BK419;clear HO432;clear HB;clear HO_3;have BK419:=n0_;have HO432:=n1_;have HB:=n2_;have HO435:=n3_;clear n0_ n1_ n2_ n3_;clear ho hb hg hat;have hcz21_0 : w19.cell? ⟨gb419,0,none⟩ = some (.slice A0_0 l0_0.length c0_0):=(Zf BK419.out 0).trans rfl;have hcz21_1 : w19.cell? ⟨gb419,1,none⟩ = some (.int .i64 a0_1):=(Zf BK419.out 1).trans rfl;have hcz21_2 : w19.cell? ⟨gb419,2,none⟩ = some (.slice A0_2 l0_2.length c0_2):=(Zf BK419.out 2).trans rfl;have hfz21_0:=Zh BK419.out 0;have hfz21_1:=Zh BK419.out 1;have hfz21_2:=Zh BK419.out 2)|((with_reducible refine gate_callee (f:=25) rfl ?_);refine goesL_ (some 31) rfl rfl Try.func25 (by kernel_rfl) rfl #[.slice A0_0 l0_0.length c0_0] rfl (by (try simp only [Zl,Zm,Zn]);first|done|rfl|(simp only [Zj,Zk];rfl)) ?_;(with_reducible refine (slices_Clone_int_int.calls _ _ l0_0 t436 _ ?side1 ?side2 A15.out).mono ?_);(case side1=>repeat (first|exact (Kd.C_below HR0_0.out HB.out)|(with_reducible refine Zd ?_ _)|(with_reducible refine Zc ?_ _)|(with_reducible refine Ze ?_)));(case side2=>exact HC0_0.out);rintro e w22 ⟨v437,rfl,ho0,hb⟩;refine ⟨_,rfl,?_⟩;have n0_:=Z0 (Kd.R_below (by (with_reducible repeat (first|apply Z3|apply Z2|apply Z4));exact HO432.out) hb);have n1_:=Z0 (Kd.R_below (by (with_reducible repeat (first|apply Z3|apply Z2|apply Z4));exact HO435.out) hb);have n2_:=Z0 (Kd.R_lower ho0 (Zb (by repeat (first|(with_reducible first|exact HB.out|apply Z6|apply Z1|apply Z5|refine Z7 ?_ GE419.out)|exact HB.out))));have n3_:=Z0 (blk_below (g:=gb419) (o:=.cells #[.slice A0_0 l0_0.length c0_0,.int .i64 a0_1,.slice A0_2 l0_2.length c0_2] 31 (0,0)) (by (with_reducible repeat (first|refine Z8 ?_ _|refine Za ?_|refine Z9 ?_ _));exact BK419.out) hb);have n4_:=Z0 (Zg (by repeat (first|(with_reducible first|exact HB.out|apply Z6|apply Z1|apply Z5|refine Z7 ?_ GE419.out)|exact HB.out)) hb);clear HO432;clear HO435;clear BK419;clear HB;have HO432:=n0_;have HO435:=n1_;have HO438:=n2_;have BK419:=n3_;have HB:=n4_;clear n0_ n1_ n2_ n3_ n4_;(try clear hb);(try clear hb2);(try clear hk);(try clear hi);(try clear ho0)))
   go_loopg [3,4] k1 (fun kq v3 v4 w'=>∃ (x3_2 : List Int) (x4_2 : List Int),Aside0 (impl_SumEnd.l1 kq x3_2 x4_2 = some r) ∧ Aside0 (kq ≤ k1) ∧ Aside0 (Kd.Q (Kd.int .u8) 5 w' w.heap.size (fun _=>True) v3 x3_2) ∧ Aside0 (Kd.R (Kd.int .i64) 3 w' w.heap.size (fun _=>True) v4 x4_2) ∧ Aside0 (w'.heap[gb419]? = some (.cells #[(.slice A0_0 l0_0.length c0_0),.int .i64 a0_1,(.slice A0_2 l0_2.length c0_2)] 31 (0,0))) ∧ Aside0 (Below w.heap.size w w'))
   case atStart=>exact ⟨(y433),(t436),H',⟨Zo _⟩,⟨Kd.Q_of_R (by (with_reducible repeat (first|apply Z3|apply Z2|apply Z4));exact Kd.R_mono HO435.out (fun _ hk=>trivial))⟩,⟨by (with_reducible repeat (first|apply Z3|apply Z2|apply Z4));exact HO438.out⟩,⟨by (with_reducible repeat (first|refine Z8 ?_ _|refine Za ?_|refine Z9 ?_ _));exact BK419.out⟩,⟨by repeat (first|(with_reducible first|exact HB.out|apply Z6|apply Z1|apply Z5|refine Z7 ?_ GE419.out)|exact HB.out)⟩⟩
   case round =>
    clear H'
    (try clear c1);(try clear c2);(try clear p2);(try clear c3);(try clear c5);(try clear p6);(try clear c12);(try clear c12b0);(try clear c12b1);(try clear c14);(try clear c17);(try clear hcz17_0);(try clear hcz17_1);(try clear hcz17_2);(try clear hcz21_0);(try clear hcz21_1);(try clear hcz21_2);(try clear hcz7_0);(try clear hcz7_1);(try clear hcz7_2);(try clear hcz9_0);(try clear hcz9_1);(try clear hcz9_2);(try clear hfz17_0);(try clear hfz17_1);(try clear hfz17_2);(try clear hfz21_0);(try clear hfz21_1);(try clear hfz21_2);(try clear hfz7_0);(try clear hfz7_1);(try clear hfz7_2);(try clear hfz9_0);(try clear hfz9_1);(try clear hfz9_2);(try clear p2)
    obtain ⟨x3_2,x4_2,HA,HK2,HO_3,HO_4,BK419,HB⟩:=hrel
    cases gk with
    | zero=>exact absurd HA.out (by simp [impl_SumEnd.l1])
    | succ k2 =>
     have H:=HA.out
     clear HA
     simp only [impl_SumEnd.l1] at H
     by_cases c23 : (x3_2.length : Int) > 0
     case pos =>
      rw [if_pos c23] at H
      have c23b0 : decide (0 < (x3_2.length : Int)) = true:=decide_eq_true c23
      have c23b1 : decide (0 < x3_2.length) = true:=decide_eq_true (by omega)
      clear c23
      by_cases c24 : 64 ≤ (x3_2.length : Int)
      case neg =>
       rw [if_neg c24] at H
       exact absurd H (by simp)
      rw [if_pos c24] at H
      have c24b0:=eq_true c24
      have c24b1 : decide (64 ≤ (x3_2.length : Int)) = true:=decide_eq_true c24
      clear c24
      obtain ⟨y439,hy439⟩ : ∃ y_ : List Int,y_ = (x3_2.take 64):=⟨_,rfl⟩
      replace H : ((impl_turned.f k2 x4_2 y439).bind fun t443=>(impl_SumEnd.l1 k2 (x3_2.drop (64 : Int).toNat) t443)) = some r:=by first|(rw [hy439];with_reducible exact H)|(have H2_:=(Zi _ _).symm.trans H;rw [hy439];with_reducible exact H2_)|(have H2_:=(Zi _ _).symm.trans H;with_reducible exact H2_)|with_reducible exact H|(rw [hy439];exact H)|exact H
      have Ny439:=Z0 hy439
      clear hy439
      replace H:=Option.bind_eq_some_iff.mp H
      obtain ⟨t443,A250,H⟩:=H
      replace H : (impl_SumEnd.l1 k2 (x3_2.drop (64 : Int).toNat) t443) = some r:=H
      have A25:=Z0 A250
      clear A250
      have c26b0:=eq_true (of_decide_eq_true (by first|(with_reducible assumption)|assumption) : 64 ≤ (x3_2.length : Int))
      obtain ⟨y446,hy446⟩ : ∃ y_ : List Int,y_ = (x3_2.drop (64 : Int).toNat):=⟨_,rfl⟩
      replace H : (impl_SumEnd.l1 k2 y446 t443) = some r:=by first|(rw [hy446];with_reducible exact H)|(have H2_:=(Zi _ _).symm.trans H;rw [hy446];with_reducible exact H2_)|(have H2_:=(Zi _ _).symm.trans H;with_reducible exact H2_)|with_reducible exact H|(rw [hy446];exact H)|exact H
      have Ny446:=Z0 hy446
      clear hy446
      have H':=Z0 H
      clear H
      obtain ⟨Ao27,co27,eo27,_⟩:=Kd.Q_slice HO_3.out
      subst eo27
      have q28 : (64 : Int) ≤ ((x3_2.length : Int) : Int):=of_decide_eq_true (by first|(with_reducible assumption)|assumption)
      obtain ⟨i028,hi028,_,hsz28,_⟩:=info_parts info5
      have hroom28 : x3_2.length ≤ co27:=(Kd.Q_reads' HO_3.out).2.1
      have hC28 : Kd.C (Kd.int .u8) _ Ao27 x3_2.length x3_2:=(Kd.Q_reads' HO_3.out).2.2
      have hcut28:=cut_to (P:=Try.prog) 22 5 .i64 Try.underlying22 hi028 Ao27 x3_2.length co27 64 (by omega) q28 hroom28
      have hr28:=Kd.C_take (m:=64) hC28 (by omega)
      have hy28 : y439.length = (64 : Int).toNat:=(by rw [Ny439.out,Zk];omega)
      rw [← Ny439.out] at hr28
      rw [← hy28] at hcut28
      have HR442:=Z0 hr28
      have HC442:=Z0 (show y439.length ≤ co27 from by omega)
      clear hr28 hC28 hroom28 hi028 hsz28
      have KY28:=Z0 hy28
      clear hy28
      have KL28:=Z0 (show 64 ≤ x3_2.length from by omega)
      replace q28:=eq_true q28
      obtain ⟨Ao29,co29,eo29⟩:=Kd.R_slice HO_4.out
      subst eo29
      go_wp2_with (first|((with_reducible refine gate_callee (f:=26) rfl ?_);refine goesL_ (some 40) rfl rfl Try.func26 (by kernel_rfl) rfl #[.slice Ao29 x4_2.length co29,.slice Ao27 y439.length co27] rfl (by (try simp only [Zl,Zm,Zn]);first|done|rfl|(simp only [Zj,Zk];rfl)) ?_;(with_reducible refine (impl_turned.calls k2 _ _ x4_2 _ _ y439 t443 _ ?side1 ?side2 ?side3 ?side4 A25.out).mono ?_);(case side1=>repeat (first|exact (Kd.R_reads' HO_4.out).2.2|(with_reducible refine Zd ?_ _)|(with_reducible refine Zc ?_ _)|(with_reducible refine Ze ?_)));(case side2=>exact (Kd.R_reads' HO_4.out).2.1);(case side3=>repeat (first|exact (by repeat (first|(with_reducible exact HR442.out)|(with_reducible refine Zd ?_ _)|(with_reducible refine Zc ?_ _)|(with_reducible refine Ze ?_)|exact HR442.out))|(with_reducible refine Zd ?_ _)|(with_reducible refine Zc ?_ _)|(with_reducible refine Ze ?_)));(case side4=>exact HC442.out);rintro e w30 ⟨v444,rfl,ho0,hb⟩;refine ⟨_,rfl,?_⟩;have n0_:=Z0 (Kd.Q_below (by (with_reducible repeat (first|apply Kd.Q_alloc|apply Kd.Q_drewN|apply Kd.Q_drew));exact HO_3.out) hb);have n1_:=Z0 (Kd.R_elder' (by (with_reducible repeat (first|apply Z3|apply Z2|apply Z4));exact HO_4.out) (Kd.R_base ho0) hb);have n2_:=Z0 (Kd.R_lower (Kd.R_new' ho0 (Kd.R_lt (by (with_reducible repeat (first|apply Z3|apply Z2|apply Z4));exact HO_4.out))) (Zb (by repeat (first|(with_reducible first|exact HB.out|apply Z6|apply Z1|apply Z5|refine Z7 ?_ GE419.out)|exact HB.out))));have n3_:=Z0 (blk_below (g:=gb419) (o:=.cells #[.slice A0_0 l0_0.length c0_0,.int .i64 a0_1,.slice A0_2 l0_2.length c0_2] 31 (0,0)) (by (with_reducible repeat (first|refine Z8 ?_ _|refine Za ?_|refine Z9 ?_ _));exact BK419.out) hb);have n4_:=Z0 (Kd.C_below (by repeat (first|(with_reducible exact HR442.out)|(with_reducible refine Zd ?_ _)|(with_reducible refine Zc ?_ _)|(with_reducible refine Ze ?_)|exact HR442.out)) hb);have n5_:=Z0 (Zg (by repeat (first|(with_reducible first|exact HB.out|apply Z6|apply Z1|apply Z5|refine Z7 ?_ GE419.out)|exact HB.out)) hb);clear HO_3;clear HO_4;clear BK419;clear HR442;clear HB;have HO_3:=n0_;have HO_4:=n1_;have HO445:=n2_;have BK419:=n3_;have HR442:=n4_;have HB:=n5_;clear n0_ n1_ n2_ n3_ n4_ n5_;(try clear hb);(try clear hb2);(try clear hk);(try clear hi);(try clear ho0);have q31 : (64 : Int) ≤ ((x3_2.length : Int) : Int):=of_decide_eq_true (by first|(with_reducible assumption)|assumption);obtain ⟨i031,hi031,_,hsz31,_⟩:=info_parts info5;have hcut31:=cut_from (P:=Try.prog) 22 5 .i64 Try.underlying22 hi031 1 hsz31 Ao27 x3_2.length co27 64 (by omega) q31;have hr31:=Kd.Q_drop (k:=(64 : Int).toNat) HO_3.out (by omega);obtain ⟨A31,hA31⟩ : ∃ A1,A1 = (if co27 = (64 : Int).toNat then Ao27 else (Ao27 : Option Addr).map (·.add ((64 : Int).toNat * 1))):=⟨_,rfl⟩;obtain ⟨c31,hc31⟩ : ∃ c1,c1 = co27 - (64 : Int).toNat:=⟨_,rfl⟩;have hy31 : y446.length = x3_2.length - (64 : Int).toNat:=(by rw [Ny446.out,Zj]);rw [← Ny446.out] at hr31;rw [← hy31,← hA31,← hc31] at hcut31;replace hr31 : Kd.Q (Kd.int .u8) 5 w30 w.heap.size (fun _=>True) (.slice A31 y446.length c31) y446:=(by rw [hA31,hc31,hy31];exact hr31);have HE31 : Aside0 ((Value.slice A31 y446.length c31).ownBlock = (.slice Ao27 x3_2.length co27 : Value).ownBlock):=⟨by rw [hA31];split<;>(cases (Ao27 : Option Addr)<;>rfl)⟩;clear hy31 hi031 hsz31 HO_3 hA31 hc31;have HO448:=Z0 hr31;clear hr31;replace q31:=eq_true q31))
      go_roundg k2
      case measure=>have:=HK1.out;have:=HK2.out;omega
      case rel=>exact ⟨(y446),(t443),H',⟨by have:=HK1.out;have:=HK2.out;omega⟩,⟨by (with_reducible repeat (first|apply Kd.Q_alloc|apply Kd.Q_drewN|apply Kd.Q_drew));exact HO448.out⟩,⟨by (with_reducible repeat (first|apply Z3|apply Z2|apply Z4));exact Kd.R_mono HO445.out (fun _ hk=>trivial)⟩,⟨by (with_reducible repeat (first|refine Z8 ?_ _|refine Za ?_|refine Z9 ?_ _));exact BK419.out⟩,⟨by repeat (first|(with_reducible first|exact HB.out|apply Z6|apply Z1|apply Z5|refine Z7 ?_ GE419.out)|exact HB.out)⟩⟩
     rw [if_neg c23] at H
     have c23b0 : decide (0 < (x3_2.length : Int)) = false:=decide_eq_false c23
     have c23b1 : decide (0 < x3_2.length) = false:=decide_eq_false (by omega)
     clear c23
     obtain ⟨y449,hy449⟩ : ∃ y_ : List Int,y_ = (([] : List Int)):=⟨_,rfl⟩
     replace H : (impl_SumEnd.l2 k2 y449 x4_2 (x4_2.length : Int) 0) = some r:=by first|(rw [hy449];with_reducible exact H)|(have H2_:=(Zi _ _).symm.trans H;rw [hy449];with_reducible exact H2_)|(have H2_:=(Zi _ _).symm.trans H;with_reducible exact H2_)|with_reducible exact H|(rw [hy449];exact H)|exact H
     have Ny449:=Z0 hy449
     clear hy449
     have H':=Z0 H
     clear H
     obtain ⟨Ao32,co32,eo32,_⟩:=Kd.Q_slice HO_3.out
     subst eo32
     go_wp2_with (first|((with_reducible refine gate_dst (N:=41) rfl ?_);refine Kd.R_lit (Kd.int .u8) _ 5 ?hg (N:=41) ?hd (xs:=([] : List Int)) (inner:=[]) (ok:=fun _=>True) (okp:=fun _=>True) ?hr ?hp (fun _ hk=>hk) trivial (Below.refl _ _) (Zo _) (by simp) ?_;(case hd=>rfl);(case hg=>rfl);(case hr=>first|(go_simp;done)|(go_simp;rfl));(case hp=>exact (Reps.none _ _));intro v450 w33 ho34 hb hg_ hnew_;clear hg_ hnew_;(first|rw [← Ny449.out] at ho34|(simp only [Int.reduceToNat] at ho34;rw [← Ny449.out] at ho34));have n0_:=Z0 (Kd.Q_elder' (by (with_reducible repeat (first|apply Kd.Q_alloc|apply Kd.Q_drewN|apply Kd.Q_drew));exact HO_3.out) (Kd.R_base ho34) hb);have n1_:=Z0 (Kd.R_below (by (with_reducible repeat (first|apply Z3|apply Z2|apply Z4));exact HO_4.out) hb);have n2_:=Z0 (Kd.R_lower (Kd.R_new' ho34 (Kd.Q_lt (by (with_reducible repeat (first|apply Kd.Q_alloc|apply Kd.Q_drewN|apply Kd.Q_drew));exact HO_3.out))) (Zb (by repeat (first|(with_reducible first|exact HB.out|apply Z6|apply Z1|apply Z5|refine Z7 ?_ GE419.out)|exact HB.out))));have n3_:=Z0 (blk_below (g:=gb419) (o:=.cells #[.slice A0_0 l0_0.length c0_0,.int .i64 a0_1,.slice A0_2 l0_2.length c0_2] 31 (0,0)) (by (with_reducible repeat (first|refine Z8 ?_ _|refine Za ?_|refine Z9 ?_ _));exact BK419.out) hb);have n4_:=Z0 (Zg (by repeat (first|(with_reducible first|exact HB.out|apply Z6|apply Z1|apply Z5|refine Z7 ?_ GE419.out)|exact HB.out)) hb);clear HO_3;clear HO_4;clear BK419;clear HB;have HO_3:=n0_;have HO_4:=n1_;have HO451:=n2_;have BK419:=n3_;have HB:=n4_;clear n0_ n1_ n2_ n3_ n4_;clear hb ho34;obtain ⟨Ao35,co35,eo35⟩:=Kd.R_slice HO_4.out;subst eo35))
     go_loopg [5,44] k2 (fun kq v5 v44 w'=>∃ (x5_3 : List Int) (x44_3 : Int),v44 = .int .i64 x44_3 ∧ Aside0 (impl_SumEnd.l2 kq x5_3 x4_2 (x4_2.length : Int) x44_3 = some r) ∧ Aside0 (kq ≤ k2) ∧ Aside0 (Kd.R (Kd.int .u8) 5 w' w.heap.size (fun _=>True) v5 x5_3) ∧ Aside0 (Kd.R (Kd.int .i64) 3 w' w.heap.size (fun _=>True) (.slice Ao35 x4_2.length co35) x4_2) ∧ Aside0 (w'.heap[gb419]? = some (.cells #[(.slice A0_0 l0_0.length c0_0),.int .i64 a0_1,(.slice A0_2 l0_2.length c0_2)] 31 (0,0))) ∧ Aside0 (Below w.heap.size w w'))
     case atStart=>exact ⟨(y449),(0),(by first|rfl|(simp;done)|(simp [*];done)),H',⟨Zo _⟩,⟨by (with_reducible repeat (first|apply Z3|apply Z2|apply Z4));exact Kd.R_mono HO451.out (fun _ hk=>trivial)⟩,⟨by (with_reducible repeat (first|apply Z3|apply Z2|apply Z4));exact HO_4.out⟩,⟨by (with_reducible repeat (first|refine Z8 ?_ _|refine Za ?_|refine Z9 ?_ _));exact BK419.out⟩,⟨by repeat (first|(with_reducible first|exact HB.out|apply Z6|apply Z1|apply Z5|refine Z7 ?_ GE419.out)|exact HB.out)⟩⟩
     case round =>
      clear H'
      (try clear c1);(try clear c2);(try clear p2);(try clear q2);(try clear c3);(try clear q3);(try clear c5);(try clear p6);(try clear c12);(try clear c12b0);(try clear c12b1);(try clear c14);(try clear c17);(try clear c23);(try clear c23b0);(try clear c23b1);(try clear c24);(try clear c24b0);(try clear c24b1);(try clear c25);(try clear c26);(try clear c26b0);(try clear q28);(try clear c31);(try clear q31);(try clear hcz17_0);(try clear hcz17_1);(try clear hcz17_2);(try clear hcz21_0);(try clear hcz21_1);(try clear hcz21_2);(try clear hcz7_0);(try clear hcz7_1);(try clear hcz7_2);(try clear hcz9_0);(try clear hcz9_1);(try clear hcz9_2);(try clear hfz17_0);(try clear hfz17_1);(try clear hfz17_2);(try clear hfz21_0);(try clear hfz21_1);(try clear hfz21_2);(try clear hfz7_0);(try clear hfz7_1);(try clear hfz7_2);(try clear hfz9_0);(try clear hfz9_1);(try clear hfz9_2);(try clear p2);(try clear p6);(try clear q28);(try clear q31)
      obtain ⟨x5_3,x44_3,rfl,HA,HK3,HO_5,HO_42,BK419,HB⟩:=hrel
      cases gk with
      | zero=>exact absurd HA.out (by simp [impl_SumEnd.l2])
      | succ k3 =>
       have H:=HA.out
       clear HA
       simp only [impl_SumEnd.l2] at H
       by_cases c36 : x44_3 < (x4_2.length : Int)
       case neg =>
        rw [if_neg c36] at H
        have c36b0 : decide (x44_3 < (x4_2.length : Int)) = false:=decide_eq_false c36
        clear c36
        obtain rfl:=Option.some.inj H
        go_wp2
        go_ret
        exact ⟨_,by first|rfl|(simp [errW_none,errW_some]<;>rfl)|(simp [*,errW_none,errW_some]<;>rfl),by (with_reducible repeat (first|apply Z3|apply Z2|apply Z4));exact HO_5.out,by repeat (first|(with_reducible first|exact HB.out|apply Z6|apply Z1|apply Z5|refine Z7 ?_ GE419.out)|exact HB.out)⟩
       rw [if_pos c36] at H
       have c36b0 : decide (x44_3 < (x4_2.length : Int)) = true:=decide_eq_true c36
       clear c36
       by_cases c37 : 0 ≤ x44_3
       case neg =>
        rw [if_neg c37] at H
        exact absurd H (by simp)
       rw [if_pos c37] at H
       have c37b0 : decide (0 ≤ x44_3) = true:=decide_eq_true c37
       clear c37
       by_cases c38 : x44_3 < (x4_2.length : Int)
       case neg =>
        rw [if_neg c38] at H
        exact absurd H (by simp)
       rw [if_pos c38] at H
       have c38b0 : decide (x44_3 < (x4_2.length : Int)) = true:=decide_eq_true c38
       clear c38
       obtain ⟨y453,hy453⟩ : ∃ y_ : List Int,y_ = (([((rd x4_2 x44_3) / 16777216) % 256,((rd x4_2 x44_3) / 65536) % 256,((rd x4_2 x44_3) / 256) % 256,(rd x4_2 x44_3) % 256] : List Int)):=⟨_,rfl⟩
       replace H : (if x5_3.length + y453.length < 140737488355328 then (impl_SumEnd.l2 k3 (x5_3 ++ y453) x4_2 (x4_2.length : Int) (wrap64 (x44_3 + 1))) else (none)) = some r:=by first|(rw [hy453];with_reducible exact H)|(have H2_:=(Zi _ _).symm.trans H;rw [hy453];with_reducible exact H2_)|(have H2_:=(Zi _ _).symm.trans H;with_reducible exact H2_)|with_reducible exact H|(rw [hy453];exact H)|exact H
       have Ny453:=Z0 hy453
       clear hy453
       by_cases c39 : x5_3.length + y453.length < 140737488355328
       case neg =>
        rw [if_neg c39] at H
        exact absurd H (by simp)
       rw [if_pos c39] at H
       have LMc39:=Z0 c39
       clear c39
       obtain ⟨y456,hy456⟩ : ∃ y_ : List Int,y_ = (x5_3 ++ y453):=⟨_,rfl⟩
       replace H : (impl_SumEnd.l2 k3 y456 x4_2 (x4_2.length : Int) (wrap64 (x44_3 + 1))) = some r:=by first|(rw [hy456];with_reducible exact H)|(have H2_:=(Zi _ _).symm.trans H;rw [hy456];with_reducible exact H2_)|(have H2_:=(Zi _ _).symm.trans H;with_reducible exact H2_)|with_reducible exact H|(rw [hy456];exact H)|exact H
       have Ny456:=Z0 hy456
       clear hy456
       have H':=Z0 H
       clear H
       have p452 : 0 ≤ (x44_3 : Int):=of_decide_eq_true (by first|(with_reducible assumption)|assumption)
       have q452 : x44_3 < (x4_2.length : Int):=of_decide_eq_true (by first|(with_reducible assumption)|assumption)
       obtain ⟨ad452,e452,hx452_0⟩:=Kd.at_int (Kd.R_reads' HO_42.out).2.2 x44_3 p452 q452
       cases e452
       replace p452:=eq_true p452
       replace q452:=eq_true q452
       go_wp2_with (first|((with_reducible refine gate_dst (N:=60) rfl ?_);refine Kd.R_lit (Kd.int .u8) _ 5 ?hg (N:=60) ?hd (xs:=([((rd x4_2 x44_3) / 16777216) % 256,((rd x4_2 x44_3) / 65536) % 256,((rd x4_2 x44_3) / 256) % 256,(rd x4_2 x44_3) % 256] : List Int)) (inner:=[.int .u8 (((rd x4_2 x44_3) / 16777216) % 256),.int .u8 (((rd x4_2 x44_3) / 65536) % 256),.int .u8 (((rd x4_2 x44_3) / 256) % 256),.int .u8 ((rd x4_2 x44_3) % 256)]) (ok:=fun _=>True) (okp:=fun _=>True) ?hr ?hp (fun _ hk=>hk) trivial (Below.refl _ _) (Zo _) (by simp) ?_;(case hd=>rfl);(case hg=>rfl);(case hr=>first|(go_simp;done)|(go_simp;rfl));(case hp=>exact (Reps.one (show Kd.M (Kd.int .u8) _ _ _ (((rd x4_2 x44_3) / 16777216) % 256) [.int .u8 (((rd x4_2 x44_3) / 16777216) % 256)] from rfl) (Reps.one (show Kd.M (Kd.int .u8) _ _ _ (((rd x4_2 x44_3) / 65536) % 256) [.int .u8 (((rd x4_2 x44_3) / 65536) % 256)] from rfl) (Reps.one (show Kd.M (Kd.int .u8) _ _ _ (((rd x4_2 x44_3) / 256) % 256) [.int .u8 (((rd x4_2 x44_3) / 256) % 256)] from rfl) (Reps.one (show Kd.M (Kd.int .u8) _ _ _ ((rd x4_2 x44_3) % 256) [.int .u8 ((rd x4_2 x44_3) % 256)] from rfl) (Reps.none _ _))))));intro v454 w40 ho41 hb hg_ hnew_;clear hg_ hnew_;(first|rw [← Ny453.out] at ho41|(simp only [Int.reduceToNat] at ho41;rw [← Ny453.out] at ho41));have n0_:=Z0 (Kd.R_elder' (by (with_reducible repeat (first|apply Z3|apply Z2|apply Z4));exact HO_5.out) (Kd.R_base ho41) hb);have n1_:=Z0 (Kd.R_below (by (with_reducible repeat (first|apply Z3|apply Z2|apply Z4));exact HO_42.out) hb);have n2_:=Z0 (Kd.R_lower (Kd.R_new' ho41 (Kd.R_lt (by (with_reducible repeat (first|apply Z3|apply Z2|apply Z4));exact HO_5.out))) (Zb (by repeat (first|(with_reducible first|exact HB.out|apply Z6|apply Z1|apply Z5|refine Z7 ?_ GE419.out)|exact HB.out))));have n3_:=Z0 (blk_below (g:=gb419) (o:=.cells #[.slice A0_0 l0_0.length c0_0,.int .i64 a0_1,.slice A0_2 l0_2.length c0_2] 31 (0,0)) (by (with_reducible repeat (first|refine Z8 ?_ _|refine Za ?_|refine Z9 ?_ _));exact BK419.out) hb);have n4_:=Z0 (Zg (by repeat (first|(with_reducible first|exact HB.out|apply Z6|apply Z1|apply Z5|refine Z7 ?_ GE419.out)|exact HB.out)) hb);clear HO_5;clear HO_42;clear BK419;clear HB;have HO_5:=n0_;have HO_42:=n1_;have HO455:=n2_;have BK419:=n3_;have HB:=n4_;clear n0_ n1_ n2_ n3_ n4_;clear hb ho41;obtain ⟨Ao43,co43,eo43⟩:=Kd.R_slice HO455.out;subst eo43)|((with_reducible refine gate_builtin (b:=.append) (xs:=#[.tmp 48,.tmp 60]) rfl ?_);at_builtin;refine Kd.R_append_rows (Kd.int .u8) (w0:=w) w.heap.size rfl (.tmp 48) (.tmp 60) 22 5 (.int .u8 0) 1 rfl Try.underlying22 info5 rfl (by decide) (by omega) u5 x5_3 y453 _ _ _ (fun k_=>some k_ ≠ (.slice Ao43 y453.length co43 : Value).ownBlock) (fun _=>False) rfl rfl ?aO ?aR (fun _ _ h=>h) (fun _ h=>h.elim) ?aF ?aB ?aS ?aL ?_;(case aR=>repeat (first|exact (Kd.R_reads' HO455.out).2.2|(with_reducible refine Zd ?_ _)|(with_reducible refine Zc ?_ _)|(with_reducible refine Ze ?_)));(case aB=>exact (by repeat (first|(with_reducible first|exact HB.out|apply Z6|apply Z1|apply Z5|refine Z7 ?_ GE419.out)|exact HB.out)));(case aF=>exact (fun k_ hk=>Kd.fresh' (Kd.R_lt (by (with_reducible repeat (first|apply Z3|apply Z2|apply Z4));exact HO455.out)) k_ hk));(case aO=>exact (by (with_reducible repeat (first|apply Z3|apply Z2|apply Z4));exact Kd.R_mono HO_5.out (fun _ hk=>hk.2)));(case aS=>exact (Zb (by repeat (first|(with_reducible first|exact HB.out|apply Z6|apply Z1|apply Z5|refine Z7 ?_ GE419.out)|exact HB.out))));(case aL=>have:=LMc39.out;omega);intro v457 w42 ho hb hg hat;rw [← Ny456.out] at ho;have n0_:=Z0 (Kd.R_over' (by (with_reducible repeat (first|apply Z3|apply Z2|apply Z4));exact HO_42.out) (Kd.R_typed (by (with_reducible repeat (first|apply Z3|apply Z2|apply Z4));exact HO_5.out)) (by decide) hg);have n1_:=Z0 (blk_grown (g:=gb419) (o:=.cells #[.slice A0_0 l0_0.length c0_0,.int .i64 a0_1,.slice A0_2 l0_2.length c0_2] 31 (0,0)) (by (with_reducible repeat (first|refine Z8 ?_ _|refine Za ?_|refine Z9 ?_ _));exact BK419.out) hg (Kd.R_ne HO_5.out BK419.out (by decide)));have n2_:=Z0 (Kd.R_after (ok:=(fun _=>True)) (by (with_reducible repeat (first|apply Z3|apply Z2|apply Z4));exact HO455.out) hg hat);have n3_:=Z0 (hb);have n4_:=Z0 (ho);clear HO_42;clear BK419;clear HO455;clear HB;clear HO_5;have HO_42:=n0_;have BK419:=n1_;have HO455:=n2_;have HB:=n3_;have HO458:=n4_;clear n0_ n1_ n2_ n3_ n4_;clear ho hb hg hat))
       go_roundg k3
       case measure=>have:=HK1.out;have:=HK2.out;have:=HK3.out;omega
       case rel=>exact ⟨(y456),(wrap64 (x44_3 + 1)),(by first|rfl|(simp;done)|(simp [*];done)),H',⟨by have:=HK1.out;have:=HK2.out;have:=HK3.out;omega⟩,⟨by (with_reducible repeat (first|apply Z3|apply Z2|apply Z4));exact Kd.R_mono HO458.out (fun _ hk=>trivial)⟩,⟨by (with_reducible repeat (first|apply Z3|apply Z2|apply Z4));exact HO_42.out⟩,⟨by (with_reducible repeat (first|refine Z8 ?_ _|refine Za ?_|refine Z9 ?_ _));exact BK419.out⟩,⟨by repeat (first|(with_reducible first|exact HB.out|apply Z6|apply Z1|apply Z5|refine Z7 ?_ GE419.out)|exact HB.out)⟩⟩

end Go.Proofs.Ytpkfmjdmfphbaag.QFnExactMac
