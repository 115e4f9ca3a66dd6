/- Plain functions with the same answers as the program's, and the proofs that they are. Printed by a program of this session (wip/myprint.py) out of Lean's print of the loaded program. Conditions: those in each theorem's head. -/
import Derived.Test.YtpkfmjdmfphbaagQFnExactMacx0
namespace Go.Proofs.Ytpkfmjdmfphbaag.QFnExactMac
open Go.RowKit Go.Proofs.Ytpkfmjdmfphbaag.Given Go.Proofs.YtpkfmjdmfphbaagW.PrintWords Go.Proofs.YtpkfmjdmfphbaagW.PrintLast Go.Proofs.YtpkfmjdmfphbaagW.PrintMore
open Go.Proofs.YtpkfmjdmfphbaagW.PrintWords.Aside0 renaming mk → Z0
open Go.Proofs.YtpkfmjdmfphbaagW.PrintWords renaming pw_below_drewN → Z1, below_drew1 → Z5, below_alloc → Z6, below_set → Z7, blk_drewN → Z8, blk_alloc → Z9, blk_drew → Za, below_size → Zb, blk_cell → Zc
open Go.Proofs.YtpkfmjdmfphbaagW.PrintWords.Kd renaming R_drewN → Z2, R_alloc → Z3, R_drew → Z4
open List renaming setIfInBounds_toArray → Zd, set_cons_zero → Ze, set_cons_succ → Zf
open Option renaming bind_some → Zg
open Nat renaming le_refl → Zh
open Go.RowKit.Below renaming refl → Zi
attribute [local go_sem] max2_int min2_int max_two min_two max_three min_three max_four min_four   -- for this text's walks alone
set_option linter.unusedVariables false
set_option linter.unusedSimpArgs false

/-! ### spec_l7Copy: function 22 -/
def spec_l7Copy.f (l0_0 : List Int) (a0_1 : Int) (l0_2 : List Int) : Option (List Int × Int × List Int) := (some (([] : List Int) : List Int)).bind fun y208 => (if y208.length + l0_0.length < 17592186044416 then ((some (([] : List Int) : List Int)).bind fun y214 => (if y214.length + l0_2.length < 140737488355328 then (some ((y208 ++ l0_0), a0_1, (y214 ++ l0_2))) else (none))) else (none))
def spec_l7Copy.T1 : Bool × List (List Nat × List Nat) := (true, [([], []), ([], []), ([1], [1]), ([0, 2], [0, 2]), ([], []), ([4], [4]), ([], []), ([], []), ([7], [7]), ([6, 8, 3], [6, 8]), ([3, 5, 9], [3, 5, 9]), ([10, 9, 0, 1, 2, 3, 4, 5, 6, 7, 8, 9, 10], [10])])
def spec_l7Copy.B1 : List Nat := [0, 0, 2, 7, 0, 16, 0, 0, 128, 463, 1023, 2047]
theorem spec_l7Copy.tab1 : rtab .any (opsOf Try.f22 1) = spec_l7Copy.T1 := by kernel_rfl
theorem spec_l7Copy.bits1 : waitsOk spec_l7Copy.T1.2 spec_l7Copy.B1 = true := by kernel_rfl
set_option maxHeartbeats 8000000 in
set_option maxRecDepth 100000 in
theorem spec_l7Copy.calls (A0_0 : Option Addr) (c0_0 : Nat) (l0_0 : List Int) (a0_1 : Int) (A0_2 : Option Addr) (c0_2 : Nat) (l0_2 : List Int) (r1 : List Int) (r2 : Int) (r3 : List Int) (w : World) (hr0_0 : Kd.C (Kd.int .i64) w A0_0 l0_0.length l0_0) (hc0_0 : l0_0.length ≤ c0_0) (hr0_2 : Kd.C (Kd.int .u8) w A0_2 l0_2.length l0_2) (hc0_2 : l0_2.length ≤ c0_2) (h : spec_l7Copy.f l0_0 a0_1 l0_2 = some (r1, r2, r3)) :
 Calls Try.prog 22 #[.agg #[.slice A0_0 l0_0.length c0_0, .int .i64 a0_1, .slice A0_2 l0_2.length c0_2]] w fun e w' => ∃ v0_ v2_ : Value, e = .returned (.agg #[v0_, .int .i64 r2, v2_]) ∧ Kd.R (Kd.int .i64) 3 w' w.heap.size (fun _ => True) v0_ r1 ∧ Kd.R (Kd.int .u8) 5 w' w.heap.size (fun _ => True) v2_ r3 ∧ Below w.heap.size w w' := by
 have hu31:=Try.underlying31
 have HR0_0:=Z0 hr0_0
 have HC0_0:=Z0 hc0_0
 clear hr0_0 hc0_0
 have HR0_2:=Z0 hr0_2
 have HC0_2:=Z0 hc0_2
 clear hr0_2 hc0_2
 have HB:=Z0 (Zi w.heap.size w)
 have H : ((some (([] : List Int) : List Int)).bind fun y208=>(if y208.length + l0_0.length < 17592186044416 then ((some (([] : List Int) : List Int)).bind fun y214=>(if y214.length + l0_2.length < 140737488355328 then (some ((y208 ++ l0_0),a0_1,(y214 ++ l0_2))) else (none))) else (none))) = some (r1,r2,r3):=h
 clear h
 obtain ⟨y208,hy208⟩ : ∃ y_ : List Int,y_ = (([] : List Int)):=⟨_,rfl⟩
 replace H : (if y208.length + l0_0.length < 17592186044416 then ((some (([] : List Int) : List Int)).bind fun y214=>(if y214.length + l0_2.length < 140737488355328 then (some ((y208 ++ l0_0),a0_1,(y214 ++ l0_2))) else (none))) else (none)) = some (r1,r2,r3):=by first|(rw [hy208];with_reducible exact H)|(have H2_:=(Zg _ _).symm.trans H;rw [hy208];with_reducible exact H2_)|(have H2_:=(Zg _ _).symm.trans H;with_reducible exact H2_)|with_reducible exact H|(rw [hy208];exact H)|exact H
 have Ny208:=Z0 hy208
 clear hy208
 by_cases c2 : y208.length + l0_0.length < 17592186044416
 case neg =>
  rw [if_neg c2] at H
  exact absurd H (by simp)
 rw [if_pos c2] at H
 have LMc2:=Z0 c2
 clear c2
 obtain ⟨y211,hy211⟩ : ∃ y_ : List Int,y_ = (y208 ++ l0_0):=⟨_,rfl⟩
 replace H : ((some (([] : List Int) : List Int)).bind fun y214=>(if y214.length + l0_2.length < 140737488355328 then (some (y211,a0_1,(y214 ++ l0_2))) else (none))) = some (r1,r2,r3):=by first|(rw [hy211];with_reducible exact H)|(have H2_:=(Zg _ _).symm.trans H;rw [hy211];with_reducible exact H2_)|(have H2_:=(Zg _ _).symm.trans H;with_reducible exact H2_)|with_reducible exact H|(rw [hy211];exact H)|exact H
 have Ny211:=Z0 hy211
 clear hy211
 obtain ⟨y214,hy214⟩ : ∃ y_ : List Int,y_ = (([] : List Int)):=⟨_,rfl⟩
 replace H : (if y214.length + l0_2.length < 140737488355328 then (some (y211,a0_1,(y214 ++ l0_2))) else (none)) = some (r1,r2,r3):=by first|(rw [hy214];with_reducible exact H)|(have H2_:=(Zg _ _).symm.trans H;rw [hy214];with_reducible exact H2_)|(have H2_:=(Zg _ _).symm.trans H;with_reducible exact H2_)|with_reducible exact H|(rw [hy214];exact H)|exact H
 have Ny214:=Z0 hy214
 clear hy214
 by_cases c3 : y214.length + l0_2.length < 140737488355328
 case neg =>
  rw [if_neg c3] at H
  exact absurd H (by simp)
 rw [if_pos c3] at H
 have LMc3:=Z0 c3
 clear c3
 obtain ⟨y217,hy217⟩ : ∃ y_ : List Int,y_ = (y214 ++ l0_2):=⟨_,rfl⟩
 replace H : (some (y211,a0_1,y217)) = some (r1,r2,r3):=by first|(rw [hy217];with_reducible exact H)|(have H2_:=(Zg _ _).symm.trans H;rw [hy217];with_reducible exact H2_)|(have H2_:=(Zg _ _).symm.trans H;with_reducible exact H2_)|with_reducible exact H|(rw [hy217];exact H)|exact H
 have Ny217:=Z0 hy217
 clear hy217
 simp only [Option.some.injEq,Prod.mk.injEq] at H
 obtain ⟨rfl,rfl,rfl⟩:=H
 go_enter Try.func22,Try.ntmps22
 try go_wp2_with (first|((with_reducible refine gate_dst (N:=1) rfl ?_);refine box_event ?hg (N:=1) ?hd (cs:=#[.slice A0_0 l0_0.length c0_0,.int .i64 a0_1,.slice A0_2 l0_2.length c0_2]) (t:=31) ?hr ?_;(case hd=>rfl);(case hg=>rfl);(case hr=>first|(go_simp;done)|(go_simp;rfl));intro gb206 hg w4 hbox hb;have n0_:=Z0 (below_step (by repeat (first|(with_reducible first|exact HB.out|apply Z6|apply Z1|apply Z5)|exact HB.out)) hb);have n1_:=Z0 (hbox);have n2_:=Z0 ((by rw [hg];exact (Zb (by repeat (first|(with_reducible first|exact HB.out|apply Z6|apply Z1|apply Z5)|exact HB.out))) : w.heap.size ≤ gb206));have n3_:=Z0 ((by rw [hg];exact (Zb (by repeat (first|(with_reducible first|exact HB.out|apply Z6|apply Z1|apply Z5)|exact HB.out))) : w.heap.size ≤ gb206));clear HB;have HB:=n0_;have BK206:=n1_;have GW206:=n2_;have GE206:=n3_;clear n0_ n1_ n2_ n3_;clear hb hbox hg)|((with_reducible refine gate_dst (N:=2) rfl ?_);refine box_event ?hg (N:=2) ?hd (cs:=#[.slice none 0 0,.int .i64 0,.slice none 0 0]) (t:=31) ?hr ?_;(case hd=>rfl);(case hg=>rfl);(case hr=>first|(go_simp;done)|(go_simp;rfl));intro gb207 hg w5 hbox hb;have n0_:=Z0 (blk_below (g:=gb206) (o:=.cells #[.slice A0_0 l0_0.length c0_0,.int .i64 a0_1,.slice A0_2 l0_2.length c0_2] 31 (0,0)) (by (with_reducible repeat (first|refine Z8 ?_ _|refine Za ?_|refine Z9 ?_ _));exact BK206.out) hb);have n1_:=Z0 (below_step (by repeat (first|(with_reducible first|exact HB.out|apply Z6|apply Z1|apply Z5|refine Z7 ?_ GE206.out)|exact HB.out)) hb);have n2_:=Z0 (hbox);have n3_:=Z0 ((by rw [hg];exact (Zb (by repeat (first|(with_reducible first|exact HB.out|apply Z6|apply Z1|apply Z5|refine Z7 ?_ GE206.out)|exact HB.out))) : w.heap.size ≤ gb207));have n4_:=Z0 ((by rw [hg];exact (Zb (by repeat (first|(with_reducible first|exact HB.out|apply Z6|apply Z1|apply Z5|refine Z7 ?_ GE206.out)|exact HB.out))) : w.heap.size ≤ gb207));have n5_:=Z0 ((by rw [hg];exact Nat.ne_of_lt (blk_lt (g:=gb206) (o:=.cells #[.slice A0_0 l0_0.length c0_0,.int .i64 a0_1,.slice A0_2 l0_2.length c0_2] 31 (0,0)) (by (with_reducible repeat (first|refine Z8 ?_ _|refine Za ?_|refine Z9 ?_ _));exact BK206.out)) : gb206 ≠ gb207));have n6_:=Z0 ((by rw [hg];exact Nat.ne_of_gt (blk_lt (g:=gb206) (o:=.cells #[.slice A0_0 l0_0.length c0_0,.int .i64 a0_1,.slice A0_2 l0_2.length c0_2] 31 (0,0)) (by (with_reducible repeat (first|refine Z8 ?_ _|refine Za ?_|refine Z9 ?_ _));exact BK206.out)) : gb207 ≠ gb206));clear BK206;clear HB;have BK206:=n0_;have HB:=n1_;have BK207:=n2_;have GW207:=n3_;have GE207:=n4_;have NB206_207:=n5_;have NB207_206:=n6_;clear n0_ n1_ n2_ n3_ n4_ n5_ n6_;clear hb hbox hg))
 have n0_:=Z0 (Za BK206.out)
 have n1_:=Z0 (Za BK207.out)
 have n2_:=Z0 (Z5 HB.out)
 clear BK206
 clear BK207
 clear HB
 have BK206:=n0_
 have BK207:=n1_
 have HB:=n2_
 clear n0_ n1_ n2_
 refine start_ (n:=12) (S:=fun w'=>w'.cell? ⟨gb206,0,none⟩ = some (.slice A0_0 l0_0.length c0_0) ∧ w'.cell? ⟨gb206,1,none⟩ = some (.int .i64 a0_1) ∧ w'.cell? ⟨gb206,2,none⟩ = some (.slice A0_2 l0_2.length c0_2)) (ds:=[]) #[false,false,false,false,false,false,false,false,false,false,false,false] (by kernel_rfl) rfl rfl ⟨(Zc BK206.out 0).trans rfl,(Zc BK206.out 1).trans rfl,(Zc BK206.out 2).trans rfl⟩ (fun hHeld=>?_);refine with_tabW spec_l7Copy.tab1 spec_l7Copy.bits1 (fun HT_ HW_=>?_)
 generalize w5.drew = w6 at BK206 BK207 HB hHeld ⊢
 refine pure_ (i:=1) (N:=some 4) (v:=?_) (a':=?_) #[false,true,false,false,false,false,false,false,false,false,false,false] rfl rfl (any_of HT_.out (by kernel_rfl)) (fun _ _ _ h=>h) (Or.inl ⟨by rfl,?_⟩) ?_ ?_
 rotate_left
 · intro w'
   go_simp
   with_reducible rfl
 rotate_left
 · simp only [Act.put, Zd, Ze, Zf, i64_w, i32_w]
   rfl
 refine pure_ (i:=4) (N:=some 7) (v:=?_) (a':=?_) #[false,true,false,false,true,false,false,false,false,false,false,false] rfl rfl (any_of HT_.out (by kernel_rfl)) (fun _ _ _ h=>h) (Or.inl ⟨by rfl,?_⟩) ?_ ?_
 rotate_left
 · intro w'
   go_simp
   with_reducible rfl
 rotate_left
 · simp only [Act.put, Zd, Ze, Zf, i64_w, i32_w]
   rfl
 refine pure_ (i:=7) (N:=some 10) (v:=?_) (a':=?_) #[false,true,false,false,true,false,false,true,false,false,false,false] rfl rfl (any_of HT_.out (by kernel_rfl)) (fun _ _ _ h=>h) (Or.inl ⟨by rfl,?_⟩) ?_ ?_
 rotate_left
 · intro w'
   go_simp
   with_reducible rfl
 rotate_left
 · simp only [Act.put, Zd, Ze, Zf, i64_w, i32_w]
   rfl
 refine take_ (i:=2) (N:=some 5) (v:=?_) (a':=?_) #[false,true,true,false,true,false,false,true,false,false,false,false] rfl rfl (take_ofW HT_.out HW_.out (by kernel_rfl)) (fun _ _ _ h=>h) (Or.inl ⟨by rfl,?_⟩) hHeld ?_ ?_
 rotate_left
 · rintro w' ⟨s0, s1, s2⟩
   go_simp
   with_reducible rfl
 rotate_left
 · simp only [Act.put, Zd, Ze, Zf, i64_w, i32_w]
   rfl
 refine take_ (i:=5) (N:=some 8) (v:=?_) (a':=?_) #[false,true,true,false,true,true,false,true,false,false,false,false] rfl rfl (take_ofW HT_.out HW_.out (by kernel_rfl)) (fun _ _ _ h=>h) (Or.inl ⟨by rfl,?_⟩) hHeld ?_ ?_
 rotate_left
 · rintro w' ⟨s0, s1, s2⟩
   go_simp
   with_reducible rfl
 rotate_left
 · simp only [Act.put, Zd, Ze, Zf, i64_w, i32_w]
   rfl
 refine take_ (i:=8) (N:=some 11) (v:=?_) (a':=?_) #[false,true,true,false,true,true,false,true,true,false,false,false] rfl rfl (take_ofW HT_.out HW_.out (by kernel_rfl)) (fun _ _ _ h=>h) (Or.inl ⟨by rfl,?_⟩) hHeld ?_ ?_
 rotate_left
 · rintro w' ⟨s0, s1, s2⟩
   go_simp
   with_reducible rfl
 rotate_left
 · simp only [Act.put, Zd, Ze, Zf, i64_w, i32_w]
   rfl
 refine join_ (σ:=Value × Value × Value) 3 #[true,true,true,true,true,true,true,true,true,false,false,false] (fun s_=>[(3,s_.1),(6,s_.2.1),(9,s_.2.2)]) (fun s_ w'=>(w'.cell? ⟨gb206,0,none⟩ = some (.slice A0_0 l0_0.length c0_0) ∧ w'.cell? ⟨gb206,1,none⟩ = some (.int .i64 a0_1) ∧ w'.cell? ⟨gb206,2,none⟩ = some (.slice A0_2 l0_2.length c0_2)) ∧ (Kd.R (Kd.int .i64) 3 w' w.heap.size (fun _=>True) s_.2.1 y211) ∧ (Kd.R (Kd.int .u8) 5 w' w.heap.size (fun _=>True) s_.2.2 y214) ∧ (w'.heap[gb206]? = some (.cells #[.slice A0_0 l0_0.length c0_0,.int .i64 a0_1,.slice A0_2 l0_2.length c0_2] 31 (0,0))) ∧ (w'.heap[gb207]? = some (.cells #[.slice none 0 0,.int .i64 0,.slice none 0 0] 31 (0,0))) ∧ (Below w.heap.size w w')) ?_ ?_
 rotate_left
 · intro hCont
   refine two_ (i:=0) (j:=6) (Ni:=some 3) (Nj:=some 9) #[true,true,true,false,true,true,false,true,true,false,false,false] #[false,true,true,false,true,true,true,true,true,false,false,false] rfl rfl rfl rfl (two_of HT_.out (by kernel_rfl)) (by decide) (by decide) (fun K hK=>?_) (fun K hK=>?_)
   · skip
     refine Kd.R_lit_step (Kd.int .i64) _ 3 ?hg (N:=3) ?hd (xs:=([] : List Int)) (inner:=[]) (ok:=fun _=>True) (okp:=fun _=>True) ?hr ?hp (fun _ hk=>hk) trivial (Zi _ _) (Zh _) (by simp) ?_;(case hd=>rfl);(case hg=>rfl);(case hr=>first|(go_simp;done)|(go_simp;rfl));(case hp=>exact (Reps.none _ _))
     intro v209 w7 ho8 hb hg_ hnew_
     clear hg_ hnew_
     (first|rw [← Ny208.out] at ho8|(simp only [Int.reduceToNat] at ho8;rw [← Ny208.out] at ho8))
     have n0_:=Z0 (Kd.R_lower ho8 (Zb (by repeat (first|(with_reducible first|exact HB.out|apply Z6|apply Z1|apply Z5|refine Z7 ?_ GE206.out|refine Z7 ?_ GE207.out)|exact HB.out))))
     have n1_:=Z0 (blk_below (g:=gb206) (o:=.cells #[.slice A0_0 l0_0.length c0_0,.int .i64 a0_1,.slice A0_2 l0_2.length c0_2] 31 (0,0)) (by (with_reducible repeat (first|refine Z8 ?_ _|refine Za ?_|refine Z9 ?_ _));exact BK206.out) hb)
     have n2_:=Z0 (blk_below (g:=gb207) (o:=.cells #[.slice none 0 0,.int .i64 0,.slice none 0 0] 31 (0,0)) (by (with_reducible repeat (first|refine Z8 ?_ _|refine Za ?_|refine Z9 ?_ _));exact BK207.out) hb)
     have n3_:=Z0 (below_step (by repeat (first|(with_reducible first|exact HB.out|apply Z6|apply Z1|apply Z5|refine Z7 ?_ GE206.out|refine Z7 ?_ GE207.out)|exact HB.out)) hb)
     clear BK206
     clear BK207
     clear HB
     have HO210:=n0_
     have BK206:=n1_
     have BK207:=n2_
     have HB:=n3_
     clear n0_ n1_ n2_ n3_
     clear hb ho8
     refine hK.out _ _ ⟨(Zc BK206.out 0).trans rfl,(Zc BK206.out 1).trans rfl,(Zc BK206.out 2).trans rfl⟩ (fun hHeld=>?_)
     clear hK K
     refine norm_ (a':=?_) ?_ ?_
     rotate_left
     · show Act.put _ (some 3) _ = _
       simp only [Act.put,Zd,Ze,Zf,i64_w,i32_w]
       rfl
     refine two_ (i:=3) (j:=6) (Ni:=some 6) (Nj:=some 9) #[true,true,true,true,true,true,false,true,true,false,false,false] #[true,true,true,false,true,true,true,true,true,false,false,false] rfl rfl rfl rfl (two_of HT_.out (by kernel_rfl)) (by decide) (by decide) (fun K hK=>?_) (fun K hK=>?_)
     · skip
       refine Kd.R_append_rows_step (Kd.int .i64) (w0:=w) w.heap.size (by rfl) (.tmp 3) (.tmp 5) 29 3 (.int .i64 0) 8 rfl Try.underlying29 info3 rfl (by decide) (by omega) v209 y208 l0_0 _ _ _ (fun _=>True) (fun _=>False) rfl rfl ?aO ?aR (fun _ _ h=>h) (fun _ h=>h.elim) ?aF ?aB ?aS ?aL ?_
       (case aR=>repeat (first|exact (Kd.C_below HR0_0.out HB.out)|(with_reducible refine Kd.C_alloc ?_ _)|(with_reducible refine Kd.C_drewN ?_ _)|(with_reducible refine Kd.C_drew ?_)))
       (case aB=>exact (by repeat (first|(with_reducible first|exact HB.out|apply Z6|apply Z1|apply Z5|refine Z7 ?_ GE206.out|refine Z7 ?_ GE207.out)|exact HB.out)))
       (case aF=>exact (fun _ _=>trivial))
       (case aO=>exact (by (with_reducible repeat (first|apply Z3|apply Z2|apply Z4));exact HO210.out))
       (case aS=>exact (Zb (by repeat (first|(with_reducible first|exact HB.out|apply Z6|apply Z1|apply Z5|refine Z7 ?_ GE206.out|refine Z7 ?_ GE207.out)|exact HB.out))))
       (case aL=>have:=LMc2.out;omega)
       intro v212 w9 ho hb hg hat
       rw [← Ny211.out] at ho
       have n0_:=Z0 (blk_grown (g:=gb206) (o:=.cells #[.slice A0_0 l0_0.length c0_0,.int .i64 a0_1,.slice A0_2 l0_2.length c0_2] 31 (0,0)) (by (with_reducible repeat (first|refine Z8 ?_ _|refine Za ?_|refine Z9 ?_ _));exact BK206.out) hg (Kd.R_ne HO210.out BK206.out (by decide)))
       have n1_:=Z0 (blk_grown (g:=gb207) (o:=.cells #[.slice none 0 0,.int .i64 0,.slice none 0 0] 31 (0,0)) (by (with_reducible repeat (first|refine Z8 ?_ _|refine Za ?_|refine Z9 ?_ _));exact BK207.out) hg (Kd.R_ne HO210.out BK207.out (by decide)))
       have n2_:=Z0 (hb)
       have n3_:=Z0 (ho)
       clear BK206
       clear BK207
       clear HB
       clear HO210
       have BK206:=n0_
       have BK207:=n1_
       have HB:=n2_
       have HO213:=n3_
       clear n0_ n1_ n2_ n3_
       clear ho hb hg hat
       refine hK.out _ _ ⟨(Zc BK206.out 0).trans rfl,(Zc BK206.out 1).trans rfl,(Zc BK206.out 2).trans rfl⟩ (fun hHeld=>?_)
       clear hK K
       refine norm_ (a':=?_) ?_ ?_
       rotate_left
       · show Act.put _ (some 6) _ = _
         simp only [Act.put,Zd,Ze,Zf,i64_w,i32_w]
         rfl
       refine one_ (i:=6) (N:=some 9) #[true,true,true,true,true,true,true,true,true,false,false,false] rfl rfl (one_of HT_.out (by kernel_rfl)) (by decide) (fun K hK=>?_)
       refine Kd.R_lit_step (Kd.int .u8) _ 5 ?hg (N:=9) ?hd (xs:=([] : List Int)) (inner:=[]) (ok:=fun _=>True) (okp:=fun _=>True) ?hr ?hp (fun _ hk=>hk) trivial (Zi _ _) (Zh _) (by simp) ?_;(case hd=>rfl);(case hg=>rfl);(case hr=>first|(go_simp;done)|(go_simp;rfl));(case hp=>exact (Reps.none _ _))
       intro v215 w10 ho11 hb hg_ hnew_
       clear hg_ hnew_
       (first|rw [← Ny214.out] at ho11|(simp only [Int.reduceToNat] at ho11;rw [← Ny214.out] at ho11))
       have n0_:=Z0 (Kd.R_below (by (with_reducible repeat (first|apply Z3|apply Z2|apply Z4));exact HO213.out) hb)
       have n1_:=Z0 (Kd.R_lower ho11 (Zb (by repeat (first|(with_reducible first|exact HB.out|apply Z6|apply Z1|apply Z5|refine Z7 ?_ GE206.out|refine Z7 ?_ GE207.out)|exact HB.out))))
       have n2_:=Z0 (blk_below (g:=gb206) (o:=.cells #[.slice A0_0 l0_0.length c0_0,.int .i64 a0_1,.slice A0_2 l0_2.length c0_2] 31 (0,0)) (by (with_reducible repeat (first|refine Z8 ?_ _|refine Za ?_|refine Z9 ?_ _));exact BK206.out) hb)
       have n3_:=Z0 (blk_below (g:=gb207) (o:=.cells #[.slice none 0 0,.int .i64 0,.slice none 0 0] 31 (0,0)) (by (with_reducible repeat (first|refine Z8 ?_ _|refine Za ?_|refine Z9 ?_ _));exact BK207.out) hb)
       have n4_:=Z0 (below_step (by repeat (first|(with_reducible first|exact HB.out|apply Z6|apply Z1|apply Z5|refine Z7 ?_ GE206.out|refine Z7 ?_ GE207.out)|exact HB.out)) hb)
       clear HO213
       clear BK206
       clear BK207
       clear HB
       have HO213:=n0_
       have HO216:=n1_
       have BK206:=n2_
       have BK207:=n3_
       have HB:=n4_
       clear n0_ n1_ n2_ n3_ n4_
       clear hb ho11
       refine hK.out _ _ ⟨(Zc BK206.out 0).trans rfl,(Zc BK206.out 1).trans rfl,(Zc BK206.out 2).trans rfl⟩ (fun hHeld=>?_)
       clear hK K
       refine norm_ (a':=?_) ?_ ?_
       rotate_left
       · show Act.put _ (some 9) _ = _
         simp only [Act.put,Zd,Ze,Zf,i64_w,i32_w]
         rfl
       exact norm_ (by simp only [putAll,Act.put,Zd,Ze,Zf]) (hCont (v209,v212,v215) _ ⟨hHeld,(by (with_reducible repeat (first|apply Z3|apply Z2|apply Z4));exact HO213.out),(by (with_reducible repeat (first|apply Z3|apply Z2|apply Z4));exact HO216.out),(by (with_reducible repeat (first|refine Z8 ?_ _|refine Za ?_|refine Z9 ?_ _));exact BK206.out),(by (with_reducible repeat (first|refine Z8 ?_ _|refine Za ?_|refine Z9 ?_ _));exact BK207.out),(by repeat (first|(with_reducible first|exact HB.out|apply Z6|apply Z1|apply Z5|refine Z7 ?_ GE206.out|refine Z7 ?_ GE207.out)|exact HB.out))⟩)
     · skip
       refine Kd.R_lit_step (Kd.int .u8) _ 5 ?hg (N:=9) ?hd (xs:=([] : List Int)) (inner:=[]) (ok:=fun _=>True) (okp:=fun _=>True) ?hr ?hp (fun _ hk=>hk) trivial (Zi _ _) (Zh _) (by simp) ?_;(case hd=>rfl);(case hg=>rfl);(case hr=>first|(go_simp;done)|(go_simp;rfl));(case hp=>exact (Reps.none _ _))
       intro v215 w9 ho10 hb hg_ hnew_
       clear hg_ hnew_
       (first|rw [← Ny214.out] at ho10|(simp only [Int.reduceToNat] at ho10;rw [← Ny214.out] at ho10))
       have n0_:=Z0 (Kd.R_below (by (with_reducible repeat (first|apply Z3|apply Z2|apply Z4));exact HO210.out) hb)
       have n1_:=Z0 (Kd.R_lower ho10 (Zb (by repeat (first|(with_reducible first|exact HB.out|apply Z6|apply Z1|apply Z5|refine Z7 ?_ GE206.out|refine Z7 ?_ GE207.out)|exact HB.out))))
       have n2_:=Z0 (blk_below (g:=gb206) (o:=.cells #[.slice A0_0 l0_0.length c0_0,.int .i64 a0_1,.slice A0_2 l0_2.length c0_2] 31 (0,0)) (by (with_reducible repeat (first|refine Z8 ?_ _|refine Za ?_|refine Z9 ?_ _));exact BK206.out) hb)
       have n3_:=Z0 (blk_below (g:=gb207) (o:=.cells #[.slice none 0 0,.int .i64 0,.slice none 0 0] 31 (0,0)) (by (with_reducible repeat (first|refine Z8 ?_ _|refine Za ?_|refine Z9 ?_ _));exact BK207.out) hb)
       have n4_:=Z0 (below_step (by repeat (first|(with_reducible first|exact HB.out|apply Z6|apply Z1|apply Z5|refine Z7 ?_ GE206.out|refine Z7 ?_ GE207.out)|exact HB.out)) hb)
       clear HO210
       clear BK206
       clear BK207
       clear HB
       have HO210:=n0_
       have HO216:=n1_
       have BK206:=n2_
       have BK207:=n3_
       have HB:=n4_
       clear n0_ n1_ n2_ n3_ n4_
       clear hb ho10
       refine hK.out _ _ ⟨(Zc BK206.out 0).trans rfl,(Zc BK206.out 1).trans rfl,(Zc BK206.out 2).trans rfl⟩ (fun hHeld=>?_)
       clear hK K
       refine norm_ (a':=?_) ?_ ?_
       rotate_left
       · show Act.put _ (some 9) _ = _
         simp only [Act.put,Zd,Ze,Zf,i64_w,i32_w]
         rfl
       refine one_ (i:=3) (N:=some 6) #[true,true,true,true,true,true,true,true,true,false,false,false] rfl rfl (one_of HT_.out (by kernel_rfl)) (by decide) (fun K hK=>?_)
       refine Kd.R_append_rows_step (Kd.int .i64) (w0:=w) w.heap.size (by rfl) (.tmp 3) (.tmp 5) 29 3 (.int .i64 0) 8 rfl Try.underlying29 info3 rfl (by decide) (by omega) v209 y208 l0_0 _ _ _ (fun _=>True) (fun _=>False) rfl rfl ?aO ?aR (fun _ _ h=>h) (fun _ h=>h.elim) ?aF ?aB ?aS ?aL ?_
       (case aR=>repeat (first|exact (Kd.C_below HR0_0.out HB.out)|(with_reducible refine Kd.C_alloc ?_ _)|(with_reducible refine Kd.C_drewN ?_ _)|(with_reducible refine Kd.C_drew ?_)))
       (case aB=>exact (by repeat (first|(with_reducible first|exact HB.out|apply Z6|apply Z1|apply Z5|refine Z7 ?_ GE206.out|refine Z7 ?_ GE207.out)|exact HB.out)))
       (case aF=>exact (fun _ _=>trivial))
       (case aO=>exact (by (with_reducible repeat (first|apply Z3|apply Z2|apply Z4));exact HO210.out))
       (case aS=>exact (Zb (by repeat (first|(with_reducible first|exact HB.out|apply Z6|apply Z1|apply Z5|refine Z7 ?_ GE206.out|refine Z7 ?_ GE207.out)|exact HB.out))))
       (case aL=>have:=LMc2.out;omega)
       intro v212 w11 ho hb hg hat
       rw [← Ny211.out] at ho
       have n0_:=Z0 (blk_grown (g:=gb206) (o:=.cells #[.slice A0_0 l0_0.length c0_0,.int .i64 a0_1,.slice A0_2 l0_2.length c0_2] 31 (0,0)) (by (with_reducible repeat (first|refine Z8 ?_ _|refine Za ?_|refine Z9 ?_ _));exact BK206.out) hg (Kd.R_ne HO210.out BK206.out (by decide)))
       have n1_:=Z0 (blk_grown (g:=gb207) (o:=.cells #[.slice none 0 0,.int .i64 0,.slice none 0 0] 31 (0,0)) (by (with_reducible repeat (first|refine Z8 ?_ _|refine Za ?_|refine Z9 ?_ _));exact BK207.out) hg (Kd.R_ne HO210.out BK207.out (by decide)))
       have n2_:=Z0 (Kd.R_over' (by (with_reducible repeat (first|apply Z3|apply Z2|apply Z4));exact HO216.out) (Kd.R_typed (by (with_reducible repeat (first|apply Z3|apply Z2|apply Z4));exact HO210.out)) (by decide) hg)
       have n3_:=Z0 (hb)
       have n4_:=Z0 (ho)
       clear BK206
       clear BK207
       clear HO216
       clear HB
       clear HO210
       have BK206:=n0_
       have BK207:=n1_
       have HO216:=n2_
       have HB:=n3_
       have HO213:=n4_
       clear n0_ n1_ n2_ n3_ n4_
       clear ho hb hg hat
       refine hK.out _ _ ⟨(Zc BK206.out 0).trans rfl,(Zc BK206.out 1).trans rfl,(Zc BK206.out 2).trans rfl⟩ (fun hHeld=>?_)
       clear hK K
       refine norm_ (a':=?_) ?_ ?_
       rotate_left
       · show Act.put _ (some 6) _ = _
         simp only [Act.put,Zd,Ze,Zf,i64_w,i32_w]
         rfl
       exact norm_ (by simp only [putAll,Act.put,Zd,Ze,Zf]) (hCont (v209,v212,v215) _ ⟨hHeld,(by (with_reducible repeat (first|apply Z3|apply Z2|apply Z4));exact HO213.out),(by (with_reducible repeat (first|apply Z3|apply Z2|apply Z4));exact HO216.out),(by (with_reducible repeat (first|refine Z8 ?_ _|refine Za ?_|refine Z9 ?_ _));exact BK206.out),(by (with_reducible repeat (first|refine Z8 ?_ _|refine Za ?_|refine Z9 ?_ _));exact BK207.out),(by repeat (first|(with_reducible first|exact HB.out|apply Z6|apply Z1|apply Z5|refine Z7 ?_ GE206.out|refine Z7 ?_ GE207.out)|exact HB.out))⟩)
   · skip
     refine Kd.R_lit_step (Kd.int .u8) _ 5 ?hg (N:=9) ?hd (xs:=([] : List Int)) (inner:=[]) (ok:=fun _=>True) (okp:=fun _=>True) ?hr ?hp (fun _ hk=>hk) trivial (Zi _ _) (Zh _) (by simp) ?_;(case hd=>rfl);(case hg=>rfl);(case hr=>first|(go_simp;done)|(go_simp;rfl));(case hp=>exact (Reps.none _ _))
     intro v215 w7 ho8 hb hg_ hnew_
     clear hg_ hnew_
     (first|rw [← Ny214.out] at ho8|(simp only [Int.reduceToNat] at ho8;rw [← Ny214.out] at ho8))
     have n0_:=Z0 (Kd.R_lower ho8 (Zb (by repeat (first|(with_reducible first|exact HB.out|apply Z6|apply Z1|apply Z5|refine Z7 ?_ GE206.out|refine Z7 ?_ GE207.out)|exact HB.out))))
     have n1_:=Z0 (blk_below (g:=gb206) (o:=.cells #[.slice A0_0 l0_0.length c0_0,.int .i64 a0_1,.slice A0_2 l0_2.length c0_2] 31 (0,0)) (by (with_reducible repeat (first|refine Z8 ?_ _|refine Za ?_|refine Z9 ?_ _));exact BK206.out) hb)
     have n2_:=Z0 (blk_below (g:=gb207) (o:=.cells #[.slice none 0 0,.int .i64 0,.slice none 0 0] 31 (0,0)) (by (with_reducible repeat (first|refine Z8 ?_ _|refine Za ?_|refine Z9 ?_ _));exact BK207.out) hb)
     have n3_:=Z0 (below_step (by repeat (first|(with_reducible first|exact HB.out|apply Z6|apply Z1|apply Z5|refine Z7 ?_ GE206.out|refine Z7 ?_ GE207.out)|exact HB.out)) hb)
     clear BK206
     clear BK207
     clear HB
     have HO216:=n0_
     have BK206:=n1_
     have BK207:=n2_
     have HB:=n3_
     clear n0_ n1_ n2_ n3_
     clear hb ho8
     refine hK.out _ _ ⟨(Zc BK206.out 0).trans rfl,(Zc BK206.out 1).trans rfl,(Zc BK206.out 2).trans rfl⟩ (fun hHeld=>?_)
     clear hK K
     refine norm_ (a':=?_) ?_ ?_
     rotate_left
     · show Act.put _ (some 9) _ = _
       simp only [Act.put,Zd,Ze,Zf,i64_w,i32_w]
       rfl
     refine one_ (i:=0) (N:=some 3) #[true,true,true,false,true,true,true,true,true,false,false,false] rfl rfl (one_of HT_.out (by kernel_rfl)) (by decide) (fun K hK=>?_)
     refine Kd.R_lit_step (Kd.int .i64) _ 3 ?hg (N:=3) ?hd (xs:=([] : List Int)) (inner:=[]) (ok:=fun _=>True) (okp:=fun _=>True) ?hr ?hp (fun _ hk=>hk) trivial (Zi _ _) (Zh _) (by simp) ?_;(case hd=>rfl);(case hg=>rfl);(case hr=>first|(go_simp;done)|(go_simp;rfl));(case hp=>exact (Reps.none _ _))
     intro v209 w9 ho10 hb hg_ hnew_
     clear hg_ hnew_
     (first|rw [← Ny208.out] at ho10|(simp only [Int.reduceToNat] at ho10;rw [← Ny208.out] at ho10))
     have n0_:=Z0 (Kd.R_below (by (with_reducible repeat (first|apply Z3|apply Z2|apply Z4));exact HO216.out) hb)
     have n1_:=Z0 (Kd.R_lower ho10 (Zb (by repeat (first|(with_reducible first|exact HB.out|apply Z6|apply Z1|apply Z5|refine Z7 ?_ GE206.out|refine Z7 ?_ GE207.out)|exact HB.out))))
     have n2_:=Z0 (blk_below (g:=gb206) (o:=.cells #[.slice A0_0 l0_0.length c0_0,.int .i64 a0_1,.slice A0_2 l0_2.length c0_2] 31 (0,0)) (by (with_reducible repeat (first|refine Z8 ?_ _|refine Za ?_|refine Z9 ?_ _));exact BK206.out) hb)
     have n3_:=Z0 (blk_below (g:=gb207) (o:=.cells #[.slice none 0 0,.int .i64 0,.slice none 0 0] 31 (0,0)) (by (with_reducible repeat (first|refine Z8 ?_ _|refine Za ?_|refine Z9 ?_ _));exact BK207.out) hb)
     have n4_:=Z0 (below_step (by repeat (first|(with_reducible first|exact HB.out|apply Z6|apply Z1|apply Z5|refine Z7 ?_ GE206.out|refine Z7 ?_ GE207.out)|exact HB.out)) hb)
     clear HO216
     clear BK206
     clear BK207
     clear HB
     have HO216:=n0_
     have HO210:=n1_
     have BK206:=n2_
     have BK207:=n3_
     have HB:=n4_
     clear n0_ n1_ n2_ n3_ n4_
     clear hb ho10
     refine hK.out _ _ ⟨(Zc BK206.out 0).trans rfl,(Zc BK206.out 1).trans rfl,(Zc BK206.out 2).trans rfl⟩ (fun hHeld=>?_)
     clear hK K
     refine norm_ (a':=?_) ?_ ?_
     rotate_left
     · show Act.put _ (some 3) _ = _
       simp only [Act.put,Zd,Ze,Zf,i64_w,i32_w]
       rfl
     refine one_ (i:=3) (N:=some 6) #[true,true,true,true,true,true,true,true,true,false,false,false] rfl rfl (one_of HT_.out (by kernel_rfl)) (by decide) (fun K hK=>?_)
     refine Kd.R_append_rows_step (Kd.int .i64) (w0:=w) w.heap.size (by rfl) (.tmp 3) (.tmp 5) 29 3 (.int .i64 0) 8 rfl Try.underlying29 info3 rfl (by decide) (by omega) v209 y208 l0_0 _ _ _ (fun _=>True) (fun _=>False) rfl rfl ?aO ?aR (fun _ _ h=>h) (fun _ h=>h.elim) ?aF ?aB ?aS ?aL ?_
     (case aR=>repeat (first|exact (Kd.C_below HR0_0.out HB.out)|(with_reducible refine Kd.C_alloc ?_ _)|(with_reducible refine Kd.C_drewN ?_ _)|(with_reducible refine Kd.C_drew ?_)))
     (case aB=>exact (by repeat (first|(with_reducible first|exact HB.out|apply Z6|apply Z1|apply Z5|refine Z7 ?_ GE206.out|refine Z7 ?_ GE207.out)|exact HB.out)))
     (case aF=>exact (fun _ _=>trivial))
     (case aO=>exact (by (with_reducible repeat (first|apply Z3|apply Z2|apply Z4));exact HO210.out))
     (case aS=>exact (Zb (by repeat (first|(with_reducible first|exact HB.out|apply Z6|apply Z1|apply Z5|refine Z7 ?_ GE206.out|refine Z7 ?_ GE207.out)|exact HB.out))))
     (case aL=>have:=LMc2.out;omega)
     intro v212 w11 ho hb hg hat
     rw [← Ny211.out] at ho
     have n0_:=Z0 (blk_grown (g:=gb206) (o:=.cells #[.slice A0_0 l0_0.length c0_0,.int .i64 a0_1,.slice A0_2 l0_2.length c0_2] 31 (0,0)) (by (with_reducible repeat (first|refine Z8 ?_ _|refine Za ?_|refine Z9 ?_ _));exact BK206.out) hg (Kd.R_ne HO210.out BK206.out (by decide)))
     have n1_:=Z0 (blk_grown (g:=gb207) (o:=.cells #[.slice none 0 0,.int .i64 0,.slice none 0 0] 31 (0,0)) (by (with_reducible repeat (first|refine Z8 ?_ _|refine Za ?_|refine Z9 ?_ _));exact BK207.out) hg (Kd.R_ne HO210.out BK207.out (by decide)))
     have n2_:=Z0 (Kd.R_over' (by (with_reducible repeat (first|apply Z3|apply Z2|apply Z4));exact HO216.out) (Kd.R_typed (by (with_reducible repeat (first|apply Z3|apply Z2|apply Z4));exact HO210.out)) (by decide) hg)
     have n3_:=Z0 (hb)
     have n4_:=Z0 (ho)
     clear BK206
     clear BK207
     clear HO216
     clear HB
     clear HO210
     have BK206:=n0_
     have BK207:=n1_
     have HO216:=n2_
     have HB:=n3_
     have HO213:=n4_
     clear n0_ n1_ n2_ n3_ n4_
     clear ho hb hg hat
     refine hK.out _ _ ⟨(Zc BK206.out 0).trans rfl,(Zc BK206.out 1).trans rfl,(Zc BK206.out 2).trans rfl⟩ (fun hHeld=>?_)
     clear hK K
     refine norm_ (a':=?_) ?_ ?_
     rotate_left
     · show Act.put _ (some 6) _ = _
       simp only [Act.put,Zd,Ze,Zf,i64_w,i32_w]
       rfl
     exact norm_ (by simp only [putAll,Act.put,Zd,Ze,Zf]) (hCont (v209,v212,v215) _ ⟨hHeld,(by (with_reducible repeat (first|apply Z3|apply Z2|apply Z4));exact HO213.out),(by (with_reducible repeat (first|apply Z3|apply Z2|apply Z4));exact HO216.out),(by (with_reducible repeat (first|refine Z8 ?_ _|refine Za ?_|refine Z9 ?_ _));exact BK206.out),(by (with_reducible repeat (first|refine Z8 ?_ _|refine Za ?_|refine Z9 ?_ _));exact BK207.out),(by repeat (first|(with_reducible first|exact HB.out|apply Z6|apply Z1|apply Z5|refine Z7 ?_ GE206.out|refine Z7 ?_ GE207.out)|exact HB.out))⟩)
 rintro ⟨v209,v212,v215⟩ w12 ⟨hS_,h0_,h1_,h2_,h3_,h4_⟩
 have n0_ : Aside0 (Kd.R (Kd.int .i64) 3 w12 w.heap.size (fun _=>True) v212 y211):=⟨h0_⟩
 have n1_ : Aside0 (Kd.R (Kd.int .u8) 5 w12 w.heap.size (fun _=>True) v215 y214):=⟨h1_⟩
 have n2_ : Aside0 (w12.heap[gb206]? = some (.cells #[.slice A0_0 l0_0.length c0_0,.int .i64 a0_1,.slice A0_2 l0_2.length c0_2] 31 (0,0))):=⟨h2_⟩
 have n3_ : Aside0 (w12.heap[gb207]? = some (.cells #[.slice none 0 0,.int .i64 0,.slice none 0 0] 31 (0,0))):=⟨h3_⟩
 have n4_ : Aside0 (Below w.heap.size w w12):=⟨h4_⟩
 clear BK206
 clear BK207
 clear HB
 clear h0_ h1_ h2_ h3_ h4_
 have HO213:=n0_
 have HO216:=n1_
 have BK206:=n2_
 have BK207:=n3_
 have HB:=n4_
 clear n0_ n1_ n2_ n3_ n4_
 have hHeld : w12.cell? ⟨gb206,0,none⟩ = some (.slice A0_0 l0_0.length c0_0) ∧ w12.cell? ⟨gb206,1,none⟩ = some (.int .i64 a0_1) ∧ w12.cell? ⟨gb206,2,none⟩ = some (.slice A0_2 l0_2.length c0_2):=hS_
 refine norm_ (a':=?_) ?_ ?_
 rotate_left
 · simp only [putAll, Act.put, Zd, Ze, Zf]
   rfl
 refine one_ (i:=9) (N:=some 12) #[true,true,true,true,true,true,true,true,true,true,false,false] rfl rfl (one_of HT_.out (by kernel_rfl)) (by decide) (fun K hK=>?_)
 refine Kd.R_append_rows_step (Kd.int .u8) (w0:=w) w.heap.size (by rfl) (.tmp 9) (.tmp 11) 22 5 (.int .u8 0) 1 rfl Try.underlying22 info5 rfl (by decide) (by omega) v215 y214 l0_2 _ _ _ (fun _=>True) (fun _=>False) rfl rfl ?aO ?aR (fun _ _ h=>h) (fun _ h=>h.elim) ?aF ?aB ?aS ?aL ?_
 (case aR=>repeat (first|exact (Kd.C_below HR0_2.out HB.out)|(with_reducible refine Kd.C_alloc ?_ _)|(with_reducible refine Kd.C_drewN ?_ _)|(with_reducible refine Kd.C_drew ?_)))
 (case aB=>exact (by repeat (first|(with_reducible first|exact HB.out|apply Z6|apply Z1|apply Z5|refine Z7 ?_ GE206.out|refine Z7 ?_ GE207.out)|exact HB.out)))
 (case aF=>exact (fun _ _=>trivial))
 (case aO=>exact (by (with_reducible repeat (first|apply Z3|apply Z2|apply Z4));exact HO216.out))
 (case aS=>exact (Zb (by repeat (first|(with_reducible first|exact HB.out|apply Z6|apply Z1|apply Z5|refine Z7 ?_ GE206.out|refine Z7 ?_ GE207.out)|exact HB.out))))
 (case aL=>have:=LMc3.out;omega)
 intro v218 w13 ho hb hg hat
 rw [← Ny217.out] at ho
 have n0_:=Z0 (blk_grown (g:=gb206) (o:=.cells #[.slice A0_0 l0_0.length c0_0,.int .i64 a0_1,.slice A0_2 l0_2.length c0_2] 31 (0,0)) (by (with_reducible repeat (first|refine Z8 ?_ _|refine Za ?_|refine Z9 ?_ _));exact BK206.out) hg (Kd.R_ne HO216.out BK206.out (by decide)))
 have n1_:=Z0 (blk_grown (g:=gb207) (o:=.cells #[.slice none 0 0,.int .i64 0,.slice none 0 0] 31 (0,0)) (by (with_reducible repeat (first|refine Z8 ?_ _|refine Za ?_|refine Z9 ?_ _));exact BK207.out) hg (Kd.R_ne HO216.out BK207.out (by decide)))
 have n2_:=Z0 (Kd.R_over' (by (with_reducible repeat (first|apply Z3|apply Z2|apply Z4));exact HO213.out) (Kd.R_typed (by (with_reducible repeat (first|apply Z3|apply Z2|apply Z4));exact HO216.out)) (by decide) hg)
 have n3_:=Z0 (hb)
 have n4_:=Z0 (ho)
 clear BK206
 clear BK207
 clear HO213
 clear HB
 clear HO216
 have BK206:=n0_
 have BK207:=n1_
 have HO213:=n2_
 have HB:=n3_
 have HO219:=n4_
 clear n0_ n1_ n2_ n3_ n4_
 clear ho hb hg hat
 obtain ⟨Ao14,co14,eo14⟩:=Kd.R_slice HO219.out
 (first|subst eo14|(injection eo14 with f1_ f2_ f3_;have f4_:=f1_.symm;have f5_:=f3_.symm;clear f1_ f2_ f3_;subst f4_;subst f5_))
 obtain ⟨Ao15,co15,eo15⟩:=Kd.R_slice HO213.out
 (first|subst eo15|(injection eo15 with f1_ f2_ f3_;have f4_:=f1_.symm;have f5_:=f3_.symm;clear f1_ f2_ f3_;subst f4_;subst f5_))
 refine hK.out _ _ ⟨(Zc BK206.out 0).trans rfl,(Zc BK206.out 1).trans rfl,(Zc BK206.out 2).trans rfl⟩ (fun hHeld=>?_)
 clear hK K
 refine norm_ (a':=?_) ?_ ?_
 rotate_left
 · show Act.put _ (some 12) _ = _
   simp only [Act.put,Zd,Ze,Zf,i64_w,i32_w]
   rfl
 refine pure_ (i:=10) (N:=some 13) (v:=?_) (a':=?_) #[true,true,true,true,true,true,true,true,true,true,true,false] rfl rfl (any_of HT_.out (by kernel_rfl)) (fun _ _ _ h=>h) (Or.inl ⟨by rfl,?_⟩) ?_ ?_
 rotate_left
 · intro w'
   go_simp
   with_reducible rfl
 rotate_left
 · simp only [Act.put, Zd, Ze, Zf, i64_w, i32_w]
   rfl
 refine one_ (i:=11) (N:=none) #[true,true,true,true,true,true,true,true,true,true,true,true] rfl rfl (one_of HT_.out (by kernel_rfl)) (by decide) (fun K hK=>?_)
 have hs16 : w13.cell? ⟨gb207,0,none⟩ = some (.slice none 0 0):=(Zc BK207.out 0).trans rfl
 have hfs16:=blk_frozen BK207.out 0
 have hns16_0:=NB206_207.out
 have hms16_0:=NB207_206.out
 have hs17 : w13.cell? ⟨gb207,1,none⟩ = some (.int .i64 0):=(Zc BK207.out 1).trans rfl
 have hfs17:=blk_frozen BK207.out 1
 have hns17_0:=NB206_207.out
 have hms17_0:=NB207_206.out
 have hs18 : w13.cell? ⟨gb207,2,none⟩ = some (.slice none 0 0):=(Zc BK207.out 2).trans rfl
 have hfs18:=blk_frozen BK207.out 2
 have hns18_0:=NB206_207.out
 have hms18_0:=NB207_206.out
 refine skip_ (w1:=?_) (by rfl) rfl ?_ ?_
 rotate_left
 · go_simp
   rfl
 refine hK.out _ _ ⟨((cell_far (p:=⟨gb207,_,none⟩) NB206_207.out _).trans (((cell_far (p:=⟨gb207,_,none⟩) NB206_207.out _).trans (((cell_far (p:=⟨gb207,_,none⟩) NB206_207.out _).trans (hHeld.1)))))),((cell_far (p:=⟨gb207,_,none⟩) NB206_207.out _).trans (((cell_far (p:=⟨gb207,_,none⟩) NB206_207.out _).trans (((cell_far (p:=⟨gb207,_,none⟩) NB206_207.out _).trans (hHeld.2.1)))))),((cell_far (p:=⟨gb207,_,none⟩) NB206_207.out _).trans (((cell_far (p:=⟨gb207,_,none⟩) NB206_207.out _).trans (((cell_far (p:=⟨gb207,_,none⟩) NB206_207.out _).trans (hHeld.2.2))))))⟩ (fun hHeld=>?_)
 clear hK K
 refine done_ (done_of HT_.out (by kernel_rfl)) ?_
 try go_wp2
 refine bodyPost_ret (results_cell_row rfl _ _ gb207 31 #[.slice Ao15 y211.length co15,.int .i64 a0_1,.slice Ao14 y217.length co14] (0,0) _ rfl (by (with_reducible repeat (first|refine Z8 ?_ _|refine Za ?_|refine Z9 ?_ _));refine blk_put (cs:=#[.slice Ao15 y211.length co15,.int .i64 a0_1,.slice none 0 0]) ?_ 2 _ rfl;(with_reducible repeat (first|refine Z8 ?_ _|refine Za ?_|refine Z9 ?_ _));refine blk_put (cs:=#[.slice Ao15 y211.length co15,.int .i64 0,.slice none 0 0]) ?_ 1 _ rfl;(with_reducible repeat (first|refine Z8 ?_ _|refine Za ?_|refine Z9 ?_ _));refine blk_put (cs:=#[.slice none 0 0,.int .i64 0,.slice none 0 0]) ?_ 0 _ rfl;(with_reducible repeat (first|refine Z8 ?_ _|refine Za ?_|refine Z9 ?_ _));exact BK207.out) Try.underlying31 rfl (by kernel_rfl)) rfl ?_
 exact ⟨_,_,by first|rfl|(simp [errW_none,errW_some]<;>rfl)|(simp [*,errW_none,errW_some]<;>rfl),by (with_reducible repeat (first|apply Z3|apply Z2|apply Z4));exact Kd.R_mono (Kd.R_far (p:=⟨gb207,2,none⟩) (Kd.R_far (p:=⟨gb207,1,none⟩) (Kd.R_far (p:=⟨gb207,0,none⟩) (Kd.R_types HO213.out BK207.out (by decide)) (fun _ hk=>hk.2) (.slice Ao15 y211.length co15)) (fun _ hk=>hk.2) (.int .i64 a0_1)) (fun _ hk=>hk.2) (.slice Ao14 y217.length co14)) (fun _ hk=>trivial),by (with_reducible repeat (first|apply Z3|apply Z2|apply Z4));exact Kd.R_mono (Kd.R_far (p:=⟨gb207,2,none⟩) (Kd.R_far (p:=⟨gb207,1,none⟩) (Kd.R_far (p:=⟨gb207,0,none⟩) (Kd.R_types HO219.out BK207.out (by decide)) (fun _ hk=>hk.2) (.slice Ao15 y211.length co15)) (fun _ hk=>hk.2) (.int .i64 a0_1)) (fun _ hk=>hk.2) (.slice Ao14 y217.length co14)) (fun _ hk=>trivial),by repeat (first|(with_reducible first|exact HB.out|apply Z6|apply Z1|apply Z5|refine Z7 ?_ GE206.out|refine Z7 ?_ GE207.out)|exact HB.out)⟩

end Go.Proofs.Ytpkfmjdmfphbaag.QFnExactMac
