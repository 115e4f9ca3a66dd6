/- Plain functions with the same answers as the program's, and the proofs that they are. Printed by a program of this session (wip/myprint.py) out of Lean's print of the loaded program. Conditions: those in each theorem's head. -/
import Derived.Test.YtpkfmjdmfphbaagQFnExactMacx0
namespace Go.Proofs.Ytpkfmjdmfphbaag.QFnExactMac
open Go.RowKit Go.Proofs.Ytpkfmjdmfphbaag.Given Go.Proofs.YtpkfmjdmfphbaagW.PrintWords Go.Proofs.YtpkfmjdmfphbaagW.PrintLast Go.Proofs.YtpkfmjdmfphbaagW.PrintMore
open Go.Proofs.YtpkfmjdmfphbaagW.PrintWords.Aside0 renaming mk → Z0
open Go.Proofs.YtpkfmjdmfphbaagW.PrintWords renaming pw_below_drewN → Z1, below_drew1 → Z4, below_alloc → Z5, below_size → Z6, blk_frozen → Z7
open Go.Proofs.YtpkfmjdmfphbaagW.PrintWords.Kd renaming R_drewN → Z2, R_alloc → Z3
open Go.Proofs.YtpkfmjdmfphbaagW.PrintWords.Reps renaming one → Z8
open Option renaming bind_some → Z9
open List renaming length_drop → Za, length_take → Zb, map_toArray → Zc, map_cons → Zd, map_nil → Ze
open Nat renaming le_refl → Zf
open Go.RowKit.Below renaming refl → Zg
attribute [local go_sem] max2_int min2_int max_two min_two max_three min_three max_four min_four   -- for this text's walks alone
set_option linter.unusedVariables false
set_option linter.unusedSimpArgs false

/-! ### laws_toByteS: function 5 -/
def laws_toByteS.l0 : Nat → List Int → List Int → Int → Option (List Int)
 | 0, _, _, _ => none
 | k + 1, x0, x3, x4 => if x4 < (x0.length : Int) then (if 0 ≤ x4 then (if x4 < (x3.length : Int) then (laws_toByteS.l0 k x0 (x3.set (x4 : Int).toNat (rd x0 x4)) (wrap64 (x4 + 1))) else (none)) else (none)) else (some x3)
def laws_toByteS.f (k : Nat) (l0 : List Int) : Option (List Int) := if 0 ≤ (l0.length : Int) then (if ((l0.length : Int) : Int).toNat ≤ 281474976710656 then (laws_toByteS.l0 k l0 (List.replicate ((l0.length : Int) : Int).toNat 0) 0) else (none)) else (none)
theorem laws_toByteS.mono_l : ∀ k, (∀ y0 y1 y2, LeO (laws_toByteS.l0 k y0 y1 y2) (laws_toByteS.l0 (k + 1) y0 y1 y2))
 | 0 => fun _ _ _ r h => by simp [laws_toByteS.l0] at h
 | k + 1 => by
  have ih0:=laws_toByteS.mono_l k
  · intro y0 y1 y2
    unfold laws_toByteS.l0
    repeat' first
    | (with_reducible exact ih0 _ _ _)
    | (with_reducible exact LeO.refl _)
    | (with_reducible exact LeO.none _)
    | (with_reducible refine LeO.ite ?_ ?_)
    | (with_reducible refine LeO.bind ?_ (fun _=>?_))
    | exact ih0 _ _ _
    | exact LeO.none _
    | refine LeO.ite ?_ ?_
    | refine LeO.bind ?_ (fun _=>?_)
theorem laws_toByteS.mono : ∀ a0 k, LeO (laws_toByteS.f k a0) (laws_toByteS.f (k + 1) a0) := by
 intro a0 k
 have ih0:=laws_toByteS.mono_l k
 unfold laws_toByteS.f
 repeat' first
  | (with_reducible exact ih0 _ _ _)
  | (with_reducible exact LeO.refl _)
  | (with_reducible exact LeO.none _)
  | (with_reducible refine LeO.ite ?_ ?_)
  | (with_reducible refine LeO.bind ?_ (fun _=>?_))
  | exact ih0 _ _ _
  | exact LeO.none _
  | refine LeO.ite ?_ ?_
  | refine LeO.bind ?_ (fun _=>?_)
set_option maxHeartbeats 8000000 in
set_option maxRecDepth 100000 in
theorem laws_toByteS.calls (k : Nat) (A0 : Option Addr) (c0 : Nat) (l0 : List Int) (r : List Int) (w : World) (hr0 : Kd.C (Kd.int .u8) w A0 l0.length l0) (hc0 : l0.length ≤ c0) (h : laws_toByteS.f k l0 = some r) :
 Calls Try.prog 5 #[.slice A0 l0.length c0] w fun e w' => ∃ v0_ : Value, e = .returned (v0_) ∧ Kd.R (Kd.int .u8) 5 w' w.heap.size (fun _ => True) v0_ r ∧ Below w.heap.size w w' := by
 have HR0:=Z0 hr0
 have HC0:=Z0 hc0
 clear hr0 hc0
 have HB:=Z0 (Zg w.heap.size w)
 have H : (if 0 ≤ (l0.length : Int) then (if ((l0.length : Int) : Int).toNat ≤ 281474976710656 then (laws_toByteS.l0 k l0 (List.replicate ((l0.length : Int) : Int).toNat 0) 0) else (none)) else (none)) = some r:=h
 clear h
 by_cases c2 : 0 ≤ (l0.length : Int)
 case neg =>
  rw [if_neg c2] at H
  exact absurd H (by simp)
 rw [if_pos c2] at H
 have c2b0:=eq_true c2
 have c2b1 : decide (0 ≤ (l0.length : Int)) = true:=decide_eq_true c2
 clear c2
 by_cases c3 : ((l0.length : Int) : Int).toNat ≤ 281474976710656
 case neg =>
  rw [if_neg c3] at H
  exact absurd H (by simp)
 rw [if_pos c3] at H
 have c3b0:=eq_true c3
 have c3b1 : decide (((l0.length : Int) : Int).toNat ≤ 281474976710656) = true:=decide_eq_true c3
 clear c3
 obtain ⟨y318,hy318⟩ : ∃ y_ : List Int,y_ = (List.replicate ((l0.length : Int) : Int).toNat 0):=⟨_,rfl⟩
 replace H : (laws_toByteS.l0 k l0 y318 0) = some r:=by first|(rw [hy318];with_reducible exact H)|(have H2_:=(Z9 _ _).symm.trans H;rw [hy318];with_reducible exact H2_)|(have H2_:=(Z9 _ _).symm.trans H;with_reducible exact H2_)|with_reducible exact H|(rw [hy318];exact H)|exact H
 have Ny318:=Z0 hy318
 clear hy318
 have H':=Z0 H
 clear H
 go_enter Try.func5,Try.ntmps5
 go_wp2_with (first|((with_reducible refine gate_dst (N:=7) rfl ?_);refine Kd.R_make (Kd.int .u8) _ 5 rfl (N:=7) rfl 22 _ _ rfl (l0.length : Int) rfl rfl Try.underlying22 (.int .u8 0) 1 info5 rfl (by decide) (by omega) 0 (ok:=fun _=>True) (okp:=fun _=>True) rfl (fun _ hk=>hk) trivial (of_decide_eq_true (by first|(with_reducible assumption)|assumption)) (Nat.le_trans (Nat.mul_le_mul_right _ (of_decide_eq_true (by first|(with_reducible assumption)|assumption) : (l0.length : Int).toNat ≤ 281474976710656)) (by omega)) (Zg _ _) (Zf _) ?_;intro v319 w4 ho5 hb hg_ hnew_;clear hg_ hnew_;(first|rw [← Ny318.out] at ho5|(simp only [Int.reduceToNat] at ho5;rw [← Ny318.out] at ho5));have n0_:=Z0 (Kd.R_lower ho5 (Z6 (by repeat (first|(with_reducible first|exact HB.out|apply Z5|apply Z1|apply Z4)|exact HB.out))));have n1_:=Z0 (below_step (by repeat (first|(with_reducible first|exact HB.out|apply Z5|apply Z1|apply Z4)|exact HB.out)) hb);clear HB;have HO320:=n0_;have HB:=n1_;clear n0_ n1_;clear hb ho5))
 go_loopg [4] k (fun kq v4 w'=>∃ (x3_1 : List Int) (x4_1 : Int),v4 = .int .i64 x4_1 ∧ Aside0 (laws_toByteS.l0 kq l0 x3_1 x4_1 = some r) ∧ Aside0 (kq ≤ k) ∧ Aside0 (Kd.R (Kd.int .u8) 5 w' w.heap.size (fun _=>True) v319 x3_1) ∧ Aside0 (Below w.heap.size w w'))
 case atStart=>exact ⟨(y318),(0),(by first|rfl|(simp;done)|(simp [*];done)),H',⟨Zf _⟩,⟨by (with_reducible repeat (first|apply Z3|apply Z2|apply Kd.R_drew));exact HO320.out⟩,⟨by repeat (first|(with_reducible first|exact HB.out|apply Z5|apply Z1|apply Z4)|exact HB.out)⟩⟩
 case round =>
  clear H'
  (try clear c2);(try clear c2b0);(try clear c2b1);(try clear p2);(try clear c3);(try clear c3b0);(try clear c3b1);(try clear c5)
  obtain ⟨x3_1,x4_1,rfl,HA,HK1,HO_3,HB⟩:=hrel
  cases gk with
  | zero=>exact absurd HA.out (by simp [laws_toByteS.l0])
  | succ k1 =>
   have H:=HA.out
   clear HA
   simp only [laws_toByteS.l0] at H
   by_cases c6 : x4_1 < (l0.length : Int)
   case neg =>
    rw [if_neg c6] at H
    have c6b0 : decide (x4_1 < (l0.length : Int)) = false:=decide_eq_false c6
    clear c6
    obtain rfl:=Option.some.inj H
    go_wp2
    go_ret
    exact ⟨_,by first|rfl|(simp [errW_none,errW_some]<;>rfl)|(simp [*,errW_none,errW_some]<;>rfl),by (with_reducible repeat (first|apply Z3|apply Z2|apply Kd.R_drew));exact HO_3.out,by repeat (first|(with_reducible first|exact HB.out|apply Z5|apply Z1|apply Z4)|exact HB.out)⟩
   rw [if_pos c6] at H
   have c6b0 : decide (x4_1 < (l0.length : Int)) = true:=decide_eq_true c6
   clear c6
   by_cases c7 : 0 ≤ x4_1
   case neg =>
    rw [if_neg c7] at H
    exact absurd H (by simp)
   rw [if_pos c7] at H
   have c7b0 : decide (0 ≤ x4_1) = true:=decide_eq_true c7
   clear c7
   by_cases c8 : x4_1 < (x3_1.length : Int)
   case neg =>
    rw [if_neg c8] at H
    exact absurd H (by simp)
   rw [if_pos c8] at H
   have c8b0 : decide (x4_1 < (x3_1.length : Int)) = true:=decide_eq_true c8
   clear c8
   obtain ⟨y322,hy322⟩ : ∃ y_ : List Int,y_ = (x3_1.set (x4_1 : Int).toNat (rd l0 x4_1)):=⟨_,rfl⟩
   replace H : (laws_toByteS.l0 k1 l0 y322 (wrap64 (x4_1 + 1))) = some r:=by first|(rw [hy322];with_reducible exact H)|(have H2_:=(Z9 _ _).symm.trans H;rw [hy322];with_reducible exact H2_)|(have H2_:=(Z9 _ _).symm.trans H;with_reducible exact H2_)|with_reducible exact H|(rw [hy322];exact H)|exact H
   have Ny322:=Z0 hy322
   clear hy322
   have H':=Z0 H
   clear H
   have p321 : 0 ≤ (x4_1 : Int):=of_decide_eq_true (by first|(with_reducible assumption)|assumption)
   have q321 : x4_1 < (l0.length : Int):=of_decide_eq_true (by first|(with_reducible assumption)|assumption)
   obtain ⟨ad321,e321,hx321_0⟩:=Kd.at_int HR0.out x4_1 p321 q321
   cases e321
   replace hx321_0:=(HB.out.cell (World.block_lt_of_cell? w _ hx321_0)).trans hx321_0
   replace p321:=eq_true p321
   replace q321:=eq_true q321
   have p9 : 0 ≤ (x4_1 : Int):=of_decide_eq_true (by first|(with_reducible assumption)|assumption)
   have q9 : (x4_1 : Int) < ((x3_1.length : Int) : Int):=of_decide_eq_true (by first|(with_reducible assumption)|assumption)
   obtain ⟨go9,co9,eo9,gb9,gl9,cl9,HG9⟩:=Kd.R_form HO_3.out (by omega)
   (first|cases eo9|(injection eo9 with ea_ en_ ec_;(first|subst ea_|(injection ea_ with ea_;subst ea_));subst ec_;clear en_))
   have GB9:=Z0 gb9
   have GG9:=Z0 HG9
   clear gb9 gl9 HG9
   obtain ⟨hx9_0,hf9_0⟩:=Kd.R_celln 0 HO_3.out (x4_1 : Int) p9 q9
   replace p9:=eq_true p9
   replace q9:=eq_true q9
   have HP10:=Kd.R_putg HO_3.out (x4_1 : Int) (rd l0 x4_1)
   go_wp2_with (first|((with_reducible refine gate_store (t:=5) (p:=20) rfl ?_);refine store_event (t:=5) (p:=20) (v:=?vo_w11) (w1:=(wr.setCell ⟨go9,(x4_1 : Int).toNat,none⟩ (.int .u8 (rd l0 x4_1)))) ?hg ?ho ?hn ?hr ?_;(case ho=>rfl);(case hg=>rfl);(case hn=>rfl);(case hr=>first|(go_simp;done)|(go_simp;rfl));intro w11 hw;have hg : wr.grownBy w11 (some go9):=(by rw [hw];exact HP10.2);have hp_ : Kd.R (Kd.int .u8) 5 w11 w.heap.size (fun _=>True) (.slice (some ⟨go9,0,none⟩) x3_1.length co9) y322:=(by rw [hw,Ny322.out];exact HP10.1);clear HP10;have n0_:=Z0 (hp_);have n1_:=Z0 ((by rw [hw];exact below_set (HB.out) GB9.out : Below w.heap.size w w11));clear HO_3;clear HB;have HO_3:=n0_;have HB:=n1_;clear n0_ n1_;clear hg hw hp_))
   go_roundg k1
   case measure=>have:=HK1.out;omega
   case rel=>exact ⟨(y322),(wrap64 (x4_1 + 1)),(by first|rfl|(simp;done)|(simp [*];done)),H',⟨by have:=HK1.out;omega⟩,⟨by (with_reducible repeat (first|apply Z3|apply Z2|apply Kd.R_drew));exact HO_3.out⟩,⟨by repeat (first|(with_reducible first|exact HB.out|apply Z5|apply Z1|apply Z4)|exact HB.out)⟩⟩

/-! ### slices_Clone_byte_byte: function 12 -/
def slices_Clone_byte_byte.f (l0 : List Int) : Option (List Int) := (some (([] : List Int) : List Int)).bind fun y323 => (if y323.length + l0.length < 140737488355328 then (some (y323 ++ l0)) else (none))
set_option maxHeartbeats 8000000 in
set_option maxRecDepth 100000 in
theorem slices_Clone_byte_byte.callsS (ad0_ : Addr) (c0 : Nat) (l0 : List Int) (r : List Int) (w : World) (hr0 : Kd.C (Kd.int .u8) w (some ad0_) l0.length l0) (hc0 : l0.length ≤ c0) (h : slices_Clone_byte_byte.f l0 = some r) :
 Calls Try.prog 12 #[.slice (some ad0_) l0.length c0] w fun e w' => ∃ v0_ : Value, e = .returned (v0_) ∧ Kd.R (Kd.int .u8) 5 w' w.heap.size (fun _ => True) v0_ r ∧ Below w.heap.size w w' := by
 have HR0:=Z0 hr0
 have HC0:=Z0 hc0
 clear hr0 hc0
 have HB:=Z0 (Zg w.heap.size w)
 have H : ((some (([] : List Int) : List Int)).bind fun y323=>(if y323.length + l0.length < 140737488355328 then (some (y323 ++ l0)) else (none))) = some r:=h
 clear h
 obtain ⟨y323,hy323⟩ : ∃ y_ : List Int,y_ = (([] : List Int)):=⟨_,rfl⟩
 replace H : (if y323.length + l0.length < 140737488355328 then (some (y323 ++ l0)) else (none)) = some r:=by first|(rw [hy323];with_reducible exact H)|(have H2_:=(Z9 _ _).symm.trans H;rw [hy323];with_reducible exact H2_)|(have H2_:=(Z9 _ _).symm.trans H;with_reducible exact H2_)|with_reducible exact H|(rw [hy323];exact H)|exact H
 have Ny323:=Z0 hy323
 clear hy323
 by_cases c2 : y323.length + l0.length < 140737488355328
 case neg =>
  rw [if_neg c2] at H
  exact absurd H (by simp)
 rw [if_pos c2] at H
 have LMc2:=Z0 c2
 clear c2
 obtain ⟨y326,hy326⟩ : ∃ y_ : List Int,y_ = (y323 ++ l0):=⟨_,rfl⟩
 replace H : (some y326) = some r:=by first|(rw [hy326];with_reducible exact H)|(have H2_:=(Z9 _ _).symm.trans H;rw [hy326];with_reducible exact H2_)|(have H2_:=(Z9 _ _).symm.trans H;with_reducible exact H2_)|with_reducible exact H|(rw [hy326];exact H)|exact H
 have Ny326:=Z0 hy326
 clear hy326
 obtain rfl:=Option.some.inj H
 have hnil_:=fun w_ : World=>Lib.run_eql_slice_nil (P:=Try.prog) w_ 22 5 (some ad0_) l0.length c0 0 0 Try.underlying22
 go_enter Try.func12,Try.ntmps12
 go_wp2_with (first|((with_reducible refine gate_dst (N:=5) rfl ?_);refine Kd.R_lit (Kd.int .u8) _ 5 ?hg (N:=5) ?hd (xs:=([] : List Int)) (inner:=[]) (ok:=fun _=>True) (okp:=fun _=>True) ?hr ?hp (fun _ hk=>hk) trivial (Zg _ _) (Zf _) (by simp) ?_;(case hd=>rfl);(case hg=>rfl);(case hr=>first|(go_simp;done)|(go_simp;rfl));(case hp=>exact (Reps.none _ _));intro v324 w3 ho4 hb hg_ hnew_;clear hg_ hnew_;(first|rw [← Ny323.out] at ho4|(simp only [Int.reduceToNat] at ho4;rw [← Ny323.out] at ho4));have n0_:=Z0 (Kd.R_lower ho4 (Z6 (by repeat (first|(with_reducible first|exact HB.out|apply Z5|apply Z1|apply Z4)|exact HB.out))));have n1_:=Z0 (below_step (by repeat (first|(with_reducible first|exact HB.out|apply Z5|apply Z1|apply Z4)|exact HB.out)) hb);clear HB;have HO325:=n0_;have HB:=n1_;clear n0_ n1_;clear hb ho4)|((with_reducible refine gate_builtin (b:=.append) (xs:=#[.tmp 5,.tmp 6]) rfl ?_);at_builtin;refine Kd.R_append_rows (Kd.int .u8) (w0:=w) w.heap.size rfl (.tmp 5) (.tmp 6) 22 5 (.int .u8 0) 1 rfl Try.underlying22 info5 rfl (by decide) (by omega) v324 y323 l0 _ _ _ (fun _=>True) (fun _=>False) rfl rfl ?aO ?aR (fun _ _ h=>h) (fun _ h=>h.elim) ?aF ?aB ?aS ?aL ?_;(case aR=>repeat (first|exact (Kd.C_below HR0.out HB.out)|(with_reducible refine Kd.C_alloc ?_ _)|(with_reducible refine Kd.C_drewN ?_ _)|(with_reducible refine Kd.C_drew ?_)));(case aB=>exact (by repeat (first|(with_reducible first|exact HB.out|apply Z5|apply Z1|apply Z4)|exact HB.out)));(case aF=>exact (fun _ _=>trivial));(case aO=>exact (by (with_reducible repeat (first|apply Z3|apply Z2|apply Kd.R_drew));exact HO325.out));(case aS=>exact (Z6 (by repeat (first|(with_reducible first|exact HB.out|apply Z5|apply Z1|apply Z4)|exact HB.out))));(case aL=>have:=LMc2.out;omega);intro v327 w5 ho hb hg hat;rw [← Ny326.out] at ho;have n0_:=Z0 (hb);have n1_:=Z0 (ho);clear HB;clear HO325;have HB:=n0_;have HO328:=n1_;clear n0_ n1_;clear ho hb hg hat))
 go_ret
 exact ⟨_,by first|rfl|(simp [errW_none,errW_some]<;>rfl)|(simp [*,errW_none,errW_some]<;>rfl),by (with_reducible repeat (first|apply Z3|apply Z2|apply Kd.R_drew));exact HO328.out,by repeat (first|(with_reducible first|exact HB.out|apply Z5|apply Z1|apply Z4)|exact HB.out)⟩

set_option maxHeartbeats 8000000 in
set_option maxRecDepth 100000 in
theorem slices_Clone_byte_byte.calls (A0 : Option Addr) (c0 : Nat) (l0 : List Int) (r : List Int) (w : World) (hr0 : Kd.C (Kd.int .u8) w A0 l0.length l0) (hc0 : l0.length ≤ c0) (h : slices_Clone_byte_byte.f l0 = some r) :
 Calls Try.prog 12 #[.slice A0 l0.length c0] w fun e w' => ∃ v0_ : Value, e = .returned (v0_) ∧ Kd.R (Kd.int .u8) 5 w' w.heap.size (fun _ => True) v0_ r ∧ Below w.heap.size w w' := by
  cases A0 with
  | some ad=>exact slices_Clone_byte_byte.callsS ad c0 l0 r w hr0 hc0 h
  | none =>
    obtain rfl : l0 = [] := by
      obtain ⟨_,_,h3⟩:=hr0
      rcases Nat.eq_zero_or_pos l0.length with h0|h0
      · exact List.length_eq_zero_iff.1 h0
      · obtain ⟨_, h4, _⟩ := h3 h0
        cases h4
    obtain rfl : r = [] := by
      simp [slices_Clone_byte_byte.f] at h
      first|exact h|exact h.symm
    have hnil_:=fun w_ : World=>Lib.run_eql_slice_nil (P:=Try.prog) w_ 22 5 none 0 c0 0 0 Try.underlying22
    clear hr0 hc0 h
    go_enter Try.func12,Try.ntmps12
    go_wp2
    go_ret
    exact ⟨_,rfl,Kd.R_nil _ _ _ _ _,Zg _ _⟩

-- NOT PRINTED: function 37 (slices_IndexFunc_int_int)

-- NOT PRINTED: function 31 (slices_ContainsFunc_int_int)

/-! ### impl_in: function 33 -/
def impl_in.f (a0 : Int) (a1 : Int) (a2 : Int) : Option (Bool) := if a0 ≥ a1 then (some (decide (a0 ≤ a2))) else (some false)
set_option maxHeartbeats 8000000 in
set_option maxRecDepth 100000 in
theorem impl_in.calls (a0 : Int) (a1 : Int) (a2 : Int) (r : Bool) (w : World) (h : impl_in.f a0 a1 a2 = some r) :
 Calls Try.prog 33 #[.int .i64 a0, .int .i64 a1, .int .i64 a2] w fun e w' => e = .returned (.bool r) ∧ Drawn0 w w' := by
 have H : (if a0 ≥ a1 then (some (decide (a0 ≤ a2))) else (some false)) = some r:=h
 clear h
 by_cases c4 : a0 ≥ a1
 case pos =>
  rw [if_pos c4] at H
  have c4b0 : decide (a1 ≤ a0) = true:=decide_eq_true c4
  clear c4
  obtain rfl:=Option.some.inj H
  go_enter Try.func33,Try.ntmps33
  go_wp2
  go_ret
  exact ⟨by first|rfl|(simp;done)|(simp [*];done),by repeat (first|exact Drawn0.refl _|apply Drawn0.step)⟩
 rw [if_neg c4] at H
 have c4b0 : decide (a1 ≤ a0) = false:=decide_eq_false c4
 clear c4
 obtain rfl:=Option.some.inj H
 go_enter Try.func33,Try.ntmps33
 go_wp2
 go_ret
 exact ⟨by first|rfl|(simp;done)|(simp [*];done),by repeat (first|exact Drawn0.refl _|apply Drawn0.step)⟩

/-! ### impl_SumOk_1: function 32 -/
def impl_SumOk_1.f (a0 : Int) : Option (Bool) := (impl_in.f a0 0 4294967295).bind fun t329 => (some (!t329))
set_option maxHeartbeats 8000000 in
set_option maxRecDepth 100000 in
theorem impl_SumOk_1.calls (a0 : Int) (r : Bool) (w : World) (h : impl_SumOk_1.f a0 = some r) :
 Calls Try.prog 32 #[.int .i64 a0] w fun e w' => e = .returned (.bool r) ∧ Drawn0 w w' := by
 have H : ((impl_in.f a0 0 4294967295).bind fun t329=>(some (!t329))) = some r:=h
 clear h
 replace H:=Option.bind_eq_some_iff.mp H
 obtain ⟨t329,A20,H⟩:=H
 replace H : (some (!t329)) = some r:=H
 have A2:=Z0 A20
 clear A20
 obtain rfl:=Option.some.inj H
 go_enter Try.func32,Try.ntmps32
 go_wp2_with (first|((with_reducible refine gate_callee (f:=33) rfl ?_);refine goesL_ (some 4) rfl rfl Try.func33 (by kernel_rfl) rfl #[.int .i64 a0,.int .i64 0,.int .i64 4294967295] rfl (by (try simp only [Zc,Zd,Ze]);first|done|rfl|(simp only [Za,Zb];rfl)) ?_;(with_reducible refine (impl_in.calls a0 0 4294967295 t329 _ A2.out).mono ?_);rintro e w' ⟨rfl,⟨nd,rfl⟩⟩;refine ⟨_,rfl,?_⟩))
 go_ret
 exact ⟨by first|rfl|(simp;done)|(simp [*];done),by repeat (first|exact Drawn0.refl _|apply Drawn0.step)⟩

/-! ### slices_IndexFunc_int_int_of_impl_SumOk_1: function 37 -/
def slices_IndexFunc_int_int_of_impl_SumOk_1.l0 : Nat → List Int → Int → Int → Option (Int)
 | 0, _, _, _ => none
 | k + 1, x0, x7, x8 => if x8 < x7 then (if 0 ≤ x8 then (if x8 < (x0.length : Int) then ((impl_SumOk_1.f (rd x0 x8)).bind fun t332 => (if t332 = true then (some x8) else (slices_IndexFunc_int_int_of_impl_SumOk_1.l0 k x0 x7 (wrap64 (x8 + 1))))) else (none)) else (none)) else (some (-1))
def slices_IndexFunc_int_int_of_impl_SumOk_1.f (k : Nat) (l0 : List Int) (a1 : Nat) : Option (Int) := slices_IndexFunc_int_int_of_impl_SumOk_1.l0 k l0 (l0.length : Int) 0
theorem slices_IndexFunc_int_int_of_impl_SumOk_1.mono_l : ∀ k, (∀ y0 y1 y2, LeO (slices_IndexFunc_int_int_of_impl_SumOk_1.l0 k y0 y1 y2) (slices_IndexFunc_int_int_of_impl_SumOk_1.l0 (k + 1) y0 y1 y2))
 | 0 => fun _ _ _ r h => by simp [slices_IndexFunc_int_int_of_impl_SumOk_1.l0] at h
 | k + 1 => by
  have ih0:=slices_IndexFunc_int_int_of_impl_SumOk_1.mono_l k
  · intro y0 y1 y2
    unfold slices_IndexFunc_int_int_of_impl_SumOk_1.l0
    repeat' first
    | (with_reducible exact ih0 _ _ _)
    | (with_reducible exact LeO.refl _)
    | (with_reducible exact LeO.none _)
    | (with_reducible refine LeO.ite ?_ ?_)
    | (with_reducible refine LeO.bind ?_ (fun _=>?_))
    | exact ih0 _ _ _
    | exact LeO.none _
    | refine LeO.ite ?_ ?_
    | refine LeO.bind ?_ (fun _=>?_)
theorem slices_IndexFunc_int_int_of_impl_SumOk_1.mono : ∀ a0 a1 k, LeO (slices_IndexFunc_int_int_of_impl_SumOk_1.f k a0 a1) (slices_IndexFunc_int_int_of_impl_SumOk_1.f (k + 1) a0 a1) := by
 intro a0 a1 k
 have ih0:=slices_IndexFunc_int_int_of_impl_SumOk_1.mono_l k
 unfold slices_IndexFunc_int_int_of_impl_SumOk_1.f
 repeat' first
  | (with_reducible exact ih0 _ _ _)
  | (with_reducible exact LeO.refl _)
  | (with_reducible exact LeO.none _)
  | (with_reducible refine LeO.ite ?_ ?_)
  | (with_reducible refine LeO.bind ?_ (fun _=>?_))
  | exact ih0 _ _ _
  | exact LeO.none _
  | refine LeO.ite ?_ ?_
  | refine LeO.bind ?_ (fun _=>?_)
set_option maxHeartbeats 8000000 in
set_option maxRecDepth 100000 in
theorem slices_IndexFunc_int_int_of_impl_SumOk_1.calls (k : Nat) (A0 : Option Addr) (c0 : Nat) (l0 : List Int) (a1 : Nat) (r : Int) (w : World) (hr0 : Kd.C (Kd.int .i64) w A0 l0.length l0) (hc0 : l0.length ≤ c0) (h : slices_IndexFunc_int_int_of_impl_SumOk_1.f k l0 a1 = some r) :
 Calls Try.prog 37 #[.slice A0 l0.length c0, .func (.func 32) #[] #[]] w fun e w' => e = .returned (.int .i64 r) ∧ Drawn0 w w' := by
 have HR0:=Z0 hr0
 have HC0:=Z0 hc0
 clear hr0 hc0
 have H : (slices_IndexFunc_int_int_of_impl_SumOk_1.l0 k l0 (l0.length : Int) 0) = some r:=h
 clear h
 have H':=Z0 H
 clear H
 go_enter Try.func37,Try.ntmps37
 go_wp2
 go_loopg [8] k (fun kq v8 w'=>∃ (x8_1 : Int),v8 = .int .i64 x8_1 ∧ Aside0 (slices_IndexFunc_int_int_of_impl_SumOk_1.l0 kq l0 (l0.length : Int) x8_1 = some r) ∧ Aside0 (kq ≤ k) ∧ Drawn0 w w')
 case atStart=>exact ⟨(0),(by first|rfl|(simp;done)|(simp [*];done)),H',⟨Zf _⟩,by repeat (first|exact Drawn0.refl _|apply Drawn0.step)⟩
 case round =>
  clear H'
  (try clear p2)
  obtain ⟨x8_1,rfl,HA,HK1,⟨m1,rfl⟩⟩:=hrel
  cases gk with
  | zero=>exact absurd HA.out (by simp [slices_IndexFunc_int_int_of_impl_SumOk_1.l0])
  | succ k1 =>
   have H:=HA.out
   clear HA
   simp only [slices_IndexFunc_int_int_of_impl_SumOk_1.l0] at H
   by_cases c3 : x8_1 < (l0.length : Int)
   case neg =>
    rw [if_neg c3] at H
    have c3b0 : decide (x8_1 < (l0.length : Int)) = false:=decide_eq_false c3
    clear c3
    obtain rfl:=Option.some.inj H
    go_wp2
    go_ret
    exact ⟨by first|rfl|(simp;done)|(simp [*];done),by repeat (first|exact Drawn0.refl _|apply Drawn0.step)⟩
   rw [if_pos c3] at H
   have c3b0 : decide (x8_1 < (l0.length : Int)) = true:=decide_eq_true c3
   clear c3
   by_cases c4 : 0 ≤ x8_1
   case neg =>
    rw [if_neg c4] at H
    exact absurd H (by simp)
   rw [if_pos c4] at H
   have c4b0 : decide (0 ≤ x8_1) = true:=decide_eq_true c4
   clear c4
   by_cases c5 : x8_1 < (l0.length : Int)
   case neg =>
    rw [if_neg c5] at H
    exact absurd H (by simp)
   rw [if_pos c5] at H
   have c5b0 : decide (x8_1 < (l0.length : Int)) = true:=decide_eq_true c5
   clear c5
   replace H:=Option.bind_eq_some_iff.mp H
   obtain ⟨t332,A60,H⟩:=H
   replace H : (if t332 = true then (some x8_1) else (slices_IndexFunc_int_int_of_impl_SumOk_1.l0 k1 l0 (l0.length : Int) (wrap64 (x8_1 + 1)))) = some r:=H
   have A6:=Z0 A60
   clear A60
   by_cases c7 : t332 = true
   case pos =>
    subst c7
    have H1 : (some x8_1) = some r:=by rw [if_pos rfl] at H;exact H
    clear H
    have H:=H1
    clear H1
    obtain rfl:=Option.some.inj H
    have p331 : 0 ≤ (x8_1 : Int):=of_decide_eq_true (by first|(with_reducible assumption)|assumption)
    have q331 : x8_1 < (l0.length : Int):=of_decide_eq_true (by first|(with_reducible assumption)|assumption)
    obtain ⟨ad331,e331,hx331_0⟩:=Kd.at_int HR0.out x8_1 p331 q331
    cases e331
    replace p331:=eq_true p331
    replace q331:=eq_true q331
    go_wp2_with (first|((with_reducible refine gate_calleeT (t:=11) rfl ?_);refine goesT_ (t:=11) (some 16) rfl rfl Try.func32 (by kernel_rfl) rfl #[.int .i64 (rd l0 x8_1)] rfl rfl (by (try simp only [Zc,Zd,Ze]);first|done|rfl|(simp only [Za,Zb];rfl)) ?_;(with_reducible refine (impl_SumOk_1.calls (rd l0 x8_1) true _ A6.out).mono ?_);rintro e w' ⟨rfl,⟨nd,rfl⟩⟩;refine ⟨_,rfl,?_⟩))
    go_ret
    exact ⟨by first|rfl|(simp;done)|(simp [*];done),by repeat (first|exact Drawn0.refl _|apply Drawn0.step)⟩
   replace c7:=Bool.eq_false_iff.mpr c7
   subst c7
   have H1 : (slices_IndexFunc_int_int_of_impl_SumOk_1.l0 k1 l0 (l0.length : Int) (wrap64 (x8_1 + 1))) = some r:=by rw [if_neg (show ¬ (false = true) by decide)] at H;exact H
   clear H
   have H:=H1
   clear H1
   have H':=Z0 H
   clear H
   have p331 : 0 ≤ (x8_1 : Int):=of_decide_eq_true (by first|(with_reducible assumption)|assumption)
   have q331 : x8_1 < (l0.length : Int):=of_decide_eq_true (by first|(with_reducible assumption)|assumption)
   obtain ⟨ad331,e331,hx331_0⟩:=Kd.at_int HR0.out x8_1 p331 q331
   cases e331
   replace p331:=eq_true p331
   replace q331:=eq_true q331
   go_wp2_with (first|((with_reducible refine gate_calleeT (t:=11) rfl ?_);refine goesT_ (t:=11) (some 16) rfl rfl Try.func32 (by kernel_rfl) rfl #[.int .i64 (rd l0 x8_1)] rfl rfl (by (try simp only [Zc,Zd,Ze]);first|done|rfl|(simp only [Za,Zb];rfl)) ?_;(with_reducible refine (impl_SumOk_1.calls (rd l0 x8_1) false _ A6.out).mono ?_);rintro e w' ⟨rfl,⟨nd,rfl⟩⟩;refine ⟨_,rfl,?_⟩))
   go_roundg k1
   case measure=>have:=HK1.out;omega
   case rel=>exact ⟨(wrap64 (x8_1 + 1)),(by first|rfl|(simp;done)|(simp [*];done)),H',⟨by have:=HK1.out;omega⟩,by repeat (first|exact Drawn0.refl _|apply Drawn0.step)⟩

/-! ### slices_ContainsFunc_int_int_of_impl_SumOk_1: function 31 -/
def slices_ContainsFunc_int_int_of_impl_SumOk_1.f (k : Nat) (l0 : List Int) (a1 : Nat) : Option (Bool) := (slices_IndexFunc_int_int_of_impl_SumOk_1.f k l0 a1).bind fun t333 => (some (decide (t333 ≥ 0)))
theorem slices_ContainsFunc_int_int_of_impl_SumOk_1.mono : ∀ a0 a1 k, LeO (slices_ContainsFunc_int_int_of_impl_SumOk_1.f k a0 a1) (slices_ContainsFunc_int_int_of_impl_SumOk_1.f (k + 1) a0 a1) := by
 intro a0 a1 k
 unfold slices_ContainsFunc_int_int_of_impl_SumOk_1.f
 repeat' first
  | (with_reducible exact slices_IndexFunc_int_int_of_impl_SumOk_1.mono _ _ _)
  | (with_reducible exact LeO.refl _)
  | (with_reducible exact LeO.none _)
  | (with_reducible refine LeO.ite ?_ ?_)
  | (with_reducible refine LeO.bind ?_ (fun _=>?_))
  | exact slices_IndexFunc_int_int_of_impl_SumOk_1.mono _ _ _
  | exact LeO.none _
  | refine LeO.ite ?_ ?_
  | refine LeO.bind ?_ (fun _=>?_)
set_option maxHeartbeats 8000000 in
set_option maxRecDepth 100000 in
theorem slices_ContainsFunc_int_int_of_impl_SumOk_1.calls (k : Nat) (A0 : Option Addr) (c0 : Nat) (l0 : List Int) (a1 : Nat) (r : Bool) (w : World) (hr0 : Kd.C (Kd.int .i64) w A0 l0.length l0) (hc0 : l0.length ≤ c0) (h : slices_ContainsFunc_int_int_of_impl_SumOk_1.f k l0 a1 = some r) :
 Calls Try.prog 31 #[.slice A0 l0.length c0, .func (.func 32) #[] #[]] w fun e w' => e = .returned (.bool r) ∧ Drawn0 w w' := by
 have HR0:=Z0 hr0
 have HC0:=Z0 hc0
 clear hr0 hc0
 have H : ((slices_IndexFunc_int_int_of_impl_SumOk_1.f k l0 a1).bind fun t333=>(some (decide (t333 ≥ 0)))) = some r:=h
 clear h
 replace H:=Option.bind_eq_some_iff.mp H
 obtain ⟨t333,A30,H⟩:=H
 replace H : (some (decide (t333 ≥ 0))) = some r:=H
 have A3:=Z0 A30
 clear A30
 obtain rfl:=Option.some.inj H
 go_enter Try.func31,Try.ntmps31
 go_wp2_with (first|((with_reducible refine gate_callee (f:=37) rfl ?_);refine goesL_ (some 7) rfl rfl Try.func37 (by kernel_rfl) rfl #[.slice A0 l0.length c0,.func (.func 32) #[] #[]] rfl (by (try simp only [Zc,Zd,Ze]);first|done|rfl|(simp only [Za,Zb];rfl)) ?_;(with_reducible refine (slices_IndexFunc_int_int_of_impl_SumOk_1.calls k _ _ l0 a1 t333 _ ?side1 ?side2 A3.out).mono ?_);(case side1=>repeat (first|exact HR0.out|(with_reducible refine Kd.C_alloc ?_ _)|(with_reducible refine Kd.C_drewN ?_ _)|(with_reducible refine Kd.C_drew ?_)));(case side2=>exact HC0.out);rintro e w' ⟨rfl,⟨nd,rfl⟩⟩;refine ⟨_,rfl,?_⟩))
 go_ret
 exact ⟨by first|rfl|(simp;done)|(simp [*];done),by repeat (first|exact Drawn0.refl _|apply Drawn0.step)⟩

/-! ### impl_SumOk: function 23 -/
def impl_SumOk.f (k : Nat) (l0_0 : List Int) (a0_1 : Int) (l0_2 : List Int) : Option (Bool) := if (l0_0.length : Int) = 8 then ((slices_ContainsFunc_int_int_of_impl_SumOk_1.f k l0_0 0).bind fun t335 => (if t335 = true then (some false) else ((impl_in.f a0_1 0 2147483647).bind fun t336 => (if t336 = true then (some ((l0_2.length : Int) == (Int.tmod a0_1 64))) else (some false))))) else (some false)
theorem impl_SumOk.mono : ∀ a0 a1 a2 k, LeO (impl_SumOk.f k a0 a1 a2) (impl_SumOk.f (k + 1) a0 a1 a2) := by
 intro a0 a1 a2 k
 unfold impl_SumOk.f
 repeat' first
  | (with_reducible exact slices_ContainsFunc_int_int_of_impl_SumOk_1.mono _ _ _)
  | (with_reducible exact LeO.refl _)
  | (with_reducible exact LeO.none _)
  | (with_reducible refine LeO.ite ?_ ?_)
  | (with_reducible refine LeO.bind ?_ (fun _=>?_))
  | exact slices_ContainsFunc_int_int_of_impl_SumOk_1.mono _ _ _
  | exact LeO.none _
  | refine LeO.ite ?_ ?_
  | refine LeO.bind ?_ (fun _=>?_)
set_option maxHeartbeats 8000000 in
set_option maxRecDepth 100000 in
theorem impl_SumOk.calls (k : Nat) (A0_0 : Option Addr) (c0_0 : Nat) (l0_0 : List Int) (a0_1 : Int) (A0_2 : Option Addr) (c0_2 : Nat) (l0_2 : List Int) (r : Bool) (w : World) (hr0_0 : Kd.C (Kd.int .i64) w A0_0 l0_0.length l0_0) (hc0_0 : l0_0.length ≤ c0_0) (hr0_2 : Kd.C (Kd.int .u8) w A0_2 l0_2.length l0_2) (hc0_2 : l0_2.length ≤ c0_2) (h : impl_SumOk.f k l0_0 a0_1 l0_2 = some r) :
 Calls Try.prog 23 #[.agg #[.slice A0_0 l0_0.length c0_0, .int .i64 a0_1, .slice A0_2 l0_2.length c0_2]] w fun e w' => e = .returned (.bool r) ∧ Below w.heap.size w w' := by
 have hu31:=Try.underlying31
 have HR0_0:=Z0 hr0_0
 have HC0_0:=Z0 hc0_0
 clear hr0_0 hc0_0
 have HR0_2:=Z0 hr0_2
 have HC0_2:=Z0 hc0_2
 clear hr0_2 hc0_2
 have HB:=Z0 (Zg w.heap.size w)
 have H : (if (l0_0.length : Int) = 8 then ((slices_ContainsFunc_int_int_of_impl_SumOk_1.f k l0_0 0).bind fun t335=>(if t335 = true then (some false) else ((impl_in.f a0_1 0 2147483647).bind fun t336=>(if t336 = true then (some ((l0_2.length : Int) == (Int.tmod a0_1 64))) else (some false))))) else (some false)) = some r:=h
 clear h
 by_cases c2 : (l0_0.length : Int) = 8
 case neg =>
  rw [if_neg c2] at H
  have c2b0 : ((l0_0.length : Int) == 8) = false:=beq_eq_false_iff_ne.mpr c2
  have c2b1 : ((l0_0.length : Int) != 8) = true:=bne_iff_ne.mpr c2
  obtain rfl:=Option.some.inj H
  go_enter Try.func23,Try.ntmps23
  go_wp2_with (first|((with_reducible refine gate_dst (N:=1) rfl ?_);(try (refine gate_guard (by rfl) ?_;dsimp only));refine box_event ?hg (N:=1) ?hd (cs:=#[.slice A0_0 l0_0.length c0_0,.int .i64 a0_1,.slice A0_2 l0_2.length c0_2]) (t:=31) ?hr ?_;(case hd=>rfl);(case hg=>rfl);(case hr=>first|(go_simp;done)|(go_simp;rfl));intro gb334 hg w13 hbox hb;have n0_:=Z0 (below_step (by repeat (first|(with_reducible first|exact HB.out|apply Z5|apply Z1|apply Z4)|exact HB.out)) hb);have n1_:=Z0 (hbox);have n2_:=Z0 ((by rw [hg];exact (Z6 (by repeat (first|(with_reducible first|exact HB.out|apply Z5|apply Z1|apply Z4)|exact HB.out))) : w.heap.size ≤ gb334));have n3_:=Z0 ((by rw [hg];exact (Z6 (by repeat (first|(with_reducible first|exact HB.out|apply Z5|apply Z1|apply Z4)|exact HB.out))) : w.heap.size ≤ gb334));clear HB;have HB:=n0_;have BK334:=n1_;have GW334:=n2_;have GE334:=n3_;clear n0_ n1_ n2_ n3_;clear hb hbox hg;have hcz14_0 : w13.cell? ⟨gb334,0,none⟩ = some (.slice A0_0 l0_0.length c0_0):=(blk_cell BK334.out 0).trans rfl;have hcz14_1 : w13.cell? ⟨gb334,1,none⟩ = some (.int .i64 a0_1):=(blk_cell BK334.out 1).trans rfl;have hcz14_2 : w13.cell? ⟨gb334,2,none⟩ = some (.slice A0_2 l0_2.length c0_2):=(blk_cell BK334.out 2).trans rfl;have hfz14_0:=Z7 BK334.out 0;have hfz14_1:=Z7 BK334.out 1;have hfz14_2:=Z7 BK334.out 2))
  go_ret
  exact ⟨by first|rfl|(simp [errW_none,errW_some]<;>rfl)|(simp [*,errW_none,errW_some]<;>rfl),by repeat (first|(with_reducible first|exact HB.out|apply Z5|apply Z1|apply Z4|refine below_set ?_ GE334.out)|exact HB.out)⟩
 rw [if_pos c2] at H
 have c2b0 : ((l0_0.length : Int) == 8) = true:=beq_iff_eq.mpr c2
 have c2b1 : ((l0_0.length : Int) != 8) = false:=bne_eq_false_iff_eq.mpr c2
 clear c2
 replace H:=Option.bind_eq_some_iff.mp H
 obtain ⟨t335,A30,H⟩:=H
 replace H : (if t335 = true then (some false) else ((impl_in.f a0_1 0 2147483647).bind fun t336=>(if t336 = true then (some ((l0_2.length : Int) == (Int.tmod a0_1 64))) else (some false)))) = some r:=H
 have A3:=Z0 A30
 clear A30
 by_cases c4 : t335 = true
 case pos =>
  subst c4
  have H1 : (some false) = some r:=by rw [if_pos rfl] at H;exact H
  clear H
  have H:=H1
  clear H1
  obtain rfl:=Option.some.inj H
  go_enter Try.func23,Try.ntmps23
  go_wp2_with (first|((with_reducible refine gate_dst (N:=1) rfl ?_);(try (refine gate_guard (by rfl) ?_;dsimp only));refine box_event ?hg (N:=1) ?hd (cs:=#[.slice A0_0 l0_0.length c0_0,.int .i64 a0_1,.slice A0_2 l0_2.length c0_2]) (t:=31) ?hr ?_;(case hd=>rfl);(case hg=>rfl);(case hr=>first|(go_simp;done)|(go_simp;rfl));intro gb334 hg w5 hbox hb;have n0_:=Z0 (below_step (by repeat (first|(with_reducible first|exact HB.out|apply Z5|apply Z1|apply Z4)|exact HB.out)) hb);have n1_:=Z0 (hbox);have n2_:=Z0 ((by rw [hg];exact (Z6 (by repeat (first|(with_reducible first|exact HB.out|apply Z5|apply Z1|apply Z4)|exact HB.out))) : w.heap.size ≤ gb334));have n3_:=Z0 ((by rw [hg];exact (Z6 (by repeat (first|(with_reducible first|exact HB.out|apply Z5|apply Z1|apply Z4)|exact HB.out))) : w.heap.size ≤ gb334));clear HB;have HB:=n0_;have BK334:=n1_;have GW334:=n2_;have GE334:=n3_;clear n0_ n1_ n2_ n3_;clear hb hbox hg;have hcz6_0 : w5.cell? ⟨gb334,0,none⟩ = some (.slice A0_0 l0_0.length c0_0):=(blk_cell BK334.out 0).trans rfl;have hcz6_1 : w5.cell? ⟨gb334,1,none⟩ = some (.int .i64 a0_1):=(blk_cell BK334.out 1).trans rfl;have hcz6_2 : w5.cell? ⟨gb334,2,none⟩ = some (.slice A0_2 l0_2.length c0_2):=(blk_cell BK334.out 2).trans rfl;have hfz6_0:=Z7 BK334.out 0;have hfz6_1:=Z7 BK334.out 1;have hfz6_2:=Z7 BK334.out 2)|(go_at_call 31;(with_reducible refine (slices_ContainsFunc_int_int_of_impl_SumOk_1.calls k _ _ l0_0 0 true _ ?side1 ?side2 A3.out).mono ?_);(case side1=>repeat (first|exact (Kd.C_below HR0_0.out HB.out)|(with_reducible refine Kd.C_alloc ?_ _)|(with_reducible refine Kd.C_drewN ?_ _)|(with_reducible refine Kd.C_drew ?_)));(case side2=>exact HC0_0.out);rintro e w' ⟨rfl,⟨nd,rfl⟩⟩))
  go_ret
  exact ⟨by first|rfl|(simp [errW_none,errW_some]<;>rfl)|(simp [*,errW_none,errW_some]<;>rfl),by repeat (first|(with_reducible first|exact HB.out|apply Z5|apply Z1|apply Z4|refine below_set ?_ GE334.out)|exact HB.out)⟩
 replace c4:=Bool.eq_false_iff.mpr c4
 subst c4
 have H1 : ((impl_in.f a0_1 0 2147483647).bind fun t336=>(if t336 = true then (some ((l0_2.length : Int) == (Int.tmod a0_1 64))) else (some false))) = some r:=by rw [if_neg (show ¬ (false = true) by decide)] at H;exact H
 clear H
 have H:=H1
 clear H1
 replace H:=Option.bind_eq_some_iff.mp H
 obtain ⟨t336,A70,H⟩:=H
 replace H : (if t336 = true then (some ((l0_2.length : Int) == (Int.tmod a0_1 64))) else (some false)) = some r:=H
 have A7:=Z0 A70
 clear A70
 by_cases c8 : t336 = true
 case pos =>
  subst c8
  have H1 : (some ((l0_2.length : Int) == (Int.tmod a0_1 64))) = some r:=by rw [if_pos rfl] at H;exact H
  clear H
  have H:=H1
  clear H1
  obtain rfl:=Option.some.inj H
  go_enter Try.func23,Try.ntmps23
  go_wp2_with (first|((with_reducible refine gate_dst (N:=1) rfl ?_);(try (refine gate_guard (by rfl) ?_;dsimp only));refine box_event ?hg (N:=1) ?hd (cs:=#[.slice A0_0 l0_0.length c0_0,.int .i64 a0_1,.slice A0_2 l0_2.length c0_2]) (t:=31) ?hr ?_;(case hd=>rfl);(case hg=>rfl);(case hr=>first|(go_simp;done)|(go_simp;rfl));intro gb334 hg w9 hbox hb;have n0_:=Z0 (below_step (by repeat (first|(with_reducible first|exact HB.out|apply Z5|apply Z1|apply Z4)|exact HB.out)) hb);have n1_:=Z0 (hbox);have n2_:=Z0 ((by rw [hg];exact (Z6 (by repeat (first|(with_reducible first|exact HB.out|apply Z5|apply Z1|apply Z4)|exact HB.out))) : w.heap.size ≤ gb334));have n3_:=Z0 ((by rw [hg];exact (Z6 (by repeat (first|(with_reducible first|exact HB.out|apply Z5|apply Z1|apply Z4)|exact HB.out))) : w.heap.size ≤ gb334));clear HB;have HB:=n0_;have BK334:=n1_;have GW334:=n2_;have GE334:=n3_;clear n0_ n1_ n2_ n3_;clear hb hbox hg;have hcz10_0 : w9.cell? ⟨gb334,0,none⟩ = some (.slice A0_0 l0_0.length c0_0):=(blk_cell BK334.out 0).trans rfl;have hcz10_1 : w9.cell? ⟨gb334,1,none⟩ = some (.int .i64 a0_1):=(blk_cell BK334.out 1).trans rfl;have hcz10_2 : w9.cell? ⟨gb334,2,none⟩ = some (.slice A0_2 l0_2.length c0_2):=(blk_cell BK334.out 2).trans rfl;have hfz10_0:=Z7 BK334.out 0;have hfz10_1:=Z7 BK334.out 1;have hfz10_2:=Z7 BK334.out 2)|(go_at_call 31;(with_reducible refine (slices_ContainsFunc_int_int_of_impl_SumOk_1.calls k _ _ l0_0 0 false _ ?side1 ?side2 A3.out).mono ?_);(case side1=>repeat (first|exact (Kd.C_below HR0_0.out HB.out)|(with_reducible refine Kd.C_alloc ?_ _)|(with_reducible refine Kd.C_drewN ?_ _)|(with_reducible refine Kd.C_drew ?_)));(case side2=>exact HC0_0.out);rintro e w' ⟨rfl,⟨nd,rfl⟩⟩)|(go_at_call 33;(with_reducible refine (impl_in.calls a0_1 0 2147483647 true _ A7.out).mono ?_);rintro e w' ⟨rfl,⟨nd,rfl⟩⟩))
  go_ret
  exact ⟨by first|rfl|(simp [errW_none,errW_some]<;>rfl)|(simp [*,errW_none,errW_some]<;>rfl),by repeat (first|(with_reducible first|exact HB.out|apply Z5|apply Z1|apply Z4|refine below_set ?_ GE334.out)|exact HB.out)⟩
 replace c8:=Bool.eq_false_iff.mpr c8
 subst c8
 have H1 : (some false) = some r:=by rw [if_neg (show ¬ (false = true) by decide)] at H;exact H
 clear H
 have H:=H1
 clear H1
 obtain rfl:=Option.some.inj H
 go_enter Try.func23,Try.ntmps23
 go_wp2_with (first|((with_reducible refine gate_dst (N:=1) rfl ?_);(try (refine gate_guard (by rfl) ?_;dsimp only));refine box_event ?hg (N:=1) ?hd (cs:=#[.slice A0_0 l0_0.length c0_0,.int .i64 a0_1,.slice A0_2 l0_2.length c0_2]) (t:=31) ?hr ?_;(case hd=>rfl);(case hg=>rfl);(case hr=>first|(go_simp;done)|(go_simp;rfl));intro gb334 hg w11 hbox hb;have n0_:=Z0 (below_step (by repeat (first|(with_reducible first|exact HB.out|apply Z5|apply Z1|apply Z4)|exact HB.out)) hb);have n1_:=Z0 (hbox);have n2_:=Z0 ((by rw [hg];exact (Z6 (by repeat (first|(with_reducible first|exact HB.out|apply Z5|apply Z1|apply Z4)|exact HB.out))) : w.heap.size ≤ gb334));have n3_:=Z0 ((by rw [hg];exact (Z6 (by repeat (first|(with_reducible first|exact HB.out|apply Z5|apply Z1|apply Z4)|exact HB.out))) : w.heap.size ≤ gb334));clear HB;have HB:=n0_;have BK334:=n1_;have GW334:=n2_;have GE334:=n3_;clear n0_ n1_ n2_ n3_;clear hb hbox hg;have hcz12_0 : w11.cell? ⟨gb334,0,none⟩ = some (.slice A0_0 l0_0.length c0_0):=(blk_cell BK334.out 0).trans rfl;have hcz12_1 : w11.cell? ⟨gb334,1,none⟩ = some (.int .i64 a0_1):=(blk_cell BK334.out 1).trans rfl;have hcz12_2 : w11.cell? ⟨gb334,2,none⟩ = some (.slice A0_2 l0_2.length c0_2):=(blk_cell BK334.out 2).trans rfl;have hfz12_0:=Z7 BK334.out 0;have hfz12_1:=Z7 BK334.out 1;have hfz12_2:=Z7 BK334.out 2)|(go_at_call 31;(with_reducible refine (slices_ContainsFunc_int_int_of_impl_SumOk_1.calls k _ _ l0_0 0 false _ ?side1 ?side2 A3.out).mono ?_);(case side1=>repeat (first|exact (Kd.C_below HR0_0.out HB.out)|(with_reducible refine Kd.C_alloc ?_ _)|(with_reducible refine Kd.C_drewN ?_ _)|(with_reducible refine Kd.C_drew ?_)));(case side2=>exact HC0_0.out);rintro e w' ⟨rfl,⟨nd,rfl⟩⟩)|(go_at_call 33;(with_reducible refine (impl_in.calls a0_1 0 2147483647 false _ A7.out).mono ?_);rintro e w' ⟨rfl,⟨nd,rfl⟩⟩))
 go_ret
 exact ⟨by first|rfl|(simp [errW_none,errW_some]<;>rfl)|(simp [*,errW_none,errW_some]<;>rfl),by repeat (first|(with_reducible first|exact HB.out|apply Z5|apply Z1|apply Z4|refine below_set ?_ GE334.out)|exact HB.out)⟩

/-! ### impl_high: function 24 -/
def impl_high.l0 : Nat → Int → List Int → Int → Option (List Int)
 | 0, _, _, _ => none
 | k + 1, x0, x3, x4 => if x4 ≥ 0 then (if 0 ≤ x4 then (if x4 < (x3.length : Int) then (impl_high.l0 k (x0 / 256) (x3.set (x4 : Int).toNat ((x0) % 256)) (wrap64 (x4 - 1))) else (none)) else (none)) else (some x3)
def impl_high.f (k : Nat) (a0 : Int) : Option (List Int) := impl_high.l0 k a0 (List.replicate 8 0) 7
theorem impl_high.mono_l : ∀ k, (∀ y0 y1 y2, LeO (impl_high.l0 k y0 y1 y2) (impl_high.l0 (k + 1) y0 y1 y2))
 | 0 => fun _ _ _ r h => by simp [impl_high.l0] at h
 | k + 1 => by
  have ih0:=impl_high.mono_l k
  · intro y0 y1 y2
    unfold impl_high.l0
    repeat' first
    | (with_reducible exact ih0 _ _ _)
    | (with_reducible exact LeO.refl _)
    | (with_reducible exact LeO.none _)
    | (with_reducible refine LeO.ite ?_ ?_)
    | (with_reducible refine LeO.bind ?_ (fun _=>?_))
    | exact ih0 _ _ _
    | exact LeO.none _
    | refine LeO.ite ?_ ?_
    | refine LeO.bind ?_ (fun _=>?_)
theorem impl_high.mono : ∀ a0 k, LeO (impl_high.f k a0) (impl_high.f (k + 1) a0) := by
 intro a0 k
 have ih0:=impl_high.mono_l k
 unfold impl_high.f
 repeat' first
  | (with_reducible exact ih0 _ _ _)
  | (with_reducible exact LeO.refl _)
  | (with_reducible exact LeO.none _)
  | (with_reducible refine LeO.ite ?_ ?_)
  | (with_reducible refine LeO.bind ?_ (fun _=>?_))
  | exact ih0 _ _ _
  | exact LeO.none _
  | refine LeO.ite ?_ ?_
  | refine LeO.bind ?_ (fun _=>?_)
set_option maxHeartbeats 8000000 in
set_option maxRecDepth 100000 in
theorem impl_high.calls (k : Nat) (a0 : Int) (r : List Int) (w : World) (h : impl_high.f k a0 = some r) :
 Calls Try.prog 24 #[.int .i64 a0] w fun e w' => ∃ v0_ : Value, e = .returned (v0_) ∧ Kd.R (Kd.int .u8) 5 w' w.heap.size (fun _ => True) v0_ r ∧ Below w.heap.size w w' := by
 have HB:=Z0 (Zg w.heap.size w)
 have H : (impl_high.l0 k a0 (List.replicate 8 0) 7) = some r:=h
 clear h
 obtain ⟨y337,hy337⟩ : ∃ y_ : List Int,y_ = (List.replicate 8 0):=⟨_,rfl⟩
 replace H : (impl_high.l0 k a0 y337 7) = some r:=by first|(rw [hy337];with_reducible exact H)|(have H2_:=(Z9 _ _).symm.trans H;rw [hy337];with_reducible exact H2_)|(have H2_:=(Z9 _ _).symm.trans H;with_reducible exact H2_)|with_reducible exact H|(rw [hy337];exact H)|exact H
 have Ny337:=Z0 hy337
 clear hy337
 have H':=Z0 H
 clear H
 go_enter Try.func24,Try.ntmps24
 go_wp2_with (first|((with_reducible refine gate_dst (N:=5) rfl ?_);refine Kd.R_make (Kd.int .u8) _ 5 rfl (N:=5) rfl 22 _ _ rfl 8 rfl rfl Try.underlying22 (.int .u8 0) 1 info5 rfl (by decide) (by omega) 0 (ok:=fun _=>True) (okp:=fun _=>True) rfl (fun _ hk=>hk) trivial (by omega) (by omega) (Zg _ _) (Zf _) ?_;intro v338 w2 ho3 hb hg_ hnew_;clear hg_ hnew_;(first|rw [← Ny337.out] at ho3|(simp only [Int.reduceToNat] at ho3;rw [← Ny337.out] at ho3));have n0_:=Z0 (Kd.R_lower ho3 (Z6 (by repeat (first|(with_reducible first|exact HB.out|apply Z5|apply Z1|apply Z4)|exact HB.out))));have n1_:=Z0 (below_step (by repeat (first|(with_reducible first|exact HB.out|apply Z5|apply Z1|apply Z4)|exact HB.out)) hb);clear HB;have HO339:=n0_;have HB:=n1_;clear n0_ n1_;clear hb ho3))
 go_loopg [0,4] k (fun kq v0 v4 w'=>∃ (x0_1 : Int) (x3_1 : List Int) (x4_1 : Int),v0 = .int .i64 x0_1 ∧ v4 = .int .i64 x4_1 ∧ Aside0 (impl_high.l0 kq x0_1 x3_1 x4_1 = some r) ∧ Aside0 (kq ≤ k) ∧ Aside0 (Kd.R (Kd.int .u8) 5 w' w.heap.size (fun _=>True) v338 x3_1) ∧ Aside0 (Below w.heap.size w w'))
 case atStart=>exact ⟨(a0),(y337),(7),(by first|rfl|(simp;done)|(simp [*];done)),(by first|rfl|(simp;done)|(simp [*];done)),H',⟨Zf _⟩,⟨by (with_reducible repeat (first|apply Z3|apply Z2|apply Kd.R_drew));exact HO339.out⟩,⟨by repeat (first|(with_reducible first|exact HB.out|apply Z5|apply Z1|apply Z4)|exact HB.out)⟩⟩
 case round =>
  clear H'
  (try clear c2);(try clear p2)
  obtain ⟨x0_1,x3_1,x4_1,rfl,rfl,HA,HK1,HO_3,HB⟩:=hrel
  cases gk with
  | zero=>exact absurd HA.out (by simp [impl_high.l0])
  | succ k1 =>
   have H:=HA.out
   clear HA
   simp only [impl_high.l0] at H
   by_cases c4 : x4_1 ≥ 0
   case neg =>
    rw [if_neg c4] at H
    have c4b0 : decide (0 ≤ x4_1) = false:=decide_eq_false c4
    clear c4
    obtain rfl:=Option.some.inj H
    go_wp2
    go_ret
    exact ⟨_,by first|rfl|(simp [errW_none,errW_some]<;>rfl)|(simp [*,errW_none,errW_some]<;>rfl),by (with_reducible repeat (first|apply Z3|apply Z2|apply Kd.R_drew));exact HO_3.out,by repeat (first|(with_reducible first|exact HB.out|apply Z5|apply Z1|apply Z4)|exact HB.out)⟩
   rw [if_pos c4] at H
   have c4b0 : decide (0 ≤ x4_1) = true:=decide_eq_true c4
   clear c4
   by_cases c5 : 0 ≤ x4_1
   case neg =>
    rw [if_neg c5] at H
    exact absurd H (by simp)
   rw [if_pos c5] at H
   have c5b0 : decide (0 ≤ x4_1) = true:=decide_eq_true c5
   clear c5
   by_cases c6 : x4_1 < (x3_1.length : Int)
   case neg =>
    rw [if_neg c6] at H
    exact absurd H (by simp)
   rw [if_pos c6] at H
   have c6b0 : decide (x4_1 < (x3_1.length : Int)) = true:=decide_eq_true c6
   clear c6
   obtain ⟨y340,hy340⟩ : ∃ y_ : List Int,y_ = (x3_1.set (x4_1 : Int).toNat ((x0_1) % 256)):=⟨_,rfl⟩
   replace H : (impl_high.l0 k1 (x0_1 / 256) y340 (wrap64 (x4_1 - 1))) = some r:=by first|(rw [hy340];with_reducible exact H)|(have H2_:=(Z9 _ _).symm.trans H;rw [hy340];with_reducible exact H2_)|(have H2_:=(Z9 _ _).symm.trans H;with_reducible exact H2_)|with_reducible exact H|(rw [hy340];exact H)|exact H
   have Ny340:=Z0 hy340
   clear hy340
   have H':=Z0 H
   clear H
   have p7 : 0 ≤ (x4_1 : Int):=of_decide_eq_true (by first|(with_reducible assumption)|assumption)
   have q7 : (x4_1 : Int) < ((x3_1.length : Int) : Int):=of_decide_eq_true (by first|(with_reducible assumption)|assumption)
   obtain ⟨go7,co7,eo7,gb7,gl7,cl7,HG7⟩:=Kd.R_form HO_3.out (by omega)
   (first|cases eo7|(injection eo7 with ea_ en_ ec_;(first|subst ea_|(injection ea_ with ea_;subst ea_));subst ec_;clear en_))
   have GB7:=Z0 gb7
   have GG7:=Z0 HG7
   clear gb7 gl7 HG7
   obtain ⟨hx7_0,hf7_0⟩:=Kd.R_celln 0 HO_3.out (x4_1 : Int) p7 q7
   replace p7:=eq_true p7
   replace q7:=eq_true q7
   have HP8:=Kd.R_putg HO_3.out (x4_1 : Int) ((x0_1) % 256)
   go_wp2_with (first|((with_reducible refine gate_store (t:=5) (p:=14) rfl ?_);refine store_event (t:=5) (p:=14) (v:=?vo_w9) (w1:=(wr.setCell ⟨go7,(x4_1 : Int).toNat,none⟩ (.int .u8 ((x0_1) % 256)))) ?hg ?ho ?hn ?hr ?_;(case ho=>rfl);(case hg=>rfl);(case hn=>rfl);(case hr=>first|(go_simp;done)|(go_simp;rfl));intro w9 hw;have hg : wr.grownBy w9 (some go7):=(by rw [hw];exact HP8.2);have hp_ : Kd.R (Kd.int .u8) 5 w9 w.heap.size (fun _=>True) (.slice (some ⟨go7,0,none⟩) x3_1.length co7) y340:=(by rw [hw,Ny340.out];exact HP8.1);clear HP8;have n0_:=Z0 (hp_);have n1_:=Z0 ((by rw [hw];exact below_set (HB.out) GB7.out : Below w.heap.size w w9));clear HO_3;clear HB;have HO_3:=n0_;have HB:=n1_;clear n0_ n1_;clear hg hw hp_))
   go_roundg k1
   case measure=>have:=HK1.out;omega
   case rel=>exact ⟨(x0_1 / 256),(y340),(wrap64 (x4_1 - 1)),(by first|rfl|(simp;done)|(simp [*];done)),(by first|rfl|(simp;done)|(simp [*];done)),H',⟨by have:=HK1.out;omega⟩,⟨by (with_reducible repeat (first|apply Z3|apply Z2|apply Kd.R_drew));exact HO_3.out⟩,⟨by repeat (first|(with_reducible first|exact HB.out|apply Z5|apply Z1|apply Z4)|exact HB.out)⟩⟩

/-! ### slices_Clone_int_int: function 25 -/
def slices_Clone_int_int.f (l0 : List Int) : Option (List Int) := (some (([] : List Int) : List Int)).bind fun y341 => (if y341.length + l0.length < 17592186044416 then (some (y341 ++ l0)) else (none))
set_option maxHeartbeats 8000000 in
set_option maxRecDepth 100000 in
theorem slices_Clone_int_int.callsS (ad0_ : Addr) (c0 : Nat) (l0 : List Int) (r : List Int) (w : World) (hr0 : Kd.C (Kd.int .i64) w (some ad0_) l0.length l0) (hc0 : l0.length ≤ c0) (h : slices_Clone_int_int.f l0 = some r) :
 Calls Try.prog 25 #[.slice (some ad0_) l0.length c0] w fun e w' => ∃ v0_ : Value, e = .returned (v0_) ∧ Kd.R (Kd.int .i64) 3 w' w.heap.size (fun _ => True) v0_ r ∧ Below w.heap.size w w' := by
 have HR0:=Z0 hr0
 have HC0:=Z0 hc0
 clear hr0 hc0
 have HB:=Z0 (Zg w.heap.size w)
 have H : ((some (([] : List Int) : List Int)).bind fun y341=>(if y341.length + l0.length < 17592186044416 then (some (y341 ++ l0)) else (none))) = some r:=h
 clear h
 obtain ⟨y341,hy341⟩ : ∃ y_ : List Int,y_ = (([] : List Int)):=⟨_,rfl⟩
 replace H : (if y341.length + l0.length < 17592186044416 then (some (y341 ++ l0)) else (none)) = some r:=by first|(rw [hy341];with_reducible exact H)|(have H2_:=(Z9 _ _).symm.trans H;rw [hy341];with_reducible exact H2_)|(have H2_:=(Z9 _ _).symm.trans H;with_reducible exact H2_)|with_reducible exact H|(rw [hy341];exact H)|exact H
 have Ny341:=Z0 hy341
 clear hy341
 by_cases c2 : y341.length + l0.length < 17592186044416
 case neg =>
  rw [if_neg c2] at H
  exact absurd H (by simp)
 rw [if_pos c2] at H
 have LMc2:=Z0 c2
 clear c2
 obtain ⟨y344,hy344⟩ : ∃ y_ : List Int,y_ = (y341 ++ l0):=⟨_,rfl⟩
 replace H : (some y344) = some r:=by first|(rw [hy344];with_reducible exact H)|(have H2_:=(Z9 _ _).symm.trans H;rw [hy344];with_reducible exact H2_)|(have H2_:=(Z9 _ _).symm.trans H;with_reducible exact H2_)|with_reducible exact H|(rw [hy344];exact H)|exact H
 have Ny344:=Z0 hy344
 clear hy344
 obtain rfl:=Option.some.inj H
 have hnil_:=fun w_ : World=>Lib.run_eql_slice_nil (P:=Try.prog) w_ 29 3 (some ad0_) l0.length c0 0 0 Try.underlying29
 go_enter Try.func25,Try.ntmps25
 go_wp2_with (first|((with_reducible refine gate_dst (N:=5) rfl ?_);refine Kd.R_lit (Kd.int .i64) _ 3 ?hg (N:=5) ?hd (xs:=([] : List Int)) (inner:=[]) (ok:=fun _=>True) (okp:=fun _=>True) ?hr ?hp (fun _ hk=>hk) trivial (Zg _ _) (Zf _) (by simp) ?_;(case hd=>rfl);(case hg=>rfl);(case hr=>first|(go_simp;done)|(go_simp;rfl));(case hp=>exact (Reps.none _ _));intro v342 w3 ho4 hb hg_ hnew_;clear hg_ hnew_;(first|rw [← Ny341.out] at ho4|(simp only [Int.reduceToNat] at ho4;rw [← Ny341.out] at ho4));have n0_:=Z0 (Kd.R_lower ho4 (Z6 (by repeat (first|(with_reducible first|exact HB.out|apply Z5|apply Z1|apply Z4)|exact HB.out))));have n1_:=Z0 (below_step (by repeat (first|(with_reducible first|exact HB.out|apply Z5|apply Z1|apply Z4)|exact HB.out)) hb);clear HB;have HO343:=n0_;have HB:=n1_;clear n0_ n1_;clear hb ho4)|((with_reducible refine gate_builtin (b:=.append) (xs:=#[.tmp 5,.tmp 6]) rfl ?_);at_builtin;refine Kd.R_append_rows (Kd.int .i64) (w0:=w) w.heap.size rfl (.tmp 5) (.tmp 6) 29 3 (.int .i64 0) 8 rfl Try.underlying29 info3 rfl (by decide) (by omega) v342 y341 l0 _ _ _ (fun _=>True) (fun _=>False) rfl rfl ?aO ?aR (fun _ _ h=>h) (fun _ h=>h.elim) ?aF ?aB ?aS ?aL ?_;(case aR=>repeat (first|exact (Kd.C_below HR0.out HB.out)|(with_reducible refine Kd.C_alloc ?_ _)|(with_reducible refine Kd.C_drewN ?_ _)|(with_reducible refine Kd.C_drew ?_)));(case aB=>exact (by repeat (first|(with_reducible first|exact HB.out|apply Z5|apply Z1|apply Z4)|exact HB.out)));(case aF=>exact (fun _ _=>trivial));(case aO=>exact (by (with_reducible repeat (first|apply Z3|apply Z2|apply Kd.R_drew));exact HO343.out));(case aS=>exact (Z6 (by repeat (first|(with_reducible first|exact HB.out|apply Z5|apply Z1|apply Z4)|exact HB.out))));(case aL=>have:=LMc2.out;omega);intro v345 w5 ho hb hg hat;rw [← Ny344.out] at ho;have n0_:=Z0 (hb);have n1_:=Z0 (ho);clear HB;clear HO343;have HB:=n0_;have HO346:=n1_;clear n0_ n1_;clear ho hb hg hat))
 go_ret
 exact ⟨_,by first|rfl|(simp [errW_none,errW_some]<;>rfl)|(simp [*,errW_none,errW_some]<;>rfl),by (with_reducible repeat (first|apply Z3|apply Z2|apply Kd.R_drew));exact HO346.out,by repeat (first|(with_reducible first|exact HB.out|apply Z5|apply Z1|apply Z4)|exact HB.out)⟩

set_option maxHeartbeats 8000000 in
set_option maxRecDepth 100000 in
theorem slices_Clone_int_int.calls (A0 : Option Addr) (c0 : Nat) (l0 : List Int) (r : List Int) (w : World) (hr0 : Kd.C (Kd.int .i64) w A0 l0.length l0) (hc0 : l0.length ≤ c0) (h : slices_Clone_int_int.f l0 = some r) :
 Calls Try.prog 25 #[.slice A0 l0.length c0] w fun e w' => ∃ v0_ : Value, e = .returned (v0_) ∧ Kd.R (Kd.int .i64) 3 w' w.heap.size (fun _ => True) v0_ r ∧ Below w.heap.size w w' := by
  cases A0 with
  | some ad=>exact slices_Clone_int_int.callsS ad c0 l0 r w hr0 hc0 h
  | none =>
    obtain rfl : l0 = [] := by
      obtain ⟨_,_,h3⟩:=hr0
      rcases Nat.eq_zero_or_pos l0.length with h0|h0
      · exact List.length_eq_zero_iff.1 h0
      · obtain ⟨_, h4, _⟩ := h3 h0
        cases h4
    obtain rfl : r = [] := by
      simp [slices_Clone_int_int.f] at h
      first|exact h|exact h.symm
    have hnil_:=fun w_ : World=>Lib.run_eql_slice_nil (P:=Try.prog) w_ 29 3 none 0 c0 0 0 Try.underlying29
    clear hr0 hc0 h
    go_enter Try.func25,Try.ntmps25
    go_wp2
    go_ret
    exact ⟨_,rfl,Kd.R_nil _ _ _ _ _,Zg _ _⟩

/-! ### impl_rounds: function 34 -/
def impl_rounds.f  : Option (List Int) := some (([1116352408, 1899447441, 3049323471, 3921009573, 961987163, 1508970993, 2453635748, 2870763221, 3624381080, 310598401, 607225278, 1426881987, 1925078388, 2162078206, 2614888103, 3248222580, 3835390401, 4022224774, 264347078, 604807628, 770255983, 1249150122, 1555081692, 1996064986, 2554220882, 2821834349, 2952996808, 3210313671, 3336571891, 3584528711, 113926993, 338241895, 666307205, 773529912, 1294757372, 1396182291, 1695183700, 1986661051, 2177026350, 2456956037, 2730485921, 2820302411, 3259730800, 3345764771, 3516065817, 3600352804, 4094571909, 275423344, 430227734, 506948616, 659060556, 883997877, 958139571, 1322822218, 1537002063, 1747873779, 1955562222, 2024104815, 2227730452, 2361852424, 2428436474, 2756734187, 3204031479, 3329325298] : List Int))
set_option maxHeartbeats 8000000 in
set_option maxRecDepth 100000 in
theorem impl_rounds.calls  (r : List Int) (w : World) (h : impl_rounds.f  = some r) :
 Calls Try.prog 34 #[] w fun e w' => ∃ v0_ : Value, e = .returned (v0_) ∧ Kd.R (Kd.int .u32) 46 w' w.heap.size (fun _ => True) v0_ r ∧ Below w.heap.size w w' := by
 have HB:=Z0 (Zg w.heap.size w)
 have H : (some (([1116352408,1899447441,3049323471,3921009573,961987163,1508970993,2453635748,2870763221,3624381080,310598401,607225278,1426881987,1925078388,2162078206,2614888103,3248222580,3835390401,4022224774,264347078,604807628,770255983,1249150122,1555081692,1996064986,2554220882,2821834349,2952996808,3210313671,3336571891,3584528711,113926993,338241895,666307205,773529912,1294757372,1396182291,1695183700,1986661051,2177026350,2456956037,2730485921,2820302411,3259730800,3345764771,3516065817,3600352804,4094571909,275423344,430227734,506948616,659060556,883997877,958139571,1322822218,1537002063,1747873779,1955562222,2024104815,2227730452,2361852424,2428436474,2756734187,3204031479,3329325298] : List Int))) = some r:=h
 clear h
 obtain ⟨y347,hy347⟩ : ∃ y_ : List Int,y_ = (([1116352408,1899447441,3049323471,3921009573,961987163,1508970993,2453635748,2870763221,3624381080,310598401,607225278,1426881987,1925078388,2162078206,2614888103,3248222580,3835390401,4022224774,264347078,604807628,770255983,1249150122,1555081692,1996064986,2554220882,2821834349,2952996808,3210313671,3336571891,3584528711,113926993,338241895,666307205,773529912,1294757372,1396182291,1695183700,1986661051,2177026350,2456956037,2730485921,2820302411,3259730800,3345764771,3516065817,3600352804,4094571909,275423344,430227734,506948616,659060556,883997877,958139571,1322822218,1537002063,1747873779,1955562222,2024104815,2227730452,2361852424,2428436474,2756734187,3204031479,3329325298] : List Int)):=⟨_,rfl⟩
 replace H : (some y347) = some r:=by first|(rw [hy347];with_reducible exact H)|(have H2_:=(Z9 _ _).symm.trans H;rw [hy347];with_reducible exact H2_)|(have H2_:=(Z9 _ _).symm.trans H;with_reducible exact H2_)|with_reducible exact H|(rw [hy347];exact H)|exact H
 have Ny347:=Z0 hy347
 clear hy347
 obtain rfl:=Option.some.inj H
 go_enter Try.func34,Try.ntmps34
 go_wp2_with (first|((with_reducible refine gate_dst (N:=1) rfl ?_);refine Kd.R_lit (Kd.int .u32) _ 46 ?hg (N:=1) ?hd (xs:=([1116352408,1899447441,3049323471,3921009573,961987163,1508970993,2453635748,2870763221,3624381080,310598401,607225278,1426881987,1925078388,2162078206,2614888103,3248222580,3835390401,4022224774,264347078,604807628,770255983,1249150122,1555081692,1996064986,2554220882,2821834349,2952996808,3210313671,3336571891,3584528711,113926993,338241895,666307205,773529912,1294757372,1396182291,1695183700,1986661051,2177026350,2456956037,2730485921,2820302411,3259730800,3345764771,3516065817,3600352804,4094571909,275423344,430227734,506948616,659060556,883997877,958139571,1322822218,1537002063,1747873779,1955562222,2024104815,2227730452,2361852424,2428436474,2756734187,3204031479,3329325298] : List Int)) (inner:=[.int .u32 1116352408,.int .u32 1899447441,.int .u32 3049323471,.int .u32 3921009573,.int .u32 961987163,.int .u32 1508970993,.int .u32 2453635748,.int .u32 2870763221,.int .u32 3624381080,.int .u32 310598401,.int .u32 607225278,.int .u32 1426881987,.int .u32 1925078388,.int .u32 2162078206,.int .u32 2614888103,.int .u32 3248222580,.int .u32 3835390401,.int .u32 4022224774,.int .u32 264347078,.int .u32 604807628,.int .u32 770255983,.int .u32 1249150122,.int .u32 1555081692,.int .u32 1996064986,.int .u32 2554220882,.int .u32 2821834349,.int .u32 2952996808,.int .u32 3210313671,.int .u32 3336571891,.int .u32 3584528711,.int .u32 113926993,.int .u32 338241895,.int .u32 666307205,.int .u32 773529912,.int .u32 1294757372,.int .u32 1396182291,.int .u32 1695183700,.int .u32 1986661051,.int .u32 2177026350,.int .u32 2456956037,.int .u32 2730485921,.int .u32 2820302411,.int .u32 3259730800,.int .u32 3345764771,.int .u32 3516065817,.int .u32 3600352804,.int .u32 4094571909,.int .u32 275423344,.int .u32 430227734,.int .u32 506948616,.int .u32 659060556,.int .u32 883997877,.int .u32 958139571,.int .u32 1322822218,.int .u32 1537002063,.int .u32 1747873779,.int .u32 1955562222,.int .u32 2024104815,.int .u32 2227730452,.int .u32 2361852424,.int .u32 2428436474,.int .u32 2756734187,.int .u32 3204031479,.int .u32 3329325298]) (ok:=fun _=>True) (okp:=fun _=>True) ?hr ?hp (fun _ hk=>hk) trivial (Zg _ _) (Zf _) (by simp) ?_;(case hd=>rfl);(case hg=>rfl);(case hr=>first|(go_simp;done)|(go_simp;rfl));(case hp=>exact (Z8 (show Kd.M (Kd.int .u32) _ _ _ 1116352408 [.int .u32 1116352408] from rfl) (Z8 (show Kd.M (Kd.int .u32) _ _ _ 1899447441 [.int .u32 1899447441] from rfl) (Z8 (show Kd.M (Kd.int .u32) _ _ _ 3049323471 [.int .u32 3049323471] from rfl) (Z8 (show Kd.M (Kd.int .u32) _ _ _ 3921009573 [.int .u32 3921009573] from rfl) (Z8 (show Kd.M (Kd.int .u32) _ _ _ 961987163 [.int .u32 961987163] from rfl) (Z8 (show Kd.M (Kd.int .u32) _ _ _ 1508970993 [.int .u32 1508970993] from rfl) (Z8 (show Kd.M (Kd.int .u32) _ _ _ 2453635748 [.int .u32 2453635748] from rfl) (Z8 (show Kd.M (Kd.int .u32) _ _ _ 2870763221 [.int .u32 2870763221] from rfl) (Z8 (show Kd.M (Kd.int .u32) _ _ _ 3624381080 [.int .u32 3624381080] from rfl) (Z8 (show Kd.M (Kd.int .u32) _ _ _ 310598401 [.int .u32 310598401] from rfl) (Z8 (show Kd.M (Kd.int .u32) _ _ _ 607225278 [.int .u32 607225278] from rfl) (Z8 (show Kd.M (Kd.int .u32) _ _ _ 1426881987 [.int .u32 1426881987] from rfl) (Z8 (show Kd.M (Kd.int .u32) _ _ _ 1925078388 [.int .u32 1925078388] from rfl) (Z8 (show Kd.M (Kd.int .u32) _ _ _ 2162078206 [.int .u32 2162078206] from rfl) (Z8 (show Kd.M (Kd.int .u32) _ _ _ 2614888103 [.int .u32 2614888103] from rfl) (Z8 (show Kd.M (Kd.int .u32) _ _ _ 3248222580 [.int .u32 3248222580] from rfl) (Z8 (show Kd.M (Kd.int .u32) _ _ _ 3835390401 [.int .u32 3835390401] from rfl) (Z8 (show Kd.M (Kd.int .u32) _ _ _ 4022224774 [.int .u32 4022224774] from rfl) (Z8 (show Kd.M (Kd.int .u32) _ _ _ 264347078 [.int .u32 264347078] from rfl) (Z8 (show Kd.M (Kd.int .u32) _ _ _ 604807628 [.int .u32 604807628] from rfl) (Z8 (show Kd.M (Kd.int .u32) _ _ _ 770255983 [.int .u32 770255983] from rfl) (Z8 (show Kd.M (Kd.int .u32) _ _ _ 1249150122 [.int .u32 1249150122] from rfl) (Z8 (show Kd.M (Kd.int .u32) _ _ _ 1555081692 [.int .u32 1555081692] from rfl) (Z8 (show Kd.M (Kd.int .u32) _ _ _ 1996064986 [.int .u32 1996064986] from rfl) (Z8 (show Kd.M (Kd.int .u32) _ _ _ 2554220882 [.int .u32 2554220882] from rfl) (Z8 (show Kd.M (Kd.int .u32) _ _ _ 2821834349 [.int .u32 2821834349] from rfl) (Z8 (show Kd.M (Kd.int .u32) _ _ _ 2952996808 [.int .u32 2952996808] from rfl) (Z8 (show Kd.M (Kd.int .u32) _ _ _ 3210313671 [.int .u32 3210313671] from rfl) (Z8 (show Kd.M (Kd.int .u32) _ _ _ 3336571891 [.int .u32 3336571891] from rfl) (Z8 (show Kd.M (Kd.int .u32) _ _ _ 3584528711 [.int .u32 3584528711] from rfl) (Z8 (show Kd.M (Kd.int .u32) _ _ _ 113926993 [.int .u32 113926993] from rfl) (Z8 (show Kd.M (Kd.int .u32) _ _ _ 338241895 [.int .u32 338241895] from rfl) (Z8 (show Kd.M (Kd.int .u32) _ _ _ 666307205 [.int .u32 666307205] from rfl) (Z8 (show Kd.M (Kd.int .u32) _ _ _ 773529912 [.int .u32 773529912] from rfl) (Z8 (show Kd.M (Kd.int .u32) _ _ _ 1294757372 [.int .u32 1294757372] from rfl) (Z8 (show Kd.M (Kd.int .u32) _ _ _ 1396182291 [.int .u32 1396182291] from rfl) (Z8 (show Kd.M (Kd.int .u32) _ _ _ 1695183700 [.int .u32 1695183700] from rfl) (Z8 (show Kd.M (Kd.int .u32) _ _ _ 1986661051 [.int .u32 1986661051] from rfl) (Z8 (show Kd.M (Kd.int .u32) _ _ _ 2177026350 [.int .u32 2177026350] from rfl) (Z8 (show Kd.M (Kd.int .u32) _ _ _ 2456956037 [.int .u32 2456956037] from rfl) (Z8 (show Kd.M (Kd.int .u32) _ _ _ 2730485921 [.int .u32 2730485921] from rfl) (Z8 (show Kd.M (Kd.int .u32) _ _ _ 2820302411 [.int .u32 2820302411] from rfl) (Z8 (show Kd.M (Kd.int .u32) _ _ _ 3259730800 [.int .u32 3259730800] from rfl) (Z8 (show Kd.M (Kd.int .u32) _ _ _ 3345764771 [.int .u32 3345764771] from rfl) (Z8 (show Kd.M (Kd.int .u32) _ _ _ 3516065817 [.int .u32 3516065817] from rfl) (Z8 (show Kd.M (Kd.int .u32) _ _ _ 3600352804 [.int .u32 3600352804] from rfl) (Z8 (show Kd.M (Kd.int .u32) _ _ _ 4094571909 [.int .u32 4094571909] from rfl) (Z8 (show Kd.M (Kd.int .u32) _ _ _ 275423344 [.int .u32 275423344] from rfl) (Z8 (show Kd.M (Kd.int .u32) _ _ _ 430227734 [.int .u32 430227734] from rfl) (Z8 (show Kd.M (Kd.int .u32) _ _ _ 506948616 [.int .u32 506948616] from rfl) (Z8 (show Kd.M (Kd.int .u32) _ _ _ 659060556 [.int .u32 659060556] from rfl) (Z8 (show Kd.M (Kd.int .u32) _ _ _ 883997877 [.int .u32 883997877] from rfl) (Z8 (show Kd.M (Kd.int .u32) _ _ _ 958139571 [.int .u32 958139571] from rfl) (Z8 (show Kd.M (Kd.int .u32) _ _ _ 1322822218 [.int .u32 1322822218] from rfl) (Z8 (show Kd.M (Kd.int .u32) _ _ _ 1537002063 [.int .u32 1537002063] from rfl) (Z8 (show Kd.M (Kd.int .u32) _ _ _ 1747873779 [.int .u32 1747873779] from rfl) (Z8 (show Kd.M (Kd.int .u32) _ _ _ 1955562222 [.int .u32 1955562222] from rfl) (Z8 (show Kd.M (Kd.int .u32) _ _ _ 2024104815 [.int .u32 2024104815] from rfl) (Z8 (show Kd.M (Kd.int .u32) _ _ _ 2227730452 [.int .u32 2227730452] from rfl) (Z8 (show Kd.M (Kd.int .u32) _ _ _ 2361852424 [.int .u32 2361852424] from rfl) (Z8 (show Kd.M (Kd.int .u32) _ _ _ 2428436474 [.int .u32 2428436474] from rfl) (Z8 (show Kd.M (Kd.int .u32) _ _ _ 2756734187 [.int .u32 2756734187] from rfl) (Z8 (show Kd.M (Kd.int .u32) _ _ _ 3204031479 [.int .u32 3204031479] from rfl) (Z8 (show Kd.M (Kd.int .u32) _ _ _ 3329325298 [.int .u32 3329325298] from rfl) (Reps.none _ _))))))))))))))))))))))))))))))))))))))))))))))))))))))))))))))))));intro v348 w1 ho2 hb hg_ hnew_;clear hg_ hnew_;(first|rw [← Ny347.out] at ho2|(simp only [Int.reduceToNat] at ho2;rw [← Ny347.out] at ho2));have n0_:=Z0 (Kd.R_lower ho2 (Z6 (by repeat (first|(with_reducible first|exact HB.out|apply Z5|apply Z1|apply Z4)|exact HB.out))));have n1_:=Z0 (below_step (by repeat (first|(with_reducible first|exact HB.out|apply Z5|apply Z1|apply Z4)|exact HB.out)) hb);clear HB;have HO349:=n0_;have HB:=n1_;clear n0_ n1_;clear hb ho2))
 go_ret
 exact ⟨_,by first|rfl|(simp [errW_none,errW_some]<;>rfl)|(simp [*,errW_none,errW_some]<;>rfl),by (with_reducible repeat (first|apply Z3|apply Z2|apply Kd.R_drew));exact HO349.out,by repeat (first|(with_reducible first|exact HB.out|apply Z5|apply Z1|apply Z4)|exact HB.out)⟩

/-! ### impl_rot: function 36 -/
def impl_rot.f (a0 : Int) (a1 : Int) : Option (Int) := if 0 ≤ a1 then (if 0 ≤ (wrap64 (32 - a1)) then (some (Go.bits .or .u32 (shr .u32 a0 a1) (shl .u32 a0 (wrap64 (32 - a1))))) else (none)) else (none)
set_option maxHeartbeats 8000000 in
set_option maxRecDepth 100000 in
theorem impl_rot.calls (a0 : Int) (a1 : Int) (r : Int) (w : World) (h : impl_rot.f a0 a1 = some r) :
 Calls Try.prog 36 #[.int .u32 a0, .int .i64 a1] w fun e w' => e = .returned (.int .u32 r) ∧ Drawn0 w w' := by
 have H : (if 0 ≤ a1 then (if 0 ≤ (wrap64 (32 - a1)) then (some (Go.bits .or .u32 (shr .u32 a0 a1) (shl .u32 a0 (wrap64 (32 - a1))))) else (none)) else (none)) = some r:=h
 clear h
 by_cases c3 : 0 ≤ a1
 case neg =>
  rw [if_neg c3] at H
  exact absurd H (by simp)
 rw [if_pos c3] at H
 have c3b0:=eq_true c3
 have c3b1 : decide (0 ≤ a1) = true:=decide_eq_true c3
 clear c3
 obtain ⟨ji4,hji4⟩ : ∃ j_ : Int,(shr .u32 a0 a1) = j_:=⟨_,rfl⟩
 replace H : (if 0 ≤ (wrap64 (32 - a1)) then (some (Go.bits .or .u32 (ji4) (shl .u32 a0 (wrap64 (32 - a1))))) else (none)) = some r:=by first|(rw [hji4] at H;exact H)|(simp only [hji4] at H ⊢;exact H)
 have hji4_ : (a0 / 2 ^ min a1.toNat 32) = ji4:=hji4
 have hji4z : a1 ≤ 32 → (a0 / 2 ^ a1.toNat) = ji4:=shr_small hji4
 obtain ⟨ji5,hji5⟩ : ∃ j_ : Int,(wrap64 (32 - a1)) = j_:=⟨_,rfl⟩
 replace H : (if 0 ≤ (ji5) then (some (Go.bits .or .u32 (ji4) (shl .u32 a0 (ji5)))) else (none)) = some r:=by first|(rw [hji5] at H;exact H)|(simp only [hji5] at H ⊢;exact H)
 have hji5w : (IntKind.i64.wrap (32 - a1)) = ji5:=(i64_w _).trans hji5
 by_cases c6 : 0 ≤ (ji5)
 case neg =>
  rw [if_neg c6] at H
  exact absurd H (by simp)
 rw [if_pos c6] at H
 have c6b0:=eq_true c6
 have c6b1 : decide (0 ≤ (ji5)) = true:=decide_eq_true c6
 clear c6
 obtain ⟨ji7,hji7⟩ : ∃ j_ : Int,(shl .u32 a0 (ji5)) = j_:=⟨_,rfl⟩
 replace H : (some (Go.bits .or .u32 (ji4) (ji7))) = some r:=by first|(rw [hji7] at H;exact H)|(simp only [hji7] at H ⊢;exact H)
 have hji7_ : (IntKind.u32.wrap (a0 * 2 ^ min (ji5).toNat 32)) = ji7:=hji7
 have hji7z : (ji5) ≤ 32 → (IntKind.u32.wrap (a0 * 2 ^ (ji5).toNat)) = ji7:=shl_small hji7
 obtain rfl:=Option.some.inj H
 go_enter Try.func36,Try.ntmps36
 go_wp2
 repeat (go_quiet (fail);try go_wp2)
 go_ret
 exact ⟨by first|rfl|(simp;done)|(simp only [← hji4,← hji5,← hji7]<;>(first|rfl|simp))|(simp [*];done),by repeat (first|exact Drawn0.refl _|apply Drawn0.step)⟩

end Go.Proofs.Ytpkfmjdmfphbaag.QFnExactMac
