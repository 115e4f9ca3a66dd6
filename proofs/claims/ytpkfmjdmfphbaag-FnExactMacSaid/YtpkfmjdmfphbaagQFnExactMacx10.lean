/- Plain functions with the same answers as the program's, and the proofs that they are. Printed by a program of this session (wip/myprint.py) out of Lean's print of the loaded program. Conditions: those in each theorem's head. -/
import Derived.Test.YtpkfmjdmfphbaagQFnExactMacx0
import Derived.Test.YtpkfmjdmfphbaagQFnExactMacx6
import Derived.Test.YtpkfmjdmfphbaagQFnExactMacx8
namespace Go.Proofs.Ytpkfmjdmfphbaag.QFnExactMac
open Go.RowKit Go.Proofs.Ytpkfmjdmfphbaag.Given Go.Proofs.YtpkfmjdmfphbaagW.PrintWords Go.Proofs.YtpkfmjdmfphbaagW.PrintLast Go.Proofs.YtpkfmjdmfphbaagW.PrintMore
open Go.Proofs.YtpkfmjdmfphbaagW.PrintWords.Aside0 renaming mk → Z0
open Go.Proofs.YtpkfmjdmfphbaagW.PrintWords renaming pw_below_drewN → Z1, below_drew1 → Z5, below_alloc → Z6, below_set → Z7, blk_drewN → Z8, blk_alloc → Z9, blk_drew → Za, below_size → Zb, blk_cell → Ze, below_step → Zf, blk_frozen → Zg
open Go.Proofs.YtpkfmjdmfphbaagW.PrintWords.Kd renaming R_drewN → Z2, R_alloc → Z3, R_drew → Z4, C_drewN → Zc, C_alloc → Zd, R_mono → Zh, C_below → Zi
open List renaming setIfInBounds_toArray → Zj, set_cons_zero → Zk, set_cons_succ → Zl, length_drop → Zn, length_take → Zo, map_toArray → Zp, map_cons → Zq, map_nil → Zr
open Option renaming bind_some → Zm
open Nat renaming le_refl → Zs
attribute [local go_sem] max2_int min2_int max_two min_two max_three min_three max_four min_four   -- for this text's walks alone
set_option linter.unusedVariables false
set_option linter.unusedSimpArgs false

/-! ### impl_SumAdd: function 18 -/
mutual
def impl_SumAdd.j0 : Nat → List Int → Bool → List Int → Int → List Int → Option (List Int × Int × List Int)
 | 0, _, _, _, _, _ => none
 | k + 1, x1, x26, x468000, x468001, x468002 => if x26 = true then (some (x468000, x468001, x468002)) else (if x468002.length + x1.length < 140737488355328 then (impl_SumAdd.l0 k (x468002 ++ x1) x468000 (wrap64 (x468001 + (x1.length : Int)))) else (none))
def impl_SumAdd.l0 : Nat → List Int → List Int → Int → Option (List Int × Int × List Int)
 | 0, _, _, _ => none
 | k + 1, x6, x468000, x468001 => if (x6.length : Int) ≥ 64 then (if 64 ≤ (x6.length : Int) then ((impl_turned.f k x468000 (x6.take 64)).bind fun t476 => (impl_SumAdd.j2 k x6 t476 x468001)) else (none)) else ((slices_Clone_byte_byte.f x6).bind fun t482 => (some (x468000, x468001, t482)))
def impl_SumAdd.j2 : Nat → List Int → List Int → Int → Option (List Int × Int × List Int)
 | 0, _, _, _ => none
 | k + 1, x6, x468000, x468001 => if 64 ≤ (x6.length : Int) then (impl_SumAdd.l0 k (x6.drop (64 : Int).toNat) x468000 x468001) else (none)
end
def impl_SumAdd.f (k : Nat) (l0_0 : List Int) (a0_1 : Int) (l0_2 : List Int) (l1 : List Int) : Option (List Int × Int × List Int) := (slices_Clone_int_int.f l0_0).bind fun t461 => ((slices_Clone_byte_byte.f l0_2).bind fun t464 => ((impl_SumOk.f k l0_0 a0_1 l0_2).bind fun t468 => (if t468 = true then (impl_SumAdd.j0 k l1 (decide ((l1.length : Int) > (wrap64 (2147483647 - a0_1)))) t461 a0_1 t464) else (impl_SumAdd.j0 k l1 true t461 a0_1 t464))))
theorem impl_SumAdd.mono_l : ∀ k, (∀ y0 y1 y2 y3 y4, LeO (impl_SumAdd.j0 k y0 y1 y2 y3 y4) (impl_SumAdd.j0 (k + 1) y0 y1 y2 y3 y4)) ∧ (∀ y0 y1 y2, LeO (impl_SumAdd.l0 k y0 y1 y2) (impl_SumAdd.l0 (k + 1) y0 y1 y2)) ∧ (∀ y0 y1 y2, LeO (impl_SumAdd.j2 k y0 y1 y2) (impl_SumAdd.j2 (k + 1) y0 y1 y2))
 | 0 => ⟨fun _ _ _ _ _ r h => by simp [impl_SumAdd.j0] at h, fun _ _ _ r h => by simp [impl_SumAdd.l0] at h, fun _ _ _ r h => by simp [impl_SumAdd.j2] at h⟩
 | k + 1 => by
  obtain ⟨ih0,ih1,ih2⟩:=impl_SumAdd.mono_l k
  refine ⟨?_,?_,?_⟩
  · intro y0 y1 y2 y3 y4
    unfold impl_SumAdd.j0
    repeat' first
    | (with_reducible exact ih0 _ _ _ _ _)
    | (with_reducible exact ih1 _ _ _)
    | (with_reducible exact ih2 _ _ _)
    | (with_reducible exact impl_SumOk.mono _ _ _ _)
    | (with_reducible exact impl_turned.mono _ _ _)
    | (with_reducible exact LeO.refl _)
    | (with_reducible exact LeO.none _)
    | (with_reducible refine LeO.ite ?_ ?_)
    | (with_reducible refine LeO.bind ?_ (fun _=>?_))
    | exact ih0 _ _ _ _ _
    | exact ih1 _ _ _
    | exact ih2 _ _ _
    | exact impl_SumOk.mono _ _ _ _
    | exact impl_turned.mono _ _ _
    | exact LeO.none _
    | refine LeO.ite ?_ ?_
    | refine LeO.bind ?_ (fun _=>?_)
  · intro y0 y1 y2
    unfold impl_SumAdd.l0
    repeat' first
    | (with_reducible exact ih0 _ _ _ _ _)
    | (with_reducible exact ih1 _ _ _)
    | (with_reducible exact ih2 _ _ _)
    | (with_reducible exact impl_SumOk.mono _ _ _ _)
    | (with_reducible exact impl_turned.mono _ _ _)
    | (with_reducible exact LeO.refl _)
    | (with_reducible exact LeO.none _)
    | (with_reducible refine LeO.ite ?_ ?_)
    | (with_reducible refine LeO.bind ?_ (fun _=>?_))
    | exact ih0 _ _ _ _ _
    | exact ih1 _ _ _
    | exact ih2 _ _ _
    | exact impl_SumOk.mono _ _ _ _
    | exact impl_turned.mono _ _ _
    | exact LeO.none _
    | refine LeO.ite ?_ ?_
    | refine LeO.bind ?_ (fun _=>?_)
  · intro y0 y1 y2
    unfold impl_SumAdd.j2
    repeat' first
    | (with_reducible exact ih0 _ _ _ _ _)
    | (with_reducible exact ih1 _ _ _)
    | (with_reducible exact ih2 _ _ _)
    | (with_reducible exact impl_SumOk.mono _ _ _ _)
    | (with_reducible exact impl_turned.mono _ _ _)
    | (with_reducible exact LeO.refl _)
    | (with_reducible exact LeO.none _)
    | (with_reducible refine LeO.ite ?_ ?_)
    | (with_reducible refine LeO.bind ?_ (fun _=>?_))
    | exact ih0 _ _ _ _ _
    | exact ih1 _ _ _
    | exact ih2 _ _ _
    | exact impl_SumOk.mono _ _ _ _
    | exact impl_turned.mono _ _ _
    | exact LeO.none _
    | refine LeO.ite ?_ ?_
    | refine LeO.bind ?_ (fun _=>?_)
theorem impl_SumAdd.mono : ∀ a0 a1 a2 a3 k, LeO (impl_SumAdd.f k a0 a1 a2 a3) (impl_SumAdd.f (k + 1) a0 a1 a2 a3) := by
 intro a0 a1 a2 a3 k
 obtain ⟨ih0,ih1,ih2⟩:=impl_SumAdd.mono_l k
 unfold impl_SumAdd.f
 repeat' first
  | (with_reducible exact ih0 _ _ _ _ _)
  | (with_reducible exact ih1 _ _ _)
  | (with_reducible exact ih2 _ _ _)
  | (with_reducible exact impl_SumOk.mono _ _ _ _)
  | (with_reducible exact impl_turned.mono _ _ _)
  | (with_reducible exact LeO.refl _)
  | (with_reducible exact LeO.none _)
  | (with_reducible refine LeO.ite ?_ ?_)
  | (with_reducible refine LeO.bind ?_ (fun _=>?_))
  | exact ih0 _ _ _ _ _
  | exact ih1 _ _ _
  | exact ih2 _ _ _
  | exact impl_SumOk.mono _ _ _ _
  | exact impl_turned.mono _ _ _
  | exact LeO.none _
  | refine LeO.ite ?_ ?_
  | refine LeO.bind ?_ (fun _=>?_)
def impl_SumAdd.T1 : Bool × List (List Nat × List Nat) := (true, [([], []), ([0], [0]), ([1], [1]), ([], []), ([3], [3]), ([], []), ([5], [5]), ([6, 2], [6]), ([2, 4, 7], [2, 4, 7]), ([], []), ([9, 8, 7, 0, 1, 2, 3, 4, 5, 6, 7, 8, 9], [8, 9])])
def impl_SumAdd.B1 : List Nat := [0, 1, 3, 0, 8, 0, 32, 103, 255, 0, 1023]
theorem impl_SumAdd.tab1 : rtab .any (opsOf Try.f18 1) = impl_SumAdd.T1 := by kernel_rfl
theorem impl_SumAdd.bits1 : waitsOk impl_SumAdd.T1.2 impl_SumAdd.B1 = true := by kernel_rfl
set_option maxHeartbeats 8000000 in
set_option maxRecDepth 100000 in
theorem impl_SumAdd.calls (k : Nat) (A0_0 : Option Addr) (c0_0 : Nat) (l0_0 : List Int) (a0_1 : Int) (A0_2 : Option Addr) (c0_2 : Nat) (l0_2 : List Int) (A1 : Option Addr) (c1 : Nat) (l1 : List Int) (r1 : List Int) (r2 : Int) (r3 : List Int) (w : World) (hr0_0 : Kd.C (Kd.int .i64) w A0_0 l0_0.length l0_0) (hc0_0 : l0_0.length ≤ c0_0) (hr0_2 : Kd.C (Kd.int .u8) w A0_2 l0_2.length l0_2) (hc0_2 : l0_2.length ≤ c0_2) (hr1 : Kd.C (Kd.int .u8) w A1 l1.length l1) (hc1 : l1.length ≤ c1) (h : impl_SumAdd.f k l0_0 a0_1 l0_2 l1 = some (r1, r2, r3)) :
 Calls Try.prog 18 #[.agg #[.slice A0_0 l0_0.length c0_0, .int .i64 a0_1, .slice A0_2 l0_2.length c0_2], .slice A1 l1.length c1] w fun e w' => ∃ v0_ v2_ : Value, e = .returned (.agg #[v0_, .int .i64 r2, v2_]) ∧ Kd.R (Kd.int .i64) 3 w' w.heap.size (fun _ => True) v0_ r1 ∧ Kd.R (Kd.int .u8) 5 w' w.heap.size (fun _ => True) v2_ r3 ∧ Below w.heap.size w w' := by
 have hu31:=Try.underlying31
 have HR0_0:=Z0 hr0_0
 have HC0_0:=Z0 hc0_0
 clear hr0_0 hc0_0
 have HR0_2:=Z0 hr0_2
 have HC0_2:=Z0 hc0_2
 clear hr0_2 hc0_2
 have HR1:=Z0 hr1
 have HC1:=Z0 hc1
 clear hr1 hc1
 have HB:=Z0 (Below.refl w.heap.size w)
 have H : ((slices_Clone_int_int.f l0_0).bind fun t461=>((slices_Clone_byte_byte.f l0_2).bind fun t464=>((impl_SumOk.f k l0_0 a0_1 l0_2).bind fun t468=>(if t468 = true then (impl_SumAdd.j0 k l1 (decide ((l1.length : Int) > (wrap64 (2147483647 - a0_1)))) t461 a0_1 t464) else (impl_SumAdd.j0 k l1 true t461 a0_1 t464))))) = some (r1,r2,r3):=h
 clear h
 replace H:=Option.bind_eq_some_iff.mp H
 obtain ⟨t461,A30,H⟩:=H
 replace H : ((slices_Clone_byte_byte.f l0_2).bind fun t464=>((impl_SumOk.f k l0_0 a0_1 l0_2).bind fun t468=>(if t468 = true then (impl_SumAdd.j0 k l1 (decide ((l1.length : Int) > (wrap64 (2147483647 - a0_1)))) t461 a0_1 t464) else (impl_SumAdd.j0 k l1 true t461 a0_1 t464)))) = some (r1,r2,r3):=H
 have A3:=Z0 A30
 clear A30
 replace H:=Option.bind_eq_some_iff.mp H
 obtain ⟨t464,A40,H⟩:=H
 replace H : ((impl_SumOk.f k l0_0 a0_1 l0_2).bind fun t468=>(if t468 = true then (impl_SumAdd.j0 k l1 (decide ((l1.length : Int) > (wrap64 (2147483647 - a0_1)))) t461 a0_1 t464) else (impl_SumAdd.j0 k l1 true t461 a0_1 t464))) = some (r1,r2,r3):=H
 have A4:=Z0 A40
 clear A40
 have HC5:=Z0 H
 clear H
 go_enter Try.func18,Try.ntmps18
 try go_wp2_with (first|((with_reducible refine gate_dst (N:=2) rfl ?_);(try (refine gate_guard (by rfl) ?_;dsimp only));refine box_event ?hg (N:=2) ?hd (cs:=#[.slice A0_0 l0_0.length c0_0,.int .i64 a0_1,.slice A0_2 l0_2.length c0_2]) (t:=31) ?hr ?_;(case hd=>rfl);(case hg=>rfl);(case hr=>first|(go_simp;done)|(go_simp;rfl));intro gb459 hg w6 hbox hb;have n0_:=Z0 (Zf (by repeat (first|(with_reducible first|exact HB.out|apply Z6|apply Z1|apply Z5)|exact HB.out)) hb);have n1_:=Z0 (hbox);have n2_:=Z0 ((by rw [hg];exact (Zb (by repeat (first|(with_reducible first|exact HB.out|apply Z6|apply Z1|apply Z5)|exact HB.out))) : w.heap.size ≤ gb459));have n3_:=Z0 ((by rw [hg];exact (Zb (by repeat (first|(with_reducible first|exact HB.out|apply Z6|apply Z1|apply Z5)|exact HB.out))) : w.heap.size ≤ gb459));clear HB;have HB:=n0_;have BK459:=n1_;have GW459:=n2_;have GE459:=n3_;clear n0_ n1_ n2_ n3_;clear hb hbox hg)|((with_reducible refine gate_dst (N:=4) rfl ?_);(try (refine gate_guard (by rfl) ?_;dsimp only));refine box_event ?hg (N:=4) ?hd (cs:=#[.slice none 0 0,.int .i64 0,.slice none 0 0]) (t:=31) ?hr ?_;(case hd=>rfl);(case hg=>rfl);(case hr=>first|(go_simp;done)|(go_simp;rfl));intro gb460 hg w7 hbox hb;have n0_:=Z0 (blk_below (g:=gb459) (o:=.cells #[.slice A0_0 l0_0.length c0_0,.int .i64 a0_1,.slice A0_2 l0_2.length c0_2] 31 (0,0)) (by (with_reducible repeat (first|refine Z8 ?_ _|refine Za ?_|refine Z9 ?_ _));exact BK459.out) hb);have n1_:=Z0 (Zf (by repeat (first|(with_reducible first|exact HB.out|apply Z6|apply Z1|apply Z5|refine Z7 ?_ GE459.out)|exact HB.out)) hb);have n2_:=Z0 (hbox);have n3_:=Z0 ((by rw [hg];exact (Zb (by repeat (first|(with_reducible first|exact HB.out|apply Z6|apply Z1|apply Z5|refine Z7 ?_ GE459.out)|exact HB.out))) : w.heap.size ≤ gb460));have n4_:=Z0 ((by rw [hg];exact (Zb (by repeat (first|(with_reducible first|exact HB.out|apply Z6|apply Z1|apply Z5|refine Z7 ?_ GE459.out)|exact HB.out))) : w.heap.size ≤ gb460));have n5_:=Z0 ((by rw [hg];exact Nat.ne_of_lt (blk_lt (g:=gb459) (o:=.cells #[.slice A0_0 l0_0.length c0_0,.int .i64 a0_1,.slice A0_2 l0_2.length c0_2] 31 (0,0)) (by (with_reducible repeat (first|refine Z8 ?_ _|refine Za ?_|refine Z9 ?_ _));exact BK459.out)) : gb459 ≠ gb460));have n6_:=Z0 ((by rw [hg];exact Nat.ne_of_gt (blk_lt (g:=gb459) (o:=.cells #[.slice A0_0 l0_0.length c0_0,.int .i64 a0_1,.slice A0_2 l0_2.length c0_2] 31 (0,0)) (by (with_reducible repeat (first|refine Z8 ?_ _|refine Za ?_|refine Z9 ?_ _));exact BK459.out)) : gb460 ≠ gb459));clear BK459;clear HB;have BK459:=n0_;have HB:=n1_;have BK460:=n2_;have GW460:=n3_;have GE460:=n4_;have NB459_460:=n5_;have NB460_459:=n6_;clear n0_ n1_ n2_ n3_ n4_ n5_ n6_;clear hb hbox hg))
 have n0_:=Z0 (Za BK459.out)
 have n1_:=Z0 (Za BK460.out)
 have n2_:=Z0 (Z5 HB.out)
 clear BK459
 clear BK460
 clear HB
 have BK459:=n0_
 have BK460:=n1_
 have HB:=n2_
 clear n0_ n1_ n2_
 refine start_ (n:=11) (S:=fun w'=>w'.cell? ⟨gb459,0,none⟩ = some (.slice A0_0 l0_0.length c0_0) ∧ w'.cell? ⟨gb459,1,none⟩ = some (.int .i64 a0_1) ∧ w'.cell? ⟨gb459,2,none⟩ = some (.slice A0_2 l0_2.length c0_2)) (ds:=[]) #[false,false,false,false,false,false,false,false,false,false,false] (by kernel_rfl) rfl rfl ⟨(Ze BK459.out 0).trans rfl,(Ze BK459.out 1).trans rfl,(Ze BK459.out 2).trans rfl⟩ (fun hHeld=>?_);refine with_tabW impl_SumAdd.tab1 impl_SumAdd.bits1 (fun HT_ HW_=>?_)
 generalize w7.drew = w8 at BK459 BK460 HB hHeld ⊢
 refine pure_ (i:=0) (N:=some 7) (v:=?_) (a':=?_) #[true,false,false,false,false,false,false,false,false,false,false] rfl rfl (any_of HT_.out (by kernel_rfl)) (fun _ _ _ h=>h) (Or.inl ⟨by rfl,?_⟩) ?_ ?_
 rotate_left
 · intro w'
   go_simp
   with_reducible rfl
 rotate_left
 · simp only [Act.put, Zj, Zk, Zl, i64_w, i32_w]
   rfl
 refine pure_ (i:=3) (N:=some 10) (v:=?_) (a':=?_) #[true,false,false,true,false,false,false,false,false,false,false] rfl rfl (any_of HT_.out (by kernel_rfl)) (fun _ _ _ h=>h) (Or.inl ⟨by rfl,?_⟩) ?_ ?_
 rotate_left
 · intro w'
   go_simp
   with_reducible rfl
 rotate_left
 · simp only [Act.put, Zj, Zk, Zl, i64_w, i32_w]
   rfl
 refine pure_ (i:=5) (N:=some 12) (v:=?_) (a':=?_) #[true,false,false,true,false,true,false,false,false,false,false] rfl rfl (any_of HT_.out (by kernel_rfl)) (fun _ _ _ h=>h) (Or.inl ⟨by rfl,?_⟩) ?_ ?_
 rotate_left
 · intro w'
   go_simp
   with_reducible rfl
 rotate_left
 · simp only [Act.put, Zj, Zk, Zl, i64_w, i32_w]
   rfl
 refine take_ (i:=1) (N:=some 8) (v:=?_) (a':=?_) #[true,true,false,true,false,true,false,false,false,false,false] rfl rfl (take_ofW HT_.out HW_.out (by kernel_rfl)) (fun _ _ _ h=>h) (Or.inl ⟨by rfl,?_⟩) hHeld ?_ ?_
 rotate_left
 · rintro w' ⟨s0, s1, s2⟩
   go_simp
   with_reducible rfl
 rotate_left
 · simp only [Act.put, Zj, Zk, Zl, i64_w, i32_w]
   rfl
 refine take_ (i:=4) (N:=some 11) (v:=?_) (a':=?_) #[true,true,false,true,true,true,false,false,false,false,false] rfl rfl (take_ofW HT_.out HW_.out (by kernel_rfl)) (fun _ _ _ h=>h) (Or.inl ⟨by rfl,?_⟩) hHeld ?_ ?_
 rotate_left
 · rintro w' ⟨s0, s1, s2⟩
   go_simp
   with_reducible rfl
 rotate_left
 · simp only [Act.put, Zj, Zk, Zl, i64_w, i32_w]
   rfl
 refine take_ (i:=6) (N:=some 13) (v:=?_) (a':=?_) #[true,true,false,true,true,true,true,false,false,false,false] rfl rfl (take_ofW HT_.out HW_.out (by kernel_rfl)) (fun _ _ _ h=>h) (Or.inl ⟨by rfl,?_⟩) hHeld ?_ ?_
 rotate_left
 · rintro w' ⟨s0, s1, s2⟩
   go_simp
   with_reducible rfl
 rotate_left
 · simp only [Act.put, Zj, Zk, Zl, i64_w, i32_w]
   rfl
 refine join_ (σ:=Value × Value × Nat) 1 #[true,true,true,true,true,true,true,true,true,true,false] (fun s_=>[(9,s_.1),(14,s_.2.1),(5,.pointer (some ⟨s_.2.2,0,none⟩)),(15,.agg #[s_.1,.int .i64 a0_1,s_.2.1])]) (fun s_ w'=>(w'.cell? ⟨gb459,0,none⟩ = some (.slice A0_0 l0_0.length c0_0) ∧ w'.cell? ⟨gb459,1,none⟩ = some (.int .i64 a0_1) ∧ w'.cell? ⟨gb459,2,none⟩ = some (.slice A0_2 l0_2.length c0_2)) ∧ (Kd.R (Kd.int .i64) 3 w' w.heap.size (fun _=>True) s_.1 t461) ∧ (Kd.R (Kd.int .u8) 5 w' w.heap.size (fun _=>True) s_.2.1 t464) ∧ (w'.heap[gb459]? = some (.cells #[.slice A0_0 l0_0.length c0_0,.int .i64 a0_1,.slice A0_2 l0_2.length c0_2] 31 (0,0))) ∧ (w'.heap[gb460]? = some (.cells #[.slice none 0 0,.int .i64 0,.slice none 0 0] 31 (0,0))) ∧ (w'.heap[s_.2.2]? = some (.cells #[.slice none 0 0,.int .i64 0,.slice none 0 0] 31 (0,0))) ∧ (w.heap.size ≤ s_.2.2) ∧ (w.heap.size ≤ s_.2.2) ∧ (gb459 ≠ s_.2.2) ∧ (s_.2.2 ≠ gb459) ∧ (gb460 ≠ s_.2.2) ∧ (s_.2.2 ≠ gb460) ∧ (Below w.heap.size w w')) ?_ ?_
 rotate_left
 · intro hCont
   refine two_ (i:=2) (j:=9) (Ni:=some 9) (Nj:=some 5) #[true,true,true,true,true,true,true,false,false,false,false] #[true,true,false,true,true,true,true,false,false,true,false] rfl rfl rfl rfl (two_of HT_.out (by kernel_rfl)) (by decide) (by decide) (fun K hK=>?_) (fun K hK=>?_)
   · skip
     refine goes_ Try.func25 (by kernel_rfl) rfl #[.slice A0_0 l0_0.length c0_0] (by rfl) rfl rfl (by (try simp only [Zp,Zq,Zr]);first|done|rfl|(simp only [Zn,Zo];rfl)) ?_
     with_reducible refine (slices_Clone_int_int.calls _ _ l0_0 t461 _ ?side1 ?side2 A3.out).mono ?_
     (case side1=>repeat (first|exact (Zi HR0_0.out HB.out)|(with_reducible refine Zd ?_ _)|(with_reducible refine Zc ?_ _)|(with_reducible refine Kd.C_drew ?_)))
     (case side2=>exact HC0_0.out)
     rintro e w9 ⟨v462,rfl,ho0,hb⟩
     refine ⟨_,rfl,?_⟩
     have n0_:=Z0 (Kd.R_lower ho0 (Zb (by repeat (first|(with_reducible first|exact HB.out|apply Z6|apply Z1|apply Z5|refine Z7 ?_ GE459.out|refine Z7 ?_ GE460.out)|exact HB.out))))
     have n1_:=Z0 (blk_below (g:=gb459) (o:=.cells #[.slice A0_0 l0_0.length c0_0,.int .i64 a0_1,.slice A0_2 l0_2.length c0_2] 31 (0,0)) (by (with_reducible repeat (first|refine Z8 ?_ _|refine Za ?_|refine Z9 ?_ _));exact BK459.out) hb)
     have n2_:=Z0 (blk_below (g:=gb460) (o:=.cells #[.slice none 0 0,.int .i64 0,.slice none 0 0] 31 (0,0)) (by (with_reducible repeat (first|refine Z8 ?_ _|refine Za ?_|refine Z9 ?_ _));exact BK460.out) hb)
     have n3_:=Z0 (Zf (by repeat (first|(with_reducible first|exact HB.out|apply Z6|apply Z1|apply Z5|refine Z7 ?_ GE459.out|refine Z7 ?_ GE460.out)|exact HB.out)) hb)
     clear BK459
     clear BK460
     clear HB
     have HO463:=n0_
     have BK459:=n1_
     have BK460:=n2_
     have HB:=n3_
     clear n0_ n1_ n2_ n3_
     (try clear hb)
     (try clear hb2)
     (try clear hk)
     (try clear hi)
     (try clear ho0)
     refine hK.out _ _ ⟨(Ze BK459.out 0).trans rfl,(Ze BK459.out 1).trans rfl,(Ze BK459.out 2).trans rfl⟩ (fun hHeld=>?_)
     clear hK K
     refine norm_ (a':=?_) ?_ ?_
     rotate_left
     · show Act.put _ (some 9) _ = _
       simp only [Act.put,Zj,Zk,Zl,i64_w,i32_w]
       rfl
     refine two_ (i:=7) (j:=9) (Ni:=some 14) (Nj:=some 5) #[true,true,true,true,true,true,true,true,false,false,false] #[true,true,true,true,true,true,true,false,false,true,false] rfl rfl rfl rfl (two_of HT_.out (by kernel_rfl)) (by decide) (by decide) (fun K hK=>?_) (fun K hK=>?_)
     · skip
       refine goes_ Try.func12 (by kernel_rfl) rfl #[.slice A0_2 l0_2.length c0_2] (by rfl) rfl rfl (by (try simp only [Zp,Zq,Zr]);first|done|rfl|(simp only [Zn,Zo];rfl)) ?_
       with_reducible refine (slices_Clone_byte_byte.calls _ _ l0_2 t464 _ ?side1 ?side2 A4.out).mono ?_
       (case side1=>repeat (first|exact (Zi HR0_2.out HB.out)|(with_reducible refine Zd ?_ _)|(with_reducible refine Zc ?_ _)|(with_reducible refine Kd.C_drew ?_)))
       (case side2=>exact HC0_2.out)
       rintro e w10 ⟨v465,rfl,ho0,hb⟩
       refine ⟨_,rfl,?_⟩
       have n0_:=Z0 (Kd.R_below (by (with_reducible repeat (first|apply Z3|apply Z2|apply Z4));exact HO463.out) hb)
       have n1_:=Z0 (Kd.R_lower ho0 (Zb (by repeat (first|(with_reducible first|exact HB.out|apply Z6|apply Z1|apply Z5|refine Z7 ?_ GE459.out|refine Z7 ?_ GE460.out)|exact HB.out))))
       have n2_:=Z0 (blk_below (g:=gb459) (o:=.cells #[.slice A0_0 l0_0.length c0_0,.int .i64 a0_1,.slice A0_2 l0_2.length c0_2] 31 (0,0)) (by (with_reducible repeat (first|refine Z8 ?_ _|refine Za ?_|refine Z9 ?_ _));exact BK459.out) hb)
       have n3_:=Z0 (blk_below (g:=gb460) (o:=.cells #[.slice none 0 0,.int .i64 0,.slice none 0 0] 31 (0,0)) (by (with_reducible repeat (first|refine Z8 ?_ _|refine Za ?_|refine Z9 ?_ _));exact BK460.out) hb)
       have n4_:=Z0 (Zf (by repeat (first|(with_reducible first|exact HB.out|apply Z6|apply Z1|apply Z5|refine Z7 ?_ GE459.out|refine Z7 ?_ GE460.out)|exact HB.out)) hb)
       clear HO463
       clear BK459
       clear BK460
       clear HB
       have HO463:=n0_
       have HO466:=n1_
       have BK459:=n2_
       have BK460:=n3_
       have HB:=n4_
       clear n0_ n1_ n2_ n3_ n4_
       (try clear hb)
       (try clear hb2)
       (try clear hk)
       (try clear hi)
       (try clear ho0)
       obtain ⟨Ao11,co11,eo11⟩:=Kd.R_slice HO466.out
       (first|subst eo11|(injection eo11 with f1_ f2_ f3_;have f4_:=f1_.symm;have f5_:=f3_.symm;clear f1_ f2_ f3_;subst f4_;subst f5_))
       obtain ⟨Ao12,co12,eo12⟩:=Kd.R_slice HO463.out
       (first|subst eo12|(injection eo12 with f1_ f2_ f3_;have f4_:=f1_.symm;have f5_:=f3_.symm;clear f1_ f2_ f3_;subst f4_;subst f5_))
       refine hK.out _ _ ⟨(Ze BK459.out 0).trans rfl,(Ze BK459.out 1).trans rfl,(Ze BK459.out 2).trans rfl⟩ (fun hHeld=>?_)
       clear hK K
       refine norm_ (a':=?_) ?_ ?_
       rotate_left
       · show Act.put _ (some 14) _ = _
         simp only [Act.put,Zj,Zk,Zl,i64_w,i32_w]
         rfl
       refine pure_ (i:=8) (N:=some 15) (v:=?_) (a':=?_) #[true,true,true,true,true,true,true,true,true,false,false] rfl rfl (any_of HT_.out (by kernel_rfl)) (fun _ _ _ h=>h) (Or.inl ⟨by rfl,?_⟩) ?_ ?_
       rotate_left
       · intro w'
         go_simp
         with_reducible rfl
       rotate_left
       · simp only [Act.put, Zj, Zk, Zl, i64_w, i32_w]
         rfl
       refine one_ (i:=9) (N:=some 5) #[true,true,true,true,true,true,true,true,true,true,false] rfl rfl (one_of HT_.out (by kernel_rfl)) (by decide) (fun K hK=>?_)
       refine box_step ?hg (N:=5) ?hd (cs:=#[.slice none 0 0,.int .i64 0,.slice none 0 0]) (t:=31) ?hr ?_;(case hd=>rfl);(case hg=>rfl);(case hr=>first|(go_simp;done)|(go_simp;rfl))
       intro gb467 hg w13 hbox hb
       have n0_:=Z0 (Kd.R_below (by (with_reducible repeat (first|apply Z3|apply Z2|apply Z4));exact HO463.out) hb)
       have n1_:=Z0 (Kd.R_below (by (with_reducible repeat (first|apply Z3|apply Z2|apply Z4));exact HO466.out) hb)
       have n2_:=Z0 (blk_below (g:=gb459) (o:=.cells #[.slice A0_0 l0_0.length c0_0,.int .i64 a0_1,.slice A0_2 l0_2.length c0_2] 31 (0,0)) (by (with_reducible repeat (first|refine Z8 ?_ _|refine Za ?_|refine Z9 ?_ _));exact BK459.out) hb)
       have n3_:=Z0 (blk_below (g:=gb460) (o:=.cells #[.slice none 0 0,.int .i64 0,.slice none 0 0] 31 (0,0)) (by (with_reducible repeat (first|refine Z8 ?_ _|refine Za ?_|refine Z9 ?_ _));exact BK460.out) hb)
       have n4_:=Z0 (Zf (by repeat (first|(with_reducible first|exact HB.out|apply Z6|apply Z1|apply Z5|refine Z7 ?_ GE459.out|refine Z7 ?_ GE460.out)|exact HB.out)) hb)
       have n5_:=Z0 (hbox)
       have n6_:=Z0 ((by rw [hg];exact (Zb (by repeat (first|(with_reducible first|exact HB.out|apply Z6|apply Z1|apply Z5|refine Z7 ?_ GE459.out|refine Z7 ?_ GE460.out)|exact HB.out))) : w.heap.size ≤ gb467))
       have n7_:=Z0 ((by rw [hg];exact (Zb (by repeat (first|(with_reducible first|exact HB.out|apply Z6|apply Z1|apply Z5|refine Z7 ?_ GE459.out|refine Z7 ?_ GE460.out)|exact HB.out))) : w.heap.size ≤ gb467))
       have n8_:=Z0 ((by rw [hg];exact Nat.ne_of_lt (blk_lt (g:=gb459) (o:=.cells #[.slice A0_0 l0_0.length c0_0,.int .i64 a0_1,.slice A0_2 l0_2.length c0_2] 31 (0,0)) (by (with_reducible repeat (first|refine Z8 ?_ _|refine Za ?_|refine Z9 ?_ _));exact BK459.out)) : gb459 ≠ gb467))
       have n9_:=Z0 ((by rw [hg];exact Nat.ne_of_gt (blk_lt (g:=gb459) (o:=.cells #[.slice A0_0 l0_0.length c0_0,.int .i64 a0_1,.slice A0_2 l0_2.length c0_2] 31 (0,0)) (by (with_reducible repeat (first|refine Z8 ?_ _|refine Za ?_|refine Z9 ?_ _));exact BK459.out)) : gb467 ≠ gb459))
       have n10_:=Z0 ((by rw [hg];exact Nat.ne_of_lt (blk_lt (g:=gb460) (o:=.cells #[.slice none 0 0,.int .i64 0,.slice none 0 0] 31 (0,0)) (by (with_reducible repeat (first|refine Z8 ?_ _|refine Za ?_|refine Z9 ?_ _));exact BK460.out)) : gb460 ≠ gb467))
       have n11_:=Z0 ((by rw [hg];exact Nat.ne_of_gt (blk_lt (g:=gb460) (o:=.cells #[.slice none 0 0,.int .i64 0,.slice none 0 0] 31 (0,0)) (by (with_reducible repeat (first|refine Z8 ?_ _|refine Za ?_|refine Z9 ?_ _));exact BK460.out)) : gb467 ≠ gb460))
       clear HO463
       clear HO466
       clear BK459
       clear BK460
       clear HB
       have HO463:=n0_
       have HO466:=n1_
       have BK459:=n2_
       have BK460:=n3_
       have HB:=n4_
       have BK467:=n5_
       have GW467:=n6_
       have GE467:=n7_
       have NB459_467:=n8_
       have NB467_459:=n9_
       have NB460_467:=n10_
       have NB467_460:=n11_
       clear n0_ n1_ n2_ n3_ n4_ n5_ n6_ n7_ n8_ n9_ n10_ n11_
       clear hb hbox hg
       refine hK.out _ _ ⟨(Ze BK459.out 0).trans rfl,(Ze BK459.out 1).trans rfl,(Ze BK459.out 2).trans rfl⟩ (fun hHeld=>?_)
       clear hK K
       refine norm_ (a':=?_) ?_ ?_
       rotate_left
       · show Act.put _ (some 5) _ = _
         simp only [Act.put,Zj,Zk,Zl,i64_w,i32_w]
         rfl
       exact norm_ (by simp only [putAll,Act.put,Zj,Zk,Zl]) (hCont (.slice Ao12 t461.length co12,.slice Ao11 t464.length co11,gb467) _ ⟨hHeld,(by (with_reducible repeat (first|apply Z3|apply Z2|apply Z4));exact HO463.out),(by (with_reducible repeat (first|apply Z3|apply Z2|apply Z4));exact HO466.out),(by (with_reducible repeat (first|refine Z8 ?_ _|refine Za ?_|refine Z9 ?_ _));exact BK459.out),(by (with_reducible repeat (first|refine Z8 ?_ _|refine Za ?_|refine Z9 ?_ _));exact BK460.out),(by (with_reducible repeat (first|refine Z8 ?_ _|refine Za ?_|refine Z9 ?_ _));exact BK467.out),GW467.out,GE467.out,NB459_467.out,NB467_459.out,NB460_467.out,NB467_460.out,(by repeat (first|(with_reducible first|exact HB.out|apply Z6|apply Z1|apply Z5|refine Z7 ?_ GE459.out|refine Z7 ?_ GE460.out|refine Z7 ?_ GE467.out)|exact HB.out))⟩)
     · skip
       refine box_step ?hg (N:=5) ?hd (cs:=#[.slice none 0 0,.int .i64 0,.slice none 0 0]) (t:=31) ?hr ?_;(case hd=>rfl);(case hg=>rfl);(case hr=>first|(go_simp;done)|(go_simp;rfl))
       intro gb467 hg w10 hbox hb
       have n0_:=Z0 (Kd.R_below (by (with_reducible repeat (first|apply Z3|apply Z2|apply Z4));exact HO463.out) hb)
       have n1_:=Z0 (blk_below (g:=gb459) (o:=.cells #[.slice A0_0 l0_0.length c0_0,.int .i64 a0_1,.slice A0_2 l0_2.length c0_2] 31 (0,0)) (by (with_reducible repeat (first|refine Z8 ?_ _|refine Za ?_|refine Z9 ?_ _));exact BK459.out) hb)
       have n2_:=Z0 (blk_below (g:=gb460) (o:=.cells #[.slice none 0 0,.int .i64 0,.slice none 0 0] 31 (0,0)) (by (with_reducible repeat (first|refine Z8 ?_ _|refine Za ?_|refine Z9 ?_ _));exact BK460.out) hb)
       have n3_:=Z0 (Zf (by repeat (first|(with_reducible first|exact HB.out|apply Z6|apply Z1|apply Z5|refine Z7 ?_ GE459.out|refine Z7 ?_ GE460.out)|exact HB.out)) hb)
       have n4_:=Z0 (hbox)
       have n5_:=Z0 ((by rw [hg];exact (Zb (by repeat (first|(with_reducible first|exact HB.out|apply Z6|apply Z1|apply Z5|refine Z7 ?_ GE459.out|refine Z7 ?_ GE460.out)|exact HB.out))) : w.heap.size ≤ gb467))
       have n6_:=Z0 ((by rw [hg];exact (Zb (by repeat (first|(with_reducible first|exact HB.out|apply Z6|apply Z1|apply Z5|refine Z7 ?_ GE459.out|refine Z7 ?_ GE460.out)|exact HB.out))) : w.heap.size ≤ gb467))
       have n7_:=Z0 ((by rw [hg];exact Nat.ne_of_lt (blk_lt (g:=gb459) (o:=.cells #[.slice A0_0 l0_0.length c0_0,.int .i64 a0_1,.slice A0_2 l0_2.length c0_2] 31 (0,0)) (by (with_reducible repeat (first|refine Z8 ?_ _|refine Za ?_|refine Z9 ?_ _));exact BK459.out)) : gb459 ≠ gb467))
       have n8_:=Z0 ((by rw [hg];exact Nat.ne_of_gt (blk_lt (g:=gb459) (o:=.cells #[.slice A0_0 l0_0.length c0_0,.int .i64 a0_1,.slice A0_2 l0_2.length c0_2] 31 (0,0)) (by (with_reducible repeat (first|refine Z8 ?_ _|refine Za ?_|refine Z9 ?_ _));exact BK459.out)) : gb467 ≠ gb459))
       have n9_:=Z0 ((by rw [hg];exact Nat.ne_of_lt (blk_lt (g:=gb460) (o:=.cells #[.slice none 0 0,.int .i64 0,.slice none 0 0] 31 (0,0)) (by (with_reducible repeat (first|refine Z8 ?_ _|refine Za ?_|refine Z9 ?_ _));exact BK460.out)) : gb460 ≠ gb467))
       have n10_:=Z0 ((by rw [hg];exact Nat.ne_of_gt (blk_lt (g:=gb460) (o:=.cells #[.slice none 0 0,.int .i64 0,.slice none 0 0] 31 (0,0)) (by (with_reducible repeat (first|refine Z8 ?_ _|refine Za ?_|refine Z9 ?_ _));exact BK460.out)) : gb467 ≠ gb460))
       clear HO463
       clear BK459
       clear BK460
       clear HB
       have HO463:=n0_
       have BK459:=n1_
       have BK460:=n2_
       have HB:=n3_
       have BK467:=n4_
       have GW467:=n5_
       have GE467:=n6_
       have NB459_467:=n7_
       have NB467_459:=n8_
       have NB460_467:=n9_
       have NB467_460:=n10_
       clear n0_ n1_ n2_ n3_ n4_ n5_ n6_ n7_ n8_ n9_ n10_
       clear hb hbox hg
       refine hK.out _ _ ⟨(Ze BK459.out 0).trans rfl,(Ze BK459.out 1).trans rfl,(Ze BK459.out 2).trans rfl⟩ (fun hHeld=>?_)
       clear hK K
       refine norm_ (a':=?_) ?_ ?_
       rotate_left
       · show Act.put _ (some 5) _ = _
         simp only [Act.put,Zj,Zk,Zl,i64_w,i32_w]
         rfl
       refine one_ (i:=7) (N:=some 14) #[true,true,true,true,true,true,true,true,false,true,false] rfl rfl (one_of HT_.out (by kernel_rfl)) (by decide) (fun K hK=>?_)
       refine goes_ Try.func12 (by kernel_rfl) rfl #[.slice A0_2 l0_2.length c0_2] (by rfl) rfl rfl (by (try simp only [Zp,Zq,Zr]);first|done|rfl|(simp only [Zn,Zo];rfl)) ?_
       with_reducible refine (slices_Clone_byte_byte.calls _ _ l0_2 t464 _ ?side1 ?side2 A4.out).mono ?_
       (case side1=>repeat (first|exact (Zi HR0_2.out HB.out)|(with_reducible refine Zd ?_ _)|(with_reducible refine Zc ?_ _)|(with_reducible refine Kd.C_drew ?_)))
       (case side2=>exact HC0_2.out)
       rintro e w11 ⟨v465,rfl,ho0,hb⟩
       refine ⟨_,rfl,?_⟩
       have n0_:=Z0 (Kd.R_below (by (with_reducible repeat (first|apply Z3|apply Z2|apply Z4));exact HO463.out) hb)
       have n1_:=Z0 (Kd.R_lower ho0 (Zb (by repeat (first|(with_reducible first|exact HB.out|apply Z6|apply Z1|apply Z5|refine Z7 ?_ GE459.out|refine Z7 ?_ GE460.out|refine Z7 ?_ GE467.out)|exact HB.out))))
       have n2_:=Z0 (blk_below (g:=gb459) (o:=.cells #[.slice A0_0 l0_0.length c0_0,.int .i64 a0_1,.slice A0_2 l0_2.length c0_2] 31 (0,0)) (by (with_reducible repeat (first|refine Z8 ?_ _|refine Za ?_|refine Z9 ?_ _));exact BK459.out) hb)
       have n3_:=Z0 (blk_below (g:=gb460) (o:=.cells #[.slice none 0 0,.int .i64 0,.slice none 0 0] 31 (0,0)) (by (with_reducible repeat (first|refine Z8 ?_ _|refine Za ?_|refine Z9 ?_ _));exact BK460.out) hb)
       have n4_:=Z0 (blk_below (g:=gb467) (o:=.cells #[.slice none 0 0,.int .i64 0,.slice none 0 0] 31 (0,0)) (by (with_reducible repeat (first|refine Z8 ?_ _|refine Za ?_|refine Z9 ?_ _));exact BK467.out) hb)
       have n5_:=Z0 (Zf (by repeat (first|(with_reducible first|exact HB.out|apply Z6|apply Z1|apply Z5|refine Z7 ?_ GE459.out|refine Z7 ?_ GE460.out|refine Z7 ?_ GE467.out)|exact HB.out)) hb)
       clear HO463
       clear BK459
       clear BK460
       clear BK467
       clear HB
       have HO463:=n0_
       have HO466:=n1_
       have BK459:=n2_
       have BK460:=n3_
       have BK467:=n4_
       have HB:=n5_
       clear n0_ n1_ n2_ n3_ n4_ n5_
       (try clear hb)
       (try clear hb2)
       (try clear hk)
       (try clear hi)
       (try clear ho0)
       obtain ⟨Ao12,co12,eo12⟩:=Kd.R_slice HO466.out
       (first|subst eo12|(injection eo12 with f1_ f2_ f3_;have f4_:=f1_.symm;have f5_:=f3_.symm;clear f1_ f2_ f3_;subst f4_;subst f5_))
       obtain ⟨Ao13,co13,eo13⟩:=Kd.R_slice HO463.out
       (first|subst eo13|(injection eo13 with f1_ f2_ f3_;have f4_:=f1_.symm;have f5_:=f3_.symm;clear f1_ f2_ f3_;subst f4_;subst f5_))
       refine hK.out _ _ ⟨(Ze BK459.out 0).trans rfl,(Ze BK459.out 1).trans rfl,(Ze BK459.out 2).trans rfl⟩ (fun hHeld=>?_)
       clear hK K
       refine norm_ (a':=?_) ?_ ?_
       rotate_left
       · show Act.put _ (some 14) _ = _
         simp only [Act.put,Zj,Zk,Zl,i64_w,i32_w]
         rfl
       refine pure_ (i:=8) (N:=some 15) (v:=?_) (a':=?_) #[true,true,true,true,true,true,true,true,true,true,false] rfl rfl (any_of HT_.out (by kernel_rfl)) (fun _ _ _ h=>h) (Or.inl ⟨by rfl,?_⟩) ?_ ?_
       rotate_left
       · intro w'
         go_simp
         with_reducible rfl
       rotate_left
       · simp only [Act.put, Zj, Zk, Zl, i64_w, i32_w]
         rfl
       exact norm_ (by simp only [putAll,Act.put,Zj,Zk,Zl]) (hCont (.slice Ao13 t461.length co13,.slice Ao12 t464.length co12,gb467) _ ⟨hHeld,(by (with_reducible repeat (first|apply Z3|apply Z2|apply Z4));exact HO463.out),(by (with_reducible repeat (first|apply Z3|apply Z2|apply Z4));exact HO466.out),(by (with_reducible repeat (first|refine Z8 ?_ _|refine Za ?_|refine Z9 ?_ _));exact BK459.out),(by (with_reducible repeat (first|refine Z8 ?_ _|refine Za ?_|refine Z9 ?_ _));exact BK460.out),(by (with_reducible repeat (first|refine Z8 ?_ _|refine Za ?_|refine Z9 ?_ _));exact BK467.out),GW467.out,GE467.out,NB459_467.out,NB467_459.out,NB460_467.out,NB467_460.out,(by repeat (first|(with_reducible first|exact HB.out|apply Z6|apply Z1|apply Z5|refine Z7 ?_ GE459.out|refine Z7 ?_ GE460.out|refine Z7 ?_ GE467.out)|exact HB.out))⟩)
   · skip
     refine box_step ?hg (N:=5) ?hd (cs:=#[.slice none 0 0,.int .i64 0,.slice none 0 0]) (t:=31) ?hr ?_;(case hd=>rfl);(case hg=>rfl);(case hr=>first|(go_simp;done)|(go_simp;rfl))
     intro gb467 hg w9 hbox hb
     have n0_:=Z0 (blk_below (g:=gb459) (o:=.cells #[.slice A0_0 l0_0.length c0_0,.int .i64 a0_1,.slice A0_2 l0_2.length c0_2] 31 (0,0)) (by (with_reducible repeat (first|refine Z8 ?_ _|refine Za ?_|refine Z9 ?_ _));exact BK459.out) hb)
     have n1_:=Z0 (blk_below (g:=gb460) (o:=.cells #[.slice none 0 0,.int .i64 0,.slice none 0 0] 31 (0,0)) (by (with_reducible repeat (first|refine Z8 ?_ _|refine Za ?_|refine Z9 ?_ _));exact BK460.out) hb)
     have n2_:=Z0 (Zf (by repeat (first|(with_reducible first|exact HB.out|apply Z6|apply Z1|apply Z5|refine Z7 ?_ GE459.out|refine Z7 ?_ GE460.out)|exact HB.out)) hb)
     have n3_:=Z0 (hbox)
     have n4_:=Z0 ((by rw [hg];exact (Zb (by repeat (first|(with_reducible first|exact HB.out|apply Z6|apply Z1|apply Z5|refine Z7 ?_ GE459.out|refine Z7 ?_ GE460.out)|exact HB.out))) : w.heap.size ≤ gb467))
     have n5_:=Z0 ((by rw [hg];exact (Zb (by repeat (first|(with_reducible first|exact HB.out|apply Z6|apply Z1|apply Z5|refine Z7 ?_ GE459.out|refine Z7 ?_ GE460.out)|exact HB.out))) : w.heap.size ≤ gb467))
     have n6_:=Z0 ((by rw [hg];exact Nat.ne_of_lt (blk_lt (g:=gb459) (o:=.cells #[.slice A0_0 l0_0.length c0_0,.int .i64 a0_1,.slice A0_2 l0_2.length c0_2] 31 (0,0)) (by (with_reducible repeat (first|refine Z8 ?_ _|refine Za ?_|refine Z9 ?_ _));exact BK459.out)) : gb459 ≠ gb467))
     have n7_:=Z0 ((by rw [hg];exact Nat.ne_of_gt (blk_lt (g:=gb459) (o:=.cells #[.slice A0_0 l0_0.length c0_0,.int .i64 a0_1,.slice A0_2 l0_2.length c0_2] 31 (0,0)) (by (with_reducible repeat (first|refine Z8 ?_ _|refine Za ?_|refine Z9 ?_ _));exact BK459.out)) : gb467 ≠ gb459))
     have n8_:=Z0 ((by rw [hg];exact Nat.ne_of_lt (blk_lt (g:=gb460) (o:=.cells #[.slice none 0 0,.int .i64 0,.slice none 0 0] 31 (0,0)) (by (with_reducible repeat (first|refine Z8 ?_ _|refine Za ?_|refine Z9 ?_ _));exact BK460.out)) : gb460 ≠ gb467))
     have n9_:=Z0 ((by rw [hg];exact Nat.ne_of_gt (blk_lt (g:=gb460) (o:=.cells #[.slice none 0 0,.int .i64 0,.slice none 0 0] 31 (0,0)) (by (with_reducible repeat (first|refine Z8 ?_ _|refine Za ?_|refine Z9 ?_ _));exact BK460.out)) : gb467 ≠ gb460))
     clear BK459
     clear BK460
     clear HB
     have BK459:=n0_
     have BK460:=n1_
     have HB:=n2_
     have BK467:=n3_
     have GW467:=n4_
     have GE467:=n5_
     have NB459_467:=n6_
     have NB467_459:=n7_
     have NB460_467:=n8_
     have NB467_460:=n9_
     clear n0_ n1_ n2_ n3_ n4_ n5_ n6_ n7_ n8_ n9_
     clear hb hbox hg
     refine hK.out _ _ ⟨(Ze BK459.out 0).trans rfl,(Ze BK459.out 1).trans rfl,(Ze BK459.out 2).trans rfl⟩ (fun hHeld=>?_)
     clear hK K
     refine norm_ (a':=?_) ?_ ?_
     rotate_left
     · show Act.put _ (some 5) _ = _
       simp only [Act.put,Zj,Zk,Zl,i64_w,i32_w]
       rfl
     refine one_ (i:=2) (N:=some 9) #[true,true,true,true,true,true,true,false,false,true,false] rfl rfl (one_of HT_.out (by kernel_rfl)) (by decide) (fun K hK=>?_)
     refine goes_ Try.func25 (by kernel_rfl) rfl #[.slice A0_0 l0_0.length c0_0] (by rfl) rfl rfl (by (try simp only [Zp,Zq,Zr]);first|done|rfl|(simp only [Zn,Zo];rfl)) ?_
     with_reducible refine (slices_Clone_int_int.calls _ _ l0_0 t461 _ ?side1 ?side2 A3.out).mono ?_
     (case side1=>repeat (first|exact (Zi HR0_0.out HB.out)|(with_reducible refine Zd ?_ _)|(with_reducible refine Zc ?_ _)|(with_reducible refine Kd.C_drew ?_)))
     (case side2=>exact HC0_0.out)
     rintro e w10 ⟨v462,rfl,ho0,hb⟩
     refine ⟨_,rfl,?_⟩
     have n0_:=Z0 (Kd.R_lower ho0 (Zb (by repeat (first|(with_reducible first|exact HB.out|apply Z6|apply Z1|apply Z5|refine Z7 ?_ GE459.out|refine Z7 ?_ GE460.out|refine Z7 ?_ GE467.out)|exact HB.out))))
     have n1_:=Z0 (blk_below (g:=gb459) (o:=.cells #[.slice A0_0 l0_0.length c0_0,.int .i64 a0_1,.slice A0_2 l0_2.length c0_2] 31 (0,0)) (by (with_reducible repeat (first|refine Z8 ?_ _|refine Za ?_|refine Z9 ?_ _));exact BK459.out) hb)
     have n2_:=Z0 (blk_below (g:=gb460) (o:=.cells #[.slice none 0 0,.int .i64 0,.slice none 0 0] 31 (0,0)) (by (with_reducible repeat (first|refine Z8 ?_ _|refine Za ?_|refine Z9 ?_ _));exact BK460.out) hb)
     have n3_:=Z0 (blk_below (g:=gb467) (o:=.cells #[.slice none 0 0,.int .i64 0,.slice none 0 0] 31 (0,0)) (by (with_reducible repeat (first|refine Z8 ?_ _|refine Za ?_|refine Z9 ?_ _));exact BK467.out) hb)
     have n4_:=Z0 (Zf (by repeat (first|(with_reducible first|exact HB.out|apply Z6|apply Z1|apply Z5|refine Z7 ?_ GE459.out|refine Z7 ?_ GE460.out|refine Z7 ?_ GE467.out)|exact HB.out)) hb)
     clear BK459
     clear BK460
     clear BK467
     clear HB
     have HO463:=n0_
     have BK459:=n1_
     have BK460:=n2_
     have BK467:=n3_
     have HB:=n4_
     clear n0_ n1_ n2_ n3_ n4_
     (try clear hb)
     (try clear hb2)
     (try clear hk)
     (try clear hi)
     (try clear ho0)
     refine hK.out _ _ ⟨(Ze BK459.out 0).trans rfl,(Ze BK459.out 1).trans rfl,(Ze BK459.out 2).trans rfl⟩ (fun hHeld=>?_)
     clear hK K
     refine norm_ (a':=?_) ?_ ?_
     rotate_left
     · show Act.put _ (some 9) _ = _
       simp only [Act.put,Zj,Zk,Zl,i64_w,i32_w]
       rfl
     refine one_ (i:=7) (N:=some 14) #[true,true,true,true,true,true,true,true,false,true,false] rfl rfl (one_of HT_.out (by kernel_rfl)) (by decide) (fun K hK=>?_)
     refine goes_ Try.func12 (by kernel_rfl) rfl #[.slice A0_2 l0_2.length c0_2] (by rfl) rfl rfl (by (try simp only [Zp,Zq,Zr]);first|done|rfl|(simp only [Zn,Zo];rfl)) ?_
     with_reducible refine (slices_Clone_byte_byte.calls _ _ l0_2 t464 _ ?side1 ?side2 A4.out).mono ?_
     (case side1=>repeat (first|exact (Zi HR0_2.out HB.out)|(with_reducible refine Zd ?_ _)|(with_reducible refine Zc ?_ _)|(with_reducible refine Kd.C_drew ?_)))
     (case side2=>exact HC0_2.out)
     rintro e w11 ⟨v465,rfl,ho0,hb⟩
     refine ⟨_,rfl,?_⟩
     have n0_:=Z0 (Kd.R_below (by (with_reducible repeat (first|apply Z3|apply Z2|apply Z4));exact HO463.out) hb)
     have n1_:=Z0 (Kd.R_lower ho0 (Zb (by repeat (first|(with_reducible first|exact HB.out|apply Z6|apply Z1|apply Z5|refine Z7 ?_ GE459.out|refine Z7 ?_ GE460.out|refine Z7 ?_ GE467.out)|exact HB.out))))
     have n2_:=Z0 (blk_below (g:=gb459) (o:=.cells #[.slice A0_0 l0_0.length c0_0,.int .i64 a0_1,.slice A0_2 l0_2.length c0_2] 31 (0,0)) (by (with_reducible repeat (first|refine Z8 ?_ _|refine Za ?_|refine Z9 ?_ _));exact BK459.out) hb)
     have n3_:=Z0 (blk_below (g:=gb460) (o:=.cells #[.slice none 0 0,.int .i64 0,.slice none 0 0] 31 (0,0)) (by (with_reducible repeat (first|refine Z8 ?_ _|refine Za ?_|refine Z9 ?_ _));exact BK460.out) hb)
     have n4_:=Z0 (blk_below (g:=gb467) (o:=.cells #[.slice none 0 0,.int .i64 0,.slice none 0 0] 31 (0,0)) (by (with_reducible repeat (first|refine Z8 ?_ _|refine Za ?_|refine Z9 ?_ _));exact BK467.out) hb)
     have n5_:=Z0 (Zf (by repeat (first|(with_reducible first|exact HB.out|apply Z6|apply Z1|apply Z5|refine Z7 ?_ GE459.out|refine Z7 ?_ GE460.out|refine Z7 ?_ GE467.out)|exact HB.out)) hb)
     clear HO463
     clear BK459
     clear BK460
     clear BK467
     clear HB
     have HO463:=n0_
     have HO466:=n1_
     have BK459:=n2_
     have BK460:=n3_
     have BK467:=n4_
     have HB:=n5_
     clear n0_ n1_ n2_ n3_ n4_ n5_
     (try clear hb)
     (try clear hb2)
     (try clear hk)
     (try clear hi)
     (try clear ho0)
     obtain ⟨Ao12,co12,eo12⟩:=Kd.R_slice HO466.out
     (first|subst eo12|(injection eo12 with f1_ f2_ f3_;have f4_:=f1_.symm;have f5_:=f3_.symm;clear f1_ f2_ f3_;subst f4_;subst f5_))
     obtain ⟨Ao13,co13,eo13⟩:=Kd.R_slice HO463.out
     (first|subst eo13|(injection eo13 with f1_ f2_ f3_;have f4_:=f1_.symm;have f5_:=f3_.symm;clear f1_ f2_ f3_;subst f4_;subst f5_))
     refine hK.out _ _ ⟨(Ze BK459.out 0).trans rfl,(Ze BK459.out 1).trans rfl,(Ze BK459.out 2).trans rfl⟩ (fun hHeld=>?_)
     clear hK K
     refine norm_ (a':=?_) ?_ ?_
     rotate_left
     · show Act.put _ (some 14) _ = _
       simp only [Act.put,Zj,Zk,Zl,i64_w,i32_w]
       rfl
     refine pure_ (i:=8) (N:=some 15) (v:=?_) (a':=?_) #[true,true,true,true,true,true,true,true,true,true,false] rfl rfl (any_of HT_.out (by kernel_rfl)) (fun _ _ _ h=>h) (Or.inl ⟨by rfl,?_⟩) ?_ ?_
     rotate_left
     · intro w'
       go_simp
       with_reducible rfl
     rotate_left
     · simp only [Act.put, Zj, Zk, Zl, i64_w, i32_w]
       rfl
     exact norm_ (by simp only [putAll,Act.put,Zj,Zk,Zl]) (hCont (.slice Ao13 t461.length co13,.slice Ao12 t464.length co12,gb467) _ ⟨hHeld,(by (with_reducible repeat (first|apply Z3|apply Z2|apply Z4));exact HO463.out),(by (with_reducible repeat (first|apply Z3|apply Z2|apply Z4));exact HO466.out),(by (with_reducible repeat (first|refine Z8 ?_ _|refine Za ?_|refine Z9 ?_ _));exact BK459.out),(by (with_reducible repeat (first|refine Z8 ?_ _|refine Za ?_|refine Z9 ?_ _));exact BK460.out),(by (with_reducible repeat (first|refine Z8 ?_ _|refine Za ?_|refine Z9 ?_ _));exact BK467.out),GW467.out,GE467.out,NB459_467.out,NB467_459.out,NB460_467.out,NB467_460.out,(by repeat (first|(with_reducible first|exact HB.out|apply Z6|apply Z1|apply Z5|refine Z7 ?_ GE459.out|refine Z7 ?_ GE460.out|refine Z7 ?_ GE467.out)|exact HB.out))⟩)
 rintro ⟨v462,v465,gb467⟩ w14 ⟨hS_,h0_,h1_,h2_,h3_,h4_,h5_,h6_,h7_,h8_,h9_,h10_,h11_⟩
 have n0_ : Aside0 (Kd.R (Kd.int .i64) 3 w14 w.heap.size (fun _=>True) v462 t461):=⟨h0_⟩
 have n1_ : Aside0 (Kd.R (Kd.int .u8) 5 w14 w.heap.size (fun _=>True) v465 t464):=⟨h1_⟩
 have n2_ : Aside0 (w14.heap[gb459]? = some (.cells #[.slice A0_0 l0_0.length c0_0,.int .i64 a0_1,.slice A0_2 l0_2.length c0_2] 31 (0,0))):=⟨h2_⟩
 have n3_ : Aside0 (w14.heap[gb460]? = some (.cells #[.slice none 0 0,.int .i64 0,.slice none 0 0] 31 (0,0))):=⟨h3_⟩
 have n4_ : Aside0 (w14.heap[gb467]? = some (.cells #[.slice none 0 0,.int .i64 0,.slice none 0 0] 31 (0,0))):=⟨h4_⟩
 have n5_ : Aside0 (w.heap.size ≤ gb467):=⟨h5_⟩
 have n6_ : Aside0 (w.heap.size ≤ gb467):=⟨h6_⟩
 have n7_ : Aside0 (gb459 ≠ gb467):=⟨h7_⟩
 have n8_ : Aside0 (gb467 ≠ gb459):=⟨h8_⟩
 have n9_ : Aside0 (gb460 ≠ gb467):=⟨h9_⟩
 have n10_ : Aside0 (gb467 ≠ gb460):=⟨h10_⟩
 have n11_ : Aside0 (Below w.heap.size w w14):=⟨h11_⟩
 clear BK459
 clear BK460
 clear HB
 clear h0_ h1_ h2_ h3_ h4_ h5_ h6_ h7_ h8_ h9_ h10_ h11_
 have HO463:=n0_
 have HO466:=n1_
 have BK459:=n2_
 have BK460:=n3_
 have BK467:=n4_
 have GW467:=n5_
 have GE467:=n6_
 have NB459_467:=n7_
 have NB467_459:=n8_
 have NB460_467:=n9_
 have NB467_460:=n10_
 have HB:=n11_
 clear n0_ n1_ n2_ n3_ n4_ n5_ n6_ n7_ n8_ n9_ n10_ n11_
 have hHeld : w14.cell? ⟨gb459,0,none⟩ = some (.slice A0_0 l0_0.length c0_0) ∧ w14.cell? ⟨gb459,1,none⟩ = some (.int .i64 a0_1) ∧ w14.cell? ⟨gb459,2,none⟩ = some (.slice A0_2 l0_2.length c0_2):=hS_
 obtain ⟨Ao15,co15,eo15⟩:=Kd.R_slice HO466.out
 (first|subst eo15|(injection eo15 with f1_ f2_ f3_;have f4_:=f1_.symm;have f5_:=f3_.symm;clear f1_ f2_ f3_;subst f4_;subst f5_))
 obtain ⟨Ao16,co16,eo16⟩:=Kd.R_slice HO463.out
 (first|subst eo16|(injection eo16 with f1_ f2_ f3_;have f4_:=f1_.symm;have f5_:=f3_.symm;clear f1_ f2_ f3_;subst f4_;subst f5_))
 refine norm_ (a':=?_) ?_ ?_
 rotate_left
 · simp only [putAll, Act.put, Zj, Zk, Zl]
   rfl
 refine one_ (i:=10) (N:=none) #[true,true,true,true,true,true,true,true,true,true,true] rfl rfl (one_of HT_.out (by kernel_rfl)) (by decide) (fun K hK=>?_)
 have hs17 : w14.cell? ⟨gb467,0,none⟩ = some (.slice none 0 0):=(Ze BK467.out 0).trans rfl
 have hfs17:=Zg BK467.out 0
 have hns17_0:=NB459_467.out
 have hns17_1:=NB460_467.out
 have hms17_0:=NB467_459.out
 have hms17_1:=NB467_460.out
 have hs18 : w14.cell? ⟨gb467,1,none⟩ = some (.int .i64 0):=(Ze BK467.out 1).trans rfl
 have hfs18:=Zg BK467.out 1
 have hns18_0:=NB459_467.out
 have hns18_1:=NB460_467.out
 have hms18_0:=NB467_459.out
 have hms18_1:=NB467_460.out
 have hs19 : w14.cell? ⟨gb467,2,none⟩ = some (.slice none 0 0):=(Ze BK467.out 2).trans rfl
 have hfs19:=Zg BK467.out 2
 have hns19_0:=NB459_467.out
 have hns19_1:=NB460_467.out
 have hms19_0:=NB467_459.out
 have hms19_1:=NB467_460.out
 refine skip_ (w1:=?_) (by rfl) rfl ?_ ?_
 rotate_left
 · go_simp
   rfl
 refine hK.out _ _ ⟨((cell_far (p:=⟨gb467,_,none⟩) NB459_467.out _).trans (((cell_far (p:=⟨gb467,_,none⟩) NB459_467.out _).trans (((cell_far (p:=⟨gb467,_,none⟩) NB459_467.out _).trans (hHeld.1)))))),((cell_far (p:=⟨gb467,_,none⟩) NB459_467.out _).trans (((cell_far (p:=⟨gb467,_,none⟩) NB459_467.out _).trans (((cell_far (p:=⟨gb467,_,none⟩) NB459_467.out _).trans (hHeld.2.1)))))),((cell_far (p:=⟨gb467,_,none⟩) NB459_467.out _).trans (((cell_far (p:=⟨gb467,_,none⟩) NB459_467.out _).trans (((cell_far (p:=⟨gb467,_,none⟩) NB459_467.out _).trans (hHeld.2.2))))))⟩ (fun hHeld=>?_)
 clear hK K
 refine done_ (done_of HT_.out (by kernel_rfl)) ?_
 go_upto_region 2 with (fail)
 go_cut [26] (fun v26 wc=>∃ (kq : Nat) (x26_4 : Bool),v26 = .bool x26_4 ∧ Aside0 (impl_SumAdd.j0 kq l1 x26_4 t461 a0_1 t464 = some (r1,r2,r3)) ∧ Aside0 (kq ≤ k) ∧ Aside0 (Kd.R (Kd.int .i64) 3 wc w.heap.size (fun _=>True) (.slice Ao16 t461.length co16) t461) ∧ Aside0 (Kd.R (Kd.int .u8) 5 wc w.heap.size (fun _=>True) (.slice Ao15 t464.length co15) t464) ∧ Aside0 (wc.heap[gb459]? = some (.cells #[(.slice A0_0 l0_0.length c0_0),.int .i64 a0_1,(.slice A0_2 l0_2.length c0_2)] 31 (0,0))) ∧ Aside0 (wc.heap[gb460]? = some (.cells #[(.slice none 0 0),.int .i64 0,(.slice none 0 0)] 31 (0,0))) ∧ Aside0 (wc.heap[gb467]? = some (.cells #[(.slice Ao16 t461.length co16),.int .i64 a0_1,(.slice Ao15 t464.length co15)] 31 (0,0))) ∧ Aside0 (Below w.heap.size w wc))
 case first =>
  have H:=HC5.out
  clear HC5
  replace H:=Option.bind_eq_some_iff.mp H
  obtain ⟨t468,A200,H⟩:=H
  replace H : (if t468 = true then (impl_SumAdd.j0 k l1 (decide ((l1.length : Int) > (wrap64 (2147483647 - a0_1)))) t461 a0_1 t464) else (impl_SumAdd.j0 k l1 true t461 a0_1 t464)) = some (r1,r2,r3):=H
  have A20:=Z0 A200
  clear A200
  by_cases c21 : t468 = true
  case neg =>
   replace c21:=Bool.eq_false_iff.mpr c21
   subst c21
   have H1 : (impl_SumAdd.j0 k l1 true t461 a0_1 t464) = some (r1,r2,r3):=by rw [if_neg (show ¬ (false = true) by decide)] at H;exact H
   clear H
   have H:=H1
   clear H1
   have H':=Z0 H
   clear H
   have hnb27:=NB459_460.out
   have hnc27:=NB460_459.out
   have hnb28:=NB459_467.out
   have hnc28:=NB467_459.out
   have hcz29_0 : w14.cell? ⟨gb459,0,none⟩ = some (.slice A0_0 l0_0.length c0_0):=(Ze BK459.out 0).trans rfl
   have hcz29_1 : w14.cell? ⟨gb459,1,none⟩ = some (.int .i64 a0_1):=(Ze BK459.out 1).trans rfl
   have hcz29_2 : w14.cell? ⟨gb459,2,none⟩ = some (.slice A0_2 l0_2.length c0_2):=(Ze BK459.out 2).trans rfl
   have hfz29_0:=Zg BK459.out 0
   have hfz29_1:=Zg BK459.out 1
   have hfz29_2:=Zg BK459.out 2
   go_wp2_with (first|((with_reducible refine gate_callee (f:=23) rfl ?_);refine goesL_ (some 17) rfl rfl Try.func23 (by kernel_rfl) rfl #[.agg #[.slice A0_0 l0_0.length c0_0,.int .i64 a0_1,.slice A0_2 l0_2.length c0_2]] rfl (by (try simp only [Zp,Zq,Zr]);first|done|rfl|(simp only [Zn,Zo];rfl)) ?_;(with_reducible refine (impl_SumOk.calls k _ _ l0_0 a0_1 _ _ l0_2 false _ ?side1 ?side2 ?side3 ?side4 A20.out).mono ?_);(case side1=>exact Zi HR0_0.out (by repeat (first|(with_reducible first|exact HB.out|apply Z6|apply Z1|apply Z5|refine Z7 ?_ GE459.out|refine Z7 ?_ GE460.out|refine Z7 ?_ GE467.out)|exact HB.out)));(case side2=>exact HC0_0.out);(case side3=>exact Zi HR0_2.out (by repeat (first|(with_reducible first|exact HB.out|apply Z6|apply Z1|apply Z5|refine Z7 ?_ GE459.out|refine Z7 ?_ GE460.out|refine Z7 ?_ GE467.out)|exact HB.out)));(case side4=>exact HC0_2.out);rintro e w30 ⟨rfl,hb⟩;refine ⟨_,rfl,?_⟩;have n0_:=Z0 (Kd.R_below (by (with_reducible repeat (first|apply Z3|apply Z2|apply Z4));exact (Zh (Kd.R_far (p:=⟨gb467,2,none⟩) (Kd.R_far (p:=⟨gb467,1,none⟩) (Kd.R_far (p:=⟨gb467,0,none⟩) (Kd.R_types HO463.out BK467.out (by decide)) (fun _ hk=>hk.2) (.slice Ao16 t461.length co16)) (fun _ hk=>hk.2) (.int .i64 a0_1)) (fun _ hk=>hk.2) (.slice Ao15 t464.length co15)) (fun _ h_=>h_.1))) hb);have n1_:=Z0 (Kd.R_below (by (with_reducible repeat (first|apply Z3|apply Z2|apply Z4));exact (Zh (Kd.R_far (p:=⟨gb467,2,none⟩) (Kd.R_far (p:=⟨gb467,1,none⟩) (Kd.R_far (p:=⟨gb467,0,none⟩) (Kd.R_types HO466.out BK467.out (by decide)) (fun _ hk=>hk.2) (.slice Ao16 t461.length co16)) (fun _ hk=>hk.2) (.int .i64 a0_1)) (fun _ hk=>hk.2) (.slice Ao15 t464.length co15)) (fun _ h_=>h_.1))) hb);have n2_:=Z0 (blk_below (g:=gb459) (o:=.cells #[.slice A0_0 l0_0.length c0_0,.int .i64 a0_1,.slice A0_2 l0_2.length c0_2] 31 (0,0)) (by (with_reducible repeat (first|refine Z8 ?_ _|refine Za ?_|refine Z9 ?_ _));refine blk_far ?_ NB459_467.out _;(with_reducible repeat (first|refine Z8 ?_ _|refine Za ?_|refine Z9 ?_ _));refine blk_far ?_ NB459_467.out _;(with_reducible repeat (first|refine Z8 ?_ _|refine Za ?_|refine Z9 ?_ _));refine blk_far ?_ NB459_467.out _;(with_reducible repeat (first|refine Z8 ?_ _|refine Za ?_|refine Z9 ?_ _));exact BK459.out) hb);have n3_:=Z0 (blk_below (g:=gb460) (o:=.cells #[.slice none 0 0,.int .i64 0,.slice none 0 0] 31 (0,0)) (by (with_reducible repeat (first|refine Z8 ?_ _|refine Za ?_|refine Z9 ?_ _));refine blk_far ?_ NB460_467.out _;(with_reducible repeat (first|refine Z8 ?_ _|refine Za ?_|refine Z9 ?_ _));refine blk_far ?_ NB460_467.out _;(with_reducible repeat (first|refine Z8 ?_ _|refine Za ?_|refine Z9 ?_ _));refine blk_far ?_ NB460_467.out _;(with_reducible repeat (first|refine Z8 ?_ _|refine Za ?_|refine Z9 ?_ _));exact BK460.out) hb);have n4_:=Z0 (blk_below (g:=gb467) (o:=.cells #[.slice Ao16 t461.length co16,.int .i64 a0_1,.slice Ao15 t464.length co15] 31 (0,0)) (by (with_reducible repeat (first|refine Z8 ?_ _|refine Za ?_|refine Z9 ?_ _));refine blk_put (cs:=#[.slice Ao16 t461.length co16,.int .i64 a0_1,.slice none 0 0]) ?_ 2 _ rfl;(with_reducible repeat (first|refine Z8 ?_ _|refine Za ?_|refine Z9 ?_ _));refine blk_put (cs:=#[.slice Ao16 t461.length co16,.int .i64 0,.slice none 0 0]) ?_ 1 _ rfl;(with_reducible repeat (first|refine Z8 ?_ _|refine Za ?_|refine Z9 ?_ _));refine blk_put (cs:=#[.slice none 0 0,.int .i64 0,.slice none 0 0]) ?_ 0 _ rfl;(with_reducible repeat (first|refine Z8 ?_ _|refine Za ?_|refine Z9 ?_ _));exact BK467.out) hb);have n5_:=Z0 (Zf (by repeat (first|(with_reducible first|exact HB.out|apply Z6|apply Z1|apply Z5|refine Z7 ?_ GE459.out|refine Z7 ?_ GE460.out|refine Z7 ?_ GE467.out)|exact HB.out)) hb);clear HO463;clear HO466;clear BK459;clear BK460;clear BK467;clear HB;have HO463:=n0_;have HO466:=n1_;have BK459:=n2_;have BK460:=n3_;have BK467:=n4_;have HB:=n5_;clear n0_ n1_ n2_ n3_ n4_ n5_;(try clear hb);(try clear hb2);(try clear hk);(try clear hi)))
   go_meet
   case rel=>exact ⟨_,(true),(by first|rfl|(simp;done)|(simp [*];done)),H',⟨by first|omega|exact Zs _⟩,⟨by (with_reducible repeat (first|apply Z3|apply Z2|apply Z4));exact HO463.out⟩,⟨by (with_reducible repeat (first|apply Z3|apply Z2|apply Z4));exact HO466.out⟩,⟨by (with_reducible repeat (first|refine Z8 ?_ _|refine Za ?_|refine Z9 ?_ _));exact BK459.out⟩,⟨by (with_reducible repeat (first|refine Z8 ?_ _|refine Za ?_|refine Z9 ?_ _));exact BK460.out⟩,⟨by (with_reducible repeat (first|refine Z8 ?_ _|refine Za ?_|refine Z9 ?_ _));exact BK467.out⟩,⟨by repeat (first|(with_reducible first|exact HB.out|apply Z6|apply Z1|apply Z5|refine Z7 ?_ GE459.out|refine Z7 ?_ GE460.out|refine Z7 ?_ GE467.out)|exact HB.out)⟩⟩
  subst c21
  have H1 : (impl_SumAdd.j0 k l1 (decide ((l1.length : Int) > (wrap64 (2147483647 - a0_1)))) t461 a0_1 t464) = some (r1,r2,r3):=by rw [if_pos rfl] at H;exact H
  clear H
  have H:=H1
  clear H1
  have H':=Z0 H
  clear H
  have hnb22:=NB459_460.out
  have hnc22:=NB460_459.out
  have hnb23:=NB459_467.out
  have hnc23:=NB467_459.out
  have hcz24_0 : w14.cell? ⟨gb459,0,none⟩ = some (.slice A0_0 l0_0.length c0_0):=(Ze BK459.out 0).trans rfl
  have hcz24_1 : w14.cell? ⟨gb459,1,none⟩ = some (.int .i64 a0_1):=(Ze BK459.out 1).trans rfl
  have hcz24_2 : w14.cell? ⟨gb459,2,none⟩ = some (.slice A0_2 l0_2.length c0_2):=(Ze BK459.out 2).trans rfl
  have hfz24_0:=Zg BK459.out 0
  have hfz24_1:=Zg BK459.out 1
  have hfz24_2:=Zg BK459.out 2
  go_wp2_with (first|((with_reducible refine gate_callee (f:=23) rfl ?_);refine goesL_ (some 17) rfl rfl Try.func23 (by kernel_rfl) rfl #[.agg #[.slice A0_0 l0_0.length c0_0,.int .i64 a0_1,.slice A0_2 l0_2.length c0_2]] rfl (by (try simp only [Zp,Zq,Zr]);first|done|rfl|(simp only [Zn,Zo];rfl)) ?_;(with_reducible refine (impl_SumOk.calls k _ _ l0_0 a0_1 _ _ l0_2 true _ ?side1 ?side2 ?side3 ?side4 A20.out).mono ?_);(case side1=>exact Zi HR0_0.out (by repeat (first|(with_reducible first|exact HB.out|apply Z6|apply Z1|apply Z5|refine Z7 ?_ GE459.out|refine Z7 ?_ GE460.out|refine Z7 ?_ GE467.out)|exact HB.out)));(case side2=>exact HC0_0.out);(case side3=>exact Zi HR0_2.out (by repeat (first|(with_reducible first|exact HB.out|apply Z6|apply Z1|apply Z5|refine Z7 ?_ GE459.out|refine Z7 ?_ GE460.out|refine Z7 ?_ GE467.out)|exact HB.out)));(case side4=>exact HC0_2.out);rintro e w25 ⟨rfl,hb⟩;refine ⟨_,rfl,?_⟩;have n0_:=Z0 (Kd.R_below (by (with_reducible repeat (first|apply Z3|apply Z2|apply Z4));exact (Zh (Kd.R_far (p:=⟨gb467,2,none⟩) (Kd.R_far (p:=⟨gb467,1,none⟩) (Kd.R_far (p:=⟨gb467,0,none⟩) (Kd.R_types HO463.out BK467.out (by decide)) (fun _ hk=>hk.2) (.slice Ao16 t461.length co16)) (fun _ hk=>hk.2) (.int .i64 a0_1)) (fun _ hk=>hk.2) (.slice Ao15 t464.length co15)) (fun _ h_=>h_.1))) hb);have n1_:=Z0 (Kd.R_below (by (with_reducible repeat (first|apply Z3|apply Z2|apply Z4));exact (Zh (Kd.R_far (p:=⟨gb467,2,none⟩) (Kd.R_far (p:=⟨gb467,1,none⟩) (Kd.R_far (p:=⟨gb467,0,none⟩) (Kd.R_types HO466.out BK467.out (by decide)) (fun _ hk=>hk.2) (.slice Ao16 t461.length co16)) (fun _ hk=>hk.2) (.int .i64 a0_1)) (fun _ hk=>hk.2) (.slice Ao15 t464.length co15)) (fun _ h_=>h_.1))) hb);have n2_:=Z0 (blk_below (g:=gb459) (o:=.cells #[.slice A0_0 l0_0.length c0_0,.int .i64 a0_1,.slice A0_2 l0_2.length c0_2] 31 (0,0)) (by (with_reducible repeat (first|refine Z8 ?_ _|refine Za ?_|refine Z9 ?_ _));refine blk_far ?_ NB459_467.out _;(with_reducible repeat (first|refine Z8 ?_ _|refine Za ?_|refine Z9 ?_ _));refine blk_far ?_ NB459_467.out _;(with_reducible repeat (first|refine Z8 ?_ _|refine Za ?_|refine Z9 ?_ _));refine blk_far ?_ NB459_467.out _;(with_reducible repeat (first|refine Z8 ?_ _|refine Za ?_|refine Z9 ?_ _));exact BK459.out) hb);have n3_:=Z0 (blk_below (g:=gb460) (o:=.cells #[.slice none 0 0,.int .i64 0,.slice none 0 0] 31 (0,0)) (by (with_reducible repeat (first|refine Z8 ?_ _|refine Za ?_|refine Z9 ?_ _));refine blk_far ?_ NB460_467.out _;(with_reducible repeat (first|refine Z8 ?_ _|refine Za ?_|refine Z9 ?_ _));refine blk_far ?_ NB460_467.out _;(with_reducible repeat (first|refine Z8 ?_ _|refine Za ?_|refine Z9 ?_ _));refine blk_far ?_ NB460_467.out _;(with_reducible repeat (first|refine Z8 ?_ _|refine Za ?_|refine Z9 ?_ _));exact BK460.out) hb);have n4_:=Z0 (blk_below (g:=gb467) (o:=.cells #[.slice Ao16 t461.length co16,.int .i64 a0_1,.slice Ao15 t464.length co15] 31 (0,0)) (by (with_reducible repeat (first|refine Z8 ?_ _|refine Za ?_|refine Z9 ?_ _));refine blk_put (cs:=#[.slice Ao16 t461.length co16,.int .i64 a0_1,.slice none 0 0]) ?_ 2 _ rfl;(with_reducible repeat (first|refine Z8 ?_ _|refine Za ?_|refine Z9 ?_ _));refine blk_put (cs:=#[.slice Ao16 t461.length co16,.int .i64 0,.slice none 0 0]) ?_ 1 _ rfl;(with_reducible repeat (first|refine Z8 ?_ _|refine Za ?_|refine Z9 ?_ _));refine blk_put (cs:=#[.slice none 0 0,.int .i64 0,.slice none 0 0]) ?_ 0 _ rfl;(with_reducible repeat (first|refine Z8 ?_ _|refine Za ?_|refine Z9 ?_ _));exact BK467.out) hb);have n5_:=Z0 (Zf (by repeat (first|(with_reducible first|exact HB.out|apply Z6|apply Z1|apply Z5|refine Z7 ?_ GE459.out|refine Z7 ?_ GE460.out|refine Z7 ?_ GE467.out)|exact HB.out)) hb);clear HO463;clear HO466;clear BK459;clear BK460;clear BK467;clear HB;have HO463:=n0_;have HO466:=n1_;have BK459:=n2_;have BK460:=n3_;have BK467:=n4_;have HB:=n5_;clear n0_ n1_ n2_ n3_ n4_ n5_;(try clear hb);(try clear hb2);(try clear hk);(try clear hi);have hcz26_0 : w25.cell? ⟨gb459,0,none⟩ = some (.slice A0_0 l0_0.length c0_0):=(Ze BK459.out 0).trans rfl;have hcz26_1 : w25.cell? ⟨gb459,1,none⟩ = some (.int .i64 a0_1):=(Ze BK459.out 1).trans rfl;have hcz26_2 : w25.cell? ⟨gb459,2,none⟩ = some (.slice A0_2 l0_2.length c0_2):=(Ze BK459.out 2).trans rfl;have hfz26_0:=Zg BK459.out 0;have hfz26_1:=Zg BK459.out 1;have hfz26_2:=Zg BK459.out 2))
  go_meet
  case rel=>exact ⟨_,(decide ((l1.length : Int) > (wrap64 (2147483647 - a0_1)))),(by first|rfl|(simp;done)|(simp [*];done)),H',⟨by first|omega|exact Zs _⟩,⟨by (with_reducible repeat (first|apply Z3|apply Z2|apply Z4));exact HO463.out⟩,⟨by (with_reducible repeat (first|apply Z3|apply Z2|apply Z4));exact HO466.out⟩,⟨by (with_reducible repeat (first|refine Z8 ?_ _|refine Za ?_|refine Z9 ?_ _));exact BK459.out⟩,⟨by (with_reducible repeat (first|refine Z8 ?_ _|refine Za ?_|refine Z9 ?_ _));exact BK460.out⟩,⟨by (with_reducible repeat (first|refine Z8 ?_ _|refine Za ?_|refine Z9 ?_ _));exact BK467.out⟩,⟨by repeat (first|(with_reducible first|exact HB.out|apply Z6|apply Z1|apply Z5|refine Z7 ?_ GE459.out|refine Z7 ?_ GE460.out|refine Z7 ?_ GE467.out)|exact HB.out)⟩⟩
 case rest =>
  clear HC5
  (try clear c1);(try clear c2);(try clear p2);(try clear p6);(try clear c12);(try clear c18);(try clear c21);(try clear c22);(try clear c23);(try clear c25);(try clear c27);(try clear c28);(try clear hcz24_0);(try clear hcz24_1);(try clear hcz24_2);(try clear hcz26_0);(try clear hcz26_1);(try clear hcz26_2);(try clear hcz29_0);(try clear hcz29_1);(try clear hcz29_2);(try clear hfz24_0);(try clear hfz24_1);(try clear hfz24_2);(try clear hfz26_0);(try clear hfz26_1);(try clear hfz26_2);(try clear hfz29_0);(try clear hfz29_1);(try clear hfz29_2)
  obtain ⟨kq,x26_4,rfl,HA,HJ4,HO_468000,HO_468002,BK459,BK460,BK467,HB⟩:=hcut
  cases kq with
  | zero=>exact absurd HA.out (by simp [impl_SumAdd.j0])
  | succ kj4 =>
   have H:=HA.out
   clear HA
   simp only [impl_SumAdd.j0] at H
   by_cases c31 : x26_4 = true
   case pos =>
    subst c31
    have H1 : (some (t461,a0_1,t464)) = some (r1,r2,r3):=by rw [if_pos rfl] at H;exact H
    clear H
    have H:=H1
    clear H1
    simp only [Option.some.injEq,Prod.mk.injEq] at H
    obtain ⟨rfl,rfl,rfl⟩:=H
    have hnb32:=NB467_459.out
    have hnc32:=NB459_467.out
    have hnb33:=NB467_460.out
    have hnc33:=NB460_467.out
    have hcz34_0 : wc.cell? ⟨gb467,0,none⟩ = some (.slice Ao16 t461.length co16):=(Ze BK467.out 0).trans rfl
    have hcz34_1 : wc.cell? ⟨gb467,1,none⟩ = some (.int .i64 a0_1):=(Ze BK467.out 1).trans rfl
    have hcz34_2 : wc.cell? ⟨gb467,2,none⟩ = some (.slice Ao15 t464.length co15):=(Ze BK467.out 2).trans rfl
    have hfz34_0:=Zg BK467.out 0
    have hfz34_1:=Zg BK467.out 1
    have hfz34_2:=Zg BK467.out 2
    have hnb35:=NB460_459.out
    have hnc35:=NB459_460.out
    have hcz36_0 : wc.cell? ⟨gb460,0,none⟩ = some (.slice none 0 0):=(Ze BK460.out 0).trans rfl
    have hcz36_1 : wc.cell? ⟨gb460,1,none⟩ = some (.int .i64 0):=(Ze BK460.out 1).trans rfl
    have hcz36_2 : wc.cell? ⟨gb460,2,none⟩ = some (.slice none 0 0):=(Ze BK460.out 2).trans rfl
    have hfz36_0:=Zg BK460.out 0
    have hfz36_1:=Zg BK460.out 1
    have hfz36_2:=Zg BK460.out 2
    go_wp2
    refine bodyPost_ret (results_cell_row rfl _ _ gb460 31 #[.slice Ao16 t461.length co16,.int .i64 a0_1,.slice Ao15 t464.length co15] (0,0) _ rfl (by (with_reducible repeat (first|refine Z8 ?_ _|refine Za ?_|refine Z9 ?_ _));refine blk_put (cs:=#[.slice Ao16 t461.length co16,.int .i64 a0_1,.slice none 0 0]) ?_ 2 _ rfl;(with_reducible repeat (first|refine Z8 ?_ _|refine Za ?_|refine Z9 ?_ _));refine blk_put (cs:=#[.slice Ao16 t461.length co16,.int .i64 0,.slice none 0 0]) ?_ 1 _ rfl;(with_reducible repeat (first|refine Z8 ?_ _|refine Za ?_|refine Z9 ?_ _));refine blk_put (cs:=#[.slice none 0 0,.int .i64 0,.slice none 0 0]) ?_ 0 _ rfl;(with_reducible repeat (first|refine Z8 ?_ _|refine Za ?_|refine Z9 ?_ _));exact BK460.out) Try.underlying31 rfl (by kernel_rfl)) rfl ?_
    exact ⟨_,_,by first|rfl|(simp [errW_none,errW_some]<;>rfl)|(simp [*,errW_none,errW_some]<;>rfl),by (with_reducible repeat (first|apply Z3|apply Z2|apply Z4));exact Zh (Kd.R_far (p:=⟨gb460,2,none⟩) (Kd.R_far (p:=⟨gb460,1,none⟩) (Kd.R_far (p:=⟨gb460,0,none⟩) (Kd.R_types HO_468000.out BK460.out (by decide)) (fun _ hk=>hk.2) (.slice Ao16 t461.length co16)) (fun _ hk=>hk.2) (.int .i64 a0_1)) (fun _ hk=>hk.2) (.slice Ao15 t464.length co15)) (fun _ hk=>trivial),by (with_reducible repeat (first|apply Z3|apply Z2|apply Z4));exact Zh (Kd.R_far (p:=⟨gb460,2,none⟩) (Kd.R_far (p:=⟨gb460,1,none⟩) (Kd.R_far (p:=⟨gb460,0,none⟩) (Kd.R_types HO_468002.out BK460.out (by decide)) (fun _ hk=>hk.2) (.slice Ao16 t461.length co16)) (fun _ hk=>hk.2) (.int .i64 a0_1)) (fun _ hk=>hk.2) (.slice Ao15 t464.length co15)) (fun _ hk=>trivial),by repeat (first|(with_reducible first|exact HB.out|apply Z6|apply Z1|apply Z5|refine Z7 ?_ GE459.out|refine Z7 ?_ GE460.out|refine Z7 ?_ GE467.out)|exact HB.out)⟩
   replace c31:=Bool.eq_false_iff.mpr c31
   subst c31
   have H1 : (if t464.length + l1.length < 140737488355328 then (impl_SumAdd.l0 kj4 (t464 ++ l1) t461 (wrap64 (a0_1 + (l1.length : Int)))) else (none)) = some (r1,r2,r3):=by rw [if_neg (show ¬ (false = true) by decide)] at H;exact H
   clear H
   have H:=H1
   clear H1
   by_cases c37 : t464.length + l1.length < 140737488355328
   case neg =>
    rw [if_neg c37] at H
    exact absurd H (by simp)
   rw [if_pos c37] at H
   have LMc37:=Z0 c37
   clear c37
   obtain ⟨y469,hy469⟩ : ∃ y_ : List Int,y_ = (t464 ++ l1):=⟨_,rfl⟩
   replace H : (impl_SumAdd.l0 kj4 y469 t461 (wrap64 (a0_1 + (l1.length : Int)))) = some (r1,r2,r3):=by first|(rw [hy469];with_reducible exact H)|(have H2_:=(Zm _ _).symm.trans H;rw [hy469];with_reducible exact H2_)|(have H2_:=(Zm _ _).symm.trans H;with_reducible exact H2_)|with_reducible exact H|(rw [hy469];exact H)|exact H
   have Ny469:=Z0 hy469
   clear hy469
   have H':=Z0 H
   clear H
   have hnb38:=NB467_459.out
   have hnc38:=NB459_467.out
   have hnb39:=NB467_460.out
   have hnc39:=NB460_467.out
   have hcz40_0 : wc.cell? ⟨gb467,0,none⟩ = some (.slice Ao16 t461.length co16):=(Ze BK467.out 0).trans rfl
   have hcz40_1 : wc.cell? ⟨gb467,1,none⟩ = some (.int .i64 a0_1):=(Ze BK467.out 1).trans rfl
   have hcz40_2 : wc.cell? ⟨gb467,2,none⟩ = some (.slice Ao15 t464.length co15):=(Ze BK467.out 2).trans rfl
   have hfz40_0:=Zg BK467.out 0
   have hfz40_1:=Zg BK467.out 1
   have hfz40_2:=Zg BK467.out 2
   go_wp2_with (first|((with_reducible refine gate_builtin (b:=.append) (xs:=#[.tmp 35,.tmp 36]) rfl ?_);(try (refine gate_guard (by rfl) ?_;dsimp only));at_builtin;refine Kd.R_append_rows (Kd.int .u8) (w0:=w) w.heap.size rfl (.tmp 35) (.tmp 36) 22 5 (.int .u8 0) 1 rfl Try.underlying22 info5 rfl (by decide) (by omega) (.slice Ao15 t464.length co15) t464 l1 _ _ _ (fun _=>True) (fun _=>False) rfl rfl ?aO ?aR (fun _ _ h=>h) (fun _ h=>h.elim) ?aF ?aB ?aS ?aL ?_;(case aR=>exact Zi HR1.out (by repeat (first|(with_reducible first|exact HB.out|apply Z6|apply Z1|apply Z5|refine Z7 ?_ GE459.out|refine Z7 ?_ GE460.out|refine Z7 ?_ GE467.out)|exact HB.out)));(case aB=>exact (by repeat (first|(with_reducible first|exact HB.out|apply Z6|apply Z1|apply Z5|refine Z7 ?_ GE459.out|refine Z7 ?_ GE460.out|refine Z7 ?_ GE467.out)|exact HB.out)));(case aF=>exact (fun _ _=>trivial));(case aO=>exact (by (with_reducible repeat (first|apply Z3|apply Z2|apply Z4));exact Zh (Kd.R_far (p:=⟨gb467,1,none⟩) (Kd.R_types HO_468002.out BK467.out (by decide)) (fun _ hk=>hk.2) (.int .i64 (wrap64 (a0_1 + (l1.length : Int))))) (fun _ hk=>trivial)));(case aS=>exact (Zb (by repeat (first|(with_reducible first|exact HB.out|apply Z6|apply Z1|apply Z5|refine Z7 ?_ GE459.out|refine Z7 ?_ GE460.out|refine Z7 ?_ GE467.out)|exact HB.out))));(case aL=>have:=LMc37.out;omega);intro v470 w41 ho hb hg hat;rw [← Ny469.out] at ho;have n0_:=Z0 (Kd.R_over' (by (with_reducible repeat (first|apply Z3|apply Z2|apply Z4));exact (Zh (Kd.R_far (p:=⟨gb467,1,none⟩) (Kd.R_types HO_468000.out BK467.out (by decide)) (fun _ hk=>hk.2) (.int .i64 (wrap64 (a0_1 + (l1.length : Int))))) (fun _ h_=>h_.1))) (Kd.R_typed (by (with_reducible repeat (first|apply Z3|apply Z2|apply Z4));exact (Zh (Kd.R_far (p:=⟨gb467,1,none⟩) (Kd.R_types HO_468002.out BK467.out (by decide)) (fun _ hk=>hk.2) (.int .i64 (wrap64 (a0_1 + (l1.length : Int))))) (fun _ h_=>h_.1)))) (by decide) hg);have n1_:=Z0 (blk_grown (g:=gb459) (o:=.cells #[.slice A0_0 l0_0.length c0_0,.int .i64 a0_1,.slice A0_2 l0_2.length c0_2] 31 (0,0)) (by (with_reducible repeat (first|refine Z8 ?_ _|refine Za ?_|refine Z9 ?_ _));refine blk_far ?_ NB459_467.out _;(with_reducible repeat (first|refine Z8 ?_ _|refine Za ?_|refine Z9 ?_ _));exact BK459.out) hg (Kd.R_ne HO_468002.out BK459.out (by decide)));have n2_:=Z0 (blk_grown (g:=gb460) (o:=.cells #[.slice none 0 0,.int .i64 0,.slice none 0 0] 31 (0,0)) (by (with_reducible repeat (first|refine Z8 ?_ _|refine Za ?_|refine Z9 ?_ _));refine blk_far ?_ NB460_467.out _;(with_reducible repeat (first|refine Z8 ?_ _|refine Za ?_|refine Z9 ?_ _));exact BK460.out) hg (Kd.R_ne HO_468002.out BK460.out (by decide)));have n3_:=Z0 (blk_grown (g:=gb467) (o:=.cells #[.slice Ao16 t461.length co16,.int .i64 (wrap64 (a0_1 + (l1.length : Int))),.slice Ao15 t464.length co15] 31 (0,0)) (by (with_reducible repeat (first|refine Z8 ?_ _|refine Za ?_|refine Z9 ?_ _));refine blk_put (cs:=#[.slice Ao16 t461.length co16,.int .i64 a0_1,.slice Ao15 t464.length co15]) ?_ 1 _ rfl;(with_reducible repeat (first|refine Z8 ?_ _|refine Za ?_|refine Z9 ?_ _));exact BK467.out) hg (Kd.R_ne HO_468002.out BK467.out (by decide)));have n4_:=Z0 (hb);have n5_:=Z0 (ho);clear HO_468000;clear BK459;clear BK460;clear BK467;clear HB;clear HO_468002;have HO_468000:=n0_;have BK459:=n1_;have BK460:=n2_;have BK467:=n3_;have HB:=n4_;have HO471:=n5_;clear n0_ n1_ n2_ n3_ n4_ n5_;clear ho hb hg hat))
   go_loopg [6] kj4 (fun kq v6 w'=>∃ (x6_2 : List Int) (x468000_2 : List Int) (u468000 : Value),Aside0 (impl_SumAdd.l0 kq x6_2 x468000_2 (wrap64 (a0_1 + (l1.length : Int))) = some (r1,r2,r3)) ∧ Aside0 (kq ≤ kj4) ∧ Aside0 (Kd.Q (Kd.int .u8) 5 w' w.heap.size (fun _=>True) v6 x6_2) ∧ Aside0 (Kd.R (Kd.int .i64) 3 w' w.heap.size (fun _=>True) u468000 x468000_2) ∧ Aside0 (w'.heap[gb459]? = some (.cells #[(.slice A0_0 l0_0.length c0_0),.int .i64 a0_1,(.slice A0_2 l0_2.length c0_2)] 31 (0,0))) ∧ Aside0 (w'.heap[gb460]? = some (.cells #[(.slice none 0 0),.int .i64 0,(.slice none 0 0)] 31 (0,0))) ∧ Aside0 (w'.heap[gb467]? = some (.cells #[u468000,.int .i64 (wrap64 (a0_1 + (l1.length : Int))),(.slice Ao15 t464.length co15)] 31 (0,0))) ∧ Aside0 (Below w.heap.size w w'))
   case atStart=>exact ⟨(y469),(t461),(.slice Ao16 t461.length co16),H',⟨Zs _⟩,⟨Kd.Q_of_R (by (with_reducible repeat (first|apply Z3|apply Z2|apply Z4));exact HO471.out)⟩,⟨by (with_reducible repeat (first|apply Z3|apply Z2|apply Z4));exact HO_468000.out⟩,⟨by (with_reducible repeat (first|refine Z8 ?_ _|refine Za ?_|refine Z9 ?_ _));exact BK459.out⟩,⟨by (with_reducible repeat (first|refine Z8 ?_ _|refine Za ?_|refine Z9 ?_ _));exact BK460.out⟩,⟨by (with_reducible repeat (first|refine Z8 ?_ _|refine Za ?_|refine Z9 ?_ _));exact BK467.out⟩,⟨by repeat (first|(with_reducible first|exact HB.out|apply Z6|apply Z1|apply Z5|refine Z7 ?_ GE459.out|refine Z7 ?_ GE460.out|refine Z7 ?_ GE467.out)|exact HB.out)⟩⟩
   case round =>
    clear H'
    (try clear c1);(try clear c2);(try clear p2);(try clear c3);(try clear p6);(try clear c12);(try clear c18);(try clear c21);(try clear c22);(try clear c23);(try clear c25);(try clear c27);(try clear c28);(try clear c31);(try clear c32);(try clear c33);(try clear c35);(try clear c37);(try clear c38);(try clear c39);(try clear hcz24_0);(try clear hcz24_1);(try clear hcz24_2);(try clear hcz26_0);(try clear hcz26_1);(try clear hcz26_2);(try clear hcz29_0);(try clear hcz29_1);(try clear hcz29_2);(try clear hcz34_0);(try clear hcz34_1);(try clear hcz34_2);(try clear hcz36_0);(try clear hcz36_1);(try clear hcz36_2);(try clear hcz40_0);(try clear hcz40_1);(try clear hcz40_2);(try clear hfz24_0);(try clear hfz24_1);(try clear hfz24_2);(try clear hfz26_0);(try clear hfz26_1);(try clear hfz26_2);(try clear hfz29_0);(try clear hfz29_1);(try clear hfz29_2);(try clear hfz34_0);(try clear hfz34_1);(try clear hfz34_2);(try clear hfz36_0);(try clear hfz36_1);(try clear hfz36_2);(try clear hfz40_0);(try clear hfz40_1);(try clear hfz40_2);(try clear p2);(try clear p6)
    obtain ⟨x6_2,x468000_2,u468000,HA,HK2,HO_6,HO_468000,BK459,BK460,BK467,HB⟩:=hrel
    cases gk with
    | zero=>exact absurd HA.out (by simp [impl_SumAdd.l0])
    | succ k2 =>
     have H:=HA.out
     clear HA
     simp only [impl_SumAdd.l0] at H
     by_cases c42 : (x6_2.length : Int) ≥ 64
     case neg =>
      rw [if_neg c42] at H
      have c42b0 : decide (64 ≤ (x6_2.length : Int)) = false:=decide_eq_false c42
      have c42b1 : decide (64 ≤ x6_2.length) = false:=decide_eq_false (by omega)
      clear c42
      replace H:=Option.bind_eq_some_iff.mp H
      obtain ⟨t482,A550,H⟩:=H
      replace H : (some (x468000_2,(wrap64 (a0_1 + (l1.length : Int))),t482)) = some (r1,r2,r3):=H
      have A55:=Z0 A550
      clear A550
      simp only [Option.some.injEq,Prod.mk.injEq] at H
      obtain ⟨rfl,rfl,rfl⟩:=H
      obtain ⟨Ao56,co56,eo56,_⟩:=Kd.Q_slice HO_6.out
      subst eo56
      go_wp2_with (first|((with_reducible refine gate_callee (f:=12) rfl ?_);refine goesL_ (some 50) rfl rfl Try.func12 (by kernel_rfl) rfl #[.slice Ao56 x6_2.length co56] rfl (by (try simp only [Zp,Zq,Zr]);first|done|rfl|(simp only [Zn,Zo];rfl)) ?_;(with_reducible refine (slices_Clone_byte_byte.calls _ _ x6_2 t482 _ ?side1 ?side2 A55.out).mono ?_);(case side1=>repeat (first|exact (Kd.Q_reads' HO_6.out).2.2|(with_reducible refine Zd ?_ _)|(with_reducible refine Zc ?_ _)|(with_reducible refine Kd.C_drew ?_)));(case side2=>exact (Kd.Q_reads' HO_6.out).2.1);rintro e w57 ⟨v483,rfl,ho0,hb⟩;refine ⟨_,rfl,?_⟩;have n0_:=Z0 (Kd.Q_elder' (by (with_reducible repeat (first|apply Kd.Q_alloc|apply Kd.Q_drewN|apply Kd.Q_drew));exact HO_6.out) (Kd.R_base ho0) hb);have n1_:=Z0 (Kd.R_below (by (with_reducible repeat (first|apply Z3|apply Z2|apply Z4));exact HO_468000.out) hb);have n2_:=Z0 (Kd.R_lower (Kd.R_new' ho0 (Kd.Q_lt (by (with_reducible repeat (first|apply Kd.Q_alloc|apply Kd.Q_drewN|apply Kd.Q_drew));exact HO_6.out))) (Zb (by repeat (first|(with_reducible first|exact HB.out|apply Z6|apply Z1|apply Z5|refine Z7 ?_ GE459.out|refine Z7 ?_ GE460.out|refine Z7 ?_ GE467.out)|exact HB.out))));have n3_:=Z0 (blk_below (g:=gb459) (o:=.cells #[.slice A0_0 l0_0.length c0_0,.int .i64 a0_1,.slice A0_2 l0_2.length c0_2] 31 (0,0)) (by (with_reducible repeat (first|refine Z8 ?_ _|refine Za ?_|refine Z9 ?_ _));exact BK459.out) hb);have n4_:=Z0 (blk_below (g:=gb460) (o:=.cells #[.slice none 0 0,.int .i64 0,.slice none 0 0] 31 (0,0)) (by (with_reducible repeat (first|refine Z8 ?_ _|refine Za ?_|refine Z9 ?_ _));exact BK460.out) hb);have n5_:=Z0 (blk_below (g:=gb467) (o:=.cells #[u468000,.int .i64 (wrap64 (a0_1 + (l1.length : Int))),.slice Ao15 t464.length co15] 31 (0,0)) (by (with_reducible repeat (first|refine Z8 ?_ _|refine Za ?_|refine Z9 ?_ _));exact BK467.out) hb);have n6_:=Z0 (Zf (by repeat (first|(with_reducible first|exact HB.out|apply Z6|apply Z1|apply Z5|refine Z7 ?_ GE459.out|refine Z7 ?_ GE460.out|refine Z7 ?_ GE467.out)|exact HB.out)) hb);clear HO_6;clear HO_468000;clear BK459;clear BK460;clear BK467;clear HB;have HO_6:=n0_;have HO_468000:=n1_;have HO484:=n2_;have BK459:=n3_;have BK460:=n4_;have BK467:=n5_;have HB:=n6_;clear n0_ n1_ n2_ n3_ n4_ n5_ n6_;(try clear hb);(try clear hb2);(try clear hk);(try clear hi);(try clear ho0);obtain ⟨Ao58,co58,eo58⟩:=Kd.R_slice HO484.out;subst eo58;have hnb59:=NB467_459.out;have hnc59:=NB459_467.out;have hnb60:=NB467_460.out;have hnc60:=NB460_467.out;have hcz61_0 : w57.cell? ⟨gb467,0,none⟩ = some (u468000):=(Ze BK467.out 0).trans rfl;have hcz61_1 : w57.cell? ⟨gb467,1,none⟩ = some (.int .i64 (wrap64 (a0_1 + (l1.length : Int)))):=(Ze BK467.out 1).trans rfl;have hcz61_2 : w57.cell? ⟨gb467,2,none⟩ = some (.slice Ao15 t464.length co15):=(Ze BK467.out 2).trans rfl;have hfz61_0:=Zg BK467.out 0;have hfz61_1:=Zg BK467.out 1;have hfz61_2:=Zg BK467.out 2;obtain ⟨Ao62,co62,eo62⟩:=Kd.R_slice HO_468000.out;subst eo62;have hnb63:=NB460_459.out;have hnc63:=NB459_460.out;have hcz64_0 : w57.cell? ⟨gb460,0,none⟩ = some (.slice none 0 0):=(Ze BK460.out 0).trans rfl;have hcz64_1 : w57.cell? ⟨gb460,1,none⟩ = some (.int .i64 0):=(Ze BK460.out 1).trans rfl;have hcz64_2 : w57.cell? ⟨gb460,2,none⟩ = some (.slice none 0 0):=(Ze BK460.out 2).trans rfl;have hfz64_0:=Zg BK460.out 0;have hfz64_1:=Zg BK460.out 1;have hfz64_2:=Zg BK460.out 2))
      refine bodyPost_ret (results_cell_row rfl _ _ gb460 31 #[.slice Ao62 x468000_2.length co62,.int .i64 (wrap64 (a0_1 + (l1.length : Int))),.slice Ao58 t482.length co58] (0,0) _ rfl (by (with_reducible repeat (first|refine Z8 ?_ _|refine Za ?_|refine Z9 ?_ _));refine blk_put (cs:=#[.slice Ao62 x468000_2.length co62,.int .i64 (wrap64 (a0_1 + (l1.length : Int))),.slice none 0 0]) ?_ 2 _ rfl;(with_reducible repeat (first|refine Z8 ?_ _|refine Za ?_|refine Z9 ?_ _));refine blk_put (cs:=#[.slice Ao62 x468000_2.length co62,.int .i64 0,.slice none 0 0]) ?_ 1 _ rfl;(with_reducible repeat (first|refine Z8 ?_ _|refine Za ?_|refine Z9 ?_ _));refine blk_put (cs:=#[.slice none 0 0,.int .i64 0,.slice none 0 0]) ?_ 0 _ rfl;(with_reducible repeat (first|refine Z8 ?_ _|refine Za ?_|refine Z9 ?_ _));refine blk_far ?_ NB460_467.out _;(with_reducible repeat (first|refine Z8 ?_ _|refine Za ?_|refine Z9 ?_ _));exact BK460.out) Try.underlying31 rfl (by kernel_rfl)) rfl ?_
      exact ⟨_,_,by first|rfl|(simp [errW_none,errW_some]<;>rfl)|(simp [*,errW_none,errW_some]<;>rfl),by (with_reducible repeat (first|apply Z3|apply Z2|apply Z4));exact Zh (Kd.R_far (p:=⟨gb460,2,none⟩) (Kd.R_far (p:=⟨gb460,1,none⟩) (Kd.R_far (p:=⟨gb460,0,none⟩) (Kd.R_far (p:=⟨gb467,2,none⟩) (Kd.R_types (Kd.R_types HO_468000.out BK467.out (by decide)) BK460.out (by decide)) (fun _ hk=>hk.1.2) (.slice Ao58 t482.length co58)) (fun _ hk=>hk.2) (.slice Ao62 x468000_2.length co62)) (fun _ hk=>hk.2) (.int .i64 (wrap64 (a0_1 + (l1.length : Int))))) (fun _ hk=>hk.2) (.slice Ao58 t482.length co58)) (fun _ hk=>trivial),by (with_reducible repeat (first|apply Z3|apply Z2|apply Z4));exact Zh (Kd.R_far (p:=⟨gb460,2,none⟩) (Kd.R_far (p:=⟨gb460,1,none⟩) (Kd.R_far (p:=⟨gb460,0,none⟩) (Kd.R_far (p:=⟨gb467,2,none⟩) (Kd.R_types (Kd.R_types HO484.out BK467.out (by decide)) BK460.out (by decide)) (fun _ hk=>hk.1.2) (.slice Ao58 t482.length co58)) (fun _ hk=>hk.2) (.slice Ao62 x468000_2.length co62)) (fun _ hk=>hk.2) (.int .i64 (wrap64 (a0_1 + (l1.length : Int))))) (fun _ hk=>hk.2) (.slice Ao58 t482.length co58)) (fun _ hk=>trivial),by repeat (first|(with_reducible first|exact HB.out|apply Z6|apply Z1|apply Z5|refine Z7 ?_ GE459.out|refine Z7 ?_ GE460.out|refine Z7 ?_ GE467.out)|exact HB.out)⟩
     rw [if_pos c42] at H
     have c42b0 : decide (64 ≤ (x6_2.length : Int)) = true:=decide_eq_true c42
     have c42b1 : decide (64 ≤ x6_2.length) = true:=decide_eq_true (by omega)
     clear c42
     have HC43:=Z0 H
     clear H
     obtain ⟨Ao44,co44,eo44,_⟩:=Kd.Q_slice HO_6.out
     subst eo44
     go_upto_region 7 with (fail)
     go_cut [] (fun wc=>∃ (kq : Nat) (x468000_42 : List Int) (u468000 : Value),Aside0 (impl_SumAdd.j2 kq x6_2 x468000_42 (wrap64 (a0_1 + (l1.length : Int))) = some (r1,r2,r3)) ∧ Aside0 (kq ≤ k2) ∧ Aside0 (Kd.Q (Kd.int .u8) 5 wc w.heap.size (fun _=>True) (.slice Ao44 x6_2.length co44) x6_2) ∧ Aside0 (Kd.R (Kd.int .i64) 3 wc w.heap.size (fun _=>True) u468000 x468000_42) ∧ Aside0 (wc.heap[gb459]? = some (.cells #[(.slice A0_0 l0_0.length c0_0),.int .i64 a0_1,(.slice A0_2 l0_2.length c0_2)] 31 (0,0))) ∧ Aside0 (wc.heap[gb460]? = some (.cells #[(.slice none 0 0),.int .i64 0,(.slice none 0 0)] 31 (0,0))) ∧ Aside0 (wc.heap[gb467]? = some (.cells #[u468000,.int .i64 (wrap64 (a0_1 + (l1.length : Int))),(.slice Ao15 t464.length co15)] 31 (0,0))) ∧ Aside0 (Below w.heap.size w wc))
     case first =>
      have H:=HC43.out
      clear HC43
      by_cases c45 : 64 ≤ (x6_2.length : Int)
      case neg =>
       rw [if_neg c45] at H
       exact absurd H (by simp)
      rw [if_pos c45] at H
      have c45b0:=eq_true c45
      have c45b1 : decide (64 ≤ (x6_2.length : Int)) = true:=decide_eq_true c45
      clear c45
      obtain ⟨y472,hy472⟩ : ∃ y_ : List Int,y_ = (x6_2.take 64):=⟨_,rfl⟩
      replace H : ((impl_turned.f k2 x468000_2 y472).bind fun t476=>(impl_SumAdd.j2 k2 x6_2 t476 (wrap64 (a0_1 + (l1.length : Int))))) = some (r1,r2,r3):=by first|(rw [hy472];with_reducible exact H)|(have H2_:=(Zm _ _).symm.trans H;rw [hy472];with_reducible exact H2_)|(have H2_:=(Zm _ _).symm.trans H;with_reducible exact H2_)|with_reducible exact H|(rw [hy472];exact H)|exact H
      have Ny472:=Z0 hy472
      clear hy472
      replace H:=Option.bind_eq_some_iff.mp H
      obtain ⟨t476,A460,H⟩:=H
      replace H : (impl_SumAdd.j2 k2 x6_2 t476 (wrap64 (a0_1 + (l1.length : Int)))) = some (r1,r2,r3):=H
      have A46:=Z0 A460
      clear A460
      have H':=Z0 H
      clear H
      try go_wp2
      have n0_:=Z0 (Kd.Q_drew HO_6.out)
      have n1_:=Z0 (Z4 HO_468000.out)
      have n2_:=Z0 (Za BK459.out)
      have n3_:=Z0 (Za BK460.out)
      have n4_:=Z0 (Za BK467.out)
      have n5_:=Z0 (Z5 HB.out)
      clear HO_6
      clear HO_468000
      clear BK459
      clear BK460
      clear BK467
      clear HB
      have HO_6:=n0_
      have HO_468000:=n1_
      have BK459:=n2_
      have BK460:=n3_
      have BK467:=n4_
      have HB:=n5_
      clear n0_ n1_ n2_ n3_ n4_ n5_
      have q48 : (64 : Int) ≤ ((x6_2.length : Int) : Int):=of_decide_eq_true (by first|(with_reducible assumption)|assumption)
      obtain ⟨i048,hi048,_,hsz48,_⟩:=info_parts info5
      have hroom48 : x6_2.length ≤ co44:=(Kd.Q_reads' HO_6.out).2.1
      have hC48 : Kd.C (Kd.int .u8) _ Ao44 x6_2.length x6_2:=(Kd.Q_reads' HO_6.out).2.2
      have hcut48:=cut_to (P:=Try.prog) 22 5 .i64 Try.underlying22 hi048 Ao44 x6_2.length co44 64 (by omega) q48 hroom48
      have hr48:=Kd.C_take (m:=64) hC48 (by omega)
      have hy48 : y472.length = (64 : Int).toNat:=(by rw [Ny472.out,Zo];omega)
      rw [← Ny472.out] at hr48
      rw [← hy48] at hcut48
      have HR475:=Z0 hr48
      have HC475:=Z0 (show y472.length ≤ co44 from by omega)
      clear hr48 hC48 hroom48 hi048 hsz48
      have KY48:=Z0 hy48
      clear hy48
      have KL48:=Z0 (show 64 ≤ x6_2.length from by omega)
      replace q48:=eq_true q48
      obtain ⟨Ao49,co49,eo49⟩:=Kd.R_slice HO_468000.out
      (first|subst eo49|(injection eo49 with f1_ f2_ f3_;have f4_:=f1_.symm;have f5_:=f3_.symm;clear f1_ f2_ f3_;subst f4_;subst f5_))
      refine start_ (n:=7) (S:=fun w'=>w'.cell? ⟨gb467,0,none⟩ = some (.slice Ao49 x468000_2.length co49) ∧ w'.cell? ⟨gb467,1,none⟩ = some (.int .i64 (wrap64 (a0_1 + (l1.length : Int)))) ∧ w'.cell? ⟨gb467,2,none⟩ = some (.slice Ao15 t464.length co15)) (ds:=[6]) #[false,false,false,false,false,false,false] (by kernel_rfl) rfl rfl ⟨(Ze BK467.out 0).trans rfl,(Ze BK467.out 1).trans rfl,(Ze BK467.out 2).trans rfl⟩ (fun hHeld=>?_)
      generalize wr.drew = w47 at HO_6 HO_468000 BK459 BK460 BK467 HB HR475 hHeld ⊢
      refine pure_ (i:=0) (N:=some 41) (v:=?_) (a':=?_) #[true,false,false,false,false,false,false] rfl rfl (by kernel_rfl) (fun _ _ _ h=>h) (Or.inl ⟨by rfl,?_⟩) ?_ ?_
      rotate_left
      · intro w'
        go_simp
        with_reducible rfl
      rotate_left
      · simp only [Act.put, Zj, Zk, Zl, i64_w, i32_w]
        rfl
      refine pure_ (i:=2) (N:=some 43) (v:=?_) (a':=?_) #[true,false,true,false,false,false,false] rfl rfl (by kernel_rfl) (fun _ _ _ h=>h) (Or.inl ⟨by rfl,?_⟩) ?_ ?_
      rotate_left
      · intro w'
        go_simp
        with_reducible rfl
      rotate_left
      · simp only [Act.put, Zj, Zk, Zl, i64_w, i32_w]
        rfl
      refine pure_ (i:=3) (N:=some 44) (v:=?_) (a':=?_) #[true,false,true,true,false,false,false] rfl rfl (by kernel_rfl) (fun _ _ _ h=>h) (Or.inl ⟨by rfl,?_⟩) ?_ ?_
      rotate_left
      · intro w'
        go_simp
        with_reducible rfl
      rotate_left
      · simp only [Act.put, Zj, Zk, Zl, i64_w, i32_w]
        rfl
      refine take_ (i:=1) (N:=some 42) (v:=?_) (a':=?_) #[true,true,true,true,false,false,false] rfl rfl (by kernel_rfl) (fun _ _ _ h=>h) (Or.inl ⟨by rfl,?_⟩) hHeld ?_ ?_
      rotate_left
      · rintro w' ⟨s0, s1, s2⟩
        go_simp
        with_reducible rfl
      rotate_left
      · simp only [Act.put, Zj, Zk, Zl, i64_w, i32_w]
        rfl
      refine one_ (i:=4) (N:=some 45) #[true,true,true,true,true,false,false] rfl rfl (by kernel_rfl) (by decide) (fun K hK=>?_)
      refine goes_ Try.func26 (by kernel_rfl) rfl #[.slice Ao49 x468000_2.length co49,.slice Ao44 y472.length co44] (by rfl) rfl rfl (by (try simp only [Zp,Zq,Zr]);first|done|rfl|(simp only [Zn,Zo];rfl)) ?_
      with_reducible refine (impl_turned.calls k2 _ _ x468000_2 _ _ y472 t476 _ ?side1 ?side2 ?side3 ?side4 A46.out).mono ?_
      (case side1=>repeat (first|exact (Kd.R_reads' HO_468000.out).2.2|(with_reducible refine Zd ?_ _)|(with_reducible refine Zc ?_ _)|(with_reducible refine Kd.C_drew ?_)))
      (case side2=>exact (Kd.R_reads' HO_468000.out).2.1)
      (case side3=>repeat (first|exact (by repeat (first|(with_reducible exact HR475.out)|(with_reducible refine Zd ?_ _)|(with_reducible refine Zc ?_ _)|(with_reducible refine Kd.C_drew ?_)|exact HR475.out))|(with_reducible refine Zd ?_ _)|(with_reducible refine Zc ?_ _)|(with_reducible refine Kd.C_drew ?_)))
      (case side4=>exact HC475.out)
      rintro e w50 ⟨v477,rfl,ho0,hb⟩
      refine ⟨_,rfl,?_⟩
      have n0_:=Z0 (Kd.Q_below (by (with_reducible repeat (first|apply Kd.Q_alloc|apply Kd.Q_drewN|apply Kd.Q_drew));exact HO_6.out) hb)
      have n1_:=Z0 (Kd.R_elder' (by (with_reducible repeat (first|apply Z3|apply Z2|apply Z4));exact HO_468000.out) (Kd.R_base ho0) hb)
      have n2_:=Z0 (Kd.R_lower (Kd.R_new' ho0 (Kd.R_lt (by (with_reducible repeat (first|apply Z3|apply Z2|apply Z4));exact HO_468000.out))) (Zb (by repeat (first|(with_reducible first|exact HB.out|apply Z6|apply Z1|apply Z5|refine Z7 ?_ GE459.out|refine Z7 ?_ GE460.out|refine Z7 ?_ GE467.out)|exact HB.out))))
      have n3_:=Z0 (blk_below (g:=gb459) (o:=.cells #[.slice A0_0 l0_0.length c0_0,.int .i64 a0_1,.slice A0_2 l0_2.length c0_2] 31 (0,0)) (by (with_reducible repeat (first|refine Z8 ?_ _|refine Za ?_|refine Z9 ?_ _));exact BK459.out) hb)
      have n4_:=Z0 (blk_below (g:=gb460) (o:=.cells #[.slice none 0 0,.int .i64 0,.slice none 0 0] 31 (0,0)) (by (with_reducible repeat (first|refine Z8 ?_ _|refine Za ?_|refine Z9 ?_ _));exact BK460.out) hb)
      have n5_:=Z0 (blk_below (g:=gb467) (o:=.cells #[.slice Ao49 x468000_2.length co49,.int .i64 (wrap64 (a0_1 + (l1.length : Int))),.slice Ao15 t464.length co15] 31 (0,0)) (by (with_reducible repeat (first|refine Z8 ?_ _|refine Za ?_|refine Z9 ?_ _));exact BK467.out) hb)
      have n6_:=Z0 (Zi (by repeat (first|(with_reducible exact HR475.out)|(with_reducible refine Zd ?_ _)|(with_reducible refine Zc ?_ _)|(with_reducible refine Kd.C_drew ?_)|exact HR475.out)) hb)
      have n7_:=Z0 (Zf (by repeat (first|(with_reducible first|exact HB.out|apply Z6|apply Z1|apply Z5|refine Z7 ?_ GE459.out|refine Z7 ?_ GE460.out|refine Z7 ?_ GE467.out)|exact HB.out)) hb)
      clear HO_6
      clear HO_468000
      clear BK459
      clear BK460
      clear BK467
      clear HR475
      clear HB
      have HO_6:=n0_
      have HO_468000:=n1_
      have HO478:=n2_
      have BK459:=n3_
      have BK460:=n4_
      have BK467:=n5_
      have HR475:=n6_
      have HB:=n7_
      clear n0_ n1_ n2_ n3_ n4_ n5_ n6_ n7_
      (try clear hb)
      (try clear hb2)
      (try clear hk)
      (try clear hi)
      (try clear ho0)
      obtain ⟨Ao51,co51,eo51⟩:=Kd.R_slice HO478.out
      (first|subst eo51|(injection eo51 with f1_ f2_ f3_;have f4_:=f1_.symm;have f5_:=f3_.symm;clear f1_ f2_ f3_;subst f4_;subst f5_))
      refine hK.out _ _ ⟨(Ze BK467.out 0).trans rfl,(Ze BK467.out 1).trans rfl,(Ze BK467.out 2).trans rfl⟩ (fun hHeld=>?_)
      clear hK K
      refine norm_ (a':=?_) ?_ ?_
      rotate_left
      · show Act.put _ (some 45) _ = _
        simp only [Act.put,Zj,Zk,Zl,i64_w,i32_w]
        rfl
      refine pure_ (i:=5) (N:=some 46) (v:=?_) (a':=?_) #[true,true,true,true,true,true,false] rfl rfl (by kernel_rfl) (fun _ _ _ h=>h) (Or.inl ⟨by rfl,?_⟩) ?_ ?_
      rotate_left
      · intro w'
        go_simp
        with_reducible rfl
      rotate_left
      · simp only [Act.put, Zj, Zk, Zl, i64_w, i32_w]
        rfl
      refine last_ (i:=6) (N:=none) #[true,true,true,true,true,true,true] rfl rfl (by kernel_rfl) (by decide) (fun K hK=>?_)
      have hs52 : w50.cell? ⟨gb467,0,none⟩ = some (.slice Ao49 x468000_2.length co49):=(Ze BK467.out 0).trans rfl
      have hfs52:=Zg BK467.out 0
      have hns52_0:=NB459_467.out
      have hns52_1:=NB460_467.out
      have hms52_0:=NB467_459.out
      have hms52_1:=NB467_460.out
      refine skip_ (w1:=?_) (by rfl) rfl ?_ ?_
      rotate_left
      · go_simp
        rfl
      refine hK.out _ _ ?_
      clear hK K
      refine done_ (by kernel_rfl) ?_
      try go_wp2
      go_meet
      case rel=>exact ⟨_,(t476),(.slice Ao51 t476.length co51),H',⟨by have:=HJ4.out;have:=HK2.out;first|omega|exact Zs _⟩,⟨by (with_reducible repeat (first|apply Kd.Q_alloc|apply Kd.Q_drewN|apply Kd.Q_drew));exact Kd.Q_mono (Kd.Q_far (p:=⟨gb467,0,none⟩) (Kd.Q_types HO_6.out BK467.out (by decide)) (fun _ hk=>hk.2) (.slice Ao51 t476.length co51)) (fun _ hk=>trivial)⟩,⟨by (with_reducible repeat (first|apply Z3|apply Z2|apply Z4));exact Zh (Kd.R_far (p:=⟨gb467,0,none⟩) (Kd.R_types HO478.out BK467.out (by decide)) (fun _ hk=>hk.2) (.slice Ao51 t476.length co51)) (fun _ hk=>trivial)⟩,⟨by (with_reducible repeat (first|refine Z8 ?_ _|refine Za ?_|refine Z9 ?_ _));refine blk_far ?_ NB459_467.out _;(with_reducible repeat (first|refine Z8 ?_ _|refine Za ?_|refine Z9 ?_ _));exact BK459.out⟩,⟨by (with_reducible repeat (first|refine Z8 ?_ _|refine Za ?_|refine Z9 ?_ _));refine blk_far ?_ NB460_467.out _;(with_reducible repeat (first|refine Z8 ?_ _|refine Za ?_|refine Z9 ?_ _));exact BK460.out⟩,⟨by (with_reducible repeat (first|refine Z8 ?_ _|refine Za ?_|refine Z9 ?_ _));refine blk_put (cs:=#[.slice Ao49 x468000_2.length co49,.int .i64 (wrap64 (a0_1 + (l1.length : Int))),.slice Ao15 t464.length co15]) ?_ 0 _ rfl;(with_reducible repeat (first|refine Z8 ?_ _|refine Za ?_|refine Z9 ?_ _));exact BK467.out⟩,⟨by repeat (first|(with_reducible first|exact HB.out|apply Z6|apply Z1|apply Z5|refine Z7 ?_ GE459.out|refine Z7 ?_ GE460.out|refine Z7 ?_ GE467.out)|exact HB.out)⟩⟩
     case rest =>
      clear HC43
      (try clear c1);(try clear c2);(try clear p2);(try clear c3);(try clear c4);(try clear q4);(try clear p6);(try clear c12);(try clear c18);(try clear c21);(try clear c22);(try clear c23);(try clear c25);(try clear c26);(try clear c27);(try clear c28);(try clear c31);(try clear c32);(try clear c33);(try clear c35);(try clear c37);(try clear c38);(try clear c39);(try clear c42);(try clear c42b0);(try clear c42b1);(try clear c45);(try clear c45b0);(try clear c45b1);(try clear q48);(try clear hcz24_0);(try clear hcz24_1);(try clear hcz24_2);(try clear hcz26_0);(try clear hcz26_1);(try clear hcz26_2);(try clear hcz29_0);(try clear hcz29_1);(try clear hcz29_2);(try clear hcz34_0);(try clear hcz34_1);(try clear hcz34_2);(try clear hcz36_0);(try clear hcz36_1);(try clear hcz36_2);(try clear hcz40_0);(try clear hcz40_1);(try clear hcz40_2);(try clear hfz24_0);(try clear hfz24_1);(try clear hfz24_2);(try clear hfz26_0);(try clear hfz26_1);(try clear hfz26_2);(try clear hfz29_0);(try clear hfz29_1);(try clear hfz29_2);(try clear hfz34_0);(try clear hfz34_1);(try clear hfz34_2);(try clear hfz36_0);(try clear hfz36_1);(try clear hfz36_2);(try clear hfz40_0);(try clear hfz40_1);(try clear hfz40_2);(try clear p2);(try clear p6);(try clear q48)
      obtain ⟨kq,x468000_42,u468000,HA,HJ42,HO_6,HO_468000,BK459,BK460,BK467,HB⟩:=hcut
      cases kq with
      | zero=>exact absurd HA.out (by simp [impl_SumAdd.j2])
      | succ kj42 =>
       have H:=HA.out
       clear HA
       simp only [impl_SumAdd.j2] at H
       by_cases c53 : 64 ≤ (x6_2.length : Int)
       case neg =>
        rw [if_neg c53] at H
        exact absurd H (by simp)
       rw [if_pos c53] at H
       have c53b0:=eq_true c53
       have c53b1 : decide (64 ≤ (x6_2.length : Int)) = true:=decide_eq_true c53
       clear c53
       obtain ⟨y479,hy479⟩ : ∃ y_ : List Int,y_ = (x6_2.drop (64 : Int).toNat):=⟨_,rfl⟩
       replace H : (impl_SumAdd.l0 kj42 y479 x468000_42 (wrap64 (a0_1 + (l1.length : Int)))) = some (r1,r2,r3):=by first|(rw [hy479];with_reducible exact H)|(have H2_:=(Zm _ _).symm.trans H;rw [hy479];with_reducible exact H2_)|(have H2_:=(Zm _ _).symm.trans H;with_reducible exact H2_)|with_reducible exact H|(rw [hy479];exact H)|exact H
       have Ny479:=Z0 hy479
       clear hy479
       have H':=Z0 H
       clear H
       have q54 : (64 : Int) ≤ ((x6_2.length : Int) : Int):=of_decide_eq_true (by first|(with_reducible assumption)|assumption)
       obtain ⟨i054,hi054,_,hsz54,_⟩:=info_parts info5
       have hcut54:=cut_from (P:=Try.prog) 22 5 .i64 Try.underlying22 hi054 1 hsz54 Ao44 x6_2.length co44 64 (by omega) q54
       have hr54:=Kd.Q_drop (k:=(64 : Int).toNat) HO_6.out (by omega)
       obtain ⟨A54,hA54⟩ : ∃ A1,A1 = (if co44 = (64 : Int).toNat then Ao44 else (Ao44 : Option Addr).map (·.add ((64 : Int).toNat * 1))):=⟨_,rfl⟩
       obtain ⟨c54,hc54⟩ : ∃ c1,c1 = co44 - (64 : Int).toNat:=⟨_,rfl⟩
       have hy54 : y479.length = x6_2.length - (64 : Int).toNat:=(by rw [Ny479.out,Zn])
       rw [← Ny479.out] at hr54
       rw [← hy54,← hA54,← hc54] at hcut54
       replace hr54 : Kd.Q (Kd.int .u8) 5 wc w.heap.size (fun _=>True) (.slice A54 y479.length c54) y479:=(by rw [hA54,hc54,hy54];exact hr54)
       have HE54 : Aside0 ((Value.slice A54 y479.length c54).ownBlock = (.slice Ao44 x6_2.length co44 : Value).ownBlock):=⟨by rw [hA54];split<;>(cases (Ao44 : Option Addr)<;>rfl)⟩
       clear hy54 hi054 hsz54 HO_6 hA54 hc54
       have HO481:=Z0 hr54
       clear hr54
       replace q54:=eq_true q54
       go_wp2
       go_roundg kj42
       case measure=>have:=HJ4.out;have:=HK2.out;have:=HJ42.out;omega
       case rel=>exact ⟨(y479),(x468000_42),(u468000),H',⟨by have:=HJ4.out;have:=HK2.out;have:=HJ42.out;omega⟩,⟨by (with_reducible repeat (first|apply Kd.Q_alloc|apply Kd.Q_drewN|apply Kd.Q_drew));exact HO481.out⟩,⟨by (with_reducible repeat (first|apply Z3|apply Z2|apply Z4));exact HO_468000.out⟩,⟨by (with_reducible repeat (first|refine Z8 ?_ _|refine Za ?_|refine Z9 ?_ _));exact BK459.out⟩,⟨by (with_reducible repeat (first|refine Z8 ?_ _|refine Za ?_|refine Z9 ?_ _));exact BK460.out⟩,⟨by (with_reducible repeat (first|refine Z8 ?_ _|refine Za ?_|refine Z9 ?_ _));exact BK467.out⟩,⟨by repeat (first|(with_reducible first|exact HB.out|apply Z6|apply Z1|apply Z5|refine Z7 ?_ GE459.out|refine Z7 ?_ GE460.out|refine Z7 ?_ GE467.out)|exact HB.out)⟩⟩

end Go.Proofs.Ytpkfmjdmfphbaag.QFnExactMac
