/- The plain law of FnExactHeadOk, over numbers and lists alone: what the printed functions answer is true for all arguments. Conditions: those of the arguments' kinds. -/
import Derived.Test.YtclejdchdfmapacPFnExactHeadOkx2
import Derived.Test.YtclejdchdfmapacAid
set_option linter.unusedVariables false
set_option linter.unusedSimpArgs false
namespace Go.Proofs.Ytclejdchdfmapac.Pure
open Go.RowKit Go.Proofs.Ytclejdchdfmapac.Aid Go.Proofs.Ytclejdchdfmapac.PFnExactHeadOk Go.Proofs.YtclejdchdfmapacW.PrintWords Go.Proofs.YtclejdchdfmapacW.PrintLast Go.Proofs.YtclejdchdfmapacW.PrintMore
theorem in_tell (a b c : Int) : impl_in.f a b c = some (decide (b ≤ a ∧ a ≤ c)) := by
  unfold impl_in.f
  by_cases h : a ≥ b
  · rw [if_pos h]; congr 1; rw [Bool.eq_iff_iff]; simp only [decide_eq_true_eq]; omega
  · rw [if_neg h]; congr 1; symm; rw [decide_eq_false_iff_not]; omega

theorem l1In_tell (a b c : Int) : spec_l1In.f a b c = some (decide (b ≤ a ∧ a ≤ c)) := by
  unfold spec_l1In.f
  by_cases h : a ≥ b
  · rw [if_pos h]; congr 1; rw [Bool.eq_iff_iff]; simp only [decide_eq_true_eq]; omega
  · rw [if_neg h]; congr 1; symm; rw [decide_eq_false_iff_not]; omega

theorem toByteS_l0 (l : List Int) (hl : l.length ≤ 140737488351232) : ∀ (d : Nat) (x : List Int) (i : Nat), x.length = l.length → i + d = l.length → x.take i = l.take i → Ev (fun k => laws_toByteS.l0 k l x (i : Int)) l
  | 0, x, i, hx, hi, ht => by
    refine Ev.step (f := fun _ => some l) (fun k => ?_) (Ev.now _)
    simp only [laws_toByteS.l0]
    rw [if_neg (by omega)]
    congr 1
    rw [List.take_of_length_le (by omega), List.take_of_length_le (by omega)] at ht
    exact ht
  | d + 1, x, i, hx, hi, ht => by
    have ih := toByteS_l0 l hl d (x.set i (rd l i)) (i + 1) (by simpa using hx) (by omega) (by
      rw [List.take_succ_eq_append_getElem (by simp; omega), List.take_succ_eq_append_getElem (by omega), List.take_set_of_le (by omega), ht]
      simp [rd, List.getElem?_eq_getElem (show i < l.length by omega)])
    refine Ev.step (fun k => ?_) ih
    simp only [laws_toByteS.l0]
    rw [if_pos (by omega), if_pos (by omega), if_pos (by omega), wrap64_id (by omega) (by omega)]
    simp
theorem toByteS_ev (l : List Int) (hl : l.length ≤ 140737488351232) : Ev (fun k => laws_toByteS.f k l) l := by
  refine Ev.congr (fun k => ?_) (toByteS_l0 l hl l.length (List.replicate l.length 0) 0 (by simp) (by simp) (by simp))
  simp only [laws_toByteS.f]
  rw [if_pos (by omega), if_pos (by omega)]
  simp

theorem eqByteS_l0 (l : List Int) (hl : l.length ≤ 140737488351232) : ∀ (d : Nat) (i : Nat), i + d = l.length → Ev (fun k => laws_eqByteS.l0 k l l (i : Int)) true
  | 0, i, hi => by
    refine Ev.step (f := fun _ => some true) (fun k => ?_) (Ev.now _)
    simp only [laws_eqByteS.l0]
    rw [if_neg (by omega)]
  | d + 1, i, hi => by
    have ih := eqByteS_l0 l hl d (i + 1) (by omega)
    refine Ev.step (fun k => ?_) ih
    simp only [laws_eqByteS.l0]
    rw [if_pos (by omega), if_pos (by omega), if_pos (by omega), wrap64_id (by omega) (by omega)]
    simp
theorem eqByteS_ev (l : List Int) (hl : l.length ≤ 140737488351232) : Ev (fun k => laws_eqByteS.f k l l) true := by
  refine Ev.congr (fun k => ?_) (eqByteS_l0 l hl l.length 0 (by simp))
  simp only [laws_eqByteS.f]
  simp

theorem FnExactHeadOk : ∀ (a0_0 : Bool) (a0_1 : Int) (l0_2 : List Int), (Lit.int .i64 a0_1).wf = true → l0_2.length ≤ maxLen → (∀ x ∈ l0_2, (Lit.int .u8 x).wf = true) → ∃ k, laws_FnExactHeadOk.f k a0_0 a0_1 l0_2 = some true := by
  intro o n l _ hm _
  unfold maxLen at hm
  refine Ev.rounds ?_
  unfold laws_FnExactHeadOk.f
  by_cases hl : (l.length : Int) > 1048576
  · refine Ev.bindc (a := -1) ?_ (Ev.ifT (by omega) (Ev.now _))
    simp only [laws_szHead.f, laws_szByteS.f]
    rw [wrap64_id (by omega) (by omega), if_pos (by omega)]; simp
  · have t := toByteS_ev l (by omega)
    have e := eqByteS_ev l (by omega)
    have th : Ev (fun k => laws_toHead.f k o n l) (o, n, l) := Ev.bind t (Ev.now _)
    have eh : Ev (fun k => laws_eqHead.f k o n l o n l) true := by
      unfold laws_eqHead.f
      exact Ev.ifF (by simp) (Ev.ifT rfl (Ev.bind e (Ev.ifT rfl (Ev.now _))))
    obtain ⟨r, h1, h2⟩ : ∃ r, spec_HeadOk.f o n l = some r ∧ impl_HeadOk.f o n l = some r := by
      unfold spec_HeadOk.f impl_HeadOk.f
      rw [l1In_tell, in_tell]
      simp only [Option.bind_some]
      split
      · exact ⟨_, rfl, rfl⟩
      · exact ⟨_, rfl, rfl⟩
    refine Ev.bindc (a := 1048576 - (l.length : Int)) ?_ (Ev.ifF (by omega) (Ev.bind th (Ev.bindc h1 (Ev.bind th (Ev.bindc h2 (Ev.ifF (by simp) (Ev.bind th (Ev.bind eh (Ev.ifT rfl (Ev.now _))))))))))
    simp only [laws_szHead.f, laws_szByteS.f]
    rw [wrap64_id (by omega) (by omega), if_neg (by omega)]; simp; omega

end Go.Proofs.Ytclejdchdfmapac.Pure
