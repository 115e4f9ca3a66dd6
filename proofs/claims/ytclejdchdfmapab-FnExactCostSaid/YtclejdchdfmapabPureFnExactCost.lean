/- The plain law of FnExactCost, over numbers and lists alone: what the printed functions answer is true for all arguments. Conditions: those of the arguments' kinds. -/
import Derived.Test.YtclejdchdfmapabPFnExactCostx2
import Derived.Test.YtclejdchdfmapabAid
set_option linter.unusedVariables false
set_option linter.unusedSimpArgs false
namespace Go.Proofs.Ytclejdchdfmapab.Pure
open Go.RowKit Go.Proofs.Ytclejdchdfmapab.Aid Go.Proofs.Ytclejdchdfmapab.PFnExactCost Go.Proofs.YtclejdchdfmapabW.PrintWords Go.Proofs.YtclejdchdfmapabW.PrintLast Go.Proofs.YtclejdchdfmapabW.PrintMore
theorem in_tell (a b c : Int) : impl_in.f a b c = some (decide (b ≤ a ∧ a ≤ c)) := by
  unfold impl_in.f
  by_cases h : a ≥ b
  · rw [if_pos h]; congr 1; rw [Bool.eq_iff_iff]; simp only [decide_eq_true_eq]; omega
  · rw [if_neg h]; congr 1; symm; rw [decide_eq_false_iff_not]; omega

theorem l1In_tell (a b c : Int) : spec_l1In.f a b c = some (decide (b ≤ a ∧ a ≤ c)) := by
  unfold spec_l1In.f
  by_cases h : a ≥ b
  · rw [if_pos h]; congr 1; rw [Bool.eq_iff_iff]; simp only [decide_eq_true_eq]; omega
  · rw [if_neg h]; congr 1; symm; rw [decide_eq_false_iff_not]; omega

theorem toIntS_l0 (l : List Int) (hl : l.length ≤ 17592186044416) : ∀ (d : Nat) (x : List Int) (i : Nat), x.length = l.length → i + d = l.length → x.take i = l.take i → Ev (fun k => laws_toIntS.l0 k l x (i : Int)) l
  | 0, x, i, hx, hi, ht => by
    refine Ev.step (f := fun _ => some l) (fun k => ?_) (Ev.now _)
    simp only [laws_toIntS.l0]
    rw [if_neg (by omega)]
    congr 1
    rw [List.take_of_length_le (by omega), List.take_of_length_le (by omega)] at ht
    exact ht
  | d + 1, x, i, hx, hi, ht => by
    have ih := toIntS_l0 l hl d (x.set i (rd l i)) (i + 1) (by simpa using hx) (by omega) (by
      rw [List.take_succ_eq_append_getElem (by simp; omega), List.take_succ_eq_append_getElem (by omega), List.take_set_of_le (by omega), ht]
      simp [rd, List.getElem?_eq_getElem (show i < l.length by omega)])
    refine Ev.step (fun k => ?_) ih
    simp only [laws_toIntS.l0]
    rw [if_pos (by omega), if_pos (by omega), if_pos (by omega), wrap64_id (by omega) (by omega)]
    simp
theorem toIntS_ev (l : List Int) (hl : l.length ≤ 17592186044416) : Ev (fun k => laws_toIntS.f k l) l := by
  refine Ev.congr (fun k => ?_) (toIntS_l0 l hl l.length (List.replicate l.length 0) 0 (by simp) (by simp) (by simp))
  simp only [laws_toIntS.f]
  rw [if_pos (by omega), if_pos (by omega)]
  simp

theorem eqIntS_l0 (l : List Int) (hl : l.length ≤ 140737488351232) : ∀ (d : Nat) (i : Nat), i + d = l.length → Ev (fun k => laws_eqIntS.l0 k l l (i : Int)) true
  | 0, i, hi => by
    refine Ev.step (f := fun _ => some true) (fun k => ?_) (Ev.now _)
    simp only [laws_eqIntS.l0]
    rw [if_neg (by omega)]
  | d + 1, i, hi => by
    have ih := eqIntS_l0 l hl d (i + 1) (by omega)
    refine Ev.step (fun k => ?_) ih
    simp only [laws_eqIntS.l0]
    rw [if_pos (by omega), if_pos (by omega), if_pos (by omega), wrap64_id (by omega) (by omega)]
    simp
theorem eqIntS_ev (l : List Int) (hl : l.length ≤ 140737488351232) : Ev (fun k => laws_eqIntS.f k l l) true := by
  refine Ev.congr (fun k => ?_) (eqIntS_l0 l hl l.length 0 (by simp))
  simp only [laws_eqIntS.f]
  simp

theorem cost_l0 (a b : List Int) (hab : a.length = b.length) (hl : a.length ≤ 300) : ∀ (d : Nat) (s : Int) (i : Nat), i + d = a.length → 0 ≤ s → s ≤ 12000000 * i →
    ∃ r, Ev (fun k => spec_Cost.l0 k a b s (i : Int)) r ∧ Ev (fun k => impl_Cost.l0 k b s a (a.length : Int) (i : Int)) r
  | 0, s, i, hi, h0, h1 => by
    refine ⟨(s, true), Ev.step (f := fun _ => some (s, true)) (fun k => ?_) (Ev.now _), Ev.step (f := fun _ => some (s, true)) (fun k => ?_) (Ev.now _)⟩
    · simp only [spec_Cost.l0]
      rw [if_neg (by omega)]
    · simp only [impl_Cost.l0]
      rw [if_neg (by omega)]
  | d + 1, s, i, hi, h0, h1 => by
    have bad : ∀ g : Nat → Option (Int × Bool), (∀ k, g (k + 1) = some (0, false)) → Ev g (0, false) := fun g hg => Ev.step (f := fun _ => some (0, false)) hg (Ev.now _)
    have g1 : (i : Int) < (a.length : Int) := by omega
    have g2 : (0 : Int) ≤ (i : Int) := by omega
    have g3 : (i : Int) < (b.length : Int) := by omega
    have ih := cost_l0 a b hab hl d
    generalize hx : rd a (i : Int) = x at *
    generalize hy : rd b (i : Int) = y at *
    by_cases hp : 0 ≤ x ∧ x ≤ 12
    · by_cases hq : 0 ≤ y ∧ y ≤ 1000000
      · by_cases hz : y > 0 ∧ x = 0
        · refine ⟨(0, false), bad _ (fun k => ?_), bad _ (fun k => ?_)⟩
          · simp only [spec_Cost.l0]
            rw [if_pos g1, if_pos g2, hx, hy, l1In_tell]
            simp only [Option.bind_some, decide_eq_true hp, if_true]
            rw [if_pos g3, l1In_tell]
            simp only [Option.bind_some, decide_eq_true hq, if_true]
            rw [if_pos hz.1, if_pos hz.2]
          · simp only [impl_Cost.l0, impl_isLen.f]
            rw [if_pos g1, if_pos g2, if_pos g1, if_pos g3, hx, hy, in_tell]
            simp only [Option.bind_some, decide_eq_true hp, if_true]
            rw [in_tell]
            simp only [Option.bind_some, decide_eq_true hq, if_true]
            rw [if_pos hz.1, if_pos hz.2]
        · have hm0 : 0 ≤ x * y := Int.mul_nonneg hp.1 hq.1
          have hm1 : x * y ≤ 12 * 1000000 := Int.mul_le_mul hp.2 hq.2 hq.1 (by omega)
          obtain ⟨r, e1, e2⟩ := ih (s + x * y) (i + 1) (by omega) (by omega) (by omega)
          have b1 : -9223372036854775808 ≤ s + x * y := by omega
          have b2 : s + x * y < 9223372036854775808 := by omega
          have b3 : i < 1000000000000000000 := by omega
          have w1 : wrap64 (x * y) = x * y := wrap64_id (by omega) (by omega)
          have w2 : wrap64 (s + x * y) = s + x * y := wrap64_id b1 b2
          have w3 : wrap64 ((i : Int) + 1) = ((i + 1 : Nat) : Int) := wrap64_succ b3
          refine ⟨r, Ev.step (fun k => ?_) e1, Ev.step (fun k => ?_) e2⟩
          · simp only [spec_Cost.l0]
            rw [if_pos g1, if_pos g2, hx, hy, l1In_tell]
            simp only [Option.bind_some, decide_eq_true hp, if_true]
            rw [if_pos g3, l1In_tell]
            simp only [Option.bind_some, decide_eq_true hq, if_true, w1, w2, w3]
            by_cases hy0 : y > 0
            · rw [if_pos hy0, if_neg (fun h => hz ⟨hy0, h⟩)]
            · rw [if_neg hy0]
          · simp only [impl_Cost.l0, impl_isLen.f]
            rw [if_pos g1, if_pos g2, if_pos g1, if_pos g3, hx, hy, in_tell]
            simp only [Option.bind_some, decide_eq_true hp, if_true]
            rw [in_tell]
            simp only [Option.bind_some, decide_eq_true hq, if_true, w1, w2, w3]
            by_cases hy0 : y > 0
            · rw [if_pos hy0, if_neg (fun h => hz ⟨hy0, h⟩)]
            · rw [if_neg hy0]
      · refine ⟨(0, false), bad _ (fun k => ?_), bad _ (fun k => ?_)⟩
        · simp only [spec_Cost.l0]
          rw [if_pos g1, if_pos g2, hx, hy, l1In_tell]
          simp only [Option.bind_some, decide_eq_true hp, if_true]
          rw [if_pos g3, l1In_tell]
          simp only [Option.bind_some, decide_eq_false hq]
          rfl
        · simp only [impl_Cost.l0, impl_isLen.f]
          rw [if_pos g1, if_pos g2, if_pos g1, if_pos g3, hx, hy, in_tell]
          simp only [Option.bind_some, decide_eq_true hp, if_true]
          rw [in_tell]
          simp only [Option.bind_some, decide_eq_false hq]
          rfl
    · refine ⟨(0, false), bad _ (fun k => ?_), bad _ (fun k => ?_)⟩
      · simp only [spec_Cost.l0]
        rw [if_pos g1, if_pos g2, hx, l1In_tell]
        simp only [Option.bind_some, decide_eq_false hp]
        rfl
      · simp only [impl_Cost.l0, impl_isLen.f]
        rw [if_pos g1, if_pos g2, if_pos g1, if_pos g3, hx, in_tell]
        simp only [Option.bind_some, decide_eq_false hp]
        rfl
theorem cost_same (a b : List Int) (hl : a.length ≤ 1048576) : ∃ r, Ev (fun k => spec_Cost.f k a b) r ∧ Ev (fun k => impl_Cost.f k a b) r := by
  unfold spec_Cost.f impl_Cost.f
  have badS : Ev (fun k => spec_Cost.j0 k a b true) (0, false) := Ev.step (f := fun _ => some (0, false)) (fun k => by simp [spec_Cost.j0]) (Ev.now _)
  have badI : Ev (fun k => impl_Cost.j0 k a b true) (0, false) := Ev.step (f := fun _ => some (0, false)) (fun k => by simp [impl_Cost.j0]) (Ev.now _)
  by_cases h : (a.length : Int) = (b.length : Int)
  · simp only [if_pos h]
    by_cases h3 : (a.length : Int) > 300
    · simp only [decide_eq_true h3]
      exact ⟨_, badS, badI⟩
    · simp only [decide_eq_false h3]
      obtain ⟨r, e1, e2⟩ := cost_l0 a b (by omega) (by omega) a.length 0 0 (by omega) (by omega) (by omega)
      exact ⟨r, Ev.step (fun k => by simp [spec_Cost.j0]) e1, Ev.step (fun k => by simp [impl_Cost.j0]) e2⟩
  · simp only [if_neg h]
    exact ⟨_, badS, badI⟩
theorem FnExactCost : laws_FnExactCost.Pure := by
  intro a b _ ha _ _ hb _
  refine Ev.rounds ?_
  unfold laws_FnExactCost.f
  by_cases h1 : (a.length : Int) > 1048576
  · exact Ev.ifT h1 (Ev.now _)
  by_cases h2 : (b.length : Int) > 1048576
  · exact Ev.ifF h1 (Ev.ifT h2 (Ev.now _))
  have ta := toIntS_ev a (by omega)
  have tb := toIntS_ev b (by omega)
  have ea := eqIntS_ev a (by omega)
  have eb := eqIntS_ev b (by omega)
  obtain ⟨r, e1, e2⟩ := cost_same a b (by omega)
  have hj : Ev (fun k => laws_FnExactCost.j0 k a b a b (r.2 != r.2)) true := by
    simp only [bne_self_eq_false]
    refine Ev.step (fun k => by simp only [laws_FnExactCost.j0]; rfl) ?_
    exact Ev.ifF (by simp) (Ev.bind ta (Ev.bind ea (Ev.ifT rfl (Ev.bind tb (Ev.bind eb (Ev.ifT rfl (Ev.now _)))))))
  exact Ev.ifF h1 (Ev.ifF h2 (Ev.bind ta (Ev.bind tb (Ev.bind e1 (Ev.bind ta (Ev.bind tb (Ev.bind e2 (Ev.ifT rfl hj))))))))

end Go.Proofs.Ytclejdchdfmapab.Pure
