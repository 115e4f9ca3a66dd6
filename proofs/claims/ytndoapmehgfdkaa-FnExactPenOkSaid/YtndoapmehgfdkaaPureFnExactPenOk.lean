/- The plain law of FnExactPenOk, over numbers and lists alone: what the printed functions answer is true for all arguments. Conditions: those of the arguments' kinds. -/
import Derived.Test.YtndoapmehgfdkaaPFnExactPenOkx2
import Derived.Test.YtndoapmehgfdkaaAid
set_option linter.unusedVariables false
set_option linter.unusedSimpArgs false
namespace Go.Proofs.Ytndoapmehgfdkaa.Pure
open Go.RowKit Go.Proofs.Ytndoapmehgfdkaa.Aid Go.Proofs.Ytndoapmehgfdkaa.PFnExactPenOk Go.Proofs.YtndoapmehgfdkaaW.PrintWords Go.Proofs.YtndoapmehgfdkaaW.PrintLast Go.Proofs.YtndoapmehgfdkaaW.PrintMore
theorem in_tell (a b c : Int) : impl_in.f a b c = some (decide (b ≤ a ∧ a ≤ c)) := by
  unfold impl_in.f
  by_cases h : a ≥ b
  · rw [if_pos h]; congr 1; rw [Bool.eq_iff_iff]; simp only [decide_eq_true_eq]; omega
  · rw [if_neg h]; congr 1; symm; rw [decide_eq_false_iff_not]; omega

theorem l1In_tell (a b c : Int) : spec_l1In.f a b c = some (decide (b ≤ a ∧ a ≤ c)) := by
  unfold spec_l1In.f
  by_cases h : a ≥ b
  · rw [if_pos h]; congr 1; rw [Bool.eq_iff_iff]; simp only [decide_eq_true_eq]; omega
  · rw [if_neg h]; congr 1; symm; rw [decide_eq_false_iff_not]; omega

theorem div_zero_iff {h : Int} {p : Int} (hp : 1 ≤ p) (h0 : 0 ≤ h) : h / p = 0 ↔ h < p := by
  constructor
  · intro hz
    have := Int.lt_ediv_add_one_mul_self h (show (0 : Int) < p by omega)
    rw [hz] at this
    omega
  · intro hz
    exact Int.ediv_eq_zero_of_lt h0 hz

theorem toByteS_l0 (l : List Int) (hl : l.length ≤ 140737488351232) : ∀ (d : Nat) (x : List Int) (i : Nat), x.length = l.length → i + d = l.length → x.take i = l.take i → Ev (fun k => laws_toByteS.l0 k l x (i : Int)) l
  | 0, x, i, hx, hi, ht => by
    refine Ev.step (f := fun _ => some l) (fun k => ?_) (Ev.now _)
    simp only [laws_toByteS.l0]
    rw [if_neg (by omega)]
    congr 1
    rw [List.take_of_length_le (by omega), List.take_of_length_le (by omega)] at ht
    exact ht
  | d + 1, x, i, hx, hi, ht => by
    have ih := toByteS_l0 l hl d (x.set i (rd l i)) (i + 1) (by simpa using hx) (by omega) (by
      rw [List.take_succ_eq_append_getElem (by simp; omega), List.take_succ_eq_append_getElem (by omega), List.take_set_of_le (by omega), ht]
      simp [rd, List.getElem?_eq_getElem (show i < l.length by omega)])
    refine Ev.step (fun k => ?_) ih
    simp only [laws_toByteS.l0]
    rw [if_pos (by omega), if_pos (by omega), if_pos (by omega), wrap64_id (by omega) (by omega)]
    simp
theorem toByteS_ev (l : List Int) (hl : l.length ≤ 140737488351232) : Ev (fun k => laws_toByteS.f k l) l := by
  refine Ev.congr (fun k => ?_) (toByteS_l0 l hl l.length (List.replicate l.length 0) 0 (by simp) (by simp) (by simp))
  simp only [laws_toByteS.f]
  rw [if_pos (by omega), if_pos (by omega)]
  simp

theorem eqByteS_l0 (l : List Int) (hl : l.length ≤ 140737488351232) : ∀ (d : Nat) (i : Nat), i + d = l.length → Ev (fun k => laws_eqByteS.l0 k l l (i : Int)) true
  | 0, i, hi => by
    refine Ev.step (f := fun _ => some true) (fun k => ?_) (Ev.now _)
    simp only [laws_eqByteS.l0]
    rw [if_neg (by omega)]
  | d + 1, i, hi => by
    have ih := eqByteS_l0 l hl d (i + 1) (by omega)
    refine Ev.step (fun k => ?_) ih
    simp only [laws_eqByteS.l0]
    rw [if_pos (by omega), if_pos (by omega), if_pos (by omega), wrap64_id (by omega) (by omega)]
    simp
theorem eqByteS_ev (l : List Int) (hl : l.length ≤ 140737488351232) : Ev (fun k => laws_eqByteS.f k l l) true := by
  refine Ev.congr (fun k => ?_) (eqByteS_l0 l hl l.length 0 (by simp))
  simp only [laws_eqByteS.f]
  simp

theorem specPenOk_tell (l : List Int) (h c : Int) : spec_PenOk.f l h c = some (decide (0 ≤ c ∧ c ≤ 7 ∧ 0 ≤ h ∧ h < 2 ^ c.toNat)) := by
  unfold spec_PenOk.f
  rw [l1In_tell]
  simp only [Option.bind_some]
  by_cases hc : 0 ≤ c ∧ c ≤ 7
  · obtain ⟨n, rfl⟩ := Int.eq_ofNat_of_zero_le hc.1
    obtain ⟨b1, b2⟩ := pow_bounds (n := n) (m := 7) (by omega)
    rw [if_pos (by rw [decide_eq_true_eq]; exact hc)]
    rw [wrapU64_id (by omega) (by omega), if_pos (by omega : (0 : Int) ≤ (n : Int)), shr_i64 (by omega)]
    simp only [Int.toNat_natCast]
    by_cases hh : h ≥ 0
    · rw [if_pos hh]
      congr 1
      rw [Bool.eq_iff_iff, beq_iff_eq, decide_eq_true_eq, div_zero_iff b1 hh]
      omega
    · rw [if_neg hh]
      congr 1; symm; rw [decide_eq_false_iff_not]; omega
  · rw [if_neg (by rw [decide_eq_true_eq]; exact hc)]
    congr 1; symm; rw [decide_eq_false_iff_not]; omega
theorem implPenOk_tell (l : List Int) (h c : Int) : impl_PenOk.f l h c = some (decide (0 ≤ c ∧ c ≤ 7 ∧ 0 ≤ h ∧ h < 2 ^ c.toNat)) := by
  unfold impl_PenOk.f
  simp only [in_tell, Option.bind_some]
  by_cases hc : 0 ≤ c ∧ c ≤ 7
  · obtain ⟨n, rfl⟩ := Int.eq_ofNat_of_zero_le hc.1
    obtain ⟨b1, b2⟩ := pow_bounds (n := n) (m := 7) (by omega)
    rw [if_pos (by rw [decide_eq_true_eq]; exact hc), if_pos (by omega), shl_i64 (by omega) (by omega) (by omega), wrap64_id (by omega) (by omega)]
    simp only [Int.toNat_natCast]
    congr 1
    rw [Bool.eq_iff_iff, decide_eq_true_eq, decide_eq_true_eq]
    omega
  · rw [if_neg (by rw [decide_eq_true_eq]; exact hc)]
    congr 1; symm; rw [decide_eq_false_iff_not]; omega

theorem FnExactPenOk : ∀ (l0_0 : List Int) (a0_1 : Int) (a0_2 : Int), l0_0.length ≤ maxLen → (∀ x ∈ l0_0, (Lit.int .u8 x).wf = true) → (Lit.int .i64 a0_1).wf = true → (Lit.int .i64 a0_2).wf = true → ∃ k, laws_FnExactPenOk.f k l0_0 a0_1 a0_2 = some true := by
  intro l h c hm _ _ _
  unfold maxLen at hm
  refine Ev.rounds ?_
  unfold laws_FnExactPenOk.f
  by_cases hl : (l.length : Int) > 1048576
  · refine Ev.bindc (a := -1) ?_ (Ev.ifT (by omega) (Ev.now _))
    simp only [laws_szPen.f, laws_szByteS.f]
    rw [wrap64_id (by omega) (by omega), if_pos (by omega)]; simp
  · have t := toByteS_ev l (by omega)
    have e := eqByteS_ev l (by omega)
    have th : Ev (fun k => laws_toPen.f k l h c) (l, h, c) := Ev.bind t (Ev.now _)
    have eh : Ev (fun k => laws_eqPen.f k l h c l h c) true := by
      unfold laws_eqPen.f
      exact Ev.bind e (Ev.ifT rfl (Ev.ifT rfl (Ev.ifT rfl (Ev.now _))))
    refine Ev.bindc (a := 1048576 - (l.length : Int)) ?_ (Ev.ifF (by omega) (Ev.bind th (Ev.bindc (specPenOk_tell l h c) (Ev.bind th (Ev.bindc (implPenOk_tell l h c) (Ev.ifF (by simp) (Ev.bind th (Ev.bind eh (Ev.ifT rfl (Ev.now _))))))))))
    simp only [laws_szPen.f, laws_szByteS.f]
    rw [wrap64_id (by omega) (by omega), if_neg (by omega)]; simp; omega

end Go.Proofs.Ytndoapmehgfdkaa.Pure
