/- The plain law of FnExactStepOk, over numbers and lists alone: what the printed functions answer is true for all arguments. Conditions: those of the arguments' kinds. -/
import Derived.Test.YtclejdchdfmapaaPFnExactStepOkx1
import Derived.Test.YtclejdchdfmapaaAid
set_option linter.unusedVariables false
set_option linter.unusedSimpArgs false
namespace Go.Proofs.Ytclejdchdfmapaa.Pure
open Go.RowKit Go.Proofs.Ytclejdchdfmapaa.Aid Go.Proofs.Ytclejdchdfmapaa.PFnExactStepOk Go.Proofs.YtclejdchdfmapaaW.PrintWords Go.Proofs.YtclejdchdfmapaaW.PrintLast Go.Proofs.YtclejdchdfmapaaW.PrintMore
theorem in_tell (a b c : Int) : impl_in.f a b c = some (decide (b ≤ a ∧ a ≤ c)) := by
  unfold impl_in.f
  by_cases h : a ≥ b
  · rw [if_pos h]; congr 1; rw [Bool.eq_iff_iff]; simp only [decide_eq_true_eq]; omega
  · rw [if_neg h]; congr 1; symm; rw [decide_eq_false_iff_not]; omega

theorem l1In_tell (a b c : Int) : spec_l1In.f a b c = some (decide (b ≤ a ∧ a ≤ c)) := by
  unfold spec_l1In.f
  by_cases h : a ≥ b
  · rw [if_pos h]; congr 1; rw [Bool.eq_iff_iff]; simp only [decide_eq_true_eq]; omega
  · rw [if_neg h]; congr 1; symm; rw [decide_eq_false_iff_not]; omega

theorem div_zero_iff {h : Int} {p : Int} (hp : 1 ≤ p) (h0 : 0 ≤ h) : h / p = 0 ↔ h < p := by
  constructor
  · intro hz
    have := Int.lt_ediv_add_one_mul_self h (show (0 : Int) < p by omega)
    rw [hz] at this
    omega
  · intro hz
    exact Int.ediv_eq_zero_of_lt h0 hz

theorem FnExactStepOk : ∀ (a0_0 : Int) (a0_1 : Int), (Lit.int .i64 a0_0).wf = true → (Lit.int .i64 a0_1).wf = true → laws_FnExactStepOk.f a0_0 a0_1 = some true := by
  intro op rest _ _
  obtain ⟨m, hm, h1, h2⟩ : ∃ m : Nat, m ≤ 7 ∧ spec_StepBits.f op = some (m : Int) ∧ impl_StepBits.f op = some (m : Int) := by
    have e : spec_StepBits.f op = impl_StepBits.f op := rfl
    rw [e]
    unfold impl_StepBits.f
    repeat' split
    · exact ⟨2, by omega, rfl, rfl⟩
    · exact ⟨3, by omega, rfl, rfl⟩
    · exact ⟨7, by omega, rfl, rfl⟩
    · exact ⟨0, by omega, rfl, rfl⟩
  obtain ⟨b1, b2⟩ := pow_bounds (n := m) (m := 7) hm
  obtain ⟨r, e1, e2⟩ : ∃ r, spec_StepOk.f op rest = some r ∧ impl_StepOk.f op rest = some r := by
    unfold spec_StepOk.f impl_StepOk.f
    simp only [l1In_tell, in_tell, Option.bind_some, h1, h2]
    by_cases hk : 0 ≤ op ∧ op ≤ 15
    · simp only [decide_eq_true hk, if_true]
      rw [wrapU64_id (by omega) (by omega), if_pos (by omega : (0 : Int) ≤ (m : Int)), shr_i64 (by omega), shl_i64 (by omega) (by omega) (by omega), wrap64_id (by omega) (by omega)]
      refine ⟨decide (0 ≤ rest ∧ rest ≤ 1 * 2 ^ m - 1), ?_, rfl⟩
      by_cases hr : rest ≥ 0
      · rw [if_pos hr]
        congr 1
        rw [Bool.eq_iff_iff, beq_iff_eq, decide_eq_true_eq, div_zero_iff b1 hr]
        omega
      · rw [if_neg hr]
        congr 1; symm; rw [decide_eq_false_iff_not]; omega
    · simp only [decide_eq_false hk]
      exact ⟨_, rfl, rfl⟩
  unfold laws_FnExactStepOk.f laws_toStep.f
  simp only [Option.bind_some, e1, e2]
  simp

end Go.Proofs.Ytclejdchdfmapaa.Pure
