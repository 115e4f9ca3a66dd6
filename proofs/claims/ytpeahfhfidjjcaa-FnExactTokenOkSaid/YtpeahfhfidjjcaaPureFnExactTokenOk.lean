/- The plain law of FnExactTokenOk, over numbers and lists alone: what the printed functions answer is true for all arguments. Conditions: those of the arguments' kinds. -/
import Derived.Test.YtpeahfhfidjjcaaPFnExactTokenOkx1
import Derived.Test.YtpeahfhfidjjcaaAid
set_option linter.unusedVariables false
set_option linter.unusedSimpArgs false
namespace Go.Proofs.Ytpeahfhfidjjcaa.Pure
open Go.RowKit Go.Proofs.Ytpeahfhfidjjcaa.Aid Go.Proofs.Ytpeahfhfidjjcaa.PFnExactTokenOk Go.Proofs.YtpeahfhfidjjcaaW.PrintWords Go.Proofs.YtpeahfhfidjjcaaW.PrintLast Go.Proofs.YtpeahfhfidjjcaaW.PrintMore
theorem in_tell (a b c : Int) : impl_in.f a b c = some (decide (b ≤ a ∧ a ≤ c)) := by
  unfold impl_in.f
  by_cases h : a ≥ b
  · rw [if_pos h]; congr 1; rw [Bool.eq_iff_iff]; simp only [decide_eq_true_eq]; omega
  · rw [if_neg h]; congr 1; symm; rw [decide_eq_false_iff_not]; omega

theorem FnExactTokenOk : ∀ (a0_0 : Int) (a0_1 : Int) (a0_2 : Int) (a0_3 : Int), (Lit.int .i64 a0_0).wf = true → (Lit.int .i64 a0_1).wf = true → (Lit.int .i64 a0_2).wf = true → (Lit.int .i64 a0_3).wf = true → laws_FnExactTokenOk.f a0_0 a0_1 a0_2 a0_3 = some true := by
  intro a b c d _ _ _ _
  unfold laws_FnExactTokenOk.f laws_toToken.f
  have e : spec_TokenOk.f a b c d = impl_TokenOk.f a b c d := rfl
  obtain ⟨r, hr⟩ : ∃ r, impl_TokenOk.f a b c d = some r := by
    unfold impl_TokenOk.f
    simp only [in_tell, Option.bind_some]
    repeat' split
    all_goals exact ⟨_, rfl⟩
  simp only [Option.bind_some, e, hr]
  simp

end Go.Proofs.Ytpeahfhfidjjcaa.Pure
