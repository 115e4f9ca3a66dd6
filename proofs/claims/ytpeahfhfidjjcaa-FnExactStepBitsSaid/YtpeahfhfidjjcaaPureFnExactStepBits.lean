/- The plain law of FnExactStepBits, over numbers and lists alone: what the printed functions answer is true for all arguments. Conditions: those of the arguments' kinds. -/
import Derived.Test.YtpeahfhfidjjcaaPFnExactStepBitsx1
import Derived.Test.YtpeahfhfidjjcaaAid
set_option linter.unusedVariables false
set_option linter.unusedSimpArgs false
namespace Go.Proofs.Ytpeahfhfidjjcaa.Pure
open Go.RowKit Go.Proofs.Ytpeahfhfidjjcaa.Aid Go.Proofs.Ytpeahfhfidjjcaa.PFnExactStepBits Go.Proofs.YtpeahfhfidjjcaaW.PrintWords Go.Proofs.YtpeahfhfidjjcaaW.PrintLast Go.Proofs.YtpeahfhfidjjcaaW.PrintMore
theorem FnExactStepBits : laws_FnExactStepBits.Pure := by
  intro a _
  unfold laws_FnExactStepBits.f
  have h : spec_StepBits.f a = impl_StepBits.f a := rfl
  obtain ⟨r, hr⟩ : ∃ r, impl_StepBits.f a = some r := by
    unfold impl_StepBits.f
    repeat' split
    all_goals exact ⟨_, rfl⟩
  rw [h, hr]
  simp

end Go.Proofs.Ytpeahfhfidjjcaa.Pure
