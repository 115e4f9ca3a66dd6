/- The plain law of FnExactBitsOk, over numbers and lists alone: what the printed functions answer is true for all arguments. Conditions: those of the arguments' kinds. -/
import Derived.Test.YtpeahfhfidjjcaaPFnExactBitsOkx1
import Derived.Test.YtpeahfhfidjjcaaAid
set_option linter.unusedVariables false
set_option linter.unusedSimpArgs false
namespace Go.Proofs.Ytpeahfhfidjjcaa.Pure
open Go.RowKit Go.Proofs.Ytpeahfhfidjjcaa.Aid Go.Proofs.Ytpeahfhfidjjcaa.PFnExactBitsOk Go.Proofs.YtpeahfhfidjjcaaW.PrintWords Go.Proofs.YtpeahfhfidjjcaaW.PrintLast Go.Proofs.YtpeahfhfidjjcaaW.PrintMore
theorem in_tell (a b c : Int) : impl_in.f a b c = some (decide (b ≤ a ∧ a ≤ c)) := by
  unfold impl_in.f
  by_cases h : a ≥ b
  · rw [if_pos h]; congr 1; rw [Bool.eq_iff_iff]; simp only [decide_eq_true_eq]; omega
  · rw [if_neg h]; congr 1; symm; rw [decide_eq_false_iff_not]; omega

theorem l1In_tell (a b c : Int) : spec_l1In.f a b c = some (decide (b ≤ a ∧ a ≤ c)) := by
  unfold spec_l1In.f
  by_cases h : a ≥ b
  · rw [if_pos h]; congr 1; rw [Bool.eq_iff_iff]; simp only [decide_eq_true_eq]; omega
  · rw [if_neg h]; congr 1; symm; rw [decide_eq_false_iff_not]; omega

theorem div_zero_iff {h : Int} {p : Int} (hp : 1 ≤ p) (h0 : 0 ≤ h) : h / p = 0 ↔ h < p := by
  constructor
  · intro hz
    have := Int.lt_ediv_add_one_mul_self h (show (0 : Int) < p by omega)
    rw [hz] at this
    omega
  · intro hz
    exact Int.ediv_eq_zero_of_lt h0 hz
theorem specBitsOk_tell (h c : Int) : spec_BitsOk.f h c = some (decide (0 ≤ c ∧ c ≤ 32 ∧ 0 ≤ h ∧ h < 2 ^ c.toNat)) := by
  unfold spec_BitsOk.f
  rw [l1In_tell]
  simp only [Option.bind_some]
  by_cases hc : 0 ≤ c ∧ c ≤ 32
  · obtain ⟨n, rfl⟩ := Int.eq_ofNat_of_zero_le hc.1
    obtain ⟨b1, b2⟩ := pow_bounds (n := n) (m := 32) (by omega)
    rw [if_pos (by rw [decide_eq_true_eq]; exact hc)]
    rw [wrapU64_id (by omega) (by omega), if_pos (by omega : (0 : Int) ≤ (n : Int)), shr_i64 (by omega)]
    simp only [Int.toNat_natCast]
    by_cases hh : h ≥ 0
    · rw [if_pos hh]
      congr 1
      rw [Bool.eq_iff_iff, beq_iff_eq, decide_eq_true_eq, div_zero_iff b1 hh]
      omega
    · rw [if_neg hh]
      congr 1; symm; rw [decide_eq_false_iff_not]; omega
  · rw [if_neg (by rw [decide_eq_true_eq]; exact hc)]
    congr 1; symm; rw [decide_eq_false_iff_not]; omega
theorem implBitsOk_tell (h c : Int) : impl_BitsOk.f h c = some (decide (0 ≤ c ∧ c ≤ 32 ∧ 0 ≤ h ∧ h < 2 ^ c.toNat)) := by
  unfold impl_BitsOk.f
  simp only [in_tell, Option.bind_some]
  by_cases hc : 0 ≤ c ∧ c ≤ 32
  · obtain ⟨n, rfl⟩ := Int.eq_ofNat_of_zero_le hc.1
    obtain ⟨b1, b2⟩ := pow_bounds (n := n) (m := 32) (by omega)
    rw [if_pos (by rw [decide_eq_true_eq]; exact hc), if_pos (by omega), shl_i64 (by omega) (by omega) (by omega), wrap64_id (by omega) (by omega)]
    simp only [Int.toNat_natCast]
    congr 1
    rw [Bool.eq_iff_iff, decide_eq_true_eq, decide_eq_true_eq]
    omega
  · rw [if_neg (by rw [decide_eq_true_eq]; exact hc)]
    congr 1; symm; rw [decide_eq_false_iff_not]; omega

theorem FnExactBitsOk : ∀ (a0_0 : Int) (a0_1 : Int), (Lit.int .i64 a0_0).wf = true → (Lit.int .i64 a0_1).wf = true → laws_FnExactBitsOk.f a0_0 a0_1 = some true := by
  intro h c _ _
  unfold laws_FnExactBitsOk.f laws_toBits.f
  simp only [Option.bind_some, specBitsOk_tell, implBitsOk_tell]
  simp

end Go.Proofs.Ytpeahfhfidjjcaa.Pure
