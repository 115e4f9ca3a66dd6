/- The plain law of FnExactPull, over numbers and lists alone: what the printed functions answer is true for all arguments. Conditions: those of the arguments' kinds. -/
import Derived.Test.YtclejdchdfmapaaPFnExactPullx2
import Derived.Test.YtclejdchdfmapaaAid
set_option linter.unusedVariables false
set_option linter.unusedSimpArgs false
namespace Go.Proofs.Ytclejdchdfmapaa.Pure
open Go.RowKit Go.Proofs.Ytclejdchdfmapaa.Aid Go.Proofs.Ytclejdchdfmapaa.PFnExactPull Go.Proofs.YtclejdchdfmapaaW.PrintWords Go.Proofs.YtclejdchdfmapaaW.PrintLast Go.Proofs.YtclejdchdfmapaaW.PrintMore
theorem in_tell (a b c : Int) : impl_in.f a b c = some (decide (b ≤ a ∧ a ≤ c)) := by
  unfold impl_in.f
  by_cases h : a ≥ b
  · rw [if_pos h]; congr 1; rw [Bool.eq_iff_iff]; simp only [decide_eq_true_eq]; omega
  · rw [if_neg h]; congr 1; symm; rw [decide_eq_false_iff_not]; omega

theorem l1In_tell (a b c : Int) : spec_l1In.f a b c = some (decide (b ≤ a ∧ a ≤ c)) := by
  unfold spec_l1In.f
  by_cases h : a ≥ b
  · rw [if_pos h]; congr 1; rw [Bool.eq_iff_iff]; simp only [decide_eq_true_eq]; omega
  · rw [if_neg h]; congr 1; symm; rw [decide_eq_false_iff_not]; omega

theorem div_zero_iff {h : Int} {p : Int} (hp : 1 ≤ p) (h0 : 0 ≤ h) : h / p = 0 ↔ h < p := by
  constructor
  · intro hz
    have := Int.lt_ediv_add_one_mul_self h (show (0 : Int) < p by omega)
    rw [hz] at this
    omega
  · intro hz
    exact Int.ediv_eq_zero_of_lt h0 hz

theorem specBitsOk_tell (h c : Int) : spec_BitsOk.f h c = some (decide (0 ≤ c ∧ c ≤ 32 ∧ 0 ≤ h ∧ h < 2 ^ c.toNat)) := by
  unfold spec_BitsOk.f
  rw [l1In_tell]
  simp only [Option.bind_some]
  by_cases hc : 0 ≤ c ∧ c ≤ 32
  · obtain ⟨n, rfl⟩ := Int.eq_ofNat_of_zero_le hc.1
    obtain ⟨b1, b2⟩ := pow_bounds (n := n) (m := 32) (by omega)
    rw [if_pos (by rw [decide_eq_true_eq]; exact hc)]
    rw [wrapU64_id (by omega) (by omega), if_pos (by omega : (0 : Int) ≤ (n : Int)), shr_i64 (by omega)]
    simp only [Int.toNat_natCast]
    by_cases hh : h ≥ 0
    · rw [if_pos hh]
      congr 1
      rw [Bool.eq_iff_iff, beq_iff_eq, decide_eq_true_eq, div_zero_iff b1 hh]
      omega
    · rw [if_neg hh]
      congr 1; symm; rw [decide_eq_false_iff_not]; omega
  · rw [if_neg (by rw [decide_eq_true_eq]; exact hc)]
    congr 1; symm; rw [decide_eq_false_iff_not]; omega
theorem implBitsOk_tell (h c : Int) : impl_BitsOk.f h c = some (decide (0 ≤ c ∧ c ≤ 32 ∧ 0 ≤ h ∧ h < 2 ^ c.toNat)) := by
  unfold impl_BitsOk.f
  simp only [in_tell, Option.bind_some]
  by_cases hc : 0 ≤ c ∧ c ≤ 32
  · obtain ⟨n, rfl⟩ := Int.eq_ofNat_of_zero_le hc.1
    obtain ⟨b1, b2⟩ := pow_bounds (n := n) (m := 32) (by omega)
    rw [if_pos (by rw [decide_eq_true_eq]; exact hc), if_pos (by omega), shl_i64 (by omega) (by omega) (by omega), wrap64_id (by omega) (by omega)]
    simp only [Int.toNat_natCast]
    congr 1
    rw [Bool.eq_iff_iff, decide_eq_true_eq, decide_eq_true_eq]
    omega
  · rw [if_neg (by rw [decide_eq_true_eq]; exact hc)]
    congr 1; symm; rw [decide_eq_false_iff_not]; omega

theorem pull_same (h c n : Int) : ∃ r, Ev (fun k => spec_Pull.f k h c n) r ∧ Ev (fun k => impl_Pull.f k h c n) r := by
  have bad : ∀ g : Nat → Option (Int × Int × Int × Int), (∀ k, g (k + 1) = some (0, h, c, 2)) → Ev g (0, h, c, 2) := fun g hg => Ev.step (f := fun _ => some (0, h, c, 2)) hg (Ev.now _)
  unfold spec_Pull.f impl_Pull.f
  simp only [specBitsOk_tell, implBitsOk_tell, Option.bind_some, l1In_tell, in_tell]
  by_cases hk : 0 ≤ c ∧ c ≤ 32 ∧ 0 ≤ h ∧ h < 2 ^ c.toNat
  · simp only [decide_eq_true hk, if_true]
    by_cases hn : 0 ≤ n ∧ n ≤ 24
    · simp only [decide_eq_true hn, Bool.not_true]
      obtain ⟨m, rfl⟩ := Int.eq_ofNat_of_zero_le hn.1
      obtain ⟨c, rfl⟩ := Int.eq_ofNat_of_zero_le hk.1
      simp only [Int.toNat_natCast] at hk
      obtain ⟨b1, b2⟩ := pow_bounds (n := m) (m := 24) (by omega)
      obtain ⟨b3, b4⟩ := pow_bounds (n := c) (m := 32) (by omega)
      by_cases hc : (c : Int) < (m : Int)
      · refine ⟨(0, h, c, 1), Ev.step (f := fun _ => some (0, h, (c : Int), 1)) (fun k => ?_) (Ev.now _), Ev.step (f := fun _ => some (0, h, (c : Int), 1)) (fun k => ?_) (Ev.now _)⟩
        · simp only [spec_Pull.j0]
          rw [if_neg (by simp), if_pos hc]
        · simp only [impl_Pull.j0]
          rw [if_neg (by simp), if_pos hc]
      · refine ⟨(h % 2 ^ m, h / 2 ^ m, (c : Int) - m, 0), Ev.step (f := fun _ => some (h % 2 ^ m, h / 2 ^ m, (c : Int) - m, 0)) (fun k => ?_) (Ev.now _), Ev.step (f := fun _ => some (h % 2 ^ m, h / 2 ^ m, (c : Int) - m, 0)) (fun k => ?_) (Ev.now _)⟩
        · simp only [spec_Pull.j0]
          rw [if_neg (by simp), if_neg hc, wrapU64_id (by omega) (by omega), if_pos (by omega), shl_i64 (by omega) (by omega) (by omega), if_neg (by omega), shr_i64 (by omega), wrap64_id (by omega) (by omega), Int.tmod_eq_emod_of_nonneg hk.2.2.1, Int.one_mul]
        · simp only [impl_Pull.j0]
          rw [if_neg (by simp), if_neg hc, if_pos (by omega), shl_i64 (by omega) (by omega) (by omega), shr_i64 (by omega), wrap64_id (n := (c : Int) - m) (by omega) (by omega), wrap64_id (n := 1 * 2 ^ m - 1) (by omega) (by omega), Int.one_mul, and_mask m (by omega)]
    · simp only [decide_eq_false hn, Bool.not_false]
      exact ⟨_, bad _ (fun k => by simp [spec_Pull.j0]), bad _ (fun k => by simp [impl_Pull.j0])⟩
  · simp only [decide_eq_false hk]
    exact ⟨_, bad _ (fun k => by simp [spec_Pull.j0]), bad _ (fun k => by simp [impl_Pull.j0])⟩
theorem FnExactPull : ∀ (a0_0 : Int) (a0_1 : Int) (a1 : Int), (Lit.int .i64 a0_0).wf = true → (Lit.int .i64 a0_1).wf = true → (Lit.int .i64 a1).wf = true → ∃ k, laws_FnExactPull.f k a0_0 a0_1 a1 = some true := by
  intro h c n _ _ _
  obtain ⟨r, h1, h2⟩ := pull_same h c n
  refine Ev.rounds ?_
  unfold laws_FnExactPull.f
  refine Ev.bindc (a := (h, c)) rfl (Ev.bind h1 (Ev.bindc (a := (h, c)) rfl (Ev.bind h2 (Ev.ifT rfl (Ev.bindc (a := true) (by simp [laws_eqBits.f]) (Ev.ifT rfl (Ev.ifT rfl (Ev.now _))))))))

end Go.Proofs.Ytclejdchdfmapaa.Pure
