/- The plain law of FnExactLengthOf, over numbers and lists alone: what the printed functions answer is true for all arguments. Conditions: those of the arguments' kinds. -/
import Derived.Test.YtclejdchdfmapacPFnExactLengthOfx1
import Derived.Test.YtclejdchdfmapacAid
set_option linter.unusedVariables false
set_option linter.unusedSimpArgs false
namespace Go.Proofs.Ytclejdchdfmapac.Pure
open Go.RowKit Go.Proofs.Ytclejdchdfmapac.Aid Go.Proofs.Ytclejdchdfmapac.PFnExactLengthOf Go.Proofs.YtclejdchdfmapacW.PrintWords Go.Proofs.YtclejdchdfmapacW.PrintLast Go.Proofs.YtclejdchdfmapacW.PrintMore
theorem in_tell (a b c : Int) : impl_in.f a b c = some (decide (b ≤ a ∧ a ≤ c)) := by
  unfold impl_in.f
  by_cases h : a ≥ b
  · rw [if_pos h]; congr 1; rw [Bool.eq_iff_iff]; simp only [decide_eq_true_eq]; omega
  · rw [if_neg h]; congr 1; symm; rw [decide_eq_false_iff_not]; omega

theorem l1In_tell (a b c : Int) : spec_l1In.f a b c = some (decide (b ≤ a ∧ a ≤ c)) := by
  unfold spec_l1In.f
  by_cases h : a ≥ b
  · rw [if_pos h]; congr 1; rw [Bool.eq_iff_iff]; simp only [decide_eq_true_eq]; omega
  · rw [if_neg h]; congr 1; symm; rw [decide_eq_false_iff_not]; omega

theorem div_zero_iff {h : Int} {p : Int} (hp : 1 ≤ p) (h0 : 0 ≤ h) : h / p = 0 ↔ h < p := by
  constructor
  · intro hz
    have := Int.lt_ediv_add_one_mul_self h (show (0 : Int) < p by omega)
    rw [hz] at this
    omega
  · intro hz
    exact Int.ediv_eq_zero_of_lt h0 hz

def bB (k : Nat) : Int := if k < 4 then (k : Int) else (2 + (k : Int) % 2) * 2 ^ (k / 2 - 1)
def eB (k : Nat) : Nat := if k < 4 then 0 else k / 2 - 1
theorem bB_le : ∀ m : Fin 16, 0 ≤ bB m ∧ bB m + 2 ^ (eB m) ≤ 256 ∧ eB m ≤ 6 ∧ (1 : Int) ≤ 2 ^ eB m := by decide +kernel
theorem bB_le12 : ∀ m : Fin 12, bB m + 2 ^ (eB m) ≤ 64 := by decide +kernel

theorem specBase1 : ∀ m : Fin 16, spec_l5Base.f ((m.val : Nat) : Int) 1 = some (1 + bB m, ((eB m : Nat) : Int)) := by decide +kernel
theorem specBase3 : ∀ m : Fin 16, spec_l5Base.f ((m.val : Nat) : Int) 3 = some (3 + bB m, ((eB m : Nat) : Int)) := by decide +kernel

theorem implBase : ∀ m : Fin 16, impl_baseOf.f ((m.val : Nat) : Int) = some (bB m, ((eB m : Nat) : Int)) := by decide +kernel

theorem ofTell (k rest : Int) (S : Nat) (hS : S ≤ 16) (f : Int) (hf : 0 ≤ f ∧ f ≤ 3) (hb : ∀ m : Fin 16, spec_l5Base.f ((m.val : Nat) : Int) f = some (f + bB m, ((eB m : Nat) : Int))) :
    (∃ v : Int, 0 ≤ v ∧ v ≤ 256 ∧ spec_l5Of.f k S f rest = some (v + f, true) ∧ impl_numberOf.f k rest S = some (v, true)) ∨ (spec_l5Of.f k S f rest = some (0, false) ∧ impl_numberOf.f k rest S = some (0, false)) := by
  unfold spec_l5Of.f impl_numberOf.f
  rw [l1In_tell, in_tell, wrap64_id (n := (S : Int) - 1) (by omega) (by omega)]
  simp only [Option.bind_some]
  by_cases hk : 0 ≤ k ∧ k ≤ (S : Int) - 1
  · simp only [decide_eq_true hk, if_true]
    obtain ⟨m, rfl⟩ := Int.eq_ofNat_of_zero_le hk.1
    have hm : m < 16 := by omega
    have h1 := hb ⟨m, hm⟩
    have h2 := implBase ⟨m, hm⟩
    have h3 := bB_le ⟨m, hm⟩
    simp only at h1 h2 h3
    rw [h1, h2]
    simp only [Option.bind_some]
    generalize bB m = b at *
    generalize he : eB m = e at *
    have hp : (2 : Int) ^ e ≤ 256 := by omega
    rw [wrapU64_id (n := (e : Int)) (by omega) (by omega), if_pos (by omega : (0 : Int) ≤ (e : Int)), shr_i64 (by omega), shl_i64 (by omega) (by omega) (by omega), in_tell, wrap64_id (n := 1 * 2 ^ e - 1) (by omega) (by omega)]
    simp only [Option.bind_some]
    by_cases hr : rest < 0
    · right
      rw [if_pos hr]
      refine ⟨rfl, ?_⟩
      rw [if_pos (by omega), if_neg (by rw [decide_eq_true_eq]; omega)]
    · rw [if_neg hr]
      by_cases hr2 : rest < 2 ^ e
      · left
        refine ⟨b + rest, by omega, by omega, ?_, ?_⟩
        · rw [if_pos ((div_zero_iff h3.2.2.2 (by omega)).2 hr2), wrap64_id (by omega) (by omega)]; congr 2; omega
        · rw [if_pos (by omega), if_pos (by rw [decide_eq_true_eq]; omega), wrap64_id (by omega) (by omega)]
      · right
        refine ⟨?_, ?_⟩
        · rw [if_neg (fun h => hr2 ((div_zero_iff h3.2.2.2 (by omega)).1 h))]
        · rw [if_pos (by omega), if_neg (by rw [decide_eq_true_eq]; omega)]
  · right
    simp only [decide_eq_false hk]
    exact ⟨rfl, rfl⟩

theorem FnExactLengthOf : laws_FnExactLengthOf.Pure := by
  intro s rest hs _
  have hs := wf_i64 hs
  unfold laws_FnExactLengthOf.f spec_LengthOf.f impl_LengthOf.f
  rw [in_tell]
  by_cases h0 : s < 257
  · have : ¬ (257 ≤ s ∧ s ≤ 268) := by omega
    simp [h0, this]
  · rw [if_neg h0, wrap64_id (n := s - 257) (by omega) (by omega)]
    have hx := ofTell (s - 257) rest 12 (by omega) 3 (by omega) specBase3
    rw [show ((12 : Nat) : Int) = 12 from rfl] at hx
    by_cases h1 : s ≤ 268
    · have : (257 ≤ s ∧ s ≤ 268) := by omega
      simp only [decide_eq_true this, Option.bind_some, if_true]
      rcases hx with ⟨v, h0, h1, e1, e2⟩ | ⟨e1, e2⟩
      · simp only [e1, e2, Option.bind_some]
        simp [wrap64_id (n := v + 3) (by omega) (by omega)]
      · simp only [e1, e2, Option.bind_some]
        simp
    · have h2 : ¬ (257 ≤ s ∧ s ≤ 268) := by omega
      have h3 : spec_l5Of.f (s - 257) 12 3 rest = some (0, false) := by
        unfold spec_l5Of.f
        rw [l1In_tell, wrap64_id (n := 12 - 1) (by omega) (by omega)]
        have : ¬ (0 ≤ s - 257 ∧ s - 257 ≤ 12 - 1) := by omega
        simp only [decide_eq_false this, Option.bind_some]
        rfl
      simp [h2, h3]

end Go.Proofs.Ytclejdchdfmapac.Pure
