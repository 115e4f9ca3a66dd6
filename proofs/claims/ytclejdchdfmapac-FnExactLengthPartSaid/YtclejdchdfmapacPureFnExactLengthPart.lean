/- The plain law of FnExactLengthPart, over numbers and lists alone: what the printed functions answer is true for all arguments. Conditions: those of the arguments' kinds. -/
import Derived.Test.YtclejdchdfmapacPFnExactLengthPartx1
import Derived.Test.YtclejdchdfmapacAid
set_option linter.unusedVariables false
set_option linter.unusedSimpArgs false
namespace Go.Proofs.Ytclejdchdfmapac.Pure
open Go.RowKit Go.Proofs.Ytclejdchdfmapac.Aid Go.Proofs.Ytclejdchdfmapac.PFnExactLengthPart Go.Proofs.YtclejdchdfmapacW.PrintWords Go.Proofs.YtclejdchdfmapacW.PrintLast Go.Proofs.YtclejdchdfmapacW.PrintMore
theorem in_tell (a b c : Int) : impl_in.f a b c = some (decide (b ≤ a ∧ a ≤ c)) := by
  unfold impl_in.f
  by_cases h : a ≥ b
  · rw [if_pos h]; congr 1; rw [Bool.eq_iff_iff]; simp only [decide_eq_true_eq]; omega
  · rw [if_neg h]; congr 1; symm; rw [decide_eq_false_iff_not]; omega

theorem div_zero_iff {h : Int} {p : Int} (hp : 1 ≤ p) (h0 : 0 ≤ h) : h / p = 0 ↔ h < p := by
  constructor
  · intro hz
    have := Int.lt_ediv_add_one_mul_self h (show (0 : Int) < p by omega)
    rw [hz] at this
    omega
  · intro hz
    exact Int.ediv_eq_zero_of_lt h0 hz

def bB (k : Nat) : Int := if k < 4 then (k : Int) else (2 + (k : Int) % 2) * 2 ^ (k / 2 - 1)
def eB (k : Nat) : Nat := if k < 4 then 0 else k / 2 - 1
theorem bB_le : ∀ m : Fin 16, 0 ≤ bB m ∧ bB m + 2 ^ (eB m) ≤ 256 ∧ eB m ≤ 6 ∧ (1 : Int) ≤ 2 ^ eB m := by decide +kernel
theorem bB_le12 : ∀ m : Fin 12, bB m + 2 ^ (eB m) ≤ 64 := by decide +kernel

theorem specBase1 : ∀ m : Fin 16, spec_l5Base.f ((m.val : Nat) : Int) 1 = some (1 + bB m, ((eB m : Nat) : Int)) := by decide +kernel
theorem specBase3 : ∀ m : Fin 16, spec_l5Base.f ((m.val : Nat) : Int) 3 = some (3 + bB m, ((eB m : Nat) : Int)) := by decide +kernel

theorem implBase : ∀ m : Fin 16, impl_baseOf.f ((m.val : Nat) : Int) = some (bB m, ((eB m : Nat) : Int)) := by decide +kernel

/-- Of a number: the first symbol (from S - d on) whose numbers it is among. -/
def partD (n : Int) (S : Nat) : Nat → Option (Nat × Int × Int)
  | 0 => none
  | d + 1 => if bB (S - (d + 1)) ≤ n ∧ n < bB (S - (d + 1)) + 2 ^ eB (S - (d + 1)) then some (S - (d + 1), (eB (S - (d + 1)) : Int), n - bB (S - (d + 1))) else partD n S d
def partR (add : Int) : Option (Nat × Int × Int) → Int × Int × Int × Bool
  | none => (0, 0, 0, false)
  | some (s, e, r) => ((s : Int) + add, e, r, true)
theorem partD_lt {n : Int} {S : Nat} : ∀ {d : Nat} {s : Nat} {e r : Int}, d ≤ S → partD n S d = some (s, e, r) → s < S
  | 0, _, _, _, _, h => by simp [partD] at h
  | d + 1, s, e, r, hd, h => by
    simp only [partD] at h
    split at h
    · simp only [Option.some.injEq, Prod.mk.injEq] at h; omega
    · exact partD_lt (by omega) h
theorem partD_none {n : Int} {S : Nat} (hS : S ≤ 16) (M : Int) (hM : ∀ m : Nat, m < S → bB m + 2 ^ eB m ≤ M) (h : n < 0 ∨ M ≤ n) : ∀ (d : Nat), d ≤ S → partD n S d = none
  | 0, _ => rfl
  | d + 1, hd => by
    have h1 := bB_le ⟨S - (d + 1), by omega⟩
    have h2 := hM (S - (d + 1)) (by omega)
    simp only at h1
    simp only [partD]
    rw [if_neg (by omega)]
    exact partD_none hS M hM h d (by omega)

theorem specPart_l0 (x : Int) (S : Nat) (hS : S ≤ 16) (f add : Int) (hf : 0 ≤ f ∧ f ≤ 3) (ha : 0 ≤ add ∧ add ≤ 1000) (hx : -9223372036854775808 ≤ x ∧ x < 9223372036854775808)
    (hb : ∀ m : Fin 16, spec_l5Base.f ((m.val : Nat) : Int) f = some (f + bB m, ((eB m : Nat) : Int))) :
    ∀ (d : Nat), d ≤ S → Ev (fun k => spec_l5Part.l0 k x S f add ((S - d : Nat) : Int)) (partR add (partD (x - f) S d))
  | 0, hd => by
    refine Ev.step (f := fun _ => some (0, 0, 0, false)) (fun k => ?_) (Ev.now _)
    simp only [spec_l5Part.l0]
    rw [if_neg (by omega)]
  | d + 1, hd => by
    have ih := specPart_l0 x S hS f add hf ha hx hb d (by omega)
    have h1 := hb ⟨S - (d + 1), by omega⟩
    have h3 := bB_le ⟨S - (d + 1), by omega⟩
    have q1 : ((S - (d + 1) : Nat) : Int) < (S : Int) := by omega
    have q2 : ((S - (d + 1) : Nat) : Int) + 1 = ((S - d : Nat) : Int) := by omega
    have q3 : ((S - d : Nat) : Int) ≤ 16 := by omega
    simp only at h1 h3
    simp only [partD]
    generalize S - (d + 1) = m at *
    generalize S - d = m1 at *
    clear hd hS hb
    obtain ⟨h30, h31, h32, h33⟩ := h3
    have en : wrap64 ((m : Int) + 1) = (m1 : Int) := by rw [wrap64_id (by omega) (by omega)]; omega
    have w0 : wrap64 ((m : Int) + add) = (m : Int) + add := wrap64_id (by omega) (by omega)
    generalize bB m = b at *
    generalize eB m = e at *
    have w1 : IntKind.u64.wrap (e : Int) = (e : Int) := wrapU64_id (by omega) (by omega)
    have w2 : shl .i64 1 (e : Int) = 1 * 2 ^ e := shl_i64 (by omega) (by omega) (by omega)
    generalize (2 : Int) ^ e = p at *
    have w3 : wrap64 (f + b + 1 * p) = f + b + 1 * p := wrap64_id (by omega) (by omega)
    have q4 : (0 : Int) ≤ (e : Int) := by omega
    clear q2 q3
    by_cases hin : b ≤ x - f ∧ x - f < b + p
    · rw [if_pos hin]
      have g1 : x ≥ f + b := by omega
      have g2 : x < f + b + 1 * p := by omega
      have w4 : wrap64 (x - (f + b)) = x - (f + b) := wrap64_id (by omega) (by omega)
      refine Ev.step (f := fun _ => some (partR add (some (m, (e : Int), x - f - b)))) (fun k => ?_) (Ev.now _)
      simp only [spec_l5Part.l0]
      rw [if_pos q1, h1]
      simp only [Option.bind_some]
      rw [if_pos g1, w1, if_pos q4, w2, w3, if_pos g2, w0, w4]
      rw [show x - f - b = x - (f + b) by omega]
      rfl
    · rw [if_neg hin]
      refine Ev.step (fun k => ?_) ih
      simp only [spec_l5Part.l0]
      rw [if_pos q1, h1]
      simp only [Option.bind_some]
      rw [en]
      by_cases hge : x ≥ f + b
      · have g2 : ¬ x < f + b + 1 * p := by omega
        rw [if_pos hge, w1, if_pos q4, w2, w3, if_neg g2]
      · rw [if_neg hge]

theorem implPart_l0 (x : Int) (S : Nat) (hS : S ≤ 16) (hx : -9223372036854775808 ≤ x ∧ x < 9223372036854775808) :
    ∀ (d : Nat), d ≤ S → Ev (fun k => impl_partOf.l0 k x S ((S - d : Nat) : Int)) (partR 0 (partD x S d))
  | 0, hd => by
    refine Ev.step (f := fun _ => some (0, 0, 0, false)) (fun k => ?_) (Ev.now _)
    simp only [impl_partOf.l0]
    rw [if_neg (by omega)]
  | d + 1, hd => by
    have ih := implPart_l0 x S hS hx d (by omega)
    have h1 := implBase ⟨S - (d + 1), by omega⟩
    have h3 := bB_le ⟨S - (d + 1), by omega⟩
    simp only at h1 h3
    generalize hm : S - (d + 1) = m at *
    simp only [partD, hm]
    generalize bB m = b at *
    generalize eB m = e at *
    have hp : (2 : Int) ^ e ≤ 256 := by omega
    have en : ((S - d : Nat) : Int) = wrap64 ((m : Int) + 1) := by rw [wrap64_id (by omega) (by omega)]; omega
    by_cases hin : b ≤ x ∧ x < b + 2 ^ e
    · rw [if_pos hin]
      refine Ev.step (f := fun _ => some (partR 0 (some (m, (e : Int), x - b)))) (fun k => ?_) (Ev.now _)
      simp only [impl_partOf.l0]
      rw [if_pos (by omega), h1]
      simp only [Option.bind_some]
      rw [if_pos (by omega), shl_i64 (by omega) (by omega) (by omega), wrap64_id (n := b + 1 * 2 ^ e) (by omega) (by omega), wrap64_id (n := b + 1 * 2 ^ e - 1) (by omega) (by omega), in_tell]
      simp only [Option.bind_some]
      rw [if_pos (by rw [decide_eq_true_eq]; omega), wrap64_id (n := x - b) (by omega) (by omega)]
      simp [partR]
    · rw [if_neg hin]
      refine Ev.step (fun k => ?_) ih
      simp only [impl_partOf.l0]
      rw [if_pos (by omega), h1]
      simp only [Option.bind_some]
      rw [if_pos (by omega), shl_i64 (by omega) (by omega) (by omega), wrap64_id (n := b + 1 * 2 ^ e) (by omega) (by omega), wrap64_id (n := b + 1 * 2 ^ e - 1) (by omega) (by omega), in_tell]
      simp only [Option.bind_some]
      rw [if_neg (by rw [decide_eq_true_eq]; omega), en]

theorem specLengthPart_ev (d : Int) (hd : -9223372036854775808 ≤ d ∧ d < 9223372036854775808) : Ev (fun k => spec_LengthPart.f k d) (partR 257 (partD (d - 3) 12 12)) := by
  have h := specPart_l0 d 12 (by omega) 3 257 (by omega) (by omega) hd specBase3 12 (by omega)
  unfold spec_LengthPart.f spec_l5Part.f
  exact Ev.bind h (Ev.now _)
theorem implLengthPart_ev (d : Int) (hd : -9223372036854775808 ≤ d ∧ d < 9223372036854775808) : Ev (fun k => impl_LengthPart.f k d) (partR 257 (partD (d - 3) 12 12)) := by
  unfold impl_LengthPart.f impl_partOf.f
  rw [in_tell]
  simp only [Option.bind_some]
  by_cases h : 3 ≤ d ∧ d ≤ 66
  · rw [wrap64_id (by omega) (by omega)]
    have e := implPart_l0 (d - 3) 12 (by omega) (by omega) 12 (by omega)
    refine Ev.ifT (by rw [decide_eq_true_eq]; exact h) (Ev.bind e ?_)
    rcases hp : partD (d - 3) 12 12 with _ | ⟨s, e, r⟩
    · exact Ev.ifF (by simp [partR]) (Ev.now _)
    · have := partD_lt (by omega) hp
      simp only [partR, Int.add_zero]
      rw [wrap64_id (by omega) (by omega)]
      exact Ev.ifT (by simp) (Ev.now _)
  · rw [partD_none (by omega) 64 (fun m hm => bB_le12 ⟨m, hm⟩) (by omega) 12 (by omega)]
    exact Ev.ifF (by rw [decide_eq_true_eq]; exact h) (Ev.now _)

theorem FnExactLengthPart : laws_FnExactLengthPart.Pure := by
  intro d hd
  have hd := wf_i64 hd
  refine Ev.rounds ?_
  unfold laws_FnExactLengthPart.f
  exact Ev.bind (specLengthPart_ev d hd) (Ev.bind (implLengthPart_ev d hd) (Ev.bindc (a := true) (by simp [laws_eqPart.f]) (Ev.ifT rfl (Ev.ifF (by simp) (Ev.now _)))))

end Go.Proofs.Ytclejdchdfmapac.Pure
