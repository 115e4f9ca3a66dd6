/- The plain law of FnExactTally, over numbers and lists alone: what the printed functions answer is true for all arguments. Conditions: those of the arguments' kinds. -/
import Derived.Test.YtdilibnfihcmkaaQFnExactTallyx6
import Derived.Test.YtdilibnfihcmkaaAid
set_option linter.unusedVariables false
set_option linter.unusedSimpArgs false
namespace Go.Proofs.Ytdilibnfihcmkaa.Pure
open Go.RowKit Go.Proofs.Ytdilibnfihcmkaa.Aid Go.Proofs.Ytdilibnfihcmkaa.QFnExactTally Go.Proofs.YtdilibnfihcmkaaW.PrintWords Go.Proofs.YtdilibnfihcmkaaW.PrintLast Go.Proofs.YtdilibnfihcmkaaW.PrintMore
theorem in_tell (a b c : Int) : impl_in.f a b c = some (decide (b ≤ a ∧ a ≤ c)) := by
  unfold impl_in.f
  by_cases h : a ≥ b
  · rw [if_pos h]; congr 1; rw [Bool.eq_iff_iff]; simp only [decide_eq_true_eq]; omega
  · rw [if_neg h]; congr 1; symm; rw [decide_eq_false_iff_not]; omega

theorem l1In_tell (a b c : Int) : spec_l1In.f a b c = some (decide (b ≤ a ∧ a ≤ c)) := by
  unfold spec_l1In.f
  by_cases h : a ≥ b
  · rw [if_pos h]; congr 1; rw [Bool.eq_iff_iff]; simp only [decide_eq_true_eq]; omega
  · rw [if_neg h]; congr 1; symm; rw [decide_eq_false_iff_not]; omega

theorem div_zero_iff {h : Int} {p : Int} (hp : 1 ≤ p) (h0 : 0 ≤ h) : h / p = 0 ↔ h < p := by
  constructor
  · intro hz
    have := Int.lt_ediv_add_one_mul_self h (show (0 : Int) < p by omega)
    rw [hz] at this
    omega
  · intro hz
    exact Int.ediv_eq_zero_of_lt h0 hz

def bB (k : Nat) : Int := if k < 4 then (k : Int) else (2 + (k : Int) % 2) * 2 ^ (k / 2 - 1)
def eB (k : Nat) : Nat := if k < 4 then 0 else k / 2 - 1
theorem bB_le : ∀ m : Fin 16, 0 ≤ bB m ∧ bB m + 2 ^ (eB m) ≤ 256 ∧ eB m ≤ 6 ∧ (1 : Int) ≤ 2 ^ eB m := by decide +kernel
theorem bB_le12 : ∀ m : Fin 12, bB m + 2 ^ (eB m) ≤ 64 := by decide +kernel

theorem specBase1 : ∀ m : Fin 16, spec_l5Base.f ((m.val : Nat) : Int) 1 = some (1 + bB m, ((eB m : Nat) : Int)) := by decide +kernel
theorem specBase3 : ∀ m : Fin 16, spec_l5Base.f ((m.val : Nat) : Int) 3 = some (3 + bB m, ((eB m : Nat) : Int)) := by decide +kernel

theorem implBase : ∀ m : Fin 16, impl_baseOf.f ((m.val : Nat) : Int) = some (bB m, ((eB m : Nat) : Int)) := by decide +kernel

/-- Of a number: the first symbol (from S - d on) whose numbers it is among. -/
def partD (n : Int) (S : Nat) : Nat → Option (Nat × Int × Int)
  | 0 => none
  | d + 1 => if bB (S - (d + 1)) ≤ n ∧ n < bB (S - (d + 1)) + 2 ^ eB (S - (d + 1)) then some (S - (d + 1), (eB (S - (d + 1)) : Int), n - bB (S - (d + 1))) else partD n S d
def partR (add : Int) : Option (Nat × Int × Int) → Int × Int × Int × Bool
  | none => (0, 0, 0, false)
  | some (s, e, r) => ((s : Int) + add, e, r, true)
theorem partD_lt {n : Int} {S : Nat} : ∀ {d : Nat} {s : Nat} {e r : Int}, d ≤ S → partD n S d = some (s, e, r) → s < S
  | 0, _, _, _, _, h => by simp [partD] at h
  | d + 1, s, e, r, hd, h => by
    simp only [partD] at h
    split at h
    · simp only [Option.some.injEq, Prod.mk.injEq] at h; omega
    · exact partD_lt (by omega) h
theorem partD_none {n : Int} {S : Nat} (hS : S ≤ 16) (M : Int) (hM : ∀ m : Nat, m < S → bB m + 2 ^ eB m ≤ M) (h : n < 0 ∨ M ≤ n) : ∀ (d : Nat), d ≤ S → partD n S d = none
  | 0, _ => rfl
  | d + 1, hd => by
    have h1 := bB_le ⟨S - (d + 1), by omega⟩
    have h2 := hM (S - (d + 1)) (by omega)
    simp only at h1
    simp only [partD]
    rw [if_neg (by omega)]
    exact partD_none hS M hM h d (by omega)

theorem specPart_l0 (x : Int) (S : Nat) (hS : S ≤ 16) (f add : Int) (hf : 0 ≤ f ∧ f ≤ 3) (ha : 0 ≤ add ∧ add ≤ 1000) (hx : -9223372036854775808 ≤ x ∧ x < 9223372036854775808)
    (hb : ∀ m : Fin 16, spec_l5Base.f ((m.val : Nat) : Int) f = some (f + bB m, ((eB m : Nat) : Int))) :
    ∀ (d : Nat), d ≤ S → Ev (fun k => spec_l5Part.l0 k x S f add ((S - d : Nat) : Int)) (partR add (partD (x - f) S d))
  | 0, hd => by
    refine Ev.step (f := fun _ => some (0, 0, 0, false)) (fun k => ?_) (Ev.now _)
    simp only [spec_l5Part.l0]
    rw [if_neg (by omega)]
  | d + 1, hd => by
    have ih := specPart_l0 x S hS f add hf ha hx hb d (by omega)
    have h1 := hb ⟨S - (d + 1), by omega⟩
    have h3 := bB_le ⟨S - (d + 1), by omega⟩
    have q1 : ((S - (d + 1) : Nat) : Int) < (S : Int) := by omega
    have q2 : ((S - (d + 1) : Nat) : Int) + 1 = ((S - d : Nat) : Int) := by omega
    have q3 : ((S - d : Nat) : Int) ≤ 16 := by omega
    simp only at h1 h3
    simp only [partD]
    generalize S - (d + 1) = m at *
    generalize S - d = m1 at *
    clear hd hS hb
    obtain ⟨h30, h31, h32, h33⟩ := h3
    have en : wrap64 ((m : Int) + 1) = (m1 : Int) := by rw [wrap64_id (by omega) (by omega)]; omega
    have w0 : wrap64 ((m : Int) + add) = (m : Int) + add := wrap64_id (by omega) (by omega)
    generalize bB m = b at *
    generalize eB m = e at *
    have w1 : IntKind.u64.wrap (e : Int) = (e : Int) := wrapU64_id (by omega) (by omega)
    have w2 : shl .i64 1 (e : Int) = 1 * 2 ^ e := shl_i64 (by omega) (by omega) (by omega)
    generalize (2 : Int) ^ e = p at *
    have w3 : wrap64 (f + b + 1 * p) = f + b + 1 * p := wrap64_id (by omega) (by omega)
    have q4 : (0 : Int) ≤ (e : Int) := by omega
    clear q2 q3
    by_cases hin : b ≤ x - f ∧ x - f < b + p
    · rw [if_pos hin]
      have g1 : x ≥ f + b := by omega
      have g2 : x < f + b + 1 * p := by omega
      have w4 : wrap64 (x - (f + b)) = x - (f + b) := wrap64_id (by omega) (by omega)
      refine Ev.step (f := fun _ => some (partR add (some (m, (e : Int), x - f - b)))) (fun k => ?_) (Ev.now _)
      simp only [spec_l5Part.l0]
      rw [if_pos q1, h1]
      simp only [Option.bind_some]
      rw [if_pos g1, w1, if_pos q4, w2, w3, if_pos g2, w0, w4]
      rw [show x - f - b = x - (f + b) by omega]
      rfl
    · rw [if_neg hin]
      refine Ev.step (fun k => ?_) ih
      simp only [spec_l5Part.l0]
      rw [if_pos q1, h1]
      simp only [Option.bind_some]
      rw [en]
      by_cases hge : x ≥ f + b
      · have g2 : ¬ x < f + b + 1 * p := by omega
        rw [if_pos hge, w1, if_pos q4, w2, w3, if_neg g2]
      · rw [if_neg hge]

theorem implPart_l0 (x : Int) (S : Nat) (hS : S ≤ 16) (hx : -9223372036854775808 ≤ x ∧ x < 9223372036854775808) :
    ∀ (d : Nat), d ≤ S → Ev (fun k => impl_partOf.l0 k x S ((S - d : Nat) : Int)) (partR 0 (partD x S d))
  | 0, hd => by
    refine Ev.step (f := fun _ => some (0, 0, 0, false)) (fun k => ?_) (Ev.now _)
    simp only [impl_partOf.l0]
    rw [if_neg (by omega)]
  | d + 1, hd => by
    have ih := implPart_l0 x S hS hx d (by omega)
    have h1 := implBase ⟨S - (d + 1), by omega⟩
    have h3 := bB_le ⟨S - (d + 1), by omega⟩
    simp only at h1 h3
    generalize hm : S - (d + 1) = m at *
    simp only [partD, hm]
    generalize bB m = b at *
    generalize eB m = e at *
    have hp : (2 : Int) ^ e ≤ 256 := by omega
    have en : ((S - d : Nat) : Int) = wrap64 ((m : Int) + 1) := by rw [wrap64_id (by omega) (by omega)]; omega
    by_cases hin : b ≤ x ∧ x < b + 2 ^ e
    · rw [if_pos hin]
      refine Ev.step (f := fun _ => some (partR 0 (some (m, (e : Int), x - b)))) (fun k => ?_) (Ev.now _)
      simp only [impl_partOf.l0]
      rw [if_pos (by omega), h1]
      simp only [Option.bind_some]
      rw [if_pos (by omega), shl_i64 (by omega) (by omega) (by omega), wrap64_id (n := b + 1 * 2 ^ e) (by omega) (by omega), wrap64_id (n := b + 1 * 2 ^ e - 1) (by omega) (by omega), in_tell]
      simp only [Option.bind_some]
      rw [if_pos (by rw [decide_eq_true_eq]; omega), wrap64_id (n := x - b) (by omega) (by omega)]
      simp [partR]
    · rw [if_neg hin]
      refine Ev.step (fun k => ?_) ih
      simp only [impl_partOf.l0]
      rw [if_pos (by omega), h1]
      simp only [Option.bind_some]
      rw [if_pos (by omega), shl_i64 (by omega) (by omega) (by omega), wrap64_id (n := b + 1 * 2 ^ e) (by omega) (by omega), wrap64_id (n := b + 1 * 2 ^ e - 1) (by omega) (by omega), in_tell]
      simp only [Option.bind_some]
      rw [if_neg (by rw [decide_eq_true_eq]; omega), en]

theorem specLengthPart_ev (d : Int) (hd : -9223372036854775808 ≤ d ∧ d < 9223372036854775808) : Ev (fun k => spec_LengthPart.f k d) (partR 257 (partD (d - 3) 12 12)) := by
  have h := specPart_l0 d 12 (by omega) 3 257 (by omega) (by omega) hd specBase3 12 (by omega)
  unfold spec_LengthPart.f spec_l5Part.f
  exact Ev.bind h (Ev.now _)
theorem implLengthPart_ev (d : Int) (hd : -9223372036854775808 ≤ d ∧ d < 9223372036854775808) : Ev (fun k => impl_LengthPart.f k d) (partR 257 (partD (d - 3) 12 12)) := by
  unfold impl_LengthPart.f impl_partOf.f
  rw [in_tell]
  simp only [Option.bind_some]
  by_cases h : 3 ≤ d ∧ d ≤ 66
  · rw [wrap64_id (by omega) (by omega)]
    have e := implPart_l0 (d - 3) 12 (by omega) (by omega) 12 (by omega)
    refine Ev.ifT (by rw [decide_eq_true_eq]; exact h) (Ev.bind e ?_)
    rcases hp : partD (d - 3) 12 12 with _ | ⟨s, e, r⟩
    · exact Ev.ifF (by simp [partR]) (Ev.now _)
    · have := partD_lt (by omega) hp
      simp only [partR, Int.add_zero]
      rw [wrap64_id (by omega) (by omega)]
      exact Ev.ifT (by simp) (Ev.now _)
  · rw [partD_none (by omega) 64 (fun m hm => bB_le12 ⟨m, hm⟩) (by omega) 12 (by omega)]
    exact Ev.ifF (by rw [decide_eq_true_eq]; exact h) (Ev.now _)

theorem specDistPart_ev (d : Int) (hd : -9223372036854775808 ≤ d ∧ d < 9223372036854775808) : Ev (fun k => spec_DistPart.f k d) (partR 0 (partD (d - 1) 16 16)) := by
  have h := specPart_l0 d 16 (by omega) 1 0 (by omega) (by omega) hd specBase1 16 (by omega)
  unfold spec_DistPart.f spec_l5Part.f
  exact Ev.bind h (Ev.now _)
theorem implDistPart_ev (d : Int) (hd : -9223372036854775808 ≤ d ∧ d < 9223372036854775808) : Ev (fun k => impl_DistPart.f k d) (partR 0 (partD (d - 1) 16 16)) := by
  unfold impl_DistPart.f impl_partOf.f
  rw [in_tell]
  simp only [Option.bind_some]
  by_cases h : 1 ≤ d ∧ d ≤ 256
  · rw [wrap64_id (by omega) (by omega)]
    have e := implPart_l0 (d - 1) 16 (by omega) (by omega) 16 (by omega)
    exact Ev.ifT (by rw [decide_eq_true_eq]; exact h) (Ev.bind e (Ev.now _))
  · rw [partD_none (by omega) 256 (fun m hm => (bB_le ⟨m, hm⟩).2.1) (by omega) 16 (by omega)]
    exact Ev.ifF (by rw [decide_eq_true_eq]; exact h) (Ev.now _)

theorem eqIntS_l0 (l : List Int) (hl : l.length ≤ 140737488351232) : ∀ (d : Nat) (i : Nat), i + d = l.length → Ev (fun k => laws_eqIntS.l0 k l l (i : Int)) true
  | 0, i, hi => by
    refine Ev.step (f := fun _ => some true) (fun k => ?_) (Ev.now _)
    simp only [laws_eqIntS.l0]
    rw [if_neg (by omega)]
  | d + 1, i, hi => by
    have ih := eqIntS_l0 l hl d (i + 1) (by omega)
    refine Ev.step (fun k => ?_) ih
    simp only [laws_eqIntS.l0]
    rw [if_pos (by omega), if_pos (by omega), if_pos (by omega), wrap64_id (by omega) (by omega)]
    simp
theorem eqIntS_ev (l : List Int) (hl : l.length ≤ 140737488351232) : Ev (fun k => laws_eqIntS.f k l l) true := by
  refine Ev.congr (fun k => ?_) (eqIntS_l0 l hl l.length 0 (by simp))
  simp only [laws_eqIntS.f]
  simp

def marksI : Int → List Int → List Int
  | _, [] => []
  | c, _ :: r => c :: marksI (c + 1) r
theorem marksI_length : ∀ (c : Int) (l : List Int), (marksI c l).length = l.length
  | _, [] => rfl
  | c, _ :: r => by simp [marksI, marksI_length (c + 1) r]
theorem marksI_again : ∀ (c : Int) (l : List Int), marksI c (marksI c l) = marksI c l
  | _, [] => rfl
  | c, _ :: r => by simp [marksI, marksI_again (c + 1) r]
theorem markIntS_l0 : ∀ (d : Nat) (x : List Int) (c : Int) (i : Nat), x.length ≤ 140737488355328 → i + d = x.length → 0 ≤ c → c + d ≤ 4611686018427387904 →
    Ev (fun k => laws_markIntS.l0 k x c (i : Int)) (c + d, x.take i ++ marksI c (x.drop i))
  | 0, x, c, i, hl, hi, hc, hc1 => by
    refine Ev.step (f := fun _ => some (c, x)) (fun k => ?_) (Ev.const ?_)
    · simp only [laws_markIntS.l0]
      rw [if_neg (by omega)]
    · rw [List.take_of_length_le (by omega), List.drop_of_length_le (by omega)]
      simp [marksI]
  | d + 1, x, c, i, hl, hi, hc, hc1 => by
    have ih := markIntS_l0 d (x.set i (c)) (c + 1) (i + 1) (by simpa using hl) (by simp; omega) (by omega) (by omega)
    have e1 : (x.set i (c)).take (i + 1) = x.take i ++ [c] := by
      rw [List.take_succ_eq_append_getElem (by simp; omega), List.take_set_of_le (by omega)]; simp
    have e2 : (x.set i (c)).drop (i + 1) = x.drop (i + 1) := by rw [List.drop_set]; simp
    have e3 : x.drop i = x[i]'(by omega) :: x.drop (i + 1) := List.drop_eq_getElem_cons (by omega)
    rw [e1, e2] at ih
    have e4 : (c + ((d + 1 : Nat) : Int), x.take i ++ marksI c (x.drop i)) = (c + 1 + (d : Int), x.take i ++ [c] ++ marksI (c + 1) (x.drop (i + 1))) := by
      rw [e3]; simp [marksI]; omega
    rw [e4]
    refine Ev.step (fun k => ?_) ih
    simp only [laws_markIntS.l0]
    rw [if_pos (by omega), if_pos (by omega), wrap64_id (by omega) (by omega), wrap64_id (by omega) (by omega)]
    simp
theorem markIntS_ev (x : List Int) (c : Int) (hl : x.length ≤ 140737488355328) (hc : 0 ≤ c) (hc1 : c + x.length ≤ 4611686018427387904) : Ev (fun k => laws_markIntS.f k x c) (c + x.length, marksI c x) := by
  have := markIntS_l0 x.length x c 0 hl (by omega) hc hc1
  simpa [laws_markIntS.f] using this
theorem heldIntS_l0 : ∀ (d : Nat) (x : List Int) (c : Int) (i : Nat), x.length ≤ 140737488355328 → i + d = x.length → 0 ≤ c → c + d ≤ 4611686018427387904 → x.drop i = marksI c (x.drop i) →
    Ev (fun k => laws_heldIntS.l0 k x c (i : Int)) (c + d)
  | 0, x, c, i, hl, hi, hc, hc1, hm => by
    refine Ev.step (f := fun _ => some c) (fun k => ?_) (Ev.const (by simp))
    simp only [laws_heldIntS.l0]
    rw [if_neg (by omega)]
  | d + 1, x, c, i, hl, hi, hc, hc1, hm => by
    have e3 : x.drop i = x[i]'(by omega) :: x.drop (i + 1) := List.drop_eq_getElem_cons (by omega)
    rw [e3] at hm
    simp only [marksI, List.cons.injEq] at hm
    have ih := heldIntS_l0 d x (c + 1) (i + 1) hl (by omega) (by omega) (by omega) hm.2
    have e4 : c + ((d + 1 : Nat) : Int) = c + 1 + (d : Int) := by omega
    rw [e4]
    refine Ev.step (fun k => ?_) ih
    simp only [laws_heldIntS.l0]
    rw [if_pos (by omega), if_pos (by omega), if_pos (by rw [rd_get x i (by omega)]; exact hm.1), wrap64_id (by omega) (by omega), wrap64_id (by omega) (by omega)]
    simp
theorem heldIntS_ev (x : List Int) (c : Int) (hl : x.length ≤ 140737488355328) (hc : 0 ≤ c) (hc1 : c + x.length ≤ 4611686018427387904) : Ev (fun k => laws_heldIntS.f k (marksI c x) c) (c + x.length) := by
  have := heldIntS_l0 x.length (marksI c x) c 0 (by rw [marksI_length]; exact hl) (by rw [marksI_length]; omega) hc hc1 (by simp [marksI_again])
  simpa [laws_heldIntS.f] using this

/-- Tokens' lists: read, held, marked. -/
theorem tok_get (l : List S78) (i : Nat) (h : i < l.length) : rd_T78 l (i : Int) = l[i] := by simp [rd_T78, List.getElem?_eq_getElem h]
theorem tok_eta (x : S78) : (⟨x.f0, x.f1, x.f2, x.f3⟩ : S78) = x := rfl
theorem eqTokenS_l0 (l : List S78) (hl : l.length ≤ 1048576) : ∀ (d : Nat) (i : Nat), i + d = l.length → Ev (fun k => laws_eqTokenS.l0 k l l (i : Int)) true
  | 0, i, hi => by
    refine Ev.step (f := fun _ => some true) (fun k => ?_) (Ev.now _)
    simp only [laws_eqTokenS.l0]
    rw [if_neg (by omega)]
  | d + 1, i, hi => by
    have ih := eqTokenS_l0 l hl d (i + 1) (by omega)
    refine Ev.step (fun k => ?_) ih
    simp only [laws_eqTokenS.l0, laws_eqToken.f]
    rw [if_pos (by omega), if_pos (by omega), if_pos (by omega), wrap64_succ (by omega)]
    simp
theorem eqTokenS_ev (l : List S78) (hl : l.length ≤ 1048576) : Ev (fun k => laws_eqTokenS.f k l l) true := by
  refine Ev.congr (fun k => ?_) (eqTokenS_l0 l hl l.length 0 (by simp))
  simp only [laws_eqTokenS.f]
  simp
def marksT : Int → List S78 → List S78
  | _, [] => []
  | c, _ :: r => ⟨c, c + 1, c + 2, c + 3⟩ :: marksT (c + 4) r
theorem marksT_length : ∀ (c : Int) (l : List S78), (marksT c l).length = l.length
  | _, [] => rfl
  | c, _ :: r => by simp [marksT, marksT_length (c + 4) r]
theorem marksT_again : ∀ (c : Int) (l : List S78), marksT c (marksT c l) = marksT c l
  | _, [] => rfl
  | c, _ :: r => by simp [marksT, marksT_again (c + 4) r]
theorem markTokenS_l0 : ∀ (d : Nat) (x : List S78) (c : Int) (i : Nat), x.length ≤ 1048576 → i + d = x.length → 0 ≤ c → c + 4 * d ≤ 4611686018427387904 →
    Ev (fun k => laws_markTokenS.l0 k x c (i : Int)) (c + 4 * d, x.take i ++ marksT c (x.drop i))
  | 0, x, c, i, hl, hi, hc, hc1 => by
    refine Ev.step (f := fun _ => some (c, x)) (fun k => ?_) (Ev.const ?_)
    · simp only [laws_markTokenS.l0]
      rw [if_neg (by omega)]
    · rw [List.take_of_length_le (by omega), List.drop_of_length_le (by omega)]
      simp [marksT]
  | d + 1, x, c, i, hl, hi, hc, hc1 => by
    have ih := markTokenS_l0 d (x.set i ⟨c, c + 1, c + 2, c + 3⟩) (c + 4) (i + 1) (by simpa using hl) (by simp; omega) (by omega) (by omega)
    have e1 : (x.set i (⟨c, c + 1, c + 2, c + 3⟩ : S78)).take (i + 1) = x.take i ++ [⟨c, c + 1, c + 2, c + 3⟩] := by
      rw [List.take_succ_eq_append_getElem (by simp; omega), List.take_set_of_le (by omega)]; simp
    have e2 : (x.set i (⟨c, c + 1, c + 2, c + 3⟩ : S78)).drop (i + 1) = x.drop (i + 1) := by rw [List.drop_set]; simp
    have e3 : x.drop i = x[i]'(by omega) :: x.drop (i + 1) := List.drop_eq_getElem_cons (by omega)
    rw [e1, e2] at ih
    have e4 : (c + 4 * ((d + 1 : Nat) : Int), x.take i ++ marksT c (x.drop i)) = (c + 4 + 4 * (d : Int), x.take i ++ [⟨c, c + 1, c + 2, c + 3⟩] ++ marksT (c + 4) (x.drop (i + 1))) := by
      rw [e3]; simp [marksT]; omega
    rw [e4]
    refine Ev.step (fun k => ?_) ih
    have w1 : wrap64 (c + 1) = c + 1 := wrap64_id (by omega) (by omega)
    have w2 : wrap64 (c + 1 + 1) = c + 2 := by rw [wrap64_id (by clear w1; omega) (by clear w1; omega)]; clear w1; omega
    have w3 : wrap64 (c + 2 + 1) = c + 3 := by rw [wrap64_id (by clear w1 w2; omega) (by clear w1 w2; omega)]; clear w1 w2; omega
    have w4 : wrap64 (c + 3 + 1) = c + 4 := by rw [wrap64_id (by clear w1 w2 w3; omega) (by clear w1 w2 w3; omega)]; clear w1 w2 w3; omega
    have w5 : wrap64 ((i : Int) + 1) = ((i + 1 : Nat) : Int) := wrap64_succ (by clear w1 w2 w3 w4; omega)
    have g1 : (i : Int) < (x.length : Int) := by clear w1 w2 w3 w4 w5; omega
    have g2 : (0 : Int) ≤ (i : Int) := by clear w1 w2 w3 w4 w5; omega
    have hi2 : i < x.length := by clear w1 w2 w3 w4 w5; omega
    simp only [laws_markTokenS.l0]
    rw [if_pos g1, if_pos g2, w1, w2, w3, w4, w5]
    simp only [Option.bind_some, Int.toNat_natCast, List.set_set]
    congr 1
    simp [rd_T78, hi2]
theorem markTokenS_ev (x : List S78) (c : Int) (hl : x.length ≤ 1048576) (hc : 0 ≤ c) (hc1 : c ≤ 1000000000000000000) : Ev (fun k => laws_markTokenS.f k x c) (c + 4 * x.length, marksT c x) := by
  have := markTokenS_l0 x.length x c 0 hl (by omega) hc (by omega)
  simpa [laws_markTokenS.f] using this

/-- Tokens that come in, copied. (81: as they come in, 78: as they are told.) -/
def convT (x : S81) : S78 := ⟨x.f0, x.f1, x.f2, x.f3⟩
theorem toTokenS_l0 (l : List S81) (hl : l.length ≤ 8796093022208) : ∀ (d : Nat) (o : List S78) (i : Nat), i + d = l.length → o.length = l.length → Ev (fun k => laws_toTokenS.l0 k l o (i : Int)) (o.take i ++ (l.drop i).map convT)
  | 0, o, i, hi, ho => by
    refine Ev.step (f := fun _ => some o) (fun k => ?_) (Ev.const ?_)
    · simp only [laws_toTokenS.l0]
      rw [if_neg (by omega)]
    · rw [List.take_of_length_le (by omega), List.drop_of_length_le (by omega)]; simp
  | d + 1, o, i, hi, ho => by
    have ih := toTokenS_l0 l hl d (o.set i (convT (l[i]'(by omega)))) (i + 1) (by omega) (by simpa using ho)
    have e1 : (o.set i (convT (l[i]'(by omega)))).take (i + 1) = o.take i ++ [convT (l[i]'(by omega))] := by
      rw [List.take_succ_eq_append_getElem (by simp; omega), List.take_set_of_le (by omega)]; simp
    have e3 : l.drop i = l[i]'(by omega) :: l.drop (i + 1) := List.drop_eq_getElem_cons (by omega)
    have er : rd_T81 l (i : Int) = l[i]'(by omega) := by simp [rd_T81, List.getElem?_eq_getElem (show i < l.length by omega)]
    rw [e1, List.append_assoc, List.singleton_append, ← List.map_cons, ← e3] at ih
    refine Ev.step (fun k => ?_) ih
    simp only [laws_toTokenS.l0, laws_toToken.f]
    rw [if_pos (by omega), if_pos (by omega)]
    simp only [Option.bind_some]
    rw [if_pos (by omega), wrap64_succ (by omega), er]
    rfl
theorem toTokenS_ev (l : List S81) (hl : l.length ≤ 1048576) : Ev (fun k => laws_toTokenS.f k l) (l.map convT) := by
  have e := toTokenS_l0 l (by omega) l.length (List.replicate l.length z78) 0 (by omega) (by simp)
  rw [List.take_zero, List.nil_append, List.drop_zero] at e
  refine Ev.congr (fun k => ?_) e
  simp only [laws_toTokenS.f]
  rw [if_pos (by omega), if_pos (by omega)]
  rfl
theorem szTokenS_tell (l : List S81) (a : Int) (hl : l.length ≤ 9223372036854775807) (h0 : 0 ≤ a) (h1 : a ≤ 1048576) : laws_szTokenS.f l a = some (if a < (l.length : Int) then -1 else a - l.length) := by
  unfold laws_szTokenS.f
  rw [wrap64_id (by omega) (by omega)]
  by_cases q : a < (l.length : Int)
  · rw [if_pos q, if_pos (by omega)]
  · rw [if_neg q, if_neg (by omega)]

/-- Are all tokens of a list fine? (impl_Token_93_of_impl_tokensOk_1: the search, impl_Token_84_of_impl_tokensOk_1: whether it finds.) -/
def tokOk (t : S78) : Bool := decide ((t.f0 = 1 ∧ 0 ≤ t.f1 ∧ t.f1 ≤ 255 ∧ t.f2 = 0 ∧ t.f3 = 0) ∨ (t.f0 = 2 ∧ t.f1 = 0 ∧ 3 ≤ t.f2 ∧ t.f2 ≤ 66 ∧ 1 ≤ t.f3 ∧ t.f3 ≤ 256))
theorem implTokenOk_tell (a b c d : Int) : impl_TokenOk.f a b c d = some (tokOk ⟨a, b, c, d⟩) := by
  unfold impl_TokenOk.f tokOk
  simp only [in_tell, Option.bind_some, decide_eq_true_eq]
  by_cases h1 : a = 1
  · rw [if_pos h1]
    by_cases h2 : 0 ≤ b ∧ b ≤ 255
    · rw [if_pos h2]
      by_cases h3 : c = 0
      · rw [if_pos h3]
        congr 1
        rw [Bool.eq_iff_iff, decide_eq_true_eq, beq_iff_eq]
        constructor
        · intro q; exact .inl ⟨h1, h2.1, h2.2, h3, q⟩
        · intro q; omega
      · rw [if_neg h3]
        congr 1
        symm; rw [decide_eq_false_iff_not]; omega
    · rw [if_neg h2]
      congr 1
      symm; rw [decide_eq_false_iff_not]; omega
  · rw [if_neg h1]
    by_cases h2 : a = 2
    · rw [if_pos h2]
      by_cases h3 : b = 0
      · rw [if_pos h3]
        by_cases h4 : 3 ≤ c ∧ c ≤ 66
        · rw [if_pos h4]
          congr 1
          rw [Bool.eq_iff_iff, decide_eq_true_eq, decide_eq_true_eq]
          omega
        · rw [if_neg h4]
          congr 1
          symm; rw [decide_eq_false_iff_not]; omega
      · rw [if_neg h3]
        congr 1
        symm; rw [decide_eq_false_iff_not]; omega
    · rw [if_neg h2]
      congr 1
      symm; rw [decide_eq_false_iff_not]; omega
theorem tokensOk_l0 (l : List S78) (hl : l.length ≤ 1048576) : ∀ (d i : Nat), i + d = l.length → ∃ r : Int, decide (r ≥ 0) = !(l.drop i).all tokOk ∧ Ev (fun k => impl_Token_93_of_impl_tokensOk_1.l0 k l (l.length : Int) (i : Int)) r
  | 0, i, hi => by
    refine ⟨-1, by rw [List.drop_of_length_le (by omega)]; rfl, Ev.step (f := fun _ => some (-1)) (fun k => ?_) (Ev.now _)⟩
    simp only [impl_Token_93_of_impl_tokensOk_1.l0]
    rw [if_neg (by omega)]
  | d + 1, i, hi => by
    obtain ⟨r, h1, h2⟩ := tokensOk_l0 l hl d (i + 1) (by omega)
    have e3 : l.drop i = l[i]'(by omega) :: l.drop (i + 1) := List.drop_eq_getElem_cons (by omega)
    have g1 : (i : Int) < (l.length : Int) := by omega
    have g2 : (0 : Int) ≤ (i : Int) := by omega
    have er : rd_T78 l (i : Int) = l[i]'(by omega) := by simp [rd_T78, List.getElem?_eq_getElem (show i < l.length by omega)]
    by_cases hb : tokOk (l[i]'(by omega)) = true
    · refine ⟨r, ?_, Ev.step (fun k => ?_) h2⟩
      · rw [h1, e3, List.all_cons, hb, Bool.true_and]
      · simp only [impl_Token_93_of_impl_tokensOk_1.l0, impl_tokensOk_1.f]
        rw [if_pos g1, if_pos g2, if_pos g1, er, implTokenOk_tell]
        simp only [Option.bind_some]
        rw [hb, wrap64_succ (by omega)]
        simp
    · refine ⟨(i : Int), ?_, Ev.step (f := fun _ => some (i : Int)) (fun k => ?_) (Ev.now _)⟩
      · rw [e3, List.all_cons, Bool.eq_false_iff.2 hb, Bool.false_and, Bool.not_false, decide_eq_true_eq]; omega
      · simp only [impl_Token_93_of_impl_tokensOk_1.l0, impl_tokensOk_1.f]
        rw [if_pos g1, if_pos g2, if_pos g1, er, implTokenOk_tell]
        simp only [Option.bind_some]
        rw [Bool.eq_false_iff.2 hb]
        simp
theorem tokensOk_ev (l : List S78) (hl : l.length ≤ 1048576) : Ev (fun k => impl_tokensOk.f k l) (decide (l.length ≤ 1024) && l.all tokOk) := by
  unfold impl_tokensOk.f impl_Token_84_of_impl_tokensOk_1.f impl_Token_93_of_impl_tokensOk_1.f
  by_cases h : (l.length : Int) ≤ 1024
  · obtain ⟨r, h1, h2⟩ := tokensOk_l0 l hl l.length 0 (by omega)
    refine Ev.ifT h (Ev.bind (a := decide (r ≥ 0)) (Ev.bind h2 (Ev.now _)) (Ev.const ?_))
    rw [h1, decide_eq_true (show l.length ≤ 1024 by omega)]
    simp
  · refine Ev.ifF h (Ev.const ?_)
    rw [decide_eq_false (by omega)]; rfl

theorem specTokenOk_tell (a b c d : Int) : spec_TokenOk.f a b c d = some (tokOk ⟨a, b, c, d⟩) := by
  rw [← implTokenOk_tell]
  unfold spec_TokenOk.f impl_TokenOk.f
  simp only [in_tell, l1In_tell]
theorem l5Ok_l0 (l : List S78) (hl : l.length ≤ 1048576) : ∀ (d i : Nat), i + d = l.length → Ev (fun k => spec_l5Ok.l0 k l (i : Int)) ((l.drop i).all tokOk)
  | 0, i, hi => by
    rw [List.drop_of_length_le (by omega)]
    refine Ev.step (f := fun _ => some true) (fun k => ?_) (Ev.now _)
    simp only [spec_l5Ok.l0]
    rw [if_neg (by omega)]
  | d + 1, i, hi => by
    have ih := l5Ok_l0 l hl d (i + 1) (by omega)
    have e3 : l.drop i = l[i]'(by omega) :: l.drop (i + 1) := List.drop_eq_getElem_cons (by omega)
    have er : rd_T78 l (i : Int) = l[i]'(by omega) := by simp [rd_T78, List.getElem?_eq_getElem (show i < l.length by omega)]
    have g1 : (i : Int) < (l.length : Int) := by omega
    have g2 : (0 : Int) ≤ (i : Int) := by omega
    rw [e3, List.all_cons]
    by_cases hb : tokOk (l[i]'(by omega)) = true
    · rw [hb, Bool.true_and]
      refine Ev.step (fun k => ?_) ih
      simp only [spec_l5Ok.l0]
      rw [if_pos g1, if_pos g2, er, specTokenOk_tell]
      simp only [Option.bind_some]
      rw [if_pos hb, wrap64_succ (by omega)]
    · rw [Bool.eq_false_iff.2 hb, Bool.false_and]
      refine Ev.step (f := fun _ => some false) (fun k => ?_) (Ev.now _)
      simp only [spec_l5Ok.l0]
      rw [if_pos g1, if_pos g2, er, specTokenOk_tell]
      simp only [Option.bind_some]
      rw [if_neg hb]
theorem l5Ok_ev (l : List S78) (hl : l.length ≤ 1048576) : Ev (fun k => spec_l5Ok.f k l) (decide (l.length ≤ 1024) && l.all tokOk) := by
  unfold spec_l5Ok.f
  by_cases h : (l.length : Int) > 1024
  · refine Ev.ifT h (Ev.const ?_)
    rw [decide_eq_false (by omega)]; rfl
  · rw [decide_eq_true (show l.length ≤ 1024 by omega), Bool.true_and]
    exact Ev.ifF h (l5Ok_l0 l hl l.length 0 (by omega))

theorem partR_sym {n : Int} {S : Nat} (add : Int) : ((partR add (partD n S S)).1 = 0) ∨ ∃ s : Nat, s < S ∧ (partR add (partD n S S)).1 = (s : Int) + add := by
  rcases hp : partD n S S with _ | ⟨s, e, r⟩
  · exact .inl rfl
  · exact .inr ⟨s, partD_lt (Nat.le_refl _) hp, rfl⟩
theorem set_apart (o : List Int) (j : Nat) (v w : Int) (h : j ≠ 256) : (o.set 256 v).set j w = (o.set j w).set 256 v := by
  rw [List.set_comm _ _ (fun e => h e.symm)]
theorem rd_apart (o : List Int) (j : Nat) (v : Int) (h : j ≠ 256) : rd (o.set 256 v) (j : Int) = rd o (j : Int) := by
  unfold rd
  simp only [Int.toNat_natCast, List.getD_eq_getElem?_getD]
  rw [List.getElem?_set_ne (fun e => h e.symm)]
theorem rd_apart2 (o : List Int) (j : Nat) (v : Int) (h : j ≠ 256) : rd (o.set j v) 256 = rd o 256 := by
  unfold rd
  rw [show (256 : Int).toNat = 256 from rfl, List.getD_eq_getElem?_getD, List.getElem?_set_ne h, ← List.getD_eq_getElem?_getD]
theorem tally_go (l : List S78) (hl : l.length ≤ 1024) (hok : l.all tokOk = true) : ∀ (d i : Nat) (o p : List Int), i + d = l.length → o.length = 269 → p.length = 16 → rd o 256 = 0 →
    ∃ a b : List Int, a.length = 269 ∧ b.length = 16 ∧ Ev (fun k => spec_Tally.l0 k l (o.set 256 1) p (i : Int)) (a, b, true) ∧ Ev (fun k => impl_Tally.l0 k o p l (l.length : Int) (i : Int)) (a, b, true)
  | 0, i, o, p, hi, ho, hp, hz => by
    refine ⟨o.set 256 1, p, by simpa using ho, hp, ?_, ?_⟩
    · refine Ev.step (f := fun _ => some (o.set 256 1, p, true)) (fun k => ?_) (Ev.now _)
      simp only [spec_Tally.l0]
      rw [if_neg (by omega)]
    · refine Ev.step (f := fun _ => some (o.set 256 1, p, true)) (fun k => ?_) (Ev.now _)
      simp only [impl_Tally.l0]
      rw [if_neg (by omega), if_pos (by omega), hz, show wrap64 (0 + 1) = 1 by decide +kernel]
      rfl
  | d + 1, i, o, p, hi, ho, hp, hz => by
    have er : rd_T78 l (i : Int) = l[i]'(by omega) := by simp [rd_T78, List.getElem?_eq_getElem (show i < l.length by omega)]
    have g1 : (i : Int) < (l.length : Int) := by omega
    have g2 : (0 : Int) ≤ (i : Int) := by omega
    have hx := List.all_eq_true.1 hok (l[i]'(by omega)) (List.getElem_mem _)
    have wi : wrap64 ((i : Int) + 1) = ((i + 1 : Nat) : Int) := wrap64_succ (by omega)
    unfold tokOk at hx
    rw [decide_eq_true_eq] at hx
    have next : ∀ (j q : Nat) (v w : Int), j ≠ 256 → ∃ a b : List Int, a.length = 269 ∧ b.length = 16 ∧ Ev (fun k => spec_Tally.l0 k l ((o.set 256 1).set j v) (p.set q w) ((i + 1 : Nat) : Int)) (a, b, true) ∧ Ev (fun k => impl_Tally.l0 k (o.set j v) (p.set q w) l (l.length : Int) ((i + 1 : Nat) : Int)) (a, b, true) := by
      intro j q v w hj
      rw [set_apart o j 1 v hj]
      exact tally_go l hl hok d (i + 1) (o.set j v) (p.set q w) (by clear wi; omega) (by simpa using ho) (by simpa using hp) (by rw [rd_apart2 o j v hj]; exact hz)
    generalize l[i]'(by omega) = x at er hx
    have hs : (o.set 256 1).length = 269 := by simpa using ho
    rcases hx with hx | hx
    · have h1 : x.f0 = 1 := hx.1
      obtain ⟨j, hj⟩ := Int.eq_ofNat_of_zero_le hx.2.1
      have hj2 : j ≤ 255 := by clear wi; omega
      obtain ⟨a, b, ha, hb, s, t⟩ := next j 16 (wrap64 (rd o (j : Int) + 1)) 0 (by clear wi; omega)
      have ep : p.set 16 0 = p := List.set_eq_of_length_le (by clear wi; omega)
      rw [ep] at s t
      refine ⟨a, b, ha, hb, Ev.step (fun k => ?_) s, Ev.step (fun k => ?_) t⟩
      · simp only [spec_Tally.l0]
        rw [if_pos g1, if_pos g2, er, if_pos h1, hj, if_pos (by clear wi; omega), if_pos (by rw [hs]; clear wi; omega), rd_apart o j 1 (by clear wi; omega), wi]
        rfl
      · simp only [impl_Tally.l0]
        rw [if_pos g1, if_pos g2, if_pos g1, er, if_pos h1, hj, if_pos (by clear wi; omega), if_pos (by rw [ho]; clear wi; omega), wi]
        rfl
    · have h1 : ¬ x.f0 = 1 := by rw [hx.1]; decide
      have e1 := specLengthPart_ev x.f2 (by clear wi; omega)
      have e2 := implLengthPart_ev x.f2 (by clear wi; omega)
      have e3 := specDistPart_ev x.f3 (by clear wi; omega)
      have e4 := implDistPart_ev x.f3 (by clear wi; omega)
      have s1 := partR_sym (n := x.f2 - 3) (S := 12) 257
      have s2 := partR_sym (n := x.f3 - 1) (S := 16) 0
      generalize partR 257 (partD (x.f2 - 3) 12 12) = u at *
      generalize partR 0 (partD (x.f3 - 1) 16 16) = v at *
      obtain ⟨u1, u2⟩ := u
      obtain ⟨v1, v2⟩ := v
      simp only at s1 s2
      have s1' : 0 ≤ u1 ∧ u1 < 269 ∧ u1 ≠ 256 := by clear wi; rcases s1 with h | ⟨s, h, h2⟩ <;> omega
      have s2' : 0 ≤ v1 ∧ v1 < 16 := by clear wi; rcases s2 with h | ⟨s, h, h2⟩ <;> omega
      clear s1 s2
      obtain ⟨j, rfl⟩ := Int.eq_ofNat_of_zero_le s1'.1
      obtain ⟨q, rfl⟩ := Int.eq_ofNat_of_zero_le s2'.1
      obtain ⟨a, b, ha, hb, s, t⟩ := next j q (wrap64 (rd o (j : Int) + 1)) (wrap64 (rd p (q : Int) + 1)) (by clear wi; omega)
      rw [← wi] at s t
      clear wi
      refine ⟨a, b, ha, hb, ?_, ?_⟩
      · refine Ev.step (f := fun k => (spec_LengthPart.f k x.f2).bind fun bt161 => (spec_DistPart.f k x.f3).bind fun bt167 => if 0 ≤ bt161.1 then (if bt161.1 < ((o.set 256 1).length : Int) then (if 0 ≤ bt167.1 then (if bt167.1 < (p.length : Int) then spec_Tally.l0 k l ((o.set 256 1).set (bt161.1 : Int).toNat (wrap64 ((rd (o.set 256 1) bt161.1) + 1))) (p.set (bt167.1 : Int).toNat (wrap64 ((rd p bt167.1) + 1))) (wrap64 ((i : Int) + 1)) else none) else none) else none) else none) (fun k => ?_) (Ev.bind e1 (Ev.bind e3 (Ev.ifT s1'.1 (Ev.ifT (by rw [hs]; exact s1'.2.1) (Ev.ifT s2'.1 (Ev.ifT (by rw [hp]; exact s2'.2) ?_))))))
        · simp only [spec_Tally.l0]
          rw [if_pos g1, if_pos g2, er, if_neg h1]
        · simp only [Int.toNat_natCast]
          rw [rd_apart o j 1 (by omega)]
          exact s
      · refine Ev.step (f := fun k => (impl_LengthPart.f k x.f2).bind fun bt161 => (impl_DistPart.f k x.f3).bind fun bt167 => if 0 ≤ bt161.1 then (if bt161.1 < (o.length : Int) then (if 0 ≤ bt167.1 then (if bt167.1 < (p.length : Int) then impl_Tally.l0 k (o.set (bt161.1 : Int).toNat (wrap64 ((rd o bt161.1) + 1))) (p.set (bt167.1 : Int).toNat (wrap64 ((rd p bt167.1) + 1))) l (l.length : Int) (wrap64 ((i : Int) + 1)) else none) else none) else none) else none) (fun k => ?_) (Ev.bind e2 (Ev.bind e4 (Ev.ifT s1'.1 (Ev.ifT (by rw [ho]; exact s1'.2.1) (Ev.ifT s2'.1 (Ev.ifT (by rw [hp]; exact s2'.2) ?_))))))
        · simp only [impl_Tally.l0]
          rw [if_pos g1, if_pos g2, if_pos g1, er, if_neg h1]
        · simp only [Int.toNat_natCast]
          exact t
theorem tally_both (l : List S78) (hl : l.length ≤ 1048576) : ∃ (a b : List Int) (c : Bool), a.length ≤ 269 ∧ b.length ≤ 16 ∧ Ev (fun k => spec_Tally.f k l) (a, b, c) ∧ Ev (fun k => impl_Tally.f k l) (a, b, c) := by
  have t1 := l5Ok_ev l hl
  have t2 := tokensOk_ev l hl
  unfold spec_Tally.f impl_Tally.f
  by_cases h : (decide (l.length ≤ 1024) && l.all tokOk) = true
  · rw [h] at t1 t2
    rw [Bool.and_eq_true, decide_eq_true_eq] at h
    obtain ⟨a, b, ha, hb, s, i⟩ := tally_go l h.1 h.2 l.length 0 (List.replicate 269 0) (List.replicate 16 0) (by omega) List.length_replicate List.length_replicate (by rfl)
    refine ⟨a, b, true, by omega, by omega, Ev.bind t1 (Ev.ifT rfl ?_), Ev.bind t2 (Ev.ifT rfl i)⟩
    simp only [Option.bind_some]
    exact Ev.ifT (by rw [List.length_replicate]; decide) s
  · rw [Bool.eq_false_iff.2 h] at t1 t2
    exact ⟨[], [], false, by simp, by simp, Ev.bind t1 (Ev.ifF (by decide) (Ev.now _)), Ev.bind t2 (Ev.ifF (by decide) (Ev.now _))⟩

theorem FnExactTally : ∀ (l0 : List S81), l0.length ≤ maxLen → (∀ t ∈ l0, (Lit.int .i64 t.f0).wf = true ∧ (Lit.int .i64 t.f1).wf = true ∧ (Lit.int .i64 t.f2).wf = true ∧ (Lit.int .i64 t.f3).wf = true) → ∃ k, laws_FnExactTally.f k l0 = some true := by
  intro l hm _
  unfold maxLen at hm
  refine Ev.rounds ?_
  unfold laws_FnExactTally.f
  refine Ev.bindc (szTokenS_tell l 1048576 hm (by omega) (by omega)) ?_
  by_cases hl : (1048576 : Int) < (l.length : Int)
  · rw [if_pos hl]; exact Ev.ifT (by omega) (Ev.now _)
  rw [if_neg hl]
  have t := toTokenS_ev l (by omega)
  have hlen : (l.map convT).length = l.length := by simp
  have et := eqTokenS_ev (l.map convT) (by omega)
  have mt := markTokenS_ev (l.map convT) 1 (by omega) (by omega) (by omega)
  obtain ⟨a, b, c, ha, hb, s, i⟩ := tally_both (l.map convT) (by omega)
  have ea := eqIntS_ev a (by omega)
  have eb := eqIntS_ev b (by omega)
  have ma := markIntS_ev a 1 (by omega) (by omega) (by omega)
  have mb := markIntS_ev b (1 + a.length) (by omega) (by omega) (by omega)
  have ha2 := heldIntS_ev a 1 (by omega) (by omega) (by omega)
  have hb2 := heldIntS_ev b (1 + a.length) (by omega) (by omega) (by omega)
  refine Ev.ifF (by omega) (Ev.bind t (Ev.bind s (Ev.bind t (Ev.bind i (Ev.bind ea (Ev.ifT rfl (Ev.bind eb (Ev.ifT rfl ?_))))))))
  simp only [bne_self_eq_false]
  refine Ev.step (fun _ => laws_FnExactTally.j0.eq_2 _ _ _ _ _ _ _ _ _ _) (Ev.ifF (by decide) (Ev.bind t (Ev.bind et (Ev.ifT rfl (Ev.bind mt (Ev.ifF (by omega) (Ev.bind ea (Ev.ifT rfl (Ev.bind eb (Ev.ifT rfl ?_))))))))))
  simp only [bne_self_eq_false]
  refine Ev.step (fun _ => laws_FnExactTally.j1.eq_2 _ _ _ _ _ _ _ _) (Ev.ifF (by decide) (Ev.bind ma (Ev.bind mb (Ev.bind ha2 (Ev.ifF (by omega) (Ev.bind hb2 (Ev.ifF (by omega) (Ev.ifT rfl (Ev.bind t (Ev.bind i (Ev.bind ea (Ev.ifT rfl (Ev.bind eb (Ev.ifT rfl ?_))))))))))))))
  simp only [bne_self_eq_false]
  exact Ev.step (fun _ => laws_FnExactTally.j2.eq_2 _ _ _ _ _) (Ev.ifF (by decide) (Ev.bind ha2 (Ev.ifF (by omega) (Ev.bind hb2 (Ev.ifF (by omega) (Ev.ifT rfl (Ev.now _)))))))

end Go.Proofs.Ytdilibnfihcmkaa.Pure
