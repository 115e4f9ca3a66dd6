/- The plain law of FnExactPackLens, over numbers and lists alone: what the printed functions answer is true for all arguments. Conditions: those of the arguments' kinds. -/
import Derived.Test.YtndoapmehgfdkacQFnExactPackLensx6
import Derived.Test.YtndoapmehgfdkacAid
set_option linter.unusedVariables false
set_option linter.unusedSimpArgs false
namespace Go.Proofs.Ytndoapmehgfdkac.Pure
open Go.RowKit Go.Proofs.Ytndoapmehgfdkac.Aid Go.Proofs.Ytndoapmehgfdkac.QFnExactPackLens Go.Proofs.YtndoapmehgfdkacW.PrintWords Go.Proofs.YtndoapmehgfdkacW.PrintLast Go.Proofs.YtndoapmehgfdkacW.PrintMore
theorem in_tell (a b c : Int) : impl_in.f a b c = some (decide (b ≤ a ∧ a ≤ c)) := by
  unfold impl_in.f
  by_cases h : a ≥ b
  · rw [if_pos h]; congr 1; rw [Bool.eq_iff_iff]; simp only [decide_eq_true_eq]; omega
  · rw [if_neg h]; congr 1; symm; rw [decide_eq_false_iff_not]; omega

theorem l1In_tell (a b c : Int) : spec_l1In.f a b c = some (decide (b ≤ a ∧ a ≤ c)) := by
  unfold spec_l1In.f
  by_cases h : a ≥ b
  · rw [if_pos h]; congr 1; rw [Bool.eq_iff_iff]; simp only [decide_eq_true_eq]; omega
  · rw [if_neg h]; congr 1; symm; rw [decide_eq_false_iff_not]; omega

theorem toIntS_l0 (l : List Int) (hl : l.length ≤ 17592186044416) : ∀ (d : Nat) (x : List Int) (i : Nat), x.length = l.length → i + d = l.length → x.take i = l.take i → Ev (fun k => laws_toIntS.l0 k l x (i : Int)) l
  | 0, x, i, hx, hi, ht => by
    refine Ev.step (f := fun _ => some l) (fun k => ?_) (Ev.now _)
    simp only [laws_toIntS.l0]
    rw [if_neg (by omega)]
    congr 1
    rw [List.take_of_length_le (by omega), List.take_of_length_le (by omega)] at ht
    exact ht
  | d + 1, x, i, hx, hi, ht => by
    have ih := toIntS_l0 l hl d (x.set i (rd l i)) (i + 1) (by simpa using hx) (by omega) (by
      rw [List.take_succ_eq_append_getElem (by simp; omega), List.take_succ_eq_append_getElem (by omega), List.take_set_of_le (by omega), ht]
      simp [rd, List.getElem?_eq_getElem (show i < l.length by omega)])
    refine Ev.step (fun k => ?_) ih
    simp only [laws_toIntS.l0]
    rw [if_pos (by omega), if_pos (by omega), if_pos (by omega), wrap64_id (by omega) (by omega)]
    simp
theorem toIntS_ev (l : List Int) (hl : l.length ≤ 17592186044416) : Ev (fun k => laws_toIntS.f k l) l := by
  refine Ev.congr (fun k => ?_) (toIntS_l0 l hl l.length (List.replicate l.length 0) 0 (by simp) (by simp) (by simp))
  simp only [laws_toIntS.f]
  rw [if_pos (by omega), if_pos (by omega)]
  simp

theorem eqIntS_l0 (l : List Int) (hl : l.length ≤ 140737488351232) : ∀ (d : Nat) (i : Nat), i + d = l.length → Ev (fun k => laws_eqIntS.l0 k l l (i : Int)) true
  | 0, i, hi => by
    refine Ev.step (f := fun _ => some true) (fun k => ?_) (Ev.now _)
    simp only [laws_eqIntS.l0]
    rw [if_neg (by omega)]
  | d + 1, i, hi => by
    have ih := eqIntS_l0 l hl d (i + 1) (by omega)
    refine Ev.step (fun k => ?_) ih
    simp only [laws_eqIntS.l0]
    rw [if_pos (by omega), if_pos (by omega), if_pos (by omega), wrap64_id (by omega) (by omega)]
    simp
theorem eqIntS_ev (l : List Int) (hl : l.length ≤ 140737488351232) : Ev (fun k => laws_eqIntS.f k l l) true := by
  refine Ev.congr (fun k => ?_) (eqIntS_l0 l hl l.length 0 (by simp))
  simp only [laws_eqIntS.f]
  simp

def marksI : Int → List Int → List Int
  | _, [] => []
  | c, _ :: r => c :: marksI (c + 1) r
theorem marksI_length : ∀ (c : Int) (l : List Int), (marksI c l).length = l.length
  | _, [] => rfl
  | c, _ :: r => by simp [marksI, marksI_length (c + 1) r]
theorem marksI_again : ∀ (c : Int) (l : List Int), marksI c (marksI c l) = marksI c l
  | _, [] => rfl
  | c, _ :: r => by simp [marksI, marksI_again (c + 1) r]
theorem markIntS_l0 : ∀ (d : Nat) (x : List Int) (c : Int) (i : Nat), x.length ≤ 140737488355328 → i + d = x.length → 0 ≤ c → c + d ≤ 4611686018427387904 →
    Ev (fun k => laws_markIntS.l0 k x c (i : Int)) (c + d, x.take i ++ marksI c (x.drop i))
  | 0, x, c, i, hl, hi, hc, hc1 => by
    refine Ev.step (f := fun _ => some (c, x)) (fun k => ?_) (Ev.const ?_)
    · simp only [laws_markIntS.l0]
      rw [if_neg (by omega)]
    · rw [List.take_of_length_le (by omega), List.drop_of_length_le (by omega)]
      simp [marksI]
  | d + 1, x, c, i, hl, hi, hc, hc1 => by
    have ih := markIntS_l0 d (x.set i (c)) (c + 1) (i + 1) (by simpa using hl) (by simp; omega) (by omega) (by omega)
    have e1 : (x.set i (c)).take (i + 1) = x.take i ++ [c] := by
      rw [List.take_succ_eq_append_getElem (by simp; omega), List.take_set_of_le (by omega)]; simp
    have e2 : (x.set i (c)).drop (i + 1) = x.drop (i + 1) := by rw [List.drop_set]; simp
    have e3 : x.drop i = x[i]'(by omega) :: x.drop (i + 1) := List.drop_eq_getElem_cons (by omega)
    rw [e1, e2] at ih
    have e4 : (c + ((d + 1 : Nat) : Int), x.take i ++ marksI c (x.drop i)) = (c + 1 + (d : Int), x.take i ++ [c] ++ marksI (c + 1) (x.drop (i + 1))) := by
      rw [e3]; simp [marksI]; omega
    rw [e4]
    refine Ev.step (fun k => ?_) ih
    simp only [laws_markIntS.l0]
    rw [if_pos (by omega), if_pos (by omega), wrap64_id (by omega) (by omega), wrap64_id (by omega) (by omega)]
    simp
theorem markIntS_ev (x : List Int) (c : Int) (hl : x.length ≤ 140737488355328) (hc : 0 ≤ c) (hc1 : c + x.length ≤ 4611686018427387904) : Ev (fun k => laws_markIntS.f k x c) (c + x.length, marksI c x) := by
  have := markIntS_l0 x.length x c 0 hl (by omega) hc hc1
  simpa [laws_markIntS.f] using this

/-- Steps' lists: read, held, marked. -/
theorem step_get (l : List S86) (i : Nat) (h : i < l.length) : rd_T86 l (i : Int) = l[i] := by simp [rd_T86, List.getElem?_eq_getElem h]
theorem eqStepS_l0 (l : List S86) (hl : l.length ≤ 1048576) : ∀ (d : Nat) (i : Nat), i + d = l.length → Ev (fun k => laws_eqStepS.l0 k l l (i : Int)) true
  | 0, i, hi => by
    refine Ev.step (f := fun _ => some true) (fun k => ?_) (Ev.now _)
    simp only [laws_eqStepS.l0]
    rw [if_neg (by omega)]
  | d + 1, i, hi => by
    have ih := eqStepS_l0 l hl d (i + 1) (by omega)
    refine Ev.step (fun k => ?_) ih
    simp only [laws_eqStepS.l0, laws_eqStep.f]
    rw [if_pos (by omega), if_pos (by omega), if_pos (by omega), wrap64_succ (by omega)]
    simp
theorem eqStepS_ev (l : List S86) (hl : l.length ≤ 1048576) : Ev (fun k => laws_eqStepS.f k l l) true := by
  refine Ev.congr (fun k => ?_) (eqStepS_l0 l hl l.length 0 (by simp))
  simp only [laws_eqStepS.f]
  simp
def marksP : Int → List S86 → List S86
  | _, [] => []
  | c, _ :: r => ⟨c, c + 1⟩ :: marksP (c + 2) r
theorem marksP_length : ∀ (c : Int) (l : List S86), (marksP c l).length = l.length
  | _, [] => rfl
  | c, _ :: r => by simp [marksP, marksP_length (c + 2) r]
theorem marksP_again : ∀ (c : Int) (l : List S86), marksP c (marksP c l) = marksP c l
  | _, [] => rfl
  | c, _ :: r => by simp [marksP, marksP_again (c + 2) r]
theorem markStepS_l0 : ∀ (d : Nat) (x : List S86) (c : Int) (i : Nat), x.length ≤ 1048576 → i + d = x.length → 0 ≤ c → c + 2 * d ≤ 4611686018427387904 →
    Ev (fun k => laws_markStepS.l0 k x c (i : Int)) (c + 2 * d, x.take i ++ marksP c (x.drop i))
  | 0, x, c, i, hl, hi, hc, hc1 => by
    refine Ev.step (f := fun _ => some (c, x)) (fun k => ?_) (Ev.const ?_)
    · simp only [laws_markStepS.l0]
      rw [if_neg (by omega)]
    · rw [List.take_of_length_le (by omega), List.drop_of_length_le (by omega)]
      simp [marksP]
  | d + 1, x, c, i, hl, hi, hc, hc1 => by
    have ih := markStepS_l0 d (x.set i ⟨c, c + 1⟩) (c + 2) (i + 1) (by simpa using hl) (by simp; omega) (by omega) (by omega)
    have e1 : (x.set i (⟨c, c + 1⟩ : S86)).take (i + 1) = x.take i ++ [⟨c, c + 1⟩] := by
      rw [List.take_succ_eq_append_getElem (by simp; omega), List.take_set_of_le (by omega)]; simp
    have e2 : (x.set i (⟨c, c + 1⟩ : S86)).drop (i + 1) = x.drop (i + 1) := by rw [List.drop_set]; simp
    have e3 : x.drop i = x[i]'(by omega) :: x.drop (i + 1) := List.drop_eq_getElem_cons (by omega)
    rw [e1, e2] at ih
    have e4 : (c + 2 * ((d + 1 : Nat) : Int), x.take i ++ marksP c (x.drop i)) = (c + 2 + 2 * (d : Int), x.take i ++ [⟨c, c + 1⟩] ++ marksP (c + 2) (x.drop (i + 1))) := by
      rw [e3]; simp [marksP]; omega
    rw [e4]
    refine Ev.step (fun k => ?_) ih
    have w1 : wrap64 (c + 1) = c + 1 := wrap64_id (by omega) (by omega)
    have w2 : wrap64 (c + 1 + 1) = c + 2 := by rw [wrap64_id (by clear w1; omega) (by clear w1; omega)]; clear w1; omega
    have w5 : wrap64 ((i : Int) + 1) = ((i + 1 : Nat) : Int) := wrap64_succ (by clear w1 w2; omega)
    have g1 : (i : Int) < (x.length : Int) := by clear w1 w2 w5; omega
    have g2 : (0 : Int) ≤ (i : Int) := by clear w1 w2 w5; omega
    have hi2 : i < x.length := by clear w1 w2 w5; omega
    simp only [laws_markStepS.l0]
    rw [if_pos g1, if_pos g2, w1, w2, w5]
    simp only [Option.bind_some, Int.toNat_natCast, List.set_set]
    congr 1
    simp [rd_T86, hi2]
theorem markStepS_ev (x : List S86) (c : Int) (hl : x.length ≤ 1048576) (hc : 0 ≤ c) (hc1 : c ≤ 1000000000000000000) : Ev (fun k => laws_markStepS.f k x c) (c + 2 * x.length, marksP c x) := by
  have := markStepS_l0 x.length x c 0 hl (by omega) hc (by omega)
  simpa [laws_markStepS.f] using this
theorem heldStepS_l0 : ∀ (d : Nat) (x : List S86) (c : Int) (i : Nat), x.length ≤ 1048576 → i + d = x.length → 0 ≤ c → c + 2 * d ≤ 4611686018427387904 → x.drop i = marksP c (x.drop i) →
    Ev (fun k => laws_heldStepS.l0 k x c (i : Int)) (c + 2 * d)
  | 0, x, c, i, hl, hi, hc, hc1, hm => by
    refine Ev.step (f := fun _ => some c) (fun k => ?_) (Ev.const (by simp))
    simp only [laws_heldStepS.l0]
    rw [if_neg (by omega)]
  | d + 1, x, c, i, hl, hi, hc, hc1, hm => by
    have e3 : x.drop i = x[i]'(by omega) :: x.drop (i + 1) := List.drop_eq_getElem_cons (by omega)
    rw [e3] at hm
    simp only [marksP, List.cons.injEq] at hm
    have ih := heldStepS_l0 d x (c + 2) (i + 1) hl (by omega) (by omega) (by omega) hm.2
    have e4 : c + 2 * ((d + 1 : Nat) : Int) = c + 2 + 2 * (d : Int) := by omega
    rw [e4]
    refine Ev.step (fun k => ?_) ih
    have w1 : wrap64 (c + 1) = c + 1 := wrap64_id (by omega) (by omega)
    have w2 : wrap64 (c + 1 + 1) = c + 2 := by rw [wrap64_id (by clear w1; omega) (by clear w1; omega)]; clear w1; omega
    have w5 : wrap64 ((i : Int) + 1) = ((i + 1 : Nat) : Int) := wrap64_succ (by clear w1 w2; omega)
    have g1 : (i : Int) < (x.length : Int) := by clear w1 w2 w5; omega
    have g2 : (0 : Int) ≤ (i : Int) := by clear w1 w2 w5; omega
    have ex : rd_T86 x (i : Int) = ⟨c, c + 1⟩ := by rw [step_get x i (by clear w1 w2 w5; omega)]; exact hm.1
    simp only [laws_heldStepS.l0]
    rw [if_pos g1, if_pos g2, w1, w2, w5, ex]
    simp
theorem heldStepS_ev (x : List S86) (c : Int) (hl : x.length ≤ 1048576) (hc : 0 ≤ c) (hc1 : c ≤ 1000000000000000000) : Ev (fun k => laws_heldStepS.f k (marksP c x) c) (c + 2 * x.length) := by
  have := heldStepS_l0 x.length (marksP c x) c 0 (by rw [marksP_length]; exact hl) (by rw [marksP_length]; omega) hc (by omega) (by simp [marksP_again])
  simpa [laws_heldStepS.f] using this

def badLen (x : Int) : Bool := !decide (0 ≤ x ∧ x ≤ 12)
def badLens (l : List Int) : Prop := ¬ (1 ≤ l.length ∧ l.length ≤ 300) ∨ l.any badLen = true
instance (l : List Int) : Decidable (badLens l) := by unfold badLens; infer_instance
/-- The room that codes take, in parts of 4096. -/
def krOf : List Int → Int
  | [] => 0
  | x :: r => (if x > 0 then 2 ^ (12 - x).toNat else 0) + krOf r
def usedN : List Int → Nat
  | [] => 0
  | x :: r => (if x > 0 then 1 else 0) + usedN r
/-- Is the last used length 1? -/
def lastOne : Bool → List Int → Bool
  | b, [] => b
  | b, x :: r => lastOne (if x > 0 then x == 1 else b) r
def usedI : Nat → List Int → List Int
  | _, [] => []
  | i, x :: r => if x > 0 then (i : Int) :: usedI (i + 1) r else usedI (i + 1) r
def lensEnd (s : Int) (n : Nat) (one : Bool) : Int := if s = 0 then 2 else if s > 4096 then 3 else if s = 4096 then 0 else if one = true then (if n = 1 then 0 else 4) else 4
def lensCodeOf (l : List Int) : Int := if badLens l then 1 else lensEnd (krOf l) (usedN l) (lastOne false l)
theorem any_bad {l : List Int} (h : l.any badLen = false) : ∀ x ∈ l, 0 ≤ x ∧ x ≤ 12 := by
  intro x hx
  have := List.any_eq_false.1 h x hx
  unfold badLen at this
  simp at this
  omega
theorem pow12 {x : Int} (h0 : 0 < x) (h1 : x ≤ 12) : (1 : Int) ≤ 2 ^ (12 - x).toNat ∧ (2 : Int) ^ (12 - x).toNat ≤ 2048 := by
  have := pow_bounds (n := (12 - x).toNat) (m := 11) (by omega)
  simpa using this
theorem krOf_bd : ∀ {l : List Int}, (∀ x ∈ l, 0 ≤ x ∧ x ≤ 12) → 0 ≤ krOf l ∧ krOf l ≤ 2048 * l.length ∧ (usedN l : Int) ≤ krOf l ∧ (usedN l = 0 → krOf l = 0)
  | [], _ => by simp [krOf, usedN]
  | x :: r, h => by
    have ih := krOf_bd (l := r) (fun y hy => h y (by simp [hy]))
    have hx := h x (by simp)
    simp only [krOf, usedN, List.length_cons]
    by_cases h0 : x > 0
    · rw [if_pos h0, if_pos h0]
      have := pow12 h0 hx.2
      generalize (2 : Int) ^ (12 - x).toNat = p at *
      omega
    · rw [if_neg h0, if_neg h0]
      omega
theorem usedI_len : ∀ (i : Nat) (l : List Int), (usedI i l).length = usedN l
  | _, [] => rfl
  | i, x :: r => by
    have := usedI_len (i + 1) r
    simp only [usedI, usedN]
    split <;> simp <;> omega

theorem indexFunc_PackLens_l0 (p : Int → Bool) (l : List Int) (hl : l.length ≤ 140737488351232) (hp : ∀ x ∈ l, impl_PackLens_1.f x = some (p x)) : ∀ (d i : Nat), i + d = l.length → ∃ r : Int, decide (r ≥ 0) = (l.drop i).any p ∧ Ev (fun k => slices_IndexFunc_int_int_of_impl_PackLens_1.l0 k l (l.length : Int) (i : Int)) r
  | 0, i, hi => by
    refine ⟨-1, by rw [List.drop_of_length_le (by omega)]; rfl, Ev.step (f := fun _ => some (-1)) (fun k => ?_) (Ev.now _)⟩
    simp only [slices_IndexFunc_int_int_of_impl_PackLens_1.l0]
    rw [if_neg (by omega)]
  | d + 1, i, hi => by
    obtain ⟨r, h1, h2⟩ := indexFunc_PackLens_l0 p l hl hp d (i + 1) (by omega)
    have e3 : l.drop i = l[i]'(by omega) :: l.drop (i + 1) := List.drop_eq_getElem_cons (by omega)
    have hx := hp (l[i]'(by omega)) (List.getElem_mem _)
    have g1 : (i : Int) < (l.length : Int) := by omega
    have g2 : (0 : Int) ≤ (i : Int) := by omega
    have er := rd_get l i (by omega)
    by_cases hb : p (l[i]'(by omega)) = true
    · refine ⟨(i : Int), ?_, Ev.step (f := fun _ => some (i : Int)) (fun k => ?_) (Ev.now _)⟩
      · rw [e3, List.any_cons, hb, Bool.true_or, decide_eq_true_eq]; omega
      · simp only [slices_IndexFunc_int_int_of_impl_PackLens_1.l0]
        rw [if_pos g1, if_pos g2, if_pos g1, er, hx]
        simp only [Option.bind_some]
        rw [if_pos hb]
    · refine ⟨r, ?_, Ev.step (fun k => ?_) h2⟩
      · rw [h1, e3, List.any_cons, Bool.eq_false_iff.2 hb, Bool.false_or]
      · simp only [slices_IndexFunc_int_int_of_impl_PackLens_1.l0]
        rw [if_pos g1, if_pos g2, if_pos g1, er, hx]
        simp only [Option.bind_some]
        rw [if_neg hb, wrap64_succ (by omega)]
theorem containsFunc_PackLens (p : Int → Bool) (l : List Int) (hl : l.length ≤ 140737488351232) (hp : ∀ x ∈ l, impl_PackLens_1.f x = some (p x)) (z : Nat) : Ev (fun k => slices_ContainsFunc_int_int_of_impl_PackLens_1.f k l z) (l.any p) := by
  obtain ⟨r, h1, h2⟩ := indexFunc_PackLens_l0 p l hl hp l.length 0 (by omega)
  unfold slices_ContainsFunc_int_int_of_impl_PackLens_1.f slices_IndexFunc_int_int_of_impl_PackLens_1.f
  refine Ev.bind h2 (Ev.const ?_)
  rw [h1]; rfl

theorem specBad_l0 (l : List Int) (hl : l.length ≤ 300) (m : Int) : ∀ (d i : Nat), i + d = l.length → Ev (fun k => spec_l4Bad.l0 k l m (i : Int)) ((l.drop i).any fun x => !decide (0 ≤ x ∧ x ≤ m))
  | 0, i, hi => by
    refine Ev.step (f := fun _ => some false) (fun k => ?_) (Ev.const (by rw [List.drop_of_length_le (by omega)]; rfl))
    simp only [spec_l4Bad.l0]
    rw [if_neg (by omega)]
  | d + 1, i, hi => by
    have ih := specBad_l0 l hl m d (i + 1) (by omega)
    have e3 : l.drop i = l[i]'(by omega) :: l.drop (i + 1) := List.drop_eq_getElem_cons (by omega)
    have g1 : (i : Int) < (l.length : Int) := by omega
    have g2 : (0 : Int) ≤ (i : Int) := by omega
    rw [e3, List.any_cons]
    by_cases hb : 0 ≤ l[i]'(by omega) ∧ l[i]'(by omega) ≤ m
    · rw [decide_eq_true hb, Bool.not_true, Bool.false_or]
      refine Ev.step (fun k => ?_) ih
      simp only [spec_l4Bad.l0]
      rw [if_pos g1, if_pos g2, rd_get l i (by omega), l1In_tell]
      simp only [Option.bind_some]
      rw [if_pos (decide_eq_true hb), wrap64_succ (by omega)]
    · rw [decide_eq_false hb, Bool.not_false, Bool.true_or]
      refine Ev.step (f := fun _ => some true) (fun k => ?_) (Ev.now _)
      simp only [spec_l4Bad.l0]
      rw [if_pos g1, if_pos g2, rd_get l i (by omega), l1In_tell]
      simp only [Option.bind_some]
      rw [if_neg (by rw [decide_eq_true_eq]; exact hb)]
theorem specBad_ev (l : List Int) (hl : l.length ≤ 1048576) : Ev (fun k => spec_l4Bad.f k l 12) (decide (badLens l)) := by
  unfold spec_l4Bad.f
  rw [l1In_tell]
  simp only [Option.bind_some]
  by_cases h : 1 ≤ (l.length : Int) ∧ (l.length : Int) ≤ 300
  · refine Ev.ifT (decide_eq_true h) ?_
    have e := specBad_l0 l (by omega) 12 l.length 0 (by omega)
    have e2 : decide (badLens l) = (l.drop 0).any fun x => !decide (0 ≤ x ∧ x ≤ 12) := by
      rw [Bool.eq_iff_iff, decide_eq_true_eq]
      unfold badLens badLen
      simp only [List.drop_zero]
      constructor
      · intro q; exact q.resolve_left (by omega)
      · intro q; exact .inr q
    rw [e2]; exact e
  · refine Ev.ifF (by rw [decide_eq_true_eq]; exact h) (Ev.const ?_)
    congr 1; symm; rw [decide_eq_true_eq]; left; omega

/-- A run's steps, both ways: they are appended alike. -/
theorem packRun_l2 (v : Int) (m : Nat) (hm : m ≤ 300) : ∀ (d i : Nat) (o : List S86), i + d = m → o.length + d ≤ 1000000 → Ev (fun k => impl_packRun.l2 k v o (m : Int) (i : Int)) (o ++ List.replicate d ⟨v, 0⟩)
  | 0, i, o, hi, ho => by
    rw [List.replicate_zero, List.append_nil]
    refine Ev.step (f := fun _ => some o) (fun k => ?_) (Ev.now _)
    simp only [impl_packRun.l2]
    rw [if_neg (by omega)]
  | d + 1, i, o, hi, ho => by
    have ih := packRun_l2 v m hm d (i + 1) (o ++ [⟨v, 0⟩]) (by omega) (by simp; omega)
    rw [List.append_assoc, List.singleton_append, ← List.replicate_succ] at ih
    refine Ev.step (fun k => ?_) ih
    simp only [impl_packRun.l2]
    rw [if_pos (by omega), if_pos (by omega), wrap64_succ (by omega)]
theorem packRun_j2 (v : Int) (m : Nat) (hm : m ≤ 300) (o : List S86) (ho : o.length ≤ 1000) : Ev (fun k => impl_packRun.j2 k v (m : Int) o) (o ++ List.replicate m ⟨v, 0⟩) :=
  Ev.step (fun _ => by simp only [impl_packRun.j2]; rfl) (packRun_l2 v m hm m 0 o (by omega) (by omega))
/-- What is left below three, one by one. -/
theorem specRun_small (l : List Int) (v a : Int) : ∀ (m : Nat) (o : List S86) (R : List S86), m < 3 → o.length + m ≤ 1000000 →
    Ev (fun k => spec_PackLens.l0 k l (o ++ List.replicate m ⟨v, 0⟩) a) R → Ev (fun k => spec_PackLens.l1 k l o a (m : Int) v) R
  | 0, o, R, _, _, h => by
    rw [List.replicate_zero, List.append_nil] at h
    refine Ev.step (fun k => ?_) h
    simp only [spec_PackLens.l1]
    rw [if_neg (by omega)]
  | m + 1, o, R, hm, ho, h => by
    have g0 : ((m + 1 : Nat) : Int) > 0 := by omega
    have g3 : ¬ ((m + 1 : Nat) : Int) ≥ 3 := by omega
    have g11 : ¬ ((m + 1 : Nat) : Int) ≥ 11 := by omega
    have gl : o.length < 8796093022208 := by omega
    rw [List.replicate_succ, ← List.singleton_append, ← List.append_assoc] at h
    have ih := specRun_small l v a m (o ++ [⟨v, 0⟩]) R (by omega) (by simp; omega) h
    have w1 : wrap64 (((m + 1 : Nat) : Int) - 1) = (m : Int) := by rw [wrap64_id (by omega) (by omega)]; omega
    rw [← w1] at ih
    have e5 : Ev (fun k => spec_PackLens.j5 k l o a ((m + 1 : Nat) : Int) v 1 false v 0) R := by
      refine Ev.step (fun _ => spec_PackLens.j5.eq_2 _ _ _ _ _ _ _ _ _ _) (Ev.ifF (by decide) ?_)
      by_cases hv0 : v > 0
      · exact Ev.ifT hv0 (Ev.ifF g3 (Ev.ifT gl ih))
      · exact Ev.ifF hv0 (Ev.ifT gl ih)
    have e4 : Ev (fun k => spec_PackLens.j4 k l o a ((m + 1 : Nat) : Int) v 1 false v 0) R := by
      refine Ev.step (fun _ => spec_PackLens.j4.eq_2 _ _ _ _ _ _ _ _ _ _) (Ev.ifF (by decide) ?_)
      by_cases hv0 : v = 0
      · refine Ev.ifT hv0 ?_
        rw [decide_eq_false g3]; exact e5
      · exact Ev.ifF hv0 e5
    refine Ev.step (fun _ => spec_PackLens.l1.eq_2 _ _ _ _ _ _) (Ev.ifT g0 ?_)
    by_cases hv0 : v = 0
    · refine Ev.ifT hv0 ?_
      rw [decide_eq_false g11]; exact e4
    · exact Ev.ifF hv0 e4
theorem l4Min_tell (a b : Int) : spec_l4Min.f a b = some (mn a b) := by
  unfold spec_l4Min.f mn
  by_cases h : a < b
  · rw [if_pos h]; simp; omega
  · rw [if_neg h]; simp; omega
/-- A run of zeros. -/
theorem zero_run (l : List Int) : ∀ (N n : Nat), n ≤ N → n ≤ 300 → ∃ r : List S86, r.length ≤ n ∧ (∀ o : List S86, o.length + n ≤ 1000 → Ev (fun k => impl_packRun.l0 k 0 (n : Int) o) (o ++ r)) ∧
    (∀ (o : List S86) (a : Int) (R : List S86), o.length + n ≤ 1000 → Ev (fun k => spec_PackLens.l0 k l (o ++ r) a) R → Ev (fun k => spec_PackLens.l1 k l o a (n : Int) 0) R)
  | N, n, hN, hn => by
    by_cases h3 : n < 3
    · refine ⟨List.replicate n ⟨0, 0⟩, by simp, fun o ho => ?_, fun o a R ho h => specRun_small l 0 a n o R h3 (by omega) h⟩
      refine Ev.step (fun _ => impl_packRun.l0.eq_2 _ _ _ _) (Ev.ifF (by omega) (Ev.ifF (by omega) (packRun_j2 0 n hn o (by omega))))
    by_cases h11 : n < 11
    · refine ⟨[⟨14, (n : Int) - 3⟩], by simp; omega, fun o ho => ?_, fun o a R ho h => ?_⟩
      · have w1 : wrap64 ((n : Int) - 3) = (n : Int) - 3 := wrap64_id (by omega) (by omega)
        have q := Ev.now (o ++ [(⟨14, (n : Int) - 3⟩ : S86)])
        rw [← w1] at q ⊢
        clear w1
        exact Ev.step (fun _ => impl_packRun.l0.eq_2 _ _ _ _) (Ev.ifF (by omega) (Ev.ifT (by omega) (Ev.ifT (by omega) q)))
      · have g11 : ¬ (n : Int) ≥ 11 := by omega
        have g3 : (n : Int) ≥ 3 := by omega
        have gl : o.length < 8796093022208 := by omega
        have w1 : wrap64 ((n : Int) - 3) = (n : Int) - 3 := wrap64_id (by omega) (by omega)
        have e1 : Ev (fun k => spec_PackLens.l1 k l (o ++ [(⟨14, wrap64 ((n : Int) - 3)⟩ : S86)]) a 0 0) R := by
          rw [w1]
          exact Ev.step (fun _ => spec_PackLens.l1.eq_2 _ _ _ _ _ _) (Ev.ifF (by decide) h)
        clear w1
        have e5 : Ev (fun k => spec_PackLens.j5 k l o a (n : Int) 0 1 true 0 0) R := Ev.step (fun _ => spec_PackLens.j5.eq_2 _ _ _ _ _ _ _ _ _ _) (Ev.ifT rfl (Ev.ifT gl e1))
        have e4 : Ev (fun k => spec_PackLens.j4 k l o a (n : Int) 0 1 false 0 0) R := by
          refine Ev.step (fun _ => spec_PackLens.j4.eq_2 _ _ _ _ _ _ _ _ _ _) (Ev.ifF (by decide) (Ev.ifT rfl ?_))
          rw [decide_eq_true g3]; exact e5
        refine Ev.step (fun _ => spec_PackLens.l1.eq_2 _ _ _ _ _ _) (Ev.ifT (by omega) (Ev.ifT rfl ?_))
        rw [decide_eq_false g11]; exact e4
    · obtain ⟨m, hm⟩ : ∃ m : Nat, mn (n : Int) 138 = (m : Int) := Int.eq_ofNat_of_zero_le (by unfold mn; omega)
      have hm1 : 11 ≤ m ∧ m ≤ n := by unfold mn at hm; omega
      cases N with
      | zero => omega
      | succ N =>
      obtain ⟨r, hr, ri, rs⟩ := zero_run l N (n - m) (by omega) (by omega)
      have w1 : wrap64 ((m : Int) - 11) = (m : Int) - 11 := wrap64_id (by omega) (by omega)
      have w2 : wrap64 ((n : Int) - (m : Int)) = ((n - m : Nat) : Int) := by rw [wrap64_id (by clear w1; omega) (by clear w1; omega)]; clear w1; omega
      refine ⟨⟨15, wrap64 ((m : Int) - 11)⟩ :: r, by clear w1 w2; simp; omega, fun o ho => ?_, fun o a R ho h => ?_⟩
      · have q := ri (o ++ [⟨15, wrap64 ((m : Int) - 11)⟩]) (by clear w1 w2; simp; omega)
        rw [List.append_assoc, List.singleton_append, ← w2, ← hm] at q
        rw [← hm]
        clear w1 w2
        exact Ev.step (fun _ => impl_packRun.l0.eq_2 _ _ _ _) (Ev.ifT (by omega) (Ev.ifT (by omega) q))
      · have q := rs (o ++ [⟨15, wrap64 ((m : Int) - 11)⟩]) a R (by clear w1 w2; simp; omega) (by rw [List.append_assoc, List.singleton_append]; exact h)
        rw [← w2] at q
        clear w1 w2
        refine Ev.step (fun _ => spec_PackLens.l1.eq_2 _ _ _ _ _ _) (Ev.ifT (by omega) (Ev.ifT rfl ?_))
        rw [decide_eq_true (show (n : Int) ≥ 11 by omega)]
        exact Ev.step (fun _ => spec_PackLens.j4.eq_2 _ _ _ _ _ _ _ _ _ _) (Ev.ifT rfl (Ev.bindc (by rw [l4Min_tell, hm]) (Ev.ifT (by omega) q)))
/-- A run of another length. -/
theorem val_run (l : List Int) (v : Int) (hv : v > 0) : ∀ (N n : Nat), n ≤ N → n ≤ 300 → ∃ r : List S86, r.length ≤ n ∧ (∀ o : List S86, o.length + n ≤ 1000 → Ev (fun k => impl_packRun.l1 k v (n : Int) o) (o ++ r)) ∧
    (∀ (o : List S86) (a : Int) (R : List S86), o.length + n ≤ 1000 → Ev (fun k => spec_PackLens.l0 k l (o ++ r) a) R → Ev (fun k => spec_PackLens.l1 k l o a (n : Int) v) R)
  | N, n, hN, hn => by
    by_cases h3 : n < 3
    · refine ⟨List.replicate n ⟨v, 0⟩, by simp, fun o ho => ?_, fun o a R ho h => specRun_small l v a n o R h3 (by omega) h⟩
      refine Ev.step (fun _ => impl_packRun.l1.eq_2 _ _ _ _) (Ev.ifF (by omega) (packRun_j2 v n hn o (by omega)))
    · obtain ⟨m, hm⟩ : ∃ m : Nat, mn (n : Int) 6 = (m : Int) := Int.eq_ofNat_of_zero_le (by unfold mn; omega)
      have hm1 : 3 ≤ m ∧ m ≤ n := by unfold mn at hm; omega
      cases N with
      | zero => omega
      | succ N =>
      obtain ⟨r, hr, ri, rs⟩ := val_run l v hv N (n - m) (by omega) (by omega)
      have w1 : wrap64 ((m : Int) - 3) = (m : Int) - 3 := wrap64_id (by omega) (by omega)
      have w2 : wrap64 ((n : Int) - (m : Int)) = ((n - m : Nat) : Int) := by rw [wrap64_id (by clear w1; omega) (by clear w1; omega)]; clear w1; omega
      refine ⟨⟨13, wrap64 ((m : Int) - 3)⟩ :: r, by clear w1 w2; simp; omega, fun o ho => ?_, fun o a R ho h => ?_⟩
      · have q := ri (o ++ [⟨13, wrap64 ((m : Int) - 3)⟩]) (by clear w1 w2; simp; omega)
        rw [List.append_assoc, List.singleton_append, ← w2, ← hm] at q
        rw [← hm]
        clear w1 w2
        exact Ev.step (fun _ => impl_packRun.l1.eq_2 _ _ _ _) (Ev.ifT (by omega) (Ev.ifT (by omega) q))
      · have q := rs (o ++ [⟨13, wrap64 ((m : Int) - 3)⟩]) a R (by clear w1 w2; simp; omega) (by rw [List.append_assoc, List.singleton_append]; exact h)
        rw [← w2] at q
        clear w1 w2
        have hv0 : ¬ v = 0 := by omega
        exact Ev.step (fun _ => spec_PackLens.l1.eq_2 _ _ _ _ _ _) (Ev.ifT (by omega) (Ev.ifF hv0 (Ev.step (fun _ => spec_PackLens.j4.eq_2 _ _ _ _ _ _ _ _ _ _) (Ev.ifF (by decide) (Ev.ifF hv0 (Ev.step (fun _ => spec_PackLens.j5.eq_2 _ _ _ _ _ _ _ _ _ _) (Ev.ifF (by decide) (Ev.ifT hv (Ev.ifT (by omega) (Ev.bindc (by rw [l4Min_tell, hm]) (Ev.ifT (by omega) q)))))))))))
/-- How far a run goes. -/
theorem run_same (l : List Int) (hl : l.length ≤ 300) (a : Nat) (ha : a < l.length) : ∀ (d m : Nat), a + m + d = l.length → 1 ≤ m → ∃ n : Nat, 1 ≤ n ∧ a + n ≤ l.length ∧ Ev (fun k => spec_l6Run.l0 k l (a : Int) (m : Int)) (n : Int) ∧
    ∀ (o R : List S86), Ev (fun k => (impl_packRun.f k (rd l (a : Int)) (n : Int)).bind fun t => if o.length + t.length < 8796093022208 then impl_PackLens.l0 k l (o ++ t) (wrap64 ((a : Int) + (n : Int))) else none) R → Ev (fun k => impl_PackLens.l1 k l o (a : Int) (m : Int)) R
  | d, m, hd, h1 => by
    have g0 : (0 : Int) ≤ (a : Int) := by omega
    have g1 : (a : Int) < (l.length : Int) := by omega
    have w1 : wrap64 ((a : Int) + (m : Int)) = ((a + m : Nat) : Int) := by rw [wrap64_id (by omega) (by omega)]; simp
    by_cases hq : a + m < l.length
    · have g2 : ((a + m : Nat) : Int) < (l.length : Int) := by clear w1; omega
      have g3 : (0 : Int) ≤ ((a + m : Nat) : Int) := by clear w1; omega
      by_cases he : rd l ((a + m : Nat) : Int) = rd l (a : Int)
      · cases d with
        | zero => clear w1; omega
        | succ d =>
        obtain ⟨n, n1, n2, es, ei⟩ := run_same l hl a ha d (m + 1) (by clear w1; omega) (by clear w1; omega)
        have w2 : wrap64 ((m : Int) + 1) = ((m + 1 : Nat) : Int) := wrap64_succ (by clear w1; omega)
        refine ⟨n, n1, n2, Ev.step (fun k => ?_) es, fun o R h => Ev.step (fun k => ?_) (ei o R h)⟩
        · simp only [spec_l6Run.l0]
          rw [w1, w2, if_pos g2, if_pos g3, if_pos g0, if_pos g1, if_pos he]
        · simp only [impl_PackLens.l1]
          rw [w1, w2, if_pos g2, if_pos g3, if_pos g0, if_pos g1, if_pos he]
      · refine ⟨m, h1, by clear w1; omega, Ev.step (f := fun _ => some (m : Int)) (fun k => ?_) (Ev.now _), fun o R h => Ev.step (fun k => ?_) h⟩
        · simp only [spec_l6Run.l0]
          rw [w1, if_pos g2, if_pos g3, if_pos g0, if_pos g1, if_neg he]
        · simp only [impl_PackLens.l1]
          rw [w1, if_pos g2, if_pos g3, if_pos g0, if_pos g1, if_neg he]
    · have g2 : ¬ ((a + m : Nat) : Int) < (l.length : Int) := by clear w1; omega
      refine ⟨m, h1, by clear w1; omega, Ev.step (f := fun _ => some (m : Int)) (fun k => ?_) (Ev.now _), fun o R h => Ev.step (fun k => ?_) h⟩
      · simp only [spec_l6Run.l0]
        rw [w1, if_neg g2]
      · simp only [impl_PackLens.l1]
        rw [w1, if_neg g2, if_pos g0, if_pos g1]
theorem pack_go (l : List Int) (hl : l.length ≤ 300) (hb : ∀ x ∈ l, 0 ≤ x ∧ x ≤ 12) : ∀ (d a : Nat) (o : List S86), l.length ≤ a + d → a ≤ l.length → o.length ≤ a →
    ∃ r : List S86, r.length ≤ l.length - a ∧ Ev (fun k => spec_PackLens.l0 k l o (a : Int)) (o ++ r) ∧ Ev (fun k => impl_PackLens.l0 k l o (a : Int)) (o ++ r)
  | d, a, o, hd, ha, ho => by
    by_cases hal : l.length ≤ a
    · refine ⟨[], by simp, ?_, ?_⟩
      · rw [List.append_nil]
        refine Ev.step (f := fun _ => some o) (fun k => ?_) (Ev.now _)
        simp only [spec_PackLens.l0]
        rw [if_neg (by omega)]
      · rw [List.append_nil]
        refine Ev.step (f := fun _ => some o) (fun k => ?_) (Ev.now _)
        simp only [impl_PackLens.l0]
        rw [if_neg (by omega)]
    cases d with
    | zero => omega
    | succ d =>
    have g0 : (0 : Int) ≤ (a : Int) := by omega
    have g1 : (a : Int) < (l.length : Int) := by omega
    obtain ⟨n, n1, n2, es, ei⟩ := run_same l hl a (by omega) (l.length - a - 1) 1 (by omega) (by omega)
    have b12 : 0 ≤ rd l (a : Int) ∧ rd l (a : Int) ≤ 12 := rd_all (P := fun x => 0 ≤ x ∧ x ≤ 12) hb (by omega) (a : Int)
    have w1 : wrap64 ((a : Int) + (n : Int)) = ((a + n : Nat) : Int) := by rw [wrap64_id (by omega) (by omega)]; simp
    have w2 : wrap64 ((n : Int) - 1) = ((n - 1 : Nat) : Int) := by rw [wrap64_id (by clear w1; omega) (by clear w1; omega)]; clear w1; omega
    by_cases hv : rd l (a : Int) > 0
    · obtain ⟨r, hr, ri, rs⟩ := val_run l (rd l (a : Int)) hv (n - 1) (n - 1) (Nat.le_refl _) (by clear w1 w2; omega)
      obtain ⟨q, hq, qs, qi⟩ := pack_go l hl hb d (a + n) (o ++ ([⟨rd l (a : Int), 0⟩] ++ r)) (by clear w1 w2; omega) (by clear w1 w2; omega) (by clear w1 w2; simp; omega)
      refine ⟨⟨rd l (a : Int), 0⟩ :: (r ++ q), by clear w1 w2; simp; omega, ?_, ?_⟩
      · refine Ev.step (f := fun k => (spec_l6Run.f k l (a : Int)).bind fun t113 => if 0 ≤ (a : Int) then (if rd l (a : Int) > 0 then (if o.length < 8796093022208 then spec_PackLens.j2 k l (o ++ [(⟨rd l (a : Int), 0⟩ : S86)]) (wrap64 ((a : Int) + t113)) (wrap64 (t113 - 1)) (rd l (a : Int)) else none) else spec_PackLens.j2 k l o (wrap64 ((a : Int) + t113)) t113 (rd l (a : Int))) else none) (fun k => ?_) (Ev.bind es (Ev.ifT g0 (Ev.ifT hv (Ev.ifT (by clear w1 w2; omega) (Ev.step (fun _ => spec_PackLens.j2.eq_2 _ _ _ _ _ _) ?_)))))
        · simp only [spec_PackLens.l0]
          rw [if_pos g1]
        · rw [w1, w2]
          refine rs _ _ _ (by clear w1 w2; simp; omega) ?_
          have e : o ++ (⟨rd l (a : Int), 0⟩ :: (r ++ q)) = o ++ ([⟨rd l (a : Int), 0⟩] ++ r) ++ q := by simp
          rw [e, List.append_assoc o]
          exact qs
      · refine Ev.step (f := fun k => impl_PackLens.l1 k l o (a : Int) ((1 : Nat) : Int)) (fun k => ?_) (ei o _ ?_)
        · simp only [impl_PackLens.l0]
          rw [if_pos g1]; rfl
        · refine Ev.bind (a := [⟨rd l (a : Int), 0⟩] ++ r) ?_ (Ev.ifT (by clear w1 w2; simp; omega) ?_)
          · unfold impl_packRun.f
            simp only [Option.bind_some]
            refine Ev.ifF (by clear w1 w2; omega) (Ev.ifT (by simp) ?_)
            rw [w2]
            exact ri _ (by clear w1 w2; simp; omega)
          · rw [w1]
            have e : o ++ (⟨rd l (a : Int), 0⟩ :: (r ++ q)) = o ++ ([⟨rd l (a : Int), 0⟩] ++ r) ++ q := by simp
            rw [e]
            exact qi
    · have hv0 : rd l (a : Int) = 0 := by clear w1 w2; omega
      obtain ⟨r, hr, ri, rs⟩ := zero_run l n n (Nat.le_refl _) (by clear w1 w2; omega)
      obtain ⟨q, hq, qs, qi⟩ := pack_go l hl hb d (a + n) (o ++ r) (by clear w1 w2; omega) (by clear w1 w2; omega) (by clear w1 w2; simp; omega)
      refine ⟨r ++ q, by clear w1 w2; simp; omega, ?_, ?_⟩
      · refine Ev.step (f := fun k => (spec_l6Run.f k l (a : Int)).bind fun t113 => if 0 ≤ (a : Int) then (if rd l (a : Int) > 0 then (if o.length < 8796093022208 then spec_PackLens.j2 k l (o ++ [(⟨rd l (a : Int), 0⟩ : S86)]) (wrap64 ((a : Int) + t113)) (wrap64 (t113 - 1)) (rd l (a : Int)) else none) else spec_PackLens.j2 k l o (wrap64 ((a : Int) + t113)) t113 (rd l (a : Int))) else none) (fun k => ?_) (Ev.bind es (Ev.ifT g0 (Ev.ifF hv (Ev.step (fun _ => spec_PackLens.j2.eq_2 _ _ _ _ _ _) ?_))))
        · simp only [spec_PackLens.l0]
          rw [if_pos g1]
        · rw [w1, hv0]
          refine rs _ _ _ (by clear w1 w2; omega) ?_
          rw [← List.append_assoc]
          exact qs
      · refine Ev.step (f := fun k => impl_PackLens.l1 k l o (a : Int) ((1 : Nat) : Int)) (fun k => ?_) (ei o _ ?_)
        · simp only [impl_PackLens.l0]
          rw [if_pos g1]; rfl
        · refine Ev.bind (a := r) ?_ (Ev.ifT (by clear w1 w2; omega) ?_)
          · unfold impl_packRun.f
            simp only [Option.bind_some]
            refine Ev.ifT hv0 ?_
            rw [hv0]
            exact ri [] (by clear w1 w2; simp; omega)
          · rw [w1, ← List.append_assoc]
            exact qi

theorem isLen_tell (x : Int) : impl_PackLens_1.f x = some (badLen x) := by
  unfold impl_PackLens_1.f impl_isLen.f badLen
  rw [in_tell]; rfl
theorem pack_both (l : List Int) (hl : l.length ≤ 1048576) : ∃ r, r.length ≤ 1000 ∧ Ev (fun k => spec_PackLens.f k l) r ∧ Ev (fun k => impl_PackLens.f k l) r := by
  have hc := containsFunc_PackLens badLen l (by omega) (fun x _ => isLen_tell x) 0
  have hs := specBad_ev l hl
  by_cases h0 : l.length = 0
  · obtain rfl := List.length_eq_zero_iff.1 h0
    refine ⟨[], by simp, ?_, ?_⟩
    · unfold spec_PackLens.f
      simp only [Option.bind_some]
      refine Ev.ifT (by simp) (Ev.step (f := fun _ => some []) (fun k => ?_) (Ev.now _))
      simp only [spec_PackLens.j0]
      rw [if_pos trivial]
    · unfold impl_PackLens.f
      refine Ev.ifF (by simp) (Ev.bind hc (Ev.step (f := fun k => impl_PackLens.l0 k [] [] 0) (fun k => ?_) (Ev.step (f := fun _ => some []) (fun k => ?_) (Ev.now _))))
      · simp only [impl_PackLens.j0]
        rw [if_neg (by simp)]
      · simp only [impl_PackLens.l0]
        rw [if_neg (by simp)]
  by_cases h3 : (l.length : Int) > 300
  · refine ⟨[], by simp, ?_, ?_⟩
    · have hb : badLens l := .inl (by omega)
      rw [decide_eq_true hb] at hs
      unfold spec_PackLens.f
      simp only [Option.bind_some]
      refine Ev.ifF (by omega) (Ev.bind hs (Ev.step (f := fun _ => some []) (fun k => ?_) (Ev.now _)))
      simp only [spec_PackLens.j0]
      rw [if_pos trivial]
    · unfold impl_PackLens.f
      refine Ev.ifT h3 (Ev.step (f := fun _ => some []) (fun k => ?_) (Ev.now _))
      simp only [impl_PackLens.j0]
      rw [if_pos trivial]
  by_cases hb : l.any badLen = true
  · refine ⟨[], by simp, ?_, ?_⟩
    · have hb : badLens l := .inr hb
      rw [decide_eq_true hb] at hs
      unfold spec_PackLens.f
      simp only [Option.bind_some]
      refine Ev.ifF (by omega) (Ev.bind hs (Ev.step (f := fun _ => some []) (fun k => ?_) (Ev.now _)))
      simp only [spec_PackLens.j0]
      rw [if_pos trivial]
    · rw [hb] at hc
      unfold impl_PackLens.f
      refine Ev.ifF h3 (Ev.bind hc (Ev.step (f := fun _ => some []) (fun k => ?_) (Ev.now _)))
      simp only [impl_PackLens.j0]
      rw [if_pos trivial]
  · have hf := Bool.eq_false_iff.2 hb
    obtain ⟨r, hr, s, i⟩ := pack_go l (by omega) (any_bad hf) l.length 0 [] (by omega) (by omega) (by simp)
    have hnb : ¬ badLens l := fun q => q.elim (fun q => q (by omega)) hb
    rw [decide_eq_false hnb] at hs
    rw [hf] at hc
    refine ⟨r, by omega, ?_, ?_⟩
    · unfold spec_PackLens.f
      simp only [Option.bind_some]
      refine Ev.ifF (by omega) (Ev.bind hs (Ev.step (f := fun k => spec_PackLens.l0 k l [] 0) (fun k => ?_) s))
      simp only [spec_PackLens.j0]
      rw [if_neg (by simp)]
    · unfold impl_PackLens.f
      refine Ev.ifF h3 (Ev.bind hc (Ev.step (f := fun k => impl_PackLens.l0 k l [] 0) (fun k => ?_) i))
      simp only [impl_PackLens.j0]
      rw [if_neg (by simp)]
theorem FnExactPackLens : laws_FnExactPackLens.Pure := by
  intro l _ _ hw
  refine Ev.rounds ?_
  unfold laws_FnExactPackLens.f
  by_cases h1 : (l.length : Int) > 1048576
  · exact Ev.ifT h1 (Ev.now _)
  have t := toIntS_ev l (by omega)
  have e := eqIntS_ev l (by omega)
  have m := markIntS_ev l 1 (by omega) (by omega) (by omega)
  obtain ⟨r, hr, q1, q2⟩ := pack_both l (by omega)
  have er := eqStepS_ev r (by omega)
  have mr := markStepS_ev r 1 (by omega) (by omega) (by omega)
  have hr2 := heldStepS_ev r 1 (by omega) (by omega) (by omega)
  refine Ev.ifF h1 (Ev.bind t (Ev.bind q1 (Ev.bind t (Ev.bind q2 (Ev.bind er (Ev.ifT rfl (Ev.bind t (Ev.bind e (Ev.ifT rfl (Ev.bind m (Ev.ifF (by omega) (Ev.bind er ?_))))))))))))
  simp only [Bool.not_true]
  refine Ev.step (fun k => by simp only [laws_FnExactPackLens.j0]; rfl) ?_
  exact Ev.ifF (by simp) (Ev.bind mr (Ev.bind hr2 (Ev.ifF (by omega) (Ev.ifT rfl (Ev.bind t (Ev.bind q2 (Ev.bind er (Ev.ifT rfl (Ev.bind hr2 (Ev.ifF (by omega) (Ev.ifT rfl (Ev.now _))))))))))))

end Go.Proofs.Ytndoapmehgfdkac.Pure
