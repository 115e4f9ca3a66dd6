/- The plain law of FnExactLensCode, over numbers and lists alone: what the printed functions answer is true for all arguments. Conditions: those of the arguments' kinds. -/
import Derived.Test.YtndoapmehgfdkaaQFnExactLensCodex2
import Derived.Test.YtndoapmehgfdkaaAid
set_option linter.unusedVariables false
set_option linter.unusedSimpArgs false
namespace Go.Proofs.Ytndoapmehgfdkaa.Pure
open Go.RowKit Go.Proofs.Ytndoapmehgfdkaa.Aid Go.Proofs.Ytndoapmehgfdkaa.QFnExactLensCode Go.Proofs.YtndoapmehgfdkaaW.PrintWords Go.Proofs.YtndoapmehgfdkaaW.PrintLast Go.Proofs.YtndoapmehgfdkaaW.PrintMore
theorem in_tell (a b c : Int) : impl_in.f a b c = some (decide (b ≤ a ∧ a ≤ c)) := by
  unfold impl_in.f
  by_cases h : a ≥ b
  · rw [if_pos h]; congr 1; rw [Bool.eq_iff_iff]; simp only [decide_eq_true_eq]; omega
  · rw [if_neg h]; congr 1; symm; rw [decide_eq_false_iff_not]; omega

theorem l1In_tell (a b c : Int) : spec_l1In.f a b c = some (decide (b ≤ a ∧ a ≤ c)) := by
  unfold spec_l1In.f
  by_cases h : a ≥ b
  · rw [if_pos h]; congr 1; rw [Bool.eq_iff_iff]; simp only [decide_eq_true_eq]; omega
  · rw [if_neg h]; congr 1; symm; rw [decide_eq_false_iff_not]; omega

theorem toIntS_l0 (l : List Int) (hl : l.length ≤ 17592186044416) : ∀ (d : Nat) (x : List Int) (i : Nat), x.length = l.length → i + d = l.length → x.take i = l.take i → Ev (fun k => laws_toIntS.l0 k l x (i : Int)) l
  | 0, x, i, hx, hi, ht => by
    refine Ev.step (f := fun _ => some l) (fun k => ?_) (Ev.now _)
    simp only [laws_toIntS.l0]
    rw [if_neg (by omega)]
    congr 1
    rw [List.take_of_length_le (by omega), List.take_of_length_le (by omega)] at ht
    exact ht
  | d + 1, x, i, hx, hi, ht => by
    have ih := toIntS_l0 l hl d (x.set i (rd l i)) (i + 1) (by simpa using hx) (by omega) (by
      rw [List.take_succ_eq_append_getElem (by simp; omega), List.take_succ_eq_append_getElem (by omega), List.take_set_of_le (by omega), ht]
      simp [rd, List.getElem?_eq_getElem (show i < l.length by omega)])
    refine Ev.step (fun k => ?_) ih
    simp only [laws_toIntS.l0]
    rw [if_pos (by omega), if_pos (by omega), if_pos (by omega), wrap64_id (by omega) (by omega)]
    simp
theorem toIntS_ev (l : List Int) (hl : l.length ≤ 17592186044416) : Ev (fun k => laws_toIntS.f k l) l := by
  refine Ev.congr (fun k => ?_) (toIntS_l0 l hl l.length (List.replicate l.length 0) 0 (by simp) (by simp) (by simp))
  simp only [laws_toIntS.f]
  rw [if_pos (by omega), if_pos (by omega)]
  simp

theorem eqIntS_l0 (l : List Int) (hl : l.length ≤ 140737488351232) : ∀ (d : Nat) (i : Nat), i + d = l.length → Ev (fun k => laws_eqIntS.l0 k l l (i : Int)) true
  | 0, i, hi => by
    refine Ev.step (f := fun _ => some true) (fun k => ?_) (Ev.now _)
    simp only [laws_eqIntS.l0]
    rw [if_neg (by omega)]
  | d + 1, i, hi => by
    have ih := eqIntS_l0 l hl d (i + 1) (by omega)
    refine Ev.step (fun k => ?_) ih
    simp only [laws_eqIntS.l0]
    rw [if_pos (by omega), if_pos (by omega), if_pos (by omega), wrap64_id (by omega) (by omega)]
    simp
theorem eqIntS_ev (l : List Int) (hl : l.length ≤ 140737488351232) : Ev (fun k => laws_eqIntS.f k l l) true := by
  refine Ev.congr (fun k => ?_) (eqIntS_l0 l hl l.length 0 (by simp))
  simp only [laws_eqIntS.f]
  simp

def badLen (x : Int) : Bool := !decide (0 ≤ x ∧ x ≤ 12)
def badLens (l : List Int) : Prop := ¬ (1 ≤ l.length ∧ l.length ≤ 300) ∨ l.any badLen = true
instance (l : List Int) : Decidable (badLens l) := by unfold badLens; infer_instance
/-- The room that codes take, in parts of 4096. -/
def krOf : List Int → Int
  | [] => 0
  | x :: r => (if x > 0 then 2 ^ (12 - x).toNat else 0) + krOf r
def usedN : List Int → Nat
  | [] => 0
  | x :: r => (if x > 0 then 1 else 0) + usedN r
/-- Is the last used length 1? -/
def lastOne : Bool → List Int → Bool
  | b, [] => b
  | b, x :: r => lastOne (if x > 0 then x == 1 else b) r
def usedI : Nat → List Int → List Int
  | _, [] => []
  | i, x :: r => if x > 0 then (i : Int) :: usedI (i + 1) r else usedI (i + 1) r
def lensEnd (s : Int) (n : Nat) (one : Bool) : Int := if s = 0 then 2 else if s > 4096 then 3 else if s = 4096 then 0 else if one = true then (if n = 1 then 0 else 4) else 4
def lensCodeOf (l : List Int) : Int := if badLens l then 1 else lensEnd (krOf l) (usedN l) (lastOne false l)
theorem any_bad {l : List Int} (h : l.any badLen = false) : ∀ x ∈ l, 0 ≤ x ∧ x ≤ 12 := by
  intro x hx
  have := List.any_eq_false.1 h x hx
  unfold badLen at this
  simp at this
  omega
theorem pow12 {x : Int} (h0 : 0 < x) (h1 : x ≤ 12) : (1 : Int) ≤ 2 ^ (12 - x).toNat ∧ (2 : Int) ^ (12 - x).toNat ≤ 2048 := by
  have := pow_bounds (n := (12 - x).toNat) (m := 11) (by omega)
  simpa using this
theorem krOf_bd : ∀ {l : List Int}, (∀ x ∈ l, 0 ≤ x ∧ x ≤ 12) → 0 ≤ krOf l ∧ krOf l ≤ 2048 * l.length ∧ (usedN l : Int) ≤ krOf l ∧ (usedN l = 0 → krOf l = 0)
  | [], _ => by simp [krOf, usedN]
  | x :: r, h => by
    have ih := krOf_bd (l := r) (fun y hy => h y (by simp [hy]))
    have hx := h x (by simp)
    simp only [krOf, usedN, List.length_cons]
    by_cases h0 : x > 0
    · rw [if_pos h0, if_pos h0]
      have := pow12 h0 hx.2
      generalize (2 : Int) ^ (12 - x).toNat = p at *
      omega
    · rw [if_neg h0, if_neg h0]
      omega
theorem usedI_len : ∀ (i : Nat) (l : List Int), (usedI i l).length = usedN l
  | _, [] => rfl
  | i, x :: r => by
    have := usedI_len (i + 1) r
    simp only [usedI, usedN]
    split <;> simp <;> omega

theorem indexFunc_LensCode_l0 (p : Int → Bool) (l : List Int) (hl : l.length ≤ 140737488351232) (hp : ∀ x ∈ l, impl_LensCode_1.f x = some (p x)) : ∀ (d i : Nat), i + d = l.length → ∃ r : Int, decide (r ≥ 0) = (l.drop i).any p ∧ Ev (fun k => slices_IndexFunc_int_int_of_impl_LensCode_1.l0 k l (l.length : Int) (i : Int)) r
  | 0, i, hi => by
    refine ⟨-1, by rw [List.drop_of_length_le (by omega)]; rfl, Ev.step (f := fun _ => some (-1)) (fun k => ?_) (Ev.now _)⟩
    simp only [slices_IndexFunc_int_int_of_impl_LensCode_1.l0]
    rw [if_neg (by omega)]
  | d + 1, i, hi => by
    obtain ⟨r, h1, h2⟩ := indexFunc_LensCode_l0 p l hl hp d (i + 1) (by omega)
    have e3 : l.drop i = l[i]'(by omega) :: l.drop (i + 1) := List.drop_eq_getElem_cons (by omega)
    have hx := hp (l[i]'(by omega)) (List.getElem_mem _)
    have g1 : (i : Int) < (l.length : Int) := by omega
    have g2 : (0 : Int) ≤ (i : Int) := by omega
    have er := rd_get l i (by omega)
    by_cases hb : p (l[i]'(by omega)) = true
    · refine ⟨(i : Int), ?_, Ev.step (f := fun _ => some (i : Int)) (fun k => ?_) (Ev.now _)⟩
      · rw [e3, List.any_cons, hb, Bool.true_or, decide_eq_true_eq]; omega
      · simp only [slices_IndexFunc_int_int_of_impl_LensCode_1.l0]
        rw [if_pos g1, if_pos g2, if_pos g1, er, hx]
        simp only [Option.bind_some]
        rw [if_pos hb]
    · refine ⟨r, ?_, Ev.step (fun k => ?_) h2⟩
      · rw [h1, e3, List.any_cons, Bool.eq_false_iff.2 hb, Bool.false_or]
      · simp only [slices_IndexFunc_int_int_of_impl_LensCode_1.l0]
        rw [if_pos g1, if_pos g2, if_pos g1, er, hx]
        simp only [Option.bind_some]
        rw [if_neg hb, wrap64_succ (by omega)]
theorem containsFunc_LensCode (p : Int → Bool) (l : List Int) (hl : l.length ≤ 140737488351232) (hp : ∀ x ∈ l, impl_LensCode_1.f x = some (p x)) (z : Nat) : Ev (fun k => slices_ContainsFunc_int_int_of_impl_LensCode_1.f k l z) (l.any p) := by
  obtain ⟨r, h1, h2⟩ := indexFunc_LensCode_l0 p l hl hp l.length 0 (by omega)
  unfold slices_ContainsFunc_int_int_of_impl_LensCode_1.f slices_IndexFunc_int_int_of_impl_LensCode_1.f
  refine Ev.bind h2 (Ev.const ?_)
  rw [h1]; rfl

theorem specBad_l0 (l : List Int) (hl : l.length ≤ 300) (m : Int) : ∀ (d i : Nat), i + d = l.length → Ev (fun k => spec_l4Bad.l0 k l m (i : Int)) ((l.drop i).any fun x => !decide (0 ≤ x ∧ x ≤ m))
  | 0, i, hi => by
    refine Ev.step (f := fun _ => some false) (fun k => ?_) (Ev.const (by rw [List.drop_of_length_le (by omega)]; rfl))
    simp only [spec_l4Bad.l0]
    rw [if_neg (by omega)]
  | d + 1, i, hi => by
    have ih := specBad_l0 l hl m d (i + 1) (by omega)
    have e3 : l.drop i = l[i]'(by omega) :: l.drop (i + 1) := List.drop_eq_getElem_cons (by omega)
    have g1 : (i : Int) < (l.length : Int) := by omega
    have g2 : (0 : Int) ≤ (i : Int) := by omega
    rw [e3, List.any_cons]
    by_cases hb : 0 ≤ l[i]'(by omega) ∧ l[i]'(by omega) ≤ m
    · rw [decide_eq_true hb, Bool.not_true, Bool.false_or]
      refine Ev.step (fun k => ?_) ih
      simp only [spec_l4Bad.l0]
      rw [if_pos g1, if_pos g2, rd_get l i (by omega), l1In_tell]
      simp only [Option.bind_some]
      rw [if_pos (decide_eq_true hb), wrap64_succ (by omega)]
    · rw [decide_eq_false hb, Bool.not_false, Bool.true_or]
      refine Ev.step (f := fun _ => some true) (fun k => ?_) (Ev.now _)
      simp only [spec_l4Bad.l0]
      rw [if_pos g1, if_pos g2, rd_get l i (by omega), l1In_tell]
      simp only [Option.bind_some]
      rw [if_neg (by rw [decide_eq_true_eq]; exact hb)]
theorem specBad_ev (l : List Int) (hl : l.length ≤ 1048576) : Ev (fun k => spec_l4Bad.f k l 12) (decide (badLens l)) := by
  unfold spec_l4Bad.f
  rw [l1In_tell]
  simp only [Option.bind_some]
  by_cases h : 1 ≤ (l.length : Int) ∧ (l.length : Int) ≤ 300
  · refine Ev.ifT (decide_eq_true h) ?_
    have e := specBad_l0 l (by omega) 12 l.length 0 (by omega)
    have e2 : decide (badLens l) = (l.drop 0).any fun x => !decide (0 ≤ x ∧ x ≤ 12) := by
      rw [Bool.eq_iff_iff, decide_eq_true_eq]
      unfold badLens badLen
      simp only [List.drop_zero]
      constructor
      · intro q; exact q.resolve_left (by omega)
      · intro q; exact .inr q
    rw [e2]; exact e
  · refine Ev.ifF (by rw [decide_eq_true_eq]; exact h) (Ev.const ?_)
    congr 1; symm; rw [decide_eq_true_eq]; left; omega
theorem specUsed_l0 (l : List Int) (hl : l.length ≤ 300) : ∀ (d i n : Nat), i + d = l.length → n ≤ i → Ev (fun k => spec_l4Used.l0 k l (n : Int) (i : Int)) ((n + usedN (l.drop i) : Nat) : Int)
  | 0, i, n, hi, hn => by
    refine Ev.step (f := fun _ => some (n : Int)) (fun k => ?_) (Ev.const (by rw [List.drop_of_length_le (by omega)]; rfl))
    simp only [spec_l4Used.l0]
    rw [if_neg (by omega)]
  | d + 1, i, n, hi, hn => by
    have e3 : l.drop i = l[i]'(by omega) :: l.drop (i + 1) := List.drop_eq_getElem_cons (by omega)
    have g1 : (i : Int) < (l.length : Int) := by omega
    have g2 : (0 : Int) ≤ (i : Int) := by omega
    rw [e3]
    simp only [usedN]
    by_cases hb : l[i]'(by omega) > 0
    · have ih := specUsed_l0 l hl d (i + 1) (n + 1) (by omega) (by omega)
      rw [if_pos hb, ← Nat.add_assoc]
      refine Ev.step (fun k => ?_) ih
      simp only [spec_l4Used.l0]
      rw [if_pos g1, if_pos g2, rd_get l i (by omega), if_pos hb, wrap64_succ (by omega), wrap64_succ (by omega)]
    · have ih := specUsed_l0 l hl d (i + 1) n (by omega) (by omega)
      rw [if_neg hb, Nat.zero_add]
      refine Ev.step (fun k => ?_) ih
      simp only [spec_l4Used.l0]
      rw [if_pos g1, if_pos g2, rd_get l i (by omega), if_neg hb, wrap64_succ (by omega)]
theorem specLens_l0 (l : List Int) (hl : l.length ≤ 300) (hb : ∀ x ∈ l, 0 ≤ x ∧ x ≤ 12) : ∀ (d i : Nat) (s : Int) (b : Bool), i + d = l.length → 0 ≤ s → s ≤ 2048 * i → Ev (fun k => spec_LensCode.l0 k l s b (i : Int)) (lensEnd (s + krOf (l.drop i)) (usedN l) (lastOne b (l.drop i)))
  | 0, i, s, b, hi, h0, h1 => by
    rw [List.drop_of_length_le (by omega)]
    simp only [krOf, lastOne, Int.add_zero]
    have hu : Ev (fun k => spec_l4Used.f k l) (usedN l : Int) := by
      have := specUsed_l0 l hl l.length 0 0 (by omega) (by omega)
      simpa [spec_l4Used.f] using this
    have g1 : ¬ (i : Int) < (l.length : Int) := by omega
    unfold lensEnd
    refine Ev.step (f := fun k => if s = 0 then some 2 else if s > 4096 then some 3 else if s = 4096 then some 0 else if b = true then (spec_l4Used.f k l).bind fun t => if t = 1 then some 0 else some 4 else some 4) (fun k => ?_) ?_
    · simp only [spec_LensCode.l0]
      rw [if_neg g1]
    · by_cases q1 : s = 0
      · rw [if_pos q1]; exact Ev.ifT q1 (Ev.now _)
      rw [if_neg q1]; refine Ev.ifF q1 ?_
      by_cases q2 : s > 4096
      · rw [if_pos q2]; exact Ev.ifT q2 (Ev.now _)
      rw [if_neg q2]; refine Ev.ifF q2 ?_
      by_cases q3 : s = 4096
      · rw [if_pos q3]; exact Ev.ifT q3 (Ev.now _)
      rw [if_neg q3]; refine Ev.ifF q3 ?_
      by_cases q4 : b = true
      · rw [if_pos q4]; refine Ev.ifT q4 (Ev.bind hu ?_)
        by_cases q5 : usedN l = 1
        · rw [if_pos q5]; exact Ev.ifT (by omega) (Ev.now _)
        · rw [if_neg q5]; exact Ev.ifF (by omega) (Ev.now _)
      · rw [if_neg q4]; exact Ev.ifF q4 (Ev.now _)
  | d + 1, i, s, b, hi, h0, h1 => by
    have e3 : l.drop i = l[i]'(by omega) :: l.drop (i + 1) := List.drop_eq_getElem_cons (by omega)
    have g1 : (i : Int) < (l.length : Int) := by omega
    have g2 : (0 : Int) ≤ (i : Int) := by omega
    have hx := hb (l[i]'(by omega)) (List.getElem_mem _)
    have er := rd_get l i (by omega)
    have ih := specLens_l0 l hl hb d (i + 1)
    rw [e3]
    generalize l[i]'(by omega) = x at *
    simp only [krOf, lastOne]
    by_cases h : x > 0
    · obtain ⟨m, hm⟩ := Int.eq_ofNat_of_zero_le (show 0 ≤ 12 - x by omega)
      have p := pow12 h hx.2
      rw [hm] at p
      simp only [Int.toNat_natCast] at p
      have ih := ih (s + 2 ^ m) (x == 1) (by omega) (by omega) (by omega)
      rw [if_pos h, if_pos h, hm, Int.toNat_natCast, ← Int.add_assoc]
      have es : shl .i64 1 (m : Int) = 2 ^ m := by rw [shl_i64 (by omega) (by omega) (by omega), Int.one_mul]
      have ew : wrap64 (s + 2 ^ m) = s + 2 ^ m := wrap64_id (by omega) (by omega)
      refine Ev.step (fun k => ?_) ih
      simp only [spec_LensCode.l0]
      rw [if_pos g1, if_pos g2, er, if_pos h, hm, wrap64_id (n := (m : Int)) (by clear ew; omega) (by clear ew; omega), wrapU64_id (by clear ew; omega) (by clear ew; omega), if_pos (by clear ew; omega), es, ew, wrap64_succ (by clear ew; omega)]
    · have ih := ih s b (by omega) (by omega) (by omega)
      rw [if_neg h, if_neg h, Int.zero_add]
      refine Ev.step (fun k => ?_) ih
      simp only [spec_LensCode.l0]
      rw [if_pos g1, if_pos g2, er, if_neg h, wrap64_succ (by omega)]
theorem specLensCode_ev (l : List Int) (hl : l.length ≤ 1048576) : Ev (fun k => spec_LensCode.f k l) (lensCodeOf l) := by
  unfold spec_LensCode.f lensCodeOf
  refine Ev.bind (specBad_ev l hl) ?_
  by_cases h : badLens l
  · rw [if_pos h]; exact Ev.ifT (decide_eq_true h) (Ev.now _)
  · rw [if_neg h]; refine Ev.ifF (by rw [decide_eq_true_eq]; exact h) ?_
    have h300 : l.length ≤ 300 := by unfold badLens at h; omega
    have hany : l.any badLen = false := Bool.eq_false_iff.2 fun q => h (.inr q)
    have e := specLens_l0 l h300 (any_bad hany) l.length 0 0 false (by omega) (by omega) (by omega)
    simpa using e

theorem implUsed_l0 (l : List Int) (hl : l.length ≤ 1048576) : ∀ (d i : Nat) (o : List Int), i + d = l.length → o.length ≤ i → Ev (fun k => impl_usedOf.l0 k o l (l.length : Int) (i : Int)) (o ++ usedI i (l.drop i))
  | 0, i, o, hi, ho => by
    refine Ev.step (f := fun _ => some o) (fun k => ?_) (Ev.const (by rw [List.drop_of_length_le (by omega)]; simp [usedI]))
    simp only [impl_usedOf.l0]
    rw [if_neg (by omega)]
  | d + 1, i, o, hi, ho => by
    have e3 : l.drop i = l[i]'(by omega) :: l.drop (i + 1) := List.drop_eq_getElem_cons (by omega)
    have g1 : (i : Int) < (l.length : Int) := by omega
    have g2 : (0 : Int) ≤ (i : Int) := by omega
    rw [e3]
    simp only [usedI]
    by_cases hb : l[i]'(by omega) > 0
    · have ih := implUsed_l0 l hl d (i + 1) (o ++ [(i : Int)]) (by omega) (by simp; omega)
      rw [if_pos hb]
      rw [List.append_assoc, List.singleton_append] at ih
      refine Ev.step (fun k => ?_) ih
      simp only [impl_usedOf.l0]
      rw [if_pos g1, if_pos g2, if_pos g1, rd_get l i (by omega), if_pos hb, if_pos (by omega), wrap64_succ (by omega)]
    · have ih := implUsed_l0 l hl d (i + 1) o (by omega) (by omega)
      rw [if_neg hb]
      refine Ev.step (fun k => ?_) ih
      simp only [impl_usedOf.l0]
      rw [if_pos g1, if_pos g2, if_pos g1, rd_get l i (by omega), if_neg hb, wrap64_succ (by omega)]
theorem implUsed_ev (l : List Int) (hl : l.length ≤ 1048576) : Ev (fun k => impl_usedOf.f k l) (usedI 0 l) := by
  have := implUsed_l0 l hl l.length 0 [] (by omega) (by simp)
  simpa [impl_usedOf.f] using this
/-- The used symbols' lengths, in order. -/
theorem usedI_rd (l : List Int) : ∀ (d i : Nat), i + d = l.length → (usedI i (l.drop i)).map (rd l) = (l.drop i).filter fun x => decide (x > 0)
  | 0, i, hi => by rw [List.drop_of_length_le (by omega)]; rfl
  | d + 1, i, hi => by
    have e3 : l.drop i = l[i]'(by omega) :: l.drop (i + 1) := List.drop_eq_getElem_cons (by omega)
    have ih := usedI_rd l d (i + 1) (by omega)
    have er := rd_get l i (by omega)
    rw [e3]
    simp only [usedI, List.filter_cons]
    by_cases hb : l[i]'(by omega) > 0
    · rw [if_pos hb, if_pos (decide_eq_true hb), List.map_cons, ih, er]
    · rw [if_neg hb, if_neg (by rw [decide_eq_true_eq]; exact hb), ih]
theorem usedI_bd (l : List Int) : ∀ (d i : Nat), i + d = l.length → ∀ y ∈ usedI i (l.drop i), 0 ≤ y ∧ y < (l.length : Int)
  | 0, i, hi => by rw [List.drop_of_length_le (by omega)]; intro y hy; simp [usedI] at hy
  | d + 1, i, hi => by
    have e3 : l.drop i = l[i]'(by omega) :: l.drop (i + 1) := List.drop_eq_getElem_cons (by omega)
    have ih := usedI_bd l d (i + 1) (by omega)
    intro y hy
    rw [e3] at hy
    simp only [usedI] at hy
    by_cases hb : l[i]'(by omega) > 0
    · rw [if_pos hb] at hy
      rcases List.mem_cons.1 hy with rfl | hy
      · omega
      · exact ih y hy
    · rw [if_neg hb] at hy
      exact ih y hy
def krF : List Int → Int
  | [] => 0
  | x :: r => 2 ^ (12 - x).toNat + krF r
theorem krF_filter : ∀ (l : List Int), krF (l.filter fun x => decide (x > 0)) = krOf l
  | [] => rfl
  | x :: r => by
    have ih := krF_filter r
    simp only [krOf, List.filter_cons]
    by_cases hb : x > 0
    · rw [if_pos hb, if_pos (decide_eq_true hb), krF, ih]
    · rw [if_neg hb, if_neg (by rw [decide_eq_true_eq]; exact hb), ih, Int.zero_add]
theorem lastOne_filter : ∀ (l : List Int) (b : Bool), lastOne b (l.filter fun x => decide (x > 0)) = lastOne b l
  | [], b => rfl
  | x :: r, b => by
    simp only [lastOne, List.filter_cons]
    by_cases hb : x > 0
    · rw [if_pos hb, if_pos (decide_eq_true hb), lastOne, if_pos hb, lastOne_filter r]
    · rw [if_neg hb, if_neg (by rw [decide_eq_true_eq]; exact hb), lastOne_filter r]
theorem implLens_l0 (l u : List Int) (hl : l.length ≤ 300) (hul : u.length ≤ 300) (hu : ∀ y ∈ u, 0 ≤ y ∧ y < (l.length : Int)) (hb : ∀ y ∈ u, 0 < rd l y ∧ rd l y ≤ 12) {r : Int} :
    ∀ (d i : Nat) (s : Int), i + d = u.length → 0 ≤ s → s ≤ 2048 * i → Ev (fun k => impl_LensCode.l0 k l u (s + krF ((u.drop i).map (rd l))) u (u.length : Int) (u.length : Int)) r → Ev (fun k => impl_LensCode.l0 k l u s u (u.length : Int) (i : Int)) r
  | 0, i, s, hi, h0, h1, h => by
    rw [List.drop_of_length_le (by omega)] at h
    obtain rfl : i = u.length := by omega
    simpa [krF] using h
  | d + 1, i, s, hi, h0, h1, h => by
    have e3 : u.drop i = u[i]'(by omega) :: u.drop (i + 1) := List.drop_eq_getElem_cons (by omega)
    have g1 : (i : Int) < (u.length : Int) := by omega
    have g2 : (0 : Int) ≤ (i : Int) := by omega
    have hy := hu (u[i]'(by omega)) (List.getElem_mem _)
    have hx := hb (u[i]'(by omega)) (List.getElem_mem _)
    have er := rd_get u i (by omega)
    have ih := implLens_l0 l u hl hul hu hb (r := r) d (i + 1)
    rw [e3, List.map_cons, krF] at h
    generalize u[i]'(by omega) = y at *
    generalize hxe : rd l y = x at *
    obtain ⟨m, hm⟩ := Int.eq_ofNat_of_zero_le (show 0 ≤ 12 - x by omega)
    have p := pow12 hx.1 hx.2
    rw [hm] at p h
    simp only [Int.toNat_natCast] at p h
    rw [← Int.add_assoc] at h
    have ih := ih (s + 2 ^ m) (by omega) (by omega) (by omega) h
    have es : shl .i64 1 (m : Int) = 2 ^ m := by rw [shl_i64 (by omega) (by omega) (by omega), Int.one_mul]
    have ew : wrap64 (s + 2 ^ m) = s + 2 ^ m := wrap64_id (by omega) (by omega)
    have g3 : (0 : Int) ≤ (m : Int) := by clear ew; omega
    refine Ev.step (fun k => ?_) ih
    simp only [impl_LensCode.l0]
    rw [if_pos g1, if_pos g2, if_pos g1, er, if_pos hy.1, if_pos hy.2, hxe, hm, wrap64_id (n := (m : Int)) (by clear ew; omega) (by clear ew; omega), if_pos g3, es, ew, wrap64_succ (by clear ew; omega)]
theorem usedN_filter : ∀ (l : List Int), usedN l = (l.filter fun x => decide (x > 0)).length
  | [] => rfl
  | x :: r => by
    have ih := usedN_filter r
    simp only [usedN, List.filter_cons]
    by_cases hb : x > 0
    · rw [if_pos hb, if_pos (decide_eq_true hb), List.length_cons, ih, Nat.add_comm]
    · rw [if_neg hb, if_neg (by rw [decide_eq_true_eq]; exact hb), ih, Nat.zero_add]
theorem implBad_tell (x : Int) : impl_LensCode_1.f x = some (badLen x) := by
  unfold impl_LensCode_1.f impl_isLen.f badLen
  rw [in_tell]; rfl
theorem implLensCode_ev (l : List Int) (hl : l.length ≤ 1048576) : Ev (fun k => impl_LensCode.f k l) (lensCodeOf l) := by
  unfold impl_LensCode.f
  rw [in_tell]
  simp only [Option.bind_some]
  have bad : ∀ r, r = 1 → Ev (fun k => impl_LensCode.j0 k l true) r := fun r hr => by
    subst hr
    exact Ev.step (f := fun _ => some 1) (fun k => by simp [impl_LensCode.j0]) (Ev.now _)
  by_cases h : 1 ≤ (l.length : Int) ∧ (l.length : Int) ≤ 300
  · refine Ev.ifT (decide_eq_true h) (Ev.bind (containsFunc_LensCode badLen l (by omega) (fun x _ => implBad_tell x) 0) ?_)
    by_cases hany : l.any badLen = true
    · rw [hany]; exact bad _ (by unfold lensCodeOf; rw [if_pos (.inr hany)])
    · rw [Bool.eq_false_iff.2 hany]
      have hb := any_bad (Bool.eq_false_iff.2 hany)
      have hnb : ¬ badLens l := fun q => q.elim (fun z => z ⟨by omega, by omega⟩) hany
      unfold lensCodeOf
      rw [if_neg hnb]
      refine Ev.step (f := fun k => (impl_usedOf.f k l).bind fun t => impl_LensCode.l0 k l t 0 t (t.length : Int) 0) (fun k => by simp [impl_LensCode.j0]) (Ev.bind (implUsed_ev l hl) ?_)
      have hf := usedI_rd l l.length 0 (by omega)
      have hbd := usedI_bd l l.length 0 (by omega)
      have hlen := usedI_len 0 l
      have hN := usedN_filter l
      have hK := krF_filter l
      have hL := lastOne_filter l false
      have hkb := krOf_bd hb
      simp only [List.drop_zero] at hf hbd
      have hle : (l.filter fun x => decide (x > 0)).length ≤ l.length := List.length_filter_le _ _
      generalize usedI 0 l = u at *
      have hub : ∀ y ∈ u, 0 < rd l y ∧ rd l y ≤ 12 := by
        intro y hy
        have hm : rd l y ∈ u.map (rd l) := List.mem_map.2 ⟨y, hy, rfl⟩
        rw [hf] at hm
        have := List.mem_filter.1 hm
        have h1 := hb _ this.1
        have h2 := of_decide_eq_true this.2
        omega
      refine implLens_l0 l u (by omega) (by omega) hbd hub u.length 0 0 (by omega) (by omega) (by omega) ?_
      simp only [List.drop_zero, Int.zero_add]
      rw [hf, hK]
      have g1 : ¬ (u.length : Int) < (u.length : Int) := by omega
      refine Ev.step (f := fun _ => some (lensEnd (krOf l) (usedN l) (lastOne false l))) (fun k => ?_) (Ev.now _)
      simp only [impl_LensCode.l0]
      rw [if_neg g1]
      unfold lensEnd
      rw [← hL]
      by_cases q0 : u.length = 0
      · have : krOf l = 0 := hkb.2.2.2 (by omega)
        rw [if_pos (by omega), if_pos this]
      have q1 : ¬ krOf l = 0 := by omega
      rw [if_neg (by omega), if_neg q1]
      by_cases q2 : krOf l > 4096
      · rw [if_pos q2, if_pos q2]
      rw [if_neg q2, if_neg q2]
      by_cases q3 : krOf l = 4096
      · rw [if_pos q3, if_pos q3]
      rw [if_neg q3, if_neg q3]
      by_cases q4 : u.length = 1
      · obtain ⟨y, rfl⟩ : ∃ y, u = [y] := by
          match u, q4 with
          | [y], _ => exact ⟨y, rfl⟩
        have hy := hbd y (by simp)
        have hyb := hub y (by simp)
        rw [← hf]
        have e0 : rd [y] 0 = y := rfl
        simp only [List.map_cons, List.map_nil, lastOne, if_pos hyb.1]
        rw [if_pos (by simp), if_pos (by simp), e0, if_pos hy.1, if_pos hy.2]
        by_cases q5 : rd l y = 1
        · rw [if_pos q5, if_pos (by simp [q5]), if_pos (by omega)]
        · rw [if_neg q5, if_neg (by simp [q5])]
      · rw [if_neg (by omega)]
        by_cases q5 : lastOne false (l.filter fun x => decide (x > 0)) = true
        · rw [if_pos q5, if_neg (by omega)]
        · rw [if_neg q5]
  · refine Ev.ifF (by rw [decide_eq_true_eq]; exact h) (bad _ ?_)
    unfold lensCodeOf
    rw [if_pos (.inl (by omega))]

theorem FnExactLensCode : laws_FnExactLensCode.Pure := by
  intro l _ hl _
  refine Ev.rounds ?_
  unfold laws_FnExactLensCode.f
  by_cases h1 : (l.length : Int) > 1048576
  · exact Ev.ifT h1 (Ev.now _)
  have t := toIntS_ev l (by omega)
  have e := eqIntS_ev l (by omega)
  exact Ev.ifF h1 (Ev.bind t (Ev.bind (specLensCode_ev l (by omega)) (Ev.bind t (Ev.bind (implLensCode_ev l (by omega)) (Ev.ifT rfl (Ev.bind t (Ev.bind e (Ev.ifT rfl (Ev.now _)))))))))

end Go.Proofs.Ytndoapmehgfdkaa.Pure
