/- The plain law of FnExactSumOk, over numbers and lists alone: what the printed functions answer is true for all arguments. Conditions: those of the arguments' kinds. -/
import Derived.Test.YtndoapmehgfdkabQFnExactSumOkx3
import Derived.Test.YtndoapmehgfdkabAid
set_option linter.unusedVariables false
set_option linter.unusedSimpArgs false
namespace Go.Proofs.Ytndoapmehgfdkab.Pure
open Go.RowKit Go.Proofs.Ytndoapmehgfdkab.Aid Go.Proofs.Ytndoapmehgfdkab.QFnExactSumOk Go.Proofs.YtndoapmehgfdkabW.PrintWords Go.Proofs.YtndoapmehgfdkabW.PrintLast Go.Proofs.YtndoapmehgfdkabW.PrintMore
theorem in_tell (a b c : Int) : impl_in.f a b c = some (decide (b ≤ a ∧ a ≤ c)) := by
  unfold impl_in.f
  by_cases h : a ≥ b
  · rw [if_pos h]; congr 1; rw [Bool.eq_iff_iff]; simp only [decide_eq_true_eq]; omega
  · rw [if_neg h]; congr 1; symm; rw [decide_eq_false_iff_not]; omega

theorem l1In_tell (a b c : Int) : spec_l1In.f a b c = some (decide (b ≤ a ∧ a ≤ c)) := by
  unfold spec_l1In.f
  by_cases h : a ≥ b
  · rw [if_pos h]; congr 1; rw [Bool.eq_iff_iff]; simp only [decide_eq_true_eq]; omega
  · rw [if_neg h]; congr 1; symm; rw [decide_eq_false_iff_not]; omega

theorem toByteS_l0 (l : List Int) (hl : l.length ≤ 140737488351232) : ∀ (d : Nat) (x : List Int) (i : Nat), x.length = l.length → i + d = l.length → x.take i = l.take i → Ev (fun k => laws_toByteS.l0 k l x (i : Int)) l
  | 0, x, i, hx, hi, ht => by
    refine Ev.step (f := fun _ => some l) (fun k => ?_) (Ev.now _)
    simp only [laws_toByteS.l0]
    rw [if_neg (by omega)]
    congr 1
    rw [List.take_of_length_le (by omega), List.take_of_length_le (by omega)] at ht
    exact ht
  | d + 1, x, i, hx, hi, ht => by
    have ih := toByteS_l0 l hl d (x.set i (rd l i)) (i + 1) (by simpa using hx) (by omega) (by
      rw [List.take_succ_eq_append_getElem (by simp; omega), List.take_succ_eq_append_getElem (by omega), List.take_set_of_le (by omega), ht]
      simp [rd, List.getElem?_eq_getElem (show i < l.length by omega)])
    refine Ev.step (fun k => ?_) ih
    simp only [laws_toByteS.l0]
    rw [if_pos (by omega), if_pos (by omega), if_pos (by omega), wrap64_id (by omega) (by omega)]
    simp
theorem toByteS_ev (l : List Int) (hl : l.length ≤ 140737488351232) : Ev (fun k => laws_toByteS.f k l) l := by
  refine Ev.congr (fun k => ?_) (toByteS_l0 l hl l.length (List.replicate l.length 0) 0 (by simp) (by simp) (by simp))
  simp only [laws_toByteS.f]
  rw [if_pos (by omega), if_pos (by omega)]
  simp

theorem toIntS_l0 (l : List Int) (hl : l.length ≤ 17592186044416) : ∀ (d : Nat) (x : List Int) (i : Nat), x.length = l.length → i + d = l.length → x.take i = l.take i → Ev (fun k => laws_toIntS.l0 k l x (i : Int)) l
  | 0, x, i, hx, hi, ht => by
    refine Ev.step (f := fun _ => some l) (fun k => ?_) (Ev.now _)
    simp only [laws_toIntS.l0]
    rw [if_neg (by omega)]
    congr 1
    rw [List.take_of_length_le (by omega), List.take_of_length_le (by omega)] at ht
    exact ht
  | d + 1, x, i, hx, hi, ht => by
    have ih := toIntS_l0 l hl d (x.set i (rd l i)) (i + 1) (by simpa using hx) (by omega) (by
      rw [List.take_succ_eq_append_getElem (by simp; omega), List.take_succ_eq_append_getElem (by omega), List.take_set_of_le (by omega), ht]
      simp [rd, List.getElem?_eq_getElem (show i < l.length by omega)])
    refine Ev.step (fun k => ?_) ih
    simp only [laws_toIntS.l0]
    rw [if_pos (by omega), if_pos (by omega), if_pos (by omega), wrap64_id (by omega) (by omega)]
    simp
theorem toIntS_ev (l : List Int) (hl : l.length ≤ 17592186044416) : Ev (fun k => laws_toIntS.f k l) l := by
  refine Ev.congr (fun k => ?_) (toIntS_l0 l hl l.length (List.replicate l.length 0) 0 (by simp) (by simp) (by simp))
  simp only [laws_toIntS.f]
  rw [if_pos (by omega), if_pos (by omega)]
  simp

theorem eqByteS_l0 (l : List Int) (hl : l.length ≤ 140737488351232) : ∀ (d : Nat) (i : Nat), i + d = l.length → Ev (fun k => laws_eqByteS.l0 k l l (i : Int)) true
  | 0, i, hi => by
    refine Ev.step (f := fun _ => some true) (fun k => ?_) (Ev.now _)
    simp only [laws_eqByteS.l0]
    rw [if_neg (by omega)]
  | d + 1, i, hi => by
    have ih := eqByteS_l0 l hl d (i + 1) (by omega)
    refine Ev.step (fun k => ?_) ih
    simp only [laws_eqByteS.l0]
    rw [if_pos (by omega), if_pos (by omega), if_pos (by omega), wrap64_id (by omega) (by omega)]
    simp
theorem eqByteS_ev (l : List Int) (hl : l.length ≤ 140737488351232) : Ev (fun k => laws_eqByteS.f k l l) true := by
  refine Ev.congr (fun k => ?_) (eqByteS_l0 l hl l.length 0 (by simp))
  simp only [laws_eqByteS.f]
  simp

theorem eqIntS_l0 (l : List Int) (hl : l.length ≤ 140737488351232) : ∀ (d : Nat) (i : Nat), i + d = l.length → Ev (fun k => laws_eqIntS.l0 k l l (i : Int)) true
  | 0, i, hi => by
    refine Ev.step (f := fun _ => some true) (fun k => ?_) (Ev.now _)
    simp only [laws_eqIntS.l0]
    rw [if_neg (by omega)]
  | d + 1, i, hi => by
    have ih := eqIntS_l0 l hl d (i + 1) (by omega)
    refine Ev.step (fun k => ?_) ih
    simp only [laws_eqIntS.l0]
    rw [if_pos (by omega), if_pos (by omega), if_pos (by omega), wrap64_id (by omega) (by omega)]
    simp
theorem eqIntS_ev (l : List Int) (hl : l.length ≤ 140737488351232) : Ev (fun k => laws_eqIntS.f k l l) true := by
  refine Ev.congr (fun k => ?_) (eqIntS_l0 l hl l.length 0 (by simp))
  simp only [laws_eqIntS.f]
  simp

theorem szByteS_tell (l : List Int) (a : Int) (hl : l.length ≤ 9223372036854775807) (h0 : 0 ≤ a) (h1 : a ≤ 1048576) : laws_szByteS.f l a = some (if a < (l.length : Int) then -1 else a - l.length) := by
  unfold laws_szByteS.f
  rw [wrap64_id (by omega) (by omega)]
  by_cases h : a < (l.length : Int)
  · rw [if_pos (by omega), if_pos h]
  · rw [if_neg (by omega), if_neg h]

theorem szIntS_tell (l : List Int) (a : Int) (hl : l.length ≤ 9223372036854775807) (h0 : 0 ≤ a) (h1 : a ≤ 1048576) : laws_szIntS.f l a = some (if a < (l.length : Int) then -1 else a - l.length) := by
  unfold laws_szIntS.f
  rw [wrap64_id (by omega) (by omega)]
  by_cases h : a < (l.length : Int)
  · rw [if_pos (by omega), if_pos h]
  · rw [if_neg (by omega), if_neg h]

def badWord (x : Int) : Bool := !decide (0 ≤ x ∧ x ≤ 4294967295)
def sumOkP (w : List Int) (c : Int) (r : List Int) : Prop := w.length = 8 ∧ w.any badWord = false ∧ 0 ≤ c ∧ c ≤ 2147483647 ∧ (r.length : Int) = c % 64
instance (w : List Int) (c : Int) (r : List Int) : Decidable (sumOkP w c r) := by unfold sumOkP; infer_instance

theorem szSum_tell (w : List Int) (c : Int) (r : List Int) (a : Int) (hw : w.length ≤ 9223372036854775807) (hr : r.length ≤ 9223372036854775807) (h0 : 0 ≤ a) (h1 : a ≤ 1048576) : laws_szSum.f w c r a = some (if a < (w.length : Int) + r.length then -1 else a - w.length - r.length) := by
  unfold laws_szSum.f
  rw [szIntS_tell w a hw h0 h1]
  simp only [Option.bind_some]
  by_cases q : a < (w.length : Int)
  · rw [if_pos q, if_pos (by omega), if_pos (by omega)]
  · rw [if_neg q, if_neg (by omega), szByteS_tell r _ hr (by omega) (by omega)]
    simp only [Option.bind_some]
    by_cases q2 : a - (w.length : Int) < (r.length : Int)
    · rw [if_pos q2, if_pos (by omega), if_pos (by omega)]
    · rw [if_neg q2, if_neg (by omega), if_neg (by omega)]
theorem toSum_ev (w : List Int) (c : Int) (r : List Int) (hw : w.length ≤ 1048576) (hr : r.length ≤ 1048576) : Ev (fun k => laws_toSum.f k w c r) (w, c, r) := by
  unfold laws_toSum.f
  exact Ev.bind (toIntS_ev w (by omega)) (Ev.bind (toByteS_ev r (by omega)) (Ev.now _))

theorem eqSum_ev (w : List Int) (c : Int) (r : List Int) (hw : w.length ≤ 17592186044416) (hr : r.length ≤ 140737488351232) : Ev (fun k => laws_eqSum.f k w c r w c r) true := by
  unfold laws_eqSum.f
  exact Ev.bind (eqIntS_ev w (by omega)) (Ev.ifT rfl (Ev.ifT rfl (Ev.bind (eqByteS_ev r hr) (Ev.ifT rfl (Ev.now _)))))

theorem indexFunc_SumOk_l0 (p : Int → Bool) (l : List Int) (hl : l.length ≤ 140737488351232) (hp : ∀ x ∈ l, impl_SumOk_1.f x = some (p x)) : ∀ (d i : Nat), i + d = l.length → ∃ r : Int, decide (r ≥ 0) = (l.drop i).any p ∧ Ev (fun k => slices_IndexFunc_int_int_of_impl_SumOk_1.l0 k l (l.length : Int) (i : Int)) r
  | 0, i, hi => by
    refine ⟨-1, by rw [List.drop_of_length_le (by omega)]; rfl, Ev.step (f := fun _ => some (-1)) (fun k => ?_) (Ev.now _)⟩
    simp only [slices_IndexFunc_int_int_of_impl_SumOk_1.l0]
    rw [if_neg (by omega)]
  | d + 1, i, hi => by
    obtain ⟨r, h1, h2⟩ := indexFunc_SumOk_l0 p l hl hp d (i + 1) (by omega)
    have e3 : l.drop i = l[i]'(by omega) :: l.drop (i + 1) := List.drop_eq_getElem_cons (by omega)
    have hx := hp (l[i]'(by omega)) (List.getElem_mem _)
    have g1 : (i : Int) < (l.length : Int) := by omega
    have g2 : (0 : Int) ≤ (i : Int) := by omega
    have er := rd_get l i (by omega)
    by_cases hb : p (l[i]'(by omega)) = true
    · refine ⟨(i : Int), ?_, Ev.step (f := fun _ => some (i : Int)) (fun k => ?_) (Ev.now _)⟩
      · rw [e3, List.any_cons, hb, Bool.true_or, decide_eq_true_eq]; omega
      · simp only [slices_IndexFunc_int_int_of_impl_SumOk_1.l0]
        rw [if_pos g1, if_pos g2, if_pos g1, er, hx]
        simp only [Option.bind_some]
        rw [if_pos hb]
    · refine ⟨r, ?_, Ev.step (fun k => ?_) h2⟩
      · rw [h1, e3, List.any_cons, Bool.eq_false_iff.2 hb, Bool.false_or]
      · simp only [slices_IndexFunc_int_int_of_impl_SumOk_1.l0]
        rw [if_pos g1, if_pos g2, if_pos g1, er, hx]
        simp only [Option.bind_some]
        rw [if_neg hb, wrap64_succ (by omega)]
theorem containsFunc_SumOk (p : Int → Bool) (l : List Int) (hl : l.length ≤ 140737488351232) (hp : ∀ x ∈ l, impl_SumOk_1.f x = some (p x)) (z : Nat) : Ev (fun k => slices_ContainsFunc_int_int_of_impl_SumOk_1.f k l z) (l.any p) := by
  obtain ⟨r, h1, h2⟩ := indexFunc_SumOk_l0 p l hl hp l.length 0 (by omega)
  unfold slices_ContainsFunc_int_int_of_impl_SumOk_1.f slices_IndexFunc_int_int_of_impl_SumOk_1.f
  refine Ev.bind h2 (Ev.const ?_)
  rw [h1]; rfl

theorem specSum_l0 (w : List Int) (c : Int) (r : List Int) (hw : w.length = 8) : ∀ (d i : Nat), i + d = 8 → Ev (fun k => spec_SumOk.l0 k (i : Int) w c r) (!(w.drop i).any badWord)
  | 0, i, hi => by
    refine Ev.step (f := fun _ => some true) (fun k => ?_) (Ev.const (by rw [List.drop_of_length_le (by omega)]; rfl))
    simp only [spec_SumOk.l0]
    rw [if_neg (by omega)]
  | d + 1, i, hi => by
    have ih := specSum_l0 w c r hw d (i + 1) (by omega)
    have e3 : w.drop i = w[i]'(by omega) :: w.drop (i + 1) := List.drop_eq_getElem_cons (by omega)
    have g0 : (i : Int) < 8 := by omega
    have g1 : (i : Int) < (w.length : Int) := by omega
    have g2 : (0 : Int) ≤ (i : Int) := by omega
    rw [e3, List.any_cons]
    by_cases hb : 0 ≤ w[i]'(by omega) ∧ w[i]'(by omega) ≤ 4294967295
    · rw [show badWord (w[i]'(by omega)) = false by unfold badWord; rw [decide_eq_true hb]; rfl, Bool.false_or]
      refine Ev.step (fun k => ?_) ih
      simp only [spec_SumOk.l0]
      rw [if_pos g0, if_pos g2, if_pos g1, rd_get w i (by omega), l1In_tell]
      simp only [Option.bind_some]
      rw [if_pos (decide_eq_true hb), wrap64_succ (by omega)]
    · rw [show badWord (w[i]'(by omega)) = true by unfold badWord; rw [decide_eq_false hb]; rfl, Bool.true_or, Bool.not_true]
      refine Ev.step (f := fun _ => some false) (fun k => ?_) (Ev.now _)
      simp only [spec_SumOk.l0]
      rw [if_pos g0, if_pos g2, if_pos g1, rd_get w i (by omega), l1In_tell]
      simp only [Option.bind_some]
      rw [if_neg (by rw [decide_eq_true_eq]; exact hb)]
theorem specSumOk_ev (w : List Int) (c : Int) (r : List Int) : Ev (fun k => spec_SumOk.f k w c r) (decide (sumOkP w c r)) := by
  unfold spec_SumOk.f
  rw [l1In_tell]
  simp only [Option.bind_some]
  have bad : ¬ sumOkP w c r → Ev (fun k => spec_SumOk.j0 k true w c r) (decide (sumOkP w c r)) := fun h => by
    rw [decide_eq_false h]
    exact Ev.step (f := fun _ => some false) (fun k => by simp [spec_SumOk.j0]) (Ev.now _)
  by_cases h : (w.length : Int) = 8
  · refine Ev.ifT h ?_
    by_cases h2 : 0 ≤ c ∧ c ≤ 2147483647
    · refine Ev.ifT (decide_eq_true h2) ?_
      rw [Int.tmod_eq_emod_of_nonneg h2.1]
      by_cases h3 : (r.length : Int) = c % 64
      · rw [show ((r.length : Int) != c % 64) = false by simp [h3]]
        have e := specSum_l0 w c r (by omega) 8 0 (by omega)
        have e2 : decide (sumOkP w c r) = !(w.drop 0).any badWord := by
          rw [Bool.eq_iff_iff, decide_eq_true_eq, Bool.not_eq_true', List.drop_zero]
          unfold sumOkP
          constructor
          · intro q; exact q.2.1
          · intro q; exact ⟨by omega, q, h2.1, h2.2, h3⟩
        rw [e2]
        exact Ev.step (fun k => by simp [spec_SumOk.j0]) e
      · rw [show ((r.length : Int) != c % 64) = true by simp [h3]]
        exact bad (fun q => h3 q.2.2.2.2)
    · exact Ev.ifF (by rw [decide_eq_true_eq]; exact h2) (bad (fun q => h2 ⟨q.2.2.1, q.2.2.2.1⟩))
  · exact Ev.ifF h (bad (fun q => h (by have := q.1; omega)))

theorem implSumBad_tell (x : Int) : impl_SumOk_1.f x = some (badWord x) := by
  unfold impl_SumOk_1.f badWord
  rw [in_tell]; rfl
theorem implSumOk_ev (w : List Int) (c : Int) (r : List Int) : Ev (fun k => impl_SumOk.f k w c r) (decide (sumOkP w c r)) := by
  unfold impl_SumOk.f
  by_cases h : (w.length : Int) = 8
  · refine Ev.ifT h (Ev.bind (containsFunc_SumOk badWord w (by omega) (fun x _ => implSumBad_tell x) 0) ?_)
    by_cases hany : w.any badWord = true
    · rw [decide_eq_false (fun q : sumOkP w c r => by have := q.2.1; rw [hany] at this; cases this)]
      exact Ev.ifT hany (Ev.now _)
    · refine Ev.ifF hany (Ev.bindc (in_tell _ _ _) ?_)
      by_cases h2 : 0 ≤ c ∧ c ≤ 2147483647
      · refine Ev.ifT (decide_eq_true h2) (Ev.const ?_)
        rw [Int.tmod_eq_emod_of_nonneg h2.1]
        congr 1
        rw [Bool.eq_iff_iff, decide_eq_true_eq, beq_iff_eq]
        unfold sumOkP
        constructor
        · intro q; exact ⟨by omega, Bool.eq_false_iff.2 hany, h2.1, h2.2, q⟩
        · intro q; exact q.2.2.2.2
      · rw [decide_eq_false (fun q : sumOkP w c r => h2 ⟨q.2.2.1, q.2.2.2.1⟩)]
        exact Ev.ifF (by rw [decide_eq_true_eq]; exact h2) (Ev.now _)
  · rw [decide_eq_false (fun q : sumOkP w c r => h (by have := q.1; omega))]
    exact Ev.ifF h (Ev.now _)

theorem FnExactSumOk : ∀ (l0_0 : List Int) (a0_1 : Int) (l0_2 : List Int), l0_0.length ≤ maxLen → (∀ x ∈ l0_0, (Lit.int .i64 x).wf = true) → (Lit.int .i64 a0_1).wf = true → l0_2.length ≤ maxLen → (∀ x ∈ l0_2, (Lit.int .u8 x).wf = true) → ∃ k, laws_FnExactSumOk.f k l0_0 a0_1 l0_2 = some true := by
  intro w c r hw _ _ hr _
  unfold maxLen at hw hr
  refine Ev.rounds ?_
  unfold laws_FnExactSumOk.f
  refine Ev.bindc (szSum_tell w c r 1048576 hw hr (by omega) (by omega)) ?_
  by_cases hl : (1048576 : Int) < (w.length : Int) + r.length
  · rw [if_pos hl]; exact Ev.ifT (by omega) (Ev.now _)
  · rw [if_neg hl]
    have t := toSum_ev w c r (by omega) (by omega)
    have e := eqSum_ev w c r (by omega) (by omega)
    exact Ev.ifF (by omega) (Ev.bind t (Ev.bind (specSumOk_ev w c r) (Ev.bind t (Ev.bind (implSumOk_ev w c r) (Ev.ifF (by simp) (Ev.bind t (Ev.bind e (Ev.ifT rfl (Ev.now _)))))))))

end Go.Proofs.Ytndoapmehgfdkab.Pure
