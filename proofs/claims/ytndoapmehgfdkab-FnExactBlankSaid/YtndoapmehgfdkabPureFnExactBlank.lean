/- The plain law of FnExactBlank, over numbers and lists alone: what the printed functions answer is true for all arguments. Conditions: those of the arguments' kinds. -/
import Derived.Test.YtndoapmehgfdkabQFnExactBlankx3
import Derived.Test.YtndoapmehgfdkabAid
set_option linter.unusedVariables false
set_option linter.unusedSimpArgs false
namespace Go.Proofs.Ytndoapmehgfdkab.Pure
open Go.RowKit Go.Proofs.Ytndoapmehgfdkab.Aid Go.Proofs.Ytndoapmehgfdkab.QFnExactBlank Go.Proofs.YtndoapmehgfdkabW.PrintWords Go.Proofs.YtndoapmehgfdkabW.PrintLast Go.Proofs.YtndoapmehgfdkabW.PrintMore
theorem in_tell (a b c : Int) : impl_in.f a b c = some (decide (b ≤ a ∧ a ≤ c)) := by
  unfold impl_in.f
  by_cases h : a ≥ b
  · rw [if_pos h]; congr 1; rw [Bool.eq_iff_iff]; simp only [decide_eq_true_eq]; omega
  · rw [if_neg h]; congr 1; symm; rw [decide_eq_false_iff_not]; omega

theorem l1In_tell (a b c : Int) : spec_l1In.f a b c = some (decide (b ≤ a ∧ a ≤ c)) := by
  unfold spec_l1In.f
  by_cases h : a ≥ b
  · rw [if_pos h]; congr 1; rw [Bool.eq_iff_iff]; simp only [decide_eq_true_eq]; omega
  · rw [if_neg h]; congr 1; symm; rw [decide_eq_false_iff_not]; omega

theorem toByteS_l0 (l : List Int) (hl : l.length ≤ 140737488351232) : ∀ (d : Nat) (x : List Int) (i : Nat), x.length = l.length → i + d = l.length → x.take i = l.take i → Ev (fun k => laws_toByteS.l0 k l x (i : Int)) l
  | 0, x, i, hx, hi, ht => by
    refine Ev.step (f := fun _ => some l) (fun k => ?_) (Ev.now _)
    simp only [laws_toByteS.l0]
    rw [if_neg (by omega)]
    congr 1
    rw [List.take_of_length_le (by omega), List.take_of_length_le (by omega)] at ht
    exact ht
  | d + 1, x, i, hx, hi, ht => by
    have ih := toByteS_l0 l hl d (x.set i (rd l i)) (i + 1) (by simpa using hx) (by omega) (by
      rw [List.take_succ_eq_append_getElem (by simp; omega), List.take_succ_eq_append_getElem (by omega), List.take_set_of_le (by omega), ht]
      simp [rd, List.getElem?_eq_getElem (show i < l.length by omega)])
    refine Ev.step (fun k => ?_) ih
    simp only [laws_toByteS.l0]
    rw [if_pos (by omega), if_pos (by omega), if_pos (by omega), wrap64_id (by omega) (by omega)]
    simp
theorem toByteS_ev (l : List Int) (hl : l.length ≤ 140737488351232) : Ev (fun k => laws_toByteS.f k l) l := by
  refine Ev.congr (fun k => ?_) (toByteS_l0 l hl l.length (List.replicate l.length 0) 0 (by simp) (by simp) (by simp))
  simp only [laws_toByteS.f]
  rw [if_pos (by omega), if_pos (by omega)]
  simp

theorem toIntS_l0 (l : List Int) (hl : l.length ≤ 17592186044416) : ∀ (d : Nat) (x : List Int) (i : Nat), x.length = l.length → i + d = l.length → x.take i = l.take i → Ev (fun k => laws_toIntS.l0 k l x (i : Int)) l
  | 0, x, i, hx, hi, ht => by
    refine Ev.step (f := fun _ => some l) (fun k => ?_) (Ev.now _)
    simp only [laws_toIntS.l0]
    rw [if_neg (by omega)]
    congr 1
    rw [List.take_of_length_le (by omega), List.take_of_length_le (by omega)] at ht
    exact ht
  | d + 1, x, i, hx, hi, ht => by
    have ih := toIntS_l0 l hl d (x.set i (rd l i)) (i + 1) (by simpa using hx) (by omega) (by
      rw [List.take_succ_eq_append_getElem (by simp; omega), List.take_succ_eq_append_getElem (by omega), List.take_set_of_le (by omega), ht]
      simp [rd, List.getElem?_eq_getElem (show i < l.length by omega)])
    refine Ev.step (fun k => ?_) ih
    simp only [laws_toIntS.l0]
    rw [if_pos (by omega), if_pos (by omega), if_pos (by omega), wrap64_id (by omega) (by omega)]
    simp
theorem toIntS_ev (l : List Int) (hl : l.length ≤ 17592186044416) : Ev (fun k => laws_toIntS.f k l) l := by
  refine Ev.congr (fun k => ?_) (toIntS_l0 l hl l.length (List.replicate l.length 0) 0 (by simp) (by simp) (by simp))
  simp only [laws_toIntS.f]
  rw [if_pos (by omega), if_pos (by omega)]
  simp

theorem eqByteS_l0 (l : List Int) (hl : l.length ≤ 140737488351232) : ∀ (d : Nat) (i : Nat), i + d = l.length → Ev (fun k => laws_eqByteS.l0 k l l (i : Int)) true
  | 0, i, hi => by
    refine Ev.step (f := fun _ => some true) (fun k => ?_) (Ev.now _)
    simp only [laws_eqByteS.l0]
    rw [if_neg (by omega)]
  | d + 1, i, hi => by
    have ih := eqByteS_l0 l hl d (i + 1) (by omega)
    refine Ev.step (fun k => ?_) ih
    simp only [laws_eqByteS.l0]
    rw [if_pos (by omega), if_pos (by omega), if_pos (by omega), wrap64_id (by omega) (by omega)]
    simp
theorem eqByteS_ev (l : List Int) (hl : l.length ≤ 140737488351232) : Ev (fun k => laws_eqByteS.f k l l) true := by
  refine Ev.congr (fun k => ?_) (eqByteS_l0 l hl l.length 0 (by simp))
  simp only [laws_eqByteS.f]
  simp

theorem eqIntS_l0 (l : List Int) (hl : l.length ≤ 140737488351232) : ∀ (d : Nat) (i : Nat), i + d = l.length → Ev (fun k => laws_eqIntS.l0 k l l (i : Int)) true
  | 0, i, hi => by
    refine Ev.step (f := fun _ => some true) (fun k => ?_) (Ev.now _)
    simp only [laws_eqIntS.l0]
    rw [if_neg (by omega)]
  | d + 1, i, hi => by
    have ih := eqIntS_l0 l hl d (i + 1) (by omega)
    refine Ev.step (fun k => ?_) ih
    simp only [laws_eqIntS.l0]
    rw [if_pos (by omega), if_pos (by omega), if_pos (by omega), wrap64_id (by omega) (by omega)]
    simp
theorem eqIntS_ev (l : List Int) (hl : l.length ≤ 140737488351232) : Ev (fun k => laws_eqIntS.f k l l) true := by
  refine Ev.congr (fun k => ?_) (eqIntS_l0 l hl l.length 0 (by simp))
  simp only [laws_eqIntS.f]
  simp

theorem szByteS_tell (l : List Int) (a : Int) (hl : l.length ≤ 9223372036854775807) (h0 : 0 ≤ a) (h1 : a ≤ 1048576) : laws_szByteS.f l a = some (if a < (l.length : Int) then -1 else a - l.length) := by
  unfold laws_szByteS.f
  rw [wrap64_id (by omega) (by omega)]
  by_cases h : a < (l.length : Int)
  · rw [if_pos (by omega), if_pos h]
  · rw [if_neg (by omega), if_neg h]

theorem szIntS_tell (l : List Int) (a : Int) (hl : l.length ≤ 9223372036854775807) (h0 : 0 ≤ a) (h1 : a ≤ 1048576) : laws_szIntS.f l a = some (if a < (l.length : Int) then -1 else a - l.length) := by
  unfold laws_szIntS.f
  rw [wrap64_id (by omega) (by omega)]
  by_cases h : a < (l.length : Int)
  · rw [if_pos (by omega), if_pos h]
  · rw [if_neg (by omega), if_neg h]

theorem szNor_tell (c w : List Int) (a : Int) (hc : c.length ≤ 9223372036854775807) (hw : w.length ≤ 9223372036854775807) (h0 : 0 ≤ a) (h1 : a ≤ 1048576) : laws_szNor.f c w a = some (if a < (c.length : Int) + w.length then -1 else a - c.length - w.length) := by
  unfold laws_szNor.f
  rw [szByteS_tell c a hc h0 h1]
  simp only [Option.bind_some]
  by_cases q : a < (c.length : Int)
  · rw [if_pos q, if_pos (by omega), if_pos (by omega)]
  · rw [if_neg q, if_neg (by omega), szIntS_tell w _ hw (by omega) (by omega)]
    simp only [Option.bind_some]
    by_cases q2 : a - (c.length : Int) < (w.length : Int)
    · rw [if_pos q2, if_pos (by omega), if_pos (by omega)]
    · rw [if_neg q2, if_neg (by omega), if_neg (by omega)]
theorem toNor_ev (c w : List Int) (hc : c.length ≤ 1048576) (hw : w.length ≤ 1048576) : Ev (fun k => laws_toNor.f k c w) (c, w) := by
  unfold laws_toNor.f
  exact Ev.bind (toByteS_ev c (by omega)) (Ev.bind (toIntS_ev w (by omega)) (Ev.now _))
theorem eqNor_ev (c w : List Int) (hc : c.length ≤ 1048576) (hw : w.length ≤ 1048576) : Ev (fun k => laws_eqNor.f k c w c w) true := by
  unfold laws_eqNor.f
  exact Ev.bind (eqByteS_ev c (by omega)) (Ev.ifT rfl (Ev.bind (eqIntS_ev w (by omega)) (Ev.ifT rfl (Ev.now _))))

def badWear (x : Int) : Bool := !decide (0 ≤ x ∧ x ≤ 100000)
def norOkP (c w : List Int) : Prop := 1 ≤ w.length ∧ w.length ≤ 64 ∧ w.any badWear = false ∧ c.length = 64 * w.length
instance (c w : List Int) : Decidable (norOkP c w) := by unfold norOkP; infer_instance

theorem indexFunc_NorOk_l0 (p : Int → Bool) (l : List Int) (hl : l.length ≤ 140737488351232) (hp : ∀ x ∈ l, impl_NorOk_1.f x = some (p x)) : ∀ (d i : Nat), i + d = l.length → ∃ r : Int, decide (r ≥ 0) = (l.drop i).any p ∧ Ev (fun k => slices_IndexFunc_int_int_of_impl_NorOk_1.l0 k l (l.length : Int) (i : Int)) r
  | 0, i, hi => by
    refine ⟨-1, by rw [List.drop_of_length_le (by omega)]; rfl, Ev.step (f := fun _ => some (-1)) (fun k => ?_) (Ev.now _)⟩
    simp only [slices_IndexFunc_int_int_of_impl_NorOk_1.l0]
    rw [if_neg (by omega)]
  | d + 1, i, hi => by
    obtain ⟨r, h1, h2⟩ := indexFunc_NorOk_l0 p l hl hp d (i + 1) (by omega)
    have e3 : l.drop i = l[i]'(by omega) :: l.drop (i + 1) := List.drop_eq_getElem_cons (by omega)
    have hx := hp (l[i]'(by omega)) (List.getElem_mem _)
    have g1 : (i : Int) < (l.length : Int) := by omega
    have g2 : (0 : Int) ≤ (i : Int) := by omega
    have er := rd_get l i (by omega)
    by_cases hb : p (l[i]'(by omega)) = true
    · refine ⟨(i : Int), ?_, Ev.step (f := fun _ => some (i : Int)) (fun k => ?_) (Ev.now _)⟩
      · rw [e3, List.any_cons, hb, Bool.true_or, decide_eq_true_eq]; omega
      · simp only [slices_IndexFunc_int_int_of_impl_NorOk_1.l0]
        rw [if_pos g1, if_pos g2, if_pos g1, er, hx]
        simp only [Option.bind_some]
        rw [if_pos hb]
    · refine ⟨r, ?_, Ev.step (fun k => ?_) h2⟩
      · rw [h1, e3, List.any_cons, Bool.eq_false_iff.2 hb, Bool.false_or]
      · simp only [slices_IndexFunc_int_int_of_impl_NorOk_1.l0]
        rw [if_pos g1, if_pos g2, if_pos g1, er, hx]
        simp only [Option.bind_some]
        rw [if_neg hb, wrap64_succ (by omega)]
theorem containsFunc_NorOk (p : Int → Bool) (l : List Int) (hl : l.length ≤ 140737488351232) (hp : ∀ x ∈ l, impl_NorOk_1.f x = some (p x)) (z : Nat) : Ev (fun k => slices_ContainsFunc_int_int_of_impl_NorOk_1.f k l z) (l.any p) := by
  obtain ⟨r, h1, h2⟩ := indexFunc_NorOk_l0 p l hl hp l.length 0 (by omega)
  unfold slices_ContainsFunc_int_int_of_impl_NorOk_1.f slices_IndexFunc_int_int_of_impl_NorOk_1.f
  refine Ev.bind h2 (Ev.const ?_)
  rw [h1]; rfl

theorem specNor_l0 (c w : List Int) (hw : w.length ≤ 64) : ∀ (d i : Nat), i + d = w.length → Ev (fun k => spec_NorOk.l0 k (i : Int) c w) (!(w.drop i).any badWear)
  | 0, i, hi => by
    refine Ev.step (f := fun _ => some true) (fun k => ?_) (Ev.const (by rw [List.drop_of_length_le (by omega)]; rfl))
    simp only [spec_NorOk.l0]
    rw [if_neg (by omega)]
  | d + 1, i, hi => by
    have ih := specNor_l0 c w hw d (i + 1) (by omega)
    have e3 : w.drop i = w[i]'(by omega) :: w.drop (i + 1) := List.drop_eq_getElem_cons (by omega)
    have g1 : (i : Int) < (w.length : Int) := by omega
    have g2 : (0 : Int) ≤ (i : Int) := by omega
    rw [e3, List.any_cons]
    by_cases hb : 0 ≤ w[i]'(by omega) ∧ w[i]'(by omega) ≤ 100000
    · rw [show badWear (w[i]'(by omega)) = false by unfold badWear; rw [decide_eq_true hb]; rfl, Bool.false_or]
      refine Ev.step (fun k => ?_) ih
      simp only [spec_NorOk.l0]
      rw [if_pos g1, if_pos g2, rd_get w i (by omega), l1In_tell]
      simp only [Option.bind_some]
      rw [if_pos (decide_eq_true hb), wrap64_succ (by omega)]
    · rw [show badWear (w[i]'(by omega)) = true by unfold badWear; rw [decide_eq_false hb]; rfl, Bool.true_or, Bool.not_true]
      refine Ev.step (f := fun _ => some false) (fun k => ?_) (Ev.now _)
      simp only [spec_NorOk.l0]
      rw [if_pos g1, if_pos g2, rd_get w i (by omega), l1In_tell]
      simp only [Option.bind_some]
      rw [if_neg (by rw [decide_eq_true_eq]; exact hb)]
theorem specNorOk_ev (c w : List Int) (hw : w.length ≤ 1048576) : Ev (fun k => spec_NorOk.f k c w) (decide (norOkP c w)) := by
  unfold spec_NorOk.f
  rw [l1In_tell, wrap64_id (by omega) (by omega)]
  simp only [Option.bind_some]
  have bad : ¬ norOkP c w → Ev (fun k => spec_NorOk.j0 k true c w) (decide (norOkP c w)) := fun h => by
    rw [decide_eq_false h]
    exact Ev.step (f := fun _ => some false) (fun k => by simp [spec_NorOk.j0]) (Ev.now _)
  by_cases h : 1 ≤ (w.length : Int) ∧ (w.length : Int) ≤ 64
  · refine Ev.ifT (decide_eq_true h) ?_
    by_cases h2 : (c.length : Int) = 64 * (w.length : Int)
    · rw [show ((c.length : Int) != 64 * (w.length : Int)) = false by simp [h2]]
      have e := specNor_l0 c w (by omega) w.length 0 (by omega)
      have e2 : decide (norOkP c w) = !(w.drop 0).any badWear := by
        rw [Bool.eq_iff_iff, decide_eq_true_eq, Bool.not_eq_true', List.drop_zero]
        unfold norOkP
        constructor
        · intro q; exact q.2.2.1
        · intro q; exact ⟨by omega, by omega, q, by omega⟩
      rw [e2]
      exact Ev.step (fun k => by simp [spec_NorOk.j0]) e
    · rw [show ((c.length : Int) != 64 * (w.length : Int)) = true by simp [h2]]
      exact bad (fun q => h2 (by have := q.2.2.2; omega))
  · exact Ev.ifF (by rw [decide_eq_true_eq]; exact h) (bad (fun q => h ⟨by have := q.1; omega, by have := q.2.1; omega⟩))

theorem implNorBad_tell (x : Int) : impl_NorOk_1.f x = some (badWear x) := by
  unfold impl_NorOk_1.f badWear
  rw [in_tell]; rfl
theorem implNorOk_ev (c w : List Int) (hw : w.length ≤ 1048576) : Ev (fun k => impl_NorOk.f k c w) (decide (norOkP c w)) := by
  unfold impl_NorOk.f
  rw [in_tell, wrap64_id (by omega) (by omega)]
  simp only [Option.bind_some]
  by_cases h : 1 ≤ (w.length : Int) ∧ (w.length : Int) ≤ 64
  · refine Ev.ifT (decide_eq_true h) (Ev.bind (containsFunc_NorOk badWear w (by omega) (fun x _ => implNorBad_tell x) 0) ?_)
    by_cases hany : w.any badWear = true
    · rw [decide_eq_false (fun q : norOkP c w => by have := q.2.2.1; rw [hany] at this; cases this)]
      exact Ev.ifT hany (Ev.now _)
    · refine Ev.ifF hany (Ev.const ?_)
      congr 1
      rw [Bool.eq_iff_iff, decide_eq_true_eq, beq_iff_eq]
      unfold norOkP
      constructor
      · intro q; exact ⟨by omega, by omega, Bool.eq_false_iff.2 hany, by omega⟩
      · intro q; have := q.2.2.2; omega
  · rw [decide_eq_false (fun q : norOkP c w => h ⟨by have := q.1; omega, by have := q.2.1; omega⟩)]
    exact Ev.ifF (by rw [decide_eq_true_eq]; exact h) (Ev.now _)

def secOf (c : List Int) (a : Nat) : List Int := (c.take ((a + 1) * 64)).drop (a * 64)
theorem secOf_len (c : List Int) (a : Nat) (h : (a + 1) * 64 ≤ c.length) : (secOf c a).length = 64 := by
  unfold secOf
  simp
  omega
theorem secOf_rd (c : List Int) (a j : Nat) (h : (a + 1) * 64 ≤ c.length) (hj : j < 64) : (secOf c a)[j]'(by rw [secOf_len c a h]; exact hj) = rd c ((a * 64 + j : Nat) : Int) := by
  unfold secOf
  rw [rd_get c (a * 64 + j) (by omega)]
  simp
theorem sectorOf_tell (c w : List Int) (a : Nat) (h : (a + 1) * 64 ≤ c.length) (ha : a ≤ 64) : impl_sectorOf.f c w (a : Int) = some (secOf c a) := by
  unfold impl_sectorOf.f secOf
  have w1 : wrap64 ((a : Int) * 64) = ((a * 64 : Nat) : Int) := by rw [wrap64_id (by omega) (by omega)]; simp
  have w2 : wrap64 ((a : Int) + 1) = ((a + 1 : Nat) : Int) := wrap64_succ (by clear w1; omega)
  have w3 : wrap64 (((a + 1 : Nat) : Int) * 64) = (((a + 1) * 64 : Nat) : Int) := by rw [wrap64_id (by clear w1 w2; omega) (by clear w1 w2; omega)]; simp
  rw [w1, w2, w3]
  clear w1 w2 w3
  rw [if_pos (by omega), if_pos (by omega), if_pos (by omega)]
  rfl

theorem indexFunc_Blank_l0 (p : Int → Bool) (l : List Int) (hl : l.length ≤ 140737488351232) (hp : ∀ x ∈ l, impl_Blank_1.f x = some (p x)) : ∀ (d i : Nat), i + d = l.length → ∃ r : Int, decide (r ≥ 0) = (l.drop i).any p ∧ Ev (fun k => slices_IndexFunc_byte_byte_of_impl_Blank_1.l0 k l (l.length : Int) (i : Int)) r
  | 0, i, hi => by
    refine ⟨-1, by rw [List.drop_of_length_le (by omega)]; rfl, Ev.step (f := fun _ => some (-1)) (fun k => ?_) (Ev.now _)⟩
    simp only [slices_IndexFunc_byte_byte_of_impl_Blank_1.l0]
    rw [if_neg (by omega)]
  | d + 1, i, hi => by
    obtain ⟨r, h1, h2⟩ := indexFunc_Blank_l0 p l hl hp d (i + 1) (by omega)
    have e3 : l.drop i = l[i]'(by omega) :: l.drop (i + 1) := List.drop_eq_getElem_cons (by omega)
    have hx := hp (l[i]'(by omega)) (List.getElem_mem _)
    have g1 : (i : Int) < (l.length : Int) := by omega
    have g2 : (0 : Int) ≤ (i : Int) := by omega
    have er := rd_get l i (by omega)
    by_cases hb : p (l[i]'(by omega)) = true
    · refine ⟨(i : Int), ?_, Ev.step (f := fun _ => some (i : Int)) (fun k => ?_) (Ev.now _)⟩
      · rw [e3, List.any_cons, hb, Bool.true_or, decide_eq_true_eq]; omega
      · simp only [slices_IndexFunc_byte_byte_of_impl_Blank_1.l0]
        rw [if_pos g1, if_pos g2, if_pos g1, er, hx]
        simp only [Option.bind_some]
        rw [if_pos hb]
    · refine ⟨r, ?_, Ev.step (fun k => ?_) h2⟩
      · rw [h1, e3, List.any_cons, Bool.eq_false_iff.2 hb, Bool.false_or]
      · simp only [slices_IndexFunc_byte_byte_of_impl_Blank_1.l0]
        rw [if_pos g1, if_pos g2, if_pos g1, er, hx]
        simp only [Option.bind_some]
        rw [if_neg hb, wrap64_succ (by omega)]
theorem containsFunc_Blank (p : Int → Bool) (l : List Int) (hl : l.length ≤ 140737488351232) (hp : ∀ x ∈ l, impl_Blank_1.f x = some (p x)) (z : Nat) : Ev (fun k => slices_ContainsFunc_byte_byte_of_impl_Blank_1.f k l z) (l.any p) := by
  obtain ⟨r, h1, h2⟩ := indexFunc_Blank_l0 p l hl hp l.length 0 (by omega)
  unfold slices_ContainsFunc_byte_byte_of_impl_Blank_1.f slices_IndexFunc_byte_byte_of_impl_Blank_1.f
  refine Ev.bind h2 (Ev.const ?_)
  rw [h1]; rfl

def blankOf (c w : List Int) (a : Int) : Bool := if norOkP c w ∧ 0 ≤ a ∧ a ≤ (w.length : Int) - 1 then !(secOf c a.toNat).any (fun x => x != 255) else false
theorem specBlank_l0 (c w : List Int) (a : Nat) (h : (a + 1) * 64 ≤ c.length) (ha : a ≤ 64) : ∀ (d j : Nat), j + d = 64 → Ev (fun k => spec_Blank.l0 k (a : Int) (j : Int) c w) (!((secOf c a).drop j).any (fun x => x != 255))
  | 0, j, hj => by
    rw [List.drop_of_length_le (by rw [secOf_len c a h]; omega)]
    refine Ev.step (f := fun _ => some true) (fun k => ?_) (Ev.now _)
    simp only [spec_Blank.l0]
    rw [if_neg (by omega)]
  | d + 1, j, hj => by
    have ih := specBlank_l0 c w a h ha d (j + 1) (by omega)
    have hl := secOf_len c a h
    have e3 : (secOf c a).drop j = (secOf c a)[j]'(by omega) :: (secOf c a).drop (j + 1) := List.drop_eq_getElem_cons (by omega)
    have er := secOf_rd c a j h (by omega)
    have w1 : wrap64 ((a : Int) * 64) = ((a * 64 : Nat) : Int) := by rw [wrap64_id (by omega) (by omega)]; simp
    have w2 : wrap64 (((a * 64 : Nat) : Int) + (j : Int)) = ((a * 64 + j : Nat) : Int) := by rw [wrap64_id (by clear w1; omega) (by clear w1; omega)]; simp
    have w3 : wrap64 ((j : Int) + 1) = ((j + 1 : Nat) : Int) := wrap64_succ (by clear w1 w2; omega)
    have g1 : (j : Int) < 64 := by clear w1 w2 w3; omega
    have g2 : (0 : Int) ≤ ((a * 64 + j : Nat) : Int) := by clear w1 w2 w3; omega
    have g3 : ((a * 64 + j : Nat) : Int) < (c.length : Int) := by clear w1 w2 w3; omega
    rw [e3, er, List.any_cons]
    by_cases q : rd c ((a * 64 + j : Nat) : Int) = 255
    · rw [show (rd c ((a * 64 + j : Nat) : Int) != 255) = false by simpa using q, Bool.false_or]
      refine Ev.step (fun k => ?_) ih
      simp only [spec_Blank.l0]
      rw [if_pos g1, w1, w2, w3, if_pos g2, if_pos g3, if_pos q]
    · rw [show (rd c ((a * 64 + j : Nat) : Int) != 255) = true by simpa using q, Bool.true_or, Bool.not_true]
      refine Ev.step (f := fun _ => some false) (fun k => ?_) (Ev.now _)
      simp only [spec_Blank.l0]
      rw [if_pos g1, w1, w2, if_pos g2, if_pos g3, if_neg q]
theorem specBlank_ev (c w : List Int) (a : Int) (hw : w.length ≤ 1048576) : Ev (fun k => spec_Blank.f k c w a) (blankOf c w a) := by
  unfold spec_Blank.f
  have bad : Ev (fun k => spec_Blank.j0 k a true c w) false := Ev.step (f := fun _ => some false) (fun k => by simp [spec_Blank.j0]) (Ev.now _)
  refine Ev.bind (specNorOk_ev c w hw) ?_
  unfold blankOf
  by_cases h : norOkP c w
  · refine Ev.ifT (decide_eq_true h) ?_
    rw [wrap64_id (by omega) (by omega), l1In_tell]
    simp only [Option.bind_some]
    by_cases q : 0 ≤ a ∧ a ≤ (w.length : Int) - 1
    · rw [if_pos ⟨h, q⟩, decide_eq_true q]
      obtain ⟨n, rfl⟩ := Int.eq_ofNat_of_zero_le q.1
      have h2 := h.2.2.2
      have h3 := h.2.1
      have e := specBlank_l0 c w n (by omega) (by omega) 64 0 (by omega)
      exact Ev.step (fun k => by simp [spec_Blank.j0]) e
    · rw [if_neg (fun z => q z.2), decide_eq_false q]
      exact bad
  · rw [if_neg (fun z => h z.1)]
    exact Ev.ifF (by simpa using h) bad
theorem implBlank_ev (c w : List Int) (a : Int) (hw : w.length ≤ 1048576) : Ev (fun k => impl_Blank.f k c w a) (blankOf c w a) := by
  unfold impl_Blank.f
  have bad : Ev (fun k => impl_Blank.j0 k a true c w) false := Ev.step (f := fun _ => some false) (fun k => by simp [impl_Blank.j0]) (Ev.now _)
  refine Ev.bind (implNorOk_ev c w hw) ?_
  unfold blankOf
  by_cases h : norOkP c w
  · refine Ev.ifT (decide_eq_true h) ?_
    rw [wrap64_id (by omega) (by omega), in_tell]
    simp only [Option.bind_some]
    by_cases q : 0 ≤ a ∧ a ≤ (w.length : Int) - 1
    · rw [if_pos ⟨h, q⟩, decide_eq_true q]
      obtain ⟨n, rfl⟩ := Int.eq_ofNat_of_zero_le q.1
      have h2 := h.2.2.2
      have h3 := h.2.1
      have hl := secOf_len c n (by omega)
      have cf := containsFunc_Blank (fun x => x != 255) (secOf c n) (by omega) (fun x _ => rfl) 0
      exact Ev.step (fun _ => impl_Blank.j0.eq_2 _ _ _ _ _) (Ev.ifF (by decide) (Ev.bindc (sectorOf_tell c w n (by omega) (by omega)) (Ev.bind cf (Ev.now _))))
    · rw [if_neg (fun z => q z.2), decide_eq_false q]
      exact bad
  · rw [if_neg (fun z => h z.1)]
    exact Ev.ifF (by simpa using h) bad
theorem FnExactBlank : ∀ (l0_0 : List Int) (l0_1 : List Int) (a1 : Int), l0_0.length ≤ maxLen → (∀ x ∈ l0_0, (Lit.int .u8 x).wf = true) → l0_1.length ≤ maxLen → (∀ x ∈ l0_1, (Lit.int .i64 x).wf = true) → (Lit.int .i64 a1).wf = true → ∃ k, laws_FnExactBlank.f k l0_0 l0_1 a1 = some true := by
  intro c w a hc _ hw _ _
  unfold maxLen at hc hw
  refine Ev.rounds ?_
  unfold laws_FnExactBlank.f
  have s := szNor_tell c w 1048576 hc hw (by omega) (by omega)
  refine Ev.bindc s ?_
  by_cases hl : (1048576 : Int) < (c.length : Int) + w.length
  · rw [if_pos hl]; exact Ev.ifT (by omega) (Ev.now _)
  · rw [if_neg hl]
    have t := toNor_ev c w (by omega) (by omega)
    have e := eqNor_ev c w (by omega) (by omega)
    exact Ev.ifF (by omega) (Ev.bind t (Ev.bind (specBlank_ev c w a (by omega)) (Ev.bind t (Ev.bind (implBlank_ev c w a (by omega)) (Ev.ifF (by simp) (Ev.bind t (Ev.bind e (Ev.ifT rfl (Ev.now _)))))))))

end Go.Proofs.Ytndoapmehgfdkab.Pure
