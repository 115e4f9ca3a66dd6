/- The plain law of FnExactGetSum, over numbers and lists alone: what the printed functions answer is true for all arguments. Conditions: those of the arguments' kinds. -/
import Derived.Test.YtdilibnfihcmkaaQFnExactGetSumx5
import Derived.Test.YtdilibnfihcmkaaAid
import Derived.Lib.Bytes
set_option linter.unusedVariables false
set_option linter.unusedSimpArgs false
namespace Go.Proofs.Ytdilibnfihcmkaa.Pure
open Go.RowKit Go.Proofs.Ytdilibnfihcmkaa.Aid Go.Proofs.Ytdilibnfihcmkaa.QFnExactGetSum Go.Proofs.YtdilibnfihcmkaaW.PrintWords Go.Proofs.YtdilibnfihcmkaaW.PrintLast Go.Proofs.YtdilibnfihcmkaaW.PrintMore
theorem in_tell (a b c : Int) : impl_in.f a b c = some (decide (b ≤ a ∧ a ≤ c)) := by
  unfold impl_in.f
  by_cases h : a ≥ b
  · rw [if_pos h]; congr 1; rw [Bool.eq_iff_iff]; simp only [decide_eq_true_eq]; omega
  · rw [if_neg h]; congr 1; symm; rw [decide_eq_false_iff_not]; omega

theorem l1In_tell (a b c : Int) : spec_l1In.f a b c = some (decide (b ≤ a ∧ a ≤ c)) := by
  unfold spec_l1In.f
  by_cases h : a ≥ b
  · rw [if_pos h]; congr 1; rw [Bool.eq_iff_iff]; simp only [decide_eq_true_eq]; omega
  · rw [if_neg h]; congr 1; symm; rw [decide_eq_false_iff_not]; omega

theorem toByteS_l0 (l : List Int) (hl : l.length ≤ 140737488351232) : ∀ (d : Nat) (x : List Int) (i : Nat), x.length = l.length → i + d = l.length → x.take i = l.take i → Ev (fun k => laws_toByteS.l0 k l x (i : Int)) l
  | 0, x, i, hx, hi, ht => by
    refine Ev.step (f := fun _ => some l) (fun k => ?_) (Ev.now _)
    simp only [laws_toByteS.l0]
    rw [if_neg (by omega)]
    congr 1
    rw [List.take_of_length_le (by omega), List.take_of_length_le (by omega)] at ht
    exact ht
  | d + 1, x, i, hx, hi, ht => by
    have ih := toByteS_l0 l hl d (x.set i (rd l i)) (i + 1) (by simpa using hx) (by omega) (by
      rw [List.take_succ_eq_append_getElem (by simp; omega), List.take_succ_eq_append_getElem (by omega), List.take_set_of_le (by omega), ht]
      simp [rd, List.getElem?_eq_getElem (show i < l.length by omega)])
    refine Ev.step (fun k => ?_) ih
    simp only [laws_toByteS.l0]
    rw [if_pos (by omega), if_pos (by omega), if_pos (by omega), wrap64_id (by omega) (by omega)]
    simp
theorem toByteS_ev (l : List Int) (hl : l.length ≤ 140737488351232) : Ev (fun k => laws_toByteS.f k l) l := by
  refine Ev.congr (fun k => ?_) (toByteS_l0 l hl l.length (List.replicate l.length 0) 0 (by simp) (by simp) (by simp))
  simp only [laws_toByteS.f]
  rw [if_pos (by omega), if_pos (by omega)]
  simp

theorem eqByteS_l0 (l : List Int) (hl : l.length ≤ 140737488351232) : ∀ (d : Nat) (i : Nat), i + d = l.length → Ev (fun k => laws_eqByteS.l0 k l l (i : Int)) true
  | 0, i, hi => by
    refine Ev.step (f := fun _ => some true) (fun k => ?_) (Ev.now _)
    simp only [laws_eqByteS.l0]
    rw [if_neg (by omega)]
  | d + 1, i, hi => by
    have ih := eqByteS_l0 l hl d (i + 1) (by omega)
    refine Ev.step (fun k => ?_) ih
    simp only [laws_eqByteS.l0]
    rw [if_pos (by omega), if_pos (by omega), if_pos (by omega), wrap64_id (by omega) (by omega)]
    simp
theorem eqByteS_ev (l : List Int) (hl : l.length ≤ 140737488351232) : Ev (fun k => laws_eqByteS.f k l l) true := by
  refine Ev.congr (fun k => ?_) (eqByteS_l0 l hl l.length 0 (by simp))
  simp only [laws_eqByteS.f]
  simp

theorem eqIntS_l0 (l : List Int) (hl : l.length ≤ 140737488351232) : ∀ (d : Nat) (i : Nat), i + d = l.length → Ev (fun k => laws_eqIntS.l0 k l l (i : Int)) true
  | 0, i, hi => by
    refine Ev.step (f := fun _ => some true) (fun k => ?_) (Ev.now _)
    simp only [laws_eqIntS.l0]
    rw [if_neg (by omega)]
  | d + 1, i, hi => by
    have ih := eqIntS_l0 l hl d (i + 1) (by omega)
    refine Ev.step (fun k => ?_) ih
    simp only [laws_eqIntS.l0]
    rw [if_pos (by omega), if_pos (by omega), if_pos (by omega), wrap64_id (by omega) (by omega)]
    simp
theorem eqIntS_ev (l : List Int) (hl : l.length ≤ 140737488351232) : Ev (fun k => laws_eqIntS.f k l l) true := by
  refine Ev.congr (fun k => ?_) (eqIntS_l0 l hl l.length 0 (by simp))
  simp only [laws_eqIntS.f]
  simp

def marksB : Int → List Int → List Int
  | _, [] => []
  | c, _ :: r => c % 256 :: marksB (c + 1) r
theorem marksB_length : ∀ (c : Int) (l : List Int), (marksB c l).length = l.length
  | _, [] => rfl
  | c, _ :: r => by simp [marksB, marksB_length (c + 1) r]
theorem marksB_again : ∀ (c : Int) (l : List Int), marksB c (marksB c l) = marksB c l
  | _, [] => rfl
  | c, _ :: r => by simp [marksB, marksB_again (c + 1) r]
theorem markByteS_l0 : ∀ (d : Nat) (x : List Int) (c : Int) (i : Nat), x.length ≤ 140737488355328 → i + d = x.length → 0 ≤ c → c + d ≤ 4611686018427387904 →
    Ev (fun k => laws_markByteS.l0 k x c (i : Int)) (c + d, x.take i ++ marksB c (x.drop i))
  | 0, x, c, i, hl, hi, hc, hc1 => by
    refine Ev.step (f := fun _ => some (c, x)) (fun k => ?_) (Ev.const ?_)
    · simp only [laws_markByteS.l0]
      rw [if_neg (by omega)]
    · rw [List.take_of_length_le (by omega), List.drop_of_length_le (by omega)]
      simp [marksB]
  | d + 1, x, c, i, hl, hi, hc, hc1 => by
    have ih := markByteS_l0 d (x.set i (c % 256)) (c + 1) (i + 1) (by simpa using hl) (by simp; omega) (by omega) (by omega)
    have e1 : (x.set i (c % 256)).take (i + 1) = x.take i ++ [c % 256] := by
      rw [List.take_succ_eq_append_getElem (by simp; omega), List.take_set_of_le (by omega)]; simp
    have e2 : (x.set i (c % 256)).drop (i + 1) = x.drop (i + 1) := by rw [List.drop_set]; simp
    have e3 : x.drop i = x[i]'(by omega) :: x.drop (i + 1) := List.drop_eq_getElem_cons (by omega)
    rw [e1, e2] at ih
    have e4 : (c + ((d + 1 : Nat) : Int), x.take i ++ marksB c (x.drop i)) = (c + 1 + (d : Int), x.take i ++ [c % 256] ++ marksB (c + 1) (x.drop (i + 1))) := by
      rw [e3]; simp [marksB]; omega
    rw [e4]
    refine Ev.step (fun k => ?_) ih
    simp only [laws_markByteS.l0]
    rw [if_pos (by omega), if_pos (by omega), wrap64_id (by omega) (by omega), wrap64_id (by omega) (by omega)]
    simp
theorem markByteS_ev (x : List Int) (c : Int) (hl : x.length ≤ 140737488355328) (hc : 0 ≤ c) (hc1 : c + x.length ≤ 4611686018427387904) : Ev (fun k => laws_markByteS.f k x c) (c + x.length, marksB c x) := by
  have := markByteS_l0 x.length x c 0 hl (by omega) hc hc1
  simpa [laws_markByteS.f] using this
theorem heldByteS_l0 : ∀ (d : Nat) (x : List Int) (c : Int) (i : Nat), x.length ≤ 140737488355328 → i + d = x.length → 0 ≤ c → c + d ≤ 4611686018427387904 → x.drop i = marksB c (x.drop i) →
    Ev (fun k => laws_heldByteS.l0 k x c (i : Int)) (c + d)
  | 0, x, c, i, hl, hi, hc, hc1, hm => by
    refine Ev.step (f := fun _ => some c) (fun k => ?_) (Ev.const (by simp))
    simp only [laws_heldByteS.l0]
    rw [if_neg (by omega)]
  | d + 1, x, c, i, hl, hi, hc, hc1, hm => by
    have e3 : x.drop i = x[i]'(by omega) :: x.drop (i + 1) := List.drop_eq_getElem_cons (by omega)
    rw [e3] at hm
    simp only [marksB, List.cons.injEq] at hm
    have ih := heldByteS_l0 d x (c + 1) (i + 1) hl (by omega) (by omega) (by omega) hm.2
    have e4 : c + ((d + 1 : Nat) : Int) = c + 1 + (d : Int) := by omega
    rw [e4]
    refine Ev.step (fun k => ?_) ih
    simp only [laws_heldByteS.l0]
    rw [if_pos (by omega), if_pos (by omega), if_pos (by rw [rd_get x i (by omega)]; exact hm.1), wrap64_id (by omega) (by omega), wrap64_id (by omega) (by omega)]
    simp
theorem heldByteS_ev (x : List Int) (c : Int) (hl : x.length ≤ 140737488355328) (hc : 0 ≤ c) (hc1 : c + x.length ≤ 4611686018427387904) : Ev (fun k => laws_heldByteS.f k (marksB c x) c) (c + x.length) := by
  have := heldByteS_l0 x.length (marksB c x) c 0 (by rw [marksB_length]; exact hl) (by rw [marksB_length]; omega) hc hc1 (by simp [marksB_again])
  simpa [laws_heldByteS.f] using this

def marksI : Int → List Int → List Int
  | _, [] => []
  | c, _ :: r => c :: marksI (c + 1) r
theorem marksI_length : ∀ (c : Int) (l : List Int), (marksI c l).length = l.length
  | _, [] => rfl
  | c, _ :: r => by simp [marksI, marksI_length (c + 1) r]
theorem marksI_again : ∀ (c : Int) (l : List Int), marksI c (marksI c l) = marksI c l
  | _, [] => rfl
  | c, _ :: r => by simp [marksI, marksI_again (c + 1) r]
theorem markIntS_l0 : ∀ (d : Nat) (x : List Int) (c : Int) (i : Nat), x.length ≤ 140737488355328 → i + d = x.length → 0 ≤ c → c + d ≤ 4611686018427387904 →
    Ev (fun k => laws_markIntS.l0 k x c (i : Int)) (c + d, x.take i ++ marksI c (x.drop i))
  | 0, x, c, i, hl, hi, hc, hc1 => by
    refine Ev.step (f := fun _ => some (c, x)) (fun k => ?_) (Ev.const ?_)
    · simp only [laws_markIntS.l0]
      rw [if_neg (by omega)]
    · rw [List.take_of_length_le (by omega), List.drop_of_length_le (by omega)]
      simp [marksI]
  | d + 1, x, c, i, hl, hi, hc, hc1 => by
    have ih := markIntS_l0 d (x.set i (c)) (c + 1) (i + 1) (by simpa using hl) (by simp; omega) (by omega) (by omega)
    have e1 : (x.set i (c)).take (i + 1) = x.take i ++ [c] := by
      rw [List.take_succ_eq_append_getElem (by simp; omega), List.take_set_of_le (by omega)]; simp
    have e2 : (x.set i (c)).drop (i + 1) = x.drop (i + 1) := by rw [List.drop_set]; simp
    have e3 : x.drop i = x[i]'(by omega) :: x.drop (i + 1) := List.drop_eq_getElem_cons (by omega)
    rw [e1, e2] at ih
    have e4 : (c + ((d + 1 : Nat) : Int), x.take i ++ marksI c (x.drop i)) = (c + 1 + (d : Int), x.take i ++ [c] ++ marksI (c + 1) (x.drop (i + 1))) := by
      rw [e3]; simp [marksI]; omega
    rw [e4]
    refine Ev.step (fun k => ?_) ih
    simp only [laws_markIntS.l0]
    rw [if_pos (by omega), if_pos (by omega), wrap64_id (by omega) (by omega), wrap64_id (by omega) (by omega)]
    simp
theorem markIntS_ev (x : List Int) (c : Int) (hl : x.length ≤ 140737488355328) (hc : 0 ≤ c) (hc1 : c + x.length ≤ 4611686018427387904) : Ev (fun k => laws_markIntS.f k x c) (c + x.length, marksI c x) := by
  have := markIntS_l0 x.length x c 0 hl (by omega) hc hc1
  simpa [laws_markIntS.f] using this
theorem heldIntS_l0 : ∀ (d : Nat) (x : List Int) (c : Int) (i : Nat), x.length ≤ 140737488355328 → i + d = x.length → 0 ≤ c → c + d ≤ 4611686018427387904 → x.drop i = marksI c (x.drop i) →
    Ev (fun k => laws_heldIntS.l0 k x c (i : Int)) (c + d)
  | 0, x, c, i, hl, hi, hc, hc1, hm => by
    refine Ev.step (f := fun _ => some c) (fun k => ?_) (Ev.const (by simp))
    simp only [laws_heldIntS.l0]
    rw [if_neg (by omega)]
  | d + 1, x, c, i, hl, hi, hc, hc1, hm => by
    have e3 : x.drop i = x[i]'(by omega) :: x.drop (i + 1) := List.drop_eq_getElem_cons (by omega)
    rw [e3] at hm
    simp only [marksI, List.cons.injEq] at hm
    have ih := heldIntS_l0 d x (c + 1) (i + 1) hl (by omega) (by omega) (by omega) hm.2
    have e4 : c + ((d + 1 : Nat) : Int) = c + 1 + (d : Int) := by omega
    rw [e4]
    refine Ev.step (fun k => ?_) ih
    simp only [laws_heldIntS.l0]
    rw [if_pos (by omega), if_pos (by omega), if_pos (by rw [rd_get x i (by omega)]; exact hm.1), wrap64_id (by omega) (by omega), wrap64_id (by omega) (by omega)]
    simp
theorem heldIntS_ev (x : List Int) (c : Int) (hl : x.length ≤ 140737488355328) (hc : 0 ≤ c) (hc1 : c + x.length ≤ 4611686018427387904) : Ev (fun k => laws_heldIntS.f k (marksI c x) c) (c + x.length) := by
  have := heldIntS_l0 x.length (marksI c x) c 0 (by rw [marksI_length]; exact hl) (by rw [marksI_length]; omega) hc hc1 (by simp [marksI_again])
  simpa [laws_heldIntS.f] using this

def badWord (x : Int) : Bool := !decide (0 ≤ x ∧ x ≤ 4294967295)
def sumOkP (w : List Int) (c : Int) (r : List Int) : Prop := w.length = 8 ∧ w.any badWord = false ∧ 0 ≤ c ∧ c ≤ 2147483647 ∧ (r.length : Int) = c % 64
instance (w : List Int) (c : Int) (r : List Int) : Decidable (sumOkP w c r) := by unfold sumOkP; infer_instance

theorem eqSum_ev (w : List Int) (c : Int) (r : List Int) (hw : w.length ≤ 17592186044416) (hr : r.length ≤ 140737488351232) : Ev (fun k => laws_eqSum.f k w c r w c r) true := by
  unfold laws_eqSum.f
  exact Ev.bind (eqIntS_ev w (by omega)) (Ev.ifT rfl (Ev.ifT rfl (Ev.bind (eqByteS_ev r hr) (Ev.ifT rfl (Ev.now _)))))

theorem markSum_ev (w : List Int) (c : Int) (r : List Int) (m : Int) (hw : w.length ≤ 17592186044416) (hr : r.length ≤ 140737488351232) (hm : 0 ≤ m) (hm1 : m ≤ 1000000000000000000) :
    Ev (fun k => laws_markSum.f k w c r m) (m + w.length + r.length, marksI m w, marksB (m + w.length) r) := by
  unfold laws_markSum.f
  exact Ev.bind (markIntS_ev w m (by omega) hm (by omega)) (Ev.bind (markByteS_ev r (m + w.length) (by omega) (by omega) (by omega)) (Ev.now _))
theorem heldSum_ev (w : List Int) (c : Int) (r : List Int) (m : Int) (hw : w.length ≤ 17592186044416) (hr : r.length ≤ 140737488351232) (hm : 0 ≤ m) (hm1 : m ≤ 1000000000000000000) :
    Ev (fun k => laws_heldSum.f k (marksI m w) c (marksB (m + w.length) r) m) (m + w.length + r.length) := by
  unfold laws_heldSum.f
  exact Ev.bind (heldIntS_ev w m (by omega) hm (by omega)) (Ev.ifF (by omega) (Ev.bind (heldByteS_ev r (m + w.length) (by omega) (by omega) (by omega)) (Ev.ifF (by omega) (Ev.now _))))

theorem indexFunc_SumOk_l0 (p : Int → Bool) (l : List Int) (hl : l.length ≤ 140737488351232) (hp : ∀ x ∈ l, impl_SumOk_1.f x = some (p x)) : ∀ (d i : Nat), i + d = l.length → ∃ r : Int, decide (r ≥ 0) = (l.drop i).any p ∧ Ev (fun k => slices_IndexFunc_int_int_of_impl_SumOk_1.l0 k l (l.length : Int) (i : Int)) r
  | 0, i, hi => by
    refine ⟨-1, by rw [List.drop_of_length_le (by omega)]; rfl, Ev.step (f := fun _ => some (-1)) (fun k => ?_) (Ev.now _)⟩
    simp only [slices_IndexFunc_int_int_of_impl_SumOk_1.l0]
    rw [if_neg (by omega)]
  | d + 1, i, hi => by
    obtain ⟨r, h1, h2⟩ := indexFunc_SumOk_l0 p l hl hp d (i + 1) (by omega)
    have e3 : l.drop i = l[i]'(by omega) :: l.drop (i + 1) := List.drop_eq_getElem_cons (by omega)
    have hx := hp (l[i]'(by omega)) (List.getElem_mem _)
    have g1 : (i : Int) < (l.length : Int) := by omega
    have g2 : (0 : Int) ≤ (i : Int) := by omega
    have er := rd_get l i (by omega)
    by_cases hb : p (l[i]'(by omega)) = true
    · refine ⟨(i : Int), ?_, Ev.step (f := fun _ => some (i : Int)) (fun k => ?_) (Ev.now _)⟩
      · rw [e3, List.any_cons, hb, Bool.true_or, decide_eq_true_eq]; omega
      · simp only [slices_IndexFunc_int_int_of_impl_SumOk_1.l0]
        rw [if_pos g1, if_pos g2, if_pos g1, er, hx]
        simp only [Option.bind_some]
        rw [if_pos hb]
    · refine ⟨r, ?_, Ev.step (fun k => ?_) h2⟩
      · rw [h1, e3, List.any_cons, Bool.eq_false_iff.2 hb, Bool.false_or]
      · simp only [slices_IndexFunc_int_int_of_impl_SumOk_1.l0]
        rw [if_pos g1, if_pos g2, if_pos g1, er, hx]
        simp only [Option.bind_some]
        rw [if_neg hb, wrap64_succ (by omega)]
theorem containsFunc_SumOk (p : Int → Bool) (l : List Int) (hl : l.length ≤ 140737488351232) (hp : ∀ x ∈ l, impl_SumOk_1.f x = some (p x)) (z : Nat) : Ev (fun k => slices_ContainsFunc_int_int_of_impl_SumOk_1.f k l z) (l.any p) := by
  obtain ⟨r, h1, h2⟩ := indexFunc_SumOk_l0 p l hl hp l.length 0 (by omega)
  unfold slices_ContainsFunc_int_int_of_impl_SumOk_1.f slices_IndexFunc_int_int_of_impl_SumOk_1.f
  refine Ev.bind h2 (Ev.const ?_)
  rw [h1]; rfl

theorem specSum_l0 (w : List Int) (c : Int) (r : List Int) (hw : w.length = 8) : ∀ (d i : Nat), i + d = 8 → Ev (fun k => spec_SumOk.l0 k (i : Int) w c r) (!(w.drop i).any badWord)
  | 0, i, hi => by
    refine Ev.step (f := fun _ => some true) (fun k => ?_) (Ev.const (by rw [List.drop_of_length_le (by omega)]; rfl))
    simp only [spec_SumOk.l0]
    rw [if_neg (by omega)]
  | d + 1, i, hi => by
    have ih := specSum_l0 w c r hw d (i + 1) (by omega)
    have e3 : w.drop i = w[i]'(by omega) :: w.drop (i + 1) := List.drop_eq_getElem_cons (by omega)
    have g0 : (i : Int) < 8 := by omega
    have g1 : (i : Int) < (w.length : Int) := by omega
    have g2 : (0 : Int) ≤ (i : Int) := by omega
    rw [e3, List.any_cons]
    by_cases hb : 0 ≤ w[i]'(by omega) ∧ w[i]'(by omega) ≤ 4294967295
    · rw [show badWord (w[i]'(by omega)) = false by unfold badWord; rw [decide_eq_true hb]; rfl, Bool.false_or]
      refine Ev.step (fun k => ?_) ih
      simp only [spec_SumOk.l0]
      rw [if_pos g0, if_pos g2, if_pos g1, rd_get w i (by omega), l1In_tell]
      simp only [Option.bind_some]
      rw [if_pos (decide_eq_true hb), wrap64_succ (by omega)]
    · rw [show badWord (w[i]'(by omega)) = true by unfold badWord; rw [decide_eq_false hb]; rfl, Bool.true_or, Bool.not_true]
      refine Ev.step (f := fun _ => some false) (fun k => ?_) (Ev.now _)
      simp only [spec_SumOk.l0]
      rw [if_pos g0, if_pos g2, if_pos g1, rd_get w i (by omega), l1In_tell]
      simp only [Option.bind_some]
      rw [if_neg (by rw [decide_eq_true_eq]; exact hb)]
theorem specSumOk_ev (w : List Int) (c : Int) (r : List Int) : Ev (fun k => spec_SumOk.f k w c r) (decide (sumOkP w c r)) := by
  unfold spec_SumOk.f
  rw [l1In_tell]
  simp only [Option.bind_some]
  have bad : ¬ sumOkP w c r → Ev (fun k => spec_SumOk.j0 k true w c r) (decide (sumOkP w c r)) := fun h => by
    rw [decide_eq_false h]
    exact Ev.step (f := fun _ => some false) (fun k => by simp [spec_SumOk.j0]) (Ev.now _)
  by_cases h : (w.length : Int) = 8
  · refine Ev.ifT h ?_
    by_cases h2 : 0 ≤ c ∧ c ≤ 2147483647
    · refine Ev.ifT (decide_eq_true h2) ?_
      rw [Int.tmod_eq_emod_of_nonneg h2.1]
      by_cases h3 : (r.length : Int) = c % 64
      · rw [show ((r.length : Int) != c % 64) = false by simp [h3]]
        have e := specSum_l0 w c r (by omega) 8 0 (by omega)
        have e2 : decide (sumOkP w c r) = !(w.drop 0).any badWord := by
          rw [Bool.eq_iff_iff, decide_eq_true_eq, Bool.not_eq_true', List.drop_zero]
          unfold sumOkP
          constructor
          · intro q; exact q.2.1
          · intro q; exact ⟨by omega, q, h2.1, h2.2, h3⟩
        rw [e2]
        exact Ev.step (fun k => by simp [spec_SumOk.j0]) e
      · rw [show ((r.length : Int) != c % 64) = true by simp [h3]]
        exact bad (fun q => h3 q.2.2.2.2)
    · exact Ev.ifF (by rw [decide_eq_true_eq]; exact h2) (bad (fun q => h2 ⟨q.2.2.1, q.2.2.2.1⟩))
  · exact Ev.ifF h (bad (fun q => h (by have := q.1; omega)))

theorem implSumBad_tell (x : Int) : impl_SumOk_1.f x = some (badWord x) := by
  unfold impl_SumOk_1.f badWord
  rw [in_tell]; rfl
theorem implSumOk_ev (w : List Int) (c : Int) (r : List Int) : Ev (fun k => impl_SumOk.f k w c r) (decide (sumOkP w c r)) := by
  unfold impl_SumOk.f
  by_cases h : (w.length : Int) = 8
  · refine Ev.ifT h (Ev.bind (containsFunc_SumOk badWord w (by omega) (fun x _ => implSumBad_tell x) 0) ?_)
    by_cases hany : w.any badWord = true
    · rw [decide_eq_false (fun q : sumOkP w c r => by have := q.2.1; rw [hany] at this; cases this)]
      exact Ev.ifT hany (Ev.now _)
    · refine Ev.ifF hany (Ev.bindc (in_tell _ _ _) ?_)
      by_cases h2 : 0 ≤ c ∧ c ≤ 2147483647
      · refine Ev.ifT (decide_eq_true h2) (Ev.const ?_)
        rw [Int.tmod_eq_emod_of_nonneg h2.1]
        congr 1
        rw [Bool.eq_iff_iff, decide_eq_true_eq, beq_iff_eq]
        unfold sumOkP
        constructor
        · intro q; exact ⟨by omega, Bool.eq_false_iff.2 hany, h2.1, h2.2, q⟩
        · intro q; exact q.2.2.2.2
      · rw [decide_eq_false (fun q : sumOkP w c r => h2 ⟨q.2.2.1, q.2.2.2.1⟩)]
        exact Ev.ifF (by rw [decide_eq_true_eq]; exact h2) (Ev.now _)
  · rw [decide_eq_false (fun q : sumOkP w c r => h (by have := q.1; omega))]
    exact Ev.ifF h (Ev.now _)

def wordBytes (v : Int) : List Int := [v % 256, v / 256 % 256, v / 65536 % 256, v / 16777216 % 256]
theorem wordBytes_u8 (v : Int) : ∀ x ∈ wordBytes v, 0 ≤ x ∧ x < 256 := by
  intro x hx
  simp only [wordBytes, List.mem_cons, List.mem_nil_iff, or_false] at hx
  omega

theorem specPutWord_ev (v : Int) : Ev (fun k => spec_PutWord.f k v) (wordBytes v) := by
  have e : Go.bits .and .i64 v 4294967295 = v % 4294967296 := and_mask 32 (by decide) v
  have go : ∀ (x : Int) (l : List Int) (i : Nat), 0 ≤ x → x < 4294967296 → l.length < 5 → (i : Int) < 4 → ∀ r, Ev (fun k => spec_PutWord.l0 k (x / 256) (l ++ [x % 256]) ((i + 1 : Nat) : Int)) r → Ev (fun k => spec_PutWord.l0 k x l (i : Int)) r := by
    intro x l i h0 h1 hl hi r h
    refine Ev.step (fun k => ?_) h
    simp only [spec_PutWord.l0]
    rw [if_pos hi, if_pos (by omega), Int.tdiv_eq_ediv_of_nonneg h0, Int.tmod_eq_emod_of_nonneg h0, wrap64_id (by omega) (by omega), wrap64_id (by omega) (by omega), show x % 256 % 256 = x % 256 by omega]
    simp
  unfold spec_PutWord.f
  rw [e]
  have h0 : 0 ≤ v % 4294967296 := by omega
  have h1 : v % 4294967296 < 4294967296 := by omega
  have last : ∀ x l, Ev (fun k => spec_PutWord.l0 k x l ((4 : Nat) : Int)) l := by
    intro x l
    refine Ev.step (f := fun _ => some l) (fun k => ?_) (Ev.now _)
    simp only [spec_PutWord.l0]
    rw [if_neg (by omega)]
  have f := go (v % 4294967296) [] 0 h0 h1 (by simp) (by omega) _ (go _ _ 1 (by omega) (by omega) (by simp) (by omega) _ (go _ _ 2 (by omega) (by omega) (by simp) (by omega) _ (go _ _ 3 (by omega) (by omega) (by simp) (by omega) _ (last _ _))))
  have g : wordBytes v = ((([] ++ [v % 4294967296 % 256]) ++ [v % 4294967296 / 256 % 256]) ++ [v % 4294967296 / 256 / 256 % 256]) ++ [v % 4294967296 / 256 / 256 / 256 % 256] := by
    simp only [wordBytes, List.nil_append, List.cons_append, List.cons.injEq, and_true]
    omega
  rw [g]
  exact f

theorem implPutWord_tell (v : Int) : impl_PutWord.f v = some (wordBytes v) := rfl

def wordsBytes : List Int → List Int
  | [] => []
  | x :: r => wordBytes x ++ wordsBytes r
theorem wordBytes_len (x : Int) : (wordBytes x).length = 4 := rfl
theorem wordsBytes_len : ∀ l : List Int, (wordsBytes l).length = 4 * l.length
  | [] => rfl
  | x :: r => by simp [wordsBytes, wordsBytes_len r, wordBytes_len]; omega
def sumBytes (w : List Int) (c : Int) (r : List Int) : List Int := if sumOkP w c r then wordsBytes w ++ wordBytes c ++ r ++ List.replicate (64 - r.length) 0 else []
theorem specPutSum_l1 : ∀ (d : Nat) (o : List Int), o.length + d = 100 → Ev (fun k => spec_PutSum.l1 k o) (o ++ List.replicate d 0)
  | 0, o, h => by
    rw [List.replicate_zero, List.append_nil]
    refine Ev.step (f := fun _ => some o) (fun k => ?_) (Ev.now _)
    simp only [spec_PutSum.l1]
    rw [if_neg (by omega)]
  | d + 1, o, h => by
    have ih := specPutSum_l1 d (o ++ [0]) (by simp; omega)
    rw [List.append_assoc, List.singleton_append, ← List.replicate_succ] at ih
    refine Ev.step (fun k => ?_) ih
    simp only [spec_PutSum.l1]
    rw [if_pos (by omega), if_pos (by omega)]
theorem specPutSum_l0 (w : List Int) (c : Int) (r : List Int) (hw : w.length = 8) (hr : r.length ≤ 63) : ∀ (d i : Nat) (o : List Int), i + d = 8 → o.length = 4 * i → Ev (fun k => spec_PutSum.l0 k o (i : Int) w c r) (o ++ wordsBytes (w.drop i) ++ wordBytes c ++ r ++ List.replicate (64 - r.length) 0)
  | 0, i, o, hi, ho => by
    rw [List.drop_of_length_le (by omega)]
    simp only [wordsBytes, List.append_nil]
    have e := specPutSum_l1 (64 - r.length) (o ++ wordBytes c ++ r) (by simp [wordBytes_len]; omega)
    refine Ev.step (fun _ => spec_PutSum.l0.eq_2 _ _ _ _ _ _) (Ev.ifF (by omega) (Ev.bind (specPutWord_ev c) (Ev.ifT (by rw [wordBytes_len]; omega) ?_)))
    simp only [Option.bind_some]
    exact Ev.ifT (by simp [wordBytes_len]; omega) e
  | d + 1, i, o, hi, ho => by
    have e3 : w.drop i = w[i]'(by omega) :: w.drop (i + 1) := List.drop_eq_getElem_cons (by omega)
    have ih := specPutSum_l0 w c r hw hr d (i + 1) (o ++ wordBytes (w[i]'(by omega))) (by omega) (by simp [wordBytes_len]; omega)
    rw [e3]
    simp only [wordsBytes]
    rw [← List.append_assoc o]
    refine Ev.step (fun _ => spec_PutSum.l0.eq_2 _ _ _ _ _ _) (Ev.ifT (by omega) (Ev.ifT (by omega) (Ev.ifT (by omega) (Ev.bind (specPutWord_ev _) (Ev.ifT (by rw [wordBytes_len]; omega) ?_)))))
    rw [rd_get w i (by omega), wrap64_succ (by omega)]
    exact ih
theorem specPutSum_ev (w : List Int) (c : Int) (r : List Int) : Ev (fun k => spec_PutSum.f k w c r) (sumBytes w c r) := by
  unfold spec_PutSum.f sumBytes
  simp only [Option.bind_some]
  refine Ev.bind (specSumOk_ev w c r) ?_
  by_cases h : sumOkP w c r
  · rw [if_pos h]
    have e := specPutSum_l0 w c r h.1 (by have := h.2.2.2.2; omega) 8 0 [] (by omega) rfl
    exact Ev.ifT (decide_eq_true h) e
  · rw [if_neg h]
    exact Ev.ifF (by simpa using h) (Ev.now _)
theorem padded_tell (r : List Int) (hr : r.length ≤ 63) : impl_padded.f r 64 = some (r ++ List.replicate (64 - r.length) 0) := by
  unfold impl_padded.f slices_Clone_byte_byte.f
  simp only [Option.bind_some, List.nil_append, List.length_nil, Nat.zero_add]
  have w1 : wrap64 (64 - (r.length : Int)) = ((64 - r.length : Nat) : Int) := by rw [wrap64_id (by omega) (by omega)]; omega
  rw [w1, Int.toNat_natCast]
  clear w1
  rw [if_pos (by omega)]
  simp only [Option.bind_some]
  rw [if_pos (by omega), if_pos (by omega)]
theorem implPutSum_l0 (w : List Int) (c : Int) (r : List Int) (hw : w.length = 8) (hr : r.length ≤ 63) : ∀ (d i : Nat) (o : List Int), i + d = 8 → o.length = 4 * i → Ev (fun k => impl_PutSum.l0 k o w (w.length : Int) (i : Int) w c r) (o ++ wordsBytes (w.drop i) ++ wordBytes c ++ r ++ List.replicate (64 - r.length) 0)
  | 0, i, o, hi, ho => by
    rw [List.drop_of_length_le (by omega)]
    simp only [wordsBytes, List.append_nil]
    refine Ev.step (fun _ => impl_PutSum.l0.eq_2 _ _ _ _ _ _ _ _) (Ev.ifF (by omega) ?_)
    rw [implPutWord_tell]
    simp only [Option.bind_some]
    refine Ev.ifT (by rw [wordBytes_len]; omega) ?_
    rw [padded_tell r hr]
    simp only [Option.bind_some]
    refine Ev.ifT (by simp [wordBytes_len]; omega) ?_
    rw [← List.append_assoc (o ++ wordBytes c)]
    exact Ev.now _
  | d + 1, i, o, hi, ho => by
    have e3 : w.drop i = w[i]'(by omega) :: w.drop (i + 1) := List.drop_eq_getElem_cons (by omega)
    have ih := implPutSum_l0 w c r hw hr d (i + 1) (o ++ wordBytes (w[i]'(by omega))) (by omega) (by simp [wordBytes_len]; omega)
    rw [e3]
    simp only [wordsBytes]
    rw [← List.append_assoc o]
    refine Ev.step (fun _ => impl_PutSum.l0.eq_2 _ _ _ _ _ _ _ _) (Ev.ifT (by omega) (Ev.ifT (by omega) (Ev.ifT (by omega) ?_)))
    rw [implPutWord_tell, rd_get w i (by omega), wrap64_succ (by omega)]
    simp only [Option.bind_some]
    exact Ev.ifT (by rw [wordBytes_len]; omega) ih
theorem implPutSum_ev (w : List Int) (c : Int) (r : List Int) : Ev (fun k => impl_PutSum.f k w c r) (sumBytes w c r) := by
  unfold impl_PutSum.f sumBytes
  refine Ev.bind (implSumOk_ev w c r) ?_
  by_cases h : sumOkP w c r
  · rw [if_pos h]
    have e := implPutSum_l0 w c r h.1 (by have := h.2.2.2.2; omega) 8 0 [] (by omega) rfl
    exact Ev.ifT (decide_eq_true h) e
  · rw [if_neg h]
    exact Ev.ifF (by simpa using h) (Ev.now _)
theorem sumBytes_len (w : List Int) (c : Int) (r : List Int) : (sumBytes w c r).length ≤ 100 := by
  unfold sumBytes
  split
  · rename_i h
    have := h.1
    have := h.2.2.2.2
    simp [wordsBytes_len, wordBytes_len]
    omega
  · simp

theorem wf_all_u8 {l : List Int} (h : ∀ x ∈ l, (Lit.int .u8 x).wf = true) : ∀ x ∈ l, 0 ≤ x ∧ x < 256 := fun x hx => wf_u8 (h x hx)
theorem wf_all_i64 {l : List Int} (h : ∀ x ∈ l, (Lit.int .i64 x).wf = true) : ∀ x ∈ l, -9223372036854775808 ≤ x ∧ x < 9223372036854775808 := fun x hx => wf_i64 (h x hx)

theorem ofNat_inj {x y : Int} (hx : 0 ≤ x ∧ x < 256) (hy : 0 ≤ y ∧ y < 256) (h : UInt8.ofNat x.toNat = UInt8.ofNat y.toNat) : x = y := by
  have := congrArg UInt8.toNat h
  rw [UInt8.toNat_ofNat', UInt8.toNat_ofNat'] at this
  omega
theorem bytesOf_inj : ∀ {a b : List Int}, (∀ x ∈ a, 0 ≤ x ∧ x < 256) → (∀ x ∈ b, 0 ≤ x ∧ x < 256) → (strOfNums a).data.toList = (strOfNums b).data.toList → a = b
  | [], [], _, _, _ => rfl
  | [], _ :: _, _, _, h => by simp [strOfNums] at h
  | _ :: _, [], _, _, h => by simp [strOfNums] at h
  | x :: a, y :: b, ha, hb, h => by
    simp only [strOfNums, List.map_cons, List.cons.injEq] at h
    rw [ofNat_inj (ha x (by simp)) (hb y (by simp)) h.1, bytesOf_inj (fun z hz => ha z (by simp [hz])) (fun z hz => hb z (by simp [hz])) h.2]
theorem strs_eq {a b : List Int} (ha : ∀ x ∈ a, 0 ≤ x ∧ x < 256) (hb : ∀ x ∈ b, 0 ≤ x ∧ x < 256) : ((strOfNums a).toList == (strOfNums b).toList) = decide (a = b) := by
  rw [Bool.eq_iff_iff, beq_iff_eq, decide_eq_true_eq]
  constructor
  · intro h
    apply bytesOf_inj ha hb
    rw [Lib.strOfNums_toList, Lib.strOfNums_toList] at h
    exact h
  · intro h; rw [h]

theorem specSame_l0 (a b : List Int) (hab : a.length = b.length) (hl : a.length ≤ 140737488355328) : ∀ (d : Nat) (i : Nat), i + d = a.length → Ev (fun k => spec_Same.l0 k a b (i : Int)) (decide (a.drop i = b.drop i))
  | 0, i, hi => by
    refine Ev.step (f := fun _ => some true) (fun k => ?_) (Ev.const ?_)
    · simp only [spec_Same.l0]
      rw [if_neg (by omega)]
    · rw [List.drop_of_length_le (by omega), List.drop_of_length_le (by omega)]; simp
  | d + 1, i, hi => by
    have ih := specSame_l0 a b hab hl d (i + 1) (by omega)
    have e1 : a.drop i = a[i]'(by omega) :: a.drop (i + 1) := List.drop_eq_getElem_cons (by omega)
    have e2 : b.drop i = b[i]'(by omega) :: b.drop (i + 1) := List.drop_eq_getElem_cons (by omega)
    by_cases e : a[i]'(by omega) = b[i]'(by omega)
    · have e3 : decide (a.drop i = b.drop i) = decide (a.drop (i + 1) = b.drop (i + 1)) := by
        rw [e1, e2, e, Bool.eq_iff_iff]; simp only [decide_eq_true_eq, List.cons.injEq, true_and]
      rw [e3]
      refine Ev.step (fun k => ?_) ih
      simp only [spec_Same.l0]
      rw [if_pos (by omega), if_pos (by omega), if_pos (by omega), if_pos (by rw [rd_get a i (by omega), rd_get b i (by omega)]; exact e), wrap64_id (by omega) (by omega)]
      simp
    · have e3 : decide (a.drop i = b.drop i) = false := by
        rw [e1, e2, decide_eq_false_iff_not]; simp only [List.cons.injEq, e, false_and, not_false_eq_true]
      rw [e3]
      refine Ev.step (f := fun _ => some false) (fun k => ?_) (Ev.now _)
      simp only [spec_Same.l0]
      rw [if_pos (by omega), if_pos (by omega), if_pos (by omega), if_neg (by rw [rd_get a i (by omega), rd_get b i (by omega)]; exact e)]
theorem specSame_tell (a b : List Int) (hl : a.length ≤ 140737488355328) : Ev (fun k => spec_Same.f k a b) (decide (a = b)) := by
  by_cases h : a.length = b.length
  · refine Ev.congr (fun k => ?_) (specSame_l0 a b h hl a.length 0 (by simp))
    simp only [spec_Same.f]
    rw [if_pos (by omega)]; simp
  · refine Ev.congr (f := fun _ => some false) (fun k => ?_) (Ev.const ?_)
    · simp only [spec_Same.f]
      rw [if_neg (by omega)]
    · have : a ≠ b := fun e => h (by rw [e])
      simp [this]

theorem xor_u32 {a b : Int} (ha : 0 ≤ a ∧ a < 4294967296) (hb : 0 ≤ b ∧ b < 4294967296) : 0 ≤ Go.bits .xor .i64 a b ∧ Go.bits .xor .i64 a b < 4294967296 := by
  obtain ⟨a, rfl⟩ := Int.eq_ofNat_of_zero_le ha.1
  obtain ⟨b, rfl⟩ := Int.eq_ofNat_of_zero_le hb.1
  rw [xor_i64 a b (by omega) (by omega)]
  have := Nat.xor_lt_two_pow (n := 32) (x := a) (y := b) (by omega) (by omega)
  omega
/-- One bit of the sum of bytes. -/
def crcBit (x : Int) : Int := if x % 2 = 1 then Go.bits .xor .i64 (x / 2) 3988292384 else x / 2
def crcBits : Nat → Int → Int
  | 0, x => x
  | n + 1, x => crcBits n (crcBit x)
def crcFold : Int → List Int → Int
  | x, [] => x
  | x, v :: r => crcFold (crcBits 8 (Go.bits .xor .i64 x v)) r
def crcOf (l : List Int) : Int := Go.bits .xor .i64 (crcFold 4294967295 l) 4294967295
theorem crcBit_u32 {x : Int} (h : 0 ≤ x ∧ x < 4294967296) : 0 ≤ crcBit x ∧ crcBit x < 4294967296 := by
  unfold crcBit
  split
  · exact xor_u32 (by omega) (by omega)
  · omega
theorem crcBits_u32 : ∀ (n : Nat) {x : Int}, 0 ≤ x ∧ x < 4294967296 → 0 ≤ crcBits n x ∧ crcBits n x < 4294967296
  | 0, _, h => h
  | n + 1, _, h => crcBits_u32 n (crcBit_u32 h)

/-- A word's value, where its four bytes are there. -/
theorem word_tell (l : List Int) (a : Nat) (h : ∀ i, 0 ≤ rd l i ∧ rd l i < 256) (hl : l.length ≤ 1048576) (ha : a + 4 ≤ l.length) :
    impl_Word.f l (a : Int) = some (rd l a + rd l (a + 1) * 256 + rd l (a + 2) * 65536 + rd l (a + 3) * 16777216, true) := by
  unfold impl_Word.f impl_in.f
  rw [wrap64_id (n := (l.length : Int) - 4) (by omega) (by omega)]
  rw [wrap64_id (n := (a : Int) + 1) (by omega) (by omega), wrap64_id (n := (a : Int) + 2) (by omega) (by omega), wrap64_id (n := (a : Int) + 3) (by omega) (by omega)]
  have b0 := h a
  have b1 := h (a + 1)
  have b2 := h (a + 2)
  have b3 := h (a + 3)
  rw [if_pos (by omega)]
  simp only [Option.bind_some]
  rw [if_pos (by simp; omega)]
  repeat rw [if_pos (by omega)]
  generalize rd l a = x0 at *
  generalize rd l (a + 1) = x1 at *
  generalize rd l (a + 2) = x2 at *
  generalize rd l (a + 3) = x3 at *
  rw [wrap64_id (n := x0) (by omega) (by omega), wrap64_id (n := x1) (by omega) (by omega), wrap64_id (n := x2) (by omega) (by omega), wrap64_id (n := x3) (by omega) (by omega)]
  rw [wrap64_id (n := x1 * 256) (by omega) (by omega), wrap64_id (n := x2 * 65536) (by omega) (by omega), wrap64_id (n := x3 * 16777216) (by omega) (by omega)]
  rw [or_low (x := x0) (y := x1 * 256) 8 (by omega) (by omega) (by omega) (by omega) (by omega) (by omega)]
  rw [or_low (x := x0 + x1 * 256) (y := x2 * 65536) 16 (by omega) (by omega) (by omega) (by omega) (by omega) (by omega)]
  rw [or_low (x := x0 + x1 * 256 + x2 * 65536) (y := x3 * 16777216) 24 (by omega) (by omega) (by omega) (by omega) (by omega) (by omega)]
theorem crcFold_u32 : ∀ (l : List Int) (x : Int), (∀ z ∈ l, 0 ≤ z ∧ z < 256) → 0 ≤ x ∧ x < 4294967296 → 0 ≤ crcFold x l ∧ crcFold x l < 4294967296
  | [], _, _, h => h
  | v :: r, x, h8, h => crcFold_u32 r _ (fun z hz => h8 z (by simp [hz])) (crcBits_u32 8 (xor_u32 h (by have := h8 v (by simp); omega)))
theorem crcOf_u32 (l : List Int) (h8 : ∀ z ∈ l, 0 ≤ z ∧ z < 256) : 0 ≤ crcOf l ∧ crcOf l < 4294967296 := xor_u32 (crcFold_u32 l _ h8 (by decide)) (by decide)

def wordAt (l : List Int) (a : Nat) : Int := rd l a + rd l (a + 1) * 256 + rd l (a + 2) * 65536 + rd l (a + 3) * 16777216
theorem specWord_tell (l : List Int) (a : Nat) (h : ∀ i, 0 ≤ rd l i ∧ rd l i < 256) (hl : l.length ≤ 1048576) (ha : a + 4 ≤ l.length) : spec_Word.f l (a : Int) = some (wordAt l a, true) := by
  unfold spec_Word.f wordAt
  rw [wrap64_id (n := (l.length : Int) - 4) (by omega) (by omega)]
  rw [wrap64_id (n := (a : Int) + 1) (by omega) (by omega), wrap64_id (n := (a : Int) + 2) (by omega) (by omega), wrap64_id (n := (a : Int) + 3) (by omega) (by omega)]
  have b0 := h a
  have b1 := h (a + 1)
  have b2 := h (a + 2)
  have b3 := h (a + 3)
  rw [if_neg (by omega), if_neg (by omega)]
  repeat rw [if_pos (by omega)]
  generalize rd l a = x0 at *
  generalize rd l (a + 1) = x1 at *
  generalize rd l (a + 2) = x2 at *
  generalize rd l (a + 3) = x3 at *
  rw [wrap64_id (n := x0) (by omega) (by omega), wrap64_id (n := x1) (by omega) (by omega), wrap64_id (n := x2) (by omega) (by omega), wrap64_id (n := x3) (by omega) (by omega)]
  rw [wrap64_id (n := 256 * x1) (by omega) (by omega), wrap64_id (n := 65536 * x2) (by omega) (by omega), wrap64_id (n := 16777216 * x3) (by omega) (by omega)]
  rw [wrap64_id (n := x0 + 256 * x1) (by omega) (by omega), wrap64_id (n := x0 + 256 * x1 + 65536 * x2) (by omega) (by omega), wrap64_id (n := x0 + 256 * x1 + 65536 * x2 + 16777216 * x3) (by omega) (by omega)]
  congr 2
  omega
theorem wordAt_u32 (l : List Int) (a : Nat) (h : ∀ i, 0 ≤ rd l i ∧ rd l i < 256) : 0 ≤ wordAt l a ∧ wordAt l a < 4294967296 := by
  have b0 := h a
  have b1 := h (a + 1)
  have b2 := h (a + 2)
  have b3 := h (a + 3)
  unfold wordAt
  omega

def wordsAt (l : List Int) : Nat → Nat → List Int
  | _, 0 => []
  | i, d + 1 => wordAt l (4 * i) :: wordsAt l (i + 1) d
theorem wordsAt_len (l : List Int) : ∀ (d i : Nat), (wordsAt l i d).length = d
  | 0, _ => rfl
  | d + 1, i => by simp [wordsAt, wordsAt_len l d]
theorem wordsBytes_u8 : ∀ (l : List Int), ∀ x ∈ wordsBytes l, 0 ≤ x ∧ x < 256
  | [], x, h => by simp [wordsBytes] at h
  | v :: r, x, h => by
    simp only [wordsBytes] at h
    rcases List.mem_append.1 h with h | h
    · exact wordBytes_u8 v x h
    · exact wordsBytes_u8 r x h
theorem sumBytes_u8 (w : List Int) (c : Int) (r : List Int) (h8 : ∀ x ∈ r, 0 ≤ x ∧ x < 256) : ∀ x ∈ sumBytes w c r, 0 ≤ x ∧ x < 256 := by
  intro x hx
  unfold sumBytes at hx
  split at hx
  · rcases List.mem_append.1 hx with hx | hx
    · rcases List.mem_append.1 hx with hx | hx
      · rcases List.mem_append.1 hx with hx | hx
        · exact wordsBytes_u8 w x hx
        · exact wordBytes_u8 c x hx
      · exact h8 x hx
    · have := (List.mem_replicate.1 hx).2
      omega
  · simp at hx
def restOf (l : List Int) : List Int := (l.take (36 + wordAt l 32 % 64).toNat).drop 36
def gotSum (l : List Int) (w : List Int) : List Int × Int × List Int × Bool := if sumBytes w (wordAt l 32) (restOf l) = l then (w, wordAt l 32, restOf l, true) else ([], 0, [], false)
theorem restOf_mem (l : List Int) : ∀ x ∈ restOf l, x ∈ l := fun x hx => List.mem_of_mem_take (List.mem_of_mem_drop hx)
theorem restOf_len (l : List Int) (hl : l.length = 100) : (restOf l).length ≤ 63 := by
  unfold restOf
  simp
  omega
theorem specGetSum_l0 (l : List Int) (h8 : ∀ x ∈ l, 0 ≤ x ∧ x < 256) (hl : l.length = 100) : ∀ (d i : Nat) (o : List Int), i + d = 8 → o.length = i → Ev (fun k => spec_GetSum.l0 k l (i : Int) o 0) (gotSum l (o ++ wordsAt l i d))
  | 0, i, o, hi, ho => by
    have hr := rd_all (P := fun x => 0 ≤ x ∧ x < 256) h8 (by omega)
    have w32 := specWord_tell l 32 hr (by omega) (by omega)
    have hc := wordAt_u32 l 32 hr
    have hn := restOf_len l hl
    simp only [wordsAt, List.append_nil]
    refine Ev.step (fun _ => spec_GetSum.l0.eq_2 _ _ _ _ _) (Ev.ifF (by omega) (Ev.bindc w32 ?_))
    simp only [Option.bind_some, List.nil_append, List.length_nil, Nat.zero_add]
    have t : Int.tmod (wordAt l 32) 64 = wordAt l 32 % 64 := Int.tmod_eq_emod_of_nonneg hc.1
    have w1 : wrap64 (36 + wordAt l 32 % 64) = 36 + wordAt l 32 % 64 := wrap64_id (by omega) (by omega)
    rw [t, w1]
    clear t w1
    rw [show ((l.take (36 + wordAt l 32 % 64).toNat).drop 36) = restOf l from rfl]
    refine Ev.ifT (by omega) (Ev.ifT (by omega) (Ev.ifT (by omega) (Ev.bind (specPutSum_ev o (wordAt l 32) (restOf l)) (Ev.bind (specSame_tell _ l (by have := sumBytes_len o (wordAt l 32) (restOf l); omega)) ?_))))
    unfold gotSum
    by_cases q : sumBytes o (wordAt l 32) (restOf l) = l
    · rw [if_pos q]; exact Ev.ifT (decide_eq_true q) (Ev.now _)
    · rw [if_neg q]; exact Ev.ifF (by simpa using q) (Ev.now _)
  | d + 1, i, o, hi, ho => by
    have hr := rd_all (P := fun x => 0 ≤ x ∧ x < 256) h8 (by omega)
    have w32 := specWord_tell l (4 * i) hr (by omega) (by omega)
    have ih := specGetSum_l0 l h8 hl d (i + 1) (o ++ [wordAt l (4 * i)]) (by omega) (by simp; omega)
    rw [List.append_assoc, List.singleton_append] at ih
    have w1 : wrap64 (4 * (i : Int)) = ((4 * i : Nat) : Int) := by rw [wrap64_id (by omega) (by omega)]; omega
    refine Ev.step (fun _ => spec_GetSum.l0.eq_2 _ _ _ _ _) (Ev.ifT (by clear w1; omega) (Ev.bindc (by rw [w1]; exact w32) (Ev.ifT (by clear w1; omega) ?_)))
    clear w1
    rw [wrap64_succ (by omega)]
    exact ih
theorem implGetSum_l0 (l : List Int) (h8 : ∀ x ∈ l, 0 ≤ x ∧ x < 256) (hl : l.length = 100) : ∀ (d i : Nat) (o : List Int), i + d = 8 → o.length = i → Ev (fun k => impl_GetSum.l0 k l (i : Int) o 0) (gotSum l (o ++ wordsAt l i d))
  | 0, i, o, hi, ho => by
    have hr := rd_all (P := fun x => 0 ≤ x ∧ x < 256) h8 (by omega)
    have w32 : impl_Word.f l ((32 : Nat) : Int) = some (wordAt l 32, true) := word_tell l 32 hr (by omega) (by omega)
    have hc := wordAt_u32 l 32 hr
    have hn := restOf_len l hl
    simp only [wordsAt, List.append_nil]
    refine Ev.step (fun _ => impl_GetSum.l0.eq_2 _ _ _ _ _) (Ev.ifF (by omega) (Ev.bindc w32 ?_))
    have t : Int.tmod (wordAt l 32) 64 = wordAt l 32 % 64 := Int.tmod_eq_emod_of_nonneg hc.1
    have w1 : wrap64 (36 + wordAt l 32 % 64) = 36 + wordAt l 32 % 64 := wrap64_id (by omega) (by omega)
    simp only
    rw [t, w1]
    clear t w1
    rw [show ((l.take (36 + wordAt l 32 % 64).toNat).drop 36) = restOf l from rfl]
    have cl : slices_Clone_byte_byte.f (restOf l) = some (restOf l) := by
      unfold slices_Clone_byte_byte.f
      simp only [Option.bind_some, List.nil_append, List.length_nil, Nat.zero_add]
      rw [if_pos (by omega)]
    have sm : impl_Same.f (sumBytes o (wordAt l 32) (restOf l)) l = some (decide (sumBytes o (wordAt l 32) (restOf l) = l)) := by
      unfold impl_Same.f bytes_Equal.f
      rw [strs_eq (sumBytes_u8 _ _ _ (fun x hx => h8 x (restOf_mem l x hx))) h8]; rfl
    refine Ev.ifT (by omega) (Ev.ifT (by omega) (Ev.bindc cl (Ev.bind (implPutSum_ev o (wordAt l 32) (restOf l)) (Ev.bindc sm ?_))))
    unfold gotSum
    by_cases q : sumBytes o (wordAt l 32) (restOf l) = l
    · rw [if_pos q]; exact Ev.ifT (decide_eq_true q) (Ev.now _)
    · rw [if_neg q]; exact Ev.ifF (by simpa using q) (Ev.now _)
  | d + 1, i, o, hi, ho => by
    have hr := rd_all (P := fun x => 0 ≤ x ∧ x < 256) h8 (by omega)
    have w32 : impl_Word.f l ((4 * i : Nat) : Int) = some (wordAt l (4 * i), true) := word_tell l (4 * i) hr (by omega) (by omega)
    have ih := implGetSum_l0 l h8 hl d (i + 1) (o ++ [wordAt l (4 * i)]) (by omega) (by simp; omega)
    rw [List.append_assoc, List.singleton_append] at ih
    have w1 : wrap64 (4 * (i : Int)) = ((4 * i : Nat) : Int) := by rw [wrap64_id (by omega) (by omega)]; omega
    refine Ev.step (fun _ => impl_GetSum.l0.eq_2 _ _ _ _ _) (Ev.ifT (by clear w1; omega) (Ev.bindc (by rw [w1]; exact w32) (Ev.ifT (by clear w1; omega) ?_)))
    clear w1
    rw [wrap64_succ (by omega)]
    exact ih
theorem getSum_both (l : List Int) (h8 : ∀ x ∈ l, 0 ≤ x ∧ x < 256) : ∃ (w : List Int) (c : Int) (r : List Int) (b : Bool), w.length ≤ 8 ∧ r.length ≤ 63 ∧ Ev (fun k => spec_GetSum.f k l) (w, c, r, b) ∧ Ev (fun k => impl_GetSum.f k l) (w, c, r, b) := by
  by_cases h : (l.length : Int) = 100
  · have s := specGetSum_l0 l h8 (by omega) 8 0 [] (by omega) rfl
    have i := implGetSum_l0 l h8 (by omega) 8 0 [] (by omega) rfl
    rw [List.nil_append] at s i
    have hw := wordsAt_len l 8 0
    have hr := restOf_len l (by omega)
    refine ⟨(gotSum l (wordsAt l 0 8)).1, (gotSum l (wordsAt l 0 8)).2.1, (gotSum l (wordsAt l 0 8)).2.2.1, (gotSum l (wordsAt l 0 8)).2.2.2, ?_, ?_, Ev.ifT h s, Ev.ifT h i⟩
    · unfold gotSum; split
      · simp only; omega
      · simp
    · unfold gotSum; split
      · simp only; omega
      · simp
  · exact ⟨[], 0, [], false, by simp, by simp, Ev.ifF h (Ev.now _), Ev.ifF h (Ev.now _)⟩

theorem FnExactGetSum : laws_FnExactGetSum.Pure := by
  intro l _ _ hwf
  have h8 := wf_all_u8 hwf
  refine Ev.rounds ?_
  unfold laws_FnExactGetSum.f
  by_cases h1 : (l.length : Int) > 1048576
  · exact Ev.ifT h1 (Ev.now _)
  have t := toByteS_ev l (by omega)
  have eb := eqByteS_ev l (by omega)
  have mb := markByteS_ev l 1 (by omega) (by omega) (by omega)
  obtain ⟨w, c, r, b, hw, hr, s, i⟩ := getSum_both l h8
  have e := eqSum_ev w c r (by omega) (by omega)
  have m := markSum_ev w c r 1 (by omega) (by omega) (by omega) (by omega)
  have h := heldSum_ev w c r 1 (by omega) (by omega) (by omega) (by omega)
  refine Ev.ifF h1 (Ev.bind t (Ev.bind s (Ev.bind t (Ev.bind i (Ev.bind e (Ev.ifT rfl ?_))))))
  simp only [bne_self_eq_false]
  refine Ev.step (fun k => laws_FnExactGetSum.j0.eq_2 _ _ _ _ _ _ _ _ _ _ _ _) (Ev.ifF (by decide) (Ev.bind t (Ev.bind eb (Ev.ifT rfl (Ev.bind mb (Ev.ifF (by omega) (Ev.bind e (Ev.ifT rfl ?_))))))))
  simp only [bne_self_eq_false]
  refine Ev.step (fun k => laws_FnExactGetSum.j1.eq_2 _ _ _ _ _ _ _ _ _ _) (Ev.ifF (by decide) (Ev.bind m (Ev.bind h (Ev.ifF (by omega) (Ev.ifT rfl (Ev.bind t (Ev.bind i (Ev.bind e (Ev.ifT rfl ?_)))))))))
  simp only [bne_self_eq_false]
  exact Ev.step (fun k => laws_FnExactGetSum.j2.eq_2 _ _ _ _ _ _) (Ev.ifF (by decide) (Ev.bind h (Ev.ifF (by omega) (Ev.ifT rfl (Ev.now _)))))

end Go.Proofs.Ytdilibnfihcmkaa.Pure
