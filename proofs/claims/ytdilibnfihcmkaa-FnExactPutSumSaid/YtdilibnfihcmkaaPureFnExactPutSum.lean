/- The plain law of FnExactPutSum, over numbers and lists alone: what the printed functions answer is true for all arguments. Conditions: those of the arguments' kinds. -/
import Derived.Test.YtdilibnfihcmkaaQFnExactPutSumx5
import Derived.Test.YtdilibnfihcmkaaAid
set_option linter.unusedVariables false
set_option linter.unusedSimpArgs false
namespace Go.Proofs.Ytdilibnfihcmkaa.Pure
open Go.RowKit Go.Proofs.Ytdilibnfihcmkaa.Aid Go.Proofs.Ytdilibnfihcmkaa.QFnExactPutSum Go.Proofs.YtdilibnfihcmkaaW.PrintWords Go.Proofs.YtdilibnfihcmkaaW.PrintLast Go.Proofs.YtdilibnfihcmkaaW.PrintMore
theorem in_tell (a b c : Int) : impl_in.f a b c = some (decide (b ≤ a ∧ a ≤ c)) := by
  unfold impl_in.f
  by_cases h : a ≥ b
  · rw [if_pos h]; congr 1; rw [Bool.eq_iff_iff]; simp only [decide_eq_true_eq]; omega
  · rw [if_neg h]; congr 1; symm; rw [decide_eq_false_iff_not]; omega

theorem l1In_tell (a b c : Int) : spec_l1In.f a b c = some (decide (b ≤ a ∧ a ≤ c)) := by
  unfold spec_l1In.f
  by_cases h : a ≥ b
  · rw [if_pos h]; congr 1; rw [Bool.eq_iff_iff]; simp only [decide_eq_true_eq]; omega
  · rw [if_neg h]; congr 1; symm; rw [decide_eq_false_iff_not]; omega

theorem toByteS_l0 (l : List Int) (hl : l.length ≤ 140737488351232) : ∀ (d : Nat) (x : List Int) (i : Nat), x.length = l.length → i + d = l.length → x.take i = l.take i → Ev (fun k => laws_toByteS.l0 k l x (i : Int)) l
  | 0, x, i, hx, hi, ht => by
    refine Ev.step (f := fun _ => some l) (fun k => ?_) (Ev.now _)
    simp only [laws_toByteS.l0]
    rw [if_neg (by omega)]
    congr 1
    rw [List.take_of_length_le (by omega), List.take_of_length_le (by omega)] at ht
    exact ht
  | d + 1, x, i, hx, hi, ht => by
    have ih := toByteS_l0 l hl d (x.set i (rd l i)) (i + 1) (by simpa using hx) (by omega) (by
      rw [List.take_succ_eq_append_getElem (by simp; omega), List.take_succ_eq_append_getElem (by omega), List.take_set_of_le (by omega), ht]
      simp [rd, List.getElem?_eq_getElem (show i < l.length by omega)])
    refine Ev.step (fun k => ?_) ih
    simp only [laws_toByteS.l0]
    rw [if_pos (by omega), if_pos (by omega), if_pos (by omega), wrap64_id (by omega) (by omega)]
    simp
theorem toByteS_ev (l : List Int) (hl : l.length ≤ 140737488351232) : Ev (fun k => laws_toByteS.f k l) l := by
  refine Ev.congr (fun k => ?_) (toByteS_l0 l hl l.length (List.replicate l.length 0) 0 (by simp) (by simp) (by simp))
  simp only [laws_toByteS.f]
  rw [if_pos (by omega), if_pos (by omega)]
  simp

theorem toIntS_l0 (l : List Int) (hl : l.length ≤ 17592186044416) : ∀ (d : Nat) (x : List Int) (i : Nat), x.length = l.length → i + d = l.length → x.take i = l.take i → Ev (fun k => laws_toIntS.l0 k l x (i : Int)) l
  | 0, x, i, hx, hi, ht => by
    refine Ev.step (f := fun _ => some l) (fun k => ?_) (Ev.now _)
    simp only [laws_toIntS.l0]
    rw [if_neg (by omega)]
    congr 1
    rw [List.take_of_length_le (by omega), List.take_of_length_le (by omega)] at ht
    exact ht
  | d + 1, x, i, hx, hi, ht => by
    have ih := toIntS_l0 l hl d (x.set i (rd l i)) (i + 1) (by simpa using hx) (by omega) (by
      rw [List.take_succ_eq_append_getElem (by simp; omega), List.take_succ_eq_append_getElem (by omega), List.take_set_of_le (by omega), ht]
      simp [rd, List.getElem?_eq_getElem (show i < l.length by omega)])
    refine Ev.step (fun k => ?_) ih
    simp only [laws_toIntS.l0]
    rw [if_pos (by omega), if_pos (by omega), if_pos (by omega), wrap64_id (by omega) (by omega)]
    simp
theorem toIntS_ev (l : List Int) (hl : l.length ≤ 17592186044416) : Ev (fun k => laws_toIntS.f k l) l := by
  refine Ev.congr (fun k => ?_) (toIntS_l0 l hl l.length (List.replicate l.length 0) 0 (by simp) (by simp) (by simp))
  simp only [laws_toIntS.f]
  rw [if_pos (by omega), if_pos (by omega)]
  simp

theorem eqByteS_l0 (l : List Int) (hl : l.length ≤ 140737488351232) : ∀ (d : Nat) (i : Nat), i + d = l.length → Ev (fun k => laws_eqByteS.l0 k l l (i : Int)) true
  | 0, i, hi => by
    refine Ev.step (f := fun _ => some true) (fun k => ?_) (Ev.now _)
    simp only [laws_eqByteS.l0]
    rw [if_neg (by omega)]
  | d + 1, i, hi => by
    have ih := eqByteS_l0 l hl d (i + 1) (by omega)
    refine Ev.step (fun k => ?_) ih
    simp only [laws_eqByteS.l0]
    rw [if_pos (by omega), if_pos (by omega), if_pos (by omega), wrap64_id (by omega) (by omega)]
    simp
theorem eqByteS_ev (l : List Int) (hl : l.length ≤ 140737488351232) : Ev (fun k => laws_eqByteS.f k l l) true := by
  refine Ev.congr (fun k => ?_) (eqByteS_l0 l hl l.length 0 (by simp))
  simp only [laws_eqByteS.f]
  simp

theorem eqIntS_l0 (l : List Int) (hl : l.length ≤ 140737488351232) : ∀ (d : Nat) (i : Nat), i + d = l.length → Ev (fun k => laws_eqIntS.l0 k l l (i : Int)) true
  | 0, i, hi => by
    refine Ev.step (f := fun _ => some true) (fun k => ?_) (Ev.now _)
    simp only [laws_eqIntS.l0]
    rw [if_neg (by omega)]
  | d + 1, i, hi => by
    have ih := eqIntS_l0 l hl d (i + 1) (by omega)
    refine Ev.step (fun k => ?_) ih
    simp only [laws_eqIntS.l0]
    rw [if_pos (by omega), if_pos (by omega), if_pos (by omega), wrap64_id (by omega) (by omega)]
    simp
theorem eqIntS_ev (l : List Int) (hl : l.length ≤ 140737488351232) : Ev (fun k => laws_eqIntS.f k l l) true := by
  refine Ev.congr (fun k => ?_) (eqIntS_l0 l hl l.length 0 (by simp))
  simp only [laws_eqIntS.f]
  simp

def marksB : Int → List Int → List Int
  | _, [] => []
  | c, _ :: r => c % 256 :: marksB (c + 1) r
theorem marksB_length : ∀ (c : Int) (l : List Int), (marksB c l).length = l.length
  | _, [] => rfl
  | c, _ :: r => by simp [marksB, marksB_length (c + 1) r]
theorem marksB_again : ∀ (c : Int) (l : List Int), marksB c (marksB c l) = marksB c l
  | _, [] => rfl
  | c, _ :: r => by simp [marksB, marksB_again (c + 1) r]
theorem markByteS_l0 : ∀ (d : Nat) (x : List Int) (c : Int) (i : Nat), x.length ≤ 140737488355328 → i + d = x.length → 0 ≤ c → c + d ≤ 4611686018427387904 →
    Ev (fun k => laws_markByteS.l0 k x c (i : Int)) (c + d, x.take i ++ marksB c (x.drop i))
  | 0, x, c, i, hl, hi, hc, hc1 => by
    refine Ev.step (f := fun _ => some (c, x)) (fun k => ?_) (Ev.const ?_)
    · simp only [laws_markByteS.l0]
      rw [if_neg (by omega)]
    · rw [List.take_of_length_le (by omega), List.drop_of_length_le (by omega)]
      simp [marksB]
  | d + 1, x, c, i, hl, hi, hc, hc1 => by
    have ih := markByteS_l0 d (x.set i (c % 256)) (c + 1) (i + 1) (by simpa using hl) (by simp; omega) (by omega) (by omega)
    have e1 : (x.set i (c % 256)).take (i + 1) = x.take i ++ [c % 256] := by
      rw [List.take_succ_eq_append_getElem (by simp; omega), List.take_set_of_le (by omega)]; simp
    have e2 : (x.set i (c % 256)).drop (i + 1) = x.drop (i + 1) := by rw [List.drop_set]; simp
    have e3 : x.drop i = x[i]'(by omega) :: x.drop (i + 1) := List.drop_eq_getElem_cons (by omega)
    rw [e1, e2] at ih
    have e4 : (c + ((d + 1 : Nat) : Int), x.take i ++ marksB c (x.drop i)) = (c + 1 + (d : Int), x.take i ++ [c % 256] ++ marksB (c + 1) (x.drop (i + 1))) := by
      rw [e3]; simp [marksB]; omega
    rw [e4]
    refine Ev.step (fun k => ?_) ih
    simp only [laws_markByteS.l0]
    rw [if_pos (by omega), if_pos (by omega), wrap64_id (by omega) (by omega), wrap64_id (by omega) (by omega)]
    simp
theorem markByteS_ev (x : List Int) (c : Int) (hl : x.length ≤ 140737488355328) (hc : 0 ≤ c) (hc1 : c + x.length ≤ 4611686018427387904) : Ev (fun k => laws_markByteS.f k x c) (c + x.length, marksB c x) := by
  have := markByteS_l0 x.length x c 0 hl (by omega) hc hc1
  simpa [laws_markByteS.f] using this
theorem heldByteS_l0 : ∀ (d : Nat) (x : List Int) (c : Int) (i : Nat), x.length ≤ 140737488355328 → i + d = x.length → 0 ≤ c → c + d ≤ 4611686018427387904 → x.drop i = marksB c (x.drop i) →
    Ev (fun k => laws_heldByteS.l0 k x c (i : Int)) (c + d)
  | 0, x, c, i, hl, hi, hc, hc1, hm => by
    refine Ev.step (f := fun _ => some c) (fun k => ?_) (Ev.const (by simp))
    simp only [laws_heldByteS.l0]
    rw [if_neg (by omega)]
  | d + 1, x, c, i, hl, hi, hc, hc1, hm => by
    have e3 : x.drop i = x[i]'(by omega) :: x.drop (i + 1) := List.drop_eq_getElem_cons (by omega)
    rw [e3] at hm
    simp only [marksB, List.cons.injEq] at hm
    have ih := heldByteS_l0 d x (c + 1) (i + 1) hl (by omega) (by omega) (by omega) hm.2
    have e4 : c + ((d + 1 : Nat) : Int) = c + 1 + (d : Int) := by omega
    rw [e4]
    refine Ev.step (fun k => ?_) ih
    simp only [laws_heldByteS.l0]
    rw [if_pos (by omega), if_pos (by omega), if_pos (by rw [rd_get x i (by omega)]; exact hm.1), wrap64_id (by omega) (by omega), wrap64_id (by omega) (by omega)]
    simp
theorem heldByteS_ev (x : List Int) (c : Int) (hl : x.length ≤ 140737488355328) (hc : 0 ≤ c) (hc1 : c + x.length ≤ 4611686018427387904) : Ev (fun k => laws_heldByteS.f k (marksB c x) c) (c + x.length) := by
  have := heldByteS_l0 x.length (marksB c x) c 0 (by rw [marksB_length]; exact hl) (by rw [marksB_length]; omega) hc hc1 (by simp [marksB_again])
  simpa [laws_heldByteS.f] using this

def marksI : Int → List Int → List Int
  | _, [] => []
  | c, _ :: r => c :: marksI (c + 1) r
theorem marksI_length : ∀ (c : Int) (l : List Int), (marksI c l).length = l.length
  | _, [] => rfl
  | c, _ :: r => by simp [marksI, marksI_length (c + 1) r]
theorem marksI_again : ∀ (c : Int) (l : List Int), marksI c (marksI c l) = marksI c l
  | _, [] => rfl
  | c, _ :: r => by simp [marksI, marksI_again (c + 1) r]
theorem markIntS_l0 : ∀ (d : Nat) (x : List Int) (c : Int) (i : Nat), x.length ≤ 140737488355328 → i + d = x.length → 0 ≤ c → c + d ≤ 4611686018427387904 →
    Ev (fun k => laws_markIntS.l0 k x c (i : Int)) (c + d, x.take i ++ marksI c (x.drop i))
  | 0, x, c, i, hl, hi, hc, hc1 => by
    refine Ev.step (f := fun _ => some (c, x)) (fun k => ?_) (Ev.const ?_)
    · simp only [laws_markIntS.l0]
      rw [if_neg (by omega)]
    · rw [List.take_of_length_le (by omega), List.drop_of_length_le (by omega)]
      simp [marksI]
  | d + 1, x, c, i, hl, hi, hc, hc1 => by
    have ih := markIntS_l0 d (x.set i (c)) (c + 1) (i + 1) (by simpa using hl) (by simp; omega) (by omega) (by omega)
    have e1 : (x.set i (c)).take (i + 1) = x.take i ++ [c] := by
      rw [List.take_succ_eq_append_getElem (by simp; omega), List.take_set_of_le (by omega)]; simp
    have e2 : (x.set i (c)).drop (i + 1) = x.drop (i + 1) := by rw [List.drop_set]; simp
    have e3 : x.drop i = x[i]'(by omega) :: x.drop (i + 1) := List.drop_eq_getElem_cons (by omega)
    rw [e1, e2] at ih
    have e4 : (c + ((d + 1 : Nat) : Int), x.take i ++ marksI c (x.drop i)) = (c + 1 + (d : Int), x.take i ++ [c] ++ marksI (c + 1) (x.drop (i + 1))) := by
      rw [e3]; simp [marksI]; omega
    rw [e4]
    refine Ev.step (fun k => ?_) ih
    simp only [laws_markIntS.l0]
    rw [if_pos (by omega), if_pos (by omega), wrap64_id (by omega) (by omega), wrap64_id (by omega) (by omega)]
    simp
theorem markIntS_ev (x : List Int) (c : Int) (hl : x.length ≤ 140737488355328) (hc : 0 ≤ c) (hc1 : c + x.length ≤ 4611686018427387904) : Ev (fun k => laws_markIntS.f k x c) (c + x.length, marksI c x) := by
  have := markIntS_l0 x.length x c 0 hl (by omega) hc hc1
  simpa [laws_markIntS.f] using this

theorem szByteS_tell (l : List Int) (a : Int) (hl : l.length ≤ 9223372036854775807) (h0 : 0 ≤ a) (h1 : a ≤ 1048576) : laws_szByteS.f l a = some (if a < (l.length : Int) then -1 else a - l.length) := by
  unfold laws_szByteS.f
  rw [wrap64_id (by omega) (by omega)]
  by_cases h : a < (l.length : Int)
  · rw [if_pos (by omega), if_pos h]
  · rw [if_neg (by omega), if_neg h]

theorem szIntS_tell (l : List Int) (a : Int) (hl : l.length ≤ 9223372036854775807) (h0 : 0 ≤ a) (h1 : a ≤ 1048576) : laws_szIntS.f l a = some (if a < (l.length : Int) then -1 else a - l.length) := by
  unfold laws_szIntS.f
  rw [wrap64_id (by omega) (by omega)]
  by_cases h : a < (l.length : Int)
  · rw [if_pos (by omega), if_pos h]
  · rw [if_neg (by omega), if_neg h]

def badWord (x : Int) : Bool := !decide (0 ≤ x ∧ x ≤ 4294967295)
def sumOkP (w : List Int) (c : Int) (r : List Int) : Prop := w.length = 8 ∧ w.any badWord = false ∧ 0 ≤ c ∧ c ≤ 2147483647 ∧ (r.length : Int) = c % 64
instance (w : List Int) (c : Int) (r : List Int) : Decidable (sumOkP w c r) := by unfold sumOkP; infer_instance

theorem szSum_tell (w : List Int) (c : Int) (r : List Int) (a : Int) (hw : w.length ≤ 9223372036854775807) (hr : r.length ≤ 9223372036854775807) (h0 : 0 ≤ a) (h1 : a ≤ 1048576) : laws_szSum.f w c r a = some (if a < (w.length : Int) + r.length then -1 else a - w.length - r.length) := by
  unfold laws_szSum.f
  rw [szIntS_tell w a hw h0 h1]
  simp only [Option.bind_some]
  by_cases q : a < (w.length : Int)
  · rw [if_pos q, if_pos (by omega), if_pos (by omega)]
  · rw [if_neg q, if_neg (by omega), szByteS_tell r _ hr (by omega) (by omega)]
    simp only [Option.bind_some]
    by_cases q2 : a - (w.length : Int) < (r.length : Int)
    · rw [if_pos q2, if_pos (by omega), if_pos (by omega)]
    · rw [if_neg q2, if_neg (by omega), if_neg (by omega)]
theorem toSum_ev (w : List Int) (c : Int) (r : List Int) (hw : w.length ≤ 1048576) (hr : r.length ≤ 1048576) : Ev (fun k => laws_toSum.f k w c r) (w, c, r) := by
  unfold laws_toSum.f
  exact Ev.bind (toIntS_ev w (by omega)) (Ev.bind (toByteS_ev r (by omega)) (Ev.now _))

theorem markSum_ev (w : List Int) (c : Int) (r : List Int) (m : Int) (hw : w.length ≤ 17592186044416) (hr : r.length ≤ 140737488351232) (hm : 0 ≤ m) (hm1 : m ≤ 1000000000000000000) :
    Ev (fun k => laws_markSum.f k w c r m) (m + w.length + r.length, marksI m w, marksB (m + w.length) r) := by
  unfold laws_markSum.f
  exact Ev.bind (markIntS_ev w m (by omega) hm (by omega)) (Ev.bind (markByteS_ev r (m + w.length) (by omega) (by omega) (by omega)) (Ev.now _))

theorem eqSum_ev (w : List Int) (c : Int) (r : List Int) (hw : w.length ≤ 17592186044416) (hr : r.length ≤ 140737488351232) : Ev (fun k => laws_eqSum.f k w c r w c r) true := by
  unfold laws_eqSum.f
  exact Ev.bind (eqIntS_ev w (by omega)) (Ev.ifT rfl (Ev.ifT rfl (Ev.bind (eqByteS_ev r hr) (Ev.ifT rfl (Ev.now _)))))

theorem indexFunc_SumOk_l0 (p : Int → Bool) (l : List Int) (hl : l.length ≤ 140737488351232) (hp : ∀ x ∈ l, impl_SumOk_1.f x = some (p x)) : ∀ (d i : Nat), i + d = l.length → ∃ r : Int, decide (r ≥ 0) = (l.drop i).any p ∧ Ev (fun k => slices_IndexFunc_int_int_of_impl_SumOk_1.l0 k l (l.length : Int) (i : Int)) r
  | 0, i, hi => by
    refine ⟨-1, by rw [List.drop_of_length_le (by omega)]; rfl, Ev.step (f := fun _ => some (-1)) (fun k => ?_) (Ev.now _)⟩
    simp only [slices_IndexFunc_int_int_of_impl_SumOk_1.l0]
    rw [if_neg (by omega)]
  | d + 1, i, hi => by
    obtain ⟨r, h1, h2⟩ := indexFunc_SumOk_l0 p l hl hp d (i + 1) (by omega)
    have e3 : l.drop i = l[i]'(by omega) :: l.drop (i + 1) := List.drop_eq_getElem_cons (by omega)
    have hx := hp (l[i]'(by omega)) (List.getElem_mem _)
    have g1 : (i : Int) < (l.length : Int) := by omega
    have g2 : (0 : Int) ≤ (i : Int) := by omega
    have er := rd_get l i (by omega)
    by_cases hb : p (l[i]'(by omega)) = true
    · refine ⟨(i : Int), ?_, Ev.step (f := fun _ => some (i : Int)) (fun k => ?_) (Ev.now _)⟩
      · rw [e3, List.any_cons, hb, Bool.true_or, decide_eq_true_eq]; omega
      · simp only [slices_IndexFunc_int_int_of_impl_SumOk_1.l0]
        rw [if_pos g1, if_pos g2, if_pos g1, er, hx]
        simp only [Option.bind_some]
        rw [if_pos hb]
    · refine ⟨r, ?_, Ev.step (fun k => ?_) h2⟩
      · rw [h1, e3, List.any_cons, Bool.eq_false_iff.2 hb, Bool.false_or]
      · simp only [slices_IndexFunc_int_int_of_impl_SumOk_1.l0]
        rw [if_pos g1, if_pos g2, if_pos g1, er, hx]
        simp only [Option.bind_some]
        rw [if_neg hb, wrap64_succ (by omega)]
theorem containsFunc_SumOk (p : Int → Bool) (l : List Int) (hl : l.length ≤ 140737488351232) (hp : ∀ x ∈ l, impl_SumOk_1.f x = some (p x)) (z : Nat) : Ev (fun k => slices_ContainsFunc_int_int_of_impl_SumOk_1.f k l z) (l.any p) := by
  obtain ⟨r, h1, h2⟩ := indexFunc_SumOk_l0 p l hl hp l.length 0 (by omega)
  unfold slices_ContainsFunc_int_int_of_impl_SumOk_1.f slices_IndexFunc_int_int_of_impl_SumOk_1.f
  refine Ev.bind h2 (Ev.const ?_)
  rw [h1]; rfl

theorem specSum_l0 (w : List Int) (c : Int) (r : List Int) (hw : w.length = 8) : ∀ (d i : Nat), i + d = 8 → Ev (fun k => spec_SumOk.l0 k (i : Int) w c r) (!(w.drop i).any badWord)
  | 0, i, hi => by
    refine Ev.step (f := fun _ => some true) (fun k => ?_) (Ev.const (by rw [List.drop_of_length_le (by omega)]; rfl))
    simp only [spec_SumOk.l0]
    rw [if_neg (by omega)]
  | d + 1, i, hi => by
    have ih := specSum_l0 w c r hw d (i + 1) (by omega)
    have e3 : w.drop i = w[i]'(by omega) :: w.drop (i + 1) := List.drop_eq_getElem_cons (by omega)
    have g0 : (i : Int) < 8 := by omega
    have g1 : (i : Int) < (w.length : Int) := by omega
    have g2 : (0 : Int) ≤ (i : Int) := by omega
    rw [e3, List.any_cons]
    by_cases hb : 0 ≤ w[i]'(by omega) ∧ w[i]'(by omega) ≤ 4294967295
    · rw [show badWord (w[i]'(by omega)) = false by unfold badWord; rw [decide_eq_true hb]; rfl, Bool.false_or]
      refine Ev.step (fun k => ?_) ih
      simp only [spec_SumOk.l0]
      rw [if_pos g0, if_pos g2, if_pos g1, rd_get w i (by omega), l1In_tell]
      simp only [Option.bind_some]
      rw [if_pos (decide_eq_true hb), wrap64_succ (by omega)]
    · rw [show badWord (w[i]'(by omega)) = true by unfold badWord; rw [decide_eq_false hb]; rfl, Bool.true_or, Bool.not_true]
      refine Ev.step (f := fun _ => some false) (fun k => ?_) (Ev.now _)
      simp only [spec_SumOk.l0]
      rw [if_pos g0, if_pos g2, if_pos g1, rd_get w i (by omega), l1In_tell]
      simp only [Option.bind_some]
      rw [if_neg (by rw [decide_eq_true_eq]; exact hb)]
theorem specSumOk_ev (w : List Int) (c : Int) (r : List Int) : Ev (fun k => spec_SumOk.f k w c r) (decide (sumOkP w c r)) := by
  unfold spec_SumOk.f
  rw [l1In_tell]
  simp only [Option.bind_some]
  have bad : ¬ sumOkP w c r → Ev (fun k => spec_SumOk.j0 k true w c r) (decide (sumOkP w c r)) := fun h => by
    rw [decide_eq_false h]
    exact Ev.step (f := fun _ => some false) (fun k => by simp [spec_SumOk.j0]) (Ev.now _)
  by_cases h : (w.length : Int) = 8
  · refine Ev.ifT h ?_
    by_cases h2 : 0 ≤ c ∧ c ≤ 2147483647
    · refine Ev.ifT (decide_eq_true h2) ?_
      rw [Int.tmod_eq_emod_of_nonneg h2.1]
      by_cases h3 : (r.length : Int) = c % 64
      · rw [show ((r.length : Int) != c % 64) = false by simp [h3]]
        have e := specSum_l0 w c r (by omega) 8 0 (by omega)
        have e2 : decide (sumOkP w c r) = !(w.drop 0).any badWord := by
          rw [Bool.eq_iff_iff, decide_eq_true_eq, Bool.not_eq_true', List.drop_zero]
          unfold sumOkP
          constructor
          · intro q; exact q.2.1
          · intro q; exact ⟨by omega, q, h2.1, h2.2, h3⟩
        rw [e2]
        exact Ev.step (fun k => by simp [spec_SumOk.j0]) e
      · rw [show ((r.length : Int) != c % 64) = true by simp [h3]]
        exact bad (fun q => h3 q.2.2.2.2)
    · exact Ev.ifF (by rw [decide_eq_true_eq]; exact h2) (bad (fun q => h2 ⟨q.2.2.1, q.2.2.2.1⟩))
  · exact Ev.ifF h (bad (fun q => h (by have := q.1; omega)))

theorem implSumBad_tell (x : Int) : impl_SumOk_1.f x = some (badWord x) := by
  unfold impl_SumOk_1.f badWord
  rw [in_tell]; rfl
theorem implSumOk_ev (w : List Int) (c : Int) (r : List Int) : Ev (fun k => impl_SumOk.f k w c r) (decide (sumOkP w c r)) := by
  unfold impl_SumOk.f
  by_cases h : (w.length : Int) = 8
  · refine Ev.ifT h (Ev.bind (containsFunc_SumOk badWord w (by omega) (fun x _ => implSumBad_tell x) 0) ?_)
    by_cases hany : w.any badWord = true
    · rw [decide_eq_false (fun q : sumOkP w c r => by have := q.2.1; rw [hany] at this; cases this)]
      exact Ev.ifT hany (Ev.now _)
    · refine Ev.ifF hany (Ev.bindc (in_tell _ _ _) ?_)
      by_cases h2 : 0 ≤ c ∧ c ≤ 2147483647
      · refine Ev.ifT (decide_eq_true h2) (Ev.const ?_)
        rw [Int.tmod_eq_emod_of_nonneg h2.1]
        congr 1
        rw [Bool.eq_iff_iff, decide_eq_true_eq, beq_iff_eq]
        unfold sumOkP
        constructor
        · intro q; exact ⟨by omega, Bool.eq_false_iff.2 hany, h2.1, h2.2, q⟩
        · intro q; exact q.2.2.2.2
      · rw [decide_eq_false (fun q : sumOkP w c r => h2 ⟨q.2.2.1, q.2.2.2.1⟩)]
        exact Ev.ifF (by rw [decide_eq_true_eq]; exact h2) (Ev.now _)
  · rw [decide_eq_false (fun q : sumOkP w c r => h (by have := q.1; omega))]
    exact Ev.ifF h (Ev.now _)

def wordBytes (v : Int) : List Int := [v % 256, v / 256 % 256, v / 65536 % 256, v / 16777216 % 256]
theorem wordBytes_u8 (v : Int) : ∀ x ∈ wordBytes v, 0 ≤ x ∧ x < 256 := by
  intro x hx
  simp only [wordBytes, List.mem_cons, List.mem_nil_iff, or_false] at hx
  omega

theorem specPutWord_ev (v : Int) : Ev (fun k => spec_PutWord.f k v) (wordBytes v) := by
  have e : Go.bits .and .i64 v 4294967295 = v % 4294967296 := and_mask 32 (by decide) v
  have go : ∀ (x : Int) (l : List Int) (i : Nat), 0 ≤ x → x < 4294967296 → l.length < 5 → (i : Int) < 4 → ∀ r, Ev (fun k => spec_PutWord.l0 k (x / 256) (l ++ [x % 256]) ((i + 1 : Nat) : Int)) r → Ev (fun k => spec_PutWord.l0 k x l (i : Int)) r := by
    intro x l i h0 h1 hl hi r h
    refine Ev.step (fun k => ?_) h
    simp only [spec_PutWord.l0]
    rw [if_pos hi, if_pos (by omega), Int.tdiv_eq_ediv_of_nonneg h0, Int.tmod_eq_emod_of_nonneg h0, wrap64_id (by omega) (by omega), wrap64_id (by omega) (by omega), show x % 256 % 256 = x % 256 by omega]
    simp
  unfold spec_PutWord.f
  rw [e]
  have h0 : 0 ≤ v % 4294967296 := by omega
  have h1 : v % 4294967296 < 4294967296 := by omega
  have last : ∀ x l, Ev (fun k => spec_PutWord.l0 k x l ((4 : Nat) : Int)) l := by
    intro x l
    refine Ev.step (f := fun _ => some l) (fun k => ?_) (Ev.now _)
    simp only [spec_PutWord.l0]
    rw [if_neg (by omega)]
  have f := go (v % 4294967296) [] 0 h0 h1 (by simp) (by omega) _ (go _ _ 1 (by omega) (by omega) (by simp) (by omega) _ (go _ _ 2 (by omega) (by omega) (by simp) (by omega) _ (go _ _ 3 (by omega) (by omega) (by simp) (by omega) _ (last _ _))))
  have g : wordBytes v = ((([] ++ [v % 4294967296 % 256]) ++ [v % 4294967296 / 256 % 256]) ++ [v % 4294967296 / 256 / 256 % 256]) ++ [v % 4294967296 / 256 / 256 / 256 % 256] := by
    simp only [wordBytes, List.nil_append, List.cons_append, List.cons.injEq, and_true]
    omega
  rw [g]
  exact f

theorem implPutWord_tell (v : Int) : impl_PutWord.f v = some (wordBytes v) := rfl

def wordsBytes : List Int → List Int
  | [] => []
  | x :: r => wordBytes x ++ wordsBytes r
theorem wordBytes_len (x : Int) : (wordBytes x).length = 4 := rfl
theorem wordsBytes_len : ∀ l : List Int, (wordsBytes l).length = 4 * l.length
  | [] => rfl
  | x :: r => by simp [wordsBytes, wordsBytes_len r, wordBytes_len]; omega
def sumBytes (w : List Int) (c : Int) (r : List Int) : List Int := if sumOkP w c r then wordsBytes w ++ wordBytes c ++ r ++ List.replicate (64 - r.length) 0 else []
theorem specPutSum_l1 : ∀ (d : Nat) (o : List Int), o.length + d = 100 → Ev (fun k => spec_PutSum.l1 k o) (o ++ List.replicate d 0)
  | 0, o, h => by
    rw [List.replicate_zero, List.append_nil]
    refine Ev.step (f := fun _ => some o) (fun k => ?_) (Ev.now _)
    simp only [spec_PutSum.l1]
    rw [if_neg (by omega)]
  | d + 1, o, h => by
    have ih := specPutSum_l1 d (o ++ [0]) (by simp; omega)
    rw [List.append_assoc, List.singleton_append, ← List.replicate_succ] at ih
    refine Ev.step (fun k => ?_) ih
    simp only [spec_PutSum.l1]
    rw [if_pos (by omega), if_pos (by omega)]
theorem specPutSum_l0 (w : List Int) (c : Int) (r : List Int) (hw : w.length = 8) (hr : r.length ≤ 63) : ∀ (d i : Nat) (o : List Int), i + d = 8 → o.length = 4 * i → Ev (fun k => spec_PutSum.l0 k o (i : Int) w c r) (o ++ wordsBytes (w.drop i) ++ wordBytes c ++ r ++ List.replicate (64 - r.length) 0)
  | 0, i, o, hi, ho => by
    rw [List.drop_of_length_le (by omega)]
    simp only [wordsBytes, List.append_nil]
    have e := specPutSum_l1 (64 - r.length) (o ++ wordBytes c ++ r) (by simp [wordBytes_len]; omega)
    refine Ev.step (fun _ => spec_PutSum.l0.eq_2 _ _ _ _ _ _) (Ev.ifF (by omega) (Ev.bind (specPutWord_ev c) (Ev.ifT (by rw [wordBytes_len]; omega) ?_)))
    simp only [Option.bind_some]
    exact Ev.ifT (by simp [wordBytes_len]; omega) e
  | d + 1, i, o, hi, ho => by
    have e3 : w.drop i = w[i]'(by omega) :: w.drop (i + 1) := List.drop_eq_getElem_cons (by omega)
    have ih := specPutSum_l0 w c r hw hr d (i + 1) (o ++ wordBytes (w[i]'(by omega))) (by omega) (by simp [wordBytes_len]; omega)
    rw [e3]
    simp only [wordsBytes]
    rw [← List.append_assoc o]
    refine Ev.step (fun _ => spec_PutSum.l0.eq_2 _ _ _ _ _ _) (Ev.ifT (by omega) (Ev.ifT (by omega) (Ev.ifT (by omega) (Ev.bind (specPutWord_ev _) (Ev.ifT (by rw [wordBytes_len]; omega) ?_)))))
    rw [rd_get w i (by omega), wrap64_succ (by omega)]
    exact ih
theorem specPutSum_ev (w : List Int) (c : Int) (r : List Int) : Ev (fun k => spec_PutSum.f k w c r) (sumBytes w c r) := by
  unfold spec_PutSum.f sumBytes
  simp only [Option.bind_some]
  refine Ev.bind (specSumOk_ev w c r) ?_
  by_cases h : sumOkP w c r
  · rw [if_pos h]
    have e := specPutSum_l0 w c r h.1 (by have := h.2.2.2.2; omega) 8 0 [] (by omega) rfl
    exact Ev.ifT (decide_eq_true h) e
  · rw [if_neg h]
    exact Ev.ifF (by simpa using h) (Ev.now _)
theorem padded_tell (r : List Int) (hr : r.length ≤ 63) : impl_padded.f r 64 = some (r ++ List.replicate (64 - r.length) 0) := by
  unfold impl_padded.f slices_Clone_byte_byte.f
  simp only [Option.bind_some, List.nil_append, List.length_nil, Nat.zero_add]
  have w1 : wrap64 (64 - (r.length : Int)) = ((64 - r.length : Nat) : Int) := by rw [wrap64_id (by omega) (by omega)]; omega
  rw [w1, Int.toNat_natCast]
  clear w1
  rw [if_pos (by omega)]
  simp only [Option.bind_some]
  rw [if_pos (by omega), if_pos (by omega)]
theorem implPutSum_l0 (w : List Int) (c : Int) (r : List Int) (hw : w.length = 8) (hr : r.length ≤ 63) : ∀ (d i : Nat) (o : List Int), i + d = 8 → o.length = 4 * i → Ev (fun k => impl_PutSum.l0 k o w (w.length : Int) (i : Int) w c r) (o ++ wordsBytes (w.drop i) ++ wordBytes c ++ r ++ List.replicate (64 - r.length) 0)
  | 0, i, o, hi, ho => by
    rw [List.drop_of_length_le (by omega)]
    simp only [wordsBytes, List.append_nil]
    refine Ev.step (fun _ => impl_PutSum.l0.eq_2 _ _ _ _ _ _ _ _) (Ev.ifF (by omega) ?_)
    rw [implPutWord_tell]
    simp only [Option.bind_some]
    refine Ev.ifT (by rw [wordBytes_len]; omega) ?_
    rw [padded_tell r hr]
    simp only [Option.bind_some]
    refine Ev.ifT (by simp [wordBytes_len]; omega) ?_
    rw [← List.append_assoc (o ++ wordBytes c)]
    exact Ev.now _
  | d + 1, i, o, hi, ho => by
    have e3 : w.drop i = w[i]'(by omega) :: w.drop (i + 1) := List.drop_eq_getElem_cons (by omega)
    have ih := implPutSum_l0 w c r hw hr d (i + 1) (o ++ wordBytes (w[i]'(by omega))) (by omega) (by simp [wordBytes_len]; omega)
    rw [e3]
    simp only [wordsBytes]
    rw [← List.append_assoc o]
    refine Ev.step (fun _ => impl_PutSum.l0.eq_2 _ _ _ _ _ _ _ _) (Ev.ifT (by omega) (Ev.ifT (by omega) (Ev.ifT (by omega) ?_)))
    rw [implPutWord_tell, rd_get w i (by omega), wrap64_succ (by omega)]
    simp only [Option.bind_some]
    exact Ev.ifT (by rw [wordBytes_len]; omega) ih
theorem implPutSum_ev (w : List Int) (c : Int) (r : List Int) : Ev (fun k => impl_PutSum.f k w c r) (sumBytes w c r) := by
  unfold impl_PutSum.f sumBytes
  refine Ev.bind (implSumOk_ev w c r) ?_
  by_cases h : sumOkP w c r
  · rw [if_pos h]
    have e := implPutSum_l0 w c r h.1 (by have := h.2.2.2.2; omega) 8 0 [] (by omega) rfl
    exact Ev.ifT (decide_eq_true h) e
  · rw [if_neg h]
    exact Ev.ifF (by simpa using h) (Ev.now _)
theorem sumBytes_len (w : List Int) (c : Int) (r : List Int) : (sumBytes w c r).length ≤ 100 := by
  unfold sumBytes
  split
  · rename_i h
    have := h.1
    have := h.2.2.2.2
    simp [wordsBytes_len, wordBytes_len]
    omega
  · simp

theorem FnExactPutSum : ∀ (l0_0 : List Int) (a0_1 : Int) (l0_2 : List Int), l0_0.length ≤ maxLen → (∀ x ∈ l0_0, (Lit.int .i64 x).wf = true) → (Lit.int .i64 a0_1).wf = true → l0_2.length ≤ maxLen → (∀ x ∈ l0_2, (Lit.int .u8 x).wf = true) → ∃ k, laws_FnExactPutSum.f k l0_0 a0_1 l0_2 = some true := by
  intro w c r hw _ _ hr _
  unfold maxLen at hw hr
  refine Ev.rounds ?_
  unfold laws_FnExactPutSum.f
  refine Ev.bindc (szSum_tell w c r 1048576 hw hr (by omega) (by omega)) ?_
  by_cases hl : (1048576 : Int) < (w.length : Int) + r.length
  · rw [if_pos hl]; exact Ev.ifT (by omega) (Ev.now _)
  · rw [if_neg hl]
    have t := toSum_ev w c r (by omega) (by omega)
    have e := eqSum_ev w c r (by omega) (by omega)
    have m := markSum_ev w c r 1 (by omega) (by omega) (by omega) (by omega)
    have s := specPutSum_ev w c r
    have i := implPutSum_ev w c r
    have hg := sumBytes_len w c r
    generalize sumBytes w c r = g at *
    have eg := eqByteS_ev g (by omega)
    have mg := markByteS_ev g 1 (by omega) (by omega) (by omega)
    have hd := heldByteS_ev g 1 (by omega) (by omega) (by omega)
    refine Ev.ifF (by omega) (Ev.bind t (Ev.bind s (Ev.bind t (Ev.bind i (Ev.bind eg (Ev.ifT rfl (Ev.bind t (Ev.bind e (Ev.ifT rfl (Ev.bind m (Ev.ifF (by omega) (Ev.bind eg ?_))))))))))))
    simp only [Bool.not_true]
    refine Ev.step (fun k => by simp only [laws_FnExactPutSum.j0]; rfl) ?_
    exact Ev.ifF (by simp) (Ev.bind mg (Ev.bind hd (Ev.ifF (by omega) (Ev.ifT rfl (Ev.bind t (Ev.bind i (Ev.bind eg (Ev.ifT rfl (Ev.bind hd (Ev.ifF (by omega) (Ev.ifT rfl (Ev.now _))))))))))))

end Go.Proofs.Ytdilibnfihcmkaa.Pure
