/- The plain law of FnExactSumNew, over numbers and lists alone: what the printed functions answer is true for all arguments. Conditions: those of the arguments' kinds. -/
import Derived.Test.YtndoapmehgfdkaaPFnExactSumNewx2
import Derived.Test.YtndoapmehgfdkaaAid
set_option linter.unusedVariables false
set_option linter.unusedSimpArgs false
namespace Go.Proofs.Ytndoapmehgfdkaa.Pure
open Go.RowKit Go.Proofs.Ytndoapmehgfdkaa.Aid Go.Proofs.Ytndoapmehgfdkaa.PFnExactSumNew Go.Proofs.YtndoapmehgfdkaaW.PrintWords Go.Proofs.YtndoapmehgfdkaaW.PrintLast Go.Proofs.YtndoapmehgfdkaaW.PrintMore
theorem eqByteS_l0 (l : List Int) (hl : l.length ≤ 140737488351232) : ∀ (d : Nat) (i : Nat), i + d = l.length → Ev (fun k => laws_eqByteS.l0 k l l (i : Int)) true
  | 0, i, hi => by
    refine Ev.step (f := fun _ => some true) (fun k => ?_) (Ev.now _)
    simp only [laws_eqByteS.l0]
    rw [if_neg (by omega)]
  | d + 1, i, hi => by
    have ih := eqByteS_l0 l hl d (i + 1) (by omega)
    refine Ev.step (fun k => ?_) ih
    simp only [laws_eqByteS.l0]
    rw [if_pos (by omega), if_pos (by omega), if_pos (by omega), wrap64_id (by omega) (by omega)]
    simp
theorem eqByteS_ev (l : List Int) (hl : l.length ≤ 140737488351232) : Ev (fun k => laws_eqByteS.f k l l) true := by
  refine Ev.congr (fun k => ?_) (eqByteS_l0 l hl l.length 0 (by simp))
  simp only [laws_eqByteS.f]
  simp

theorem eqIntS_l0 (l : List Int) (hl : l.length ≤ 140737488351232) : ∀ (d : Nat) (i : Nat), i + d = l.length → Ev (fun k => laws_eqIntS.l0 k l l (i : Int)) true
  | 0, i, hi => by
    refine Ev.step (f := fun _ => some true) (fun k => ?_) (Ev.now _)
    simp only [laws_eqIntS.l0]
    rw [if_neg (by omega)]
  | d + 1, i, hi => by
    have ih := eqIntS_l0 l hl d (i + 1) (by omega)
    refine Ev.step (fun k => ?_) ih
    simp only [laws_eqIntS.l0]
    rw [if_pos (by omega), if_pos (by omega), if_pos (by omega), wrap64_id (by omega) (by omega)]
    simp
theorem eqIntS_ev (l : List Int) (hl : l.length ≤ 140737488351232) : Ev (fun k => laws_eqIntS.f k l l) true := by
  refine Ev.congr (fun k => ?_) (eqIntS_l0 l hl l.length 0 (by simp))
  simp only [laws_eqIntS.f]
  simp

def marksB : Int → List Int → List Int
  | _, [] => []
  | c, _ :: r => c % 256 :: marksB (c + 1) r
theorem marksB_length : ∀ (c : Int) (l : List Int), (marksB c l).length = l.length
  | _, [] => rfl
  | c, _ :: r => by simp [marksB, marksB_length (c + 1) r]
theorem marksB_again : ∀ (c : Int) (l : List Int), marksB c (marksB c l) = marksB c l
  | _, [] => rfl
  | c, _ :: r => by simp [marksB, marksB_again (c + 1) r]
theorem markByteS_l0 : ∀ (d : Nat) (x : List Int) (c : Int) (i : Nat), x.length ≤ 140737488355328 → i + d = x.length → 0 ≤ c → c + d ≤ 4611686018427387904 →
    Ev (fun k => laws_markByteS.l0 k x c (i : Int)) (c + d, x.take i ++ marksB c (x.drop i))
  | 0, x, c, i, hl, hi, hc, hc1 => by
    refine Ev.step (f := fun _ => some (c, x)) (fun k => ?_) (Ev.const ?_)
    · simp only [laws_markByteS.l0]
      rw [if_neg (by omega)]
    · rw [List.take_of_length_le (by omega), List.drop_of_length_le (by omega)]
      simp [marksB]
  | d + 1, x, c, i, hl, hi, hc, hc1 => by
    have ih := markByteS_l0 d (x.set i (c % 256)) (c + 1) (i + 1) (by simpa using hl) (by simp; omega) (by omega) (by omega)
    have e1 : (x.set i (c % 256)).take (i + 1) = x.take i ++ [c % 256] := by
      rw [List.take_succ_eq_append_getElem (by simp; omega), List.take_set_of_le (by omega)]; simp
    have e2 : (x.set i (c % 256)).drop (i + 1) = x.drop (i + 1) := by rw [List.drop_set]; simp
    have e3 : x.drop i = x[i]'(by omega) :: x.drop (i + 1) := List.drop_eq_getElem_cons (by omega)
    rw [e1, e2] at ih
    have e4 : (c + ((d + 1 : Nat) : Int), x.take i ++ marksB c (x.drop i)) = (c + 1 + (d : Int), x.take i ++ [c % 256] ++ marksB (c + 1) (x.drop (i + 1))) := by
      rw [e3]; simp [marksB]; omega
    rw [e4]
    refine Ev.step (fun k => ?_) ih
    simp only [laws_markByteS.l0]
    rw [if_pos (by omega), if_pos (by omega), wrap64_id (by omega) (by omega), wrap64_id (by omega) (by omega)]
    simp
theorem markByteS_ev (x : List Int) (c : Int) (hl : x.length ≤ 140737488355328) (hc : 0 ≤ c) (hc1 : c + x.length ≤ 4611686018427387904) : Ev (fun k => laws_markByteS.f k x c) (c + x.length, marksB c x) := by
  have := markByteS_l0 x.length x c 0 hl (by omega) hc hc1
  simpa [laws_markByteS.f] using this
theorem heldByteS_l0 : ∀ (d : Nat) (x : List Int) (c : Int) (i : Nat), x.length ≤ 140737488355328 → i + d = x.length → 0 ≤ c → c + d ≤ 4611686018427387904 → x.drop i = marksB c (x.drop i) →
    Ev (fun k => laws_heldByteS.l0 k x c (i : Int)) (c + d)
  | 0, x, c, i, hl, hi, hc, hc1, hm => by
    refine Ev.step (f := fun _ => some c) (fun k => ?_) (Ev.const (by simp))
    simp only [laws_heldByteS.l0]
    rw [if_neg (by omega)]
  | d + 1, x, c, i, hl, hi, hc, hc1, hm => by
    have e3 : x.drop i = x[i]'(by omega) :: x.drop (i + 1) := List.drop_eq_getElem_cons (by omega)
    rw [e3] at hm
    simp only [marksB, List.cons.injEq] at hm
    have ih := heldByteS_l0 d x (c + 1) (i + 1) hl (by omega) (by omega) (by omega) hm.2
    have e4 : c + ((d + 1 : Nat) : Int) = c + 1 + (d : Int) := by omega
    rw [e4]
    refine Ev.step (fun k => ?_) ih
    simp only [laws_heldByteS.l0]
    rw [if_pos (by omega), if_pos (by omega), if_pos (by rw [rd_get x i (by omega)]; exact hm.1), wrap64_id (by omega) (by omega), wrap64_id (by omega) (by omega)]
    simp
theorem heldByteS_ev (x : List Int) (c : Int) (hl : x.length ≤ 140737488355328) (hc : 0 ≤ c) (hc1 : c + x.length ≤ 4611686018427387904) : Ev (fun k => laws_heldByteS.f k (marksB c x) c) (c + x.length) := by
  have := heldByteS_l0 x.length (marksB c x) c 0 (by rw [marksB_length]; exact hl) (by rw [marksB_length]; omega) hc hc1 (by simp [marksB_again])
  simpa [laws_heldByteS.f] using this

def marksI : Int → List Int → List Int
  | _, [] => []
  | c, _ :: r => c :: marksI (c + 1) r
theorem marksI_length : ∀ (c : Int) (l : List Int), (marksI c l).length = l.length
  | _, [] => rfl
  | c, _ :: r => by simp [marksI, marksI_length (c + 1) r]
theorem marksI_again : ∀ (c : Int) (l : List Int), marksI c (marksI c l) = marksI c l
  | _, [] => rfl
  | c, _ :: r => by simp [marksI, marksI_again (c + 1) r]
theorem markIntS_l0 : ∀ (d : Nat) (x : List Int) (c : Int) (i : Nat), x.length ≤ 140737488355328 → i + d = x.length → 0 ≤ c → c + d ≤ 4611686018427387904 →
    Ev (fun k => laws_markIntS.l0 k x c (i : Int)) (c + d, x.take i ++ marksI c (x.drop i))
  | 0, x, c, i, hl, hi, hc, hc1 => by
    refine Ev.step (f := fun _ => some (c, x)) (fun k => ?_) (Ev.const ?_)
    · simp only [laws_markIntS.l0]
      rw [if_neg (by omega)]
    · rw [List.take_of_length_le (by omega), List.drop_of_length_le (by omega)]
      simp [marksI]
  | d + 1, x, c, i, hl, hi, hc, hc1 => by
    have ih := markIntS_l0 d (x.set i (c)) (c + 1) (i + 1) (by simpa using hl) (by simp; omega) (by omega) (by omega)
    have e1 : (x.set i (c)).take (i + 1) = x.take i ++ [c] := by
      rw [List.take_succ_eq_append_getElem (by simp; omega), List.take_set_of_le (by omega)]; simp
    have e2 : (x.set i (c)).drop (i + 1) = x.drop (i + 1) := by rw [List.drop_set]; simp
    have e3 : x.drop i = x[i]'(by omega) :: x.drop (i + 1) := List.drop_eq_getElem_cons (by omega)
    rw [e1, e2] at ih
    have e4 : (c + ((d + 1 : Nat) : Int), x.take i ++ marksI c (x.drop i)) = (c + 1 + (d : Int), x.take i ++ [c] ++ marksI (c + 1) (x.drop (i + 1))) := by
      rw [e3]; simp [marksI]; omega
    rw [e4]
    refine Ev.step (fun k => ?_) ih
    simp only [laws_markIntS.l0]
    rw [if_pos (by omega), if_pos (by omega), wrap64_id (by omega) (by omega), wrap64_id (by omega) (by omega)]
    simp
theorem markIntS_ev (x : List Int) (c : Int) (hl : x.length ≤ 140737488355328) (hc : 0 ≤ c) (hc1 : c + x.length ≤ 4611686018427387904) : Ev (fun k => laws_markIntS.f k x c) (c + x.length, marksI c x) := by
  have := markIntS_l0 x.length x c 0 hl (by omega) hc hc1
  simpa [laws_markIntS.f] using this
theorem heldIntS_l0 : ∀ (d : Nat) (x : List Int) (c : Int) (i : Nat), x.length ≤ 140737488355328 → i + d = x.length → 0 ≤ c → c + d ≤ 4611686018427387904 → x.drop i = marksI c (x.drop i) →
    Ev (fun k => laws_heldIntS.l0 k x c (i : Int)) (c + d)
  | 0, x, c, i, hl, hi, hc, hc1, hm => by
    refine Ev.step (f := fun _ => some c) (fun k => ?_) (Ev.const (by simp))
    simp only [laws_heldIntS.l0]
    rw [if_neg (by omega)]
  | d + 1, x, c, i, hl, hi, hc, hc1, hm => by
    have e3 : x.drop i = x[i]'(by omega) :: x.drop (i + 1) := List.drop_eq_getElem_cons (by omega)
    rw [e3] at hm
    simp only [marksI, List.cons.injEq] at hm
    have ih := heldIntS_l0 d x (c + 1) (i + 1) hl (by omega) (by omega) (by omega) hm.2
    have e4 : c + ((d + 1 : Nat) : Int) = c + 1 + (d : Int) := by omega
    rw [e4]
    refine Ev.step (fun k => ?_) ih
    simp only [laws_heldIntS.l0]
    rw [if_pos (by omega), if_pos (by omega), if_pos (by rw [rd_get x i (by omega)]; exact hm.1), wrap64_id (by omega) (by omega), wrap64_id (by omega) (by omega)]
    simp
theorem heldIntS_ev (x : List Int) (c : Int) (hl : x.length ≤ 140737488355328) (hc : 0 ≤ c) (hc1 : c + x.length ≤ 4611686018427387904) : Ev (fun k => laws_heldIntS.f k (marksI c x) c) (c + x.length) := by
  have := heldIntS_l0 x.length (marksI c x) c 0 (by rw [marksI_length]; exact hl) (by rw [marksI_length]; omega) hc hc1 (by simp [marksI_again])
  simpa [laws_heldIntS.f] using this

theorem eqSum_ev (w : List Int) (c : Int) (r : List Int) (hw : w.length ≤ 17592186044416) (hr : r.length ≤ 140737488351232) : Ev (fun k => laws_eqSum.f k w c r w c r) true := by
  unfold laws_eqSum.f
  exact Ev.bind (eqIntS_ev w (by omega)) (Ev.ifT rfl (Ev.ifT rfl (Ev.bind (eqByteS_ev r hr) (Ev.ifT rfl (Ev.now _)))))
theorem markSum_ev (w : List Int) (c : Int) (r : List Int) (m : Int) (hw : w.length ≤ 17592186044416) (hr : r.length ≤ 140737488351232) (hm : 0 ≤ m) (hm1 : m ≤ 1000000000000000000) :
    Ev (fun k => laws_markSum.f k w c r m) (m + w.length + r.length, marksI m w, marksB (m + w.length) r) := by
  unfold laws_markSum.f
  exact Ev.bind (markIntS_ev w m (by omega) hm (by omega)) (Ev.bind (markByteS_ev r (m + w.length) (by omega) (by omega) (by omega)) (Ev.now _))
theorem heldSum_ev (w : List Int) (c : Int) (r : List Int) (m : Int) (hw : w.length ≤ 17592186044416) (hr : r.length ≤ 140737488351232) (hm : 0 ≤ m) (hm1 : m ≤ 1000000000000000000) :
    Ev (fun k => laws_heldSum.f k (marksI m w) c (marksB (m + w.length) r) m) (m + w.length + r.length) := by
  unfold laws_heldSum.f
  exact Ev.bind (heldIntS_ev w m (by omega) hm (by omega)) (Ev.ifF (by omega) (Ev.bind (heldByteS_ev r (m + w.length) (by omega) (by omega) (by omega)) (Ev.ifF (by omega) (Ev.now _))))

theorem FnExactSumNew : laws_FnExactSumNew.Pure := by
  refine Ev.rounds ?_
  unfold laws_FnExactSumNew.f
  obtain ⟨w, hw, h1, h2⟩ : ∃ w : List Int, w.length = 8 ∧ spec_SumNew.f = some (w, 0, []) ∧ impl_SumNew.f = some (w, 0, []) := ⟨_, rfl, rfl, rfl⟩
  have e := eqSum_ev w 0 [] (by omega) (by simp)
  have m := markSum_ev w 0 [] 1 (by omega) (by simp) (by omega) (by omega)
  have h := heldSum_ev w 0 [] 1 (by omega) (by simp) (by omega) (by omega)
  exact Ev.bindc h1 (Ev.bindc h2 (Ev.bind e (Ev.ifT rfl (Ev.bind m (Ev.bind h (Ev.ifF (by simp; omega) (Ev.ifT rfl (Ev.bindc h2 (Ev.bind e (Ev.ifT rfl (Ev.bind h (Ev.ifF (by simp; omega) (Ev.ifT rfl (Ev.now _))))))))))))))

end Go.Proofs.Ytndoapmehgfdkaa.Pure
