/- The plain law of FnExactFixedLens, over numbers and lists alone: what the printed functions answer is true for all arguments. Conditions: those of the arguments' kinds. -/
import Derived.Test.YtboefincoghbbacQFnExactFixedLensx2
import Derived.Test.YtboefincoghbbacAid
set_option linter.unusedVariables false
set_option linter.unusedSimpArgs false
namespace Go.Proofs.Ytboefincoghbbac.Pure
open Go.RowKit Go.Proofs.Ytboefincoghbbac.Aid Go.Proofs.Ytboefincoghbbac.QFnExactFixedLens Go.Proofs.YtboefincoghbbacW.PrintWords Go.Proofs.YtboefincoghbbacW.PrintLast Go.Proofs.YtboefincoghbbacW.PrintMore
theorem eqIntS_l0 (l : List Int) (hl : l.length ≤ 140737488351232) : ∀ (d : Nat) (i : Nat), i + d = l.length → Ev (fun k => laws_eqIntS.l0 k l l (i : Int)) true
  | 0, i, hi => by
    refine Ev.step (f := fun _ => some true) (fun k => ?_) (Ev.now _)
    simp only [laws_eqIntS.l0]
    rw [if_neg (by omega)]
  | d + 1, i, hi => by
    have ih := eqIntS_l0 l hl d (i + 1) (by omega)
    refine Ev.step (fun k => ?_) ih
    simp only [laws_eqIntS.l0]
    rw [if_pos (by omega), if_pos (by omega), if_pos (by omega), wrap64_id (by omega) (by omega)]
    simp
theorem eqIntS_ev (l : List Int) (hl : l.length ≤ 140737488351232) : Ev (fun k => laws_eqIntS.f k l l) true := by
  refine Ev.congr (fun k => ?_) (eqIntS_l0 l hl l.length 0 (by simp))
  simp only [laws_eqIntS.f]
  simp

def marksI : Int → List Int → List Int
  | _, [] => []
  | c, _ :: r => c :: marksI (c + 1) r
theorem marksI_length : ∀ (c : Int) (l : List Int), (marksI c l).length = l.length
  | _, [] => rfl
  | c, _ :: r => by simp [marksI, marksI_length (c + 1) r]
theorem marksI_again : ∀ (c : Int) (l : List Int), marksI c (marksI c l) = marksI c l
  | _, [] => rfl
  | c, _ :: r => by simp [marksI, marksI_again (c + 1) r]
theorem markIntS_l0 : ∀ (d : Nat) (x : List Int) (c : Int) (i : Nat), x.length ≤ 140737488355328 → i + d = x.length → 0 ≤ c → c + d ≤ 4611686018427387904 →
    Ev (fun k => laws_markIntS.l0 k x c (i : Int)) (c + d, x.take i ++ marksI c (x.drop i))
  | 0, x, c, i, hl, hi, hc, hc1 => by
    refine Ev.step (f := fun _ => some (c, x)) (fun k => ?_) (Ev.const ?_)
    · simp only [laws_markIntS.l0]
      rw [if_neg (by omega)]
    · rw [List.take_of_length_le (by omega), List.drop_of_length_le (by omega)]
      simp [marksI]
  | d + 1, x, c, i, hl, hi, hc, hc1 => by
    have ih := markIntS_l0 d (x.set i (c)) (c + 1) (i + 1) (by simpa using hl) (by simp; omega) (by omega) (by omega)
    have e1 : (x.set i (c)).take (i + 1) = x.take i ++ [c] := by
      rw [List.take_succ_eq_append_getElem (by simp; omega), List.take_set_of_le (by omega)]; simp
    have e2 : (x.set i (c)).drop (i + 1) = x.drop (i + 1) := by rw [List.drop_set]; simp
    have e3 : x.drop i = x[i]'(by omega) :: x.drop (i + 1) := List.drop_eq_getElem_cons (by omega)
    rw [e1, e2] at ih
    have e4 : (c + ((d + 1 : Nat) : Int), x.take i ++ marksI c (x.drop i)) = (c + 1 + (d : Int), x.take i ++ [c] ++ marksI (c + 1) (x.drop (i + 1))) := by
      rw [e3]; simp [marksI]; omega
    rw [e4]
    refine Ev.step (fun k => ?_) ih
    simp only [laws_markIntS.l0]
    rw [if_pos (by omega), if_pos (by omega), wrap64_id (by omega) (by omega), wrap64_id (by omega) (by omega)]
    simp
theorem markIntS_ev (x : List Int) (c : Int) (hl : x.length ≤ 140737488355328) (hc : 0 ≤ c) (hc1 : c + x.length ≤ 4611686018427387904) : Ev (fun k => laws_markIntS.f k x c) (c + x.length, marksI c x) := by
  have := markIntS_l0 x.length x c 0 hl (by omega) hc hc1
  simpa [laws_markIntS.f] using this
theorem heldIntS_l0 : ∀ (d : Nat) (x : List Int) (c : Int) (i : Nat), x.length ≤ 140737488355328 → i + d = x.length → 0 ≤ c → c + d ≤ 4611686018427387904 → x.drop i = marksI c (x.drop i) →
    Ev (fun k => laws_heldIntS.l0 k x c (i : Int)) (c + d)
  | 0, x, c, i, hl, hi, hc, hc1, hm => by
    refine Ev.step (f := fun _ => some c) (fun k => ?_) (Ev.const (by simp))
    simp only [laws_heldIntS.l0]
    rw [if_neg (by omega)]
  | d + 1, x, c, i, hl, hi, hc, hc1, hm => by
    have e3 : x.drop i = x[i]'(by omega) :: x.drop (i + 1) := List.drop_eq_getElem_cons (by omega)
    rw [e3] at hm
    simp only [marksI, List.cons.injEq] at hm
    have ih := heldIntS_l0 d x (c + 1) (i + 1) hl (by omega) (by omega) (by omega) hm.2
    have e4 : c + ((d + 1 : Nat) : Int) = c + 1 + (d : Int) := by omega
    rw [e4]
    refine Ev.step (fun k => ?_) ih
    simp only [laws_heldIntS.l0]
    rw [if_pos (by omega), if_pos (by omega), if_pos (by rw [rd_get x i (by omega)]; exact hm.1), wrap64_id (by omega) (by omega), wrap64_id (by omega) (by omega)]
    simp
theorem heldIntS_ev (x : List Int) (c : Int) (hl : x.length ≤ 140737488355328) (hc : 0 ≤ c) (hc1 : c + x.length ≤ 4611686018427387904) : Ev (fun k => laws_heldIntS.f k (marksI c x) c) (c + x.length) := by
  have := heldIntS_l0 x.length (marksI c x) c 0 (by rw [marksI_length]; exact hl) (by rw [marksI_length]; omega) hc hc1 (by simp [marksI_again])
  simpa [laws_heldIntS.f] using this

theorem FnExactFixedLens : laws_FnExactFixedLens.Pure := by
  refine Ev.rounds ?_
  unfold laws_FnExactFixedLens.f
  obtain ⟨w, hw, h1, h2⟩ : ∃ w : List Int, w.length = 285 ∧ spec_FixedLens.f 400 = some w ∧ impl_FixedLens.f = some w :=
    ⟨List.replicate 256 9 ++ List.replicate 3 4 ++ List.replicate 10 5 ++ List.replicate 16 4, by decide +kernel, by decide +kernel, by decide +kernel⟩
  have e := eqIntS_ev w (by omega)
  have m := markIntS_ev w 1 (by omega) (by omega) (by omega)
  have h := heldIntS_ev w 1 (by omega) (by omega) (by omega)
  exact Ev.bind (Ev.of (fun k => spec_FixedLens.mono k) h1) (Ev.bindc h2 (Ev.bind e (Ev.ifT rfl (Ev.bind m (Ev.bind h (Ev.ifF (by simp; omega) (Ev.ifT rfl (Ev.bindc h2 (Ev.bind e (Ev.ifT rfl (Ev.bind h (Ev.ifF (by simp; omega) (Ev.ifT rfl (Ev.now _))))))))))))))

end Go.Proofs.Ytboefincoghbbac.Pure
