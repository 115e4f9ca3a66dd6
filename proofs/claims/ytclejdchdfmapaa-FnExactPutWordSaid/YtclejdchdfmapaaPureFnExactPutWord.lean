/- The plain law of FnExactPutWord, over numbers and lists alone: what the printed functions answer is true for all arguments. Conditions: those of the arguments' kinds. -/
import Derived.Test.YtclejdchdfmapaaPFnExactPutWordx1
import Derived.Test.YtclejdchdfmapaaAid
set_option linter.unusedVariables false
set_option linter.unusedSimpArgs false
namespace Go.Proofs.Ytclejdchdfmapaa.Pure
open Go.RowKit Go.Proofs.Ytclejdchdfmapaa.Aid Go.Proofs.Ytclejdchdfmapaa.PFnExactPutWord Go.Proofs.YtclejdchdfmapaaW.PrintWords Go.Proofs.YtclejdchdfmapaaW.PrintLast Go.Proofs.YtclejdchdfmapaaW.PrintMore
theorem eqByteS_l0 (l : List Int) (hl : l.length ≤ 140737488351232) : ∀ (d : Nat) (i : Nat), i + d = l.length → Ev (fun k => laws_eqByteS.l0 k l l (i : Int)) true
  | 0, i, hi => by
    refine Ev.step (f := fun _ => some true) (fun k => ?_) (Ev.now _)
    simp only [laws_eqByteS.l0]
    rw [if_neg (by omega)]
  | d + 1, i, hi => by
    have ih := eqByteS_l0 l hl d (i + 1) (by omega)
    refine Ev.step (fun k => ?_) ih
    simp only [laws_eqByteS.l0]
    rw [if_pos (by omega), if_pos (by omega), if_pos (by omega), wrap64_id (by omega) (by omega)]
    simp
theorem eqByteS_ev (l : List Int) (hl : l.length ≤ 140737488351232) : Ev (fun k => laws_eqByteS.f k l l) true := by
  refine Ev.congr (fun k => ?_) (eqByteS_l0 l hl l.length 0 (by simp))
  simp only [laws_eqByteS.f]
  simp

def marksB : Int → List Int → List Int
  | _, [] => []
  | c, _ :: r => c % 256 :: marksB (c + 1) r
theorem marksB_length : ∀ (c : Int) (l : List Int), (marksB c l).length = l.length
  | _, [] => rfl
  | c, _ :: r => by simp [marksB, marksB_length (c + 1) r]
theorem marksB_again : ∀ (c : Int) (l : List Int), marksB c (marksB c l) = marksB c l
  | _, [] => rfl
  | c, _ :: r => by simp [marksB, marksB_again (c + 1) r]
theorem markByteS_l0 : ∀ (d : Nat) (x : List Int) (c : Int) (i : Nat), x.length ≤ 140737488355328 → i + d = x.length → 0 ≤ c → c + d ≤ 4611686018427387904 →
    Ev (fun k => laws_markByteS.l0 k x c (i : Int)) (c + d, x.take i ++ marksB c (x.drop i))
  | 0, x, c, i, hl, hi, hc, hc1 => by
    refine Ev.step (f := fun _ => some (c, x)) (fun k => ?_) (Ev.const ?_)
    · simp only [laws_markByteS.l0]
      rw [if_neg (by omega)]
    · rw [List.take_of_length_le (by omega), List.drop_of_length_le (by omega)]
      simp [marksB]
  | d + 1, x, c, i, hl, hi, hc, hc1 => by
    have ih := markByteS_l0 d (x.set i (c % 256)) (c + 1) (i + 1) (by simpa using hl) (by simp; omega) (by omega) (by omega)
    have e1 : (x.set i (c % 256)).take (i + 1) = x.take i ++ [c % 256] := by
      rw [List.take_succ_eq_append_getElem (by simp; omega), List.take_set_of_le (by omega)]; simp
    have e2 : (x.set i (c % 256)).drop (i + 1) = x.drop (i + 1) := by rw [List.drop_set]; simp
    have e3 : x.drop i = x[i]'(by omega) :: x.drop (i + 1) := List.drop_eq_getElem_cons (by omega)
    rw [e1, e2] at ih
    have e4 : (c + ((d + 1 : Nat) : Int), x.take i ++ marksB c (x.drop i)) = (c + 1 + (d : Int), x.take i ++ [c % 256] ++ marksB (c + 1) (x.drop (i + 1))) := by
      rw [e3]; simp [marksB]; omega
    rw [e4]
    refine Ev.step (fun k => ?_) ih
    simp only [laws_markByteS.l0]
    rw [if_pos (by omega), if_pos (by omega), wrap64_id (by omega) (by omega), wrap64_id (by omega) (by omega)]
    simp
theorem markByteS_ev (x : List Int) (c : Int) (hl : x.length ≤ 140737488355328) (hc : 0 ≤ c) (hc1 : c + x.length ≤ 4611686018427387904) : Ev (fun k => laws_markByteS.f k x c) (c + x.length, marksB c x) := by
  have := markByteS_l0 x.length x c 0 hl (by omega) hc hc1
  simpa [laws_markByteS.f] using this
theorem heldByteS_l0 : ∀ (d : Nat) (x : List Int) (c : Int) (i : Nat), x.length ≤ 140737488355328 → i + d = x.length → 0 ≤ c → c + d ≤ 4611686018427387904 → x.drop i = marksB c (x.drop i) →
    Ev (fun k => laws_heldByteS.l0 k x c (i : Int)) (c + d)
  | 0, x, c, i, hl, hi, hc, hc1, hm => by
    refine Ev.step (f := fun _ => some c) (fun k => ?_) (Ev.const (by simp))
    simp only [laws_heldByteS.l0]
    rw [if_neg (by omega)]
  | d + 1, x, c, i, hl, hi, hc, hc1, hm => by
    have e3 : x.drop i = x[i]'(by omega) :: x.drop (i + 1) := List.drop_eq_getElem_cons (by omega)
    rw [e3] at hm
    simp only [marksB, List.cons.injEq] at hm
    have ih := heldByteS_l0 d x (c + 1) (i + 1) hl (by omega) (by omega) (by omega) hm.2
    have e4 : c + ((d + 1 : Nat) : Int) = c + 1 + (d : Int) := by omega
    rw [e4]
    refine Ev.step (fun k => ?_) ih
    simp only [laws_heldByteS.l0]
    rw [if_pos (by omega), if_pos (by omega), if_pos (by rw [rd_get x i (by omega)]; exact hm.1), wrap64_id (by omega) (by omega), wrap64_id (by omega) (by omega)]
    simp
theorem heldByteS_ev (x : List Int) (c : Int) (hl : x.length ≤ 140737488355328) (hc : 0 ≤ c) (hc1 : c + x.length ≤ 4611686018427387904) : Ev (fun k => laws_heldByteS.f k (marksB c x) c) (c + x.length) := by
  have := heldByteS_l0 x.length (marksB c x) c 0 (by rw [marksB_length]; exact hl) (by rw [marksB_length]; omega) hc hc1 (by simp [marksB_again])
  simpa [laws_heldByteS.f] using this

def wordBytes (v : Int) : List Int := [v % 256, v / 256 % 256, v / 65536 % 256, v / 16777216 % 256]
theorem specPutWord_ev (v : Int) : Ev (fun k => spec_PutWord.f k v) (wordBytes v) := by
  have e : Go.bits .and .i64 v 4294967295 = v % 4294967296 := and_mask 32 (by decide) v
  have go : ∀ (x : Int) (l : List Int) (i : Nat), 0 ≤ x → x < 4294967296 → l.length < 5 → (i : Int) < 4 → ∀ r, Ev (fun k => spec_PutWord.l0 k (x / 256) (l ++ [x % 256]) ((i + 1 : Nat) : Int)) r → Ev (fun k => spec_PutWord.l0 k x l (i : Int)) r := by
    intro x l i h0 h1 hl hi r h
    refine Ev.step (fun k => ?_) h
    simp only [spec_PutWord.l0]
    rw [if_pos hi, if_pos (by omega), Int.tdiv_eq_ediv_of_nonneg h0, Int.tmod_eq_emod_of_nonneg h0, wrap64_id (by omega) (by omega), wrap64_id (by omega) (by omega), show x % 256 % 256 = x % 256 by omega]
    simp
  unfold spec_PutWord.f
  rw [e]
  have h0 : 0 ≤ v % 4294967296 := by omega
  have h1 : v % 4294967296 < 4294967296 := by omega
  have last : ∀ x l, Ev (fun k => spec_PutWord.l0 k x l ((4 : Nat) : Int)) l := by
    intro x l
    refine Ev.step (f := fun _ => some l) (fun k => ?_) (Ev.now _)
    simp only [spec_PutWord.l0]
    rw [if_neg (by omega)]
  have f := go (v % 4294967296) [] 0 h0 h1 (by simp) (by omega) _ (go _ _ 1 (by omega) (by omega) (by simp) (by omega) _ (go _ _ 2 (by omega) (by omega) (by simp) (by omega) _ (go _ _ 3 (by omega) (by omega) (by simp) (by omega) _ (last _ _))))
  have g : wordBytes v = ((([] ++ [v % 4294967296 % 256]) ++ [v % 4294967296 / 256 % 256]) ++ [v % 4294967296 / 256 / 256 % 256]) ++ [v % 4294967296 / 256 / 256 / 256 % 256] := by
    simp only [wordBytes, List.nil_append, List.cons_append, List.cons.injEq, and_true]
    omega
  rw [g]
  exact f
theorem implPutWord_tell (v : Int) : impl_PutWord.f v = some (wordBytes v) := rfl

theorem FnExactPutWord : laws_FnExactPutWord.Pure := by
  intro v hv
  refine Ev.rounds ?_
  unfold laws_FnExactPutWord.f
  have hl : (wordBytes v).length = 4 := rfl
  have e := eqByteS_ev (wordBytes v) (by omega)
  have m := markByteS_ev (wordBytes v) 1 (by omega) (by omega) (by omega)
  have h := heldByteS_ev (wordBytes v) 1 (by omega) (by omega) (by omega)
  refine Ev.bind (specPutWord_ev v) (Ev.bindc (implPutWord_tell v) (Ev.bind e (Ev.ifT rfl (Ev.bind m (Ev.bind h (Ev.ifF (by omega) (Ev.ifT rfl (Ev.bindc (implPutWord_tell v) (Ev.bind e (Ev.ifT rfl (Ev.bind h (Ev.ifF (by omega) (Ev.ifT rfl (Ev.now _))))))))))))))

end Go.Proofs.Ytclejdchdfmapaa.Pure
