/- The plain law of FnExactPutVar, over numbers and lists alone: what the printed functions answer is true for all arguments. Conditions: those of the arguments' kinds. -/
import Derived.Test.YtclejdchdfmapabPFnExactPutVarx1
import Derived.Test.YtclejdchdfmapabAid
set_option linter.unusedVariables false
set_option linter.unusedSimpArgs false
namespace Go.Proofs.Ytclejdchdfmapab.Pure
open Go.RowKit Go.Proofs.Ytclejdchdfmapab.Aid Go.Proofs.Ytclejdchdfmapab.PFnExactPutVar Go.Proofs.YtclejdchdfmapabW.PrintWords Go.Proofs.YtclejdchdfmapabW.PrintLast Go.Proofs.YtclejdchdfmapabW.PrintMore
theorem in_tell (a b c : Int) : impl_in.f a b c = some (decide (b ≤ a ∧ a ≤ c)) := by
  unfold impl_in.f
  by_cases h : a ≥ b
  · rw [if_pos h]; congr 1; rw [Bool.eq_iff_iff]; simp only [decide_eq_true_eq]; omega
  · rw [if_neg h]; congr 1; symm; rw [decide_eq_false_iff_not]; omega

theorem eqByteS_l0 (l : List Int) (hl : l.length ≤ 140737488351232) : ∀ (d : Nat) (i : Nat), i + d = l.length → Ev (fun k => laws_eqByteS.l0 k l l (i : Int)) true
  | 0, i, hi => by
    refine Ev.step (f := fun _ => some true) (fun k => ?_) (Ev.now _)
    simp only [laws_eqByteS.l0]
    rw [if_neg (by omega)]
  | d + 1, i, hi => by
    have ih := eqByteS_l0 l hl d (i + 1) (by omega)
    refine Ev.step (fun k => ?_) ih
    simp only [laws_eqByteS.l0]
    rw [if_pos (by omega), if_pos (by omega), if_pos (by omega), wrap64_id (by omega) (by omega)]
    simp
theorem eqByteS_ev (l : List Int) (hl : l.length ≤ 140737488351232) : Ev (fun k => laws_eqByteS.f k l l) true := by
  refine Ev.congr (fun k => ?_) (eqByteS_l0 l hl l.length 0 (by simp))
  simp only [laws_eqByteS.f]
  simp

def marksB : Int → List Int → List Int
  | _, [] => []
  | c, _ :: r => c % 256 :: marksB (c + 1) r
theorem marksB_length : ∀ (c : Int) (l : List Int), (marksB c l).length = l.length
  | _, [] => rfl
  | c, _ :: r => by simp [marksB, marksB_length (c + 1) r]
theorem marksB_again : ∀ (c : Int) (l : List Int), marksB c (marksB c l) = marksB c l
  | _, [] => rfl
  | c, _ :: r => by simp [marksB, marksB_again (c + 1) r]
theorem markByteS_l0 : ∀ (d : Nat) (x : List Int) (c : Int) (i : Nat), x.length ≤ 140737488355328 → i + d = x.length → 0 ≤ c → c + d ≤ 4611686018427387904 →
    Ev (fun k => laws_markByteS.l0 k x c (i : Int)) (c + d, x.take i ++ marksB c (x.drop i))
  | 0, x, c, i, hl, hi, hc, hc1 => by
    refine Ev.step (f := fun _ => some (c, x)) (fun k => ?_) (Ev.const ?_)
    · simp only [laws_markByteS.l0]
      rw [if_neg (by omega)]
    · rw [List.take_of_length_le (by omega), List.drop_of_length_le (by omega)]
      simp [marksB]
  | d + 1, x, c, i, hl, hi, hc, hc1 => by
    have ih := markByteS_l0 d (x.set i (c % 256)) (c + 1) (i + 1) (by simpa using hl) (by simp; omega) (by omega) (by omega)
    have e1 : (x.set i (c % 256)).take (i + 1) = x.take i ++ [c % 256] := by
      rw [List.take_succ_eq_append_getElem (by simp; omega), List.take_set_of_le (by omega)]; simp
    have e2 : (x.set i (c % 256)).drop (i + 1) = x.drop (i + 1) := by rw [List.drop_set]; simp
    have e3 : x.drop i = x[i]'(by omega) :: x.drop (i + 1) := List.drop_eq_getElem_cons (by omega)
    rw [e1, e2] at ih
    have e4 : (c + ((d + 1 : Nat) : Int), x.take i ++ marksB c (x.drop i)) = (c + 1 + (d : Int), x.take i ++ [c % 256] ++ marksB (c + 1) (x.drop (i + 1))) := by
      rw [e3]; simp [marksB]; omega
    rw [e4]
    refine Ev.step (fun k => ?_) ih
    simp only [laws_markByteS.l0]
    rw [if_pos (by omega), if_pos (by omega), wrap64_id (by omega) (by omega), wrap64_id (by omega) (by omega)]
    simp
theorem markByteS_ev (x : List Int) (c : Int) (hl : x.length ≤ 140737488355328) (hc : 0 ≤ c) (hc1 : c + x.length ≤ 4611686018427387904) : Ev (fun k => laws_markByteS.f k x c) (c + x.length, marksB c x) := by
  have := markByteS_l0 x.length x c 0 hl (by omega) hc hc1
  simpa [laws_markByteS.f] using this
theorem heldByteS_l0 : ∀ (d : Nat) (x : List Int) (c : Int) (i : Nat), x.length ≤ 140737488355328 → i + d = x.length → 0 ≤ c → c + d ≤ 4611686018427387904 → x.drop i = marksB c (x.drop i) →
    Ev (fun k => laws_heldByteS.l0 k x c (i : Int)) (c + d)
  | 0, x, c, i, hl, hi, hc, hc1, hm => by
    refine Ev.step (f := fun _ => some c) (fun k => ?_) (Ev.const (by simp))
    simp only [laws_heldByteS.l0]
    rw [if_neg (by omega)]
  | d + 1, x, c, i, hl, hi, hc, hc1, hm => by
    have e3 : x.drop i = x[i]'(by omega) :: x.drop (i + 1) := List.drop_eq_getElem_cons (by omega)
    rw [e3] at hm
    simp only [marksB, List.cons.injEq] at hm
    have ih := heldByteS_l0 d x (c + 1) (i + 1) hl (by omega) (by omega) (by omega) hm.2
    have e4 : c + ((d + 1 : Nat) : Int) = c + 1 + (d : Int) := by omega
    rw [e4]
    refine Ev.step (fun k => ?_) ih
    simp only [laws_heldByteS.l0]
    rw [if_pos (by omega), if_pos (by omega), if_pos (by rw [rd_get x i (by omega)]; exact hm.1), wrap64_id (by omega) (by omega), wrap64_id (by omega) (by omega)]
    simp
theorem heldByteS_ev (x : List Int) (c : Int) (hl : x.length ≤ 140737488355328) (hc : 0 ≤ c) (hc1 : c + x.length ≤ 4611686018427387904) : Ev (fun k => laws_heldByteS.f k (marksB c x) c) (c + x.length) := by
  have := heldByteS_l0 x.length (marksB c x) c 0 (by rw [marksB_length]; exact hl) (by rw [marksB_length]; omega) hc hc1 (by simp [marksB_again])
  simpa [laws_heldByteS.f] using this

/-- A number, seven bits a byte; f: at most so many more bytes. -/
def varB : Nat → Int → List Int
  | 0, n => [n % 256]
  | f + 1, n => if n < 128 then [n % 256] else (n % 128 + 128) :: varB f (n / 128)
theorem varB_length : ∀ (f : Nat) (n : Int), (varB f n).length ≤ f + 1
  | 0, _ => by simp [varB]
  | f + 1, n => by
    have := varB_length f (n / 128)
    simp only [varB]
    split <;> simp
    omega
theorem specPutVar_go : ∀ (f : Nat) (n : Int), f ≤ 5 → 0 ≤ n → n ≤ 2147483647 → n < 128 ^ (f + 1) → Ev (fun k => spec_PutVar.f k n) (varB f n)
  | 0, n, hf, h0, h1, h2 => by
    refine Ev.step (f := fun k => spec_PutVar.j0 k n false) (fun k => ?_) (Ev.step (f := fun _ => some [n % 256]) (fun k => ?_) (Ev.now _))
    · simp only [spec_PutVar.f]
      rw [if_neg (by omega), decide_eq_false (by omega)]
    · simp only [spec_PutVar.j0]
      rw [if_neg (by simp), if_pos (by omega)]
  | f + 1, n, hf, h0, h1, h2 => by
    have hp : (128 : Int) ^ (f + 1 + 1) = 128 ^ (f + 1) * 128 := Int.pow_succ _ _
    rw [hp] at h2
    have ih := specPutVar_go f (n / 128) (by omega) (by omega) (by omega) (by omega)
    have hl := varB_length f (n / 128)
    by_cases h : n < 128
    · have e : varB (f + 1) n = [n % 256] := by simp [varB, h]
      rw [e]
      refine Ev.step (f := fun k => spec_PutVar.j0 k n false) (fun k => ?_) (Ev.step (f := fun _ => some [n % 256]) (fun k => ?_) (Ev.now _))
      · simp only [spec_PutVar.f]
        rw [if_neg (by omega), decide_eq_false (by omega)]
      · simp only [spec_PutVar.j0]
        rw [if_neg (by simp), if_pos h]
    · have e : varB (f + 1) n = (n % 128 + 128) :: varB f (n / 128) := by simp [varB, h]
      rw [e]
      refine Ev.step (f := fun k => spec_PutVar.j0 k n false) (fun k => ?_) (Ev.step (f := fun k => (spec_PutVar.f k (n / 128)).bind fun t => if ([n % 128 + 128] : List Int).length + t.length < 140737488355328 then some ([n % 128 + 128] ++ t) else none) (r := _) (fun k => ?_) ?_)
      · simp only [spec_PutVar.f]
        rw [if_neg (by omega), decide_eq_false (by omega)]
      · simp only [spec_PutVar.j0]
        rw [if_neg (by simp), if_neg h, Int.tdiv_eq_ediv_of_nonneg h0, Int.tmod_eq_emod_of_nonneg h0, wrap64_id (n := n / 128) (by omega) (by omega), wrap64_id (n := n % 128 + 128) (by omega) (by omega), show (n % 128 + 128) % 256 = n % 128 + 128 by omega]
        rfl
      · exact Ev.bind ih (Ev.ifT (by simp; omega) (Ev.now _))
theorem implPutVar_go : ∀ (f : Nat) (n : Int) (o : List Int), f ≤ 5 → 0 ≤ n → n ≤ 2147483647 → n < 128 ^ (f + 1) → o.length + f ≤ 10 → Ev (fun k => impl_PutVar.l0 k n o) (o ++ varB f n)
  | 0, n, o, hf, h0, h1, h2, ho => by
    refine Ev.step (f := fun _ => some (o ++ [n % 256])) (fun k => ?_) (Ev.now _)
    simp only [impl_PutVar.l0]
    rw [if_neg (by omega), if_pos (by omega)]
  | f + 1, n, o, hf, h0, h1, h2, ho => by
    have hp : (128 : Int) ^ (f + 1 + 1) = 128 ^ (f + 1) * 128 := Int.pow_succ _ _
    rw [hp] at h2
    by_cases h : n < 128
    · have e : varB (f + 1) n = [n % 256] := by simp [varB, h]
      rw [e]
      refine Ev.step (f := fun _ => some (o ++ [n % 256])) (fun k => ?_) (Ev.now _)
      simp only [impl_PutVar.l0]
      rw [if_neg (by omega), if_pos (by omega)]
    · have ih := implPutVar_go f (n / 128) (o ++ [n % 128 + 128]) (by omega) (by omega) (by omega) (by omega) (by simp; omega)
      have e : o ++ varB (f + 1) n = o ++ [n % 128 + 128] ++ varB f (n / 128) := by simp [varB, h]
      rw [e]
      have hm : Go.bits .and .i64 n 127 = n % 128 := and_mask 7 (by decide) n
      refine Ev.step (fun k => ?_) ih
      simp only [impl_PutVar.l0]
      rw [if_pos (by omega), if_pos (by omega), hm, or_low (x := n % 128) (y := 128) 7 (by omega) (by omega) (by omega) (by omega) (by omega) (by omega), show (n % 128 + 128) % 256 = n % 128 + 128 by omega]
def varOf (n : Int) : List Int := if 0 ≤ n ∧ n ≤ 2147483647 then varB 4 n else []
theorem varOf_length (n : Int) : (varOf n).length ≤ 5 := by
  unfold varOf
  split
  · exact varB_length 4 n
  · simp
theorem specPutVar_ev (n : Int) : Ev (fun k => spec_PutVar.f k n) (varOf n) := by
  unfold varOf
  by_cases h : 0 ≤ n ∧ n ≤ 2147483647
  · rw [if_pos h]; exact specPutVar_go 4 n (by omega) h.1 h.2 (by omega)
  · rw [if_neg h]
    refine Ev.step (f := fun k => spec_PutVar.j0 k n true) (fun k => ?_) (Ev.step (f := fun _ => some []) (fun k => by simp [spec_PutVar.j0]) (Ev.now _))
    simp only [spec_PutVar.f]
    by_cases h0 : n < 0
    · rw [if_pos h0]
    · rw [if_neg h0, decide_eq_true (by omega)]
theorem implPutVar_ev (n : Int) : Ev (fun k => impl_PutVar.f k n) (varOf n) := by
  unfold varOf impl_PutVar.f
  rw [in_tell]
  simp only [Option.bind_some]
  by_cases h : 0 ≤ n ∧ n ≤ 2147483647
  · rw [if_pos h]; exact Ev.ifT (decide_eq_true h) (implPutVar_go 4 n [] (by omega) h.1 h.2 (by omega) (by simp))
  · rw [if_neg h]; exact Ev.ifF (by rw [decide_eq_true_eq]; exact h) (Ev.now _)

theorem FnExactPutVar : laws_FnExactPutVar.Pure := by
  intro v _
  refine Ev.rounds ?_
  unfold laws_FnExactPutVar.f
  have hl := varOf_length v
  have e := eqByteS_ev (varOf v) (by omega)
  have m := markByteS_ev (varOf v) 1 (by omega) (by omega) (by omega)
  have h := heldByteS_ev (varOf v) 1 (by omega) (by omega) (by omega)
  have s := specPutVar_ev v
  have i := implPutVar_ev v
  exact Ev.bind s (Ev.bind i (Ev.bind e (Ev.ifT rfl (Ev.bind m (Ev.bind h (Ev.ifF (by omega) (Ev.ifT rfl (Ev.bind i (Ev.bind e (Ev.ifT rfl (Ev.bind h (Ev.ifF (by omega) (Ev.ifT rfl (Ev.now _))))))))))))))

end Go.Proofs.Ytclejdchdfmapab.Pure
