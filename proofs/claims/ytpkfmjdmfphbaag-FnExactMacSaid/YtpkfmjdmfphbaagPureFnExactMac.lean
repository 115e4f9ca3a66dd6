/- The plain law of FnExactMac, over numbers and lists alone: what the printed functions answer is true for all arguments. Conditions: those of the arguments' kinds. -/
import Derived.Test.YtpkfmjdmfphbaagQFnExactMacx12
import Derived.Test.YtpkfmjdmfphbaagAid
set_option linter.unusedVariables false
set_option linter.unusedSimpArgs false
namespace Go.Proofs.Ytpkfmjdmfphbaag.Pure
open Go.RowKit Go.Proofs.Ytpkfmjdmfphbaag.Aid Go.Proofs.Ytpkfmjdmfphbaag.QFnExactMac Go.Proofs.YtpkfmjdmfphbaagW.PrintWords Go.Proofs.YtpkfmjdmfphbaagW.PrintLast Go.Proofs.YtpkfmjdmfphbaagW.PrintMore
theorem in_tell (a b c : Int) : impl_in.f a b c = some (decide (b ≤ a ∧ a ≤ c)) := by
  unfold impl_in.f
  by_cases h : a ≥ b
  · rw [if_pos h]; congr 1; rw [Bool.eq_iff_iff]; simp only [decide_eq_true_eq]; omega
  · rw [if_neg h]; congr 1; symm; rw [decide_eq_false_iff_not]; omega

theorem l1In_tell (a b c : Int) : spec_l1In.f a b c = some (decide (b ≤ a ∧ a ≤ c)) := by
  unfold spec_l1In.f
  by_cases h : a ≥ b
  · rw [if_pos h]; congr 1; rw [Bool.eq_iff_iff]; simp only [decide_eq_true_eq]; omega
  · rw [if_neg h]; congr 1; symm; rw [decide_eq_false_iff_not]; omega

theorem toByteS_l0 (l : List Int) (hl : l.length ≤ 140737488351232) : ∀ (d : Nat) (x : List Int) (i : Nat), x.length = l.length → i + d = l.length → x.take i = l.take i → Ev (fun k => laws_toByteS.l0 k l x (i : Int)) l
  | 0, x, i, hx, hi, ht => by
    refine Ev.step (f := fun _ => some l) (fun k => ?_) (Ev.now _)
    simp only [laws_toByteS.l0]
    rw [if_neg (by omega)]
    congr 1
    rw [List.take_of_length_le (by omega), List.take_of_length_le (by omega)] at ht
    exact ht
  | d + 1, x, i, hx, hi, ht => by
    have ih := toByteS_l0 l hl d (x.set i (rd l i)) (i + 1) (by simpa using hx) (by omega) (by
      rw [List.take_succ_eq_append_getElem (by simp; omega), List.take_succ_eq_append_getElem (by omega), List.take_set_of_le (by omega), ht]
      simp [rd, List.getElem?_eq_getElem (show i < l.length by omega)])
    refine Ev.step (fun k => ?_) ih
    simp only [laws_toByteS.l0]
    rw [if_pos (by omega), if_pos (by omega), if_pos (by omega), wrap64_id (by omega) (by omega)]
    simp
theorem toByteS_ev (l : List Int) (hl : l.length ≤ 140737488351232) : Ev (fun k => laws_toByteS.f k l) l := by
  refine Ev.congr (fun k => ?_) (toByteS_l0 l hl l.length (List.replicate l.length 0) 0 (by simp) (by simp) (by simp))
  simp only [laws_toByteS.f]
  rw [if_pos (by omega), if_pos (by omega)]
  simp

theorem eqByteS_l0 (l : List Int) (hl : l.length ≤ 140737488351232) : ∀ (d : Nat) (i : Nat), i + d = l.length → Ev (fun k => laws_eqByteS.l0 k l l (i : Int)) true
  | 0, i, hi => by
    refine Ev.step (f := fun _ => some true) (fun k => ?_) (Ev.now _)
    simp only [laws_eqByteS.l0]
    rw [if_neg (by omega)]
  | d + 1, i, hi => by
    have ih := eqByteS_l0 l hl d (i + 1) (by omega)
    refine Ev.step (fun k => ?_) ih
    simp only [laws_eqByteS.l0]
    rw [if_pos (by omega), if_pos (by omega), if_pos (by omega), wrap64_id (by omega) (by omega)]
    simp
theorem eqByteS_ev (l : List Int) (hl : l.length ≤ 140737488351232) : Ev (fun k => laws_eqByteS.f k l l) true := by
  refine Ev.congr (fun k => ?_) (eqByteS_l0 l hl l.length 0 (by simp))
  simp only [laws_eqByteS.f]
  simp

def marksB : Int → List Int → List Int
  | _, [] => []
  | c, _ :: r => c % 256 :: marksB (c + 1) r
theorem marksB_length : ∀ (c : Int) (l : List Int), (marksB c l).length = l.length
  | _, [] => rfl
  | c, _ :: r => by simp [marksB, marksB_length (c + 1) r]
theorem marksB_again : ∀ (c : Int) (l : List Int), marksB c (marksB c l) = marksB c l
  | _, [] => rfl
  | c, _ :: r => by simp [marksB, marksB_again (c + 1) r]
theorem markByteS_l0 : ∀ (d : Nat) (x : List Int) (c : Int) (i : Nat), x.length ≤ 140737488355328 → i + d = x.length → 0 ≤ c → c + d ≤ 4611686018427387904 →
    Ev (fun k => laws_markByteS.l0 k x c (i : Int)) (c + d, x.take i ++ marksB c (x.drop i))
  | 0, x, c, i, hl, hi, hc, hc1 => by
    refine Ev.step (f := fun _ => some (c, x)) (fun k => ?_) (Ev.const ?_)
    · simp only [laws_markByteS.l0]
      rw [if_neg (by omega)]
    · rw [List.take_of_length_le (by omega), List.drop_of_length_le (by omega)]
      simp [marksB]
  | d + 1, x, c, i, hl, hi, hc, hc1 => by
    have ih := markByteS_l0 d (x.set i (c % 256)) (c + 1) (i + 1) (by simpa using hl) (by simp; omega) (by omega) (by omega)
    have e1 : (x.set i (c % 256)).take (i + 1) = x.take i ++ [c % 256] := by
      rw [List.take_succ_eq_append_getElem (by simp; omega), List.take_set_of_le (by omega)]; simp
    have e2 : (x.set i (c % 256)).drop (i + 1) = x.drop (i + 1) := by rw [List.drop_set]; simp
    have e3 : x.drop i = x[i]'(by omega) :: x.drop (i + 1) := List.drop_eq_getElem_cons (by omega)
    rw [e1, e2] at ih
    have e4 : (c + ((d + 1 : Nat) : Int), x.take i ++ marksB c (x.drop i)) = (c + 1 + (d : Int), x.take i ++ [c % 256] ++ marksB (c + 1) (x.drop (i + 1))) := by
      rw [e3]; simp [marksB]; omega
    rw [e4]
    refine Ev.step (fun k => ?_) ih
    simp only [laws_markByteS.l0]
    rw [if_pos (by omega), if_pos (by omega), wrap64_id (by omega) (by omega), wrap64_id (by omega) (by omega)]
    simp
theorem markByteS_ev (x : List Int) (c : Int) (hl : x.length ≤ 140737488355328) (hc : 0 ≤ c) (hc1 : c + x.length ≤ 4611686018427387904) : Ev (fun k => laws_markByteS.f k x c) (c + x.length, marksB c x) := by
  have := markByteS_l0 x.length x c 0 hl (by omega) hc hc1
  simpa [laws_markByteS.f] using this
theorem heldByteS_l0 : ∀ (d : Nat) (x : List Int) (c : Int) (i : Nat), x.length ≤ 140737488355328 → i + d = x.length → 0 ≤ c → c + d ≤ 4611686018427387904 → x.drop i = marksB c (x.drop i) →
    Ev (fun k => laws_heldByteS.l0 k x c (i : Int)) (c + d)
  | 0, x, c, i, hl, hi, hc, hc1, hm => by
    refine Ev.step (f := fun _ => some c) (fun k => ?_) (Ev.const (by simp))
    simp only [laws_heldByteS.l0]
    rw [if_neg (by omega)]
  | d + 1, x, c, i, hl, hi, hc, hc1, hm => by
    have e3 : x.drop i = x[i]'(by omega) :: x.drop (i + 1) := List.drop_eq_getElem_cons (by omega)
    rw [e3] at hm
    simp only [marksB, List.cons.injEq] at hm
    have ih := heldByteS_l0 d x (c + 1) (i + 1) hl (by omega) (by omega) (by omega) hm.2
    have e4 : c + ((d + 1 : Nat) : Int) = c + 1 + (d : Int) := by omega
    rw [e4]
    refine Ev.step (fun k => ?_) ih
    simp only [laws_heldByteS.l0]
    rw [if_pos (by omega), if_pos (by omega), if_pos (by rw [rd_get x i (by omega)]; exact hm.1), wrap64_id (by omega) (by omega), wrap64_id (by omega) (by omega)]
    simp
theorem heldByteS_ev (x : List Int) (c : Int) (hl : x.length ≤ 140737488355328) (hc : 0 ≤ c) (hc1 : c + x.length ≤ 4611686018427387904) : Ev (fun k => laws_heldByteS.f k (marksB c x) c) (c + x.length) := by
  have := heldByteS_l0 x.length (marksB c x) c 0 (by rw [marksB_length]; exact hl) (by rw [marksB_length]; omega) hc hc1 (by simp [marksB_again])
  simpa [laws_heldByteS.f] using this

def badWord (x : Int) : Bool := !decide (0 ≤ x ∧ x ≤ 4294967295)
def sumOkP (w : List Int) (c : Int) (r : List Int) : Prop := w.length = 8 ∧ w.any badWord = false ∧ 0 ≤ c ∧ c ≤ 2147483647 ∧ (r.length : Int) = c % 64
instance (w : List Int) (c : Int) (r : List Int) : Decidable (sumOkP w c r) := by unfold sumOkP; infer_instance

theorem indexFunc_SumOk_l0 (p : Int → Bool) (l : List Int) (hl : l.length ≤ 140737488351232) (hp : ∀ x ∈ l, impl_SumOk_1.f x = some (p x)) : ∀ (d i : Nat), i + d = l.length → ∃ r : Int, decide (r ≥ 0) = (l.drop i).any p ∧ Ev (fun k => slices_IndexFunc_int_int_of_impl_SumOk_1.l0 k l (l.length : Int) (i : Int)) r
  | 0, i, hi => by
    refine ⟨-1, by rw [List.drop_of_length_le (by omega)]; rfl, Ev.step (f := fun _ => some (-1)) (fun k => ?_) (Ev.now _)⟩
    simp only [slices_IndexFunc_int_int_of_impl_SumOk_1.l0]
    rw [if_neg (by omega)]
  | d + 1, i, hi => by
    obtain ⟨r, h1, h2⟩ := indexFunc_SumOk_l0 p l hl hp d (i + 1) (by omega)
    have e3 : l.drop i = l[i]'(by omega) :: l.drop (i + 1) := List.drop_eq_getElem_cons (by omega)
    have hx := hp (l[i]'(by omega)) (List.getElem_mem _)
    have g1 : (i : Int) < (l.length : Int) := by omega
    have g2 : (0 : Int) ≤ (i : Int) := by omega
    have er := rd_get l i (by omega)
    by_cases hb : p (l[i]'(by omega)) = true
    · refine ⟨(i : Int), ?_, Ev.step (f := fun _ => some (i : Int)) (fun k => ?_) (Ev.now _)⟩
      · rw [e3, List.any_cons, hb, Bool.true_or, decide_eq_true_eq]; omega
      · simp only [slices_IndexFunc_int_int_of_impl_SumOk_1.l0]
        rw [if_pos g1, if_pos g2, if_pos g1, er, hx]
        simp only [Option.bind_some]
        rw [if_pos hb]
    · refine ⟨r, ?_, Ev.step (fun k => ?_) h2⟩
      · rw [h1, e3, List.any_cons, Bool.eq_false_iff.2 hb, Bool.false_or]
      · simp only [slices_IndexFunc_int_int_of_impl_SumOk_1.l0]
        rw [if_pos g1, if_pos g2, if_pos g1, er, hx]
        simp only [Option.bind_some]
        rw [if_neg hb, wrap64_succ (by omega)]
theorem containsFunc_SumOk (p : Int → Bool) (l : List Int) (hl : l.length ≤ 140737488351232) (hp : ∀ x ∈ l, impl_SumOk_1.f x = some (p x)) (z : Nat) : Ev (fun k => slices_ContainsFunc_int_int_of_impl_SumOk_1.f k l z) (l.any p) := by
  obtain ⟨r, h1, h2⟩ := indexFunc_SumOk_l0 p l hl hp l.length 0 (by omega)
  unfold slices_ContainsFunc_int_int_of_impl_SumOk_1.f slices_IndexFunc_int_int_of_impl_SumOk_1.f
  refine Ev.bind h2 (Ev.const ?_)
  rw [h1]; rfl

theorem specSum_l0 (w : List Int) (c : Int) (r : List Int) (hw : w.length = 8) : ∀ (d i : Nat), i + d = 8 → Ev (fun k => spec_SumOk.l0 k (i : Int) w c r) (!(w.drop i).any badWord)
  | 0, i, hi => by
    refine Ev.step (f := fun _ => some true) (fun k => ?_) (Ev.const (by rw [List.drop_of_length_le (by omega)]; rfl))
    simp only [spec_SumOk.l0]
    rw [if_neg (by omega)]
  | d + 1, i, hi => by
    have ih := specSum_l0 w c r hw d (i + 1) (by omega)
    have e3 : w.drop i = w[i]'(by omega) :: w.drop (i + 1) := List.drop_eq_getElem_cons (by omega)
    have g0 : (i : Int) < 8 := by omega
    have g1 : (i : Int) < (w.length : Int) := by omega
    have g2 : (0 : Int) ≤ (i : Int) := by omega
    rw [e3, List.any_cons]
    by_cases hb : 0 ≤ w[i]'(by omega) ∧ w[i]'(by omega) ≤ 4294967295
    · rw [show badWord (w[i]'(by omega)) = false by unfold badWord; rw [decide_eq_true hb]; rfl, Bool.false_or]
      refine Ev.step (fun k => ?_) ih
      simp only [spec_SumOk.l0]
      rw [if_pos g0, if_pos g2, if_pos g1, rd_get w i (by omega), l1In_tell]
      simp only [Option.bind_some]
      rw [if_pos (decide_eq_true hb), wrap64_succ (by omega)]
    · rw [show badWord (w[i]'(by omega)) = true by unfold badWord; rw [decide_eq_false hb]; rfl, Bool.true_or, Bool.not_true]
      refine Ev.step (f := fun _ => some false) (fun k => ?_) (Ev.now _)
      simp only [spec_SumOk.l0]
      rw [if_pos g0, if_pos g2, if_pos g1, rd_get w i (by omega), l1In_tell]
      simp only [Option.bind_some]
      rw [if_neg (by rw [decide_eq_true_eq]; exact hb)]
theorem specSumOk_ev (w : List Int) (c : Int) (r : List Int) : Ev (fun k => spec_SumOk.f k w c r) (decide (sumOkP w c r)) := by
  unfold spec_SumOk.f
  rw [l1In_tell]
  simp only [Option.bind_some]
  have bad : ¬ sumOkP w c r → Ev (fun k => spec_SumOk.j0 k true w c r) (decide (sumOkP w c r)) := fun h => by
    rw [decide_eq_false h]
    exact Ev.step (f := fun _ => some false) (fun k => by simp [spec_SumOk.j0]) (Ev.now _)
  by_cases h : (w.length : Int) = 8
  · refine Ev.ifT h ?_
    by_cases h2 : 0 ≤ c ∧ c ≤ 2147483647
    · refine Ev.ifT (decide_eq_true h2) ?_
      rw [Int.tmod_eq_emod_of_nonneg h2.1]
      by_cases h3 : (r.length : Int) = c % 64
      · rw [show ((r.length : Int) != c % 64) = false by simp [h3]]
        have e := specSum_l0 w c r (by omega) 8 0 (by omega)
        have e2 : decide (sumOkP w c r) = !(w.drop 0).any badWord := by
          rw [Bool.eq_iff_iff, decide_eq_true_eq, Bool.not_eq_true', List.drop_zero]
          unfold sumOkP
          constructor
          · intro q; exact q.2.1
          · intro q; exact ⟨by omega, q, h2.1, h2.2, h3⟩
        rw [e2]
        exact Ev.step (fun k => by simp [spec_SumOk.j0]) e
      · rw [show ((r.length : Int) != c % 64) = true by simp [h3]]
        exact bad (fun q => h3 q.2.2.2.2)
    · exact Ev.ifF (by rw [decide_eq_true_eq]; exact h2) (bad (fun q => h2 ⟨q.2.2.1, q.2.2.2.1⟩))
  · exact Ev.ifF h (bad (fun q => h (by have := q.1; omega)))

theorem implSumBad_tell (x : Int) : impl_SumOk_1.f x = some (badWord x) := by
  unfold impl_SumOk_1.f badWord
  rw [in_tell]; rfl
theorem implSumOk_ev (w : List Int) (c : Int) (r : List Int) : Ev (fun k => impl_SumOk.f k w c r) (decide (sumOkP w c r)) := by
  unfold impl_SumOk.f
  by_cases h : (w.length : Int) = 8
  · refine Ev.ifT h (Ev.bind (containsFunc_SumOk badWord w (by omega) (fun x _ => implSumBad_tell x) 0) ?_)
    by_cases hany : w.any badWord = true
    · rw [decide_eq_false (fun q : sumOkP w c r => by have := q.2.1; rw [hany] at this; cases this)]
      exact Ev.ifT hany (Ev.now _)
    · refine Ev.ifF hany (Ev.bindc (in_tell _ _ _) ?_)
      by_cases h2 : 0 ≤ c ∧ c ≤ 2147483647
      · refine Ev.ifT (decide_eq_true h2) (Ev.const ?_)
        rw [Int.tmod_eq_emod_of_nonneg h2.1]
        congr 1
        rw [Bool.eq_iff_iff, decide_eq_true_eq, beq_iff_eq]
        unfold sumOkP
        constructor
        · intro q; exact ⟨by omega, Bool.eq_false_iff.2 hany, h2.1, h2.2, q⟩
        · intro q; exact q.2.2.2.2
      · rw [decide_eq_false (fun q : sumOkP w c r => h2 ⟨q.2.2.1, q.2.2.2.1⟩)]
        exact Ev.ifF (by rw [decide_eq_true_eq]; exact h2) (Ev.now _)
  · rw [decide_eq_false (fun q : sumOkP w c r => h (by have := q.1; omega))]
    exact Ev.ifF h (Ev.now _)

/-! The rounds, over natural numbers -/
def ci (l : List Nat) : List Int := l.map (fun x : Nat => (x : Int))
theorem ci_length (l : List Nat) : (ci l).length = l.length := by simp [ci]
theorem ci_append (a b : List Nat) : ci (a ++ b) = ci a ++ ci b := by simp [ci]
theorem ci_rd (l : List Nat) (i : Nat) : rd (ci l) (i : Int) = ((l.getD i 0 : Nat) : Int) := by
  rw [rd_nat]
  simp only [ci, List.getD_eq_getElem?_getD, List.getElem?_map]
  cases l[i]? <;> rfl
def W32 (x : Nat) : Prop := x < 4294967296
def all32 (l : List Nat) : Prop := ∀ x ∈ l, W32 x
theorem all32_get {l : List Nat} (h : all32 l) (i : Nat) : l.getD i 0 < 4294967296 := by
  rw [List.getD_eq_getElem?_getD]
  rcases Nat.lt_or_ge i l.length with hi | hi
  · rw [List.getElem?_eq_getElem hi]; exact h _ (List.getElem_mem hi)
  · rw [List.getElem?_eq_none hi]; decide
theorem xor64 {a b : Nat} (ha : a < 4611686018427387904) (hb : b < 4611686018427387904) : Go.bits .xor .i64 (a : Int) (b : Int) = ((a ^^^ b : Nat) : Int) := xor_i64 a b ha hb
theorem and64 {a b : Nat} (ha : a < 4611686018427387904) (hb : b < 4611686018427387904) : Go.bits .and .i64 (a : Int) (b : Int) = ((a &&& b : Nat) : Int) := and_i64 a b ha hb
theorem wrap32_id (n : Int) (p : 0 ≤ n) (q : n < 2 ^ 32) : IntKind.u32.wrap n = n := by rw [IntKind.wrap_u32]; omega
theorem xor32 {a b : Nat} (ha : a < 4294967296) (hb : b < 4294967296) : Go.bits .xor .u32 (a : Int) (b : Int) = ((a ^^^ b : Nat) : Int) := bits_xor_nat .u32 32 (by decide) wrap32_id a b ha hb
theorem and32 {a b : Nat} (ha : a < 4294967296) (hb : b < 4294967296) : Go.bits .and .u32 (a : Int) (b : Int) = ((a &&& b : Nat) : Int) := (bits_nat .u32 32 (by decide) wrap32_id a b ha hb).1
theorem or32 {a b : Nat} (ha : a < 4294967296) (hb : b < 4294967296) : Go.bits .or .u32 (a : Int) (b : Int) = ((a ||| b : Nat) : Int) := (bits_nat .u32 32 (by decide) wrap32_id a b ha hb).2
theorem xor_lt {a b : Nat} (ha : a < 4294967296) (hb : b < 4294967296) : a ^^^ b < 4294967296 := Nat.xor_lt_two_pow (n := 32) ha hb
theorem and_lt {a b : Nat} (ha : a < 4294967296) : a &&& b < 4294967296 := Nat.lt_of_le_of_lt Nat.and_le_left ha
theorem mask32 (x : Int) : Go.bits .and .i64 x 4294967295 = x % 4294967296 := and_mask 32 (by decide) x
def rotN (x n : Nat) : Nat := (x / 2 ^ n ||| x * 2 ^ (32 - n) % 4294967296)
theorem rotN_lt {x n : Nat} (hx : x < 4294967296) : rotN x n < 4294967296 :=
  Nat.or_lt_two_pow (n := 32) (Nat.lt_of_le_of_lt (Nat.div_le_self _ _) hx) (Nat.mod_lt _ (by decide))
theorem specRot_tell (x n : Nat) (hx : x < 4294967296) (h2 : 2 ≤ n) (hn : n ≤ 31) : spec_l7Rot.f (x : Int) (n : Int) = some ((rotN x n : Nat) : Int) := by
  unfold spec_l7Rot.f
  have hw : IntKind.u64.wrap (32 - (n : Int)) = ((32 - n : Nat) : Int) := by rw [wrapU64_id (by omega) (by omega)]; omega
  have hp : (2 : Nat) ^ (32 - n) ≤ 2 ^ 30 := Nat.pow_le_pow_right (by decide) (by clear hw; omega)
  have hb : x * 2 ^ (32 - n) < 4611686018427387904 := by
    have : x * 2 ^ (32 - n) ≤ x * 2 ^ 30 := Nat.mul_le_mul_left _ hp
    clear hw; omega
  have hq : x / 2 ^ n < 4294967296 := Nat.lt_of_le_of_lt (Nat.div_le_self _ _) hx
  have e1 : (x : Int) / 2 ^ n = ((x / 2 ^ n : Nat) : Int) := by simp
  have e2 : (x : Int) * 2 ^ (32 - n) = ((x * 2 ^ (32 - n) : Nat) : Int) := by simp
  have hb' : (x : Int) * 2 ^ (32 - n) < 9223372036854775808 := by rw [e2]; clear hw e1 e2; omega
  have hb0 : -9223372036854775808 ≤ (x : Int) * 2 ^ (32 - n) := by rw [e2]; clear hw e1 e2; omega
  rw [if_pos (by clear hw e1 e2; omega), hw, if_pos (by clear hw e1 e2; omega), shr_i64 (by clear hw e1 e2; omega), shl_i64 (by clear hw e1 e2; omega) hb0 hb', e1, e2, or_i64 _ _ (by clear hw e1 e2; omega) hb, mask32]
  have e3 : ((x / 2 ^ n ||| x * 2 ^ (32 - n) : Nat) : Int) % 4294967296 = (((x / 2 ^ n ||| x * 2 ^ (32 - n)) % 4294967296 : Nat) : Int) := by simp
  rw [e3]
  congr 2
  unfold rotN
  rw [show (4294967296 : Nat) = 2 ^ 32 from rfl, Nat.or_mod_two_pow, Nat.mod_eq_of_lt (show x / 2 ^ n < 2 ^ 32 from hq)]
theorem implRot_tell (x n : Nat) (hx : x < 4294967296) (h2 : 2 ≤ n) (hn : n ≤ 31) : impl_rot.f (x : Int) (n : Int) = some ((rotN x n : Nat) : Int) := by
  unfold impl_rot.f
  have hw : wrap64 (32 - (n : Int)) = ((32 - n : Nat) : Int) := by rw [wrap64_id (by omega) (by omega)]; omega
  have hq : x / 2 ^ n < 4294967296 := Nat.lt_of_le_of_lt (Nat.div_le_self _ _) hx
  have e1 : shr .u32 (x : Int) (n : Int) = ((x / 2 ^ n : Nat) : Int) := by
    unfold shr
    rw [Int.toNat_natCast, show IntKind.u32.bits = 32 from rfl, Nat.min_eq_left (by clear hw; omega)]
    simp
  have e2 : shl .u32 (x : Int) ((32 - n : Nat) : Int) = ((x * 2 ^ (32 - n) % 4294967296 : Nat) : Int) := by
    unfold shl
    rw [Int.toNat_natCast, show IntKind.u32.bits = 32 from rfl, Nat.min_eq_left (by clear hw; omega), IntKind.wrap_u32]
    simp
  rw [if_pos (by clear hw; omega), hw, if_pos (by clear hw; omega), e1, e2, or32 hq (Nat.mod_lt _ (by decide))]
  rfl
def sg0 (x : Nat) : Nat := rotN x 7 ^^^ rotN x 18 ^^^ x / 8
def sg1 (x : Nat) : Nat := rotN x 17 ^^^ rotN x 19 ^^^ x / 1024
theorem sg0_lt {x : Nat} (hx : x < 4294967296) : sg0 x < 4294967296 := xor_lt (xor_lt (rotN_lt hx) (rotN_lt hx)) (by omega)
theorem sg1_lt {x : Nat} (hx : x < 4294967296) : sg1 x < 4294967296 := xor_lt (xor_lt (rotN_lt hx) (rotN_lt hx)) (by omega)
/-- The t-th word of the schedule, those ahead being known. -/
def schedWord (b l : List Nat) (t : Nat) : Nat :=
  if t < 16 then b.getD (4 * t) 0 * 16777216 + b.getD (4 * t + 1) 0 * 65536 + b.getD (4 * t + 2) 0 * 256 + b.getD (4 * t + 3) 0
  else (l.getD (t - 16) 0 + sg0 (l.getD (t - 15) 0) + l.getD (t - 7) 0 + sg1 (l.getD (t - 2) 0)) % 4294967296
def sched (b : List Nat) : Nat → List Nat
  | 0 => []
  | t + 1 => sched b t ++ [schedWord b (sched b t) t]
def byteN (b : List Nat) : Prop := ∀ x ∈ b, x < 256
theorem byteN_get {b : List Nat} (h : byteN b) (i : Nat) : b.getD i 0 < 256 := by
  rw [List.getD_eq_getElem?_getD]
  rcases Nat.lt_or_ge i b.length with hi | hi
  · rw [List.getElem?_eq_getElem hi]; exact h _ (List.getElem_mem hi)
  · rw [List.getElem?_eq_none hi]; decide
theorem sched_length (b : List Nat) : ∀ t, (sched b t).length = t
  | 0 => rfl
  | t + 1 => by simp [sched, sched_length b t]
theorem schedWord_lt {b l : List Nat} (hb : byteN b) (t : Nat) : schedWord b l t < 4294967296 := by
  unfold schedWord
  split
  · have h0 := byteN_get hb (4 * t); have h1 := byteN_get hb (4 * t + 1); have h2 := byteN_get hb (4 * t + 2); have h3 := byteN_get hb (4 * t + 3); omega
  · exact Nat.mod_lt _ (by decide)
theorem sched_32 {b : List Nat} (hb : byteN b) : ∀ t, all32 (sched b t)
  | 0, x, hx => absurd hx (by simp [sched])
  | t + 1, x, hx => by
    rcases List.mem_append.1 hx with h | h
    · exact sched_32 hb t x h
    · rw [List.mem_singleton.1 h]; exact schedWord_lt hb t
/-- The state of a round. -/
def kWords : List Nat := [1116352408, 1899447441, 3049323471, 3921009573, 961987163, 1508970993, 2453635748, 2870763221, 3624381080, 310598401, 607225278, 1426881987, 1925078388, 2162078206, 2614888103, 3248222580, 3835390401, 4022224774, 264347078, 604807628, 770255983, 1249150122, 1555081692, 1996064986, 2554220882, 2821834349, 2952996808, 3210313671, 3336571891, 3584528711, 113926993, 338241895, 666307205, 773529912, 1294757372, 1396182291, 1695183700, 1986661051, 2177026350, 2456956037, 2730485921, 2820302411, 3259730800, 3345764771, 3516065817, 3600352804, 4094571909, 275423344, 430227734, 506948616, 659060556, 883997877, 958139571, 1322822218, 1537002063, 1747873779, 1955562222, 2024104815, 2227730452, 2361852424, 2428436474, 2756734187, 3204031479, 3329325298]
theorem kWords_32 : all32 kWords := by unfold all32 W32; decide
def xPart (v : List Nat) (k w : Nat) : Nat := v.getD 7 0 + (rotN (v.getD 4 0) 6 ^^^ rotN (v.getD 4 0) 11 ^^^ rotN (v.getD 4 0) 25) + (v.getD 4 0 &&& v.getD 5 0 ^^^ (4294967295 - v.getD 4 0) &&& v.getD 6 0) + k + w
def yPart (v : List Nat) : Nat := (rotN (v.getD 0 0) 2 ^^^ rotN (v.getD 0 0) 13 ^^^ rotN (v.getD 0 0) 22) + (v.getD 0 0 &&& v.getD 1 0 ^^^ v.getD 0 0 &&& v.getD 2 0 ^^^ v.getD 1 0 &&& v.getD 2 0)
def roundOf (v : List Nat) (k w : Nat) : List Nat :=
  [(xPart v k w + yPart v) % 4294967296, v.getD 0 0, v.getD 1 0, v.getD 2 0, (v.getD 3 0 + xPart v k w) % 4294967296, v.getD 4 0, v.getD 5 0, v.getD 6 0]
theorem roundOf_32 {v : List Nat} (hv : all32 v) (k w : Nat) : all32 (roundOf v k w) := by
  have g := all32_get hv
  intro x hx
  simp only [roundOf, List.mem_cons, List.not_mem_nil, or_false] at hx
  have m : ∀ y : Nat, y % 4294967296 < 4294967296 := fun y => Nat.mod_lt _ (by decide)
  rcases hx with rfl | rfl | rfl | rfl | rfl | rfl | rfl | rfl
  all_goals first | exact m _ | exact g _
def roundsTo (ws v : List Nat) : Nat → List Nat
  | 0 => v
  | t + 1 => roundOf (roundsTo ws v t) (kWords.getD t 0) (ws.getD t 0)
theorem roundsTo_32 {ws v : List Nat} (hv : all32 v) : ∀ t, all32 (roundsTo ws v t)
  | 0 => hv
  | t + 1 => roundOf_32 (roundsTo_32 hv t) _ _
theorem roundsTo_length {ws v : List Nat} (hv : v.length = 8) : ∀ t, (roundsTo ws v t).length = 8
  | 0 => hv
  | t + 1 => by simp [roundsTo, roundOf]
def addTo (x v : List Nat) : Nat → List Nat
  | 0 => []
  | t + 1 => addTo x v t ++ [(x.getD t 0 + v.getD t 0) % 4294967296]
theorem addTo_length (x v : List Nat) : ∀ t, (addTo x v t).length = t
  | 0 => rfl
  | t + 1 => by simp [addTo, addTo_length x v t]
theorem addTo_32 (x v : List Nat) : ∀ t, all32 (addTo x v t)
  | 0, y, hy => absurd hy (by simp [addTo])
  | t + 1, y, hy => by
    rcases List.mem_append.1 hy with h | h
    · exact addTo_32 x v t y h
    · rw [List.mem_singleton.1 h]; exact Nat.mod_lt _ (by decide)
/-- What a block makes of the words. -/
def blockOf (x b : List Nat) : List Nat := addTo x (roundsTo (sched b 64) x 64) 8
theorem blockOf_length (x b : List Nat) : (blockOf x b).length = 8 := addTo_length _ _ 8
theorem blockOf_32 (x b : List Nat) : all32 (blockOf x b) := addTo_32 _ _ 8
theorem yPart_lt {v : List Nat} (hv : all32 v) : yPart v < 8589934592 := by
  have g := all32_get hv
  have h1 : (rotN (v.getD 0 0) 2 ^^^ rotN (v.getD 0 0) 13 ^^^ rotN (v.getD 0 0) 22) < 4294967296 := xor_lt (xor_lt (rotN_lt (g 0)) (rotN_lt (g 0))) (rotN_lt (g 0))
  have h2 : (v.getD 0 0 &&& v.getD 1 0 ^^^ v.getD 0 0 &&& v.getD 2 0 ^^^ v.getD 1 0 &&& v.getD 2 0) < 4294967296 := xor_lt (xor_lt (and_lt (g 0)) (and_lt (g 0))) (and_lt (g 1))
  unfold yPart
  omega
theorem xPart_lt {v : List Nat} (hv : all32 v) {k w : Nat} (hk : k < 4294967296) (hw : w < 4294967296) : xPart v k w < 21474836480 := by
  have g := all32_get hv
  have h1 : (rotN (v.getD 4 0) 6 ^^^ rotN (v.getD 4 0) 11 ^^^ rotN (v.getD 4 0) 25) < 4294967296 := xor_lt (xor_lt (rotN_lt (g 4)) (rotN_lt (g 4))) (rotN_lt (g 4))
  have h2 : (v.getD 4 0 &&& v.getD 5 0 ^^^ (4294967295 - v.getD 4 0) &&& v.getD 6 0) < 4294967296 := xor_lt (and_lt (g 4)) (and_lt (by omega))
  have h3 := g 7
  unfold xPart
  omega

theorem specBlock_l2 (x v : List Nat) (hx : x.length = 8) (hv : v.length = 8) (hx2 : all32 x) (hv2 : all32 v) : ∀ (d t : Nat), t + d = 8 → Ev (fun k => spec_l7Block.l2 k (ci x) (ci v) (ci (addTo x v t)) (t : Int)) (ci (addTo x v 8))
  | 0, t, ht => by
    obtain rfl : t = 8 := by omega
    refine Ev.step (f := fun _ => some (ci (addTo x v 8))) (fun k => ?_) (Ev.now _)
    simp only [spec_l7Block.l2]
    rw [if_neg (by omega)]
  | d + 1, t, ht => by
    have ih := specBlock_l2 x v hx hv hx2 hv2 d (t + 1) (by omega)
    have hl := addTo_length x v t
    have g1 := all32_get hx2 t
    have g2 := all32_get hv2 t
    have hl1 := ci_length x
    have hl2 := ci_length v
    have hl3 := ci_length (addTo x v t)
    refine Ev.step (fun k => ?_) ih
    have ew : wrap64 (((x.getD t 0 : Nat) : Int) + ((v.getD t 0 : Nat) : Int)) = ((x.getD t 0 + v.getD t 0 : Nat) : Int) := by rw [wrap64_id (by omega) (by omega)]; simp
    have et : wrap64 ((t : Int) + 1) = ((t + 1 : Nat) : Int) := wrap64_succ (by clear ew; omega)
    simp only [spec_l7Block.l2]
    rw [if_pos (by clear ew et; omega), if_pos (by clear ew et; omega), if_pos (by clear ew et; omega), if_pos (by clear ew et; omega), if_pos (by clear ew et; omega), ci_rd, ci_rd, ew, mask32, et]
    have : ci (addTo x v t) ++ [((x.getD t 0 + v.getD t 0 : Nat) : Int) % 4294967296] = ci (addTo x v (t + 1)) := by
      rw [addTo, ci_append]; simp [ci]
    rw [this]
/-- The rounds' words, as the machine writes them. -/
theorem spec_x (v : List Nat) (hv : all32 v) (k w : Nat) (hk : k < 4294967296) (hw : w < 4294967296) :
    wrap64 ((wrap64 ((wrap64 ((wrap64 (((v.getD 7 0 : Nat) : Int) + (Go.bits .xor .i64 (Go.bits .xor .i64 ((rotN (v.getD 4 0) 6 : Nat) : Int) ((rotN (v.getD 4 0) 11 : Nat) : Int)) ((rotN (v.getD 4 0) 25 : Nat) : Int)))) + (Go.bits .xor .i64 (Go.bits .and .i64 ((v.getD 4 0 : Nat) : Int) ((v.getD 5 0 : Nat) : Int)) (Go.bits .and .i64 (wrap64 (4294967295 - ((v.getD 4 0 : Nat) : Int))) ((v.getD 6 0 : Nat) : Int))))) + (k : Int))) + (w : Int)) = ((xPart v k w : Nat) : Int) := by
  have g := all32_get hv
  have g4 := g 4; have g5 := g 5; have g6 := g 6; have g7 := g 7
  have r1 := rotN_lt (n := 6) g4; have r2 := rotN_lt (n := 11) g4; have r3 := rotN_lt (n := 25) g4
  have e1 : wrap64 (4294967295 - ((v.getD 4 0 : Nat) : Int)) = ((4294967295 - v.getD 4 0 : Nat) : Int) := by rw [wrap64_id (by omega) (by omega)]; omega
  have b1 := xor_lt r1 r2
  have b2 := xor_lt b1 r3
  have b3 : v.getD 4 0 &&& v.getD 5 0 < 4294967296 := and_lt g4
  have b4 : (4294967295 - v.getD 4 0) &&& v.getD 6 0 < 4294967296 := and_lt (by clear e1; omega)
  have b5 := xor_lt b3 b4
  have q4 : 4294967295 - v.getD 4 0 < 4294967296 := by clear e1; omega
  rw [e1, xor64 (by clear e1; omega) (by clear e1; omega), xor64 (by clear e1; omega) (by clear e1; omega), and64 (by clear e1; omega) (by clear e1; omega), and64 (by clear e1; omega) (by clear e1; omega), xor64 (by clear e1; omega) (by clear e1; omega)]
  clear e1
  unfold xPart
  generalize rotN (v.getD 4 0) 6 ^^^ rotN (v.getD 4 0) 11 ^^^ rotN (v.getD 4 0) 25 = p at *
  generalize v.getD 4 0 &&& v.getD 5 0 ^^^ (4294967295 - v.getD 4 0) &&& v.getD 6 0 = q at *
  generalize v.getD 7 0 = z at *
  have f1 : wrap64 ((z : Int) + (p : Int)) = ((z + p : Nat) : Int) := by rw [wrap64_id (by omega) (by omega)]; simp
  have f2 : wrap64 (((z + p : Nat) : Int) + (q : Int)) = ((z + p + q : Nat) : Int) := by rw [wrap64_id (by clear f1; omega) (by clear f1; omega)]; simp
  have f3 : wrap64 (((z + p + q : Nat) : Int) + (k : Int)) = ((z + p + q + k : Nat) : Int) := by rw [wrap64_id (by clear f1 f2; omega) (by clear f1 f2; omega)]; simp
  have f4 : wrap64 (((z + p + q + k : Nat) : Int) + (w : Int)) = ((z + p + q + k + w : Nat) : Int) := by rw [wrap64_id (by clear f1 f2 f3; omega) (by clear f1 f2 f3; omega)]; simp
  rw [f1, f2, f3, f4]
theorem spec_y (v : List Nat) (hv : all32 v) :
    wrap64 ((Go.bits .xor .i64 (Go.bits .xor .i64 ((rotN (v.getD 0 0) 2 : Nat) : Int) ((rotN (v.getD 0 0) 13 : Nat) : Int)) ((rotN (v.getD 0 0) 22 : Nat) : Int)) + (Go.bits .xor .i64 (Go.bits .xor .i64 (Go.bits .and .i64 ((v.getD 0 0 : Nat) : Int) ((v.getD 1 0 : Nat) : Int)) (Go.bits .and .i64 ((v.getD 0 0 : Nat) : Int) ((v.getD 2 0 : Nat) : Int))) (Go.bits .and .i64 ((v.getD 1 0 : Nat) : Int) ((v.getD 2 0 : Nat) : Int)))) = ((yPart v : Nat) : Int) := by
  have g := all32_get hv
  have g0 := g 0; have g1 := g 1; have g2 := g 2
  have r1 := rotN_lt (n := 2) g0; have r2 := rotN_lt (n := 13) g0; have r3 := rotN_lt (n := 22) g0
  have b1 := xor_lt r1 r2
  have b2 := xor_lt b1 r3
  have b3 : v.getD 0 0 &&& v.getD 1 0 < 4294967296 := and_lt g0
  have b4 : v.getD 0 0 &&& v.getD 2 0 < 4294967296 := and_lt g0
  have b5 : v.getD 1 0 &&& v.getD 2 0 < 4294967296 := and_lt g1
  have b6 := xor_lt b3 b4
  have b7 := xor_lt b6 b5
  rw [xor64 (by omega) (by omega), xor64 (by omega) (by omega), and64 (by omega) (by omega), and64 (by omega) (by omega), and64 (by omega) (by omega), xor64 (by omega) (by omega), xor64 (by omega) (by omega)]
  unfold yPart
  rw [wrap64_id (by omega) (by omega)]
  simp
theorem spec_xor3 (a b c : Nat) (ha : a < 4294967296) (hb : b < 4294967296) (hc : c < 4294967296) : Go.bits .xor .i64 (Go.bits .xor .i64 (a : Int) (b : Int)) (c : Int) = ((a ^^^ b ^^^ c : Nat) : Int) := by
  have := xor_lt ha hb
  rw [xor64 (by omega) (by omega), xor64 (by omega) (by omega)]
theorem specBlock_l1 (x b v : List Nat) (ws : List Nat) (hx : x.length = 8) (hx2 : all32 x) (hws : ws.length = 64) (hws2 : all32 ws) : ∀ (d t : Nat), t + d = 64 →
    Ev (fun k => spec_l7Block.l1 k (ci x) (ci ws) (ci kWords) (ci (roundsTo ws x t)) (t : Int)) (ci (addTo x (roundsTo ws x 64) 8))
  | 0, t, ht => by
    obtain rfl : t = 64 := by omega
    have h := specBlock_l2 x (roundsTo ws x 64) hx (roundsTo_length hx 64) hx2 (roundsTo_32 hx2 64) 8 0 rfl
    refine Ev.step (fun k => ?_) h
    simp only [spec_l7Block.l1]
    rw [if_neg (by omega)]
    rfl
  | d + 1, t, ht => by
    have ih := specBlock_l1 x b v ws hx hx2 hws hws2 d (t + 1) (by omega)
    refine Ev.step (fun k => ?_) ih
    rw [roundsTo]
    have hl := roundsTo_length (ws := ws) hx t
    have h32 := roundsTo_32 (ws := ws) hx2 t
    generalize roundsTo ws x t = v at *
    have hl1 := ci_length v
    have hl2 := ci_length ws
    have hl3 : (ci kWords).length = 64 := by rw [ci_length]; rfl
    have g := all32_get h32
    have hk := all32_get kWords_32 t
    have hw := all32_get hws2 t
    have ez : ∀ i : Nat, rd (ci v) ((i : Nat) : Int) = ((v.getD i 0 : Nat) : Int) := fun i => ci_rd v i
    have e0 := ez 0; have e1 := ez 1; have e2 := ez 2; have e3 := ez 3; have e4 := ez 4; have e5 := ez 5; have e6 := ez 6; have e7 := ez 7
    simp only [Int.cast_ofNat_Int] at e0 e1 e2 e3 e4 e5 e6 e7
    have et : wrap64 ((t : Int) + 1) = ((t + 1 : Nat) : Int) := wrap64_succ (by omega)
    have p64 : (t : Int) < 64 := by clear et; omega
    have p0 : (0 : Int) < ((ci v).length : Int) := by clear et; omega
    have p1 : (1 : Int) < ((ci v).length : Int) := by clear et; omega
    have p2 : (2 : Int) < ((ci v).length : Int) := by clear et; omega
    have p3 : (3 : Int) < ((ci v).length : Int) := by clear et; omega
    have p4 : (4 : Int) < ((ci v).length : Int) := by clear et; omega
    have p5 : (5 : Int) < ((ci v).length : Int) := by clear et; omega
    have p6 : (6 : Int) < ((ci v).length : Int) := by clear et; omega
    have p7 : (7 : Int) < ((ci v).length : Int) := by clear et; omega
    have pk : (t : Int) < ((ci kWords).length : Int) := by clear et; omega
    have pw : (t : Int) < ((ci ws).length : Int) := by clear et; omega
    have pt : (0 : Int) ≤ (t : Int) := by clear et; omega
    have s1 := specRot_tell (v.getD 4 0) 6 (g 4) (by decide) (by decide)
    have s2 := specRot_tell (v.getD 4 0) 11 (g 4) (by decide) (by decide)
    have s3 := specRot_tell (v.getD 4 0) 25 (g 4) (by decide) (by decide)
    have s4 := specRot_tell (v.getD 0 0) 2 (g 0) (by decide) (by decide)
    have s5 := specRot_tell (v.getD 0 0) 13 (g 0) (by decide) (by decide)
    have s6 := specRot_tell (v.getD 0 0) 22 (g 0) (by decide) (by decide)
    simp only [Int.cast_ofNat_Int] at s1 s2 s3 s4 s5 s6
    have hX := spec_x v h32 (kWords.getD t 0) (ws.getD t 0) hk hw
    have hY := spec_y v h32
    have xl := xPart_lt h32 hk hw
    have yl := yPart_lt h32
    have g3 := g 3
    have hXY : wrap64 (((xPart v (kWords.getD t 0) (ws.getD t 0) : Nat) : Int) + ((yPart v : Nat) : Int)) = ((xPart v (kWords.getD t 0) (ws.getD t 0) + yPart v : Nat) : Int) := by rw [wrap64_id (by clear et hX hY; omega) (by clear et hX hY; omega)]; simp
    have hX3 : wrap64 (((v.getD 3 0 : Nat) : Int) + ((xPart v (kWords.getD t 0) (ws.getD t 0) : Nat) : Int)) = ((v.getD 3 0 + xPart v (kWords.getD t 0) (ws.getD t 0) : Nat) : Int) := by rw [wrap64_id (by clear et hX hY hXY; omega) (by clear et hX hY hXY; omega)]; simp
    simp only [spec_l7Block.l1]
    rw [if_pos p64, if_pos p0, if_pos p4, if_pos p7, e4, s1]
    rw [Option.bind_some]
    rw [s2]
    rw [Option.bind_some]
    rw [s3]
    rw [Option.bind_some]
    rw [if_pos p5, if_pos p6, if_pos pt, if_pos pk, if_pos pw, e0, s4]
    rw [Option.bind_some]
    rw [s5]
    rw [Option.bind_some]
    rw [s6]
    rw [Option.bind_some]
    rw [if_pos p1, if_pos p2, if_pos p3, e7, e5, e6, e1, e2, e3, ci_rd, ci_rd, hX, hY, hXY, hX3, mask32, mask32, et]
    clear et hX hY hXY hX3
    simp only [ci, roundOf, List.map_cons, List.map_nil, Int.natCast_emod]
    rfl
theorem specSched_l0 (x b : List Nat) (hb : b.length = 64) (hb2 : byteN b) (r : List Int) (hr : Ev (fun k => spec_l7Block.l1 k (ci x) (ci (sched b 64)) (ci kWords) (ci x) 0) r) (hxl : x.length ≤ 8) : ∀ (d t : Nat), t + d = 64 →
    Ev (fun k => spec_l7Block.l0 k (ci x) (ci b) (ci (sched b t ++ List.replicate d 0)) (t : Int)) r
  | 0, t, ht => by
    obtain rfl : t = 64 := by omega
    refine Ev.step (fun k => ?_) hr
    have hxl2 := ci_length x
    simp only [spec_l7Block.l0, spec_l7K.f, Option.bind_some, List.nil_append, List.length_nil, Nat.zero_add]
    rw [if_neg (by omega), if_pos (by omega)]
    rw [List.replicate_zero, List.append_nil]
    rfl
  | d + 1, t, ht => by
    have ih := specSched_l0 x b hb hb2 r hr hxl d (t + 1) (by omega)
    have hsl := sched_length b t
    have h32 := sched_32 hb2 t
    have eset : ∀ w : Nat, (ci (sched b t ++ List.replicate (d + 1) 0)).set t (w : Int) = ci (sched b t ++ [w] ++ List.replicate d 0) := fun w => by
      have : (ci (sched b t)).length = t := by rw [ci_length, hsl]
      rw [ci_append, List.set_append_right _ _ (by omega), this, Nat.sub_self]
      simp [ci, List.replicate_succ]
    rw [sched] at ih
    have hlen : (ci (sched b t ++ List.replicate (d + 1) 0)).length = 64 := by rw [ci_length]; simp; omega
    have hbl := ci_length b
    have et : wrap64 ((t : Int) + 1) = ((t + 1 : Nat) : Int) := wrap64_succ (by omega)
    have pt : (0 : Int) ≤ (t : Int) := by clear et; omega
    have pl : (t : Int) < ((ci (sched b t ++ List.replicate (d + 1) 0)).length : Int) := by clear et; omega
    refine Ev.step (fun k => ?_) ih
    simp only [spec_l7Block.l0]
    rw [if_pos (by clear et; omega)]
    by_cases h16 : t < 16
    · have f0 : wrap64 (4 * (t : Int)) = ((4 * t : Nat) : Int) := by rw [wrap64_id (by clear et; omega) (by clear et; omega)]; simp
      have f1 : wrap64 (((4 * t : Nat) : Int) + 1) = ((4 * t + 1 : Nat) : Int) := wrap64_succ (by clear et f0; omega)
      have f2 : wrap64 (((4 * t : Nat) : Int) + 2) = ((4 * t + 2 : Nat) : Int) := by rw [wrap64_id (by clear et f0 f1; omega) (by clear et f0 f1; omega)]; simp
      have f3 : wrap64 (((4 * t : Nat) : Int) + 3) = ((4 * t + 3 : Nat) : Int) := by rw [wrap64_id (by clear et f0 f1 f2; omega) (by clear et f0 f1 f2; omega)]; simp
      have q0 := byteN_get hb2 (4 * t); have q1 := byteN_get hb2 (4 * t + 1); have q2 := byteN_get hb2 (4 * t + 2); have q3 := byteN_get hb2 (4 * t + 3)
      have n0 : (0 : Int) ≤ ((4 * t : Nat) : Int) := Int.natCast_nonneg _
      have n1 : (0 : Int) ≤ ((4 * t + 1 : Nat) : Int) := Int.natCast_nonneg _
      have n2 : (0 : Int) ≤ ((4 * t + 2 : Nat) : Int) := Int.natCast_nonneg _
      have n3 : (0 : Int) ≤ ((4 * t + 3 : Nat) : Int) := Int.natCast_nonneg _
      have l0 : ((4 * t : Nat) : Int) < ((ci b).length : Int) := by clear et f0 f1 f2 f3; omega
      have l1 : ((4 * t + 1 : Nat) : Int) < ((ci b).length : Int) := by clear et f0 f1 f2 f3; omega
      have l2 : ((4 * t + 2 : Nat) : Int) < ((ci b).length : Int) := by clear et f0 f1 f2 f3; omega
      have l3 : ((4 * t + 3 : Nat) : Int) < ((ci b).length : Int) := by clear et f0 f1 f2 f3; omega
      rw [if_pos (by clear et f0 f1 f2 f3; omega), f0, if_pos n0, if_pos l0, f1, if_pos n1, if_pos l1, f2, if_pos n2, if_pos l2, f3, if_pos n3, if_pos l3, if_pos pt, if_pos pl, ci_rd, ci_rd, ci_rd, ci_rd, et]
      clear f0 f1 f2 f3 et
      have hwd : schedWord b (sched b t) t = b.getD (4 * t) 0 * 16777216 + b.getD (4 * t + 1) 0 * 65536 + b.getD (4 * t + 2) 0 * 256 + b.getD (4 * t + 3) 0 := by unfold schedWord; rw [if_pos h16]
      rw [hwd, ← eset]
      generalize b.getD (4 * t) 0 = a0 at *
      generalize b.getD (4 * t + 1) 0 = a1 at *
      generalize b.getD (4 * t + 2) 0 = a2 at *
      generalize b.getD (4 * t + 3) 0 = a3 at *
      have w0 : wrap64 (a0 : Int) = (a0 : Int) := wrap64_id (by omega) (by omega)
      have w1 : wrap64 (a1 : Int) = (a1 : Int) := wrap64_id (by clear w0; omega) (by clear w0; omega)
      have w2 : wrap64 (a2 : Int) = (a2 : Int) := wrap64_id (by clear w0 w1; omega) (by clear w0 w1; omega)
      have w3 : wrap64 (a3 : Int) = (a3 : Int) := wrap64_id (by clear w0 w1 w2; omega) (by clear w0 w1 w2; omega)
      have m0 : wrap64 ((a0 : Int) * 16777216) = ((a0 * 16777216 : Nat) : Int) := by rw [wrap64_id (by clear w0 w1 w2 w3; omega) (by clear w0 w1 w2 w3; omega)]; simp
      have m1 : wrap64 ((a1 : Int) * 65536) = ((a1 * 65536 : Nat) : Int) := by rw [wrap64_id (by clear w0 w1 w2 w3 m0; omega) (by clear w0 w1 w2 w3 m0; omega)]; simp
      have m2 : wrap64 ((a2 : Int) * 256) = ((a2 * 256 : Nat) : Int) := by rw [wrap64_id (by clear w0 w1 w2 w3 m0 m1; omega) (by clear w0 w1 w2 w3 m0 m1; omega)]; simp
      have s0 : wrap64 (((a0 * 16777216 : Nat) : Int) + ((a1 * 65536 : Nat) : Int)) = ((a0 * 16777216 + a1 * 65536 : Nat) : Int) := by rw [wrap64_id (by clear w0 w1 w2 w3 m0 m1 m2; omega) (by clear w0 w1 w2 w3 m0 m1 m2; omega)]; simp
      have s1 : wrap64 (((a0 * 16777216 + a1 * 65536 : Nat) : Int) + ((a2 * 256 : Nat) : Int)) = ((a0 * 16777216 + a1 * 65536 + a2 * 256 : Nat) : Int) := by rw [wrap64_id (by clear w0 w1 w2 w3 m0 m1 m2 s0; omega) (by clear w0 w1 w2 w3 m0 m1 m2 s0; omega)]; simp
      have s2 : wrap64 (((a0 * 16777216 + a1 * 65536 + a2 * 256 : Nat) : Int) + (a3 : Int)) = ((a0 * 16777216 + a1 * 65536 + a2 * 256 + a3 : Nat) : Int) := by rw [wrap64_id (by clear w0 w1 w2 w3 m0 m1 m2 s0 s1; omega) (by clear w0 w1 w2 w3 m0 m1 m2 s0 s1; omega)]; simp
      rw [w0, w1, w2, w3, m0, m1, m2, s0, s1, s2, Int.toNat_natCast]
    · have f15 : wrap64 ((t : Int) - 15) = ((t - 15 : Nat) : Int) := by rw [wrap64_id (by clear et; omega) (by clear et; omega)]; clear et; omega
      have f2 : wrap64 ((t : Int) - 2) = ((t - 2 : Nat) : Int) := by rw [wrap64_id (by clear et f15; omega) (by clear et f15; omega)]; clear et f15; omega
      have f16 : wrap64 ((t : Int) - 16) = ((t - 16 : Nat) : Int) := by rw [wrap64_id (by clear et f15 f2; omega) (by clear et f15 f2; omega)]; clear et f15 f2; omega
      have f7 : wrap64 ((t : Int) - 7) = ((t - 7 : Nat) : Int) := by rw [wrap64_id (by clear et f15 f2 f16; omega) (by clear et f15 f2 f16; omega)]; clear et f15 f2 f16; omega
      have gd : ∀ i, i < t → rd (ci (sched b t ++ List.replicate (d + 1) 0)) (i : Int) = (((sched b t).getD i 0 : Nat) : Int) := fun i hi => by
        rw [ci_rd, List.getD_eq_getElem?_getD, List.getElem?_append_left (by rw [hsl]; exact hi), ← List.getD_eq_getElem?_getD]
      have n15 : (0 : Int) ≤ ((t - 15 : Nat) : Int) := Int.natCast_nonneg _
      have n2 : (0 : Int) ≤ ((t - 2 : Nat) : Int) := Int.natCast_nonneg _
      have n16 : (0 : Int) ≤ ((t - 16 : Nat) : Int) := Int.natCast_nonneg _
      have n7 : (0 : Int) ≤ ((t - 7 : Nat) : Int) := Int.natCast_nonneg _
      have l15 : ((t - 15 : Nat) : Int) < ((ci (sched b t ++ List.replicate (d + 1) 0)).length : Int) := by clear et f15 f2 f16 f7; omega
      have l2 : ((t - 2 : Nat) : Int) < ((ci (sched b t ++ List.replicate (d + 1) 0)).length : Int) := by clear et f15 f2 f16 f7; omega
      have l16 : ((t - 16 : Nat) : Int) < ((ci (sched b t ++ List.replicate (d + 1) 0)).length : Int) := by clear et f15 f2 f16 f7; omega
      have l7 : ((t - 7 : Nat) : Int) < ((ci (sched b t ++ List.replicate (d + 1) 0)).length : Int) := by clear et f15 f2 f16 f7; omega
      have g := all32_get h32
      have a15 := g (t - 15); have a2 := g (t - 2); have a16 := g (t - 16); have a7 := g (t - 7)
      have s1 := specRot_tell ((sched b t).getD (t - 15) 0) 7 a15 (by decide) (by decide)
      have s2 := specRot_tell ((sched b t).getD (t - 15) 0) 18 a15 (by decide) (by decide)
      have s3 := specRot_tell ((sched b t).getD (t - 2) 0) 17 a2 (by decide) (by decide)
      have s4 := specRot_tell ((sched b t).getD (t - 2) 0) 19 a2 (by decide) (by decide)
      simp only [Int.cast_ofNat_Int] at s1 s2 s3 s4
      have h15 := gd (t - 15) (by clear et f15 f2 f16 f7; omega)
      have h2 := gd (t - 2) (by clear et f15 f2 f16 f7; omega)
      have h16' := gd (t - 16) (by clear et f15 f2 f16 f7; omega)
      have h7 := gd (t - 7) (by clear et f15 f2 f16 f7; omega)
      have hwd : schedWord b (sched b t) t = ((sched b t).getD (t - 16) 0 + sg0 ((sched b t).getD (t - 15) 0) + (sched b t).getD (t - 7) 0 + sg1 ((sched b t).getD (t - 2) 0)) % 4294967296 := by unfold schedWord; rw [if_neg h16]
      rw [if_neg (by clear et f15 f2 f16 f7; omega), f15, if_pos n15, if_pos l15, f2, if_pos n2, if_pos l2, f16, if_pos n16, if_pos l16, h15, s1]
      rw [Option.bind_some]
      rw [s2]
      rw [Option.bind_some]
      rw [f7, if_pos n7, if_pos l7, h2, s3]
      rw [Option.bind_some]
      rw [s4]
      rw [Option.bind_some]
      rw [if_pos pt, if_pos pl, h16', h7, et, hwd]
      clear et f15 f2 f16 f7
      have d8 : (((sched b t).getD (t - 15) 0 : Nat) : Int) / 8 = (((sched b t).getD (t - 15) 0 / 8 : Nat) : Int) := by simp
      have d10 : (((sched b t).getD (t - 2) 0 : Nat) : Int) / 1024 = (((sched b t).getD (t - 2) 0 / 1024 : Nat) : Int) := by simp
      have z0 := sg0_lt a15
      have z1 := sg1_lt a2
      rw [d8, d10, spec_xor3 _ _ _ (rotN_lt a15) (rotN_lt a15) (by omega), spec_xor3 _ _ _ (rotN_lt a2) (rotN_lt a2) (by omega)]
      rw [show rotN ((sched b t).getD (t - 15) 0) 7 ^^^ rotN ((sched b t).getD (t - 15) 0) 18 ^^^ (sched b t).getD (t - 15) 0 / 8 = sg0 ((sched b t).getD (t - 15) 0) from rfl, show rotN ((sched b t).getD (t - 2) 0) 17 ^^^ rotN ((sched b t).getD (t - 2) 0) 19 ^^^ (sched b t).getD (t - 2) 0 / 1024 = sg1 ((sched b t).getD (t - 2) 0) from rfl]
      clear d8 d10
      rw [← eset]
      generalize sg0 ((sched b t).getD (t - 15) 0) = u at *
      generalize sg1 ((sched b t).getD (t - 2) 0) = y at *
      generalize (sched b t).getD (t - 16) 0 = p at *
      generalize (sched b t).getD (t - 7) 0 = q at *
      have k1 : wrap64 ((p : Int) + (u : Int)) = ((p + u : Nat) : Int) := by rw [wrap64_id (by omega) (by omega)]; simp
      have k2 : wrap64 (((p + u : Nat) : Int) + (q : Int)) = ((p + u + q : Nat) : Int) := by rw [wrap64_id (by clear k1; omega) (by clear k1; omega)]; simp
      have k3 : wrap64 (((p + u + q : Nat) : Int) + (y : Int)) = ((p + u + q + y : Nat) : Int) := by rw [wrap64_id (by clear k1 k2; omega) (by clear k1 k2; omega)]; simp
      rw [k1, k2, k3, mask32, Int.toNat_natCast]
      rfl
theorem specBlock_ev (x b : List Nat) (hx : x.length = 8) (hx2 : all32 x) (hb : b.length = 64) (hb2 : byteN b) : Ev (fun k => spec_l7Block.f k (ci x) (ci b)) (ci (blockOf x b)) := by
  have h1 := specBlock_l1 x b x (sched b 64) hx hx2 (sched_length b 64) (sched_32 hb2 64) 64 0 rfl
  have h0 := specSched_l0 x b hb hb2 _ h1 (by omega) 64 0 rfl
  have e : ci (sched b 0 ++ List.replicate 64 0) = List.replicate 64 (0 : Int) := by simp [sched, ci]
  rw [e] at h0
  exact h0

theorem or_join (i : Nat) (a b : Nat) (h : b < 2 ^ i) : a * 2 ^ i ||| b = a * 2 ^ i + b := by
  rw [Nat.mul_comm, ← Nat.two_pow_add_eq_or_of_lt h]
theorem not32 {x : Nat} (hx : x < 4294967296) : 4294967295 ^^^ x = 4294967295 - x := by
  apply Nat.eq_of_testBit_eq
  intro i
  rw [Nat.testBit_xor, show (4294967295 : Nat) - x = 2 ^ 32 - (x + 1) by omega, Nat.testBit_two_pow_sub_succ (show x < 2 ^ 32 from hx), show (4294967295 : Nat) = 2 ^ 32 - 1 from rfl, Nat.testBit_two_pow_sub_one]
  by_cases hi : i < 32
  · simp [hi]
  · have : x.testBit i = false := Nat.testBit_lt_two_pow (Nat.lt_of_lt_of_le hx (show 4294967296 ≤ 2 ^ i from Nat.pow_le_pow_right (n := 2) (by decide) (show 32 ≤ i by omega)))
    simp [hi, this]
theorem impl_xor3 (a b c : Nat) (ha : a < 4294967296) (hb : b < 4294967296) (hc : c < 4294967296) : Go.bits .xor .u32 (Go.bits .xor .u32 (a : Int) (b : Int)) (c : Int) = ((a ^^^ b ^^^ c : Nat) : Int) := by
  have := xor_lt ha hb
  rw [xor32 ha hb, xor32 this hc]
theorem implSched_l1 (b : List Nat) (hb2 : byteN b) : ∀ (d t : Nat), t + d = 64 → 16 ≤ t → Ev (fun k => impl_schedule.l1 k (ci (sched b t)) (t : Int)) (ci (sched b 64))
  | 0, t, ht, _ => by
    obtain rfl : t = 64 := by omega
    refine Ev.step (f := fun _ => some (ci (sched b 64))) (fun k => ?_) (Ev.now _)
    simp only [impl_schedule.l1]
    rw [if_neg (by omega)]
  | d + 1, t, ht, h16 => by
    have ih := implSched_l1 b hb2 d (t + 1) (by omega) (by omega)
    have hsl := sched_length b t
    have h32 := sched_32 hb2 t
    rw [sched, ci_append] at ih
    have hlen : (ci (sched b t)).length = t := by rw [ci_length]; exact hsl
    have et : wrap64 ((t : Int) + 1) = ((t + 1 : Nat) : Int) := wrap64_succ (by omega)
    have f15 : wrap64 ((t : Int) - 15) = ((t - 15 : Nat) : Int) := by rw [wrap64_id (by clear et; omega) (by clear et; omega)]; clear et; omega
    have f2 : wrap64 ((t : Int) - 2) = ((t - 2 : Nat) : Int) := by rw [wrap64_id (by clear et f15; omega) (by clear et f15; omega)]; clear et f15; omega
    have f16 : wrap64 ((t : Int) - 16) = ((t - 16 : Nat) : Int) := by rw [wrap64_id (by clear et f15 f2; omega) (by clear et f15 f2; omega)]; clear et f15 f2; omega
    have f7 : wrap64 ((t : Int) - 7) = ((t - 7 : Nat) : Int) := by rw [wrap64_id (by clear et f15 f2 f16; omega) (by clear et f15 f2 f16; omega)]; clear et f15 f2 f16; omega
    have n15 : (0 : Int) ≤ ((t - 15 : Nat) : Int) := Int.natCast_nonneg _
    have n2 : (0 : Int) ≤ ((t - 2 : Nat) : Int) := Int.natCast_nonneg _
    have n16 : (0 : Int) ≤ ((t - 16 : Nat) : Int) := Int.natCast_nonneg _
    have n7 : (0 : Int) ≤ ((t - 7 : Nat) : Int) := Int.natCast_nonneg _
    have l15 : ((t - 15 : Nat) : Int) < ((ci (sched b t)).length : Int) := by clear et f15 f2 f16 f7; omega
    have l2 : ((t - 2 : Nat) : Int) < ((ci (sched b t)).length : Int) := by clear et f15 f2 f16 f7; omega
    have l16 : ((t - 16 : Nat) : Int) < ((ci (sched b t)).length : Int) := by clear et f15 f2 f16 f7; omega
    have l7 : ((t - 7 : Nat) : Int) < ((ci (sched b t)).length : Int) := by clear et f15 f2 f16 f7; omega
    have lc : (ci (sched b t)).length < 35184372088832 := by clear et f15 f2 f16 f7; omega
    have g := all32_get h32
    have a15 := g (t - 15); have a2 := g (t - 2); have a16 := g (t - 16); have a7 := g (t - 7)
    have s1 := implRot_tell ((sched b t).getD (t - 15) 0) 7 a15 (by decide) (by decide)
    have s2 := implRot_tell ((sched b t).getD (t - 15) 0) 18 a15 (by decide) (by decide)
    have s3 := implRot_tell ((sched b t).getD (t - 2) 0) 17 a2 (by decide) (by decide)
    have s4 := implRot_tell ((sched b t).getD (t - 2) 0) 19 a2 (by decide) (by decide)
    simp only [Int.cast_ofNat_Int] at s1 s2 s3 s4
    have hwd : schedWord b (sched b t) t = ((sched b t).getD (t - 16) 0 + sg0 ((sched b t).getD (t - 15) 0) + (sched b t).getD (t - 7) 0 + sg1 ((sched b t).getD (t - 2) 0)) % 4294967296 := by unfold schedWord; rw [if_neg (by clear et f15 f2 f16 f7; omega)]
    refine Ev.step (fun k => ?_) ih
    simp only [impl_schedule.l1]
    rw [if_pos (by clear et f15 f2 f16 f7; omega), f15, if_pos n15, if_pos l15, f2, if_pos n2, if_pos l2, ci_rd, s1, Option.bind_some, s2, Option.bind_some, ci_rd, s3, Option.bind_some, s4, Option.bind_some, f16, if_pos n16, if_pos l16, f7, if_pos n7, if_pos l7, if_pos lc, ci_rd, ci_rd, et, hwd]
    clear et f15 f2 f16 f7
    have d8 : (((sched b t).getD (t - 15) 0 : Nat) : Int) / 8 = (((sched b t).getD (t - 15) 0 / 8 : Nat) : Int) := by simp
    have d10 : (((sched b t).getD (t - 2) 0 : Nat) : Int) / 1024 = (((sched b t).getD (t - 2) 0 / 1024 : Nat) : Int) := by simp
    rw [d8, d10, impl_xor3 _ _ _ (rotN_lt a15) (rotN_lt a15) (by omega), impl_xor3 _ _ _ (rotN_lt a2) (rotN_lt a2) (by omega)]
    rw [show rotN ((sched b t).getD (t - 15) 0) 7 ^^^ rotN ((sched b t).getD (t - 15) 0) 18 ^^^ (sched b t).getD (t - 15) 0 / 8 = sg0 ((sched b t).getD (t - 15) 0) from rfl, show rotN ((sched b t).getD (t - 2) 0) 17 ^^^ rotN ((sched b t).getD (t - 2) 0) 19 ^^^ (sched b t).getD (t - 2) 0 / 1024 = sg1 ((sched b t).getD (t - 2) 0) from rfl]
    clear d8 d10
    generalize sg0 ((sched b t).getD (t - 15) 0) = u at *
    generalize sg1 ((sched b t).getD (t - 2) 0) = y at *
    generalize (sched b t).getD (t - 16) 0 = p at *
    generalize (sched b t).getD (t - 7) 0 = q at *
    have : ((((p : Int) + (u : Int)) % 4294967296 + (q : Int)) % 4294967296 + (y : Int)) % 4294967296 = (((p + u + q + y) % 4294967296 : Nat) : Int) := by omega
    rw [this]
    simp only [ci, List.map_cons, List.map_nil]
theorem implSched_l0 (b : List Nat) (hb : b.length = 64) (hb2 : byteN b) : ∀ (d t : Nat), t + d = 16 → Ev (fun k => impl_schedule.l0 k (ci b) (ci (sched b t)) (t : Int)) (ci (sched b 64))
  | 0, t, ht => by
    obtain rfl : t = 16 := by omega
    have h := implSched_l1 b hb2 48 16 rfl (by decide)
    refine Ev.step (fun k => ?_) h
    simp only [impl_schedule.l0]
    rw [if_neg (by omega)]
    rfl
  | d + 1, t, ht => by
    have ih := implSched_l0 b hb hb2 d (t + 1) (by omega)
    have hsl := sched_length b t
    rw [sched, ci_append] at ih
    have hlen : (ci (sched b t)).length = t := by rw [ci_length]; exact hsl
    have hbl := ci_length b
    have et : wrap64 ((t : Int) + 1) = ((t + 1 : Nat) : Int) := wrap64_succ (by omega)
    have f0 : wrap64 (4 * (t : Int)) = ((4 * t : Nat) : Int) := by rw [wrap64_id (by clear et; omega) (by clear et; omega)]; simp
    have f1 : wrap64 (((4 * t : Nat) : Int) + 1) = ((4 * t + 1 : Nat) : Int) := wrap64_succ (by clear et f0; omega)
    have f2 : wrap64 (((4 * t : Nat) : Int) + 2) = ((4 * t + 2 : Nat) : Int) := by rw [wrap64_id (by clear et f0 f1; omega) (by clear et f0 f1; omega)]; simp
    have f3 : wrap64 (((4 * t : Nat) : Int) + 3) = ((4 * t + 3 : Nat) : Int) := by rw [wrap64_id (by clear et f0 f1 f2; omega) (by clear et f0 f1 f2; omega)]; simp
    have q0 := byteN_get hb2 (4 * t); have q1 := byteN_get hb2 (4 * t + 1); have q2 := byteN_get hb2 (4 * t + 2); have q3 := byteN_get hb2 (4 * t + 3)
    have n0 : (0 : Int) ≤ ((4 * t : Nat) : Int) := Int.natCast_nonneg _
    have n1 : (0 : Int) ≤ ((4 * t + 1 : Nat) : Int) := Int.natCast_nonneg _
    have n2 : (0 : Int) ≤ ((4 * t + 2 : Nat) : Int) := Int.natCast_nonneg _
    have n3 : (0 : Int) ≤ ((4 * t + 3 : Nat) : Int) := Int.natCast_nonneg _
    have l0 : ((4 * t : Nat) : Int) < ((ci b).length : Int) := by clear et f0 f1 f2 f3; omega
    have l1 : ((4 * t + 1 : Nat) : Int) < ((ci b).length : Int) := by clear et f0 f1 f2 f3; omega
    have l2 : ((4 * t + 2 : Nat) : Int) < ((ci b).length : Int) := by clear et f0 f1 f2 f3; omega
    have l3 : ((4 * t + 3 : Nat) : Int) < ((ci b).length : Int) := by clear et f0 f1 f2 f3; omega
    have lc : (ci (sched b t)).length < 35184372088832 := by clear et f0 f1 f2 f3; omega
    have hwd : schedWord b (sched b t) t = b.getD (4 * t) 0 * 16777216 + b.getD (4 * t + 1) 0 * 65536 + b.getD (4 * t + 2) 0 * 256 + b.getD (4 * t + 3) 0 := by unfold schedWord; rw [if_pos (by clear et f0 f1 f2 f3; omega)]
    refine Ev.step (fun k => ?_) ih
    simp only [impl_schedule.l0]
    rw [if_pos (by clear et f0 f1 f2 f3; omega), f0, if_pos n0, if_pos l0, f1, if_pos n1, if_pos l1, f2, if_pos n2, if_pos l2, f3, if_pos n3, if_pos l3, if_pos lc, ci_rd, ci_rd, ci_rd, ci_rd, et, hwd]
    clear f0 f1 f2 f3 et
    generalize b.getD (4 * t) 0 = a0 at *
    generalize b.getD (4 * t + 1) 0 = a1 at *
    generalize b.getD (4 * t + 2) 0 = a2 at *
    generalize b.getD (4 * t + 3) 0 = a3 at *
    have m0 : ((a0 : Int) % 4294967296 * 16777216) % 4294967296 = ((a0 * 16777216 : Nat) : Int) := by omega
    have m1 : ((a1 : Int) % 4294967296 * 65536) % 4294967296 = ((a1 * 65536 : Nat) : Int) := by omega
    have m2 : ((a2 : Int) % 4294967296 * 256) % 4294967296 = ((a2 * 256 : Nat) : Int) := by omega
    have m3 : (a3 : Int) % 4294967296 = (a3 : Int) := by omega
    have o1 : a0 * 16777216 ||| a1 * 65536 = a0 * 16777216 + a1 * 65536 := or_join 24 a0 (a1 * 65536) (by omega)
    have o2 : (a0 * 16777216 + a1 * 65536) ||| a2 * 256 = a0 * 16777216 + a1 * 65536 + a2 * 256 := by
      have := or_join 16 (a0 * 256 + a1) (a2 * 256) (by omega)
      rw [show a0 * 16777216 + a1 * 65536 = (a0 * 256 + a1) * 2 ^ 16 by omega]; exact this
    have o3 : (a0 * 16777216 + a1 * 65536 + a2 * 256) ||| a3 = a0 * 16777216 + a1 * 65536 + a2 * 256 + a3 := by
      have := or_join 8 (a0 * 65536 + a1 * 256 + a2) a3 (by omega)
      rw [show a0 * 16777216 + a1 * 65536 + a2 * 256 = (a0 * 65536 + a1 * 256 + a2) * 2 ^ 8 by omega]; exact this
    rw [m0, m1, m2, m3, or32 (by omega) (by omega), o1, or32 (by omega) (by omega), o2, or32 (by omega) (by omega), o3]
    simp only [ci, List.map_cons, List.map_nil]
theorem implSchedule_ev (b : List Nat) (hb : b.length = 64) (hb2 : byteN b) : Ev (fun k => impl_schedule.f k (ci b)) (ci (sched b 64)) := by
  unfold impl_schedule.f
  exact implSched_l0 b hb hb2 16 0 rfl
theorem implTurned_l2 (x v : List Nat) (hx : x.length = 8) (hv : v.length = 8) (hx2 : all32 x) (hv2 : all32 v) : ∀ (d t : Nat), t + d = 8 → Ev (fun k => impl_turned.l2 k (ci x) (ci (addTo x v t)) (ci v) 8 (t : Int)) (ci (addTo x v 8))
  | 0, t, ht => by
    obtain rfl : t = 8 := by omega
    refine Ev.step (f := fun _ => some (ci (addTo x v 8))) (fun k => ?_) (Ev.now _)
    simp only [impl_turned.l2]
    rw [if_neg (by omega)]
  | d + 1, t, ht => by
    have ih := implTurned_l2 x v hx hv hx2 hv2 d (t + 1) (by omega)
    have hl := addTo_length x v t
    have hl1 := ci_length x
    have hl2 := ci_length v
    have hl3 := ci_length (addTo x v t)
    rw [addTo, ci_append] at ih
    refine Ev.step (fun k => ?_) ih
    have et : wrap64 ((t : Int) + 1) = ((t + 1 : Nat) : Int) := wrap64_succ (by omega)
    simp only [impl_turned.l2]
    rw [if_pos (by clear et; omega), if_pos (by clear et; omega), if_pos (by clear et; omega), if_pos (by clear et; omega), if_pos (by clear et; omega), ci_rd, ci_rd, et]
    have : (((x.getD t 0 : Nat) : Int) + ((v.getD t 0 : Nat) : Int)) % 4294967296 = (((x.getD t 0 + v.getD t 0) % 4294967296 : Nat) : Int) := by simp
    rw [this]
    simp only [ci, List.map_cons, List.map_nil]
theorem impl_x (v : List Nat) (hv : all32 v) (k w : Nat) :
    ((((v.getD 7 0 : Nat) : Int) + (Go.bits .xor .u32 (Go.bits .xor .u32 ((rotN (v.getD 4 0) 6 : Nat) : Int) ((rotN (v.getD 4 0) 11 : Nat) : Int)) ((rotN (v.getD 4 0) 25 : Nat) : Int)) + (Go.bits .xor .u32 (Go.bits .and .u32 ((v.getD 4 0 : Nat) : Int) ((v.getD 5 0 : Nat) : Int)) (Go.bits .and .u32 (Go.bits .xor .u32 IntKind.u32.max ((v.getD 4 0 : Nat) : Int)) ((v.getD 6 0 : Nat) : Int)))) + (k : Int)) + (w : Int) = ((xPart v k w : Nat) : Int) := by
  have g := all32_get hv
  have g4 := g 4; have g5 := g 5; have g6 := g 6
  have r1 := rotN_lt (n := 6) g4; have r2 := rotN_lt (n := 11) g4; have r3 := rotN_lt (n := 25) g4
  have b3 : v.getD 4 0 &&& v.getD 5 0 < 4294967296 := and_lt g4
  have q4 : 4294967295 - v.getD 4 0 < 4294967296 := by omega
  have b4 : (4294967295 - v.getD 4 0) &&& v.getD 6 0 < 4294967296 := and_lt q4
  have em : IntKind.u32.max = ((4294967295 : Nat) : Int) := by decide
  rw [em, xor32 (by decide) g4, not32 g4, impl_xor3 _ _ _ r1 r2 r3, and32 g4 g5, and32 q4 g6, xor32 b3 b4]
  unfold xPart
  simp
theorem impl_y (v : List Nat) (hv : all32 v) :
    (Go.bits .xor .u32 (Go.bits .xor .u32 ((rotN (v.getD 0 0) 2 : Nat) : Int) ((rotN (v.getD 0 0) 13 : Nat) : Int)) ((rotN (v.getD 0 0) 22 : Nat) : Int)) + (Go.bits .xor .u32 (Go.bits .xor .u32 (Go.bits .and .u32 ((v.getD 0 0 : Nat) : Int) ((v.getD 1 0 : Nat) : Int)) (Go.bits .and .u32 ((v.getD 0 0 : Nat) : Int) ((v.getD 2 0 : Nat) : Int))) (Go.bits .and .u32 ((v.getD 1 0 : Nat) : Int) ((v.getD 2 0 : Nat) : Int))) = ((yPart v : Nat) : Int) := by
  have g := all32_get hv
  have g0 := g 0; have g1 := g 1; have g2 := g 2
  rw [impl_xor3 _ _ _ (rotN_lt g0) (rotN_lt g0) (rotN_lt g0), and32 g0 g1, and32 g0 g2, and32 g1 g2, impl_xor3 _ _ _ (and_lt g0) (and_lt g0) (and_lt g1)]
  unfold yPart
  simp
theorem implTurned_l1 (x : List Nat) (ws : List Nat) (hx : x.length = 8) (hx2 : all32 x) (hws : ws.length = 64) (hws2 : all32 ws) : ∀ (d t : Nat), t + d = 64 →
    Ev (fun k => impl_turned.l1 k (ci x) (ci (roundsTo ws x t)) (ci kWords) (ci ws) 64 (t : Int)) (ci (addTo x (roundsTo ws x 64) 8))
  | 0, t, ht => by
    obtain rfl : t = 64 := by omega
    have h := implTurned_l2 x (roundsTo ws x 64) hx (roundsTo_length hx 64) hx2 (roundsTo_32 hx2 64) 8 0 rfl
    have hl : ((ci (roundsTo ws x 64)).length : Int) = 8 := by rw [ci_length, roundsTo_length hx 64]; rfl
    refine Ev.step (fun k => ?_) h
    simp only [impl_turned.l1]
    rw [if_neg (by omega), hl]
    rfl
  | d + 1, t, ht => by
    have ih := implTurned_l1 x ws hx hx2 hws hws2 d (t + 1) (by omega)
    refine Ev.step (fun k => ?_) ih
    rw [roundsTo]
    have hl := roundsTo_length (ws := ws) hx t
    have h32 := roundsTo_32 (ws := ws) hx2 t
    generalize roundsTo ws x t = v at *
    have hl1 := ci_length v
    have hl2 := ci_length ws
    have hl3 : (ci kWords).length = 64 := by rw [ci_length]; rfl
    have g := all32_get h32
    have ez : ∀ i : Nat, rd (ci v) ((i : Nat) : Int) = ((v.getD i 0 : Nat) : Int) := fun i => ci_rd v i
    have e0 := ez 0; have e1 := ez 1; have e2 := ez 2; have e3 := ez 3; have e4 := ez 4; have e5 := ez 5; have e6 := ez 6; have e7 := ez 7
    simp only [Int.cast_ofNat_Int] at e0 e1 e2 e3 e4 e5 e6 e7
    have et : wrap64 ((t : Int) + 1) = ((t + 1 : Nat) : Int) := wrap64_succ (by omega)
    have p64 : (t : Int) < 64 := by clear et; omega
    have p0 : (0 : Int) < ((ci v).length : Int) := by clear et; omega
    have p1 : (1 : Int) < ((ci v).length : Int) := by clear et; omega
    have p2 : (2 : Int) < ((ci v).length : Int) := by clear et; omega
    have p3 : (3 : Int) < ((ci v).length : Int) := by clear et; omega
    have p4 : (4 : Int) < ((ci v).length : Int) := by clear et; omega
    have p5 : (5 : Int) < ((ci v).length : Int) := by clear et; omega
    have p6 : (6 : Int) < ((ci v).length : Int) := by clear et; omega
    have p7 : (7 : Int) < ((ci v).length : Int) := by clear et; omega
    have pk : (t : Int) < ((ci kWords).length : Int) := by clear et; omega
    have pw : (t : Int) < ((ci ws).length : Int) := by clear et; omega
    have pt : (0 : Int) ≤ (t : Int) := by clear et; omega
    have s1 := implRot_tell (v.getD 4 0) 6 (g 4) (by decide) (by decide)
    have s2 := implRot_tell (v.getD 4 0) 11 (g 4) (by decide) (by decide)
    have s3 := implRot_tell (v.getD 4 0) 25 (g 4) (by decide) (by decide)
    have s4 := implRot_tell (v.getD 0 0) 2 (g 0) (by decide) (by decide)
    have s5 := implRot_tell (v.getD 0 0) 13 (g 0) (by decide) (by decide)
    have s6 := implRot_tell (v.getD 0 0) 22 (g 0) (by decide) (by decide)
    simp only [Int.cast_ofNat_Int] at s1 s2 s3 s4 s5 s6
    have hX := impl_x v h32 (kWords.getD t 0) (ws.getD t 0)
    have hY := impl_y v h32
    have hXY : (((xPart v (kWords.getD t 0) (ws.getD t 0) : Nat) : Int) + ((yPart v : Nat) : Int)) % 4294967296 = (((xPart v (kWords.getD t 0) (ws.getD t 0) + yPart v) % 4294967296 : Nat) : Int) := by simp
    have hX3 : (((v.getD 3 0 : Nat) : Int) + ((xPart v (kWords.getD t 0) (ws.getD t 0) : Nat) : Int)) % 4294967296 = (((v.getD 3 0 + xPart v (kWords.getD t 0) (ws.getD t 0)) % 4294967296 : Nat) : Int) := by simp
    simp only [impl_turned.l1]
    rw [if_pos p64, if_pos pt, if_pos pw, if_pos p0, if_pos p4, if_pos p7, e4, s1, Option.bind_some, s2, Option.bind_some, s3, Option.bind_some, if_pos p5, if_pos p6, if_pos pk, e0, s4, Option.bind_some, s5, Option.bind_some, s6, Option.bind_some, if_pos p1, if_pos p2, if_pos p3, e7, e5, e6, e1, e2, e3, ci_rd, ci_rd, hX, hY, hXY, hX3, et]
    simp only [ci, roundOf, List.map_cons, List.map_nil]
theorem implTurned_l0 (x b : List Nat) (hx : x.length = 8) (hx2 : all32 x) (hb : b.length = 64) (hb2 : byteN b) : ∀ (d t : Nat), t + d = 8 →
    Ev (fun k => impl_turned.l0 k (ci x) (ci b) (ci (x.take t)) (ci x) 8 (t : Int)) (ci (blockOf x b))
  | 0, t, ht => by
    obtain rfl : t = 8 := by omega
    have hs := implSchedule_ev b hb hb2
    have h1 := implTurned_l1 x (sched b 64) hx hx2 (sched_length b 64) (sched_32 hb2 64) 64 0 rfl
    have hl : ((ci (sched b 64)).length : Int) = 64 := by rw [ci_length, sched_length]; rfl
    have hk : impl_rounds.f = some (ci kWords) := by unfold impl_rounds.f; congr 1
    have hj : Ev (fun k => (impl_rounds.f).bind fun t283 => ((impl_schedule.f k (ci b)).bind fun t286 => (impl_turned.l1 k (ci x) (ci (x.take 8)) t283 t286 (t286.length : Int) 0))) (ci (blockOf x b)) := by
      refine Ev.bindc hk (Ev.bind hs ?_)
      rw [hl, List.take_of_length_le (by omega)]
      exact h1
    refine Ev.step (fun k => ?_) hj
    simp only [impl_turned.l0]
    rw [if_neg (by omega)]
  | d + 1, t, ht => by
    have ih := implTurned_l0 x b hx hx2 hb hb2 d (t + 1) (by omega)
    have hl1 := ci_length x
    have hl2 := ci_length (x.take t)
    have hl3 : (x.take t).length = t := by rw [List.length_take]; omega
    have g := all32_get hx2 t
    have et : wrap64 ((t : Int) + 1) = ((t + 1 : Nat) : Int) := wrap64_succ (by omega)
    have e3 : x.take (t + 1) = x.take t ++ [x.getD t 0] := by
      rw [List.take_add_one, List.getD_eq_getElem?_getD, List.getElem?_eq_getElem (by clear et; omega)]; rfl
    rw [e3, ci_append] at ih
    refine Ev.step (fun k => ?_) ih
    simp only [impl_turned.l0]
    rw [if_pos (by clear et; omega), if_pos (by clear et; omega), if_pos (by clear et; omega), if_pos (by clear et; omega), ci_rd, et]
    have : ((x.getD t 0 : Nat) : Int) % 4294967296 = ((x.getD t 0 : Nat) : Int) := by clear et; omega
    rw [this]
    simp only [ci, List.map_cons, List.map_nil]
theorem implTurned_ev (x b : List Nat) (hx : x.length = 8) (hx2 : all32 x) (hb : b.length = 64) (hb2 : byteN b) : Ev (fun k => impl_turned.f k (ci x) (ci b)) (ci (blockOf x b)) := by
  unfold impl_turned.f
  have h := implTurned_l0 x b hx hx2 hb hb2 8 0 rfl
  have hl : ((ci x).length : Int) = 8 := by rw [ci_length, hx]; rfl
  rw [hl]
  exact h

theorem ci_toNat : ∀ (l : List Int), (∀ x ∈ l, 0 ≤ x) → ci (l.map Int.toNat) = l
  | [], _ => rfl
  | x :: l, h => by
    have h1 := ci_toNat l (fun y hy => h y (List.mem_cons_of_mem _ hy))
    have h0 := h x List.mem_cons_self
    simp only [ci, List.map_cons] at h1 ⊢
    rw [h1, Int.toNat_of_nonneg h0]
theorem ci_take (l : List Nat) (n : Nat) : (ci l).take n = ci (l.take n) := by simp [ci, List.map_take]
theorem ci_drop (l : List Nat) (n : Nat) : (ci l).drop n = ci (l.drop n) := by simp [ci, List.map_drop]
def chain : Nat → List Nat → List Nat → List Nat
  | 0, x, _ => x
  | n + 1, x, t => chain n (blockOf x (t.take 64)) (t.drop 64)
theorem chain_length : ∀ (n : Nat) (x t : List Nat), x.length = 8 → (chain n x t).length = 8
  | 0, _, _, h => h
  | n + 1, x, t, _ => chain_length n _ _ (blockOf_length _ _)
theorem chain_32 : ∀ (n : Nat) (x t : List Nat), all32 x → all32 (chain n x t)
  | 0, _, _, h => h
  | n + 1, x, t, _ => chain_32 n _ _ (blockOf_32 _ _)
theorem byteN_append {a b : List Nat} (ha : byteN a) (hb : byteN b) : byteN (a ++ b) := fun x hx => (List.mem_append.1 hx).elim (ha x) (hb x)
theorem byteN_rep (n : Nat) : byteN (List.replicate n 0) := fun x hx => by rw [List.eq_of_mem_replicate hx]; decide
theorem byteN_take {a : List Nat} (ha : byteN a) (n : Nat) : byteN (a.take n) := fun x hx => ha x (List.mem_of_mem_take hx)
theorem byteN_drop {a : List Nat} (ha : byteN a) (n : Nat) : byteN (a.drop n) := fun x hx => ha x (List.mem_of_mem_drop hx)
theorem sumOk_nat {w : List Int} {c : Int} {r : List Int} (h : sumOkP w c r) (h8 : ∀ x ∈ r, 0 ≤ x ∧ x < 256) :
    ci (w.map Int.toNat) = w ∧ ((c.toNat : Nat) : Int) = c ∧ ci (r.map Int.toNat) = r ∧ (w.map Int.toNat).length = 8 ∧ all32 (w.map Int.toNat) ∧ byteN (r.map Int.toNat) ∧ c.toNat ≤ 2147483647 ∧ (r.map Int.toNat).length < 64 := by
  obtain ⟨h1, h2, h3, h4, h5⟩ := h
  have hw : ∀ x ∈ w, 0 ≤ x ∧ x ≤ 4294967295 := fun x hx => by
    have := List.any_eq_false.1 h2 x hx
    unfold badWord at this
    simpa using this
  refine ⟨ci_toNat w (fun x hx => (hw x hx).1), Int.toNat_of_nonneg h3, ci_toNat r (fun x hx => (h8 x hx).1), by rw [List.length_map, h1], ?_, ?_, by omega, by rw [List.length_map]; omega⟩
  · intro y hy
    obtain ⟨x, hx, rfl⟩ := List.mem_map.1 hy
    have := hw x hx
    unfold W32; omega
  · intro y hy
    obtain ⟨x, hx, rfl⟩ := List.mem_map.1 hy
    have := h8 x hx
    omega

theorem cloneInt_tell (l : List Int) (h : l.length < 1000000000) : slices_Clone_int_int.f l = some l := by
  unfold slices_Clone_int_int.f
  rw [Option.bind_some, if_pos (by simp; omega), List.nil_append]
theorem cloneByte_tell (l : List Int) (h : l.length < 1000000000) : slices_Clone_byte_byte.f l = some l := by
  unfold slices_Clone_byte_byte.f
  rw [Option.bind_some, if_pos (by simp; omega), List.nil_append]

/-! The end of a sum -/
def hi8 (n : Nat) : List Nat := [n / 256 / 256 / 256 / 256 / 256 / 256 / 256 % 256, n / 256 / 256 / 256 / 256 / 256 / 256 % 256, n / 256 / 256 / 256 / 256 / 256 % 256, n / 256 / 256 / 256 / 256 % 256, n / 256 / 256 / 256 % 256, n / 256 / 256 % 256, n / 256 % 256, n % 256]
def outB (x : Nat) : List Nat := [x / 16777216 % 256, x / 65536 % 256, x / 256 % 256, x % 256]
def outTo (x : List Nat) : Nat → List Nat
  | 0 => []
  | t + 1 => outTo x t ++ outB (x.getD t 0)
theorem outTo_length (x : List Nat) : ∀ t, (outTo x t).length = 4 * t
  | 0 => rfl
  | t + 1 => by rw [outTo, List.length_append, outTo_length x t]; simp [outB]; omega
def padOf (r : List Nat) : List Nat := r ++ [128] ++ List.replicate ((119 - r.length) % 64) 0
def tailOf (c : Nat) (r : List Nat) : List Nat := padOf r ++ hi8 (8 * c)
theorem tailOf_length (c : Nat) (r : List Nat) (h : r.length < 64) : (tailOf c r).length = 64 ∨ (tailOf c r).length = 128 := by
  simp only [tailOf, padOf, hi8, List.length_append, List.length_replicate, List.length_cons, List.length_nil]
  omega
theorem hi8_byte (n : Nat) : byteN (hi8 n) := by
  intro x hx
  simp only [hi8, List.mem_cons, List.not_mem_nil, or_false] at hx
  rcases hx with rfl | rfl | rfl | rfl | rfl | rfl | rfl | rfl <;> exact Nat.mod_lt _ (by decide)
theorem tailOf_byte (c : Nat) (r : List Nat) (h : byteN r) : byteN (tailOf c r) :=
  byteN_append (byteN_append (byteN_append h (by unfold byteN; decide)) (byteN_rep _)) (hi8_byte _)
def endN (w : List Nat) (c : Nat) (r : List Nat) : List Nat := outTo (chain ((tailOf c r).length / 64) w (tailOf c r)) 8
theorem endN_length (w : List Nat) (c : Nat) (r : List Nat) : (endN w c r).length = 32 := outTo_length _ 8
/-! the spec -/
theorem u64_8 (j : Nat) (h : j < 8) : IntKind.u64.wrap (wrap64 (8 * (j : Int))) = ((8 * j : Nat) : Int) := by
  have : wrap64 (8 * (j : Int)) = ((8 * j : Nat) : Int) := by rw [wrap64_id (by omega) (by omega)]; simp
  rw [this, wrapU64_id (by clear this; omega) (by clear this; omega)]
theorem cut8 (n j : Nat) (h : j < 8) : (Go.bits .and .i64 (shr .i64 (n : Int) (IntKind.u64.wrap (wrap64 (8 * (j : Int))))) 255) % 256 = ((n / 2 ^ (8 * j) % 256 : Nat) : Int) := by
  rw [u64_8 j h, shr_i64 (by omega)]
  have : (n : Int) / 2 ^ (8 * j) = ((n / 2 ^ (8 * j) : Nat) : Int) := by simp
  rw [this]
  have m := and_mask 8 (by decide) ((n / 2 ^ (8 * j) : Nat) : Int)
  rw [show (2 : Int) ^ 8 - 1 = 255 from rfl, show (2 : Int) ^ 8 = 256 from rfl] at m
  rw [m]
  omega
theorem specEnd_l4 (x : List Nat) (acc : List Nat) (i : Nat) (hi : i < 8) (hx : x.length = 8) (hx2 : all32 x) (ha : acc.length ≤ 1000) (r : List Int) (hr : Ev (fun k => spec_SumEnd.l3 k (ci (acc ++ outB (x.getD i 0))) (ci x) ((i + 1 : Nat) : Int)) r) :
    Ev (fun k => spec_SumEnd.l4 k (ci acc) (ci x) (i : Int) 3) r := by
  have hl1 := ci_length x
  have st : ∀ (a : List Nat) (j : Nat), j < 4 → a.length ≤ 1010 → Ev (fun k => spec_SumEnd.l4 k (ci (a ++ [x.getD i 0 / 2 ^ (8 * j) % 256])) (ci x) (i : Int) ((j : Int) - 1)) r → Ev (fun k => spec_SumEnd.l4 k (ci a) (ci x) (i : Int) (j : Int)) r := fun a j hj ha h => by
    have hl2 := ci_length a
    refine Ev.step (fun k => ?_) h
    have ew : wrap64 ((j : Int) - 1) = (j : Int) - 1 := wrap64_id (by omega) (by omega)
    have eu := u64_8 j (by clear ew; omega)
    have ec := cut8 (x.getD i 0) j (by clear ew eu; omega)
    have c0 : (j : Int) ≥ 0 := by clear ew eu ec; omega
    have c1 : (0 : Int) ≤ IntKind.u64.wrap (wrap64 (8 * (j : Int))) := by rw [eu]; exact Int.natCast_nonneg _
    have c2 : (0 : Int) ≤ (i : Int) := by clear ew eu ec; omega
    have c3 : (i : Int) < ((ci x).length : Int) := by clear ew eu ec; omega
    have c4 : (ci a).length < 140737488355328 := by clear ew eu ec; omega
    simp only [spec_SumEnd.l4]
    rw [if_pos c0, if_pos c2, if_pos c3, if_pos c1, if_pos c4, ci_rd, ec, ew, ci_append]
    simp only [ci, List.map_cons, List.map_nil]
  have e : ∀ (a : List Nat) , Ev (fun k => spec_SumEnd.l3 k (ci a) (ci x) ((i + 1 : Nat) : Int)) r → Ev (fun k => spec_SumEnd.l4 k (ci a) (ci x) (i : Int) (-1)) r := fun a h => by
    refine Ev.step (fun k => ?_) h
    have et : wrap64 ((i : Int) + 1) = ((i + 1 : Nat) : Int) := wrap64_succ (by omega)
    simp only [spec_SumEnd.l4]
    rw [if_neg (by clear et; omega), et]
  refine st acc 3 (by decide) (by omega) ?_
  refine st _ 2 (by decide) (by rw [List.length_append]; simp; omega) ?_
  refine st _ 1 (by decide) (by simp only [List.length_append, List.length_cons, List.length_nil]; omega) ?_
  refine st _ 0 (by decide) (by simp only [List.length_append, List.length_cons, List.length_nil]; omega) ?_
  refine e _ ?_
  simp only [List.append_assoc, List.cons_append, List.nil_append]
  simp only [outB] at hr
  simpa using hr
theorem specEnd_l3 (x : List Nat) (hx : x.length = 8) (hx2 : all32 x) : ∀ (d t : Nat), t + d = 8 → Ev (fun k => spec_SumEnd.l3 k (ci (outTo x t)) (ci x) (t : Int)) (ci (outTo x 8))
  | 0, t, ht => by
    obtain rfl : t = 8 := by omega
    refine Ev.step (f := fun _ => some (ci (outTo x 8))) (fun k => ?_) (Ev.now _)
    simp only [spec_SumEnd.l3]
    rw [if_neg (by omega)]
  | d + 1, t, ht => by
    have ih := specEnd_l3 x hx hx2 d (t + 1) (by omega)
    have hl := outTo_length x t
    rw [outTo] at ih
    refine Ev.step (fun k => ?_) (specEnd_l4 x (outTo x t) t (by omega) hx hx2 (by omega) _ ih)
    simp only [spec_SumEnd.l3]
    rw [if_pos (by omega)]
theorem specEnd_l2 (t : List Nat) (ht : byteN t) (ht2 : t.length ≤ 1000) : ∀ (n i : Nat) (x : List Nat), x.length = 8 → all32 x → i + 64 * n = t.length →
    Ev (fun k => spec_SumEnd.l2 k [] (ci t) (ci x) (i : Int)) (ci (outTo (chain n x (t.drop i)) 8))
  | 0, i, x, hx, hx2, hi => by
    have h := specEnd_l3 x hx hx2 8 0 rfl
    have hl := ci_length t
    refine Ev.step (fun k => ?_) h
    simp only [spec_SumEnd.l2]
    rw [if_neg (by omega)]
    rfl
  | n + 1, i, x, hx, hx2, hi => by
    have hl := ci_length t
    have ew : wrap64 ((i : Int) + 64) = ((i + 64 : Nat) : Int) := by rw [wrap64_id (by omega) (by omega)]; simp
    have hc : ((t.drop i).take 64).length = 64 := by rw [List.length_take, List.length_drop]; clear ew; omega
    have hb := specBlock_ev x ((t.drop i).take 64) hx hx2 hc (byteN_take (byteN_drop ht i) 64)
    have ih := specEnd_l2 t ht ht2 n (i + 64) (blockOf x ((t.drop i).take 64)) (blockOf_length _ _) (blockOf_32 _ _) (by clear ew; omega)
    rw [chain, List.drop_drop]
    have hj : Ev (fun k => (spec_l7Block.f k (ci x) (ci ((t.drop i).take 64))).bind fun y => spec_SumEnd.l2 k [] (ci t) y ((i + 64 : Nat) : Int)) (ci (outTo (chain n (blockOf x ((t.drop i).take 64)) (t.drop (i + 64))) 8)) := Ev.bind hb ih
    refine Ev.step (fun k => ?_) hj
    have e1 : ((ci t).take ((i + 64 : Nat) : Int).toNat).drop (i : Int).toNat = ci ((t.drop i).take 64) := by
      rw [Int.toNat_natCast, Int.toNat_natCast, ci_take, ci_drop, List.drop_take, Nat.add_sub_cancel_left]
    simp only [spec_SumEnd.l2]
    rw [if_pos (by clear ew e1; omega), if_pos (by clear ew e1; omega), ew, if_pos (by clear ew e1; omega), if_pos (by clear ew e1; omega), e1]
theorem specEnd_l1 (t : List Nat) (w : List Nat) (c : Nat) (rr : List Int) (hw : w.length = 8) (hc : c ≤ 2147483647) (ht2 : t.length ≤ 1000) (r : List Int) (hr : Ev (fun k => spec_SumEnd.l2 k [] (ci (t ++ hi8 (8 * c))) (ci w) 0) r) :
    Ev (fun k => spec_SumEnd.l1 k [] (ci t) 7 (ci w) (c : Int) rr) r := by
  have hl1 := ci_length w
  have e8 : wrap64 (8 * (c : Int)) = ((8 * c : Nat) : Int) := by rw [wrap64_id (by omega) (by omega)]; simp
  have st : ∀ (a : List Nat) (j : Nat), j < 8 → a.length ≤ 1010 → Ev (fun k => spec_SumEnd.l1 k [] (ci (a ++ [8 * c / 2 ^ (8 * j) % 256])) ((j : Int) - 1) (ci w) (c : Int) rr) r → Ev (fun k => spec_SumEnd.l1 k [] (ci a) (j : Int) (ci w) (c : Int) rr) r := fun a j hj ha h => by
    have hl2 := ci_length a
    refine Ev.step (fun k => ?_) h
    have ew : wrap64 ((j : Int) - 1) = (j : Int) - 1 := wrap64_id (by clear e8; omega) (by clear e8; omega)
    have eu := u64_8 j (by clear ew e8; omega)
    have ec := cut8 (8 * c) j (by clear ew eu e8; omega)
    have c0 : (j : Int) ≥ 0 := by clear ew eu ec e8; omega
    have c1 : (0 : Int) ≤ IntKind.u64.wrap (wrap64 (8 * (j : Int))) := by rw [eu]; exact Int.natCast_nonneg _
    have c4 : (ci a).length < 140737488355328 := by clear ew eu ec e8; omega
    simp only [spec_SumEnd.l1]
    rw [if_pos c0, if_pos c1, if_pos c4, e8, ec, ew, ci_append]
    simp only [ci, List.map_cons, List.map_nil]
  have e : ∀ (a : List Nat) , Ev (fun k => spec_SumEnd.l2 k [] (ci a) (ci w) 0) r → Ev (fun k => spec_SumEnd.l1 k [] (ci a) (-1) (ci w) (c : Int) rr) r := fun a h => by
    refine Ev.step (fun k => ?_) h
    simp only [spec_SumEnd.l1]
    rw [if_neg (by clear e8; omega), Option.bind_some, if_pos (by clear e8; simp; omega), List.nil_append]
  refine st t 7 (by decide) (by clear e8; omega) ?_
  refine st _ 6 (by decide) (by clear e8; simp only [List.length_append, List.length_cons, List.length_nil]; omega) ?_
  refine st _ 5 (by decide) (by clear e8; simp only [List.length_append, List.length_cons, List.length_nil]; omega) ?_
  refine st _ 4 (by decide) (by clear e8; simp only [List.length_append, List.length_cons, List.length_nil]; omega) ?_
  refine st _ 3 (by decide) (by clear e8; simp only [List.length_append, List.length_cons, List.length_nil]; omega) ?_
  refine st _ 2 (by decide) (by clear e8; simp only [List.length_append, List.length_cons, List.length_nil]; omega) ?_
  refine st _ 1 (by decide) (by clear e8; simp only [List.length_append, List.length_cons, List.length_nil]; omega) ?_
  refine st _ 0 (by decide) (by clear e8; simp only [List.length_append, List.length_cons, List.length_nil]; omega) ?_
  refine e _ ?_
  simp only [List.append_assoc, List.cons_append, List.nil_append]
  have hh : hi8 (8 * c) = [8 * c / 2 ^ (8 * 7) % 256, 8 * c / 2 ^ (8 * 6) % 256, 8 * c / 2 ^ (8 * 5) % 256, 8 * c / 2 ^ (8 * 4) % 256, 8 * c / 2 ^ (8 * 3) % 256, 8 * c / 2 ^ (8 * 2) % 256, 8 * c / 2 ^ (8 * 1) % 256, 8 * c / 2 ^ (8 * 0) % 256] := by
    unfold hi8
    simp only [Nat.div_div_eq_div_mul]
    simp
  rw [← hh]
  exact hr
theorem specEnd_l0 (w : List Nat) (c : Nat) (rr : List Int) (r : List Int) : ∀ (z : Nat) (l : List Nat), z < 64 → (l.length + z) % 64 = 56 → l.length + z ≤ 500 →
    Ev (fun k => spec_SumEnd.l1 k [] (ci (l ++ List.replicate z 0)) 7 (ci w) (c : Int) rr) r → Ev (fun k => spec_SumEnd.l0 k [] (ci l) (ci w) (c : Int) rr) r
  | 0, l, hz, h56, h5, h => by
    have hl := ci_length l
    rw [List.replicate_zero, List.append_nil] at h
    refine Ev.step (fun k => ?_) h
    have e : wrap64 (((ci l).length : Int) + 8) = (l.length : Int) + 8 := by rw [hl]; exact wrap64_id (by omega) (by omega)
    simp only [spec_SumEnd.l0]
    rw [e, Int.tmod_eq_emod_of_nonneg (by clear e; omega), if_pos (by clear e; omega)]
  | z + 1, l, hz, h56, h5, h => by
    have hl := ci_length l
    have h1 := specEnd_l0 w c rr r z (l ++ [0]) (by omega) (by simp only [List.length_append, List.length_cons, List.length_nil]; omega) (by simp only [List.length_append, List.length_cons, List.length_nil]; omega) (by rw [List.append_assoc]; exact h)
    refine Ev.step (fun k => ?_) h1
    have e : wrap64 (((ci l).length : Int) + 8) = (l.length : Int) + 8 := by rw [hl]; exact wrap64_id (by omega) (by omega)
    simp only [spec_SumEnd.l0]
    rw [e, Int.tmod_eq_emod_of_nonneg (by clear e; omega), if_neg (by clear e; omega), if_pos (by clear e; omega), ci_append]
    rfl
theorem specEnd_run (w : List Nat) (c : Nat) (r : List Nat) (hw : w.length = 8) (hw2 : all32 w) (hr : byteN r) (hc : c ≤ 2147483647) (hl : r.length < 64) :
    Ev (fun k => spec_SumEnd.l0 k [] (ci (r ++ [128])) (ci w) (c : Int) (ci r)) (ci (endN w c r)) := by
  have hz : (119 - r.length) % 64 < 64 := Nat.mod_lt _ (by decide)
  refine specEnd_l0 w c (ci r) _ ((119 - r.length) % 64) (r ++ [128]) hz (by simp only [List.length_append, List.length_cons, List.length_nil]; omega) (by simp only [List.length_append, List.length_cons, List.length_nil]; omega) ?_
  have ht := tailOf_length c r hl
  refine specEnd_l1 _ w c (ci r) hw hc (by simp only [List.length_append, List.length_cons, List.length_nil, List.length_replicate]; omega) _ ?_
  have h := specEnd_l2 (tailOf c r) (tailOf_byte c r hr) (by omega) ((tailOf c r).length / 64) 0 w hw hw2 (by omega)
  rw [List.drop_zero] at h
  exact h
/-! the program -/
theorem implHigh_ev (n : Nat) (r : List Int) (hr : r = ci (hi8 n)) : Ev (fun k => impl_high.f k (n : Int)) r := by
  subst hr
  unfold impl_high.f
  refine ⟨9, fun k hk => ?_⟩
  obtain ⟨m, rfl⟩ : ∃ m, k = m + 9 := ⟨k - 9, by omega⟩
  have w7 : wrap64 6 = 6 := wrap64_id (by decide) (by decide)
  have w6 : wrap64 5 = 5 := wrap64_id (by decide) (by decide)
  have w5 : wrap64 4 = 4 := wrap64_id (by decide) (by decide)
  have w4 : wrap64 3 = 3 := wrap64_id (by decide) (by decide)
  have w3 : wrap64 2 = 2 := wrap64_id (by decide) (by decide)
  have w2 : wrap64 1 = 1 := wrap64_id (by decide) (by decide)
  have w1 : wrap64 0 = 0 := wrap64_id (by decide) (by decide)
  have w0 : wrap64 (-1) = -1 := wrap64_id (by decide) (by decide)
  simp [impl_high.l0, List.replicate, w7, w6, w5, w4, w3, w2, w1, w0, hi8, ci]
theorem implEnd_l2 (x : List Nat) (hx : x.length = 8) : ∀ (d t : Nat), t + d = 8 → Ev (fun k => impl_SumEnd.l2 k (ci (outTo x t)) (ci x) 8 (t : Int)) (ci (outTo x 8))
  | 0, t, ht => by
    obtain rfl : t = 8 := by omega
    refine Ev.step (f := fun _ => some (ci (outTo x 8))) (fun k => ?_) (Ev.now _)
    simp only [impl_SumEnd.l2]
    rw [if_neg (by omega)]
  | d + 1, t, ht => by
    have ih := implEnd_l2 x hx d (t + 1) (by omega)
    have hl := outTo_length x t
    have hl1 := ci_length x
    have hl2 := ci_length (outTo x t)
    have et : wrap64 ((t : Int) + 1) = ((t + 1 : Nat) : Int) := wrap64_succ (by omega)
    rw [outTo, ci_append] at ih
    refine Ev.step (fun k => ?_) ih
    simp only [impl_SumEnd.l2]
    rw [if_pos (by clear et; omega), if_pos (by clear et; omega), if_pos (by clear et; omega), Option.bind_some, if_pos (by clear et; simp; omega), ci_rd, et]
    simp [ci, outB]
theorem implEnd_l1 : ∀ (n : Nat) (x t : List Nat), x.length = 8 → all32 x → byteN t → t.length = 64 * n → n ≤ 1000 →
    Ev (fun k => impl_SumEnd.l1 k (ci t) (ci x)) (ci (outTo (chain n x t) 8))
  | 0, x, t, hx, hx2, ht, hn, _ => by
    have h := implEnd_l2 x hx 8 0 rfl
    have hl := ci_length t
    have hl2 : ((ci x).length : Int) = 8 := by rw [ci_length, hx]; rfl
    refine Ev.step (fun k => ?_) h
    simp only [impl_SumEnd.l1]
    rw [if_neg (by omega), hl2]
    rfl
  | n + 1, x, t, hx, hx2, ht, hn, h1 => by
    have hl := ci_length t
    have hc : (t.take 64).length = 64 := by rw [List.length_take]; omega
    have hb := implTurned_ev x (t.take 64) hx hx2 hc (byteN_take ht 64)
    have ih := implEnd_l1 n (blockOf x (t.take 64)) (t.drop 64) (blockOf_length _ _) (blockOf_32 _ _) (byteN_drop ht 64) (by rw [List.length_drop]; omega) (by omega)
    rw [chain]
    have hj : Ev (fun k => (impl_turned.f k (ci x) (ci (t.take 64))).bind fun y => impl_SumEnd.l1 k (ci (t.drop 64)) y) (ci (outTo (chain n (blockOf x (t.take 64)) (t.drop 64)) 8)) := Ev.bind hb ih
    refine Ev.step (fun k => ?_) hj
    have e2 : (ci t).drop (64 : Int).toNat = ci (t.drop 64) := by rw [show (64 : Int).toNat = 64 from rfl, ci_drop]
    simp only [impl_SumEnd.l1]
    rw [if_pos (by omega), if_pos (by omega), ci_take, e2]
theorem implEnd_l0 (w : List Nat) (c : Nat) (rr : List Int) (r : List Int) (hw : w.length = 8) (hc : c ≤ 2147483647) : ∀ (z : Nat) (l : List Nat), z < 64 → (l.length + z) % 64 = 56 → l.length + z ≤ 500 →
    Ev (fun k => impl_SumEnd.l1 k (ci (l ++ List.replicate z 0 ++ hi8 (8 * c))) (ci w)) r → Ev (fun k => impl_SumEnd.l0 k (ci l) (ci w) (c : Int) rr) r
  | 0, l, hz, h56, h5, h => by
    have hl := ci_length l
    have hlw := ci_length w
    rw [List.replicate_zero, List.append_nil] at h
    have e8 : wrap64 (8 * (c : Int)) = ((8 * c : Nat) : Int) := by rw [wrap64_id (by omega) (by omega)]; simp
    have hh := implHigh_ev (8 * c) _ rfl
    have h8 : (ci (hi8 (8 * c))).length = 8 := rfl
    have hj : Ev (fun k => (impl_high.f k ((8 * c : Nat) : Int)).bind fun t335 => (if (ci l).length + t335.length < 140737488355328 then ((slices_Clone_int_int.f (ci w)).bind fun t341 => (impl_SumEnd.l1 k ((ci l) ++ t335) t341)) else (none))) r := by
      refine Ev.bind hh (Ev.ifT (by clear e8; omega) (Ev.bindc (cloneInt_tell (ci w) (by clear e8; omega)) ?_))
      rw [← ci_append]
      exact h
    refine Ev.step (fun k => ?_) hj
    simp only [impl_SumEnd.l0]
    rw [if_pos (by clear e8; omega), e8]
  | z + 1, l, hz, h56, h5, h => by
    have hl := ci_length l
    have h1 := implEnd_l0 w c rr r hw hc z (l ++ [0]) (by omega) (by simp only [List.length_append, List.length_cons, List.length_nil]; omega) (by simp only [List.length_append, List.length_cons, List.length_nil]; omega) (by
      rw [show l ++ [0] ++ List.replicate z 0 = l ++ List.replicate (z + 1) 0 by rw [List.append_assoc]; rfl]; exact h)
    refine Ev.step (fun k => ?_) h1
    simp only [impl_SumEnd.l0]
    rw [if_neg (by omega), if_pos (by omega), ci_append]
    rfl
theorem implEnd_run (w : List Nat) (c : Nat) (r : List Nat) (hw : w.length = 8) (hw2 : all32 w) (hr : byteN r) (hc : c ≤ 2147483647) (hl : r.length < 64) :
    Ev (fun k => impl_SumEnd.l0 k (ci (r ++ [128])) (ci w) (c : Int) (ci r)) (ci (endN w c r)) := by
  have hz : (119 - r.length) % 64 < 64 := Nat.mod_lt _ (by decide)
  refine implEnd_l0 w c (ci r) _ hw hc ((119 - r.length) % 64) (r ++ [128]) hz (by simp only [List.length_append, List.length_cons, List.length_nil]; omega) (by simp only [List.length_append, List.length_cons, List.length_nil]; omega) ?_
  have ht := tailOf_length c r hl
  exact implEnd_l1 ((tailOf c r).length / 64) w (tailOf c r) hw hw2 (tailOf_byte c r hr) (by omega) (by omega)
/-! both -/
def endOf (w : List Int) (c : Int) (r : List Int) : List Int := if sumOkP w c r then ci (endN (w.map Int.toNat) c.toNat (r.map Int.toNat)) else []
theorem endOf_length (w : List Int) (c : Int) (r : List Int) : (endOf w c r).length ≤ 32 := by
  unfold endOf
  split
  · rw [ci_length, endN_length]; decide
  · simp
theorem specEnd_ev (w : List Int) (c : Int) (r : List Int) (h8 : ∀ x ∈ r, 0 ≤ x ∧ x < 256) : Ev (fun k => spec_SumEnd.f k w c r) (endOf w c r) := by
  unfold spec_SumEnd.f endOf
  refine Ev.bindc rfl (Ev.bind (specSumOk_ev w c r) ?_)
  by_cases h : sumOkP w c r
  · rw [if_pos h]
    obtain ⟨q1, q2, q3, q4, q5, q6, q7, q8⟩ := sumOk_nat h h8
    have e := specEnd_run (w.map Int.toNat) c.toNat (r.map Int.toNat) q4 q5 q6 q7 q8
    rw [ci_append, q1, q2, q3] at e
    have hl : r.length < 64 := by rw [List.length_map] at q8; exact q8
    refine Ev.ifT (decide_eq_true h) (Ev.bindc rfl (Ev.ifT (by simp; omega) (Ev.bindc rfl (Ev.ifT (by simp; omega) ?_))))
    exact e
  · rw [if_neg h]
    exact Ev.ifF (by rw [decide_eq_true_eq]; exact h) (Ev.now _)
theorem implEnd_ev (w : List Int) (c : Int) (r : List Int) (h8 : ∀ x ∈ r, 0 ≤ x ∧ x < 256) : Ev (fun k => impl_SumEnd.f k w c r) (endOf w c r) := by
  unfold impl_SumEnd.f endOf
  refine Ev.bind (implSumOk_ev w c r) ?_
  by_cases h : sumOkP w c r
  · rw [if_pos h]
    obtain ⟨q1, q2, q3, q4, q5, q6, q7, q8⟩ := sumOk_nat h h8
    have e := implEnd_run (w.map Int.toNat) c.toNat (r.map Int.toNat) q4 q5 q6 q7 q8
    rw [ci_append, q1, q2, q3] at e
    have hl : r.length < 64 := by rw [List.length_map] at q8; exact q8
    refine Ev.ifT (decide_eq_true h) (Ev.bindc (cloneByte_tell r (by omega)) (Ev.ifT (by omega) ?_))
    exact e
  · rw [if_neg h]
    exact Ev.ifF (by rw [decide_eq_true_eq]; exact h) (Ev.now _)

/-! A sum and more bytes -/
def addOk (w : List Int) (c : Int) (r b : List Int) : Prop := sumOkP w c r ∧ (b.length : Int) ≤ 2147483647 - c
instance (w : List Int) (c : Int) (r b : List Int) : Decidable (addOk w c r b) := by unfold addOk; infer_instance
def addN (w t : List Nat) : List Nat := chain (t.length / 64) w t
def addOf (w : List Int) (c : Int) (r b : List Int) : List Int × Int × List Int :=
  if addOk w c r b then (ci (addN (w.map Int.toNat) ((r ++ b).map Int.toNat)), c + b.length, (r ++ b).drop (64 * ((r ++ b).length / 64))) else (w, c, r)
theorem addN_length (w t : List Nat) (h : w.length = 8) : (addN w t).length = 8 := chain_length _ _ _ h
theorem copySum_tell (w : List Int) (c : Int) (r : List Int) (hw : w.length < 10000000) (hr : r.length < 10000000) : spec_l7Copy.f w c r = some (w, c, r) := by
  unfold spec_l7Copy.f
  rw [Option.bind_some, if_pos (by simp; omega), Option.bind_some, if_pos (by simp; omega)]
  rfl
theorem specAdd_l0 (b : List Int) (w0 r0 r1 : List Int) (c c1 : Int) (t : List Nat) (ht : byteN t) (ht2 : t.length ≤ 10000000) (hc : 0 ≤ c) (hc2 : c + b.length ≤ 2147483647) : ∀ (n i : Nat) (x : List Nat), x.length = 8 → all32 x → i + 64 * n + t.length % 64 = t.length →
    Ev (fun k => spec_SumAdd.l0 k b (ci t) (i : Int) w0 c r0 (ci x) c1 r1) (ci (chain n x (t.drop i)), c + b.length, (ci t).drop (i + 64 * n))
  | 0, i, x, hx, hx2, hi => by
    have hl := ci_length t
    have ed : (ci t).drop (i : Int).toNat = (ci t).drop i := by rw [Int.toNat_natCast]
    have hdl : ((ci t).drop i).length ≤ (ci t).length := by rw [List.length_drop]; omega
    have ec : wrap64 (c + (b.length : Int)) = c + b.length := wrap64_id (by omega) (by omega)
    have ei : wrap64 (((ci t).length : Int) - (i : Int)) = ((ci t).length : Int) - (i : Int) := wrap64_id (by clear ec; omega) (by clear ec; omega)
    have g1 : ¬ (((ci t).length : Int) - (i : Int)) ≥ 64 := by clear ec ei; omega
    have g2 : (0 : Int) ≤ (i : Int) := by clear ec ei; omega
    have g3 : (i : Int) ≤ ((ci t).length : Int) := by clear ec ei; omega
    have g4 : ([] : List Int).length + ((ci t).drop i).length < 140737488355328 := by clear ec ei; simp only [List.length_nil]; omega
    refine Ev.step (f := fun _ => some (ci (chain 0 x (t.drop i)), c + b.length, (ci t).drop (i + 64 * 0))) (fun k => ?_) (Ev.now _)
    simp only [spec_SumAdd.l0]
    rw [ei, if_neg g1, Option.bind_some, if_pos g2, if_pos g3, Option.bind_some, ed, if_pos g4, ec]
    rfl
  | n + 1, i, x, hx, hx2, hi => by
    have hl := ci_length t
    have ew : wrap64 ((i : Int) + 64) = ((i + 64 : Nat) : Int) := by rw [wrap64_id (by omega) (by omega)]; simp
    have hc64 : ((t.drop i).take 64).length = 64 := by rw [List.length_take, List.length_drop]; clear ew; omega
    have hb := specBlock_ev x ((t.drop i).take 64) hx hx2 hc64 (byteN_take (byteN_drop ht i) 64)
    have ih := specAdd_l0 b w0 r0 r1 c c1 t ht ht2 hc hc2 n (i + 64) (blockOf x ((t.drop i).take 64)) (blockOf_length _ _) (blockOf_32 _ _) (by clear ew; omega)
    rw [chain, List.drop_drop]
    rw [show i + 64 + 64 * n = i + 64 * (n + 1) by omega] at ih
    have hj : Ev (fun k => (spec_l7Block.f k (ci x) (ci ((t.drop i).take 64))).bind fun y => spec_SumAdd.l0 k b (ci t) ((i + 64 : Nat) : Int) w0 c r0 y c1 r1) (ci (chain n (blockOf x ((t.drop i).take 64)) (t.drop (i + 64))), c + b.length, (ci t).drop (i + 64 * (n + 1))) := Ev.bind hb ih
    refine Ev.step (fun k => ?_) hj
    have e1 : ((ci t).take ((i + 64 : Nat) : Int).toNat).drop (i : Int).toNat = ci ((t.drop i).take 64) := by
      rw [Int.toNat_natCast, Int.toNat_natCast, ci_take, ci_drop, List.drop_take, Nat.add_sub_cancel_left]
    have ei : wrap64 (((ci t).length : Int) - (i : Int)) = ((ci t).length : Int) - (i : Int) := wrap64_id (by clear ew e1; omega) (by clear ew e1; omega)
    simp only [spec_SumAdd.l0]
    rw [ei, if_pos (by clear ew e1 ei; omega), if_pos (by clear ew e1 ei; omega), ew, if_pos (by clear ew e1 ei; omega), if_pos (by clear ew e1 ei; omega), e1]
theorem implAdd_l0 (c : Int) : ∀ (n : Nat) (x t : List Nat), x.length = 8 → all32 x → byteN t → 64 * n + t.length % 64 = t.length → t.length ≤ 10000000 →
    Ev (fun k => impl_SumAdd.l0 k (ci t) (ci x) c) (ci (chain n x t), c, (ci t).drop (64 * n))
  | 0, x, t, hx, hx2, ht, hn, _ => by
    have hl := ci_length t
    have e := cloneByte_tell (ci t) (by omega)
    refine Ev.step (f := fun _ => some (ci (chain 0 x t), c, (ci t).drop (64 * 0))) (fun k => ?_) (Ev.now _)
    simp only [impl_SumAdd.l0]
    rw [if_neg (by omega), e, Option.bind_some]
    rfl
  | n + 1, x, t, hx, hx2, ht, hn, h1 => by
    have hl := ci_length t
    have hc : (t.take 64).length = 64 := by rw [List.length_take]; omega
    have hb := implTurned_ev x (t.take 64) hx hx2 hc (byteN_take ht 64)
    have ih := implAdd_l0 c n (blockOf x (t.take 64)) (t.drop 64) (blockOf_length _ _) (blockOf_32 _ _) (byteN_drop ht 64) (by rw [List.length_drop]; omega) (by rw [List.length_drop]; omega)
    rw [chain]
    have e2 : (ci t).drop (64 : Int).toNat = ci (t.drop 64) := by rw [show (64 : Int).toNat = 64 from rfl, ci_drop]
    have e3 : (ci (t.drop 64)).drop (64 * n) = (ci t).drop (64 * (n + 1)) := by rw [← ci_drop, List.drop_drop, show 64 + 64 * n = 64 * (n + 1) by omega]
    rw [e3] at ih
    have ih2 : Ev (fun k => impl_SumAdd.j2 k (ci t) (ci (blockOf x (t.take 64))) c) (ci (chain n (blockOf x (t.take 64)) (t.drop 64)), c, (ci t).drop (64 * (n + 1))) := by
      refine Ev.step (fun k => ?_) ih
      simp only [impl_SumAdd.j2]
      rw [if_pos (by omega), e2]
    have hj : Ev (fun k => (impl_turned.f k (ci x) (ci (t.take 64))).bind fun y => impl_SumAdd.j2 k (ci t) y c) (ci (chain n (blockOf x (t.take 64)) (t.drop 64)), c, (ci t).drop (64 * (n + 1))) := Ev.bind hb ih2
    refine Ev.step (fun k => ?_) hj
    simp only [impl_SumAdd.l0]
    rw [if_pos (by omega), if_pos (by omega), ci_take]
theorem addBytes {r b : List Int} (h8 : ∀ x ∈ r, 0 ≤ x ∧ x < 256) (hb : ∀ x ∈ b, 0 ≤ x ∧ x < 256) : byteN ((r ++ b).map Int.toNat) ∧ ci ((r ++ b).map Int.toNat) = r ++ b := by
  have h : ∀ x ∈ r ++ b, 0 ≤ x ∧ x < 256 := fun x hx => (List.mem_append.1 hx).elim (h8 x) (hb x)
  refine ⟨?_, ci_toNat _ (fun x hx => (h x hx).1)⟩
  intro y hy
  obtain ⟨x, hx, rfl⟩ := List.mem_map.1 hy
  have := h x hx
  omega
theorem specAdd_ev (w : List Int) (c : Int) (r b : List Int) (hw : w.length ≤ 1048576) (hr : r.length ≤ 1048576) (hbl : b.length ≤ 2000000) (h8 : ∀ x ∈ r, 0 ≤ x ∧ x < 256) (hb : ∀ x ∈ b, 0 ≤ x ∧ x < 256) : Ev (fun k => spec_SumAdd.f k w c r b) (addOf w c r b) := by
  unfold spec_SumAdd.f addOf
  refine Ev.bindc (copySum_tell w c r (by omega) (by omega)) (Ev.bind (specSumOk_ev w c r) ?_)
  by_cases h : sumOkP w c r
  · refine Ev.ifT (decide_eq_true h) ?_
    have hc := h.2.2
    have e1 : wrap64 (2147483647 - c) = 2147483647 - c := wrap64_id (by omega) (by omega)
    rw [e1]
    by_cases h2 : (b.length : Int) ≤ 2147483647 - c
    · rw [if_pos ⟨h, h2⟩]
      obtain ⟨q1, q2, q3, q4, q5, q6, q7, q8⟩ := sumOk_nat h h8
      obtain ⟨q9, q10⟩ := addBytes h8 hb
      have hl : r.length < 64 := by rw [List.length_map] at q8; exact q8
      have hm : ((r ++ b).map Int.toNat).length = r.length + b.length := by simp
      have e := specAdd_l0 b w r r c c ((r ++ b).map Int.toNat) q9 (by clear e1; omega) hc.1 (by clear e1; omega) (((r ++ b).map Int.toNat).length / 64) 0 (w.map Int.toNat) q4 q5 (by clear e1; omega)
      rw [List.drop_zero, Nat.zero_add, q10, q1, List.length_map] at e
      have e' : Ev (fun k => spec_SumAdd.l0 k b ([] ++ r ++ b) 0 w c r w c r) (ci (addN (w.map Int.toNat) ((r ++ b).map Int.toNat)), c + b.length, (r ++ b).drop (64 * ((r ++ b).length / 64))) := by
        unfold addN; rw [List.length_map]; exact e
      have g0 : ([] : List Int).length + r.length < 140737488355328 := by clear e1; simp only [List.length_nil]; omega
      have g1 : ([] ++ r : List Int).length + b.length < 140737488355328 := by clear e1; simp only [List.nil_append]; omega
      refine Ev.step (fun k => ?_) e'
      simp only [spec_SumAdd.j0]
      rw [decide_eq_false (by clear e1; omega), if_neg Bool.false_ne_true, Option.bind_some, if_pos g0, Option.bind_some, if_pos g1]
    · rw [if_neg (fun q => h2 q.2)]
      refine Ev.step (f := fun _ => some (w, c, r)) (fun k => ?_) (Ev.now _)
      simp only [spec_SumAdd.j0]
      rw [decide_eq_true (by clear e1; omega), if_pos rfl]
  · rw [if_neg (fun q => h q.1)]
    refine Ev.ifF (by rw [decide_eq_true_eq]; exact h) ?_
    refine Ev.step (f := fun _ => some (w, c, r)) (fun k => ?_) (Ev.now _)
    simp only [spec_SumAdd.j0]
    rw [if_pos trivial]
theorem implAdd_ev (w : List Int) (c : Int) (r b : List Int) (hw : w.length ≤ 1048576) (hr : r.length ≤ 1048576) (hbl : b.length ≤ 2000000) (h8 : ∀ x ∈ r, 0 ≤ x ∧ x < 256) (hb : ∀ x ∈ b, 0 ≤ x ∧ x < 256) : Ev (fun k => impl_SumAdd.f k w c r b) (addOf w c r b) := by
  unfold impl_SumAdd.f addOf
  refine Ev.bindc (cloneInt_tell w (by omega)) (Ev.bindc (cloneByte_tell r (by omega)) (Ev.bind (implSumOk_ev w c r) ?_))
  by_cases h : sumOkP w c r
  · refine Ev.ifT (decide_eq_true h) ?_
    have hc := h.2.2
    have e1 : wrap64 (2147483647 - c) = 2147483647 - c := wrap64_id (by omega) (by omega)
    rw [e1]
    by_cases h2 : (b.length : Int) ≤ 2147483647 - c
    · rw [if_pos ⟨h, h2⟩]
      obtain ⟨q1, q2, q3, q4, q5, q6, q7, q8⟩ := sumOk_nat h h8
      obtain ⟨q9, q10⟩ := addBytes h8 hb
      have hl : r.length < 64 := by rw [List.length_map] at q8; exact q8
      have hm : ((r ++ b).map Int.toNat).length = r.length + b.length := by simp
      have e2 : wrap64 (c + (b.length : Int)) = c + b.length := wrap64_id (by clear e1; omega) (by clear e1; omega)
      have e := implAdd_l0 (c + b.length) (((r ++ b).map Int.toNat).length / 64) (w.map Int.toNat) ((r ++ b).map Int.toNat) q4 q5 q9 (by clear e1 e2; omega) (by clear e1 e2; omega)
      rw [q10, q1, List.length_map] at e
      have e' : Ev (fun k => impl_SumAdd.l0 k (r ++ b) w (c + b.length)) (ci (addN (w.map Int.toNat) ((r ++ b).map Int.toNat)), c + b.length, (r ++ b).drop (64 * ((r ++ b).length / 64))) := by
        unfold addN; rw [List.length_map]; exact e
      refine Ev.step (fun k => ?_) e'
      simp only [impl_SumAdd.j0]
      rw [decide_eq_false (by clear e1 e2; omega), if_neg Bool.false_ne_true, if_pos (by clear e1 e2; omega), e2]
    · rw [if_neg (fun q => h2 q.2)]
      refine Ev.step (f := fun _ => some (w, c, r)) (fun k => ?_) (Ev.now _)
      simp only [impl_SumAdd.j0]
      rw [decide_eq_true (by clear e1; omega), if_pos rfl]
  · rw [if_neg (fun q => h q.1)]
    refine Ev.ifF (by rw [decide_eq_true_eq]; exact h) ?_
    refine Ev.step (f := fun _ => some (w, c, r)) (fun k => ?_) (Ev.now _)
    simp only [impl_SumAdd.j0]
    rw [if_pos trivial]
theorem addOf_length (w : List Int) (c : Int) (r b : List Int) (hw : w.length ≤ 1048576) (hr : r.length ≤ 1048576) : (addOf w c r b).1.length ≤ 1048576 ∧ (addOf w c r b).2.2.length ≤ 1048576 := by
  unfold addOf
  split
  · rename_i h
    refine ⟨?_, ?_⟩
    · simp only []
      rw [ci_length, addN_length _ _ (by rw [List.length_map]; exact h.1.1)]
      decide
    · simp only []
      rw [List.length_drop]; omega
  · exact ⟨hw, hr⟩

/-! The whole sum of bytes -/
def firstW : List Int := [1779033703, 3144134277, 1013904242, 2773480762, 1359893119, 2600822924, 528734635, 1541459225]
def digestOf (b : List Int) : List Int := endOf (addOf firstW 0 [] b).1 (addOf firstW 0 [] b).2.1 (addOf firstW 0 [] b).2.2
theorem digestOf_length (b : List Int) : (digestOf b).length ≤ 32 := endOf_length _ _ _
theorem addOf_bytes (w : List Int) (c : Int) (r b : List Int) (h8 : ∀ x ∈ r, 0 ≤ x ∧ x < 256) (hb : ∀ x ∈ b, 0 ≤ x ∧ x < 256) : ∀ x ∈ (addOf w c r b).2.2, 0 ≤ x ∧ x < 256 := by
  unfold addOf
  split
  · intro x hx
    exact (List.mem_append.1 (List.mem_of_mem_drop hx)).elim (h8 x) (hb x)
  · exact h8
theorem specDigest_ev (b : List Int) (hbl : b.length ≤ 2000000) (hb : ∀ x ∈ b, 0 ≤ x ∧ x < 256) : Ev (fun k => spec_Digest.f k b) (digestOf b) := by
  unfold spec_Digest.f
  have s := specAdd_ev firstW 0 [] b (by decide) (by decide) hbl (by simp) hb
  have e := specEnd_ev (addOf firstW 0 [] b).1 (addOf firstW 0 [] b).2.1 (addOf firstW 0 [] b).2.2 (addOf_bytes firstW 0 [] b (by simp) hb)
  exact Ev.bindc (show spec_SumNew.f = some (firstW, 0, []) from rfl) (Ev.bind s (Ev.bind e (Ev.now _)))
theorem implDigest_ev (b : List Int) (hbl : b.length ≤ 2000000) (hb : ∀ x ∈ b, 0 ≤ x ∧ x < 256) : Ev (fun k => impl_Digest.f k b) (digestOf b) := by
  unfold impl_Digest.f
  have s := implAdd_ev firstW 0 [] b (by decide) (by decide) hbl (by simp) hb
  have e := implEnd_ev (addOf firstW 0 [] b).1 (addOf firstW 0 [] b).2.1 (addOf firstW 0 [] b).2.2 (addOf_bytes firstW 0 [] b (by simp) hb)
  exact Ev.bindc (show impl_SumNew.f = some (firstW, 0, []) from rfl) (Ev.bind s (Ev.bind e (Ev.now _)))

/-! The keyed sum -/
theorem outTo_byte (x : List Nat) : ∀ t, byteN (outTo x t)
  | 0 => fun y hy => absurd hy (by simp [outTo])
  | t + 1 => byteN_append (outTo_byte x t) (fun y hy => by
      simp only [outB, List.mem_cons, List.not_mem_nil, or_false] at hy
      rcases hy with rfl | rfl | rfl | rfl <;> exact Nat.mod_lt _ (by decide))
theorem ci_bytes {l : List Nat} (h : byteN l) : ∀ x ∈ ci l, 0 ≤ x ∧ x < 256 := by
  intro x hx
  obtain ⟨y, hy, rfl⟩ := List.mem_map.1 hx
  have := h y hy
  omega
theorem digestOf_bytes (b : List Int) : ∀ x ∈ digestOf b, 0 ≤ x ∧ x < 256 := by
  unfold digestOf endOf
  split
  · exact ci_bytes (outTo_byte _ 8)
  · simp
def xb (v x : Int) : Int := Go.bits .xor .u8 x v
theorem xb_byte (v x : Int) : 0 ≤ xb v x ∧ xb v x < 256 := by
  unfold xb Go.bits
  generalize (_ : Int) = z
  simp only [IntKind.wrap, IntKind.bits, IntKind.signed]
  simp
  omega
def keyOf (key : List Int) : List Int := if (key.length : Int) > 64 then digestOf key else key
theorem keyOf_length (key : List Int) : (keyOf key).length ≤ 64 := by
  unfold keyOf
  split
  · have := digestOf_length key; omega
  · omega
def padX (v : Int) (key : List Int) : List Int := (key ++ List.replicate (64 - key.length) 0).map (xb v)
theorem padX_length (v : Int) (key : List Int) (h : key.length ≤ 64) : (padX v key).length = 64 := by
  simp [padX]; omega
theorem padX_bytes (v : Int) (key : List Int) : ∀ x ∈ padX v key, 0 ≤ x ∧ x < 256 := by
  intro x hx
  obtain ⟨y, _, rfl⟩ := List.mem_map.1 hx
  exact xb_byte v y
theorem padX_take (v : Int) (key : List Int) (i : Nat) (h : i < 64) (hk : key.length ≤ 64) : (padX v key).take (i + 1) = (padX v key).take i ++ [xb v (if i < key.length then rd key i else 0)] := by
  have hl := padX_length v key hk
  rw [List.take_add_one, List.getElem?_eq_getElem (by omega)]
  congr 1
  simp only [padX, List.getElem_map, Option.toList_some]
  congr 2
  split
  · rename_i q
    rw [List.getElem_append_left q, rd_get key i q]
  · rename_i q
    rw [List.getElem_append_right (by omega), List.getElem_replicate]
def macOf (key b : List Int) : List Int := digestOf (padX 92 (keyOf key) ++ digestOf (padX 54 (keyOf key) ++ b))
theorem macOf_length (key b : List Int) : (macOf key b).length ≤ 32 := digestOf_length _
theorem append_bytes {a b : List Int} (ha : ∀ x ∈ a, 0 ≤ x ∧ x < 256) (hb : ∀ x ∈ b, 0 ≤ x ∧ x < 256) : ∀ x ∈ a ++ b, 0 ≤ x ∧ x < 256 := fun x hx => (List.mem_append.1 hx).elim (ha x) (hb x)
theorem specMac_l0 (b K : List Int) (hK : K.length ≤ 64) (hbl : b.length ≤ 1048576) (hb : ∀ x ∈ b, 0 ≤ x ∧ x < 256) : ∀ (d i : Nat), i + d = 64 →
    Ev (fun k => spec_Mac.l0 k b K ((padX 54 K).take i) ((padX 92 K).take i) (i : Int)) (digestOf (padX 92 K ++ digestOf (padX 54 K ++ b)))
  | 0, i, hi => by
    obtain rfl : i = 64 := by omega
    have l1 := padX_length 54 K hK
    have l2 := padX_length 92 K hK
    rw [List.take_of_length_le (by omega), List.take_of_length_le (by omega)]
    have e1 := specDigest_ev (padX 54 K ++ b) (by rw [List.length_append]; omega) (append_bytes (padX_bytes 54 K) hb)
    have hd := digestOf_length (padX 54 K ++ b)
    have e2 := specDigest_ev (padX 92 K ++ digestOf (padX 54 K ++ b)) (by rw [List.length_append]; omega) (append_bytes (padX_bytes 92 K) (digestOf_bytes _))
    have hj : Ev (fun k => if (padX 54 K).length + b.length < 140737488355328 then ((spec_Digest.f k (padX 54 K ++ b)).bind fun t309 => (if (padX 92 K).length + t309.length < 140737488355328 then ((spec_Digest.f k (padX 92 K ++ t309)).bind fun t315 => (some t315)) else (none))) else (none)) (digestOf (padX 92 K ++ digestOf (padX 54 K ++ b))) :=
      Ev.ifT (by omega) (Ev.bind e1 (Ev.ifT (by omega) (Ev.bind e2 (Ev.now _))))
    refine Ev.step (fun k => ?_) hj
    simp only [spec_Mac.l0]
    rw [if_neg (by omega)]
  | d + 1, i, hi => by
    have ih := specMac_l0 b K hK hbl hb d (i + 1) (by omega)
    have l1 := padX_length 54 K hK
    have l2 := padX_length 92 K hK
    have t1 : ((padX 54 K).take i).length = i := by rw [List.length_take]; omega
    have t2 : ((padX 92 K).take i).length = i := by rw [List.length_take]; omega
    rw [padX_take 54 K i (by omega) hK, padX_take 92 K i (by omega) hK] at ih
    have et : wrap64 ((i : Int) + 1) = ((i + 1 : Nat) : Int) := wrap64_succ (by omega)
    refine Ev.step (fun k => ?_) ih
    simp only [spec_Mac.l0]
    by_cases q : i < K.length
    · rw [if_pos (by clear et; omega), if_pos (by clear et; omega), if_pos (by clear et; omega), if_pos (by clear et; omega), if_pos (by clear et; omega), et, if_pos q]
      rfl
    · rw [if_pos (by clear et; omega), if_neg (by clear et; omega), if_pos (by clear et; omega), if_pos (by clear et; omega), et, if_neg q]
      rfl
theorem specMac_ev (key b : List Int) (hkl : key.length ≤ 1048576) (hbl : b.length ≤ 1048576) (hk : ∀ x ∈ key, 0 ≤ x ∧ x < 256) (hb : ∀ x ∈ b, 0 ≤ x ∧ x < 256) : Ev (fun k => spec_Mac.f k key b) (macOf key b) := by
  unfold spec_Mac.f macOf
  have h := specMac_l0 b (keyOf key) (keyOf_length key) hbl hb 64 0 rfl
  have hj : Ev (fun k => spec_Mac.j0 k b (keyOf key)) (digestOf (padX 92 (keyOf key) ++ digestOf (padX 54 (keyOf key) ++ b))) := by
    refine Ev.step (fun k => ?_) h
    simp only [spec_Mac.j0]
    rfl
  refine Ev.bindc rfl (Ev.ifT (by simp; omega) (Ev.bindc rfl ?_))
  simp only [List.nil_append]
  unfold keyOf at hj ⊢
  by_cases q : (key.length : Int) > 64
  · rw [if_pos q] at hj ⊢
    exact Ev.ifT q (Ev.bind (specDigest_ev key (by omega) hk) hj)
  · rw [if_neg q] at hj ⊢
    exact Ev.ifF q hj
theorem implXored_ev (v : Int) (l : List Int) (hl : l.length ≤ 1000) : Ev (fun k => impl_xored.f k l v) (l.map (xb v)) := by
  unfold impl_xored.f
  have go : ∀ (d i : Nat), i + d = l.length → Ev (fun k => impl_xored.l0 k v ((l.map (xb v)).take i) l (l.length : Int) (i : Int)) (l.map (xb v)) := by
    intro d
    induction d with
    | zero =>
      intro i hi
      refine Ev.step (f := fun _ => some (l.map (xb v))) (fun k => ?_) (Ev.now _)
      simp only [impl_xored.l0]
      rw [if_neg (by omega), List.take_of_length_le (by rw [List.length_map]; omega)]
    | succ d ih =>
      intro i hi
      have h := ih (i + 1) (by omega)
      have t1 : ((l.map (xb v)).take i).length = i := by rw [List.length_take, List.length_map]; omega
      have e : (l.map (xb v)).take (i + 1) = (l.map (xb v)).take i ++ [xb v (rd l i)] := by
        rw [List.take_add_one, List.getElem?_eq_getElem (by rw [List.length_map]; omega), List.getElem_map, rd_get l i (by omega)]; rfl
      rw [e] at h
      have et : wrap64 ((i : Int) + 1) = ((i + 1 : Nat) : Int) := wrap64_succ (by omega)
      refine Ev.step (fun k => ?_) h
      simp only [impl_xored.l0]
      rw [if_pos (by clear et; omega), if_pos (by clear et; omega), if_pos (by clear et; omega), if_pos (by clear et; omega), et]
      rfl
  exact go l.length 0 (by omega)
theorem implMac_tail (K b : List Int) (hK : K.length ≤ 64) (hbl : b.length ≤ 1048576) (hb : ∀ x ∈ b, 0 ≤ x ∧ x < 256) :
    Ev (fun k => (slices_Clone_byte_byte.f K).bind fun t543 => (if 0 ≤ (wrap64 (64 - (K.length : Int))) then (if t543.length + (wrap64 (64 - (K.length : Int)) : Int).toNat < 140737488355328 then ((some (t543 ++ List.replicate (wrap64 (64 - (K.length : Int)) : Int).toNat 0 : List Int)).bind fun y546 => ((impl_xored.f k y546 54).bind fun t549 => (if t549.length + b.length < 140737488355328 then ((impl_Digest.f k (t549 ++ b)).bind fun t555 => ((impl_xored.f k y546 92).bind fun t558 => (if t558.length + t555.length < 140737488355328 then ((impl_Digest.f k (t558 ++ t555)).bind fun t564 => (some t564)) else (none)))) else (none)))) else (none)) else (none)))
      (digestOf (padX 92 K ++ digestOf (padX 54 K ++ b))) := by
  have ew : wrap64 (64 - (K.length : Int)) = ((64 - K.length : Nat) : Int) := by rw [wrap64_id (by omega) (by omega)]; omega
  rw [ew]
  have l1 := padX_length 54 K hK
  have l2 := padX_length 92 K hK
  have e1 := implDigest_ev (padX 54 K ++ b) (by rw [List.length_append]; clear ew; omega) (append_bytes (padX_bytes 54 K) hb)
  have hd := digestOf_length (padX 54 K ++ b)
  have e2 := implDigest_ev (padX 92 K ++ digestOf (padX 54 K ++ b)) (by rw [List.length_append]; clear ew; omega) (append_bytes (padX_bytes 92 K) (digestOf_bytes _))
  have hw : (K ++ List.replicate (64 - K.length) (0 : Int)).length ≤ 1000 := by simp; clear ew; omega
  have x1 := implXored_ev 54 (K ++ List.replicate (64 - K.length) 0) hw
  have x2 := implXored_ev 92 (K ++ List.replicate (64 - K.length) 0) hw
  refine Ev.bindc (cloneByte_tell K (by clear ew; omega)) (Ev.ifT (Int.natCast_nonneg _) ?_)
  rw [Int.toNat_natCast]
  clear ew
  exact Ev.ifT (by omega) (Ev.bindc rfl (Ev.bind x1 (Ev.ifT (show (padX 54 K).length + b.length < 140737488355328 by omega) (Ev.bind e1 (Ev.bind x2 (Ev.ifT (show (padX 92 K).length + (digestOf (padX 54 K ++ b)).length < 140737488355328 by omega) (Ev.bind e2 (Ev.now _))))))))
theorem implMac_ev (key b : List Int) (hkl : key.length ≤ 1048576) (hbl : b.length ≤ 1048576) (hk : ∀ x ∈ key, 0 ≤ x ∧ x < 256) (hb : ∀ x ∈ b, 0 ≤ x ∧ x < 256) : Ev (fun k => impl_Mac.f k key b) (macOf key b) := by
  unfold impl_Mac.f macOf
  have h := implMac_tail (keyOf key) b (keyOf_length key) hbl hb
  unfold keyOf at h ⊢
  by_cases q : (key.length : Int) > 64
  · rw [if_pos q] at h ⊢
    exact Ev.ifT q (Ev.bind (implDigest_ev key (by omega) hk) h)
  · rw [if_neg q] at h ⊢
    exact Ev.ifF q h

theorem FnExactMac : laws_FnExactMac.Pure := by
  intro l b _ _ hwf _ _ hwb
  have h8 : ∀ x ∈ l, 0 ≤ x ∧ x < 256 := fun x hx => wf_u8 (hwf x hx)
  have hb : ∀ x ∈ b, 0 ≤ x ∧ x < 256 := fun x hx => wf_u8 (hwb x hx)
  refine Ev.rounds ?_
  unfold laws_FnExactMac.f
  by_cases h1 : (l.length : Int) > 1048576
  · exact Ev.ifT h1 (Ev.now _)
  by_cases h2 : (b.length : Int) > 1048576
  · exact Ev.ifF h1 (Ev.ifT h2 (Ev.now _))
  have t := toByteS_ev l (by omega)
  have tb := toByteS_ev b (by omega)
  have e := eqByteS_ev l (by omega)
  have eb := eqByteS_ev b (by omega)
  have m := markByteS_ev l 1 (by omega) (by omega) (by omega)
  have mb := markByteS_ev b (1 + l.length) (by omega) (by omega) (by omega)
  have s := specMac_ev l b (by omega) (by omega) h8 hb
  have i := implMac_ev l b (by omega) (by omega) h8 hb
  have hg := macOf_length l b
  generalize macOf l b = g at *
  have eg := eqByteS_ev g (by omega)
  have mg := markByteS_ev g 1 (by omega) (by omega) (by omega)
  have hd := heldByteS_ev g 1 (by omega) (by omega) (by omega)
  refine Ev.ifF h1 (Ev.ifF h2 (Ev.bind t (Ev.bind tb (Ev.bind s (Ev.bind t (Ev.bind tb (Ev.bind i (Ev.bind eg (Ev.ifT rfl (Ev.bind t (Ev.bind e (Ev.ifT rfl (Ev.bind tb (Ev.bind eb (Ev.ifT rfl (Ev.bind m (Ev.bind mb (Ev.ifF (by simp only []; omega) (Ev.bind eg ?_)))))))))))))))))))
  refine Ev.step (fun k => laws_FnExactMac.j0.eq_2 _ _ _ _ _ _) (Ev.ifF (by simp) (Ev.bind mg (Ev.bind hd (Ev.ifF (by omega) (Ev.ifT rfl (Ev.bind t (Ev.bind tb (Ev.bind i (Ev.bind eg (Ev.ifT rfl (Ev.bind hd (Ev.ifF (by omega) (Ev.ifT rfl (Ev.now _))))))))))))))

end Go.Proofs.Ytpkfmjdmfphbaag.Pure
