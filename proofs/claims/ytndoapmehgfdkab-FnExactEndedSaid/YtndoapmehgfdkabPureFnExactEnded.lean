/- The plain law of FnExactEnded, over numbers and lists alone: what the printed functions answer is true for all arguments. Conditions: those of the arguments' kinds. -/
import Derived.Test.YtndoapmehgfdkabQFnExactEndedx3
import Derived.Test.YtndoapmehgfdkabAid
set_option linter.unusedVariables false
set_option linter.unusedSimpArgs false
namespace Go.Proofs.Ytndoapmehgfdkab.Pure
open Go.RowKit Go.Proofs.Ytndoapmehgfdkab.Aid Go.Proofs.Ytndoapmehgfdkab.QFnExactEnded Go.Proofs.YtndoapmehgfdkabW.PrintWords Go.Proofs.YtndoapmehgfdkabW.PrintLast Go.Proofs.YtndoapmehgfdkabW.PrintMore
theorem in_tell (a b c : Int) : impl_in.f a b c = some (decide (b ≤ a ∧ a ≤ c)) := by
  unfold impl_in.f
  by_cases h : a ≥ b
  · rw [if_pos h]; congr 1; rw [Bool.eq_iff_iff]; simp only [decide_eq_true_eq]; omega
  · rw [if_neg h]; congr 1; symm; rw [decide_eq_false_iff_not]; omega

theorem l1In_tell (a b c : Int) : spec_l1In.f a b c = some (decide (b ≤ a ∧ a ≤ c)) := by
  unfold spec_l1In.f
  by_cases h : a ≥ b
  · rw [if_pos h]; congr 1; rw [Bool.eq_iff_iff]; simp only [decide_eq_true_eq]; omega
  · rw [if_neg h]; congr 1; symm; rw [decide_eq_false_iff_not]; omega

theorem div_zero_iff {h : Int} {p : Int} (hp : 1 ≤ p) (h0 : 0 ≤ h) : h / p = 0 ↔ h < p := by
  constructor
  · intro hz
    have := Int.lt_ediv_add_one_mul_self h (show (0 : Int) < p by omega)
    rw [hz] at this
    omega
  · intro hz
    exact Int.ediv_eq_zero_of_lt h0 hz

theorem toByteS_l0 (l : List Int) (hl : l.length ≤ 140737488351232) : ∀ (d : Nat) (x : List Int) (i : Nat), x.length = l.length → i + d = l.length → x.take i = l.take i → Ev (fun k => laws_toByteS.l0 k l x (i : Int)) l
  | 0, x, i, hx, hi, ht => by
    refine Ev.step (f := fun _ => some l) (fun k => ?_) (Ev.now _)
    simp only [laws_toByteS.l0]
    rw [if_neg (by omega)]
    congr 1
    rw [List.take_of_length_le (by omega), List.take_of_length_le (by omega)] at ht
    exact ht
  | d + 1, x, i, hx, hi, ht => by
    have ih := toByteS_l0 l hl d (x.set i (rd l i)) (i + 1) (by simpa using hx) (by omega) (by
      rw [List.take_succ_eq_append_getElem (by simp; omega), List.take_succ_eq_append_getElem (by omega), List.take_set_of_le (by omega), ht]
      simp [rd, List.getElem?_eq_getElem (show i < l.length by omega)])
    refine Ev.step (fun k => ?_) ih
    simp only [laws_toByteS.l0]
    rw [if_pos (by omega), if_pos (by omega), if_pos (by omega), wrap64_id (by omega) (by omega)]
    simp
theorem toByteS_ev (l : List Int) (hl : l.length ≤ 140737488351232) : Ev (fun k => laws_toByteS.f k l) l := by
  refine Ev.congr (fun k => ?_) (toByteS_l0 l hl l.length (List.replicate l.length 0) 0 (by simp) (by simp) (by simp))
  simp only [laws_toByteS.f]
  rw [if_pos (by omega), if_pos (by omega)]
  simp

theorem eqByteS_l0 (l : List Int) (hl : l.length ≤ 140737488351232) : ∀ (d : Nat) (i : Nat), i + d = l.length → Ev (fun k => laws_eqByteS.l0 k l l (i : Int)) true
  | 0, i, hi => by
    refine Ev.step (f := fun _ => some true) (fun k => ?_) (Ev.now _)
    simp only [laws_eqByteS.l0]
    rw [if_neg (by omega)]
  | d + 1, i, hi => by
    have ih := eqByteS_l0 l hl d (i + 1) (by omega)
    refine Ev.step (fun k => ?_) ih
    simp only [laws_eqByteS.l0]
    rw [if_pos (by omega), if_pos (by omega), if_pos (by omega), wrap64_id (by omega) (by omega)]
    simp
theorem eqByteS_ev (l : List Int) (hl : l.length ≤ 140737488351232) : Ev (fun k => laws_eqByteS.f k l l) true := by
  refine Ev.congr (fun k => ?_) (eqByteS_l0 l hl l.length 0 (by simp))
  simp only [laws_eqByteS.f]
  simp

def marksB : Int → List Int → List Int
  | _, [] => []
  | c, _ :: r => c % 256 :: marksB (c + 1) r
theorem marksB_length : ∀ (c : Int) (l : List Int), (marksB c l).length = l.length
  | _, [] => rfl
  | c, _ :: r => by simp [marksB, marksB_length (c + 1) r]
theorem marksB_again : ∀ (c : Int) (l : List Int), marksB c (marksB c l) = marksB c l
  | _, [] => rfl
  | c, _ :: r => by simp [marksB, marksB_again (c + 1) r]
theorem markByteS_l0 : ∀ (d : Nat) (x : List Int) (c : Int) (i : Nat), x.length ≤ 140737488355328 → i + d = x.length → 0 ≤ c → c + d ≤ 4611686018427387904 →
    Ev (fun k => laws_markByteS.l0 k x c (i : Int)) (c + d, x.take i ++ marksB c (x.drop i))
  | 0, x, c, i, hl, hi, hc, hc1 => by
    refine Ev.step (f := fun _ => some (c, x)) (fun k => ?_) (Ev.const ?_)
    · simp only [laws_markByteS.l0]
      rw [if_neg (by omega)]
    · rw [List.take_of_length_le (by omega), List.drop_of_length_le (by omega)]
      simp [marksB]
  | d + 1, x, c, i, hl, hi, hc, hc1 => by
    have ih := markByteS_l0 d (x.set i (c % 256)) (c + 1) (i + 1) (by simpa using hl) (by simp; omega) (by omega) (by omega)
    have e1 : (x.set i (c % 256)).take (i + 1) = x.take i ++ [c % 256] := by
      rw [List.take_succ_eq_append_getElem (by simp; omega), List.take_set_of_le (by omega)]; simp
    have e2 : (x.set i (c % 256)).drop (i + 1) = x.drop (i + 1) := by rw [List.drop_set]; simp
    have e3 : x.drop i = x[i]'(by omega) :: x.drop (i + 1) := List.drop_eq_getElem_cons (by omega)
    rw [e1, e2] at ih
    have e4 : (c + ((d + 1 : Nat) : Int), x.take i ++ marksB c (x.drop i)) = (c + 1 + (d : Int), x.take i ++ [c % 256] ++ marksB (c + 1) (x.drop (i + 1))) := by
      rw [e3]; simp [marksB]; omega
    rw [e4]
    refine Ev.step (fun k => ?_) ih
    simp only [laws_markByteS.l0]
    rw [if_pos (by omega), if_pos (by omega), wrap64_id (by omega) (by omega), wrap64_id (by omega) (by omega)]
    simp
theorem markByteS_ev (x : List Int) (c : Int) (hl : x.length ≤ 140737488355328) (hc : 0 ≤ c) (hc1 : c + x.length ≤ 4611686018427387904) : Ev (fun k => laws_markByteS.f k x c) (c + x.length, marksB c x) := by
  have := markByteS_l0 x.length x c 0 hl (by omega) hc hc1
  simpa [laws_markByteS.f] using this
theorem heldByteS_l0 : ∀ (d : Nat) (x : List Int) (c : Int) (i : Nat), x.length ≤ 140737488355328 → i + d = x.length → 0 ≤ c → c + d ≤ 4611686018427387904 → x.drop i = marksB c (x.drop i) →
    Ev (fun k => laws_heldByteS.l0 k x c (i : Int)) (c + d)
  | 0, x, c, i, hl, hi, hc, hc1, hm => by
    refine Ev.step (f := fun _ => some c) (fun k => ?_) (Ev.const (by simp))
    simp only [laws_heldByteS.l0]
    rw [if_neg (by omega)]
  | d + 1, x, c, i, hl, hi, hc, hc1, hm => by
    have e3 : x.drop i = x[i]'(by omega) :: x.drop (i + 1) := List.drop_eq_getElem_cons (by omega)
    rw [e3] at hm
    simp only [marksB, List.cons.injEq] at hm
    have ih := heldByteS_l0 d x (c + 1) (i + 1) hl (by omega) (by omega) (by omega) hm.2
    have e4 : c + ((d + 1 : Nat) : Int) = c + 1 + (d : Int) := by omega
    rw [e4]
    refine Ev.step (fun k => ?_) ih
    simp only [laws_heldByteS.l0]
    rw [if_pos (by omega), if_pos (by omega), if_pos (by rw [rd_get x i (by omega)]; exact hm.1), wrap64_id (by omega) (by omega), wrap64_id (by omega) (by omega)]
    simp
theorem heldByteS_ev (x : List Int) (c : Int) (hl : x.length ≤ 140737488355328) (hc : 0 ≤ c) (hc1 : c + x.length ≤ 4611686018427387904) : Ev (fun k => laws_heldByteS.f k (marksB c x) c) (c + x.length) := by
  have := heldByteS_l0 x.length (marksB c x) c 0 (by rw [marksB_length]; exact hl) (by rw [marksB_length]; omega) hc hc1 (by simp [marksB_again])
  simpa [laws_heldByteS.f] using this

theorem szByteS_tell (l : List Int) (a : Int) (hl : l.length ≤ 9223372036854775807) (h0 : 0 ≤ a) (h1 : a ≤ 1048576) : laws_szByteS.f l a = some (if a < (l.length : Int) then -1 else a - l.length) := by
  unfold laws_szByteS.f
  rw [wrap64_id (by omega) (by omega)]
  by_cases h : a < (l.length : Int)
  · rw [if_pos (by omega), if_pos h]
  · rw [if_neg (by omega), if_neg h]

theorem specPenOk_tell (l : List Int) (h c : Int) : spec_PenOk.f l h c = some (decide (0 ≤ c ∧ c ≤ 7 ∧ 0 ≤ h ∧ h < 2 ^ c.toNat)) := by
  unfold spec_PenOk.f
  rw [l1In_tell]
  simp only [Option.bind_some]
  by_cases hc : 0 ≤ c ∧ c ≤ 7
  · obtain ⟨n, rfl⟩ := Int.eq_ofNat_of_zero_le hc.1
    obtain ⟨b1, b2⟩ := pow_bounds (n := n) (m := 7) (by omega)
    rw [if_pos (by rw [decide_eq_true_eq]; exact hc)]
    rw [wrapU64_id (by omega) (by omega), if_pos (by omega : (0 : Int) ≤ (n : Int)), shr_i64 (by omega)]
    simp only [Int.toNat_natCast]
    by_cases hh : h ≥ 0
    · rw [if_pos hh]
      congr 1
      rw [Bool.eq_iff_iff, beq_iff_eq, decide_eq_true_eq, div_zero_iff b1 hh]
      omega
    · rw [if_neg hh]
      congr 1; symm; rw [decide_eq_false_iff_not]; omega
  · rw [if_neg (by rw [decide_eq_true_eq]; exact hc)]
    congr 1; symm; rw [decide_eq_false_iff_not]; omega
theorem implPenOk_tell (l : List Int) (h c : Int) : impl_PenOk.f l h c = some (decide (0 ≤ c ∧ c ≤ 7 ∧ 0 ≤ h ∧ h < 2 ^ c.toNat)) := by
  unfold impl_PenOk.f
  simp only [in_tell, Option.bind_some]
  by_cases hc : 0 ≤ c ∧ c ≤ 7
  · obtain ⟨n, rfl⟩ := Int.eq_ofNat_of_zero_le hc.1
    obtain ⟨b1, b2⟩ := pow_bounds (n := n) (m := 7) (by omega)
    rw [if_pos (by rw [decide_eq_true_eq]; exact hc), if_pos (by omega), shl_i64 (by omega) (by omega) (by omega), wrap64_id (by omega) (by omega)]
    simp only [Int.toNat_natCast]
    congr 1
    rw [Bool.eq_iff_iff, decide_eq_true_eq, decide_eq_true_eq]
    omega
  · rw [if_neg (by rw [decide_eq_true_eq]; exact hc)]
    congr 1; symm; rw [decide_eq_false_iff_not]; omega

theorem szPen_tell (l : List Int) (h c a : Int) (hl : l.length ≤ 9223372036854775807) (h0 : 0 ≤ a) (h1 : a ≤ 1048576) : laws_szPen.f l h c a = some (if a < (l.length : Int) then -1 else a - l.length) := by
  unfold laws_szPen.f
  rw [szByteS_tell l a hl h0 h1]
  simp only [Option.bind_some]
  by_cases q : a < (l.length : Int)
  · rw [if_pos q, if_pos (by omega)]
  · rw [if_neg q, if_neg (by omega)]
theorem toPen_ev (l : List Int) (h c : Int) (hl : l.length ≤ 1048576) : Ev (fun k => laws_toPen.f k l h c) (l, h, c) := Ev.bind (toByteS_ev l (by omega)) (Ev.now _)
theorem eqPen_ev (l : List Int) (h c : Int) (hl : l.length ≤ 140737488351232) : Ev (fun k => laws_eqPen.f k l h c l h c) true := by
  unfold laws_eqPen.f
  exact Ev.bind (eqByteS_ev l hl) (Ev.ifT rfl (Ev.ifT rfl (Ev.ifT rfl (Ev.now _))))
theorem markPen_ev (l : List Int) (h c m : Int) (hl : l.length ≤ 140737488351232) (hm : 0 ≤ m) (hm1 : m ≤ 1000000000000000000) : Ev (fun k => laws_markPen.f k l h c m) (m + l.length, marksB m l) := by
  unfold laws_markPen.f
  exact Ev.bind (markByteS_ev l m (by omega) hm (by omega)) (Ev.now _)

def endedOf (l : List Int) (h c : Int) : List Int := if 0 ≤ c ∧ c ≤ 7 ∧ 0 ≤ h ∧ h < 2 ^ c.toNat then (if c > 0 then l ++ [h % 256] else l) else []
theorem specEnded_tell (l : List Int) (h c : Int) (hl : l.length ≤ 1048576) : spec_Ended.f l h c = some (endedOf l h c) := by
  unfold spec_Ended.f endedOf
  rw [specPenOk_tell]
  simp only [Option.bind_some, decide_eq_true_eq, List.nil_append, List.length_nil, Nat.zero_add]
  by_cases q : 0 ≤ c ∧ c ≤ 7 ∧ 0 ≤ h ∧ h < 2 ^ c.toNat
  · rw [if_pos q, if_pos q, if_pos (by omega)]
    by_cases q2 : c > 0
    · rw [if_pos q2, if_pos q2, if_pos (by omega)]
    · rw [if_neg q2, if_neg q2]
  · rw [if_neg q, if_neg q]
theorem implEnded_tell (l : List Int) (h c : Int) (hl : l.length ≤ 1048576) : impl_Ended.f l h c = some (endedOf l h c) := by
  unfold impl_Ended.f endedOf slices_Clone_byte_byte.f
  rw [implPenOk_tell]
  simp only [Option.bind_some, decide_eq_true_eq, List.nil_append, List.length_nil, Nat.zero_add]
  by_cases q : 0 ≤ c ∧ c ≤ 7 ∧ 0 ≤ h ∧ h < 2 ^ c.toNat
  · rw [if_pos q, if_pos q, if_pos (by omega)]
    simp only [Option.bind_some]
    by_cases q2 : c > 0
    · rw [if_pos q2, if_pos q2, if_pos (by omega)]
    · rw [if_neg q2, if_neg q2]
  · rw [if_neg q, if_neg q]
theorem endedOf_len (l : List Int) (h c : Int) : (endedOf l h c).length ≤ l.length + 1 := by
  unfold endedOf
  split
  · split <;> simp
  · simp
theorem FnExactEnded : ∀ (l0_0 : List Int) (a0_1 : Int) (a0_2 : Int), l0_0.length ≤ maxLen → (∀ x ∈ l0_0, (Lit.int .u8 x).wf = true) → (Lit.int .i64 a0_1).wf = true → (Lit.int .i64 a0_2).wf = true → ∃ k, laws_FnExactEnded.f k l0_0 a0_1 a0_2 = some true := by
  intro l h c hm _ _ _
  unfold maxLen at hm
  refine Ev.rounds ?_
  unfold laws_FnExactEnded.f
  refine Ev.bindc (szPen_tell l h c 1048576 hm (by omega) (by omega)) ?_
  by_cases hl : (1048576 : Int) < (l.length : Int)
  · rw [if_pos hl]; exact Ev.ifT (by omega) (Ev.now _)
  · rw [if_neg hl]
    have t := toPen_ev l h c (by omega)
    have e := eqPen_ev l h c (by omega)
    have m := markPen_ev l h c 1 (by omega) (by omega) (by omega)
    have i := implEnded_tell l h c (by omega)
    have hg := endedOf_len l h c
    generalize hgg : endedOf l h c = g at *
    have eg := eqByteS_ev g (by omega)
    have mg := markByteS_ev g 1 (by omega) (by omega) (by omega)
    have hd := heldByteS_ev g 1 (by omega) (by omega) (by omega)
    have s := specEnded_tell l h c (by omega)
    rw [hgg] at s
    refine Ev.ifF (by omega) (Ev.bind t (Ev.bindc s (Ev.bind t (Ev.bindc i (Ev.bind eg (Ev.ifT rfl (Ev.bind t (Ev.bind e (Ev.ifT rfl (Ev.bind m (Ev.ifF (by omega) (Ev.bind eg ?_))))))))))))
    simp only [Bool.not_true]
    refine Ev.step (fun k => by simp only [laws_FnExactEnded.j0]; rfl) ?_
    exact Ev.ifF (by simp) (Ev.bind mg (Ev.bind hd (Ev.ifF (by omega) (Ev.ifT rfl (Ev.bind t (Ev.bindc i (Ev.bind eg (Ev.ifT rfl (Ev.bind hd (Ev.ifF (by omega) (Ev.ifT rfl (Ev.now _))))))))))))

end Go.Proofs.Ytndoapmehgfdkab.Pure
