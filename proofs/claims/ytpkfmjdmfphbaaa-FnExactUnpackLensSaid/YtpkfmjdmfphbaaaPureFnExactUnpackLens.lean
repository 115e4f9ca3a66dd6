/- The plain law of FnExactUnpackLens, over numbers and lists alone: what the printed functions answer is true for all arguments. Conditions: those of the arguments' kinds. -/
import Derived.Test.YtpkfmjdmfphbaaaQFnExactUnpackLensx5
import Derived.Test.YtpkfmjdmfphbaaaAid
set_option linter.unusedVariables false
set_option linter.unusedSimpArgs false
namespace Go.Proofs.Ytpkfmjdmfphbaaa.Pure
open Go.RowKit Go.Proofs.Ytpkfmjdmfphbaaa.Aid Go.Proofs.Ytpkfmjdmfphbaaa.QFnExactUnpackLens Go.Proofs.YtpkfmjdmfphbaaaW.PrintWords Go.Proofs.YtpkfmjdmfphbaaaW.PrintLast Go.Proofs.YtpkfmjdmfphbaaaW.PrintMore
theorem in_tell (a b c : Int) : impl_in.f a b c = some (decide (b ≤ a ∧ a ≤ c)) := by
  unfold impl_in.f
  by_cases h : a ≥ b
  · rw [if_pos h]; congr 1; rw [Bool.eq_iff_iff]; simp only [decide_eq_true_eq]; omega
  · rw [if_neg h]; congr 1; symm; rw [decide_eq_false_iff_not]; omega

theorem l1In_tell (a b c : Int) : spec_l1In.f a b c = some (decide (b ≤ a ∧ a ≤ c)) := by
  unfold spec_l1In.f
  by_cases h : a ≥ b
  · rw [if_pos h]; congr 1; rw [Bool.eq_iff_iff]; simp only [decide_eq_true_eq]; omega
  · rw [if_neg h]; congr 1; symm; rw [decide_eq_false_iff_not]; omega

theorem div_zero_iff {h : Int} {p : Int} (hp : 1 ≤ p) (h0 : 0 ≤ h) : h / p = 0 ↔ h < p := by
  constructor
  · intro hz
    have := Int.lt_ediv_add_one_mul_self h (show (0 : Int) < p by omega)
    rw [hz] at this
    omega
  · intro hz
    exact Int.ediv_eq_zero_of_lt h0 hz

theorem eqIntS_l0 (l : List Int) (hl : l.length ≤ 140737488351232) : ∀ (d : Nat) (i : Nat), i + d = l.length → Ev (fun k => laws_eqIntS.l0 k l l (i : Int)) true
  | 0, i, hi => by
    refine Ev.step (f := fun _ => some true) (fun k => ?_) (Ev.now _)
    simp only [laws_eqIntS.l0]
    rw [if_neg (by omega)]
  | d + 1, i, hi => by
    have ih := eqIntS_l0 l hl d (i + 1) (by omega)
    refine Ev.step (fun k => ?_) ih
    simp only [laws_eqIntS.l0]
    rw [if_pos (by omega), if_pos (by omega), if_pos (by omega), wrap64_id (by omega) (by omega)]
    simp
theorem eqIntS_ev (l : List Int) (hl : l.length ≤ 140737488351232) : Ev (fun k => laws_eqIntS.f k l l) true := by
  refine Ev.congr (fun k => ?_) (eqIntS_l0 l hl l.length 0 (by simp))
  simp only [laws_eqIntS.f]
  simp

def marksI : Int → List Int → List Int
  | _, [] => []
  | c, _ :: r => c :: marksI (c + 1) r
theorem marksI_length : ∀ (c : Int) (l : List Int), (marksI c l).length = l.length
  | _, [] => rfl
  | c, _ :: r => by simp [marksI, marksI_length (c + 1) r]
theorem marksI_again : ∀ (c : Int) (l : List Int), marksI c (marksI c l) = marksI c l
  | _, [] => rfl
  | c, _ :: r => by simp [marksI, marksI_again (c + 1) r]
theorem markIntS_l0 : ∀ (d : Nat) (x : List Int) (c : Int) (i : Nat), x.length ≤ 140737488355328 → i + d = x.length → 0 ≤ c → c + d ≤ 4611686018427387904 →
    Ev (fun k => laws_markIntS.l0 k x c (i : Int)) (c + d, x.take i ++ marksI c (x.drop i))
  | 0, x, c, i, hl, hi, hc, hc1 => by
    refine Ev.step (f := fun _ => some (c, x)) (fun k => ?_) (Ev.const ?_)
    · simp only [laws_markIntS.l0]
      rw [if_neg (by omega)]
    · rw [List.take_of_length_le (by omega), List.drop_of_length_le (by omega)]
      simp [marksI]
  | d + 1, x, c, i, hl, hi, hc, hc1 => by
    have ih := markIntS_l0 d (x.set i (c)) (c + 1) (i + 1) (by simpa using hl) (by simp; omega) (by omega) (by omega)
    have e1 : (x.set i (c)).take (i + 1) = x.take i ++ [c] := by
      rw [List.take_succ_eq_append_getElem (by simp; omega), List.take_set_of_le (by omega)]; simp
    have e2 : (x.set i (c)).drop (i + 1) = x.drop (i + 1) := by rw [List.drop_set]; simp
    have e3 : x.drop i = x[i]'(by omega) :: x.drop (i + 1) := List.drop_eq_getElem_cons (by omega)
    rw [e1, e2] at ih
    have e4 : (c + ((d + 1 : Nat) : Int), x.take i ++ marksI c (x.drop i)) = (c + 1 + (d : Int), x.take i ++ [c] ++ marksI (c + 1) (x.drop (i + 1))) := by
      rw [e3]; simp [marksI]; omega
    rw [e4]
    refine Ev.step (fun k => ?_) ih
    simp only [laws_markIntS.l0]
    rw [if_pos (by omega), if_pos (by omega), wrap64_id (by omega) (by omega), wrap64_id (by omega) (by omega)]
    simp
theorem markIntS_ev (x : List Int) (c : Int) (hl : x.length ≤ 140737488355328) (hc : 0 ≤ c) (hc1 : c + x.length ≤ 4611686018427387904) : Ev (fun k => laws_markIntS.f k x c) (c + x.length, marksI c x) := by
  have := markIntS_l0 x.length x c 0 hl (by omega) hc hc1
  simpa [laws_markIntS.f] using this
theorem heldIntS_l0 : ∀ (d : Nat) (x : List Int) (c : Int) (i : Nat), x.length ≤ 140737488355328 → i + d = x.length → 0 ≤ c → c + d ≤ 4611686018427387904 → x.drop i = marksI c (x.drop i) →
    Ev (fun k => laws_heldIntS.l0 k x c (i : Int)) (c + d)
  | 0, x, c, i, hl, hi, hc, hc1, hm => by
    refine Ev.step (f := fun _ => some c) (fun k => ?_) (Ev.const (by simp))
    simp only [laws_heldIntS.l0]
    rw [if_neg (by omega)]
  | d + 1, x, c, i, hl, hi, hc, hc1, hm => by
    have e3 : x.drop i = x[i]'(by omega) :: x.drop (i + 1) := List.drop_eq_getElem_cons (by omega)
    rw [e3] at hm
    simp only [marksI, List.cons.injEq] at hm
    have ih := heldIntS_l0 d x (c + 1) (i + 1) hl (by omega) (by omega) (by omega) hm.2
    have e4 : c + ((d + 1 : Nat) : Int) = c + 1 + (d : Int) := by omega
    rw [e4]
    refine Ev.step (fun k => ?_) ih
    simp only [laws_heldIntS.l0]
    rw [if_pos (by omega), if_pos (by omega), if_pos (by rw [rd_get x i (by omega)]; exact hm.1), wrap64_id (by omega) (by omega), wrap64_id (by omega) (by omega)]
    simp
theorem heldIntS_ev (x : List Int) (c : Int) (hl : x.length ≤ 140737488355328) (hc : 0 ≤ c) (hc1 : c + x.length ≤ 4611686018427387904) : Ev (fun k => laws_heldIntS.f k (marksI c x) c) (c + x.length) := by
  have := heldIntS_l0 x.length (marksI c x) c 0 (by rw [marksI_length]; exact hl) (by rw [marksI_length]; omega) hc hc1 (by simp [marksI_again])
  simpa [laws_heldIntS.f] using this

/-- Steps' lists: read, held, marked. -/
theorem step_get (l : List S37) (i : Nat) (h : i < l.length) : rd_T37 l (i : Int) = l[i] := by simp [rd_T37, List.getElem?_eq_getElem h]
theorem eqStepS_l0 (l : List S37) (hl : l.length ≤ 1048576) : ∀ (d : Nat) (i : Nat), i + d = l.length → Ev (fun k => laws_eqStepS.l0 k l l (i : Int)) true
  | 0, i, hi => by
    refine Ev.step (f := fun _ => some true) (fun k => ?_) (Ev.now _)
    simp only [laws_eqStepS.l0]
    rw [if_neg (by omega)]
  | d + 1, i, hi => by
    have ih := eqStepS_l0 l hl d (i + 1) (by omega)
    refine Ev.step (fun k => ?_) ih
    simp only [laws_eqStepS.l0, laws_eqStep.f]
    rw [if_pos (by omega), if_pos (by omega), if_pos (by omega), wrap64_succ (by omega)]
    simp
theorem eqStepS_ev (l : List S37) (hl : l.length ≤ 1048576) : Ev (fun k => laws_eqStepS.f k l l) true := by
  refine Ev.congr (fun k => ?_) (eqStepS_l0 l hl l.length 0 (by simp))
  simp only [laws_eqStepS.f]
  simp
def marksP : Int → List S37 → List S37
  | _, [] => []
  | c, _ :: r => ⟨c, c + 1⟩ :: marksP (c + 2) r
theorem marksP_length : ∀ (c : Int) (l : List S37), (marksP c l).length = l.length
  | _, [] => rfl
  | c, _ :: r => by simp [marksP, marksP_length (c + 2) r]
theorem marksP_again : ∀ (c : Int) (l : List S37), marksP c (marksP c l) = marksP c l
  | _, [] => rfl
  | c, _ :: r => by simp [marksP, marksP_again (c + 2) r]
theorem markStepS_l0 : ∀ (d : Nat) (x : List S37) (c : Int) (i : Nat), x.length ≤ 1048576 → i + d = x.length → 0 ≤ c → c + 2 * d ≤ 4611686018427387904 →
    Ev (fun k => laws_markStepS.l0 k x c (i : Int)) (c + 2 * d, x.take i ++ marksP c (x.drop i))
  | 0, x, c, i, hl, hi, hc, hc1 => by
    refine Ev.step (f := fun _ => some (c, x)) (fun k => ?_) (Ev.const ?_)
    · simp only [laws_markStepS.l0]
      rw [if_neg (by omega)]
    · rw [List.take_of_length_le (by omega), List.drop_of_length_le (by omega)]
      simp [marksP]
  | d + 1, x, c, i, hl, hi, hc, hc1 => by
    have ih := markStepS_l0 d (x.set i ⟨c, c + 1⟩) (c + 2) (i + 1) (by simpa using hl) (by simp; omega) (by omega) (by omega)
    have e1 : (x.set i (⟨c, c + 1⟩ : S37)).take (i + 1) = x.take i ++ [⟨c, c + 1⟩] := by
      rw [List.take_succ_eq_append_getElem (by simp; omega), List.take_set_of_le (by omega)]; simp
    have e2 : (x.set i (⟨c, c + 1⟩ : S37)).drop (i + 1) = x.drop (i + 1) := by rw [List.drop_set]; simp
    have e3 : x.drop i = x[i]'(by omega) :: x.drop (i + 1) := List.drop_eq_getElem_cons (by omega)
    rw [e1, e2] at ih
    have e4 : (c + 2 * ((d + 1 : Nat) : Int), x.take i ++ marksP c (x.drop i)) = (c + 2 + 2 * (d : Int), x.take i ++ [⟨c, c + 1⟩] ++ marksP (c + 2) (x.drop (i + 1))) := by
      rw [e3]; simp [marksP]; omega
    rw [e4]
    refine Ev.step (fun k => ?_) ih
    have w1 : wrap64 (c + 1) = c + 1 := wrap64_id (by omega) (by omega)
    have w2 : wrap64 (c + 1 + 1) = c + 2 := by rw [wrap64_id (by clear w1; omega) (by clear w1; omega)]; clear w1; omega
    have w5 : wrap64 ((i : Int) + 1) = ((i + 1 : Nat) : Int) := wrap64_succ (by clear w1 w2; omega)
    have g1 : (i : Int) < (x.length : Int) := by clear w1 w2 w5; omega
    have g2 : (0 : Int) ≤ (i : Int) := by clear w1 w2 w5; omega
    have hi2 : i < x.length := by clear w1 w2 w5; omega
    simp only [laws_markStepS.l0]
    rw [if_pos g1, if_pos g2, w1, w2, w5]
    simp only [Option.bind_some, Int.toNat_natCast, List.set_set]
    congr 1
    simp [rd_T37, hi2]
theorem markStepS_ev (x : List S37) (c : Int) (hl : x.length ≤ 1048576) (hc : 0 ≤ c) (hc1 : c ≤ 1000000000000000000) : Ev (fun k => laws_markStepS.f k x c) (c + 2 * x.length, marksP c x) := by
  have := markStepS_l0 x.length x c 0 hl (by omega) hc (by omega)
  simpa [laws_markStepS.f] using this

/-- Steps that come in, copied. (41: as they come in, 37: as they are told.) -/
def convP (x : S41) : S37 := ⟨x.f0, x.f1⟩
theorem toStepS_l0 (l : List S41) (hl : l.length ≤ 8796093022208) : ∀ (d : Nat) (o : List S37) (i : Nat), i + d = l.length → o.length = l.length → Ev (fun k => laws_toStepS.l0 k l o (i : Int)) (o.take i ++ (l.drop i).map convP)
  | 0, o, i, hi, ho => by
    refine Ev.step (f := fun _ => some o) (fun k => ?_) (Ev.const ?_)
    · simp only [laws_toStepS.l0]
      rw [if_neg (by omega)]
    · rw [List.take_of_length_le (by omega), List.drop_of_length_le (by omega)]; simp
  | d + 1, o, i, hi, ho => by
    have ih := toStepS_l0 l hl d (o.set i (convP (l[i]'(by omega)))) (i + 1) (by omega) (by simpa using ho)
    have e1 : (o.set i (convP (l[i]'(by omega)))).take (i + 1) = o.take i ++ [convP (l[i]'(by omega))] := by
      rw [List.take_succ_eq_append_getElem (by simp; omega), List.take_set_of_le (by omega)]; simp
    have e3 : l.drop i = l[i]'(by omega) :: l.drop (i + 1) := List.drop_eq_getElem_cons (by omega)
    have er : rd_T41 l (i : Int) = l[i]'(by omega) := by simp [rd_T41, List.getElem?_eq_getElem (show i < l.length by omega)]
    rw [e1, List.append_assoc, List.singleton_append, ← List.map_cons, ← e3] at ih
    refine Ev.step (fun k => ?_) ih
    simp only [laws_toStepS.l0, laws_toStep.f]
    rw [if_pos (by omega), if_pos (by omega)]
    simp only [Option.bind_some]
    rw [if_pos (by omega), wrap64_succ (by omega), er]
    rfl
theorem toStepS_ev (l : List S41) (hl : l.length ≤ 1048576) : Ev (fun k => laws_toStepS.f k l) (l.map convP) := by
  have e := toStepS_l0 l (by omega) l.length (List.replicate l.length z37) 0 (by omega) (by simp)
  rw [List.take_zero, List.nil_append, List.drop_zero] at e
  refine Ev.congr (fun k => ?_) e
  simp only [laws_toStepS.f]
  rw [if_pos (by omega), if_pos (by omega)]
  rfl
theorem szStepS_tell (l : List S41) (a : Int) (hl : l.length ≤ 9223372036854775807) (h0 : 0 ≤ a) (h1 : a ≤ 1048576) : laws_szStepS.f l a = some (if a < (l.length : Int) then -1 else a - l.length) := by
  unfold laws_szStepS.f
  rw [wrap64_id (by omega) (by omega)]
  by_cases q : a < (l.length : Int)
  · rw [if_pos q, if_pos (by omega)]
  · rw [if_neg q, if_neg (by omega)]

/-- A step that is right. -/
def stepBitsOf (op : Int) : Nat := if op = 13 then 2 else if op = 14 then 3 else if op = 15 then 7 else 0
theorem stepBitsOf_le (op : Int) : stepBitsOf op ≤ 7 := by
  unfold stepBitsOf
  (repeat' split) <;> omega
theorem implStepBits_tell (op : Int) : impl_StepBits.f op = some (stepBitsOf op : Int) := by
  unfold impl_StepBits.f stepBitsOf
  repeat' split
  all_goals first | rfl | (exfalso; omega)
def stepOkB (op rest : Int) : Bool := decide (0 ≤ op ∧ op ≤ 15 ∧ 0 ≤ rest ∧ rest < 2 ^ stepBitsOf op)
theorem implStepOk_tell (op rest : Int) : impl_StepOk.f op rest = some (stepOkB op rest) := by
  unfold impl_StepOk.f stepOkB
  rw [in_tell, implStepBits_tell]
  simp only [Option.bind_some, in_tell]
  have hb := stepBitsOf_le op
  generalize stepBitsOf op = m at *
  obtain ⟨b1, b2⟩ := pow_bounds (n := m) (m := 7) hb
  by_cases hk : 0 ≤ op ∧ op ≤ 15
  · rw [if_pos (decide_eq_true hk), if_pos (by omega), shl_i64 (by omega) (by omega) (by omega), wrap64_id (by omega) (by omega)]
    congr 1
    rw [Bool.eq_iff_iff, decide_eq_true_eq, decide_eq_true_eq]
    omega
  · rw [if_neg (by rw [decide_eq_true_eq]; exact hk)]
    congr 1; symm; rw [decide_eq_false_iff_not]; omega

theorem specStepOk_tell (op rest : Int) : spec_StepOk.f op rest = some (stepOkB op rest) := by
  unfold spec_StepOk.f stepOkB
  rw [l1In_tell, show spec_StepBits.f op = impl_StepBits.f op from rfl, implStepBits_tell]
  simp only [Option.bind_some]
  have hb := stepBitsOf_le op
  generalize stepBitsOf op = m at *
  obtain ⟨b1, b2⟩ := pow_bounds (n := m) (m := 7) hb
  by_cases hk : 0 ≤ op ∧ op ≤ 15
  · rw [if_pos (decide_eq_true hk)]
    by_cases hr : rest ≥ 0
    · rw [if_pos hr, wrapU64_id (by omega) (by omega), if_pos (by omega : (0 : Int) ≤ (m : Int)), shr_i64 (by omega)]
      congr 1
      rw [Bool.eq_iff_iff, beq_iff_eq, decide_eq_true_eq, div_zero_iff b1 hr]
      omega
    · rw [if_neg hr]
      congr 1; symm; rw [decide_eq_false_iff_not]; omega
  · rw [if_neg (by rw [decide_eq_true_eq]; exact hk)]
    congr 1; symm; rw [decide_eq_false_iff_not]; omega

/-- What steps unpack to. -/
def meansV (op : Int) (out : List Int) : Int := if op = 13 then rd out ((out.length : Int) - 1) else if op = 14 then 0 else if op = 15 then 0 else op
def meansN (op rest : Int) : Nat := if op = 13 then rest.toNat + 3 else if op = 14 then rest.toNat + 3 else if op = 15 then rest.toNat + 11 else 1
theorem meansN_le {op rest : Int} (h : stepOkB op rest = true) : 1 ≤ meansN op rest ∧ meansN op rest ≤ 200 := by
  unfold stepOkB at h
  rw [decide_eq_true_eq] at h
  obtain ⟨_, b2⟩ := pow_bounds (n := stepBitsOf op) (m := 7) (stepBitsOf_le op)
  unfold meansN
  split
  · omega
  · split
    · omega
    · split <;> omega
def unpackGo (many : Int) : List S37 → List Int → List Int × Int
  | [], out => if (out.length : Int) < many then ([], 4) else (out, 0)
  | s :: r, out => if s.f0 = 13 ∧ out.length = 0 then ([], 2) else if (out.length : Int) + meansN s.f0 s.f1 > many then ([], 3) else unpackGo many r (out ++ List.replicate (meansN s.f0 s.f1) (meansV s.f0 out))
theorem unpackGo_len (many : Int) : ∀ (l : List S37) (out : List Int), (out.length : Int) ≤ many → ((unpackGo many l out).1.length : Int) ≤ max many 0
  | [], out, h => by
    unfold unpackGo
    split <;> simp <;> omega
  | s :: r, out, h => by
    unfold unpackGo
    split
    · simp; omega
    · split
      · simp; omega
      · exact unpackGo_len many r _ (by simp; omega)
def allOk (l : List S37) : Bool := l.all fun t => stepOkB t.f0 t.f1
def unpackOf (l : List S37) (many : Int) : List Int × Int := if 1 ≤ many ∧ many ≤ 300 ∧ allOk l = true then unpackGo many l [] else ([], 1)
theorem unpackOf_len (l : List S37) (many : Int) : (unpackOf l many).1.length ≤ 300 := by
  unfold unpackOf
  split
  · rename_i h
    have := unpackGo_len many l [] (by simp; omega)
    omega
  · simp

theorem stepFunc_l0 (l : List S37) (hl : l.length ≤ 1048576) : ∀ (d i : Nat), i + d = l.length → ∃ r : Int, decide (r ≥ 0) = !(allOk (l.drop i)) ∧ Ev (fun k => impl_Step_26_of_impl_UnpackLens_1.l0 k l (l.length : Int) (i : Int)) r
  | 0, i, hi => by
    refine ⟨-1, by rw [List.drop_of_length_le (by omega)]; rfl, Ev.step (f := fun _ => some (-1)) (fun k => ?_) (Ev.now _)⟩
    simp only [impl_Step_26_of_impl_UnpackLens_1.l0]
    rw [if_neg (by omega)]
  | d + 1, i, hi => by
    obtain ⟨r, h1, h2⟩ := stepFunc_l0 l hl d (i + 1) (by omega)
    have e3 : l.drop i = l[i]'(by omega) :: l.drop (i + 1) := List.drop_eq_getElem_cons (by omega)
    have g1 : (i : Int) < (l.length : Int) := by omega
    have g2 : (0 : Int) ≤ (i : Int) := by omega
    have er := step_get l i (by omega)
    by_cases hb : stepOkB (l[i]'(by omega)).f0 (l[i]'(by omega)).f1 = true
    · refine ⟨r, ?_, Ev.step (fun k => ?_) h2⟩
      · rw [h1, e3, allOk, allOk, List.all_cons, hb, Bool.true_and]
      · simp only [impl_Step_26_of_impl_UnpackLens_1.l0, impl_UnpackLens_1.f]
        rw [if_pos g1, if_pos g2, if_pos g1, er, implStepOk_tell]
        simp only [Option.bind_some]
        rw [hb, wrap64_succ (by omega)]
        simp
    · refine ⟨(i : Int), ?_, Ev.step (f := fun _ => some (i : Int)) (fun k => ?_) (Ev.now _)⟩
      · rw [e3, allOk, List.all_cons, Bool.eq_false_iff.2 hb, Bool.false_and, Bool.not_false, decide_eq_true_eq]; omega
      · simp only [impl_Step_26_of_impl_UnpackLens_1.l0, impl_UnpackLens_1.f]
        rw [if_pos g1, if_pos g2, if_pos g1, er, implStepOk_tell]
        simp only [Option.bind_some]
        rw [Bool.eq_false_iff.2 hb]
        simp
theorem stepFunc_ev (l : List S37) (hl : l.length ≤ 1048576) (z : Nat) : Ev (fun k => impl_Step_18_of_impl_UnpackLens_1.f k l z) (!allOk l) := by
  obtain ⟨r, h1, h2⟩ := stepFunc_l0 l hl l.length 0 (by omega)
  unfold impl_Step_18_of_impl_UnpackLens_1.f impl_Step_26_of_impl_UnpackLens_1.f
  refine Ev.bind h2 (Ev.const ?_)
  rw [h1]; rfl
theorem ahead_tell (out : List Int) (h : out.length ≤ 1000) : impl_ahead.f out = some (if out.length = 0 then 0 else rd out ((out.length : Int) - 1)) := by
  unfold impl_ahead.f
  by_cases h0 : out.length = 0
  · rw [if_pos (by omega), if_pos h0]
  · rw [if_neg (by omega), if_neg h0, wrap64_id (by omega) (by omega), if_pos (by omega), if_pos (by omega)]
theorem stepRun_tell (op rest : Int) (out : List Int) (h : stepOkB op rest = true) (h2 : ¬ (op = 13 ∧ out.length = 0)) :
    impl_stepRun.f op rest (if out.length = 0 then 0 else rd out ((out.length : Int) - 1)) = some (meansV op out, (meansN op rest : Int)) := by
  unfold stepOkB at h
  rw [decide_eq_true_eq] at h
  obtain ⟨_, b2⟩ := pow_bounds (n := stepBitsOf op) (m := 7) (stepBitsOf_le op)
  unfold impl_stepRun.f meansV meansN
  by_cases h13 : op = 13
  · rw [if_pos h13, if_pos h13, if_pos h13, if_neg (by omega), wrap64_id (by omega) (by omega)]
    congr 2; omega
  · rw [if_neg h13, if_neg h13, if_neg h13]
    by_cases h14 : op = 14
    · rw [if_pos h14, if_pos h14, if_pos h14, wrap64_id (by omega) (by omega)]
      congr 2; omega
    · rw [if_neg h14, if_neg h14, if_neg h14]
      by_cases h15 : op = 15
      · rw [if_pos h15, if_pos h15, if_pos h15, wrap64_id (by omega) (by omega)]
        congr 2; omega
      · rw [if_neg h15, if_neg h15, if_neg h15]
        rfl
theorem repeat_tell (v : Int) (n : Nat) (h : n ≤ 1000) : slices_Repeat_int_int.f [v] (n : Int) = some (List.replicate n v) := by
  unfold slices_Repeat_int_int.f
  rw [if_pos (by omega), if_pos (by omega)]
  rfl
theorem implUnpack_j2 (k : Nat) (many : Int) (out : List Int) (l : List S37) (n : Int) (i : Nat) (op rest : Int) (b : Bool) (hok : stepOkB op rest = true) (ho : (out.length : Int) ≤ many) (hm : many ≤ 300) (hi : i < 1048576) (hb : b = decide (op = 13 ∧ out.length = 0)) :
    impl_UnpackLens.j2 (k + 1) many out l n (i : Int) b op rest = if op = 13 ∧ out.length = 0 then some ([], 2) else if (out.length : Int) + meansN op rest > many then some ([], 3) else impl_UnpackLens.l0 k many (out ++ List.replicate (meansN op rest) (meansV op out)) l n ((i + 1 : Nat) : Int) := by
  have hml := meansN_le hok
  have e1 := ahead_tell out (by omega)
  have e5 : wrap64 ((i : Int) + 1) = ((i + 1 : Nat) : Int) := wrap64_succ (by omega)
  have hr := repeat_tell (meansV op out) (meansN op rest) (by clear e1 e5; omega)
  have hq : out.length + (List.replicate (meansN op rest) (meansV op out)).length < 17592186044416 := by clear e1 e5 hr; simp; omega
  have hw : wrap64 ((out.length : Int) + (meansN op rest : Int)) = (out.length : Int) + meansN op rest := wrap64_id (by clear e1 e5 hr; omega) (by clear e1 e5 hr; omega)
  simp only [impl_UnpackLens.j2]
  by_cases hc : op = 13 ∧ out.length = 0
  · rw [if_pos (by rw [hb]; exact decide_eq_true hc), if_pos hc]
  · rw [if_neg (by rw [hb, decide_eq_true_eq]; exact hc), if_neg hc, e1]
    have hs := stepRun_tell op rest out hok hc
    generalize (if out.length = 0 then 0 else rd out ((out.length : Int) - 1)) = y at hs ⊢
    generalize meansV op out = v at *
    generalize meansN op rest = m at *
    rw [Option.bind_some, hs, Option.bind_some, hw]
    by_cases hg : (out.length : Int) + (m : Int) > many
    · rw [if_pos hg, if_pos hg]
    · rw [if_neg hg, if_neg hg, show (slices_Repeat_int_int.f [(v, (m : Int)).fst] (v, (m : Int)).snd) = some (List.replicate m v) from hr, Option.bind_some, if_pos hq, e5]
theorem implUnpack_l0 (l : List S37) (hl : l.length ≤ 1048576) (many : Int) (hm : many ≤ 300) : ∀ (d i : Nat) (out : List Int), i + d = l.length → (out.length : Int) ≤ many → allOk (l.drop i) = true →
    Ev (fun k => impl_UnpackLens.l0 k many out l (l.length : Int) (i : Int)) (unpackGo many (l.drop i) out)
  | 0, i, out, hi, ho, hk => by
    rw [List.drop_of_length_le (by omega), unpackGo]
    by_cases hlt : (out.length : Int) < many
    · rw [if_pos hlt]
      refine Ev.step (f := fun _ => some ([], 4)) (fun k => ?_) (Ev.now _)
      simp only [impl_UnpackLens.l0]
      rw [if_neg (by omega), if_pos hlt]
    · rw [if_neg hlt]
      refine Ev.step (f := fun _ => some (out, 0)) (fun k => ?_) (Ev.now _)
      simp only [impl_UnpackLens.l0]
      rw [if_neg (by omega), if_neg hlt]
  | d + 1, i, out, hi, ho, hk => by
    have e3 : l.drop i = l[i]'(by omega) :: l.drop (i + 1) := List.drop_eq_getElem_cons (by omega)
    have er := step_get l i (by omega)
    rw [e3, allOk, List.all_cons, Bool.and_eq_true] at hk
    have g1 : (i : Int) < (l.length : Int) := by omega
    have g2 : (0 : Int) ≤ (i : Int) := by omega
    rw [e3, unpackGo]
    generalize l[i]'(by omega) = s at *
    have hml := meansN_le hk.1
    have hstep : ∀ k, impl_UnpackLens.l0 (k + 1) many out l (l.length : Int) (i : Int) = impl_UnpackLens.j2 k many out l (l.length : Int) (i : Int) (decide (s.f0 = 13 ∧ out.length = 0)) s.f0 s.f1 := by
      intro k
      simp only [impl_UnpackLens.l0]
      rw [if_pos g1, if_pos g2, if_pos g1, er]
      by_cases h13 : s.f0 = 13
      · rw [if_pos h13]
        congr 1
        rw [Bool.eq_iff_iff, beq_iff_eq, decide_eq_true_eq]
        omega
      · rw [if_neg h13]
        congr 1
        symm; rw [decide_eq_false_iff_not]
        exact fun hh => h13 hh.1
    refine Ev.step hstep (Ev.step (fun k => implUnpack_j2 k many out l _ i s.f0 s.f1 _ hk.1 ho hm (by omega) rfl) ?_)
    by_cases hc : s.f0 = 13 ∧ out.length = 0
    · rw [if_pos hc]; exact Ev.ifT hc (Ev.now _)
    · rw [if_neg hc]
      refine Ev.ifF hc ?_
      by_cases hg : (out.length : Int) + meansN s.f0 s.f1 > many
      · rw [if_pos hg]; exact Ev.ifT hg (Ev.now _)
      · rw [if_neg hg]
        exact Ev.ifF hg (implUnpack_l0 l hl many hm d (i + 1) _ (by omega) (by simp; omega) hk.2)
theorem implUnpack_ev (l : List S37) (hl : l.length ≤ 1048576) (many : Int) : Ev (fun k => impl_UnpackLens.f k l many) (unpackOf l many) := by
  unfold impl_UnpackLens.f
  refine Ev.bindc (in_tell many 1 300) ?_
  have bad : ∀ b, b = true → Ev (fun k => impl_UnpackLens.j0 k l many b) ([], 1) := fun b hb => by
    refine Ev.step (f := fun _ => some ([], 1)) (fun k => ?_) (Ev.now _)
    simp only [impl_UnpackLens.j0]
    rw [if_pos hb]
  unfold unpackOf
  by_cases hm : 1 ≤ many ∧ many ≤ 300
  · refine Ev.ifT (decide_eq_true hm) (Ev.bind (stepFunc_ev l hl 0) ?_)
    cases ha : allOk l with
    | true =>
      rw [if_pos ⟨hm.1, hm.2, rfl⟩]
      have e := implUnpack_l0 l hl many hm.2 l.length 0 [] (by omega) (by simp; omega) (by simpa using ha)
      refine Ev.step (fun k => ?_) e
      simp only [impl_UnpackLens.j0]
      rfl
    | false =>
      rw [if_neg (fun hh => by cases hh.2.2)]
      exact bad _ rfl
  · refine Ev.ifF (by rw [decide_eq_true_eq]; exact hm) ?_
    rw [if_neg (fun hh => hm ⟨hh.1, hh.2.1⟩)]
    exact bad _ rfl

theorem specOk_l0 (l : List S37) (hl : l.length ≤ 1048576) (many : Int) (r : List Int × Int) (hgo : allOk l = true → Ev (fun k => spec_UnpackLens.l1 k l many [] 0) r) : ∀ (d i : Nat), i + d = l.length →
    (allOk (l.take i) = true) → Ev (fun k => spec_UnpackLens.l0 k l many (i : Int)) (if allOk l = true then r else ([], 1))
  | 0, i, hi, ht => by
    rw [List.take_of_length_le (by omega)] at ht
    rw [if_pos ht]
    refine Ev.step (fun k => ?_) (hgo ht)
    simp only [spec_UnpackLens.l0]
    rw [if_neg (by omega)]
  | d + 1, i, hi, ht => by
    have er := step_get l i (by omega)
    have g1 : (i : Int) < (l.length : Int) := by omega
    have g2 : (0 : Int) ≤ (i : Int) := by omega
    have e5 : wrap64 ((i : Int) + 1) = ((i + 1 : Nat) : Int) := wrap64_succ (by omega)
    by_cases hb : stepOkB (l[i]'(by clear e5; omega)).f0 (l[i]'(by clear e5; omega)).f1 = true
    · have ih := specOk_l0 l hl many r hgo d (i + 1) (by clear e5; omega) (by
        rw [List.take_succ_eq_append_getElem (by clear e5; omega), allOk, List.all_append, Bool.and_eq_true]
        exact ⟨ht, by simpa using hb⟩)
      refine Ev.step (fun k => ?_) ih
      simp only [spec_UnpackLens.l0]
      rw [if_pos g1, if_pos g2, er, specStepOk_tell]
      simp only [Option.bind_some]
      rw [if_pos hb, e5]
    · have hbad : ¬ allOk l = true := fun h => hb (List.all_eq_true.1 h _ (List.getElem_mem _))
      rw [if_neg hbad]
      refine Ev.step (f := fun _ => some ([], 1)) (fun k => ?_) (Ev.now _)
      simp only [spec_UnpackLens.l0]
      rw [if_pos g1, if_pos g2, er, specStepOk_tell]
      simp only [Option.bind_some]
      rw [if_neg hb]
theorem l6Means_tell (op rest : Int) (out : List Int) (h : stepOkB op rest = true) (h2 : ¬ (op = 13 ∧ out.length = 0)) (ho : out.length ≤ 1000) : spec_l6Means.f op rest out = some (meansV op out, (meansN op rest : Int)) := by
  unfold stepOkB at h
  rw [decide_eq_true_eq] at h
  obtain ⟨_, b2⟩ := pow_bounds (n := stepBitsOf op) (m := 7) (stepBitsOf_le op)
  unfold spec_l6Means.f meansV meansN
  by_cases h13 : op = 13
  · rw [if_pos h13, if_pos h13, if_pos h13]
    have e1 : wrap64 ((out.length : Int) - 1) = (out.length : Int) - 1 := wrap64_id (by omega) (by omega)
    have e2 : wrap64 (rest + 3) = ((rest.toNat + 3 : Nat) : Int) := by rw [wrap64_id (by clear e1; omega) (by clear e1; omega)]; clear e1; omega
    have g1 : 0 ≤ (out.length : Int) - 1 := by clear e1 e2; omega
    have g2 : (out.length : Int) - 1 < (out.length : Int) := by clear e1 e2; omega
    rw [e1, e2, if_pos g1, if_pos g2]
  · rw [if_neg h13, if_neg h13, if_neg h13]
    by_cases h14 : op = 14
    · rw [if_pos h14, if_pos h14, if_pos h14, wrap64_id (by omega) (by omega)]
      congr 2; omega
    · rw [if_neg h14, if_neg h14, if_neg h14]
      by_cases h15 : op = 15
      · rw [if_pos h15, if_pos h15, if_pos h15, wrap64_id (by omega) (by omega)]
        congr 2; omega
      · rw [if_neg h15, if_neg h15, if_neg h15]
        rfl
theorem specFill_l2 (l : List S37) (many : Int) (v : Int) (n : Nat) (hn : n ≤ 1000) (j : Int) (r : List Int × Int) : ∀ (d i : Nat) (out : List Int), i + d = n → out.length + d ≤ 2000 → Ev (fun k => spec_UnpackLens.l1 k l many (out ++ List.replicate d v) (wrap64 (j + 1))) r →
    Ev (fun k => spec_UnpackLens.l2 k l many out j v (n : Int) (i : Int)) r
  | 0, i, out, hi, ho, h => by
    refine Ev.step (fun k => ?_) (by simpa using h)
    simp only [spec_UnpackLens.l2]
    rw [if_neg (by omega)]
  | d + 1, i, out, hi, ho, h => by
    have ih := specFill_l2 l many v n hn j r d (i + 1) (out ++ [v]) (by omega) (by simp; omega) (by simpa [List.replicate_succ] using h)
    refine Ev.step (fun k => ?_) ih
    simp only [spec_UnpackLens.l2]
    rw [if_pos (by omega), if_pos (by omega), wrap64_succ (by omega)]
theorem specUnpack_l1 (l : List S37) (hl : l.length ≤ 1048576) (many : Int) (hm : many ≤ 300) : ∀ (d i : Nat) (out : List Int), i + d = l.length → (out.length : Int) ≤ many → allOk (l.drop i) = true →
    Ev (fun k => spec_UnpackLens.l1 k l many out (i : Int)) (unpackGo many (l.drop i) out)
  | 0, i, out, hi, ho, hk => by
    rw [List.drop_of_length_le (by omega), unpackGo]
    by_cases hlt : (out.length : Int) < many
    · rw [if_pos hlt]
      refine Ev.step (f := fun _ => some ([], 4)) (fun k => ?_) (Ev.now _)
      simp only [spec_UnpackLens.l1]
      rw [if_neg (by omega), if_pos hlt]
    · rw [if_neg hlt]
      refine Ev.step (f := fun _ => some (out, 0)) (fun k => ?_) (Ev.now _)
      simp only [spec_UnpackLens.l1]
      rw [if_neg (by omega), if_neg hlt]
  | d + 1, i, out, hi, ho, hk => by
    have e3 : l.drop i = l[i]'(by omega) :: l.drop (i + 1) := List.drop_eq_getElem_cons (by omega)
    have er := step_get l i (by omega)
    rw [e3, allOk, List.all_cons, Bool.and_eq_true] at hk
    have g1 : (i : Int) < (l.length : Int) := by omega
    have g2 : (0 : Int) ≤ (i : Int) := by omega
    rw [e3, unpackGo]
    generalize l[i]'(by omega) = s at *
    have hml := meansN_le hk.1
    have hstep : ∀ k, spec_UnpackLens.l1 (k + 1) l many out (i : Int) = spec_UnpackLens.j2 k l many out (i : Int) (decide (s.f0 = 13 ∧ out.length = 0)) := by
      intro k
      simp only [spec_UnpackLens.l1]
      rw [if_pos g1, if_pos g2, er]
      by_cases h13 : s.f0 = 13
      · rw [if_pos h13]
        congr 1
        rw [Bool.eq_iff_iff, beq_iff_eq, decide_eq_true_eq]
        omega
      · rw [if_neg h13]
        congr 1
        symm; rw [decide_eq_false_iff_not]
        exact fun hh => h13 hh.1
    refine Ev.step hstep ?_
    by_cases hc : s.f0 = 13 ∧ out.length = 0
    · rw [if_pos hc]
      refine Ev.step (f := fun _ => some ([], 2)) (fun k => ?_) (Ev.now _)
      simp only [spec_UnpackLens.j2]
      rw [if_pos (decide_eq_true hc)]
    · rw [if_neg hc]
      have hs := l6Means_tell s.f0 s.f1 out hk.1 hc (by omega)
      have hgen : ∃ m v, m = meansN s.f0 s.f1 ∧ v = meansV s.f0 out := ⟨_, _, rfl, rfl⟩
      obtain ⟨m, v, hm1, hv1⟩ := hgen
      rw [← hm1, ← hv1] at hs ⊢
      rw [← hm1] at hml
      have hw : wrap64 ((out.length : Int) + (m : Int)) = (out.length : Int) + (m : Int) := wrap64_id (by omega) (by omega)
      by_cases hg : (out.length : Int) + (m : Int) > many
      · rw [if_pos hg]
        refine Ev.step (f := fun _ => some ([], 3)) (fun k => ?_) (Ev.now _)
        simp only [spec_UnpackLens.j2]
        rw [if_neg (by rw [decide_eq_true_eq]; exact hc), if_pos g2, if_pos g1, er, hs, Option.bind_some, hw, if_pos hg]
      · rw [if_neg hg]
        have ih := specUnpack_l1 l hl many hm d (i + 1) (out ++ List.replicate m v) (by clear hw; omega) (by clear hw; simp; omega) hk.2
        have e5 : wrap64 ((i : Int) + 1) = ((i + 1 : Nat) : Int) := wrap64_succ (by clear hw; omega)
        have fill := specFill_l2 l many v m (by clear hw e5; omega) (i : Int) (unpackGo many (l.drop (i + 1)) (out ++ List.replicate m v)) m 0 out (by clear hw e5; omega) (by clear hw e5; omega) (by rw [e5]; exact ih)
        refine Ev.step (fun k => ?_) fill
        simp only [spec_UnpackLens.j2]
        rw [if_neg (by rw [decide_eq_true_eq]; exact hc), if_pos g2, if_pos g1, er, hs, Option.bind_some, hw, if_neg hg]
        rfl
theorem specUnpack_ev (l : List S37) (hl : l.length ≤ 1048576) (many : Int) : Ev (fun k => spec_UnpackLens.f k l many) (unpackOf l many) := by
  unfold spec_UnpackLens.f
  refine Ev.bindc (l1In_tell many 1 300) ?_
  unfold unpackOf
  by_cases hm : 1 ≤ many ∧ many ≤ 300
  · refine Ev.ifT (decide_eq_true hm) ?_
    have h := specOk_l0 l hl many (unpackGo many l []) (fun ha => specUnpack_l1 l hl many hm.2 l.length 0 [] (by omega) (by simp; omega) (by simpa using ha)) l.length 0 (by omega) (by rfl)
    by_cases ha : allOk l = true
    · rw [if_pos ha] at h
      rw [if_pos ⟨hm.1, hm.2, ha⟩]
      exact h
    · rw [if_neg ha] at h
      rw [if_neg (fun hh => ha hh.2.2)]
      exact h
  · refine Ev.ifF (by rw [decide_eq_true_eq]; exact hm) ?_
    rw [if_neg (fun hh => hm ⟨hh.1, hh.2.1⟩)]
    exact Ev.now _

theorem FnExactUnpackLens : ∀ (l0 : List S41) (a1 : Int), l0.length ≤ maxLen → (∀ t ∈ l0, (Lit.int .i64 t.f0).wf = true ∧ (Lit.int .i64 t.f1).wf = true) → (Lit.int .i64 a1).wf = true → ∃ k, laws_FnExactUnpackLens.f k l0 a1 = some true := by
  intro l many hm _ _
  unfold maxLen at hm
  refine Ev.rounds ?_
  unfold laws_FnExactUnpackLens.f
  refine Ev.bindc (szStepS_tell l 1048576 hm (by omega) (by omega)) ?_
  by_cases hl : (1048576 : Int) < (l.length : Int)
  · rw [if_pos hl]; exact Ev.ifT (by omega) (Ev.now _)
  rw [if_neg hl]
  have t := toStepS_ev l (by omega)
  have hlen : (l.map convP).length = l.length := by simp
  have et := eqStepS_ev (l.map convP) (by omega)
  have mt := markStepS_ev (l.map convP) 1 (by omega) (by omega) (by omega)
  have s := specUnpack_ev (l.map convP) (by omega) many
  have i := implUnpack_ev (l.map convP) (by omega) many
  have hg := unpackOf_len (l.map convP) many
  generalize unpackOf (l.map convP) many = p at *
  obtain ⟨g, c⟩ := p
  simp only at hg
  have eg := eqIntS_ev g (by omega)
  have mg := markIntS_ev g 1 (by omega) (by omega) (by omega)
  have hd := heldIntS_ev g 1 (by omega) (by omega) (by omega)
  refine Ev.ifF (by omega) (Ev.bind t (Ev.bind s (Ev.bind t (Ev.bind i (Ev.bind eg (Ev.ifT rfl ?_))))))
  simp only [bne_self_eq_false]
  refine Ev.step (fun _ => laws_FnExactUnpackLens.j0.eq_2 _ _ _ _ _ _ _ _ _) (Ev.ifF (by decide) (Ev.bind t (Ev.bind et (Ev.ifT rfl (Ev.bind mt (Ev.ifF (by simp only; omega) (Ev.bind eg (Ev.ifT rfl ?_))))))))
  simp only [bne_self_eq_false]
  refine Ev.step (fun _ => laws_FnExactUnpackLens.j1.eq_2 _ _ _ _ _ _ _) (Ev.ifF (by decide) (Ev.bind mg (Ev.bind hd (Ev.ifF (by omega) (Ev.ifT rfl (Ev.bind t (Ev.bind i (Ev.bind eg (Ev.ifT rfl ?_)))))))))
  simp only [bne_self_eq_false]
  exact Ev.step (fun _ => laws_FnExactUnpackLens.j2.eq_2 _ _ _ _) (Ev.ifF (by decide) (Ev.bind hd (Ev.ifF (by omega) (Ev.ifT rfl (Ev.now _)))))

end Go.Proofs.Ytpkfmjdmfphbaaa.Pure
