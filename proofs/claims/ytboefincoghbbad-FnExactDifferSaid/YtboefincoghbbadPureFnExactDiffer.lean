/- The plain law of FnExactDiffer, over numbers and lists alone: what the printed functions answer is true for all arguments. Conditions: those of the arguments' kinds. -/
import Derived.Test.YtboefincoghbbadQFnExactDifferx5
import Derived.Test.YtboefincoghbbadAid
import Derived.Lib.Bytes
set_option linter.unusedVariables false
set_option linter.unusedSimpArgs false
namespace Go.Proofs.Ytboefincoghbbad.Pure
open Go.RowKit Go.Proofs.Ytboefincoghbbad.Aid Go.Proofs.Ytboefincoghbbad.QFnExactDiffer Go.Proofs.YtboefincoghbbadW.PrintWords Go.Proofs.YtboefincoghbbadW.PrintLast Go.Proofs.YtboefincoghbbadW.PrintMore
theorem in_tell (a b c : Int) : impl_in.f a b c = some (decide (b ≤ a ∧ a ≤ c)) := by
  unfold impl_in.f
  by_cases h : a ≥ b
  · rw [if_pos h]; congr 1; rw [Bool.eq_iff_iff]; simp only [decide_eq_true_eq]; omega
  · rw [if_neg h]; congr 1; symm; rw [decide_eq_false_iff_not]; omega

theorem l1In_tell (a b c : Int) : spec_l1In.f a b c = some (decide (b ≤ a ∧ a ≤ c)) := by
  unfold spec_l1In.f
  by_cases h : a ≥ b
  · rw [if_pos h]; congr 1; rw [Bool.eq_iff_iff]; simp only [decide_eq_true_eq]; omega
  · rw [if_neg h]; congr 1; symm; rw [decide_eq_false_iff_not]; omega

theorem toByteS_l0 (l : List Int) (hl : l.length ≤ 140737488351232) : ∀ (d : Nat) (x : List Int) (i : Nat), x.length = l.length → i + d = l.length → x.take i = l.take i → Ev (fun k => laws_toByteS.l0 k l x (i : Int)) l
  | 0, x, i, hx, hi, ht => by
    refine Ev.step (f := fun _ => some l) (fun k => ?_) (Ev.now _)
    simp only [laws_toByteS.l0]
    rw [if_neg (by omega)]
    congr 1
    rw [List.take_of_length_le (by omega), List.take_of_length_le (by omega)] at ht
    exact ht
  | d + 1, x, i, hx, hi, ht => by
    have ih := toByteS_l0 l hl d (x.set i (rd l i)) (i + 1) (by simpa using hx) (by omega) (by
      rw [List.take_succ_eq_append_getElem (by simp; omega), List.take_succ_eq_append_getElem (by omega), List.take_set_of_le (by omega), ht]
      simp [rd, List.getElem?_eq_getElem (show i < l.length by omega)])
    refine Ev.step (fun k => ?_) ih
    simp only [laws_toByteS.l0]
    rw [if_pos (by omega), if_pos (by omega), if_pos (by omega), wrap64_id (by omega) (by omega)]
    simp
theorem toByteS_ev (l : List Int) (hl : l.length ≤ 140737488351232) : Ev (fun k => laws_toByteS.f k l) l := by
  refine Ev.congr (fun k => ?_) (toByteS_l0 l hl l.length (List.replicate l.length 0) 0 (by simp) (by simp) (by simp))
  simp only [laws_toByteS.f]
  rw [if_pos (by omega), if_pos (by omega)]
  simp

theorem toIntS_l0 (l : List Int) (hl : l.length ≤ 17592186044416) : ∀ (d : Nat) (x : List Int) (i : Nat), x.length = l.length → i + d = l.length → x.take i = l.take i → Ev (fun k => laws_toIntS.l0 k l x (i : Int)) l
  | 0, x, i, hx, hi, ht => by
    refine Ev.step (f := fun _ => some l) (fun k => ?_) (Ev.now _)
    simp only [laws_toIntS.l0]
    rw [if_neg (by omega)]
    congr 1
    rw [List.take_of_length_le (by omega), List.take_of_length_le (by omega)] at ht
    exact ht
  | d + 1, x, i, hx, hi, ht => by
    have ih := toIntS_l0 l hl d (x.set i (rd l i)) (i + 1) (by simpa using hx) (by omega) (by
      rw [List.take_succ_eq_append_getElem (by simp; omega), List.take_succ_eq_append_getElem (by omega), List.take_set_of_le (by omega), ht]
      simp [rd, List.getElem?_eq_getElem (show i < l.length by omega)])
    refine Ev.step (fun k => ?_) ih
    simp only [laws_toIntS.l0]
    rw [if_pos (by omega), if_pos (by omega), if_pos (by omega), wrap64_id (by omega) (by omega)]
    simp
theorem toIntS_ev (l : List Int) (hl : l.length ≤ 17592186044416) : Ev (fun k => laws_toIntS.f k l) l := by
  refine Ev.congr (fun k => ?_) (toIntS_l0 l hl l.length (List.replicate l.length 0) 0 (by simp) (by simp) (by simp))
  simp only [laws_toIntS.f]
  rw [if_pos (by omega), if_pos (by omega)]
  simp

theorem eqByteS_l0 (l : List Int) (hl : l.length ≤ 140737488351232) : ∀ (d : Nat) (i : Nat), i + d = l.length → Ev (fun k => laws_eqByteS.l0 k l l (i : Int)) true
  | 0, i, hi => by
    refine Ev.step (f := fun _ => some true) (fun k => ?_) (Ev.now _)
    simp only [laws_eqByteS.l0]
    rw [if_neg (by omega)]
  | d + 1, i, hi => by
    have ih := eqByteS_l0 l hl d (i + 1) (by omega)
    refine Ev.step (fun k => ?_) ih
    simp only [laws_eqByteS.l0]
    rw [if_pos (by omega), if_pos (by omega), if_pos (by omega), wrap64_id (by omega) (by omega)]
    simp
theorem eqByteS_ev (l : List Int) (hl : l.length ≤ 140737488351232) : Ev (fun k => laws_eqByteS.f k l l) true := by
  refine Ev.congr (fun k => ?_) (eqByteS_l0 l hl l.length 0 (by simp))
  simp only [laws_eqByteS.f]
  simp

theorem eqIntS_l0 (l : List Int) (hl : l.length ≤ 140737488351232) : ∀ (d : Nat) (i : Nat), i + d = l.length → Ev (fun k => laws_eqIntS.l0 k l l (i : Int)) true
  | 0, i, hi => by
    refine Ev.step (f := fun _ => some true) (fun k => ?_) (Ev.now _)
    simp only [laws_eqIntS.l0]
    rw [if_neg (by omega)]
  | d + 1, i, hi => by
    have ih := eqIntS_l0 l hl d (i + 1) (by omega)
    refine Ev.step (fun k => ?_) ih
    simp only [laws_eqIntS.l0]
    rw [if_pos (by omega), if_pos (by omega), if_pos (by omega), wrap64_id (by omega) (by omega)]
    simp
theorem eqIntS_ev (l : List Int) (hl : l.length ≤ 140737488351232) : Ev (fun k => laws_eqIntS.f k l l) true := by
  refine Ev.congr (fun k => ?_) (eqIntS_l0 l hl l.length 0 (by simp))
  simp only [laws_eqIntS.f]
  simp

def marksB : Int → List Int → List Int
  | _, [] => []
  | c, _ :: r => c % 256 :: marksB (c + 1) r
theorem marksB_length : ∀ (c : Int) (l : List Int), (marksB c l).length = l.length
  | _, [] => rfl
  | c, _ :: r => by simp [marksB, marksB_length (c + 1) r]
theorem marksB_again : ∀ (c : Int) (l : List Int), marksB c (marksB c l) = marksB c l
  | _, [] => rfl
  | c, _ :: r => by simp [marksB, marksB_again (c + 1) r]
theorem markByteS_l0 : ∀ (d : Nat) (x : List Int) (c : Int) (i : Nat), x.length ≤ 140737488355328 → i + d = x.length → 0 ≤ c → c + d ≤ 4611686018427387904 →
    Ev (fun k => laws_markByteS.l0 k x c (i : Int)) (c + d, x.take i ++ marksB c (x.drop i))
  | 0, x, c, i, hl, hi, hc, hc1 => by
    refine Ev.step (f := fun _ => some (c, x)) (fun k => ?_) (Ev.const ?_)
    · simp only [laws_markByteS.l0]
      rw [if_neg (by omega)]
    · rw [List.take_of_length_le (by omega), List.drop_of_length_le (by omega)]
      simp [marksB]
  | d + 1, x, c, i, hl, hi, hc, hc1 => by
    have ih := markByteS_l0 d (x.set i (c % 256)) (c + 1) (i + 1) (by simpa using hl) (by simp; omega) (by omega) (by omega)
    have e1 : (x.set i (c % 256)).take (i + 1) = x.take i ++ [c % 256] := by
      rw [List.take_succ_eq_append_getElem (by simp; omega), List.take_set_of_le (by omega)]; simp
    have e2 : (x.set i (c % 256)).drop (i + 1) = x.drop (i + 1) := by rw [List.drop_set]; simp
    have e3 : x.drop i = x[i]'(by omega) :: x.drop (i + 1) := List.drop_eq_getElem_cons (by omega)
    rw [e1, e2] at ih
    have e4 : (c + ((d + 1 : Nat) : Int), x.take i ++ marksB c (x.drop i)) = (c + 1 + (d : Int), x.take i ++ [c % 256] ++ marksB (c + 1) (x.drop (i + 1))) := by
      rw [e3]; simp [marksB]; omega
    rw [e4]
    refine Ev.step (fun k => ?_) ih
    simp only [laws_markByteS.l0]
    rw [if_pos (by omega), if_pos (by omega), wrap64_id (by omega) (by omega), wrap64_id (by omega) (by omega)]
    simp
theorem markByteS_ev (x : List Int) (c : Int) (hl : x.length ≤ 140737488355328) (hc : 0 ≤ c) (hc1 : c + x.length ≤ 4611686018427387904) : Ev (fun k => laws_markByteS.f k x c) (c + x.length, marksB c x) := by
  have := markByteS_l0 x.length x c 0 hl (by omega) hc hc1
  simpa [laws_markByteS.f] using this

def marksI : Int → List Int → List Int
  | _, [] => []
  | c, _ :: r => c :: marksI (c + 1) r
theorem marksI_length : ∀ (c : Int) (l : List Int), (marksI c l).length = l.length
  | _, [] => rfl
  | c, _ :: r => by simp [marksI, marksI_length (c + 1) r]
theorem marksI_again : ∀ (c : Int) (l : List Int), marksI c (marksI c l) = marksI c l
  | _, [] => rfl
  | c, _ :: r => by simp [marksI, marksI_again (c + 1) r]
theorem markIntS_l0 : ∀ (d : Nat) (x : List Int) (c : Int) (i : Nat), x.length ≤ 140737488355328 → i + d = x.length → 0 ≤ c → c + d ≤ 4611686018427387904 →
    Ev (fun k => laws_markIntS.l0 k x c (i : Int)) (c + d, x.take i ++ marksI c (x.drop i))
  | 0, x, c, i, hl, hi, hc, hc1 => by
    refine Ev.step (f := fun _ => some (c, x)) (fun k => ?_) (Ev.const ?_)
    · simp only [laws_markIntS.l0]
      rw [if_neg (by omega)]
    · rw [List.take_of_length_le (by omega), List.drop_of_length_le (by omega)]
      simp [marksI]
  | d + 1, x, c, i, hl, hi, hc, hc1 => by
    have ih := markIntS_l0 d (x.set i (c)) (c + 1) (i + 1) (by simpa using hl) (by simp; omega) (by omega) (by omega)
    have e1 : (x.set i (c)).take (i + 1) = x.take i ++ [c] := by
      rw [List.take_succ_eq_append_getElem (by simp; omega), List.take_set_of_le (by omega)]; simp
    have e2 : (x.set i (c)).drop (i + 1) = x.drop (i + 1) := by rw [List.drop_set]; simp
    have e3 : x.drop i = x[i]'(by omega) :: x.drop (i + 1) := List.drop_eq_getElem_cons (by omega)
    rw [e1, e2] at ih
    have e4 : (c + ((d + 1 : Nat) : Int), x.take i ++ marksI c (x.drop i)) = (c + 1 + (d : Int), x.take i ++ [c] ++ marksI (c + 1) (x.drop (i + 1))) := by
      rw [e3]; simp [marksI]; omega
    rw [e4]
    refine Ev.step (fun k => ?_) ih
    simp only [laws_markIntS.l0]
    rw [if_pos (by omega), if_pos (by omega), wrap64_id (by omega) (by omega), wrap64_id (by omega) (by omega)]
    simp
theorem markIntS_ev (x : List Int) (c : Int) (hl : x.length ≤ 140737488355328) (hc : 0 ≤ c) (hc1 : c + x.length ≤ 4611686018427387904) : Ev (fun k => laws_markIntS.f k x c) (c + x.length, marksI c x) := by
  have := markIntS_l0 x.length x c 0 hl (by omega) hc hc1
  simpa [laws_markIntS.f] using this
theorem heldIntS_l0 : ∀ (d : Nat) (x : List Int) (c : Int) (i : Nat), x.length ≤ 140737488355328 → i + d = x.length → 0 ≤ c → c + d ≤ 4611686018427387904 → x.drop i = marksI c (x.drop i) →
    Ev (fun k => laws_heldIntS.l0 k x c (i : Int)) (c + d)
  | 0, x, c, i, hl, hi, hc, hc1, hm => by
    refine Ev.step (f := fun _ => some c) (fun k => ?_) (Ev.const (by simp))
    simp only [laws_heldIntS.l0]
    rw [if_neg (by omega)]
  | d + 1, x, c, i, hl, hi, hc, hc1, hm => by
    have e3 : x.drop i = x[i]'(by omega) :: x.drop (i + 1) := List.drop_eq_getElem_cons (by omega)
    rw [e3] at hm
    simp only [marksI, List.cons.injEq] at hm
    have ih := heldIntS_l0 d x (c + 1) (i + 1) hl (by omega) (by omega) (by omega) hm.2
    have e4 : c + ((d + 1 : Nat) : Int) = c + 1 + (d : Int) := by omega
    rw [e4]
    refine Ev.step (fun k => ?_) ih
    simp only [laws_heldIntS.l0]
    rw [if_pos (by omega), if_pos (by omega), if_pos (by rw [rd_get x i (by omega)]; exact hm.1), wrap64_id (by omega) (by omega), wrap64_id (by omega) (by omega)]
    simp
theorem heldIntS_ev (x : List Int) (c : Int) (hl : x.length ≤ 140737488355328) (hc : 0 ≤ c) (hc1 : c + x.length ≤ 4611686018427387904) : Ev (fun k => laws_heldIntS.f k (marksI c x) c) (c + x.length) := by
  have := heldIntS_l0 x.length (marksI c x) c 0 (by rw [marksI_length]; exact hl) (by rw [marksI_length]; omega) hc hc1 (by simp [marksI_again])
  simpa [laws_heldIntS.f] using this

theorem szByteS_tell (l : List Int) (a : Int) (hl : l.length ≤ 9223372036854775807) (h0 : 0 ≤ a) (h1 : a ≤ 1048576) : laws_szByteS.f l a = some (if a < (l.length : Int) then -1 else a - l.length) := by
  unfold laws_szByteS.f
  rw [wrap64_id (by omega) (by omega)]
  by_cases h : a < (l.length : Int)
  · rw [if_pos (by omega), if_pos h]
  · rw [if_neg (by omega), if_neg h]

theorem szIntS_tell (l : List Int) (a : Int) (hl : l.length ≤ 9223372036854775807) (h0 : 0 ≤ a) (h1 : a ≤ 1048576) : laws_szIntS.f l a = some (if a < (l.length : Int) then -1 else a - l.length) := by
  unfold laws_szIntS.f
  rw [wrap64_id (by omega) (by omega)]
  by_cases h : a < (l.length : Int)
  · rw [if_pos (by omega), if_pos h]
  · rw [if_neg (by omega), if_neg h]

theorem szNor_tell (c w : List Int) (a : Int) (hc : c.length ≤ 9223372036854775807) (hw : w.length ≤ 9223372036854775807) (h0 : 0 ≤ a) (h1 : a ≤ 1048576) : laws_szNor.f c w a = some (if a < (c.length : Int) + w.length then -1 else a - c.length - w.length) := by
  unfold laws_szNor.f
  rw [szByteS_tell c a hc h0 h1]
  simp only [Option.bind_some]
  by_cases q : a < (c.length : Int)
  · rw [if_pos q, if_pos (by omega), if_pos (by omega)]
  · rw [if_neg q, if_neg (by omega), szIntS_tell w _ hw (by omega) (by omega)]
    simp only [Option.bind_some]
    by_cases q2 : a - (c.length : Int) < (w.length : Int)
    · rw [if_pos q2, if_pos (by omega), if_pos (by omega)]
    · rw [if_neg q2, if_neg (by omega), if_neg (by omega)]
theorem toNor_ev (c w : List Int) (hc : c.length ≤ 1048576) (hw : w.length ≤ 1048576) : Ev (fun k => laws_toNor.f k c w) (c, w) := by
  unfold laws_toNor.f
  exact Ev.bind (toByteS_ev c (by omega)) (Ev.bind (toIntS_ev w (by omega)) (Ev.now _))
theorem eqNor_ev (c w : List Int) (hc : c.length ≤ 1048576) (hw : w.length ≤ 1048576) : Ev (fun k => laws_eqNor.f k c w c w) true := by
  unfold laws_eqNor.f
  exact Ev.bind (eqByteS_ev c (by omega)) (Ev.ifT rfl (Ev.bind (eqIntS_ev w (by omega)) (Ev.ifT rfl (Ev.now _))))

def badWear (x : Int) : Bool := !decide (0 ≤ x ∧ x ≤ 100000)
def norOkP (c w : List Int) : Prop := 1 ≤ w.length ∧ w.length ≤ 64 ∧ w.any badWear = false ∧ c.length = 64 * w.length
instance (c w : List Int) : Decidable (norOkP c w) := by unfold norOkP; infer_instance

theorem ofNat_inj {x y : Int} (hx : 0 ≤ x ∧ x < 256) (hy : 0 ≤ y ∧ y < 256) (h : UInt8.ofNat x.toNat = UInt8.ofNat y.toNat) : x = y := by
  have := congrArg UInt8.toNat h
  rw [UInt8.toNat_ofNat', UInt8.toNat_ofNat'] at this
  omega
theorem bytesOf_inj : ∀ {a b : List Int}, (∀ x ∈ a, 0 ≤ x ∧ x < 256) → (∀ x ∈ b, 0 ≤ x ∧ x < 256) → (strOfNums a).data.toList = (strOfNums b).data.toList → a = b
  | [], [], _, _, _ => rfl
  | [], _ :: _, _, _, h => by simp [strOfNums] at h
  | _ :: _, [], _, _, h => by simp [strOfNums] at h
  | x :: a, y :: b, ha, hb, h => by
    simp only [strOfNums, List.map_cons, List.cons.injEq] at h
    rw [ofNat_inj (ha x (by simp)) (hb y (by simp)) h.1, bytesOf_inj (fun z hz => ha z (by simp [hz])) (fun z hz => hb z (by simp [hz])) h.2]
theorem strs_eq {a b : List Int} (ha : ∀ x ∈ a, 0 ≤ x ∧ x < 256) (hb : ∀ x ∈ b, 0 ≤ x ∧ x < 256) : ((strOfNums a).toList == (strOfNums b).toList) = decide (a = b) := by
  rw [Bool.eq_iff_iff, beq_iff_eq, decide_eq_true_eq]
  constructor
  · intro h
    apply bytesOf_inj ha hb
    rw [Lib.strOfNums_toList, Lib.strOfNums_toList] at h
    exact h
  · intro h; rw [h]

theorem specSame_l0 (a b : List Int) (hab : a.length = b.length) (hl : a.length ≤ 140737488355328) : ∀ (d : Nat) (i : Nat), i + d = a.length → Ev (fun k => spec_Same.l0 k a b (i : Int)) (decide (a.drop i = b.drop i))
  | 0, i, hi => by
    refine Ev.step (f := fun _ => some true) (fun k => ?_) (Ev.const ?_)
    · simp only [spec_Same.l0]
      rw [if_neg (by omega)]
    · rw [List.drop_of_length_le (by omega), List.drop_of_length_le (by omega)]; simp
  | d + 1, i, hi => by
    have ih := specSame_l0 a b hab hl d (i + 1) (by omega)
    have e1 : a.drop i = a[i]'(by omega) :: a.drop (i + 1) := List.drop_eq_getElem_cons (by omega)
    have e2 : b.drop i = b[i]'(by omega) :: b.drop (i + 1) := List.drop_eq_getElem_cons (by omega)
    by_cases e : a[i]'(by omega) = b[i]'(by omega)
    · have e3 : decide (a.drop i = b.drop i) = decide (a.drop (i + 1) = b.drop (i + 1)) := by
        rw [e1, e2, e, Bool.eq_iff_iff]; simp only [decide_eq_true_eq, List.cons.injEq, true_and]
      rw [e3]
      refine Ev.step (fun k => ?_) ih
      simp only [spec_Same.l0]
      rw [if_pos (by omega), if_pos (by omega), if_pos (by omega), if_pos (by rw [rd_get a i (by omega), rd_get b i (by omega)]; exact e), wrap64_id (by omega) (by omega)]
      simp
    · have e3 : decide (a.drop i = b.drop i) = false := by
        rw [e1, e2, decide_eq_false_iff_not]; simp only [List.cons.injEq, e, false_and, not_false_eq_true]
      rw [e3]
      refine Ev.step (f := fun _ => some false) (fun k => ?_) (Ev.now _)
      simp only [spec_Same.l0]
      rw [if_pos (by omega), if_pos (by omega), if_pos (by omega), if_neg (by rw [rd_get a i (by omega), rd_get b i (by omega)]; exact e)]
theorem specSame_tell (a b : List Int) (hl : a.length ≤ 140737488355328) : Ev (fun k => spec_Same.f k a b) (decide (a = b)) := by
  by_cases h : a.length = b.length
  · refine Ev.congr (fun k => ?_) (specSame_l0 a b h hl a.length 0 (by simp))
    simp only [spec_Same.f]
    rw [if_pos (by omega)]; simp
  · refine Ev.congr (f := fun _ => some false) (fun k => ?_) (Ev.const ?_)
    · simp only [spec_Same.f]
      rw [if_neg (by omega)]
    · have : a ≠ b := fun e => h (by rw [e])
      simp [this]

theorem indexFunc_NorOk_l0 (p : Int → Bool) (l : List Int) (hl : l.length ≤ 140737488351232) (hp : ∀ x ∈ l, impl_NorOk_1.f x = some (p x)) : ∀ (d i : Nat), i + d = l.length → ∃ r : Int, decide (r ≥ 0) = (l.drop i).any p ∧ Ev (fun k => slices_IndexFunc_int_int_of_impl_NorOk_1.l0 k l (l.length : Int) (i : Int)) r
  | 0, i, hi => by
    refine ⟨-1, by rw [List.drop_of_length_le (by omega)]; rfl, Ev.step (f := fun _ => some (-1)) (fun k => ?_) (Ev.now _)⟩
    simp only [slices_IndexFunc_int_int_of_impl_NorOk_1.l0]
    rw [if_neg (by omega)]
  | d + 1, i, hi => by
    obtain ⟨r, h1, h2⟩ := indexFunc_NorOk_l0 p l hl hp d (i + 1) (by omega)
    have e3 : l.drop i = l[i]'(by omega) :: l.drop (i + 1) := List.drop_eq_getElem_cons (by omega)
    have hx := hp (l[i]'(by omega)) (List.getElem_mem _)
    have g1 : (i : Int) < (l.length : Int) := by omega
    have g2 : (0 : Int) ≤ (i : Int) := by omega
    have er := rd_get l i (by omega)
    by_cases hb : p (l[i]'(by omega)) = true
    · refine ⟨(i : Int), ?_, Ev.step (f := fun _ => some (i : Int)) (fun k => ?_) (Ev.now _)⟩
      · rw [e3, List.any_cons, hb, Bool.true_or, decide_eq_true_eq]; omega
      · simp only [slices_IndexFunc_int_int_of_impl_NorOk_1.l0]
        rw [if_pos g1, if_pos g2, if_pos g1, er, hx]
        simp only [Option.bind_some]
        rw [if_pos hb]
    · refine ⟨r, ?_, Ev.step (fun k => ?_) h2⟩
      · rw [h1, e3, List.any_cons, Bool.eq_false_iff.2 hb, Bool.false_or]
      · simp only [slices_IndexFunc_int_int_of_impl_NorOk_1.l0]
        rw [if_pos g1, if_pos g2, if_pos g1, er, hx]
        simp only [Option.bind_some]
        rw [if_neg hb, wrap64_succ (by omega)]
theorem containsFunc_NorOk (p : Int → Bool) (l : List Int) (hl : l.length ≤ 140737488351232) (hp : ∀ x ∈ l, impl_NorOk_1.f x = some (p x)) (z : Nat) : Ev (fun k => slices_ContainsFunc_int_int_of_impl_NorOk_1.f k l z) (l.any p) := by
  obtain ⟨r, h1, h2⟩ := indexFunc_NorOk_l0 p l hl hp l.length 0 (by omega)
  unfold slices_ContainsFunc_int_int_of_impl_NorOk_1.f slices_IndexFunc_int_int_of_impl_NorOk_1.f
  refine Ev.bind h2 (Ev.const ?_)
  rw [h1]; rfl

theorem specNor_l0 (c w : List Int) (hw : w.length ≤ 64) : ∀ (d i : Nat), i + d = w.length → Ev (fun k => spec_NorOk.l0 k (i : Int) c w) (!(w.drop i).any badWear)
  | 0, i, hi => by
    refine Ev.step (f := fun _ => some true) (fun k => ?_) (Ev.const (by rw [List.drop_of_length_le (by omega)]; rfl))
    simp only [spec_NorOk.l0]
    rw [if_neg (by omega)]
  | d + 1, i, hi => by
    have ih := specNor_l0 c w hw d (i + 1) (by omega)
    have e3 : w.drop i = w[i]'(by omega) :: w.drop (i + 1) := List.drop_eq_getElem_cons (by omega)
    have g1 : (i : Int) < (w.length : Int) := by omega
    have g2 : (0 : Int) ≤ (i : Int) := by omega
    rw [e3, List.any_cons]
    by_cases hb : 0 ≤ w[i]'(by omega) ∧ w[i]'(by omega) ≤ 100000
    · rw [show badWear (w[i]'(by omega)) = false by unfold badWear; rw [decide_eq_true hb]; rfl, Bool.false_or]
      refine Ev.step (fun k => ?_) ih
      simp only [spec_NorOk.l0]
      rw [if_pos g1, if_pos g2, rd_get w i (by omega), l1In_tell]
      simp only [Option.bind_some]
      rw [if_pos (decide_eq_true hb), wrap64_succ (by omega)]
    · rw [show badWear (w[i]'(by omega)) = true by unfold badWear; rw [decide_eq_false hb]; rfl, Bool.true_or, Bool.not_true]
      refine Ev.step (f := fun _ => some false) (fun k => ?_) (Ev.now _)
      simp only [spec_NorOk.l0]
      rw [if_pos g1, if_pos g2, rd_get w i (by omega), l1In_tell]
      simp only [Option.bind_some]
      rw [if_neg (by rw [decide_eq_true_eq]; exact hb)]
theorem specNorOk_ev (c w : List Int) (hw : w.length ≤ 1048576) : Ev (fun k => spec_NorOk.f k c w) (decide (norOkP c w)) := by
  unfold spec_NorOk.f
  rw [l1In_tell, wrap64_id (by omega) (by omega)]
  simp only [Option.bind_some]
  have bad : ¬ norOkP c w → Ev (fun k => spec_NorOk.j0 k true c w) (decide (norOkP c w)) := fun h => by
    rw [decide_eq_false h]
    exact Ev.step (f := fun _ => some false) (fun k => by simp [spec_NorOk.j0]) (Ev.now _)
  by_cases h : 1 ≤ (w.length : Int) ∧ (w.length : Int) ≤ 64
  · refine Ev.ifT (decide_eq_true h) ?_
    by_cases h2 : (c.length : Int) = 64 * (w.length : Int)
    · rw [show ((c.length : Int) != 64 * (w.length : Int)) = false by simp [h2]]
      have e := specNor_l0 c w (by omega) w.length 0 (by omega)
      have e2 : decide (norOkP c w) = !(w.drop 0).any badWear := by
        rw [Bool.eq_iff_iff, decide_eq_true_eq, Bool.not_eq_true', List.drop_zero]
        unfold norOkP
        constructor
        · intro q; exact q.2.2.1
        · intro q; exact ⟨by omega, by omega, q, by omega⟩
      rw [e2]
      exact Ev.step (fun k => by simp [spec_NorOk.j0]) e
    · rw [show ((c.length : Int) != 64 * (w.length : Int)) = true by simp [h2]]
      exact bad (fun q => h2 (by have := q.2.2.2; omega))
  · exact Ev.ifF (by rw [decide_eq_true_eq]; exact h) (bad (fun q => h ⟨by have := q.1; omega, by have := q.2.1; omega⟩))

theorem implNorBad_tell (x : Int) : impl_NorOk_1.f x = some (badWear x) := by
  unfold impl_NorOk_1.f badWear
  rw [in_tell]; rfl
theorem implNorOk_ev (c w : List Int) (hw : w.length ≤ 1048576) : Ev (fun k => impl_NorOk.f k c w) (decide (norOkP c w)) := by
  unfold impl_NorOk.f
  rw [in_tell, wrap64_id (by omega) (by omega)]
  simp only [Option.bind_some]
  by_cases h : 1 ≤ (w.length : Int) ∧ (w.length : Int) ≤ 64
  · refine Ev.ifT (decide_eq_true h) (Ev.bind (containsFunc_NorOk badWear w (by omega) (fun x _ => implNorBad_tell x) 0) ?_)
    by_cases hany : w.any badWear = true
    · rw [decide_eq_false (fun q : norOkP c w => by have := q.2.2.1; rw [hany] at this; cases this)]
      exact Ev.ifT hany (Ev.now _)
    · refine Ev.ifF hany (Ev.const ?_)
      congr 1
      rw [Bool.eq_iff_iff, decide_eq_true_eq, beq_iff_eq]
      unfold norOkP
      constructor
      · intro q; exact ⟨by omega, by omega, Bool.eq_false_iff.2 hany, by omega⟩
      · intro q; have := q.2.2.2; omega
  · rw [decide_eq_false (fun q : norOkP c w => h ⟨by have := q.1; omega, by have := q.2.1; omega⟩)]
    exact Ev.ifF (by rw [decide_eq_true_eq]; exact h) (Ev.now _)

/-! The sectors in which two NORs differ -/
def secOf (c : List Int) (a : Nat) : List Int := (c.take ((a + 1) * 64)).drop (a * 64)
theorem secOf_len (c : List Int) (a : Nat) (h : (a + 1) * 64 ≤ c.length) : (secOf c a).length = 64 := by
  unfold secOf
  simp
  omega
theorem secOf_mem (c : List Int) (a : Nat) : ∀ x ∈ secOf c a, x ∈ c := fun _ hx => List.mem_of_mem_take (List.mem_of_mem_drop hx)
theorem sectorOf_tell (c w : List Int) (a : Nat) (h : (a + 1) * 64 ≤ c.length) (ha : a ≤ 64) : impl_sectorOf.f c w (a : Int) = some (secOf c a) := by
  unfold impl_sectorOf.f secOf
  have w1 : wrap64 ((a : Int) * 64) = ((a * 64 : Nat) : Int) := by rw [wrap64_id (by omega) (by omega)]; simp
  have w2 : wrap64 ((a : Int) + 1) = ((a + 1 : Nat) : Int) := wrap64_succ (by clear w1; omega)
  have w3 : wrap64 (((a + 1 : Nat) : Int) * 64) = (((a + 1) * 64 : Nat) : Int) := by rw [wrap64_id (by clear w1 w2; omega) (by clear w1 w2; omega)]; simp
  rw [w1, w2, w3]
  clear w1 w2 w3
  rw [if_pos (by omega), if_pos (by omega), if_pos (by omega)]
  rfl
def differTo (c d : List Int) : Nat → List Int
  | 0 => []
  | t + 1 => if secOf c t = secOf d t then differTo c d t else differTo c d t ++ [(t : Int)]
theorem differTo_length (c d : List Int) : ∀ t, (differTo c d t).length ≤ t
  | 0 => Nat.le_refl _
  | t + 1 => by
    have := differTo_length c d t
    rw [differTo]
    split
    · omega
    · simp; omega
def differOf (c w d v : List Int) : List Int := if norOkP c w ∧ norOkP d v ∧ w.length = v.length then differTo c d w.length else []
theorem differOf_length (c w d v : List Int) : (differOf c w d v).length ≤ 64 := by
  unfold differOf
  split
  · rename_i h
    have := differTo_length c d w.length
    have := h.1.2.1
    omega
  · simp
theorem specDiffer_l0 (c w d v : List Int) (h : norOkP c w) (h2 : norOkP d v) (hl : w.length = v.length) : ∀ (q t : Nat), t + q = w.length → Ev (fun k => spec_Differ.l0 k (differTo c d t) (t : Int) c w d v) (differTo c d w.length)
  | 0, t, ht => by
    obtain rfl : t = w.length := by omega
    refine Ev.step (f := fun _ => some (differTo c d w.length)) (fun k => ?_) (Ev.now _)
    simp only [spec_Differ.l0]
    rw [if_neg (by omega)]
  | q + 1, t, ht => by
    have ih := specDiffer_l0 c w d v h h2 hl q (t + 1) (by omega)
    obtain ⟨a1, a2, a3, a4⟩ := id h
    obtain ⟨b1, b2, b3, b4⟩ := id h2
    have hlen := differTo_length c d t
    have s1 := secOf_len c t (by omega)
    have s2 := secOf_len d t (by omega)
    have e := specSame_tell (secOf c t) (secOf d t) (by omega)
    have w1 : wrap64 ((t : Int) * 64) = ((t * 64 : Nat) : Int) := by rw [wrap64_id (by omega) (by omega)]; simp
    have w2 : wrap64 (((t * 64 : Nat) : Int) + 64) = (((t + 1) * 64 : Nat) : Int) := by rw [wrap64_id (by clear w1; omega) (by clear w1; omega)]; clear w1; omega
    have w3 : wrap64 ((t : Int) + 1) = ((t + 1 : Nat) : Int) := wrap64_succ (by clear w1 w2; omega)
    have hj : Ev (fun k => (spec_Same.f k (secOf c t) (secOf d t)).bind fun t119 => (if t119 = true then (spec_Differ.l0 k (differTo c d t) ((t + 1 : Nat) : Int) c w d v) else (if (differTo c d t).length < 17592186044416 then (spec_Differ.l0 k (differTo c d t ++ [(t : Int)]) ((t + 1 : Nat) : Int) c w d v) else (none)))) (differTo c d w.length) := by
      refine Ev.bind e ?_
      rw [differTo] at ih
      by_cases z : secOf c t = secOf d t
      · rw [if_pos z] at ih
        exact Ev.ifT (decide_eq_true z) ih
      · rw [if_neg z] at ih
        exact Ev.ifF (by rw [decide_eq_true_eq]; exact z) (Ev.ifT (by clear w1 w2 w3; omega) ih)
    refine Ev.step (fun k => ?_) hj
    simp only [spec_Differ.l0]
    rw [if_pos (by clear w1 w2 w3; omega), w1, w2, w3, if_pos (by clear w1 w2 w3; omega), if_pos (by clear w1 w2 w3; omega), if_pos (by clear w1 w2 w3; omega), if_pos (by clear w1 w2 w3; omega), Int.toNat_natCast, Int.toNat_natCast]
    rfl
theorem specDiffer_ev (c w d v : List Int) (hw : w.length ≤ 1048576) (hv : v.length ≤ 1048576) : Ev (fun k => spec_Differ.f k c w d v) (differOf c w d v) := by
  unfold spec_Differ.f differOf
  have bad : Ev (fun k => spec_Differ.j0 k [] true c w d v) [] := by
    refine Ev.step (f := fun _ => some []) (fun k => ?_) (Ev.now _)
    simp only [spec_Differ.j0]
    rw [if_pos trivial]
  refine Ev.bindc rfl (Ev.bind (specNorOk_ev c w hw) ?_)
  by_cases h : norOkP c w
  · refine Ev.ifT (decide_eq_true h) (Ev.bind (specNorOk_ev d v hv) ?_)
    by_cases h2 : norOkP d v
    · refine Ev.ifT (decide_eq_true h2) ?_
      by_cases hl : w.length = v.length
      · rw [if_pos ⟨h, h2, hl⟩, show ((w.length : Int) != (v.length : Int)) = false by simp [hl]]
        refine Ev.step (fun k => ?_) (specDiffer_l0 c w d v h h2 hl w.length 0 (by omega))
        simp only [spec_Differ.j0]
        rw [if_neg Bool.false_ne_true]
        rfl
      · rw [if_neg (fun z => hl z.2.2), show ((w.length : Int) != (v.length : Int)) = true by simpa using fun z : (w.length : Int) = v.length => hl (by omega)]
        exact bad
    · rw [if_neg (fun z => h2 z.2.1)]
      exact Ev.ifF (by rw [decide_eq_true_eq]; exact h2) bad
  · rw [if_neg (fun z => h z.1)]
    exact Ev.ifF (by rw [decide_eq_true_eq]; exact h) bad
theorem implDiffer_l0 (c w d v : List Int) (hc8 : ∀ x ∈ c, 0 ≤ x ∧ x < 256) (hd8 : ∀ x ∈ d, 0 ≤ x ∧ x < 256) (h : norOkP c w) (h2 : norOkP d v) (hl : w.length = v.length) : ∀ (q t : Nat), t + q = w.length → Ev (fun k => impl_Differ.l0 k (differTo c d t) (w.length : Int) (t : Int) c w d v) (differTo c d w.length)
  | 0, t, ht => by
    obtain rfl : t = w.length := by omega
    refine Ev.step (f := fun _ => some (differTo c d w.length)) (fun k => ?_) (Ev.now _)
    simp only [impl_Differ.l0]
    rw [if_neg (by omega)]
  | q + 1, t, ht => by
    have ih := implDiffer_l0 c w d v hc8 hd8 h h2 hl q (t + 1) (by omega)
    obtain ⟨a1, a2, a3, a4⟩ := id h
    obtain ⟨b1, b2, b3, b4⟩ := id h2
    have hlen := differTo_length c d t
    have e1 := sectorOf_tell c w t (by omega) (by omega)
    have e2 := sectorOf_tell d v t (by omega) (by omega)
    have e : bytes_Equal.f (secOf c t) (secOf d t) = some (decide (secOf c t = secOf d t)) := by
      unfold bytes_Equal.f
      rw [strs_eq (fun x hx => hc8 x (secOf_mem c t x hx)) (fun x hx => hd8 x (secOf_mem d t x hx))]
    have w3 : wrap64 ((t : Int) + 1) = ((t + 1 : Nat) : Int) := wrap64_succ (by omega)
    refine Ev.step (fun k => ?_) ih
    simp only [impl_Differ.l0]
    rw [if_pos (by clear w3; omega), e1, Option.bind_some, e2, Option.bind_some, e, Option.bind_some, w3, differTo]
    by_cases z : secOf c t = secOf d t
    · rw [if_pos (decide_eq_true z), if_pos z]
    · rw [if_neg (by rw [decide_eq_true_eq]; exact z), if_neg z, if_pos (by clear w3; omega)]
theorem implDiffer_ev (c w d v : List Int) (hc8 : ∀ x ∈ c, 0 ≤ x ∧ x < 256) (hd8 : ∀ x ∈ d, 0 ≤ x ∧ x < 256) (hw : w.length ≤ 1048576) (hv : v.length ≤ 1048576) : Ev (fun k => impl_Differ.f k c w d v) (differOf c w d v) := by
  unfold impl_Differ.f differOf
  have bad : Ev (fun k => impl_Differ.j0 k true c w d v) [] := by
    refine Ev.step (f := fun _ => some []) (fun k => ?_) (Ev.now _)
    simp only [impl_Differ.j0]
    rw [if_pos trivial]
  refine Ev.bind (implNorOk_ev c w hw) ?_
  by_cases h : norOkP c w
  · refine Ev.ifT (decide_eq_true h) (Ev.bind (implNorOk_ev d v hv) ?_)
    by_cases h2 : norOkP d v
    · refine Ev.ifT (decide_eq_true h2) ?_
      by_cases hl : w.length = v.length
      · rw [if_pos ⟨h, h2, hl⟩, show ((w.length : Int) != (v.length : Int)) = false by simp [hl]]
        refine Ev.step (fun k => ?_) (implDiffer_l0 c w d v hc8 hd8 h h2 hl w.length 0 (by omega))
        simp only [impl_Differ.j0]
        rw [if_neg Bool.false_ne_true]
        rfl
      · rw [if_neg (fun z => hl z.2.2), show ((w.length : Int) != (v.length : Int)) = true by simpa using fun z : (w.length : Int) = v.length => hl (by omega)]
        exact bad
    · rw [if_neg (fun z => h2 z.2.1)]
      exact Ev.ifF (by rw [decide_eq_true_eq]; exact h2) bad
  · rw [if_neg (fun z => h z.1)]
    exact Ev.ifF (by rw [decide_eq_true_eq]; exact h) bad
theorem markNor_ev (c w : List Int) (m : Int) (hc : c.length ≤ 1048576) (hw : w.length ≤ 1048576) (h0 : 0 ≤ m) (h1 : m ≤ 1000000000000) : Ev (fun k => laws_markNor.f k c w m) (m + c.length + w.length, marksB m c, marksI (m + c.length) w) := by
  unfold laws_markNor.f
  exact Ev.bind (markByteS_ev c m (by omega) (by omega) (by omega)) (Ev.bind (markIntS_ev w (m + c.length) (by omega) (by omega) (by omega)) (Ev.now _))

theorem FnExactDiffer : ∀ (l0_0 : List Int) (l0_1 : List Int) (l1_0 : List Int) (l1_1 : List Int), l0_0.length ≤ maxLen → (∀ x ∈ l0_0, (Lit.int .u8 x).wf = true) → l0_1.length ≤ maxLen → (∀ x ∈ l0_1, (Lit.int .i64 x).wf = true) → l1_0.length ≤ maxLen → (∀ x ∈ l1_0, (Lit.int .u8 x).wf = true) → l1_1.length ≤ maxLen → (∀ x ∈ l1_1, (Lit.int .i64 x).wf = true) → ∃ k, laws_FnExactDiffer.f k l0_0 l0_1 l1_0 l1_1 = some true := by
  intro c w d v hc hc8 hw _ hd hd8 hv _
  unfold maxLen at hc hw hd hv
  have hc8 : ∀ x ∈ c, 0 ≤ x ∧ x < 256 := fun x hx => wf_u8 (hc8 x hx)
  have hd8 : ∀ x ∈ d, 0 ≤ x ∧ x < 256 := fun x hx => wf_u8 (hd8 x hx)
  refine Ev.rounds ?_
  unfold laws_FnExactDiffer.f
  refine Ev.bindc (szNor_tell c w 1048576 hc hw (by omega) (by omega)) ?_
  by_cases hl : (1048576 : Int) < (c.length : Int) + w.length
  · rw [if_pos hl]; exact Ev.ifT (by omega) (Ev.now _)
  rw [if_neg hl]
  refine Ev.ifF (by omega) ?_
  refine Ev.step (fun k => laws_FnExactDiffer.j0.eq_2 _ _ _ _ _ _) ?_
  refine Ev.bindc (szNor_tell d v _ hd hv (by omega) (by omega)) ?_
  by_cases hl2 : (1048576 : Int) - ((c.length : Int) + w.length) < (d.length : Int) + v.length
  · rw [if_pos (by omega)]; exact Ev.ifT (by omega) (Ev.now _)
  rw [if_neg (by omega)]
  refine Ev.ifF (by omega) ?_
  have t1 := toNor_ev c w (by omega) (by omega)
  have t2 := toNor_ev d v (by omega) (by omega)
  have e1 := eqNor_ev c w (by omega) (by omega)
  have e2 := eqNor_ev d v (by omega) (by omega)
  have m1 := markNor_ev c w 1 (by omega) (by omega) (by omega) (by omega)
  have m2 := markNor_ev d v (1 + c.length + w.length) (by omega) (by omega) (by omega) (by omega)
  have s := specDiffer_ev c w d v (by omega) (by omega)
  have i := implDiffer_ev c w d v hc8 hd8 (by omega) (by omega)
  have hg := differOf_length c w d v
  generalize differOf c w d v = g at *
  have eg := eqIntS_ev g (by omega)
  have mg := markIntS_ev g 1 (by omega) (by omega) (by omega)
  have hh := heldIntS_ev g 1 (by omega) (by omega) (by omega)
  refine Ev.step (fun k => laws_FnExactDiffer.j1.eq_2 _ _ _ _ _) (Ev.bind t1 (Ev.bind t2 (Ev.bind s (Ev.bind t1 (Ev.bind t2 (Ev.bind i (Ev.bind eg (Ev.ifT rfl ?_))))))))
  refine Ev.step (fun k => laws_FnExactDiffer.j2.eq_2 _ _ _ _ _ _ _ _ _ _ _) (Ev.bind t1 (Ev.bind e1 (Ev.ifT rfl ?_)))
  refine Ev.step (fun k => laws_FnExactDiffer.j3.eq_2 _ _ _ _ _ _ _ _ _ _ _) (Ev.bind t2 (Ev.bind e2 (Ev.ifT rfl ?_)))
  refine Ev.step (fun k => laws_FnExactDiffer.j4.eq_2 _ _ _ _ _ _ _ _ _ _ _) (Ev.bind m1 (Ev.bind m2 (Ev.ifF (by simp only []; omega) (Ev.bind eg ?_))))
  refine Ev.step (fun k => laws_FnExactDiffer.j5.eq_2 _ _ _ _ _ _ _ _) (Ev.ifF (by simp) ?_)
  refine Ev.step (fun k => laws_FnExactDiffer.j6.eq_2 _ _ _ _ _ _ _) (Ev.bind mg (Ev.bind hh (Ev.ifF (by omega) ?_)))
  refine Ev.step (fun k => laws_FnExactDiffer.j7.eq_2 _ _ _ _ _ _ _ _ _) (Ev.ifT rfl ?_)
  refine Ev.step (fun k => laws_FnExactDiffer.j8.eq_2 _ _ _ _ _ _ _ _) (Ev.bind t1 (Ev.bind t2 (Ev.bind i (Ev.bind eg (Ev.ifT rfl ?_)))))
  refine Ev.step (fun k => laws_FnExactDiffer.j9.eq_2 _ _ _) (Ev.bind hh (Ev.ifF (by omega) ?_))
  refine Ev.step (fun k => laws_FnExactDiffer.j10.eq_2 _ _ _) (Ev.ifT rfl (Ev.now _))

end Go.Proofs.Ytboefincoghbbad.Pure
