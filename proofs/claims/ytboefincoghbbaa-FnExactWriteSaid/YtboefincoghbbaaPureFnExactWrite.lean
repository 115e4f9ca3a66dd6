/- The plain law of FnExactWrite, over numbers and lists alone: what the printed functions answer is true for all arguments. Conditions: those of the arguments' kinds. -/
import Derived.Test.YtboefincoghbbaaQFnExactWritex4
import Derived.Test.YtboefincoghbbaaAid
set_option linter.unusedVariables false
set_option linter.unusedSimpArgs false
namespace Go.Proofs.Ytboefincoghbbaa.Pure
open Go.RowKit Go.Proofs.Ytboefincoghbbaa.Aid Go.Proofs.Ytboefincoghbbaa.QFnExactWrite Go.Proofs.YtboefincoghbbaaW.PrintWords Go.Proofs.YtboefincoghbbaaW.PrintLast Go.Proofs.YtboefincoghbbaaW.PrintMore
theorem in_tell (a b c : Int) : impl_in.f a b c = some (decide (b ≤ a ∧ a ≤ c)) := by
  unfold impl_in.f
  by_cases h : a ≥ b
  · rw [if_pos h]; congr 1; rw [Bool.eq_iff_iff]; simp only [decide_eq_true_eq]; omega
  · rw [if_neg h]; congr 1; symm; rw [decide_eq_false_iff_not]; omega

theorem l1In_tell (a b c : Int) : spec_l1In.f a b c = some (decide (b ≤ a ∧ a ≤ c)) := by
  unfold spec_l1In.f
  by_cases h : a ≥ b
  · rw [if_pos h]; congr 1; rw [Bool.eq_iff_iff]; simp only [decide_eq_true_eq]; omega
  · rw [if_neg h]; congr 1; symm; rw [decide_eq_false_iff_not]; omega

theorem div_zero_iff {h : Int} {p : Int} (hp : 1 ≤ p) (h0 : 0 ≤ h) : h / p = 0 ↔ h < p := by
  constructor
  · intro hz
    have := Int.lt_ediv_add_one_mul_self h (show (0 : Int) < p by omega)
    rw [hz] at this
    omega
  · intro hz
    exact Int.ediv_eq_zero_of_lt h0 hz

theorem szByteS_tell (l : List Int) (a : Int) (hl : l.length ≤ 9223372036854775807) (h0 : 0 ≤ a) (h1 : a ≤ 1048576) : laws_szByteS.f l a = some (if a < (l.length : Int) then -1 else a - l.length) := by
  unfold laws_szByteS.f
  rw [wrap64_id (by omega) (by omega)]
  by_cases h : a < (l.length : Int)
  · rw [if_pos (by omega), if_pos h]
  · rw [if_neg (by omega), if_neg h]

theorem toByteS_l0 (l : List Int) (hl : l.length ≤ 140737488351232) : ∀ (d : Nat) (x : List Int) (i : Nat), x.length = l.length → i + d = l.length → x.take i = l.take i → Ev (fun k => laws_toByteS.l0 k l x (i : Int)) l
  | 0, x, i, hx, hi, ht => by
    refine Ev.step (f := fun _ => some l) (fun k => ?_) (Ev.now _)
    simp only [laws_toByteS.l0]
    rw [if_neg (by omega)]
    congr 1
    rw [List.take_of_length_le (by omega), List.take_of_length_le (by omega)] at ht
    exact ht
  | d + 1, x, i, hx, hi, ht => by
    have ih := toByteS_l0 l hl d (x.set i (rd l i)) (i + 1) (by simpa using hx) (by omega) (by
      rw [List.take_succ_eq_append_getElem (by simp; omega), List.take_succ_eq_append_getElem (by omega), List.take_set_of_le (by omega), ht]
      simp [rd, List.getElem?_eq_getElem (show i < l.length by omega)])
    refine Ev.step (fun k => ?_) ih
    simp only [laws_toByteS.l0]
    rw [if_pos (by omega), if_pos (by omega), if_pos (by omega), wrap64_id (by omega) (by omega)]
    simp
theorem toByteS_ev (l : List Int) (hl : l.length ≤ 140737488351232) : Ev (fun k => laws_toByteS.f k l) l := by
  refine Ev.congr (fun k => ?_) (toByteS_l0 l hl l.length (List.replicate l.length 0) 0 (by simp) (by simp) (by simp))
  simp only [laws_toByteS.f]
  rw [if_pos (by omega), if_pos (by omega)]
  simp

theorem eqByteS_l0 (l : List Int) (hl : l.length ≤ 140737488351232) : ∀ (d : Nat) (i : Nat), i + d = l.length → Ev (fun k => laws_eqByteS.l0 k l l (i : Int)) true
  | 0, i, hi => by
    refine Ev.step (f := fun _ => some true) (fun k => ?_) (Ev.now _)
    simp only [laws_eqByteS.l0]
    rw [if_neg (by omega)]
  | d + 1, i, hi => by
    have ih := eqByteS_l0 l hl d (i + 1) (by omega)
    refine Ev.step (fun k => ?_) ih
    simp only [laws_eqByteS.l0]
    rw [if_pos (by omega), if_pos (by omega), if_pos (by omega), wrap64_id (by omega) (by omega)]
    simp
theorem eqByteS_ev (l : List Int) (hl : l.length ≤ 140737488351232) : Ev (fun k => laws_eqByteS.f k l l) true := by
  refine Ev.congr (fun k => ?_) (eqByteS_l0 l hl l.length 0 (by simp))
  simp only [laws_eqByteS.f]
  simp

def marksB : Int → List Int → List Int
  | _, [] => []
  | c, _ :: r => c % 256 :: marksB (c + 1) r
theorem marksB_length : ∀ (c : Int) (l : List Int), (marksB c l).length = l.length
  | _, [] => rfl
  | c, _ :: r => by simp [marksB, marksB_length (c + 1) r]
theorem marksB_again : ∀ (c : Int) (l : List Int), marksB c (marksB c l) = marksB c l
  | _, [] => rfl
  | c, _ :: r => by simp [marksB, marksB_again (c + 1) r]
theorem markByteS_l0 : ∀ (d : Nat) (x : List Int) (c : Int) (i : Nat), x.length ≤ 140737488355328 → i + d = x.length → 0 ≤ c → c + d ≤ 4611686018427387904 →
    Ev (fun k => laws_markByteS.l0 k x c (i : Int)) (c + d, x.take i ++ marksB c (x.drop i))
  | 0, x, c, i, hl, hi, hc, hc1 => by
    refine Ev.step (f := fun _ => some (c, x)) (fun k => ?_) (Ev.const ?_)
    · simp only [laws_markByteS.l0]
      rw [if_neg (by omega)]
    · rw [List.take_of_length_le (by omega), List.drop_of_length_le (by omega)]
      simp [marksB]
  | d + 1, x, c, i, hl, hi, hc, hc1 => by
    have ih := markByteS_l0 d (x.set i (c % 256)) (c + 1) (i + 1) (by simpa using hl) (by simp; omega) (by omega) (by omega)
    have e1 : (x.set i (c % 256)).take (i + 1) = x.take i ++ [c % 256] := by
      rw [List.take_succ_eq_append_getElem (by simp; omega), List.take_set_of_le (by omega)]; simp
    have e2 : (x.set i (c % 256)).drop (i + 1) = x.drop (i + 1) := by rw [List.drop_set]; simp
    have e3 : x.drop i = x[i]'(by omega) :: x.drop (i + 1) := List.drop_eq_getElem_cons (by omega)
    rw [e1, e2] at ih
    have e4 : (c + ((d + 1 : Nat) : Int), x.take i ++ marksB c (x.drop i)) = (c + 1 + (d : Int), x.take i ++ [c % 256] ++ marksB (c + 1) (x.drop (i + 1))) := by
      rw [e3]; simp [marksB]; omega
    rw [e4]
    refine Ev.step (fun k => ?_) ih
    simp only [laws_markByteS.l0]
    rw [if_pos (by omega), if_pos (by omega), wrap64_id (by omega) (by omega), wrap64_id (by omega) (by omega)]
    simp
theorem markByteS_ev (x : List Int) (c : Int) (hl : x.length ≤ 140737488355328) (hc : 0 ≤ c) (hc1 : c + x.length ≤ 4611686018427387904) : Ev (fun k => laws_markByteS.f k x c) (c + x.length, marksB c x) := by
  have := markByteS_l0 x.length x c 0 hl (by omega) hc hc1
  simpa [laws_markByteS.f] using this
theorem heldByteS_l0 : ∀ (d : Nat) (x : List Int) (c : Int) (i : Nat), x.length ≤ 140737488355328 → i + d = x.length → 0 ≤ c → c + d ≤ 4611686018427387904 → x.drop i = marksB c (x.drop i) →
    Ev (fun k => laws_heldByteS.l0 k x c (i : Int)) (c + d)
  | 0, x, c, i, hl, hi, hc, hc1, hm => by
    refine Ev.step (f := fun _ => some c) (fun k => ?_) (Ev.const (by simp))
    simp only [laws_heldByteS.l0]
    rw [if_neg (by omega)]
  | d + 1, x, c, i, hl, hi, hc, hc1, hm => by
    have e3 : x.drop i = x[i]'(by omega) :: x.drop (i + 1) := List.drop_eq_getElem_cons (by omega)
    rw [e3] at hm
    simp only [marksB, List.cons.injEq] at hm
    have ih := heldByteS_l0 d x (c + 1) (i + 1) hl (by omega) (by omega) (by omega) hm.2
    have e4 : c + ((d + 1 : Nat) : Int) = c + 1 + (d : Int) := by omega
    rw [e4]
    refine Ev.step (fun k => ?_) ih
    simp only [laws_heldByteS.l0]
    rw [if_pos (by omega), if_pos (by omega), if_pos (by rw [rd_get x i (by omega)]; exact hm.1), wrap64_id (by omega) (by omega), wrap64_id (by omega) (by omega)]
    simp
theorem heldByteS_ev (x : List Int) (c : Int) (hl : x.length ≤ 140737488355328) (hc : 0 ≤ c) (hc1 : c + x.length ≤ 4611686018427387904) : Ev (fun k => laws_heldByteS.f k (marksB c x) c) (c + x.length) := by
  have := heldByteS_l0 x.length (marksB c x) c 0 (by rw [marksB_length]; exact hl) (by rw [marksB_length]; omega) hc hc1 (by simp [marksB_again])
  simpa [laws_heldByteS.f] using this

theorem specPenOk_tell (l : List Int) (h c : Int) : spec_PenOk.f l h c = some (decide (0 ≤ c ∧ c ≤ 7 ∧ 0 ≤ h ∧ h < 2 ^ c.toNat)) := by
  unfold spec_PenOk.f
  rw [l1In_tell]
  simp only [Option.bind_some]
  by_cases hc : 0 ≤ c ∧ c ≤ 7
  · obtain ⟨n, rfl⟩ := Int.eq_ofNat_of_zero_le hc.1
    obtain ⟨b1, b2⟩ := pow_bounds (n := n) (m := 7) (by omega)
    rw [if_pos (by rw [decide_eq_true_eq]; exact hc)]
    rw [wrapU64_id (by omega) (by omega), if_pos (by omega : (0 : Int) ≤ (n : Int)), shr_i64 (by omega)]
    simp only [Int.toNat_natCast]
    by_cases hh : h ≥ 0
    · rw [if_pos hh]
      congr 1
      rw [Bool.eq_iff_iff, beq_iff_eq, decide_eq_true_eq, div_zero_iff b1 hh]
      omega
    · rw [if_neg hh]
      congr 1; symm; rw [decide_eq_false_iff_not]; omega
  · rw [if_neg (by rw [decide_eq_true_eq]; exact hc)]
    congr 1; symm; rw [decide_eq_false_iff_not]; omega
theorem implPenOk_tell (l : List Int) (h c : Int) : impl_PenOk.f l h c = some (decide (0 ≤ c ∧ c ≤ 7 ∧ 0 ≤ h ∧ h < 2 ^ c.toNat)) := by
  unfold impl_PenOk.f
  simp only [in_tell, Option.bind_some]
  by_cases hc : 0 ≤ c ∧ c ≤ 7
  · obtain ⟨n, rfl⟩ := Int.eq_ofNat_of_zero_le hc.1
    obtain ⟨b1, b2⟩ := pow_bounds (n := n) (m := 7) (by omega)
    rw [if_pos (by rw [decide_eq_true_eq]; exact hc), if_pos (by omega), shl_i64 (by omega) (by omega) (by omega), wrap64_id (by omega) (by omega)]
    simp only [Int.toNat_natCast]
    congr 1
    rw [Bool.eq_iff_iff, decide_eq_true_eq, decide_eq_true_eq]
    omega
  · rw [if_neg (by rw [decide_eq_true_eq]; exact hc)]
    congr 1; symm; rw [decide_eq_false_iff_not]; omega

theorem szPen_tell (l : List Int) (h c a : Int) (hl : l.length ≤ 9223372036854775807) (h0 : 0 ≤ a) (h1 : a ≤ 1048576) : laws_szPen.f l h c a = some (if a < (l.length : Int) then -1 else a - l.length) := by
  unfold laws_szPen.f
  rw [szByteS_tell l a hl h0 h1]
  simp only [Option.bind_some]
  by_cases q : a < (l.length : Int)
  · rw [if_pos q, if_pos (by omega)]
  · rw [if_neg q, if_neg (by omega)]
theorem toPen_ev (l : List Int) (h c : Int) (hl : l.length ≤ 1048576) : Ev (fun k => laws_toPen.f k l h c) (l, h, c) := Ev.bind (toByteS_ev l (by omega)) (Ev.now _)
theorem eqPen_ev (l : List Int) (h c : Int) (hl : l.length ≤ 140737488351232) : Ev (fun k => laws_eqPen.f k l h c l h c) true := by
  unfold laws_eqPen.f
  exact Ev.bind (eqByteS_ev l hl) (Ev.ifT rfl (Ev.ifT rfl (Ev.ifT rfl (Ev.now _))))
theorem markPen_ev (l : List Int) (h c m : Int) (hl : l.length ≤ 140737488351232) (hm : 0 ≤ m) (hm1 : m ≤ 1000000000000000000) : Ev (fun k => laws_markPen.f k l h c m) (m + l.length, marksB m l) := by
  unfold laws_markPen.f
  exact Ev.bind (markByteS_ev l m (by omega) hm (by omega)) (Ev.now _)

theorem clonePen_tell (l : List Int) (h c : Int) (hl : l.length < 140737488355328) : impl_clonePen.f l h c = some (l, h, c) := by
  simp only [impl_clonePen.f, slices_Clone_byte_byte.f, Option.bind_some, List.nil_append, List.length_nil, Nat.zero_add]
  rw [if_pos hl]
  rfl
/-- The lowest m bytes of a number, the lowest first. -/
def bytesN : Nat → Nat → List Int
  | 0, _ => []
  | m + 1, h => ((h % 256 : Nat) : Int) :: bytesN m (h / 256)
theorem bytesN_length : ∀ (m h : Nat), (bytesN m h).length = m
  | 0, _ => rfl
  | m + 1, h => by simp [bytesN, bytesN_length m]
theorem bytesN_last : ∀ (m h : Nat), bytesN (m + 1) h = bytesN m h ++ [((h / 256 ^ m % 256 : Nat) : Int)]
  | 0, h => by simp [bytesN]
  | m + 1, h => by
    rw [bytesN, bytesN_last m (h / 256), bytesN]
    simp only [List.cons_append, Nat.div_div_eq_div_mul, Nat.pow_succ, Nat.mul_comm]
theorem bytesN_add : ∀ (m h t : Nat), bytesN m (h + 256 ^ m * t) = bytesN m h
  | 0, _, _ => rfl
  | m + 1, h, t => by
    rw [bytesN, bytesN]
    have e : h + 256 ^ (m + 1) * t = h + 256 * (256 ^ m * t) := by rw [Nat.pow_succ, Nat.mul_comm (256 ^ m), Nat.mul_assoc]
    rw [e, Nat.add_mul_mod_self_left, Nat.add_mul_div_left _ _ (by decide), bytesN_add m]
/-- A pen to which bits are written: H has C bits, the first ones lie in the first bytes. -/
def penOut (l : List Int) (H C : Nat) : List Int × Int × Int := (l ++ bytesN (C / 8) H, ((H / 256 ^ (C / 8) : Nat) : Int), ((C % 8 : Nat) : Int))
theorem put_l0 : ∀ (m k : Nat) (x : List Int) (H r : Nat), r < 8 → m < k → x.length + m < 140737488355328 → m < 100 → impl_Pen_put.l0 k x (H : Int) ((8 * m + r : Nat) : Int) = some (x ++ bytesN m H, ((H / 256 ^ m : Nat) : Int), (r : Int))
  | 0, k + 1, x, H, r, hr, hk, hx, hm => by
    simp only [impl_Pen_put.l0]
    rw [if_neg (by omega)]
    simp [bytesN]
  | m + 1, k + 1, x, H, r, hr, hk, hx, hm => by
    simp only [impl_Pen_put.l0]
    rw [if_pos (by omega), if_pos (by omega)]
    have e1 : (H : Int) % 256 = ((H % 256 : Nat) : Int) := by simp
    have e2 : (H : Int) / 256 = ((H / 256 : Nat) : Int) := by simp
    have e3 : wrap64 (((8 * (m + 1) + r : Nat) : Int) - 8) = ((8 * m + r : Nat) : Int) := by rw [wrap64_id (by omega) (by omega)]; omega
    rw [e1, e2, e3, put_l0 m k _ _ r hr (by omega) (by simp; omega) (by omega)]
    simp only [bytesN, List.append_assoc, List.cons_append, List.nil_append, Nat.div_div_eq_div_mul, Nat.pow_succ, Nat.mul_comm]
def writeMay (h c v n : Int) : Prop := (0 ≤ c ∧ c ≤ 7 ∧ 0 ≤ h ∧ h < 2 ^ c.toNat) ∧ 0 ≤ n ∧ n ≤ 24 ∧ 0 ≤ v ∧ v < 2 ^ n.toNat
instance (h c v n : Int) : Decidable (writeMay h c v n) := by unfold writeMay; infer_instance
def writeOf (l : List Int) (h c v n : Int) : List Int × Int × Int := if writeMay h c v n then penOut l (h + v * 2 ^ c.toNat).toNat (c + n).toNat else (l, h, c)
theorem implWrite_tell (l : List Int) (h c v n : Int) (hl : l.length < 140737488355000) : impl_Write.f l h c v n = some (writeOf l h c v n) := by
  unfold impl_Write.f writeOf
  rw [clonePen_tell l h c (by omega), implPenOk_tell]
  simp only [Option.bind_some]
  by_cases hp : 0 ≤ c ∧ c ≤ 7 ∧ 0 ≤ h ∧ h < 2 ^ c.toNat
  · rw [if_pos (decide_eq_true hp), in_tell]
    simp only [Option.bind_some]
    by_cases hn : 0 ≤ n ∧ n ≤ 24
    · rw [if_pos (decide_eq_true hn), if_pos hn.1, in_tell]
      obtain ⟨N, rfl⟩ := Int.eq_ofNat_of_zero_le hn.1
      obtain ⟨C, rfl⟩ := Int.eq_ofNat_of_zero_le hp.1
      obtain ⟨b1, b2⟩ := pow_bounds (n := N) (m := 24) (by omega)
      obtain ⟨b3, b4⟩ := pow_bounds (n := C) (m := 7) (by omega)
      rw [shl_i64 (by omega) (by omega) (by omega), wrap64_id (by omega) (by omega)]
      simp only [Option.bind_some, Int.toNat_natCast] at *
      by_cases hv : 0 ≤ v ∧ v < 2 ^ N
      · rw [if_pos (decide_eq_true (by omega)), if_pos ⟨by simpa using hp, by omega, by omega, hv.1, by simpa using hv.2⟩]
        unfold impl_Pen_put.f
        obtain ⟨V, rfl⟩ := Int.eq_ofNat_of_zero_le hv.1
        obtain ⟨H, rfl⟩ := Int.eq_ofNat_of_zero_le hp.2.2.1
        have hb : (V : Int) * 2 ^ C < 2147483648 := by
          have h1 : (V : Int) * 2 ^ C ≤ 16777215 * 2 ^ C := Int.mul_le_mul_of_nonneg_right (by omega) (by omega)
          omega
        have h0 : 0 ≤ (V : Int) * 2 ^ C := Int.mul_nonneg (by omega) (by omega)
        rw [if_pos (by omega), shl_i64 (by omega) (by omega) (by omega), or_low C (by omega) (by omega) (by omega) h0 (Int.mul_emod_left _ _) (by omega), wrap64_id (by omega) (by omega)]
        have eH : (H : Int) + (V : Int) * 2 ^ C = ((H + V * 2 ^ C : Nat) : Int) := by simp
        rw [eH, ← Int.natCast_add, Int.toNat_natCast, Int.toNat_natCast]
        have ed : C + N = 8 * ((C + N) / 8) + (C + N) % 8 := (Nat.div_add_mod _ _).symm
        conv => lhs; rw [ed]
        rw [put_l0 ((C + N) / 8) 6 l _ ((C + N) % 8) (Nat.mod_lt _ (by decide)) (by omega) (by omega) (by omega)]
        rfl
      · rw [if_neg (by rw [decide_eq_true_eq]; omega), if_neg (fun hh => hv ⟨hh.2.2.2.1, by simpa using hh.2.2.2.2⟩)]
    · rw [if_neg (by rw [decide_eq_true_eq]; exact hn), if_neg (fun hh => hn ⟨hh.2.1, hh.2.2.1⟩)]
  · rw [if_neg (by rw [decide_eq_true_eq]; exact hp), if_neg (fun hh => hp hh.1)]

theorem penOut_length (l : List Int) (H C : Nat) : (penOut l H C).1.length = l.length + C / 8 := by simp [penOut, bytesN_length]
/-- One bit more. -/
theorem penOut_bit (l : List Int) (H C b : Nat) (hH : H < 2 ^ C) (hb : b < 2) :
    penOut l (H + b * 2 ^ C) (C + 1) = if C % 8 + 1 = 8 then ((penOut l H C).1 ++ [(((H / 256 ^ (C / 8) + b * 2 ^ (C % 8)) % 256 : Nat) : Int)], 0, 0)
      else ((penOut l H C).1, ((H / 256 ^ (C / 8) + b * 2 ^ (C % 8) : Nat) : Int), ((C % 8 + 1 : Nat) : Int)) := by
  have e256 : ∀ m : Nat, (256 : Nat) ^ m = 2 ^ (8 * m) := fun m => by rw [Nat.pow_mul]
  obtain ⟨m, r, hr, rfl⟩ : ∃ m r, r < 8 ∧ C = 8 * m + r := ⟨C / 8, C % 8, Nat.mod_lt _ (by decide), (Nat.div_add_mod _ _).symm⟩
  have d1 : (8 * m + r) / 8 = m := by omega
  have d2 : (8 * m + r) % 8 = r := by omega
  have ep : b * 2 ^ (8 * m + r) = 256 ^ m * (b * 2 ^ r) := by rw [e256, Nat.pow_add, ← Nat.mul_assoc, Nat.mul_comm b, Nat.mul_assoc]
  have ed : (H + b * 2 ^ (8 * m + r)) / 256 ^ m = H / 256 ^ m + b * 2 ^ r := by rw [ep, Nat.add_mul_div_left _ _ (Nat.pow_pos (by decide))]
  unfold penOut
  rw [d1, d2]
  by_cases h8 : r + 1 = 8
  · obtain rfl : r = 7 := by omega
    rw [if_pos h8]
    have d3 : (8 * m + 7 + 1) / 8 = m + 1 := by omega
    have d4 : (8 * m + 7 + 1) % 8 = 0 := by omega
    rw [d3, d4, bytesN_last, ed]
    have e0 : (H + b * 2 ^ (8 * m + 7)) / 256 ^ (m + 1) = 0 := by
      refine Nat.div_eq_of_lt ?_
      have hp : (256 : Nat) ^ (m + 1) = 2 ^ (8 * m + 7) * 2 := by rw [e256, ← Nat.pow_succ]; congr 1
      rw [hp]
      clear ep ed hp
      have hq : b * 2 ^ (8 * m + 7) ≤ 1 * 2 ^ (8 * m + 7) := Nat.mul_le_mul_right _ (by omega)
      generalize b * 2 ^ (8 * m + 7) = z at hq
      generalize 2 ^ (8 * m + 7) = y at hq hH ⊢
      omega
    rw [e0, ep, bytesN_add]
    simp
  · rw [if_neg h8]
    have d3 : (8 * m + r + 1) / 8 = m := by omega
    have d4 : (8 * m + r + 1) % 8 = r + 1 := by omega
    rw [d3, d4, ed, ep, bytesN_add]
theorem bit_word (v i : Nat) (hi : i < 24) : Int.tmod (shr .i64 (v : Int) (IntKind.u64.wrap (i : Int))) 2 = ((v / 2 ^ i % 2 : Nat) : Int) := by
  rw [wrapU64_id (by omega) (by omega), shr_i64 (by omega)]
  have : (v : Int) / 2 ^ i = ((v / 2 ^ i : Nat) : Int) := by simp
  rw [this, Int.tmod_eq_emod_of_nonneg (Int.natCast_nonneg _)]
  simp
theorem bit_put (b r q : Nat) (hb : b < 2) (hr : r < 8) (hq : q < 2147483648) : wrap64 ((q : Int) + shl .i64 (b : Int) (IntKind.u64.wrap (r : Int))) = ((q + b * 2 ^ r : Nat) : Int) := by
  obtain ⟨b1, b2⟩ := pow_bounds (n := r) (m := 7) (by omega)
  have hb2 : (b : Int) * 2 ^ r ≤ 1 * 2 ^ r := Int.mul_le_mul_of_nonneg_right (by omega) (by omega)
  have hb3 : 0 ≤ (b : Int) * 2 ^ r := Int.mul_nonneg (by omega) (by omega)
  rw [wrapU64_id (by omega) (by omega), shl_i64 (by omega) (by omega) (by omega), wrap64_id (by omega) (by omega)]
  simp
theorem specWrite_step (k v n i q r : Nat) (y : List Int) (hi : i < n) (hn : n ≤ 24) (hr : r < 8) (hq : q < 2147483648) (hy : y.length < 140737488355328) :
    spec_Write.l0 (k + 1) (v : Int) (n : Int) (i : Int) y (q : Int) (r : Int) = if r + 1 = 8 then spec_Write.l0 k (v : Int) (n : Int) ((i + 1 : Nat) : Int) (y ++ [(((q + v / 2 ^ i % 2 * 2 ^ r) % 256 : Nat) : Int)]) 0 0
      else spec_Write.l0 k (v : Int) (n : Int) ((i + 1 : Nat) : Int) y ((q + v / 2 ^ i % 2 * 2 ^ r : Nat) : Int) ((r + 1 : Nat) : Int) := by
  simp only [spec_Write.l0]
  have e7 : 0 ≤ IntKind.u64.wrap (i : Int) := by rw [wrapU64_id (by omega) (by omega)]; omega
  have e8 : 0 ≤ IntKind.u64.wrap (r : Int) := by rw [wrapU64_id (by omega) (by omega)]; omega
  have hlt2 : (i : Int) < (n : Int) := by omega
  rw [if_pos hlt2, if_pos e7, if_pos e8]
  clear e7 e8
  rw [bit_word v i (by omega), bit_put _ r q (Nat.mod_lt _ (by decide)) hr hq, wrap64_succ (by omega), wrap64_succ (by omega)]
  by_cases h8 : r + 1 = 8
  · rw [if_pos (by omega), if_pos (by omega), if_pos h8]
    simp
  · rw [if_neg (by omega), if_neg h8]
theorem specWrite_l0 (v n : Nat) (hn : n ≤ 24) (l : List Int) (hl : l.length < 140737488355000) (h c : Nat) (hc : c ≤ 7) (hh : h < 2 ^ c) : ∀ (d i : Nat), i + d = n →
    Ev (fun k => spec_Write.l0 k v n (i : Int) (penOut l (h + v % 2 ^ i * 2 ^ c) (c + i)).1 (penOut l (h + v % 2 ^ i * 2 ^ c) (c + i)).2.1 (penOut l (h + v % 2 ^ i * 2 ^ c) (c + i)).2.2) (penOut l (h + v % 2 ^ n * 2 ^ c) (c + n))
  | 0, i, hi => by
    obtain rfl : i = n := by omega
    refine Ev.step (f := fun _ => some (penOut l (h + v % 2 ^ i * 2 ^ c) (c + i))) (fun k => ?_) (Ev.now _)
    simp only [spec_Write.l0]
    rw [if_neg (by omega)]
  | d + 1, i, hi => by
    have ih := specWrite_l0 v n hn l hl h c hc hh d (i + 1) (by omega)
    refine Ev.step (fun k => ?_) ih
    have hlt : v % 2 ^ i < 2 ^ i := Nat.mod_lt _ (Nat.two_pow_pos i)
    have hH : h + v % 2 ^ i * 2 ^ c < 2 ^ (c + i) := by
      have h1 : (v % 2 ^ i + 1) * 2 ^ c ≤ 2 ^ i * 2 ^ c := Nat.mul_le_mul_right _ hlt
      rw [Nat.add_mul] at h1
      rw [Nat.pow_add, Nat.mul_comm (2 ^ c)]
      omega
    have hbit : v / 2 ^ i % 2 < 2 := Nat.mod_lt _ (by decide)
    have hmod : v % 2 ^ (i + 1) = v % 2 ^ i + 2 ^ i * (v / 2 ^ i % 2) := Nat.mod_pow_succ
    have eH : h + v % 2 ^ (i + 1) * 2 ^ c = h + v % 2 ^ i * 2 ^ c + v / 2 ^ i % 2 * 2 ^ (c + i) := by
      rw [hmod, Nat.add_mul, Nat.pow_add, Nat.mul_comm (2 ^ i) (v / 2 ^ i % 2), Nat.mul_assoc, Nat.mul_comm (2 ^ i) (2 ^ c), Nat.add_assoc]
    have key := penOut_bit l (h + v % 2 ^ i * 2 ^ c) (c + i) (v / 2 ^ i % 2) hH hbit
    rw [eH, ← Nat.add_assoc c i 1, key]
    have hq : (h + v % 2 ^ i * 2 ^ c) / 256 ^ ((c + i) / 8) < 2147483648 :=
      Nat.lt_of_le_of_lt (Nat.div_le_self _ _) (Nat.lt_of_lt_of_le hH (show 2 ^ (c + i) ≤ 2 ^ 31 from Nat.pow_le_pow_right (by decide) (by omega)))
    have hr : (c + i) % 8 < 8 := Nat.mod_lt _ (by decide)
    have hy : (penOut l (h + v % 2 ^ i * 2 ^ c) (c + i)).1.length < 140737488355328 := by rw [penOut_length]; omega
    have := specWrite_step k v n i _ _ _ (by omega) hn hr hq hy
    refine Eq.trans this ?_
    split <;> rfl
theorem specPen_tell (l : List Int) (h c : Int) (hl : l.length < 140737488355328) : spec_l3Pen.f l h c = some (l, h, c) := by
  simp only [spec_l3Pen.f, Option.bind_some, List.nil_append, List.length_nil, Nat.zero_add]
  rw [if_pos hl]
theorem specWrite_ev (l : List Int) (h c v n : Int) (hl : l.length < 140737488355000) (hv63 : v < 9223372036854775808) (hn64 : -9223372036854775808 ≤ n ∧ n < 9223372036854775808) : Ev (fun k => spec_Write.f k l h c v n) (writeOf l h c v n) := by
  unfold spec_Write.f
  refine Ev.bindc (specPen_tell l h c (by omega)) (Ev.bindc (specPenOk_tell l h c) ?_)
  simp only
  unfold writeOf
  by_cases hp : 0 ≤ c ∧ c ≤ 7 ∧ 0 ≤ h ∧ h < 2 ^ c.toNat
  · refine Ev.ifT (decide_eq_true hp) (Ev.bindc (l1In_tell n 0 24) ?_)
    by_cases hn : 0 ≤ n ∧ n ≤ 24
    · refine Ev.ifT (decide_eq_true hn) ?_
      obtain ⟨N, rfl⟩ := Int.eq_ofNat_of_zero_le hn.1
      by_cases hv0 : v < 0
      · refine Ev.ifT hv0 ?_
        rw [if_neg (fun hh => by have := hh.2.2.2.1; omega)]
        refine Ev.step (f := fun _ => some (l, h, c)) (fun k => ?_) (Ev.now _)
        simp only [spec_Write.j0]
        rfl
      · obtain ⟨V, rfl⟩ := Int.eq_ofNat_of_zero_le (show 0 ≤ v by omega)
        obtain ⟨b1, b2⟩ := pow_bounds (n := N) (m := 24) (by omega)
        have e0 : IntKind.u64.wrap (N : Int) = (N : Int) := wrapU64_id (by omega) (by omega)
        refine Ev.ifF hv0 (Ev.ifT (by rw [e0]; omega) ?_)
        rw [e0, shr_i64 (by omega)]
        clear e0
        by_cases hz : (V : Int) / 2 ^ N = 0
        · have hvl : (V : Int) < 2 ^ N := (div_zero_iff (by omega) (by omega)).1 hz
          rw [hz, if_pos ⟨hp, by omega, by omega, by omega, by simpa using hvl⟩]
          obtain ⟨C, rfl⟩ := Int.eq_ofNat_of_zero_le hp.1
          obtain ⟨H, rfl⟩ := Int.eq_ofNat_of_zero_le hp.2.2.1
          have hH : H < 2 ^ C := by have := hp.2.2.2; simp at this; exact_mod_cast this
          have hV : V < 2 ^ N := by exact_mod_cast hvl
          have hV24 : V < 2 ^ 24 := Nat.lt_of_lt_of_le hV (Nat.pow_le_pow_right (by decide) (by omega))
          have := specWrite_l0 V N (by omega) l (by omega) H C (by omega) hH N 0 (by omega)
          rw [Nat.mod_eq_of_lt hV] at this
          simp only [Nat.pow_zero, Nat.mod_one, Nat.zero_mul, Nat.add_zero] at this
          have e1 : penOut l H C = (l, (H : Int), (C : Int)) := by
            have hC8 : C / 8 = 0 := by omega
            unfold penOut
            rw [hC8, show C % 8 = C by omega]
            simp [bytesN]
          rw [e1] at this
          have e2 : ((H : Int) + (V : Int) * 2 ^ ((C : Int)).toNat).toNat = H + V * 2 ^ C := by
            rw [Int.toNat_natCast]
            have : (H : Int) + (V : Int) * 2 ^ C = ((H + V * 2 ^ C : Nat) : Int) := by simp
            rw [this, Int.toNat_natCast]
          have e3 : ((C : Int) + (N : Int)).toNat = C + N := by omega
          rw [e2, e3]
          refine Ev.step (fun k => ?_) this
          simp only [spec_Write.j0]
          rfl
        · rw [if_neg (fun hh => hz ((div_zero_iff (by omega) (by omega)).2 (by simpa using hh.2.2.2.2)))]
          refine Ev.step (f := fun _ => some (l, h, c)) (fun k => ?_) (Ev.now _)
          simp only [spec_Write.j0]
          rw [if_pos (by simpa using hz)]
    · refine Ev.ifF (by rw [decide_eq_true_eq]; exact hn) ?_
      rw [if_neg (fun hh => hn ⟨hh.2.1, hh.2.2.1⟩)]
      refine Ev.step (f := fun _ => some (l, h, c)) (fun k => ?_) (Ev.now _)
      simp only [spec_Write.j0]
      rfl
  · refine Ev.ifF (by rw [decide_eq_true_eq]; exact hp) ?_
    rw [if_neg (fun hh => hp hh.1)]
    refine Ev.step (f := fun _ => some (l, h, c)) (fun k => ?_) (Ev.now _)
    simp only [spec_Write.j0]
    rfl

theorem heldPen_ev (l : List Int) (h c m : Int) (hl : l.length ≤ 140737488351232) (hm : 0 ≤ m) (hm1 : m ≤ 1000000000000000000) : Ev (fun k => laws_heldPen.f k (marksB m l) h c m) (m + l.length) := by
  unfold laws_heldPen.f
  exact Ev.bind (heldByteS_ev l m (by omega) hm (by omega)) (Ev.ifF (by omega) (Ev.now _))

theorem writeOf_len (l : List Int) (h c v n : Int) : (writeOf l h c v n).1.length ≤ l.length + 8 := by
  unfold writeOf
  split
  · rename_i hm
    rw [penOut_length]
    have h1 := hm.1.2.1
    have h2 := hm.2.2.1
    omega
  · simp
theorem FnExactWrite : ∀ (l0_0 : List Int) (a0_1 : Int) (a0_2 : Int) (a1 : Int) (a2 : Int), l0_0.length ≤ maxLen → (∀ x ∈ l0_0, (Lit.int .u8 x).wf = true) → (Lit.int .i64 a0_1).wf = true → (Lit.int .i64 a0_2).wf = true → (Lit.int .i64 a1).wf = true → (Lit.int .i64 a2).wf = true → ∃ k, laws_FnExactWrite.f k l0_0 a0_1 a0_2 a1 a2 = some true := by
  intro l h c v n hm _ _ _ hv hn
  have hv1 := wf_i64 hv
  have hn1 := wf_i64 hn
  clear hv hn
  unfold maxLen at hm
  refine Ev.rounds ?_
  unfold laws_FnExactWrite.f
  refine Ev.bindc (szPen_tell l h c 1048576 hm (by omega) (by omega)) ?_
  by_cases hl : (1048576 : Int) < (l.length : Int)
  · rw [if_pos hl]; exact Ev.ifT (by omega) (Ev.now _)
  · rw [if_neg hl]
    have t := toPen_ev l h c (by omega)
    have s := specWrite_ev l h c v n (by omega) hv1.2 hn1
    have i := implWrite_tell l h c v n (by omega)
    have e0 := eqPen_ev l h c (by omega)
    have m0 := markPen_ev l h c 1 (by omega) (by omega) (by omega)
    have hg := writeOf_len l h c v n
    generalize writeOf l h c v n = g at *
    obtain ⟨y, p, q⟩ := g
    simp only at hg
    have e := eqPen_ev y p q (by omega)
    have m := markPen_ev y p q 1 (by omega) (by omega) (by omega)
    have hd := heldPen_ev y p q 1 (by omega) (by omega) (by omega)
    refine Ev.ifF (by omega) ?_
    refine Ev.step (fun k => by simp only [laws_FnExactWrite.j0]; rfl) (Ev.bind t (Ev.bind s (Ev.bind t (Ev.bindc i (Ev.bind e (Ev.ifT rfl ?_))))))
    refine Ev.step (fun k => by simp only [laws_FnExactWrite.j1]; rfl) (Ev.bind t (Ev.bind e0 (Ev.ifT rfl ?_)))
    refine Ev.step (fun k => by simp only [laws_FnExactWrite.j2]; rfl) (Ev.bind m0 (Ev.ifF (show ¬ (1 + (l.length : Int)) < 0 by omega) (Ev.bind e ?_)))
    refine Ev.step (fun k => by simp only [laws_FnExactWrite.j3]; rfl) (Ev.ifF (by simp) ?_)
    refine Ev.step (fun k => by simp only [laws_FnExactWrite.j4]; rfl) (Ev.bind m (Ev.bind hd (Ev.ifF (show ¬ (1 + (y.length : Int)) < 0 by omega) ?_)))
    refine Ev.step (fun k => by simp only [laws_FnExactWrite.j5]; rfl) (Ev.ifT (show (1 + (y.length : Int)) = 1 + (y.length : Int) from rfl) ?_)
    refine Ev.step (fun k => by simp only [laws_FnExactWrite.j6]; rfl) (Ev.bind t (Ev.bindc i (Ev.bind e (Ev.ifT rfl ?_))))
    exact Ev.step (fun k => by simp only [laws_FnExactWrite.j7]; rfl) (Ev.bind hd (Ev.ifF (show ¬ (1 + (y.length : Int)) < 0 by omega) (Ev.ifT rfl (Ev.now _))))

end Go.Proofs.Ytboefincoghbbaa.Pure
