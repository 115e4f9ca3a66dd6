/- The plain law of FnBits, over numbers and lists alone: what the printed functions answer is true for all arguments. Conditions: those of the arguments' kinds. -/
import Derived.Test.YtboefincoghbbabQFnBitsx4
import Derived.Test.YtboefincoghbbabAid
set_option linter.unusedVariables false
set_option linter.unusedSimpArgs false
namespace Go.Proofs.Ytboefincoghbbab.Pure
open Go.RowKit Go.Proofs.Ytboefincoghbbab.Aid Go.Proofs.Ytboefincoghbbab.QFnBits Go.Proofs.YtboefincoghbbabW.PrintWords Go.Proofs.YtboefincoghbbabW.PrintLast Go.Proofs.YtboefincoghbbabW.PrintMore
theorem in_tell (a b c : Int) : impl_in.f a b c = some (decide (b ≤ a ∧ a ≤ c)) := by
  unfold impl_in.f
  by_cases h : a ≥ b
  · rw [if_pos h]; congr 1; rw [Bool.eq_iff_iff]; simp only [decide_eq_true_eq]; omega
  · rw [if_neg h]; congr 1; symm; rw [decide_eq_false_iff_not]; omega

theorem div_zero_iff {h : Int} {p : Int} (hp : 1 ≤ p) (h0 : 0 ≤ h) : h / p = 0 ↔ h < p := by
  constructor
  · intro hz
    have := Int.lt_ediv_add_one_mul_self h (show (0 : Int) < p by omega)
    rw [hz] at this
    omega
  · intro hz
    exact Int.ediv_eq_zero_of_lt h0 hz

theorem implPenOk_tell (l : List Int) (h c : Int) : impl_PenOk.f l h c = some (decide (0 ≤ c ∧ c ≤ 7 ∧ 0 ≤ h ∧ h < 2 ^ c.toNat)) := by
  unfold impl_PenOk.f
  simp only [in_tell, Option.bind_some]
  by_cases hc : 0 ≤ c ∧ c ≤ 7
  · obtain ⟨n, rfl⟩ := Int.eq_ofNat_of_zero_le hc.1
    obtain ⟨b1, b2⟩ := pow_bounds (n := n) (m := 7) (by omega)
    rw [if_pos (by rw [decide_eq_true_eq]; exact hc), if_pos (by omega), shl_i64 (by omega) (by omega) (by omega), wrap64_id (by omega) (by omega)]
    simp only [Int.toNat_natCast]
    congr 1
    rw [Bool.eq_iff_iff, decide_eq_true_eq, decide_eq_true_eq]
    omega
  · rw [if_neg (by rw [decide_eq_true_eq]; exact hc)]
    congr 1; symm; rw [decide_eq_false_iff_not]; omega

theorem implBitsOk_tell (h c : Int) : impl_BitsOk.f h c = some (decide (0 ≤ c ∧ c ≤ 32 ∧ 0 ≤ h ∧ h < 2 ^ c.toNat)) := by
  unfold impl_BitsOk.f
  simp only [in_tell, Option.bind_some]
  by_cases hc : 0 ≤ c ∧ c ≤ 32
  · obtain ⟨n, rfl⟩ := Int.eq_ofNat_of_zero_le hc.1
    obtain ⟨b1, b2⟩ := pow_bounds (n := n) (m := 32) (by omega)
    rw [if_pos (by rw [decide_eq_true_eq]; exact hc), if_pos (by omega), shl_i64 (by omega) (by omega) (by omega), wrap64_id (by omega) (by omega)]
    simp only [Int.toNat_natCast]
    congr 1
    rw [Bool.eq_iff_iff, decide_eq_true_eq, decide_eq_true_eq]
    omega
  · rw [if_neg (by rw [decide_eq_true_eq]; exact hc)]
    congr 1; symm; rw [decide_eq_false_iff_not]; omega

/-- The bit at a place of the bytes' row of bits. -/
def bitAt (l : List Int) (j : Nat) : Int := l.getD (j / 8) 0 / 2 ^ (j % 8) % 2
/-- So many bits from a place on, as a number, the first one lowest. -/
def bitVal (l : List Int) : Nat → Nat → Int
  | _, 0 => 0
  | s, c + 1 => bitAt l s + 2 * bitVal l (s + 1) c
theorem bitAt_01 (l : List Int) (j : Nat) : 0 ≤ bitAt l j ∧ bitAt l j ≤ 1 := by unfold bitAt; omega
theorem bitVal_lt (l : List Int) : ∀ (c s : Nat), 0 ≤ bitVal l s c ∧ bitVal l s c < 2 ^ c
  | 0, _ => by simp [bitVal]
  | c + 1, s => by
    have ih := bitVal_lt l c (s + 1)
    have b := bitAt_01 l s
    simp only [bitVal]
    rw [Int.pow_succ]
    omega
theorem bitVal_snoc (l : List Int) : ∀ (c s : Nat), bitVal l s (c + 1) = bitVal l s c + bitAt l (s + c) * 2 ^ c
  | 0, s => by simp [bitVal]
  | c + 1, s => by
    have ih := bitVal_snoc l c (s + 1)
    have e : bitVal l s (c + 1 + 1) = bitAt l s + 2 * bitVal l (s + 1) (c + 1) := rfl
    have e2 : bitVal l s (c + 1) = bitAt l s + 2 * bitVal l (s + 1) c := rfl
    rw [e, ih, e2, Int.pow_succ, show s + 1 + c = s + (c + 1) by omega, ← Int.mul_assoc]
    generalize bitAt l (s + (c + 1)) * 2 ^ c = q
    omega

theorem implReadBits_l0 (l : List Int) (h8 : ∀ x ∈ l, 0 ≤ x ∧ x < 256) (hl : l.length ≤ 140737488351232) (s n : Nat) (hn : n ≤ 24) (hs : s + n ≤ 8 * l.length) : ∀ (d k : Nat), k + d = n → Ev (fun q => impl_ReadBits.l0 q l (s : Int) (bitVal l s k) (n : Int) (k : Int)) (bitVal l s n, 0)
  | 0, k, hk => by
    obtain rfl : k = n := by omega
    refine Ev.step (f := fun _ => some (bitVal l s k, 0)) (fun k' => ?_) (Ev.now _)
    simp only [impl_ReadBits.l0]
    rw [if_neg (by omega)]
  | d + 1, k, hk => by
    have ih := implReadBits_l0 l h8 hl s n hn hs d (k + 1) (by omega)
    rw [bitVal_snoc] at ih
    have v := bitVal_lt l k s
    obtain ⟨p1, p2⟩ := pow_bounds (n := k) (m := 24) (by omega)
    have bb := bitAt_01 l (s + k)
    have b := rd_all (P := fun x => 0 ≤ x ∧ x < 256) h8 (by omega) (((s + k) / 8 : Nat) : Int)
    have hm : ∀ x, Go.bits .and .i64 x 1 = x % 2 := fun x => and_mask 1 (by decide) x
    have m0 : 0 ≤ bitAt l (s + k) * 2 ^ k := Int.mul_nonneg bb.1 (by omega)
    have m1 : bitAt l (s + k) * 2 ^ k ≤ 1 * 2 ^ 24 := Int.mul_le_mul bb.2 p2 (by omega) (by omega)
    have e1 : wrap64 ((s : Int) + (k : Int)) = ((s + k : Nat) : Int) := by rw [wrap64_id (by omega) (by omega)]; omega
    have e2 : (rd l (((s + k) / 8 : Nat) : Int)) / 2 ^ ((s + k) % 8) % 2 = bitAt l (s + k) := by rw [rd_nat]; rfl
    have g3 : (((s + k) / 8 : Nat) : Int) < (l.length : Int) := by clear e1; omega
    refine Ev.step (fun k' => ?_) ih
    simp only [impl_ReadBits.l0]
    rw [e1]
    clear e1
    rw [Int.tdiv_eq_ediv_of_nonneg (a := ((s + k : Nat) : Int)) (by omega), Int.tmod_eq_emod_of_nonneg (a := ((s + k : Nat) : Int)) (by omega), show (((s + k : Nat) : Int) / 8) = (((s + k) / 8 : Nat) : Int) by omega, show (((s + k : Nat) : Int) % 8) = (((s + k) % 8 : Nat) : Int) by omega]
    rw [wrap64_id (n := (((s + k) / 8 : Nat) : Int)) (by omega) (by omega)]
    rw [if_pos (by omega), if_pos (by omega), if_pos g3, if_pos (by omega), if_pos (by omega), wrap64_id (n := rd l _) (by omega) (by omega), shr_i64 (by omega), hm, e2, shl_i64 (by omega) (by omega) (by omega), wrap64_id (n := (k : Int) + 1) (by omega) (by omega)]
    rw [or_low (x := bitVal l s k) (y := bitAt l (s + k) * 2 ^ k) k (by omega) (by omega) (by omega) (by omega) (Int.mul_emod_left _ _) (by omega)]
    simp

def readR (l : List Int) (at_ n : Int) : Int × Int :=
  if at_ < 0 ∨ ¬ (0 ≤ n ∧ n ≤ 24) then (0, 2) else if n > mx 0 (8 * (l.length : Int) - at_) then (0, 1) else (bitVal l at_.toNat n.toNat, 0)

theorem implReadBits_ev (l : List Int) (h8 : ∀ x ∈ l, 0 ≤ x ∧ x < 256) (hl : l.length ≤ 140737488351232) (at_ n : Int) (ha : at_ < 9223372036854775808) : Ev (fun k => impl_ReadBits.f k l at_ n) (readR l at_ n) := by
  unfold impl_ReadBits.f readR
  rw [in_tell]
  simp only [Option.bind_some]
  have bad : Ev (fun k => impl_ReadBits.j0 k l at_ n true) (0, 2) := Ev.step (f := fun _ => some (0, 2)) (fun k => by simp [impl_ReadBits.j0]) (Ev.now _)
  by_cases h0 : at_ < 0
  · simp only [if_pos h0, h0, true_or, if_true]; exact bad
  · simp only [if_neg h0, h0, false_or]
    by_cases hn : 0 ≤ n ∧ n ≤ 24
    · simp only [decide_eq_true hn, Bool.not_true, hn, not_true_eq_false, if_false]
      obtain ⟨m, rfl⟩ := Int.eq_ofNat_of_zero_le hn.1
      obtain ⟨s, rfl⟩ := Int.eq_ofNat_of_zero_le (show 0 ≤ at_ by omega)
      have w1 : wrap64 (8 * (l.length : Int)) = 8 * (l.length : Int) := wrap64_id (by omega) (by omega)
      have w2 : wrap64 (8 * (l.length : Int) - (s : Int)) = 8 * (l.length : Int) - (s : Int) := wrap64_id (by clear w1; omega) (by clear w1; omega)
      by_cases hd : (m : Int) > mx 0 (8 * (l.length : Int) - (s : Int))
      · rw [if_pos hd]
        refine Ev.step (f := fun _ => some (0, 1)) (fun k => ?_) (Ev.now _)
        simp only [impl_ReadBits.j0]
        rw [if_neg (by simp), w1, w2, if_pos hd]
      · rw [if_neg hd]
        simp only [Int.toNat_natCast]
        have hmx : m = 0 ∨ s + m ≤ 8 * l.length := by
          clear w1 w2; unfold mx at hd; split at hd <;> omega
        refine Ev.step (f := fun k => impl_ReadBits.l0 k l (s : Int) 0 (m : Int) 0) (fun k => ?_) ?_
        · simp only [impl_ReadBits.j0]
          rw [if_neg (by simp), w1, w2, if_neg hd]
        · rcases hmx with rfl | h
          · refine Ev.step (f := fun _ => some (0, 0)) (fun k => ?_) (Ev.now _)
            simp [impl_ReadBits.l0]
          · have e := implReadBits_l0 l h8 hl s m (by clear w1 w2; omega) h m 0 (by omega)
            simpa [bitVal] using e
    · simp only [decide_eq_false hn, Bool.not_false, hn, not_false_eq_true, if_true]; exact bad


theorem clonePen_tell (l : List Int) (h c : Int) (hl : l.length < 140737488355328) : impl_clonePen.f l h c = some (l, h, c) := by
  simp only [impl_clonePen.f, slices_Clone_byte_byte.f, Option.bind_some, List.nil_append, List.length_nil, Nat.zero_add]
  rw [if_pos hl]
  rfl
/-- The lowest m bytes of a number, the lowest first. -/
def bytesN : Nat → Nat → List Int
  | 0, _ => []
  | m + 1, h => ((h % 256 : Nat) : Int) :: bytesN m (h / 256)
theorem bytesN_length : ∀ (m h : Nat), (bytesN m h).length = m
  | 0, _ => rfl
  | m + 1, h => by simp [bytesN, bytesN_length m]
theorem bytesN_last : ∀ (m h : Nat), bytesN (m + 1) h = bytesN m h ++ [((h / 256 ^ m % 256 : Nat) : Int)]
  | 0, h => by simp [bytesN]
  | m + 1, h => by
    rw [bytesN, bytesN_last m (h / 256), bytesN]
    simp only [List.cons_append, Nat.div_div_eq_div_mul, Nat.pow_succ, Nat.mul_comm]
theorem bytesN_add : ∀ (m h t : Nat), bytesN m (h + 256 ^ m * t) = bytesN m h
  | 0, _, _ => rfl
  | m + 1, h, t => by
    rw [bytesN, bytesN]
    have e : h + 256 ^ (m + 1) * t = h + 256 * (256 ^ m * t) := by rw [Nat.pow_succ, Nat.mul_comm (256 ^ m), Nat.mul_assoc]
    rw [e, Nat.add_mul_mod_self_left, Nat.add_mul_div_left _ _ (by decide), bytesN_add m]
/-- A pen to which bits are written: H has C bits, the first ones lie in the first bytes. -/
def penOut (l : List Int) (H C : Nat) : List Int × Int × Int := (l ++ bytesN (C / 8) H, ((H / 256 ^ (C / 8) : Nat) : Int), ((C % 8 : Nat) : Int))
theorem put_l0 : ∀ (m k : Nat) (x : List Int) (H r : Nat), r < 8 → m < k → x.length + m < 140737488355328 → m < 100 → impl_Pen_put.l0 k x (H : Int) ((8 * m + r : Nat) : Int) = some (x ++ bytesN m H, ((H / 256 ^ m : Nat) : Int), (r : Int))
  | 0, k + 1, x, H, r, hr, hk, hx, hm => by
    simp only [impl_Pen_put.l0]
    rw [if_neg (by omega)]
    simp [bytesN]
  | m + 1, k + 1, x, H, r, hr, hk, hx, hm => by
    simp only [impl_Pen_put.l0]
    rw [if_pos (by omega), if_pos (by omega)]
    have e1 : (H : Int) % 256 = ((H % 256 : Nat) : Int) := by simp
    have e2 : (H : Int) / 256 = ((H / 256 : Nat) : Int) := by simp
    have e3 : wrap64 (((8 * (m + 1) + r : Nat) : Int) - 8) = ((8 * m + r : Nat) : Int) := by rw [wrap64_id (by omega) (by omega)]; omega
    rw [e1, e2, e3, put_l0 m k _ _ r hr (by omega) (by simp; omega) (by omega)]
    simp only [bytesN, List.append_assoc, List.cons_append, List.nil_append, Nat.div_div_eq_div_mul, Nat.pow_succ, Nat.mul_comm]
def writeMay (h c v n : Int) : Prop := (0 ≤ c ∧ c ≤ 7 ∧ 0 ≤ h ∧ h < 2 ^ c.toNat) ∧ 0 ≤ n ∧ n ≤ 24 ∧ 0 ≤ v ∧ v < 2 ^ n.toNat
instance (h c v n : Int) : Decidable (writeMay h c v n) := by unfold writeMay; infer_instance
def writeOf (l : List Int) (h c v n : Int) : List Int × Int × Int := if writeMay h c v n then penOut l (h + v * 2 ^ c.toNat).toNat (c + n).toNat else (l, h, c)
theorem implWrite_tell (l : List Int) (h c v n : Int) (hl : l.length < 140737488355000) : impl_Write.f l h c v n = some (writeOf l h c v n) := by
  unfold impl_Write.f writeOf
  rw [clonePen_tell l h c (by omega), implPenOk_tell]
  simp only [Option.bind_some]
  by_cases hp : 0 ≤ c ∧ c ≤ 7 ∧ 0 ≤ h ∧ h < 2 ^ c.toNat
  · rw [if_pos (decide_eq_true hp), in_tell]
    simp only [Option.bind_some]
    by_cases hn : 0 ≤ n ∧ n ≤ 24
    · rw [if_pos (decide_eq_true hn), if_pos hn.1, in_tell]
      obtain ⟨N, rfl⟩ := Int.eq_ofNat_of_zero_le hn.1
      obtain ⟨C, rfl⟩ := Int.eq_ofNat_of_zero_le hp.1
      obtain ⟨b1, b2⟩ := pow_bounds (n := N) (m := 24) (by omega)
      obtain ⟨b3, b4⟩ := pow_bounds (n := C) (m := 7) (by omega)
      rw [shl_i64 (by omega) (by omega) (by omega), wrap64_id (by omega) (by omega)]
      simp only [Option.bind_some, Int.toNat_natCast] at *
      by_cases hv : 0 ≤ v ∧ v < 2 ^ N
      · rw [if_pos (decide_eq_true (by omega)), if_pos ⟨by simpa using hp, by omega, by omega, hv.1, by simpa using hv.2⟩]
        unfold impl_Pen_put.f
        obtain ⟨V, rfl⟩ := Int.eq_ofNat_of_zero_le hv.1
        obtain ⟨H, rfl⟩ := Int.eq_ofNat_of_zero_le hp.2.2.1
        have hb : (V : Int) * 2 ^ C < 2147483648 := by
          have h1 : (V : Int) * 2 ^ C ≤ 16777215 * 2 ^ C := Int.mul_le_mul_of_nonneg_right (by omega) (by omega)
          omega
        have h0 : 0 ≤ (V : Int) * 2 ^ C := Int.mul_nonneg (by omega) (by omega)
        rw [if_pos (by omega), shl_i64 (by omega) (by omega) (by omega), or_low C (by omega) (by omega) (by omega) h0 (Int.mul_emod_left _ _) (by omega), wrap64_id (by omega) (by omega)]
        have eH : (H : Int) + (V : Int) * 2 ^ C = ((H + V * 2 ^ C : Nat) : Int) := by simp
        rw [eH, ← Int.natCast_add, Int.toNat_natCast, Int.toNat_natCast]
        have ed : C + N = 8 * ((C + N) / 8) + (C + N) % 8 := (Nat.div_add_mod _ _).symm
        conv => lhs; rw [ed]
        rw [put_l0 ((C + N) / 8) 6 l _ ((C + N) % 8) (Nat.mod_lt _ (by decide)) (by omega) (by omega) (by omega)]
        rfl
      · rw [if_neg (by rw [decide_eq_true_eq]; omega), if_neg (fun hh => hv ⟨hh.2.2.2.1, by simpa using hh.2.2.2.2⟩)]
    · rw [if_neg (by rw [decide_eq_true_eq]; exact hn), if_neg (fun hh => hn ⟨hh.2.1, hh.2.2.1⟩)]
  · rw [if_neg (by rw [decide_eq_true_eq]; exact hp), if_neg (fun hh => hp hh.1)]

/-! A row of bits as one number -/
theorem bytesN_join : ∀ (m q h : Nat), bytesN (m + q) h = bytesN m h ++ bytesN q (h / 256 ^ m)
  | 0, q, h => by simp [bytesN]
  | m + 1, q, h => by
    rw [show m + 1 + q = (m + q) + 1 by omega, bytesN, bytesN_join m q (h / 256), bytesN, List.cons_append]
    rw [Nat.div_div_eq_div_mul, Nat.pow_succ, Nat.mul_comm 256]
theorem e256 (m : Nat) : (256 : Nat) ^ m = 2 ^ (8 * m) := by rw [Nat.pow_mul]
theorem penOut_more (T S v n : Nat) : penOut (penOut [] T S).1 (T / 256 ^ (S / 8) + v * 2 ^ (S % 8)) (S % 8 + n) = penOut [] (T + v * 2 ^ S) (S + n) := by
  obtain ⟨m, r, hr, rfl⟩ : ∃ m r, r < 8 ∧ S = 8 * m + r := ⟨S / 8, S % 8, Nat.mod_lt _ (by decide), (Nat.div_add_mod _ _).symm⟩
  have d1 : (8 * m + r) / 8 = m := by omega
  have d2 : (8 * m + r) % 8 = r := by omega
  have d3 : (8 * m + r + n) / 8 = m + (r + n) / 8 := by omega
  have d4 : (8 * m + r + n) % 8 = (r + n) % 8 := by omega
  have ep : v * 2 ^ (8 * m + r) = 256 ^ m * (v * 2 ^ r) := by rw [e256, Nat.pow_add, ← Nat.mul_assoc, Nat.mul_comm v, Nat.mul_assoc]
  have ed : (T + v * 2 ^ (8 * m + r)) / 256 ^ m = T / 256 ^ m + v * 2 ^ r := by rw [ep, Nat.add_mul_div_left _ _ (Nat.pow_pos (by decide))]
  unfold penOut
  rw [d1, d2, d3, d4, bytesN_join, Nat.pow_add 256 m ((r + n) / 8), ← Nat.div_div_eq_div_mul, ed, ep, bytesN_add]
  simp
theorem implEnded_pen (T S : Nat) (hT : T < 2 ^ S) (hS : S < 100000) : impl_Ended.f (penOut [] T S).1 (penOut [] T S).2.1 (penOut [] T S).2.2 = some (bytesN ((S + 7) / 8) T) := by
  obtain ⟨m, r, hr, rfl⟩ : ∃ m r, r < 8 ∧ S = 8 * m + r := ⟨S / 8, S % 8, Nat.mod_lt _ (by decide), (Nat.div_add_mod _ _).symm⟩
  have d1 : (8 * m + r) / 8 = m := by omega
  have d2 : (8 * m + r) % 8 = r := by omega
  have hq : T / 256 ^ m < 2 ^ r := by
    rw [Nat.div_lt_iff_lt_mul (Nat.pow_pos (by decide)), e256, ← Nat.pow_add, Nat.add_comm]; exact hT
  unfold penOut impl_Ended.f
  rw [d1, d2]
  simp only [List.nil_append]
  have hq' : ((T / 256 ^ m : Nat) : Int) < 2 ^ ((r : Nat) : Int).toNat := by rw [Int.toNat_natCast]; exact_mod_cast hq
  rw [implPenOk_tell, decide_eq_true (⟨by omega, by omega, Int.natCast_nonneg _, hq'⟩ : 0 ≤ ((r : Nat) : Int) ∧ ((r : Nat) : Int) ≤ 7 ∧ 0 ≤ ((T / 256 ^ m : Nat) : Int) ∧ ((T / 256 ^ m : Nat) : Int) < 2 ^ ((r : Nat) : Int).toNat)]
  simp only [Option.bind_some, if_true, slices_Clone_byte_byte.f, List.nil_append, List.length_nil, Nat.zero_add, bytesN_length]
  rw [if_pos (by omega)]
  simp only [Option.bind_some, bytesN_length]
  by_cases h0 : r = 0
  · subst h0
    rw [if_neg (by omega), show (8 * m + 0 + 7) / 8 = m by omega]
  · rw [if_pos (by omega), if_pos (by omega), show (8 * m + r + 7) / 8 = m + 1 by omega, bytesN_last]
    simp
theorem bytesN_get : ∀ (L j T : Nat), j < L → (bytesN L T).getD j 0 = ((T / 256 ^ j % 256 : Nat) : Int)
  | L + 1, 0, T, _ => by simp [bytesN]
  | L + 1, j + 1, T, h => by
    rw [bytesN, List.getD_cons_succ, bytesN_get L j (T / 256) (by omega), Nat.div_div_eq_div_mul, Nat.pow_succ, Nat.mul_comm 256]
theorem bytesN_range : ∀ (L T : Nat), ∀ x ∈ bytesN L T, 0 ≤ x ∧ x < 256
  | 0, _, x, h => absurd h (by simp [bytesN])
  | L + 1, T, x, h => by
    rw [bytesN] at h
    rcases List.mem_cons.1 h with h | h
    · subst h; omega
    · exact bytesN_range L _ x h
theorem bitAt_bytes (L T j : Nat) (h : j < 8 * L) : bitAt (bytesN L T) j = ((T / 2 ^ j % 2 : Nat) : Int) := by
  unfold bitAt
  rw [bytesN_get L (j / 8) T (by omega)]
  have e : ((T / 256 ^ (j / 8) % 256 : Nat) : Int) / 2 ^ (j % 8) % 2 = ((T / 256 ^ (j / 8) % 256 / 2 ^ (j % 8) % 2 : Nat) : Int) := by simp
  rw [e]
  congr 1
  have h8 : j % 8 < 8 := Nat.mod_lt _ (by decide)
  have e1 : (256 : Nat) = 2 ^ (j % 8) * 2 ^ (8 - j % 8) := by rw [← Nat.pow_add, show j % 8 + (8 - j % 8) = 8 by omega]
  have e2 : T / 256 ^ (j / 8) % 256 / 2 ^ (j % 8) = T / 256 ^ (j / 8) / 2 ^ (j % 8) % 2 ^ (8 - j % 8) := by
    conv => lhs; rw [show T / 256 ^ (j / 8) % 256 = T / 256 ^ (j / 8) % (2 ^ (j % 8) * 2 ^ (8 - j % 8)) by rw [← e1]]
    rw [Nat.mod_mul_right_div_self]
  have e3 : 2 ∣ 2 ^ (8 - j % 8) := ⟨2 ^ (7 - j % 8), by rw [← Nat.pow_succ', show (7 - j % 8).succ = 8 - j % 8 by omega]⟩
  rw [e2, Nat.mod_mod_of_dvd _ e3, Nat.div_div_eq_div_mul, e256, ← Nat.pow_add, Nat.div_add_mod]
theorem bitVal_bytes (L T : Nat) : ∀ (c s : Nat), s + c ≤ 8 * L → bitVal (bytesN L T) s c = ((T / 2 ^ s % 2 ^ c : Nat) : Int)
  | 0, s, _ => by simp [bitVal, Nat.mod_one]
  | c + 1, s, h => by
    rw [bitVal, bitVal_bytes L T c (s + 1) (by omega), bitAt_bytes L T s (by omega)]
    have e : T / 2 ^ s % 2 ^ (c + 1) = T / 2 ^ s % 2 + 2 * (T / 2 ^ (s + 1) % 2 ^ c) := by
      rw [Nat.pow_succ', Nat.mod_mul, Nat.div_div_eq_div_mul, ← Nat.pow_succ]
    rw [e]
    simp
/-- The number of a list of values, each with its bits. -/
def numOf : List (Nat × Nat) → Nat
  | [] => 0
  | (v, n) :: r => v + 2 ^ n * numOf r
def bitsOf : List (Nat × Nat) → Nat
  | [] => 0
  | (_, n) :: r => n + bitsOf r
def pairOk (p : Nat × Nat) : Prop := p.2 ≤ 24 ∧ p.1 < 2 ^ p.2
theorem numOf_lt : ∀ (l : List (Nat × Nat)), (∀ p ∈ l, pairOk p) → numOf l < 2 ^ bitsOf l
  | [], _ => by simp [numOf, bitsOf]
  | (v, n) :: r, h => by
    have ih := numOf_lt r (fun p hp => h p (by simp [hp]))
    have hv : v < 2 ^ n := (h (v, n) (by simp)).2
    simp only [numOf, bitsOf]
    rw [Nat.pow_add]
    have : 2 ^ n * (numOf r + 1) ≤ 2 ^ n * 2 ^ bitsOf r := Nat.mul_le_mul_left _ ih
    rw [Nat.mul_add] at this
    omega
theorem numOf_snoc : ∀ (l : List (Nat × Nat)) (v n : Nat), numOf (l ++ [(v, n)]) = numOf l + v * 2 ^ bitsOf l ∧ bitsOf (l ++ [(v, n)]) = bitsOf l + n
  | [], v, n => by simp [numOf, bitsOf]
  | (v', n') :: r, v, n => by
    obtain ⟨h1, h2⟩ := numOf_snoc r v n
    simp only [List.cons_append, numOf, bitsOf, h1, h2]
    refine ⟨?_, by omega⟩
    rw [Nat.mul_add, Nat.pow_add, ← Nat.mul_assoc, Nat.mul_comm (2 ^ n') v, Nat.mul_assoc]
    omega
theorem numOf_drop : ∀ (a b : List (Nat × Nat)), (∀ p ∈ a, pairOk p) → numOf (a ++ b) / 2 ^ bitsOf a = numOf b
  | [], b, _ => by simp [bitsOf]
  | (v, n) :: r, b, h => by
    have hv : v < 2 ^ n := (h (v, n) (by simp)).2
    simp only [List.cons_append, numOf, bitsOf]
    rw [Nat.pow_add, ← Nat.div_div_eq_div_mul, Nat.add_mul_div_left _ _ (Nat.two_pow_pos n), Nat.div_eq_of_lt hv, Nat.zero_add]
    exact numOf_drop r b (fun p hp => h p (by simp [hp]))
theorem bitsOf_le : ∀ (l : List (Nat × Nat)), (∀ p ∈ l, pairOk p) → bitsOf l ≤ 24 * l.length
  | [], _ => by simp [bitsOf]
  | (v, n) :: r, h => by
    have ih := bitsOf_le r (fun p hp => h p (by simp [hp]))
    have hv : n ≤ 24 := (h (v, n) (by simp)).1
    simp only [bitsOf, List.length_cons]
    omega
theorem bitsOf_append : ∀ (a b : List (Nat × Nat)), bitsOf (a ++ b) = bitsOf a + bitsOf b
  | [], b => by simp [bitsOf]
  | (v, n) :: r, b => by simp only [List.cons_append, bitsOf, bitsOf_append r b]; omega
theorem implPush_tell (H c x : Nat) (hc : c ≤ 24) (hH : H < 2 ^ c) (hx : x < 256) : impl_Push.f (H : Int) (c : Int) (x : Int) = some (((H + 2 ^ c * x : Nat) : Int), ((c + 8 : Nat) : Int), true) := by
  unfold impl_Push.f
  have hh : (H : Int) < 2 ^ c := by exact_mod_cast hH
  obtain ⟨b1, b2⟩ := pow_bounds (n := c) (m := 24) (by omega)
  have b3 : 0 ≤ (x : Int) * 2 ^ c := Int.mul_nonneg (by omega) (by omega)
  have b4 : (x : Int) * 2 ^ c ≤ 255 * 2 ^ 24 := Int.mul_le_mul (by omega) b2 (by omega) (by omega)
  rw [implBitsOk_tell, decide_eq_true (⟨by omega, by omega, by omega, by rw [Int.toNat_natCast]; exact hh⟩ : 0 ≤ (c : Int) ∧ (c : Int) ≤ 32 ∧ 0 ≤ (H : Int) ∧ (H : Int) < 2 ^ ((c : Int)).toNat)]
  simp only [Option.bind_some, if_true]
  rw [if_neg (by omega), if_pos (by omega), wrap64_id (n := (x : Int)) (by omega) (by omega), shl_i64 (by omega) (by omega) (by omega)]
  rw [or_low c (by omega) (by omega) (by omega) (by omega) (by exact Int.mul_emod_left (x : Int) (2 ^ c)) (by omega), wrap64_id (n := (c : Int) + 8) (by omega) (by omega)]
  have : (H : Int) + (x : Int) * 2 ^ c = ((H + 2 ^ c * x : Nat) : Int) := by rw [Nat.mul_comm]; simp
  rw [this]
  rfl
theorem implPull_ev (H c n : Nat) (hn : n ≤ c) (hn24 : n ≤ 24) (hc : c ≤ 32) (hH : H < 2 ^ c) : Ev (fun k => impl_Pull.f k (H : Int) (c : Int) (n : Int)) (((H % 2 ^ n : Nat) : Int), ((H / 2 ^ n : Nat) : Int), ((c - n : Nat) : Int), 0) := by
  unfold impl_Pull.f
  have hh : (H : Int) < 2 ^ c := by exact_mod_cast hH
  obtain ⟨b1, b2⟩ := pow_bounds (n := n) (m := 24) (by omega)
  refine Ev.bindc (implBitsOk_tell _ _) (Ev.ifT (decide_eq_true (⟨by omega, by omega, by omega, by rw [Int.toNat_natCast]; exact hh⟩ : 0 ≤ (c : Int) ∧ (c : Int) ≤ 32 ∧ 0 ≤ (H : Int) ∧ (H : Int) < 2 ^ ((c : Int)).toNat)) (Ev.bindc (in_tell _ _ _) ?_))
  rw [decide_eq_true (⟨by omega, by omega⟩ : (0 : Int) ≤ (n : Int) ∧ (n : Int) ≤ 24)]
  refine Ev.step (f := fun _ => some (((H % 2 ^ n : Nat) : Int), ((H / 2 ^ n : Nat) : Int), ((c - n : Nat) : Int), 0)) (fun k => ?_) (Ev.now _)
  simp only [impl_Pull.j0]
  rw [if_neg (by simp), if_neg (by omega), if_pos (by omega), shl_i64 (by omega) (by omega) (by omega), shr_i64 (by omega), wrap64_id (n := (c : Int) - n) (by omega) (by omega), wrap64_id (n := 1 * 2 ^ n - 1) (by omega) (by omega), Int.one_mul, and_mask n (by omega)]
  have e1 : (c : Int) - (n : Int) = ((c - n : Nat) : Int) := by omega
  rw [e1]
  simp

/-- Draws: whatever the cursor, a byte is a byte, a number below n is below n. -/
theorem mask255 (x : Int) : 0 ≤ Go.bits .and .i64 x 255 ∧ Go.bits .and .i64 x 255 < 256 := by
  have := and_mask 8 (by decide) x
  rw [show (2 : Int) ^ 8 - 1 = 255 from rfl, show (2 : Int) ^ 8 = 256 from rfl] at this
  rw [this]; omega
theorem draw_byte (b : List Int) (hb : b.length ≤ 1048576) (i h : Int) (h0 : 0 ≤ i) (h1 : i ≤ (b.length : Int)) : ∃ v j g, spec_l1Byte.f b i h = some (v, j, g) ∧ (0 ≤ v ∧ v < 256) ∧ 0 ≤ j ∧ j ≤ (b.length : Int) := by
  unfold spec_l1Byte.f
  by_cases q : i < (b.length : Int)
  · rw [if_pos q, if_pos h0]
    refine ⟨_, _, _, rfl, mask255 _, ?_, ?_⟩ <;> (rw [wrap64_id (by omega) (by omega)]; omega)
  · rw [if_neg q]
    exact ⟨_, _, _, rfl, mask255 _, h0, h1⟩
theorem draw_below (b : List Int) (hb : b.length ≤ 1048576) (i h n : Int) (h0 : 0 ≤ i) (h1 : i ≤ (b.length : Int)) : ∃ v j g, spec_l1Below.f b i h n = some (v, j, g) ∧ 0 ≤ v ∧ (0 < n → v < n) ∧ 0 ≤ j ∧ j ≤ (b.length : Int) := by
  unfold spec_l1Below.f
  by_cases q : n ≤ 0
  · rw [if_pos q]; exact ⟨_, _, _, rfl, by omega, by omega, h0, h1⟩
  rw [if_neg q]
  obtain ⟨v, j, g, e, hv, hj0, hj1⟩ := draw_byte b hb i h h0 h1
  by_cases q2 : n ≤ 256
  · rw [if_pos q2, e]
    simp only [Option.bind_some]
    rw [if_neg (by omega)]
    have t : Int.tmod v n = v % n := Int.tmod_eq_emod_of_nonneg hv.1
    exact ⟨_, _, _, rfl, by rw [t]; exact Int.emod_nonneg _ (by omega), fun hn => by rw [t]; exact Int.emod_lt_of_pos _ hn, hj0, hj1⟩
  · rw [if_neg q2, e]
    obtain ⟨v2, j2, g2, e2, hv2, hj2, hj3⟩ := draw_byte b hb j g hj0 hj1
    obtain ⟨v3, j3, g3, e3, hv3, hj4, hj5⟩ := draw_byte b hb j2 g2 hj2 hj3
    simp only [Option.bind_some, e2, e3]
    rw [if_neg (by omega)]
    have w1 : wrap64 (v * 65536) = v * 65536 := wrap64_id (by omega) (by omega)
    have w2 : wrap64 (v2 * 256) = v2 * 256 := wrap64_id (by clear w1; omega) (by clear w1; omega)
    have w3 : wrap64 (v * 65536 + v2 * 256) = v * 65536 + v2 * 256 := wrap64_id (by clear w1 w2; omega) (by clear w1 w2; omega)
    have w4 : wrap64 (v * 65536 + v2 * 256 + v3) = v * 65536 + v2 * 256 + v3 := wrap64_id (by clear w1 w2 w3; omega) (by clear w1 w2 w3; omega)
    rw [w1, w2, w3, w4]
    clear w1 w2 w3 w4
    have t : Int.tmod (v * 65536 + v2 * 256 + v3) n = (v * 65536 + v2 * 256 + v3) % n := Int.tmod_eq_emod_of_nonneg (by omega)
    exact ⟨_, _, _, rfl, by rw [t]; exact Int.emod_nonneg _ (by omega), fun hn => by rw [t]; exact Int.emod_lt_of_pos _ hn, hj4, hj5⟩
theorem draw_new_l0 (l : List Int) (hl : l.length ≤ 1048576) : ∀ (d i : Nat) (h : Int), i + d = l.length → ∃ g, Ev (fun k => spec_l1New.l0 k l h (i : Int)) (l, 0, g)
  | 0, i, h, hd => ⟨h, Ev.step (f := fun _ => some (l, 0, h)) (fun k => by simp only [spec_l1New.l0]; rw [if_neg (by omega)]) (Ev.now _)⟩
  | d + 1, i, h, hd => by
    by_cases q : (i : Int) < 4000
    · obtain ⟨g, e⟩ := draw_new_l0 l hl d (i + 1) (Go.bits .and .i64 (wrap64 ((wrap64 ((wrap64 (h * 137)) + (wrap64 (rd l (i : Int))))) + 11)) 1073741823) (by omega)
      refine ⟨g, Ev.step (fun k => ?_) e⟩
      simp only [spec_l1New.l0]
      rw [if_pos (by omega), if_pos q, if_pos (by omega), wrap64_succ (by omega)]
    · refine ⟨h, Ev.step (f := fun _ => some (l, 0, h)) (fun k => ?_) (Ev.now _)⟩
      simp only [spec_l1New.l0]
      rw [if_pos (by omega), if_neg q]
theorem draw_new (l : List Int) (hl : l.length ≤ 1048576) : ∃ g, Ev (fun k => spec_l1New.f k l) (l, 0, g) := by
  obtain ⟨g, e⟩ := draw_new_l0 l hl l.length 0 (wrap64 (71071 + (l.length : Int))) (by omega)
  exact ⟨g, e⟩

theorem penOut_length' (l : List Int) (H C : Nat) : (penOut l H C).1.length = l.length + C / 8 := by simp [penOut, bytesN_length]
def vals (ps : List (Nat × Nat)) : List Int := ps.map fun p => (p.1 : Int)
def nums_ (ps : List (Nat × Nat)) : List Int := ps.map fun p => (p.2 : Int)
theorem vals_get (a b : List (Nat × Nat)) (p : Nat × Nat) : rd (vals (a ++ p :: b)) (a.length : Int) = (p.1 : Int) := by simp [rd, vals]
theorem nums_get (a b : List (Nat × Nat)) (p : Nat × Nat) : rd (nums_ (a ++ p :: b)) (a.length : Int) = (p.2 : Int) := by simp [rd, nums_]
theorem draw_writes_l0 (b : List Int) (hb : b.length ≤ 1048576) : ∀ (m : Nat) (ps : List (Nat × Nat)) (x h : Int), (∀ p ∈ ps, pairOk p) → ps.length + m ≤ 30 → 0 ≤ x → x ≤ (b.length : Int) →
    ∃ qs : List (Nat × Nat), (∀ p ∈ qs, pairOk p) ∧ qs.length ≤ 30 ∧ Ev (fun k => spec_DrawWrites.l0 k (vals ps) (nums_ ps) (m : Int) b x h) (vals qs, nums_ qs)
  | 0, ps, x, h, hp, hl, h0, h1 => ⟨ps, hp, by omega, Ev.step (f := fun _ => some (vals ps, nums_ ps)) (fun k => by simp only [spec_DrawWrites.l0]; rw [if_neg (by omega)]) (Ev.now _)⟩
  | m + 1, ps, x, h, hp, hl, h0, h1 => by
    obtain ⟨n, j, g, e1, hn0, hn1, hj0, hj1⟩ := draw_below b hb x h 25 h0 h1
    obtain ⟨v, j2, g2, e2, hv0, hv1, hj2, hj3⟩ := draw_below b hb j g 16777216 hj0 hj1
    have hn1 := hn1 (by omega)
    have hv1 := hv1 (by omega)
    obtain ⟨N, rfl⟩ := Int.eq_ofNat_of_zero_le hn0
    obtain ⟨V, rfl⟩ := Int.eq_ofNat_of_zero_le hv0
    obtain ⟨b1, b2⟩ := pow_bounds (n := N) (m := 24) (by omega)
    obtain ⟨qs, hq, hq2, e⟩ := draw_writes_l0 b hb m (ps ++ [(V % 2 ^ N, N)]) j2 g2 (fun p hp' => by
      rcases List.mem_append.1 hp' with h | h
      · exact hp p h
      · rw [List.mem_singleton.1 h]; exact ⟨by omega, Nat.mod_lt _ (Nat.two_pow_pos N)⟩) (by simp; omega) hj2 hj3
    refine ⟨qs, hq, hq2, Ev.step (fun k => ?_) e⟩
    have eu : IntKind.u64.wrap (N : Int) = (N : Int) := wrapU64_id (by omega) (by omega)
    have hl1 : (nums_ ps).length < 17592186044416 := by clear eu; simp [nums_]; omega
    have hl2 : (vals ps).length < 17592186044416 := by clear eu; simp [vals]; omega
    have g1 : ((m + 1 : Nat) : Int) > 0 := by clear eu; omega
    have g2' : (0 : Int) ≤ (N : Int) := by clear eu; omega
    have ew : wrap64 (((m + 1 : Nat) : Int) - 1) = (m : Int) := by rw [wrap64_id (by clear eu; omega) (by clear eu; omega)]; clear eu; omega
    have es : wrap64 (shl .i64 1 (N : Int) - 1) = 2 ^ N - 1 := by rw [shl_i64 (by clear eu ew; omega) (by clear eu ew; omega) (by clear eu ew; omega), wrap64_id (by clear eu ew; omega) (by clear eu ew; omega), Int.one_mul]
    simp only [spec_DrawWrites.l0]
    rw [if_pos g1, e1]
    simp only [Option.bind_some]
    rw [if_pos hl1, e2]
    simp only [Option.bind_some]
    rw [eu, if_pos g2', if_pos hl2, es, ew, and_mask N (by clear eu ew es; omega)]
    have ev : vals ps ++ [(V : Int) % 2 ^ N] = vals (ps ++ [(V % 2 ^ N, N)]) := by simp [vals]
    have en : nums_ ps ++ [(N : Int)] = nums_ (ps ++ [(V % 2 ^ N, N)]) := by simp [nums_]
    rw [ev, en]
theorem draw_writes (l : List Int) (hl : l.length ≤ 1048576) : ∃ qs : List (Nat × Nat), (∀ p ∈ qs, pairOk p) ∧ qs.length ≤ 30 ∧ Ev (fun k => spec_DrawWrites.f k l) (vals qs, nums_ qs) := by
  obtain ⟨g, e⟩ := draw_new l hl
  obtain ⟨m, j, g2, e1, hm0, hm1, hj0, hj1⟩ := draw_below l hl 0 g 20 (by omega) (by omega)
  have hm1 := hm1 (by omega)
  obtain ⟨M, rfl⟩ := Int.eq_ofNat_of_zero_le hm0
  obtain ⟨qs, hq, hq2, e2⟩ := draw_writes_l0 l hl M [] j g2 (fun p hp => absurd hp (by simp)) (by simp; omega) hj0 hj1
  refine ⟨qs, hq, hq2, ?_⟩
  unfold spec_DrawWrites.f
  exact Ev.bind e (Ev.bindc e1 e2)
/-- The reader's bits: from place s on, count c of them, the bytes before nx being taken. -/
def St (T L s nx c H : Nat) : Prop := 8 * nx = s + c ∧ nx ≤ L ∧ c ≤ 31 ∧ H = T / 2 ^ s % 2 ^ c
theorem St.push {T L s nx c H : Nat} (h : St T L s nx c H) (hn : nx < L) (hc : c ≤ 23) : St T L s (nx + 1) (c + 8) (H + 2 ^ c * (T / 256 ^ nx % 256)) := by
  obtain ⟨h1, h2, h3, h4⟩ := h
  refine ⟨by omega, by omega, by omega, ?_⟩
  have e : T / 256 ^ nx = T / 2 ^ s / 2 ^ c := by rw [e256, h1, Nat.pow_add, ← Nat.div_div_eq_div_mul]
  rw [h4, e, Nat.pow_add, Nat.mod_mul]
theorem St.pull {T L s nx c H n : Nat} (h : St T L s nx c H) (hn : n ≤ c) : St T L (s + n) nx (c - n) (H / 2 ^ n) := by
  obtain ⟨h1, h2, h3, h4⟩ := h
  refine ⟨by omega, h2, by omega, ?_⟩
  have e : 2 ^ c = 2 ^ n * 2 ^ (c - n) := by rw [← Nat.pow_add, show n + (c - n) = c by omega]
  rw [h4, e, Nat.mod_mul_right_div_self, Nat.div_div_eq_div_mul, ← Nat.pow_add]
theorem St.low {T L s nx c H n : Nat} (h : St T L s nx c H) (hn : n ≤ c) : H % 2 ^ n = T / 2 ^ s % 2 ^ n := by
  rw [h.2.2.2]
  exact Nat.mod_mod_of_dvd _ (Nat.pow_dvd_pow 2 hn)
theorem St.lt {T L s nx c H : Nat} (h : St T L s nx c H) : H < 2 ^ c := by rw [h.2.2.2]; exact Nat.mod_lt _ (Nat.two_pow_pos c)
theorem write_l0 (ps : List (Nat × Nat)) (hp : ∀ p ∈ ps, pairOk p) (hl : ps.length ≤ 30) (r : Bool) (hr : Ev (fun k => laws_FnBits.l1 k (vals ps) (nums_ ps) (bytesN ((bitsOf ps + 7) / 8) (numOf ps)) 0 0 0 0 0) r) : ∀ (b a : List (Nat × Nat)), ps = a ++ b →
    Ev (fun k => laws_FnBits.l0 k (vals ps) (nums_ ps) (a.length : Int) (penOut [] (numOf a) (bitsOf a)).1 (penOut [] (numOf a) (bitsOf a)).2.1 (penOut [] (numOf a) (bitsOf a)).2.2) r
  | [], a, ha => by
    obtain rfl : ps = a := by simpa using ha
    have hT := numOf_lt ps hp
    have hS := bitsOf_le ps hp
    refine Ev.step (fun k => ?_) hr
    simp only [laws_FnBits.l0]
    rw [if_neg (by simp [vals]), implEnded_pen _ _ hT (by omega)]
    rfl
  | (v, n) :: b, a, ha => by
    have hpa : ∀ p ∈ a, pairOk p := fun p h => hp p (by rw [ha]; simp [h])
    have hvn : pairOk (v, n) := hp _ (by rw [ha]; simp)
    have ih := write_l0 ps hp hl r hr b (a ++ [(v, n)]) (by rw [ha]; simp)
    have hal : a.length < ps.length := by rw [ha]; simp
    obtain ⟨s1, s2⟩ := numOf_snoc a v n
    rw [s1, s2] at ih
    refine Ev.step (fun k => ?_) ih
    have hT := numOf_lt a hpa
    have hS := bitsOf_le a hpa
    have ev : rd (vals ps) (a.length : Int) = (v : Int) := by rw [ha]; exact vals_get a b (v, n)
    have en : rd (nums_ ps) (a.length : Int) = (n : Int) := by rw [ha]; exact nums_get a b (v, n)
    have hlv : (vals ps).length = ps.length := by simp [vals]
    have hln : (nums_ ps).length = ps.length := by simp [nums_]
    simp only [laws_FnBits.l0]
    rw [if_pos (by omega), if_pos (by omega), if_pos (by omega), ev, en]
    have hm : writeMay (((numOf a / 256 ^ (bitsOf a / 8) : Nat)) : Int) (((bitsOf a % 8 : Nat)) : Int) (v : Int) (n : Int) := by
      have hr : bitsOf a % 8 < 8 := Nat.mod_lt _ (by decide)
      have hq : numOf a / 256 ^ (bitsOf a / 8) < 2 ^ (bitsOf a % 8) := by
        rw [Nat.div_lt_iff_lt_mul (Nat.pow_pos (by decide)), e256, ← Nat.pow_add, show bitsOf a % 8 + 8 * (bitsOf a / 8) = bitsOf a by omega]; exact hT
      refine ⟨⟨Int.natCast_nonneg _, by omega, Int.natCast_nonneg _, by rw [Int.toNat_natCast]; exact_mod_cast hq⟩, Int.natCast_nonneg _, by have := hvn.1; simp at this; omega, Int.natCast_nonneg _, by rw [Int.toNat_natCast]; exact_mod_cast hvn.2⟩
    have hw : impl_Write.f (penOut [] (numOf a) (bitsOf a)).1 (penOut [] (numOf a) (bitsOf a)).2.1 (penOut [] (numOf a) (bitsOf a)).2.2 (v : Int) (n : Int) = some (penOut [] (numOf a + v * 2 ^ bitsOf a) (bitsOf a + n)) := by
      rw [implWrite_tell _ _ _ _ _ (by rw [penOut_length', List.length_nil]; omega)]
      unfold writeOf
      rw [if_pos (show writeMay (penOut [] (numOf a) (bitsOf a)).2.1 (penOut [] (numOf a) (bitsOf a)).2.2 (v : Int) (n : Int) from hm), ← penOut_more]
      have e1 : ((((numOf a / 256 ^ (bitsOf a / 8) : Nat)) : Int) + (v : Int) * 2 ^ (((bitsOf a % 8 : Nat)) : Int).toNat).toNat = numOf a / 256 ^ (bitsOf a / 8) + v * 2 ^ (bitsOf a % 8) := by
        rw [Int.toNat_natCast]
        have : (((numOf a / 256 ^ (bitsOf a / 8) : Nat)) : Int) + (v : Int) * 2 ^ (bitsOf a % 8) = ((numOf a / 256 ^ (bitsOf a / 8) + v * 2 ^ (bitsOf a % 8) : Nat) : Int) := by simp
        rw [this, Int.toNat_natCast]
      have e2 : ((((bitsOf a % 8 : Nat)) : Int) + (n : Int)).toNat = bitsOf a % 8 + n := by omega
      show some (penOut _ ((((numOf a / 256 ^ (bitsOf a / 8) : Nat)) : Int) + (v : Int) * 2 ^ (((bitsOf a % 8 : Nat)) : Int).toNat).toNat ((((bitsOf a % 8 : Nat)) : Int) + (n : Int)).toNat) = _
      rw [e1, e2]
    rw [hw]
    simp only [Option.bind_some]
    rw [wrap64_succ (by omega)]
    simp
theorem read_l2 (ps a b : List (Nat × Nat)) (v n T L s : Nat) (hps : ps = a ++ (v, n) :: b) (hl : ps.length ≤ 30) (hn : n ≤ 24) (hv : v < 2 ^ n) (hT : T / 2 ^ s % 2 ^ n = v) (hL : L ≤ 1000) (hsn : s + n ≤ 8 * L)
    (hnext : ∀ nx c H, St T L (s + n) nx c H → Ev (fun k => laws_FnBits.l1 k (vals ps) (nums_ ps) (bytesN L T) ((s + n : Nat) : Int) (nx : Int) ((a.length + 1 : Nat) : Int) (H : Int) (c : Int)) true) :
    ∀ (d nx c H : Nat), n - c ≤ d → St T L s nx c H → Ev (fun k => laws_FnBits.l2 k (vals ps) (nums_ ps) (bytesN L T) ((s + n : Nat) : Int) (nx : Int) (a.length : Int) (H : Int) (c : Int)) true := by
  have ev : rd (vals ps) (a.length : Int) = (v : Int) := by rw [hps]; exact vals_get a b (v, n)
  have en : rd (nums_ ps) (a.length : Int) = (n : Int) := by rw [hps]; exact nums_get a b (v, n)
  have hlv : (vals ps).length = ps.length := by simp [vals]
  have hln : (nums_ ps).length = ps.length := by simp [nums_]
  have hal : a.length < ps.length := by rw [hps]; simp
  have g1 : (0 : Int) ≤ (a.length : Int) := by omega
  have g2 : (a.length : Int) < ((nums_ ps).length : Int) := by omega
  have g3 : (a.length : Int) < ((vals ps).length : Int) := by omega
  have hbl : (bytesN L T).length = L := bytesN_length L T
  have ei : wrap64 ((a.length : Int) + 1) = ((a.length + 1 : Nat) : Int) := wrap64_succ (by omega)
  have done : ∀ (nx c H : Nat), n ≤ c → St T L s nx c H → Ev (fun k => laws_FnBits.l2 k (vals ps) (nums_ ps) (bytesN L T) ((s + n : Nat) : Int) (nx : Int) (a.length : Int) (H : Int) (c : Int)) true := by
    intro nx c H hc hs
    have hlow := hs.low hc
    rw [hT] at hlow
    have e := implPull_ev H c n hc hn (by have := hs.2.2.1; clear ei; omega) hs.lt
    rw [hlow] at e
    have h2 := hnext _ _ _ (hs.pull hc)
    have e2 : ∀ k, laws_FnBits.l2 (k + 1) (vals ps) (nums_ ps) (bytesN L T) ((s + n : Nat) : Int) (nx : Int) (a.length : Int) (H : Int) (c : Int) = laws_FnBits.j4 k (vals ps) (nums_ ps) (bytesN L T) ((s + n : Nat) : Int) (nx : Int) (a.length : Int) false (H : Int) (c : Int) := by
      intro k
      simp only [laws_FnBits.l2]
      rw [if_pos g1, if_pos g2, en, if_neg (by clear ei; omega)]
    have e3 : ∀ k, laws_FnBits.j4 (k + 1) (vals ps) (nums_ ps) (bytesN L T) ((s + n : Nat) : Int) (nx : Int) (a.length : Int) false (H : Int) (c : Int) =
        (impl_Pull.f k (H : Int) (c : Int) (n : Int)).bind fun bt207 => (if (a.length : Int) < ((vals ps).length : Int) then (if bt207.1 = (v : Int) then (if bt207.2.2.2 = 0 then (laws_FnBits.l1 k (vals ps) (nums_ ps) (bytesN L T) ((s + n : Nat) : Int) (nx : Int) ((a.length + 1 : Nat) : Int) bt207.2.1 bt207.2.2.1) else (some false)) else (some false)) else (none)) := by
      intro k
      simp only [laws_FnBits.j4]
      rw [if_neg (by simp), if_pos g1, if_pos g2, en, ev, ei]
    exact Ev.step e2 (Ev.step e3 (Ev.bind e (Ev.ifT g3 (Ev.ifT rfl (Ev.ifT rfl h2)))))
  intro d
  induction d with
  | zero => intro nx c H hd hs; exact done nx c H (by clear ei; omega) hs
  | succ d ih =>
    intro nx c H hd hs
    by_cases hc : n ≤ c
    · exact done nx c H hc hs
    · have hnx : nx < L := by have := hs.1; clear ei; omega
      have ih2 := ih (nx + 1) (c + 8) _ (by clear ei; omega) (hs.push hnx (by clear ei; omega))
      have hx : T / 256 ^ nx % 256 < 256 := Nat.mod_lt _ (by decide)
      have ep := implPush_tell H c (T / 256 ^ nx % 256) (by clear ei; omega) hs.lt hx
      have er : rd (bytesN L T) (nx : Int) = ((T / 256 ^ nx % 256 : Nat) : Int) := by rw [rd_nat]; exact bytesN_get L nx T hnx
      have g4 : (nx : Int) < ((bytesN L T).length : Int) := by clear ei; omega
      have ex : wrap64 ((nx : Int) + 1) = ((nx + 1 : Nat) : Int) := wrap64_succ (by clear ei; omega)
      refine Ev.step (fun k => ?_) (Ev.step (fun k => ?_) ih2) (f := fun k => laws_FnBits.j4 k (vals ps) (nums_ ps) (bytesN L T) ((s + n : Nat) : Int) (nx : Int) (a.length : Int) true (H : Int) (c : Int))
      · simp only [laws_FnBits.l2]
        rw [if_pos g1, if_pos g2, en, if_pos (by clear ei ex; omega), decide_eq_true g4]
      · simp only [laws_FnBits.j4]
        rw [if_pos trivial, if_pos (by clear ei ex; omega), if_pos g4, er, ep]
        simp only [Option.bind_some]
        rw [if_pos trivial, ex]
theorem read_l1 (ps : List (Nat × Nat)) (hp : ∀ p ∈ ps, pairOk p) (hl : ps.length ≤ 30) : ∀ (b a : List (Nat × Nat)) (nx c H : Nat), ps = a ++ b → St (numOf ps) ((bitsOf ps + 7) / 8) (bitsOf a) nx c H →
    Ev (fun k => laws_FnBits.l1 k (vals ps) (nums_ ps) (bytesN ((bitsOf ps + 7) / 8) (numOf ps)) (bitsOf a : Int) (nx : Int) (a.length : Int) (H : Int) (c : Int)) true
  | [], a, nx, c, H, ha, hs => by
    obtain rfl : ps = a := by simpa using ha
    have hS := bitsOf_le ps hp
    refine Ev.step (f := fun _ => some true) (fun k => ?_) (Ev.now _)
    simp only [laws_FnBits.l1]
    rw [if_neg (by simp [vals]), bytesN_length, wrap64_id (n := (bitsOf ps : Int) + 7) (by omega) (by omega), Int.tdiv_eq_ediv_of_nonneg (by omega), wrap64_id (by omega) (by omega)]
    congr 1
    rw [beq_iff_eq]
    omega
  | (v, n) :: b, a, nx, c, H, ha, hs => by
    have hpa : ∀ p ∈ a, pairOk p := fun p h => hp p (by rw [ha]; simp [h])
    have hvn : pairOk (v, n) := hp _ (by rw [ha]; simp)
    have hn : n ≤ 24 := hvn.1
    have hv : v < 2 ^ n := hvn.2
    have hS := bitsOf_le ps hp
    have hdrop : numOf ps / 2 ^ bitsOf a = v + 2 ^ n * numOf b := by
      rw [ha]; exact numOf_drop a ((v, n) :: b) hpa
    have hmod : numOf ps / 2 ^ bitsOf a % 2 ^ n = v := by rw [hdrop, Nat.add_mul_mod_self_left, Nat.mod_eq_of_lt hv]
    have hbits : bitsOf ps = bitsOf a + (n + bitsOf b) := by rw [ha, bitsOf_append]; rfl
    have hL : bitsOf a + n ≤ 8 * ((bitsOf ps + 7) / 8) := by omega
    have hnext : ∀ nx c H, St (numOf ps) ((bitsOf ps + 7) / 8) (bitsOf a + n) nx c H → Ev (fun k => laws_FnBits.l1 k (vals ps) (nums_ ps) (bytesN ((bitsOf ps + 7) / 8) (numOf ps)) ((bitsOf a + n : Nat) : Int) (nx : Int) ((a.length + 1 : Nat) : Int) (H : Int) (c : Int)) true := by
      intro nx c H hs
      have := read_l1 ps hp hl b (a ++ [(v, n)]) nx c H (by rw [ha]; simp) (by rw [bitsOf_append]; simpa [bitsOf] using hs)
      rw [bitsOf_append] at this
      simpa [bitsOf] using this
    have l2 := read_l2 ps a b v n (numOf ps) ((bitsOf ps + 7) / 8) (bitsOf a) ha hl hn hv hmod (by omega) hL hnext n nx c H (by omega) hs
    have ev : rd (vals ps) (a.length : Int) = (v : Int) := by rw [ha]; exact vals_get a b (v, n)
    have en : rd (nums_ ps) (a.length : Int) = (n : Int) := by rw [ha]; exact nums_get a b (v, n)
    have hal : a.length < ps.length := by rw [ha]; simp
    have hlv : (vals ps).length = ps.length := by simp [vals]
    have hln : (nums_ ps).length = ps.length := by simp [nums_]
    have g1 : (0 : Int) ≤ (a.length : Int) := by omega
    have g2 : (a.length : Int) < ((nums_ ps).length : Int) := by omega
    have g3 : (a.length : Int) < ((vals ps).length : Int) := by omega
    have hbl : (bytesN ((bitsOf ps + 7) / 8) (numOf ps)).length = (bitsOf ps + 7) / 8 := bytesN_length _ _
    have er : Ev (fun k => impl_ReadBits.f k (bytesN ((bitsOf ps + 7) / 8) (numOf ps)) (bitsOf a : Int) (n : Int)) ((v : Int), 0) := by
      have e := implReadBits_ev (bytesN ((bitsOf ps + 7) / 8) (numOf ps)) (bytesN_range _ _) (by omega) (bitsOf a : Int) (n : Int) (by omega)
      have : readR (bytesN ((bitsOf ps + 7) / 8) (numOf ps)) (bitsOf a : Int) (n : Int) = ((v : Int), 0) := by
        unfold readR
        rw [if_neg (by omega), if_neg (by unfold mx; split <;> omega), Int.toNat_natCast, Int.toNat_natCast, bitVal_bytes _ _ _ _ hL, hmod]
      rwa [this] at e
    have ew : wrap64 ((bitsOf a : Int) + (n : Int)) = ((bitsOf a + n : Nat) : Int) := by rw [wrap64_id (by omega) (by omega)]; omega
    have e1 : ∀ k, laws_FnBits.l1 (k + 1) (vals ps) (nums_ ps) (bytesN ((bitsOf ps + 7) / 8) (numOf ps)) (bitsOf a : Int) (nx : Int) (a.length : Int) (H : Int) (c : Int) =
        (impl_ReadBits.f k (bytesN ((bitsOf ps + 7) / 8) (numOf ps)) (bitsOf a : Int) (n : Int)).bind fun bt196 => (if bt196.1 = (v : Int) then (laws_FnBits.j2 k (vals ps) (nums_ ps) (bytesN ((bitsOf ps + 7) / 8) (numOf ps)) (bitsOf a : Int) (nx : Int) (a.length : Int) (bt196.2 != 0) (H : Int) (c : Int)) else (laws_FnBits.j2 k (vals ps) (nums_ ps) (bytesN ((bitsOf ps + 7) / 8) (numOf ps)) (bitsOf a : Int) (nx : Int) (a.length : Int) true (H : Int) (c : Int))) := by
      intro k
      simp only [laws_FnBits.l1]
      rw [if_pos g3, if_pos g1, if_pos g2, en, ev]
    refine Ev.step e1 (Ev.bind er (Ev.ifT rfl (Ev.step (fun k => ?_) l2)))
    simp only [laws_FnBits.j2]
    rw [if_neg (by simp), if_pos g1, if_pos g2, en, ew]
theorem FnBits : laws_FnBits.Pure := by
  intro l hm hl h8
  refine Ev.rounds ?_
  unfold laws_FnBits.f laws_big.f
  refine Ev.bindc rfl ?_
  by_cases hb : (l.length : Int) > 1048576
  · exact Ev.ifT (decide_eq_true hb) (Ev.now _)
  · obtain ⟨ps, hp, hpl, e⟩ := draw_writes l (by omega)
    refine Ev.ifF (by rw [decide_eq_true_eq]; exact hb) (Ev.bind e ?_)
    have r1 := read_l1 ps hp hpl ps [] 0 0 0 rfl ⟨by simp [bitsOf], by omega, by omega, by simp [Nat.mod_one]⟩
    have := write_l0 ps hp hpl true r1 ps [] rfl
    simpa [penOut, bytesN, numOf, bitsOf] using this

end Go.Proofs.Ytboefincoghbbab.Pure
