/- The plain law of FnExactReadBits, over numbers and lists alone: what the printed functions answer is true for all arguments. Conditions: those of the arguments' kinds. -/
import Derived.Test.YtclejdchdfmapabPFnExactReadBitsx2
import Derived.Test.YtclejdchdfmapabAid
set_option linter.unusedVariables false
set_option linter.unusedSimpArgs false
namespace Go.Proofs.Ytclejdchdfmapab.Pure
open Go.RowKit Go.Proofs.Ytclejdchdfmapab.Aid Go.Proofs.Ytclejdchdfmapab.PFnExactReadBits Go.Proofs.YtclejdchdfmapabW.PrintWords Go.Proofs.YtclejdchdfmapabW.PrintLast Go.Proofs.YtclejdchdfmapabW.PrintMore
theorem in_tell (a b c : Int) : impl_in.f a b c = some (decide (b ≤ a ∧ a ≤ c)) := by
  unfold impl_in.f
  by_cases h : a ≥ b
  · rw [if_pos h]; congr 1; rw [Bool.eq_iff_iff]; simp only [decide_eq_true_eq]; omega
  · rw [if_neg h]; congr 1; symm; rw [decide_eq_false_iff_not]; omega

theorem l1In_tell (a b c : Int) : spec_l1In.f a b c = some (decide (b ≤ a ∧ a ≤ c)) := by
  unfold spec_l1In.f
  by_cases h : a ≥ b
  · rw [if_pos h]; congr 1; rw [Bool.eq_iff_iff]; simp only [decide_eq_true_eq]; omega
  · rw [if_neg h]; congr 1; symm; rw [decide_eq_false_iff_not]; omega

theorem toByteS_l0 (l : List Int) (hl : l.length ≤ 140737488351232) : ∀ (d : Nat) (x : List Int) (i : Nat), x.length = l.length → i + d = l.length → x.take i = l.take i → Ev (fun k => laws_toByteS.l0 k l x (i : Int)) l
  | 0, x, i, hx, hi, ht => by
    refine Ev.step (f := fun _ => some l) (fun k => ?_) (Ev.now _)
    simp only [laws_toByteS.l0]
    rw [if_neg (by omega)]
    congr 1
    rw [List.take_of_length_le (by omega), List.take_of_length_le (by omega)] at ht
    exact ht
  | d + 1, x, i, hx, hi, ht => by
    have ih := toByteS_l0 l hl d (x.set i (rd l i)) (i + 1) (by simpa using hx) (by omega) (by
      rw [List.take_succ_eq_append_getElem (by simp; omega), List.take_succ_eq_append_getElem (by omega), List.take_set_of_le (by omega), ht]
      simp [rd, List.getElem?_eq_getElem (show i < l.length by omega)])
    refine Ev.step (fun k => ?_) ih
    simp only [laws_toByteS.l0]
    rw [if_pos (by omega), if_pos (by omega), if_pos (by omega), wrap64_id (by omega) (by omega)]
    simp
theorem toByteS_ev (l : List Int) (hl : l.length ≤ 140737488351232) : Ev (fun k => laws_toByteS.f k l) l := by
  refine Ev.congr (fun k => ?_) (toByteS_l0 l hl l.length (List.replicate l.length 0) 0 (by simp) (by simp) (by simp))
  simp only [laws_toByteS.f]
  rw [if_pos (by omega), if_pos (by omega)]
  simp

theorem eqByteS_l0 (l : List Int) (hl : l.length ≤ 140737488351232) : ∀ (d : Nat) (i : Nat), i + d = l.length → Ev (fun k => laws_eqByteS.l0 k l l (i : Int)) true
  | 0, i, hi => by
    refine Ev.step (f := fun _ => some true) (fun k => ?_) (Ev.now _)
    simp only [laws_eqByteS.l0]
    rw [if_neg (by omega)]
  | d + 1, i, hi => by
    have ih := eqByteS_l0 l hl d (i + 1) (by omega)
    refine Ev.step (fun k => ?_) ih
    simp only [laws_eqByteS.l0]
    rw [if_pos (by omega), if_pos (by omega), if_pos (by omega), wrap64_id (by omega) (by omega)]
    simp
theorem eqByteS_ev (l : List Int) (hl : l.length ≤ 140737488351232) : Ev (fun k => laws_eqByteS.f k l l) true := by
  refine Ev.congr (fun k => ?_) (eqByteS_l0 l hl l.length 0 (by simp))
  simp only [laws_eqByteS.f]
  simp

theorem wf_all_u8 {l : List Int} (h : ∀ x ∈ l, (Lit.int .u8 x).wf = true) : ∀ x ∈ l, 0 ≤ x ∧ x < 256 := fun x hx => wf_u8 (h x hx)
theorem wf_all_i64 {l : List Int} (h : ∀ x ∈ l, (Lit.int .i64 x).wf = true) : ∀ x ∈ l, -9223372036854775808 ≤ x ∧ x < 9223372036854775808 := fun x hx => wf_i64 (h x hx)

/-- The bit at a place of the bytes' row of bits. -/
def bitAt (l : List Int) (j : Nat) : Int := l.getD (j / 8) 0 / 2 ^ (j % 8) % 2
/-- So many bits from a place on, as a number, the first one lowest. -/
def bitVal (l : List Int) : Nat → Nat → Int
  | _, 0 => 0
  | s, c + 1 => bitAt l s + 2 * bitVal l (s + 1) c
theorem bitAt_01 (l : List Int) (j : Nat) : 0 ≤ bitAt l j ∧ bitAt l j ≤ 1 := by unfold bitAt; omega
theorem bitVal_lt (l : List Int) : ∀ (c s : Nat), 0 ≤ bitVal l s c ∧ bitVal l s c < 2 ^ c
  | 0, _ => by simp [bitVal]
  | c + 1, s => by
    have ih := bitVal_lt l c (s + 1)
    have b := bitAt_01 l s
    simp only [bitVal]
    rw [Int.pow_succ]
    omega
theorem bitVal_snoc (l : List Int) : ∀ (c s : Nat), bitVal l s (c + 1) = bitVal l s c + bitAt l (s + c) * 2 ^ c
  | 0, s => by simp [bitVal]
  | c + 1, s => by
    have ih := bitVal_snoc l c (s + 1)
    have e : bitVal l s (c + 1 + 1) = bitAt l s + 2 * bitVal l (s + 1) (c + 1) := rfl
    have e2 : bitVal l s (c + 1) = bitAt l s + 2 * bitVal l (s + 1) c := rfl
    rw [e, ih, e2, Int.pow_succ, show s + 1 + c = s + (c + 1) by omega, ← Int.mul_assoc]
    generalize bitAt l (s + (c + 1)) * 2 ^ c = q
    omega

theorem l3Bit_tell (l : List Int) (h8 : ∀ x ∈ l, 0 ≤ x ∧ x < 256) (hl : l.length ≤ 140737488351232) (j : Nat) (hj : j < 8 * l.length) : spec_l3Bit.f l (j : Int) = some (bitAt l j) := by
  have b := rd_all (P := fun x => 0 ≤ x ∧ x < 256) h8 (by omega) ((j / 8 : Nat) : Int)
  have hm : ∀ x, Go.bits .and .i64 x 1 = x % 2 := fun x => and_mask 1 (by decide) x
  unfold spec_l3Bit.f
  rw [Int.tdiv_eq_ediv_of_nonneg (by omega), Int.tmod_eq_emod_of_nonneg (by omega), show ((j : Int) / 8) = ((j / 8 : Nat) : Int) by omega, show ((j : Int) % 8) = ((j % 8 : Nat) : Int) by omega, wrap64_id (n := ((j / 8 : Nat) : Int)) (by omega) (by omega), wrapU64_id (by omega) (by omega), if_pos (by omega), if_pos (by omega), if_pos (by omega), wrap64_id (n := rd l _) (by omega) (by omega), shr_i64 (by omega), hm, rd_nat]
  rfl
theorem specReadBits_l0 (l : List Int) (h8 : ∀ x ∈ l, 0 ≤ x ∧ x < 256) (hl : l.length ≤ 140737488351232) (s n : Nat) (hn : n ≤ 24) (hs : s + n ≤ 8 * l.length) : ∀ (k : Nat), k ≤ n → Ev (fun q => spec_ReadBits.l0 q l (s : Int) (bitVal l (s + k) (n - k)) ((k : Int) - 1)) (bitVal l s n, 0)
  | 0, _ => by
    refine Ev.step (f := fun _ => some (bitVal l s n, 0)) (fun k => ?_) (Ev.now _)
    simp only [spec_ReadBits.l0]
    rw [if_neg (by omega)]
    simp
  | k + 1, hk => by
    have ih := specReadBits_l0 l h8 hl s n hn hs k (by omega)
    have e : bitVal l (s + k) (n - k) = bitAt l (s + k) + 2 * bitVal l (s + (k + 1)) (n - (k + 1)) := by
      rw [show n - k = (n - (k + 1)) + 1 by omega]; rfl
    have v := bitVal_lt l (n - (k + 1)) (s + (k + 1))
    obtain ⟨_, p2⟩ := pow_bounds (n := n - (k + 1)) (m := 24) (by omega)
    have b := bitAt_01 l (s + k)
    rw [e] at ih
    have w1 : wrap64 ((s : Int) + (((k + 1 : Nat) : Int) - 1)) = ((s + k : Nat) : Int) := by rw [wrap64_id (by omega) (by omega)]; omega
    have w2 : wrap64 (((k + 1 : Nat) : Int) - 1 - 1) = (k : Int) - 1 := by rw [wrap64_id (by omega) (by omega)]; omega
    have g : ((k + 1 : Nat) : Int) - 1 ≥ 0 := by clear w1 w2; omega
    have hj : s + k < 8 * l.length := by clear w1 w2; omega
    generalize bitVal l (s + (k + 1)) (n - (k + 1)) = q at *
    have b1 : -9223372036854775808 ≤ 2 * q ∧ 2 * q < 9223372036854775808 := by clear w1 w2; omega
    have b2 : -9223372036854775808 ≤ 2 * q + bitAt l (s + k) ∧ 2 * q + bitAt l (s + k) < 9223372036854775808 := by clear w1 w2; omega
    refine Ev.step (fun k' => ?_) ih
    simp only [spec_ReadBits.l0]
    rw [if_pos g, w1, l3Bit_tell l h8 hl (s + k) hj, w2]
    simp only [Option.bind_some]
    rw [wrap64_id b1.1 b1.2, wrap64_id b2.1 b2.2, Int.add_comm]

theorem implReadBits_l0 (l : List Int) (h8 : ∀ x ∈ l, 0 ≤ x ∧ x < 256) (hl : l.length ≤ 140737488351232) (s n : Nat) (hn : n ≤ 24) (hs : s + n ≤ 8 * l.length) : ∀ (d k : Nat), k + d = n → Ev (fun q => impl_ReadBits.l0 q l (s : Int) (bitVal l s k) (n : Int) (k : Int)) (bitVal l s n, 0)
  | 0, k, hk => by
    obtain rfl : k = n := by omega
    refine Ev.step (f := fun _ => some (bitVal l s k, 0)) (fun k' => ?_) (Ev.now _)
    simp only [impl_ReadBits.l0]
    rw [if_neg (by omega)]
  | d + 1, k, hk => by
    have ih := implReadBits_l0 l h8 hl s n hn hs d (k + 1) (by omega)
    rw [bitVal_snoc] at ih
    have v := bitVal_lt l k s
    obtain ⟨p1, p2⟩ := pow_bounds (n := k) (m := 24) (by omega)
    have bb := bitAt_01 l (s + k)
    have b := rd_all (P := fun x => 0 ≤ x ∧ x < 256) h8 (by omega) (((s + k) / 8 : Nat) : Int)
    have hm : ∀ x, Go.bits .and .i64 x 1 = x % 2 := fun x => and_mask 1 (by decide) x
    have m0 : 0 ≤ bitAt l (s + k) * 2 ^ k := Int.mul_nonneg bb.1 (by omega)
    have m1 : bitAt l (s + k) * 2 ^ k ≤ 1 * 2 ^ 24 := Int.mul_le_mul bb.2 p2 (by omega) (by omega)
    have e1 : wrap64 ((s : Int) + (k : Int)) = ((s + k : Nat) : Int) := by rw [wrap64_id (by omega) (by omega)]; omega
    have e2 : (rd l (((s + k) / 8 : Nat) : Int)) / 2 ^ ((s + k) % 8) % 2 = bitAt l (s + k) := by rw [rd_nat]; rfl
    have g3 : (((s + k) / 8 : Nat) : Int) < (l.length : Int) := by clear e1; omega
    refine Ev.step (fun k' => ?_) ih
    simp only [impl_ReadBits.l0]
    rw [e1]
    clear e1
    rw [Int.tdiv_eq_ediv_of_nonneg (a := ((s + k : Nat) : Int)) (by omega), Int.tmod_eq_emod_of_nonneg (a := ((s + k : Nat) : Int)) (by omega), show (((s + k : Nat) : Int) / 8) = (((s + k) / 8 : Nat) : Int) by omega, show (((s + k : Nat) : Int) % 8) = (((s + k) % 8 : Nat) : Int) by omega]
    rw [wrap64_id (n := (((s + k) / 8 : Nat) : Int)) (by omega) (by omega)]
    rw [if_pos (by omega), if_pos (by omega), if_pos g3, if_pos (by omega), if_pos (by omega), wrap64_id (n := rd l _) (by omega) (by omega), shr_i64 (by omega), hm, e2, shl_i64 (by omega) (by omega) (by omega), wrap64_id (n := (k : Int) + 1) (by omega) (by omega)]
    rw [or_low (x := bitVal l s k) (y := bitAt l (s + k) * 2 ^ k) k (by omega) (by omega) (by omega) (by omega) (Int.mul_emod_left _ _) (by omega)]
    simp

def readR (l : List Int) (at_ n : Int) : Int × Int :=
  if at_ < 0 ∨ ¬ (0 ≤ n ∧ n ≤ 24) then (0, 2) else if n > mx 0 (8 * (l.length : Int) - at_) then (0, 1) else (bitVal l at_.toNat n.toNat, 0)

theorem specReadBits_ev (l : List Int) (h8 : ∀ x ∈ l, 0 ≤ x ∧ x < 256) (hl : l.length ≤ 140737488351232) (at_ n : Int) (ha : at_ < 9223372036854775808) : Ev (fun k => spec_ReadBits.f k l at_ n) (readR l at_ n) := by
  unfold spec_ReadBits.f readR
  rw [l1In_tell]
  simp only [Option.bind_some]
  have bad : Ev (fun k => spec_ReadBits.j0 k l at_ n true) (0, 2) := Ev.step (f := fun _ => some (0, 2)) (fun k => by simp [spec_ReadBits.j0]) (Ev.now _)
  by_cases h0 : at_ < 0
  · simp only [if_pos h0, h0, true_or, if_true]; exact bad
  · simp only [if_neg h0, h0, false_or]
    by_cases hn : 0 ≤ n ∧ n ≤ 24
    · simp only [decide_eq_true hn, Bool.not_true, hn, not_true_eq_false, if_false]
      obtain ⟨m, rfl⟩ := Int.eq_ofNat_of_zero_le hn.1
      obtain ⟨s, rfl⟩ := Int.eq_ofNat_of_zero_le (show 0 ≤ at_ by omega)
      have w1 : wrap64 (8 * (l.length : Int)) = 8 * (l.length : Int) := wrap64_id (by omega) (by omega)
      have w2 : wrap64 (8 * (l.length : Int) - (s : Int)) = 8 * (l.length : Int) - (s : Int) := wrap64_id (by clear w1; omega) (by clear w1; omega)
      by_cases hd : (m : Int) > mx 0 (8 * (l.length : Int) - (s : Int))
      · rw [if_pos hd]
        refine Ev.step (f := fun _ => some (0, 1)) (fun k => ?_) (Ev.now _)
        simp only [spec_ReadBits.j0]
        rw [if_neg (by simp), w1, w2, if_pos hd]
      · rw [if_neg hd]
        simp only [Int.toNat_natCast]
        have hmx : m = 0 ∨ s + m ≤ 8 * l.length := by
          clear w1 w2; unfold mx at hd; split at hd <;> omega
        refine Ev.step (f := fun k => spec_ReadBits.l0 k l (s : Int) 0 ((m : Int) - 1)) (fun k => ?_) ?_
        · simp only [spec_ReadBits.j0]
          rw [if_neg (by simp), w1, w2, if_neg hd, wrap64_id (n := (m : Int) - 1) (by clear w1 w2; omega) (by clear w1 w2; omega)]
        · rcases hmx with rfl | h
          · refine Ev.step (f := fun _ => some (0, 0)) (fun k => ?_) (Ev.now _)
            simp [spec_ReadBits.l0]
          · have e := specReadBits_l0 l h8 hl s m (by clear w1 w2; omega) h m (by omega)
            simpa [bitVal] using e
    · simp only [decide_eq_false hn, Bool.not_false, hn, not_false_eq_true, if_true]; exact bad

theorem implReadBits_ev (l : List Int) (h8 : ∀ x ∈ l, 0 ≤ x ∧ x < 256) (hl : l.length ≤ 140737488351232) (at_ n : Int) (ha : at_ < 9223372036854775808) : Ev (fun k => impl_ReadBits.f k l at_ n) (readR l at_ n) := by
  unfold impl_ReadBits.f readR
  rw [in_tell]
  simp only [Option.bind_some]
  have bad : Ev (fun k => impl_ReadBits.j0 k l at_ n true) (0, 2) := Ev.step (f := fun _ => some (0, 2)) (fun k => by simp [impl_ReadBits.j0]) (Ev.now _)
  by_cases h0 : at_ < 0
  · simp only [if_pos h0, h0, true_or, if_true]; exact bad
  · simp only [if_neg h0, h0, false_or]
    by_cases hn : 0 ≤ n ∧ n ≤ 24
    · simp only [decide_eq_true hn, Bool.not_true, hn, not_true_eq_false, if_false]
      obtain ⟨m, rfl⟩ := Int.eq_ofNat_of_zero_le hn.1
      obtain ⟨s, rfl⟩ := Int.eq_ofNat_of_zero_le (show 0 ≤ at_ by omega)
      have w1 : wrap64 (8 * (l.length : Int)) = 8 * (l.length : Int) := wrap64_id (by omega) (by omega)
      have w2 : wrap64 (8 * (l.length : Int) - (s : Int)) = 8 * (l.length : Int) - (s : Int) := wrap64_id (by clear w1; omega) (by clear w1; omega)
      by_cases hd : (m : Int) > mx 0 (8 * (l.length : Int) - (s : Int))
      · rw [if_pos hd]
        refine Ev.step (f := fun _ => some (0, 1)) (fun k => ?_) (Ev.now _)
        simp only [impl_ReadBits.j0]
        rw [if_neg (by simp), w1, w2, if_pos hd]
      · rw [if_neg hd]
        simp only [Int.toNat_natCast]
        have hmx : m = 0 ∨ s + m ≤ 8 * l.length := by
          clear w1 w2; unfold mx at hd; split at hd <;> omega
        refine Ev.step (f := fun k => impl_ReadBits.l0 k l (s : Int) 0 (m : Int) 0) (fun k => ?_) ?_
        · simp only [impl_ReadBits.j0]
          rw [if_neg (by simp), w1, w2, if_neg hd]
        · rcases hmx with rfl | h
          · refine Ev.step (f := fun _ => some (0, 0)) (fun k => ?_) (Ev.now _)
            simp [impl_ReadBits.l0]
          · have e := implReadBits_l0 l h8 hl s m (by clear w1 w2; omega) h m 0 (by omega)
            simpa [bitVal] using e
    · simp only [decide_eq_false hn, Bool.not_false, hn, not_false_eq_true, if_true]; exact bad


theorem FnExactReadBits : laws_FnExactReadBits.Pure := by
  intro l a n _ hl h8 ha _
  have ha := (wf_i64 ha).2
  refine Ev.rounds ?_
  unfold laws_FnExactReadBits.f
  by_cases h1 : (l.length : Int) > 1048576
  · exact Ev.ifT h1 (Ev.now _)
  have t := toByteS_ev l (by omega)
  have e := eqByteS_ev l (by omega)
  have hj : Ev (fun k => laws_FnExactReadBits.j0 k l l ((readR l a n).2 != (readR l a n).2)) true := by
    simp only [bne_self_eq_false]
    refine Ev.step (fun k => by simp only [laws_FnExactReadBits.j0]; rfl) ?_
    exact Ev.ifF (by simp) (Ev.bind t (Ev.bind e (Ev.ifT rfl (Ev.now _))))
  exact Ev.ifF h1 (Ev.bind t (Ev.bind (specReadBits_ev l (wf_all_u8 h8) (by omega) a n ha) (Ev.bind t (Ev.bind (implReadBits_ev l (wf_all_u8 h8) (by omega) a n ha) (Ev.ifT rfl hj)))))

end Go.Proofs.Ytclejdchdfmapab.Pure
