/- The plain law of FnExactCrc, over numbers and lists alone: what the printed functions answer is true for all arguments. Conditions: those of the arguments' kinds. -/
import Derived.Test.YtclejdchdfmapabPFnExactCrcx1
import Derived.Test.YtclejdchdfmapabAid
set_option linter.unusedVariables false
set_option linter.unusedSimpArgs false
namespace Go.Proofs.Ytclejdchdfmapab.Pure
open Go.RowKit Go.Proofs.Ytclejdchdfmapab.Aid Go.Proofs.Ytclejdchdfmapab.PFnExactCrc Go.Proofs.YtclejdchdfmapabW.PrintWords Go.Proofs.YtclejdchdfmapabW.PrintLast Go.Proofs.YtclejdchdfmapabW.PrintMore
theorem toByteS_l0 (l : List Int) (hl : l.length ≤ 140737488351232) : ∀ (d : Nat) (x : List Int) (i : Nat), x.length = l.length → i + d = l.length → x.take i = l.take i → Ev (fun k => laws_toByteS.l0 k l x (i : Int)) l
  | 0, x, i, hx, hi, ht => by
    refine Ev.step (f := fun _ => some l) (fun k => ?_) (Ev.now _)
    simp only [laws_toByteS.l0]
    rw [if_neg (by omega)]
    congr 1
    rw [List.take_of_length_le (by omega), List.take_of_length_le (by omega)] at ht
    exact ht
  | d + 1, x, i, hx, hi, ht => by
    have ih := toByteS_l0 l hl d (x.set i (rd l i)) (i + 1) (by simpa using hx) (by omega) (by
      rw [List.take_succ_eq_append_getElem (by simp; omega), List.take_succ_eq_append_getElem (by omega), List.take_set_of_le (by omega), ht]
      simp [rd, List.getElem?_eq_getElem (show i < l.length by omega)])
    refine Ev.step (fun k => ?_) ih
    simp only [laws_toByteS.l0]
    rw [if_pos (by omega), if_pos (by omega), if_pos (by omega), wrap64_id (by omega) (by omega)]
    simp
theorem toByteS_ev (l : List Int) (hl : l.length ≤ 140737488351232) : Ev (fun k => laws_toByteS.f k l) l := by
  refine Ev.congr (fun k => ?_) (toByteS_l0 l hl l.length (List.replicate l.length 0) 0 (by simp) (by simp) (by simp))
  simp only [laws_toByteS.f]
  rw [if_pos (by omega), if_pos (by omega)]
  simp

theorem eqByteS_l0 (l : List Int) (hl : l.length ≤ 140737488351232) : ∀ (d : Nat) (i : Nat), i + d = l.length → Ev (fun k => laws_eqByteS.l0 k l l (i : Int)) true
  | 0, i, hi => by
    refine Ev.step (f := fun _ => some true) (fun k => ?_) (Ev.now _)
    simp only [laws_eqByteS.l0]
    rw [if_neg (by omega)]
  | d + 1, i, hi => by
    have ih := eqByteS_l0 l hl d (i + 1) (by omega)
    refine Ev.step (fun k => ?_) ih
    simp only [laws_eqByteS.l0]
    rw [if_pos (by omega), if_pos (by omega), if_pos (by omega), wrap64_id (by omega) (by omega)]
    simp
theorem eqByteS_ev (l : List Int) (hl : l.length ≤ 140737488351232) : Ev (fun k => laws_eqByteS.f k l l) true := by
  refine Ev.congr (fun k => ?_) (eqByteS_l0 l hl l.length 0 (by simp))
  simp only [laws_eqByteS.f]
  simp

theorem wf_all_u8 {l : List Int} (h : ∀ x ∈ l, (Lit.int .u8 x).wf = true) : ∀ x ∈ l, 0 ≤ x ∧ x < 256 := fun x hx => wf_u8 (h x hx)
theorem wf_all_i64 {l : List Int} (h : ∀ x ∈ l, (Lit.int .i64 x).wf = true) : ∀ x ∈ l, -9223372036854775808 ≤ x ∧ x < 9223372036854775808 := fun x hx => wf_i64 (h x hx)

theorem xor_u32 {a b : Int} (ha : 0 ≤ a ∧ a < 4294967296) (hb : 0 ≤ b ∧ b < 4294967296) : 0 ≤ Go.bits .xor .i64 a b ∧ Go.bits .xor .i64 a b < 4294967296 := by
  obtain ⟨a, rfl⟩ := Int.eq_ofNat_of_zero_le ha.1
  obtain ⟨b, rfl⟩ := Int.eq_ofNat_of_zero_le hb.1
  rw [xor_i64 a b (by omega) (by omega)]
  have := Nat.xor_lt_two_pow (n := 32) (x := a) (y := b) (by omega) (by omega)
  omega
/-- One bit of the sum of bytes. -/
def crcBit (x : Int) : Int := if x % 2 = 1 then Go.bits .xor .i64 (x / 2) 3988292384 else x / 2
def crcBits : Nat → Int → Int
  | 0, x => x
  | n + 1, x => crcBits n (crcBit x)
def crcFold : Int → List Int → Int
  | x, [] => x
  | x, v :: r => crcFold (crcBits 8 (Go.bits .xor .i64 x v)) r
def crcOf (l : List Int) : Int := Go.bits .xor .i64 (crcFold 4294967295 l) 4294967295
theorem crcBit_u32 {x : Int} (h : 0 ≤ x ∧ x < 4294967296) : 0 ≤ crcBit x ∧ crcBit x < 4294967296 := by
  unfold crcBit
  split
  · exact xor_u32 (by omega) (by omega)
  · omega
theorem crcBits_u32 : ∀ (n : Nat) {x : Int}, 0 ≤ x ∧ x < 4294967296 → 0 ≤ crcBits n x ∧ crcBits n x < 4294967296
  | 0, _, h => h
  | n + 1, _, h => crcBits_u32 n (crcBit_u32 h)

theorem specCrc_l1 (l : List Int) (i : Int) {r : Int} : ∀ (d : Nat) (x : Int), d ≤ 8 → 0 ≤ x ∧ x < 4294967296 → Ev (fun k => spec_Crc.l0 k l (crcBits d x) (wrap64 (i + 1))) r → Ev (fun k => spec_Crc.l1 k l x i ((8 - d : Nat) : Int)) r
  | 0, x, hd, hx, h => by
    refine Ev.step (fun k => ?_) h
    simp only [spec_Crc.l1]
    rw [if_neg (by omega)]
    rfl
  | d + 1, x, hd, hx, h => by
    have ih := specCrc_l1 l i (r := r) d (crcBit x) (by omega) (crcBit_u32 hx) h
    refine Ev.step (fun k => ?_) ih
    simp only [spec_Crc.l1]
    rw [if_pos (by omega), Int.tmod_eq_emod_of_nonneg hx.1, Int.tdiv_eq_ediv_of_nonneg hx.1, wrap64_id (n := x / 2) (by omega) (by omega), wrap64_id (n := ((8 - (d + 1) : Nat) : Int) + 1) (by omega) (by omega), show ((8 - (d + 1) : Nat) : Int) + 1 = ((8 - d : Nat) : Int) by omega]
    unfold crcBit
    split <;> rfl
theorem specCrc_l0 (l : List Int) (h8 : ∀ x ∈ l, 0 ≤ x ∧ x < 256) (hl : l.length ≤ 140737488351232) : ∀ (d : Nat) (x : Int) (i : Nat), i + d = l.length → 0 ≤ x ∧ x < 4294967296 → Ev (fun k => spec_Crc.l0 k l x (i : Int)) (Go.bits .xor .i64 (crcFold x (l.drop i)) 4294967295)
  | 0, x, i, hi, hx => by
    refine Ev.step (f := fun _ => some (Go.bits .xor .i64 x 4294967295)) (fun k => ?_) (Ev.const ?_)
    · simp only [spec_Crc.l0]
      rw [if_neg (by omega)]
    · rw [List.drop_of_length_le (by omega)]; rfl
  | d + 1, x, i, hi, hx => by
    have e3 : l.drop i = l[i]'(by omega) :: l.drop (i + 1) := List.drop_eq_getElem_cons (by omega)
    have b := h8 (l[i]'(by omega)) (List.getElem_mem _)
    have hx2 := xor_u32 hx (b := l[i]'(by omega)) (by omega)
    have ih := specCrc_l0 l h8 hl d (crcBits 8 (Go.bits .xor .i64 x (l[i]'(by omega)))) (i + 1) (by omega) (crcBits_u32 8 hx2)
    rw [e3]
    have h := specCrc_l1 l i 8 _ (by omega) hx2 (by rw [wrap64_id (by omega) (by omega)]; exact ih)
    refine Ev.step (fun k => ?_) h
    simp only [spec_Crc.l0]
    rw [if_pos (by omega), if_pos (by omega), rd_get l i (by omega), wrap64_id (by omega) (by omega)]
    rfl
theorem specCrc_ev (l : List Int) (h8 : ∀ x ∈ l, 0 ≤ x ∧ x < 256) (hl : l.length ≤ 140737488351232) : Ev (fun k => spec_Crc.f k l) (crcOf l) := by
  have h := specCrc_l0 l h8 hl l.length 4294967295 0 (by omega) (by omega)
  exact h

theorem implCrc_l1 (l : List Int) (n i : Int) {r : Int} : ∀ (d : Nat) (x : Int), d ≤ 8 → 0 ≤ x ∧ x < 4294967296 → Ev (fun k => impl_Crc.l0 k (crcBits d x) l n (wrap64 (i + 1))) r → Ev (fun k => impl_Crc.l1 k x l n i ((8 - d : Nat) : Int)) r
  | 0, x, hd, hx, h => by
    refine Ev.step (fun k => ?_) h
    simp only [impl_Crc.l1]
    rw [if_neg (by omega)]
    rfl
  | d + 1, x, hd, hx, h => by
    have ih := implCrc_l1 l n i (r := r) d (crcBit x) (by omega) (crcBit_u32 hx) h
    have hm : Go.bits .and .i64 x 1 = x % 2 := and_mask 1 (by decide) x
    refine Ev.step (fun k => ?_) ih
    simp only [impl_Crc.l1]
    rw [if_pos (by omega), hm, wrap64_id (n := ((8 - (d + 1) : Nat) : Int) + 1) (by omega) (by omega), show ((8 - (d + 1) : Nat) : Int) + 1 = ((8 - d : Nat) : Int) by omega]
    unfold crcBit
    split <;> rfl
theorem implCrc_l0 (l : List Int) (h8 : ∀ x ∈ l, 0 ≤ x ∧ x < 256) (hl : l.length ≤ 140737488351232) : ∀ (d : Nat) (x : Int) (i : Nat), i + d = l.length → 0 ≤ x ∧ x < 4294967296 → Ev (fun k => impl_Crc.l0 k x l (l.length : Int) (i : Int)) (Go.bits .xor .i64 (crcFold x (l.drop i)) 4294967295)
  | 0, x, i, hi, hx => by
    refine Ev.step (f := fun _ => some (Go.bits .xor .i64 x 4294967295)) (fun k => ?_) (Ev.const ?_)
    · simp only [impl_Crc.l0]
      rw [if_neg (by omega)]
    · rw [List.drop_of_length_le (by omega)]; rfl
  | d + 1, x, i, hi, hx => by
    have e3 : l.drop i = l[i]'(by omega) :: l.drop (i + 1) := List.drop_eq_getElem_cons (by omega)
    have b := h8 (l[i]'(by omega)) (List.getElem_mem _)
    have hx2 := xor_u32 hx (b := l[i]'(by omega)) (by omega)
    have ih := implCrc_l0 l h8 hl d (crcBits 8 (Go.bits .xor .i64 x (l[i]'(by omega)))) (i + 1) (by omega) (crcBits_u32 8 hx2)
    rw [e3]
    have h := implCrc_l1 l (l.length : Int) i 8 _ (by omega) hx2 (by rw [wrap64_id (by omega) (by omega)]; exact ih)
    refine Ev.step (fun k => ?_) h
    simp only [impl_Crc.l0]
    rw [if_pos (by omega), if_pos (by omega), if_pos (by omega), rd_get l i (by omega), wrap64_id (by omega) (by omega)]
    rfl
theorem implCrc_ev (l : List Int) (h8 : ∀ x ∈ l, 0 ≤ x ∧ x < 256) (hl : l.length ≤ 140737488351232) : Ev (fun k => impl_Crc.f k l) (crcOf l) := by
  have h := implCrc_l0 l h8 hl l.length 4294967295 0 (by omega) (by omega)
  exact h

theorem FnExactCrc : laws_FnExactCrc.Pure := by
  intro l _ hl h8
  refine Ev.rounds ?_
  unfold laws_FnExactCrc.f
  by_cases h1 : (l.length : Int) > 1048576
  · exact Ev.ifT h1 (Ev.now _)
  have t := toByteS_ev l (by omega)
  have e := eqByteS_ev l (by omega)
  exact Ev.ifF h1 (Ev.bind t (Ev.bind (specCrc_ev l (wf_all_u8 h8) (by omega)) (Ev.bind t (Ev.bind (implCrc_ev l (wf_all_u8 h8) (by omega)) (Ev.ifT rfl (Ev.bind t (Ev.bind e (Ev.ifT rfl (Ev.now _)))))))))

end Go.Proofs.Ytclejdchdfmapab.Pure
