/- The plain law of FnWords, over numbers and lists alone: what the printed functions answer is true for all arguments. Conditions: those of the arguments' kinds. -/
import Derived.Test.YtdilibnfihcmkaaQFnWordsx4
import Derived.Test.YtdilibnfihcmkaaAid
import Derived.Lib.Bytealg
set_option linter.unusedVariables false
set_option linter.unusedSimpArgs false
namespace Go.Proofs.Ytdilibnfihcmkaa.Pure
open Go.RowKit Go.Proofs.Ytdilibnfihcmkaa.Aid Go.Proofs.Ytdilibnfihcmkaa.QFnWords Go.Proofs.YtdilibnfihcmkaaW.PrintWords Go.Proofs.YtdilibnfihcmkaaW.PrintLast Go.Proofs.YtdilibnfihcmkaaW.PrintMore
theorem in_tell (a b c : Int) : impl_in.f a b c = some (decide (b ≤ a ∧ a ≤ c)) := by
  unfold impl_in.f
  by_cases h : a ≥ b
  · rw [if_pos h]; congr 1; rw [Bool.eq_iff_iff]; simp only [decide_eq_true_eq]; omega
  · rw [if_neg h]; congr 1; symm; rw [decide_eq_false_iff_not]; omega

theorem wf_all_u8 {l : List Int} (h : ∀ x ∈ l, (Lit.int .u8 x).wf = true) : ∀ x ∈ l, 0 ≤ x ∧ x < 256 := fun x hx => wf_u8 (h x hx)
theorem wf_all_i64 {l : List Int} (h : ∀ x ∈ l, (Lit.int .i64 x).wf = true) : ∀ x ∈ l, -9223372036854775808 ≤ x ∧ x < 9223372036854775808 := fun x hx => wf_i64 (h x hx)

theorem sameBytes_l0 (a b : List Int) (hab : a.length = b.length) (hl : a.length ≤ 140737488355328) : ∀ (d : Nat) (i : Nat), i + d = a.length → Ev (fun k => laws_sameBytes.l0 k a b (i : Int)) (decide (a.drop i = b.drop i))
  | 0, i, hi => by
    refine Ev.step (f := fun _ => some true) (fun k => ?_) (Ev.const ?_)
    · simp only [laws_sameBytes.l0]
      rw [if_neg (by omega)]
    · rw [List.drop_of_length_le (by omega), List.drop_of_length_le (by omega)]; simp
  | d + 1, i, hi => by
    have ih := sameBytes_l0 a b hab hl d (i + 1) (by omega)
    have e1 : a.drop i = a[i]'(by omega) :: a.drop (i + 1) := List.drop_eq_getElem_cons (by omega)
    have e2 : b.drop i = b[i]'(by omega) :: b.drop (i + 1) := List.drop_eq_getElem_cons (by omega)
    by_cases e : a[i]'(by omega) = b[i]'(by omega)
    · have e3 : decide (a.drop i = b.drop i) = decide (a.drop (i + 1) = b.drop (i + 1)) := by
        rw [e1, e2, e, Bool.eq_iff_iff]; simp only [decide_eq_true_eq, List.cons.injEq, true_and]
      rw [e3]
      refine Ev.step (fun k => ?_) ih
      simp only [laws_sameBytes.l0]
      rw [if_pos (by omega), if_pos (by omega), if_pos (by omega), if_pos (by rw [rd_get a i (by omega), rd_get b i (by omega)]; exact e), wrap64_id (by omega) (by omega)]
      simp
    · have e3 : decide (a.drop i = b.drop i) = false := by
        rw [e1, e2, decide_eq_false_iff_not]; simp only [List.cons.injEq, e, false_and, not_false_eq_true]
      rw [e3]
      refine Ev.step (f := fun _ => some false) (fun k => ?_) (Ev.now _)
      simp only [laws_sameBytes.l0]
      rw [if_pos (by omega), if_pos (by omega), if_pos (by omega), if_neg (by rw [rd_get a i (by omega), rd_get b i (by omega)]; exact e)]
theorem sameBytes_tell (a b : List Int) (hl : a.length ≤ 140737488355328) : Ev (fun k => laws_sameBytes.f k a b) (decide (a = b)) := by
  by_cases h : a.length = b.length
  · refine Ev.congr (fun k => ?_) (sameBytes_l0 a b h hl a.length 0 (by simp))
    simp only [laws_sameBytes.f]
    rw [if_pos (by omega)]; simp
  · refine Ev.congr (f := fun _ => some false) (fun k => ?_) (Ev.const ?_)
    · simp only [laws_sameBytes.f]
      rw [if_neg (by omega)]
    · have : a ≠ b := fun e => h (by rw [e])
      simp [this]

theorem xor_u32 {a b : Int} (ha : 0 ≤ a ∧ a < 4294967296) (hb : 0 ≤ b ∧ b < 4294967296) : 0 ≤ Go.bits .xor .i64 a b ∧ Go.bits .xor .i64 a b < 4294967296 := by
  obtain ⟨a, rfl⟩ := Int.eq_ofNat_of_zero_le ha.1
  obtain ⟨b, rfl⟩ := Int.eq_ofNat_of_zero_le hb.1
  rw [xor_i64 a b (by omega) (by omega)]
  have := Nat.xor_lt_two_pow (n := 32) (x := a) (y := b) (by omega) (by omega)
  omega
/-- One bit of the sum of bytes. -/
def crcBit (x : Int) : Int := if x % 2 = 1 then Go.bits .xor .i64 (x / 2) 3988292384 else x / 2
def crcBits : Nat → Int → Int
  | 0, x => x
  | n + 1, x => crcBits n (crcBit x)
def crcFold : Int → List Int → Int
  | x, [] => x
  | x, v :: r => crcFold (crcBits 8 (Go.bits .xor .i64 x v)) r
def crcOf (l : List Int) : Int := Go.bits .xor .i64 (crcFold 4294967295 l) 4294967295
theorem crcBit_u32 {x : Int} (h : 0 ≤ x ∧ x < 4294967296) : 0 ≤ crcBit x ∧ crcBit x < 4294967296 := by
  unfold crcBit
  split
  · exact xor_u32 (by omega) (by omega)
  · omega
theorem crcBits_u32 : ∀ (n : Nat) {x : Int}, 0 ≤ x ∧ x < 4294967296 → 0 ≤ crcBits n x ∧ crcBits n x < 4294967296
  | 0, _, h => h
  | n + 1, _, h => crcBits_u32 n (crcBit_u32 h)

theorem specCrc_l1 (l : List Int) (i : Int) {r : Int} : ∀ (d : Nat) (x : Int), d ≤ 8 → 0 ≤ x ∧ x < 4294967296 → Ev (fun k => spec_Crc.l0 k l (crcBits d x) (wrap64 (i + 1))) r → Ev (fun k => spec_Crc.l1 k l x i ((8 - d : Nat) : Int)) r
  | 0, x, hd, hx, h => by
    refine Ev.step (fun k => ?_) h
    simp only [spec_Crc.l1]
    rw [if_neg (by omega)]
    rfl
  | d + 1, x, hd, hx, h => by
    have ih := specCrc_l1 l i (r := r) d (crcBit x) (by omega) (crcBit_u32 hx) h
    refine Ev.step (fun k => ?_) ih
    simp only [spec_Crc.l1]
    rw [if_pos (by omega), Int.tmod_eq_emod_of_nonneg hx.1, Int.tdiv_eq_ediv_of_nonneg hx.1, wrap64_id (n := x / 2) (by omega) (by omega), wrap64_id (n := ((8 - (d + 1) : Nat) : Int) + 1) (by omega) (by omega), show ((8 - (d + 1) : Nat) : Int) + 1 = ((8 - d : Nat) : Int) by omega]
    unfold crcBit
    split <;> rfl
theorem specCrc_l0 (l : List Int) (h8 : ∀ x ∈ l, 0 ≤ x ∧ x < 256) (hl : l.length ≤ 140737488351232) : ∀ (d : Nat) (x : Int) (i : Nat), i + d = l.length → 0 ≤ x ∧ x < 4294967296 → Ev (fun k => spec_Crc.l0 k l x (i : Int)) (Go.bits .xor .i64 (crcFold x (l.drop i)) 4294967295)
  | 0, x, i, hi, hx => by
    refine Ev.step (f := fun _ => some (Go.bits .xor .i64 x 4294967295)) (fun k => ?_) (Ev.const ?_)
    · simp only [spec_Crc.l0]
      rw [if_neg (by omega)]
    · rw [List.drop_of_length_le (by omega)]; rfl
  | d + 1, x, i, hi, hx => by
    have e3 : l.drop i = l[i]'(by omega) :: l.drop (i + 1) := List.drop_eq_getElem_cons (by omega)
    have b := h8 (l[i]'(by omega)) (List.getElem_mem _)
    have hx2 := xor_u32 hx (b := l[i]'(by omega)) (by omega)
    have ih := specCrc_l0 l h8 hl d (crcBits 8 (Go.bits .xor .i64 x (l[i]'(by omega)))) (i + 1) (by omega) (crcBits_u32 8 hx2)
    rw [e3]
    have h := specCrc_l1 l i 8 _ (by omega) hx2 (by rw [wrap64_id (by omega) (by omega)]; exact ih)
    refine Ev.step (fun k => ?_) h
    simp only [spec_Crc.l0]
    rw [if_pos (by omega), if_pos (by omega), rd_get l i (by omega), wrap64_id (by omega) (by omega)]
    rfl
theorem specCrc_ev (l : List Int) (h8 : ∀ x ∈ l, 0 ≤ x ∧ x < 256) (hl : l.length ≤ 140737488351232) : Ev (fun k => spec_Crc.f k l) (crcOf l) := by
  have h := specCrc_l0 l h8 hl l.length 4294967295 0 (by omega) (by omega)
  exact h

theorem implCrc_l1 (l : List Int) (n i : Int) {r : Int} : ∀ (d : Nat) (x : Int), d ≤ 8 → 0 ≤ x ∧ x < 4294967296 → Ev (fun k => impl_Crc.l0 k (crcBits d x) l n (wrap64 (i + 1))) r → Ev (fun k => impl_Crc.l1 k x l n i ((8 - d : Nat) : Int)) r
  | 0, x, hd, hx, h => by
    refine Ev.step (fun k => ?_) h
    simp only [impl_Crc.l1]
    rw [if_neg (by omega)]
    rfl
  | d + 1, x, hd, hx, h => by
    have ih := implCrc_l1 l n i (r := r) d (crcBit x) (by omega) (crcBit_u32 hx) h
    have hm : Go.bits .and .i64 x 1 = x % 2 := and_mask 1 (by decide) x
    refine Ev.step (fun k => ?_) ih
    simp only [impl_Crc.l1]
    rw [if_pos (by omega), hm, wrap64_id (n := ((8 - (d + 1) : Nat) : Int) + 1) (by omega) (by omega), show ((8 - (d + 1) : Nat) : Int) + 1 = ((8 - d : Nat) : Int) by omega]
    unfold crcBit
    split <;> rfl
theorem implCrc_l0 (l : List Int) (h8 : ∀ x ∈ l, 0 ≤ x ∧ x < 256) (hl : l.length ≤ 140737488351232) : ∀ (d : Nat) (x : Int) (i : Nat), i + d = l.length → 0 ≤ x ∧ x < 4294967296 → Ev (fun k => impl_Crc.l0 k x l (l.length : Int) (i : Int)) (Go.bits .xor .i64 (crcFold x (l.drop i)) 4294967295)
  | 0, x, i, hi, hx => by
    refine Ev.step (f := fun _ => some (Go.bits .xor .i64 x 4294967295)) (fun k => ?_) (Ev.const ?_)
    · simp only [impl_Crc.l0]
      rw [if_neg (by omega)]
    · rw [List.drop_of_length_le (by omega)]; rfl
  | d + 1, x, i, hi, hx => by
    have e3 : l.drop i = l[i]'(by omega) :: l.drop (i + 1) := List.drop_eq_getElem_cons (by omega)
    have b := h8 (l[i]'(by omega)) (List.getElem_mem _)
    have hx2 := xor_u32 hx (b := l[i]'(by omega)) (by omega)
    have ih := implCrc_l0 l h8 hl d (crcBits 8 (Go.bits .xor .i64 x (l[i]'(by omega)))) (i + 1) (by omega) (crcBits_u32 8 hx2)
    rw [e3]
    have h := implCrc_l1 l (l.length : Int) i 8 _ (by omega) hx2 (by rw [wrap64_id (by omega) (by omega)]; exact ih)
    refine Ev.step (fun k => ?_) h
    simp only [impl_Crc.l0]
    rw [if_pos (by omega), if_pos (by omega), if_pos (by omega), rd_get l i (by omega), wrap64_id (by omega) (by omega)]
    rfl
theorem implCrc_ev (l : List Int) (h8 : ∀ x ∈ l, 0 ≤ x ∧ x < 256) (hl : l.length ≤ 140737488351232) : Ev (fun k => impl_Crc.f k l) (crcOf l) := by
  have h := implCrc_l0 l h8 hl l.length 4294967295 0 (by omega) (by omega)
  exact h

def wordBytes (v : Int) : List Int := [v % 256, v / 256 % 256, v / 65536 % 256, v / 16777216 % 256]
theorem wordBytes_u8 (v : Int) : ∀ x ∈ wordBytes v, 0 ≤ x ∧ x < 256 := by
  intro x hx
  simp only [wordBytes, List.mem_cons, List.mem_nil_iff, or_false] at hx
  omega

theorem implPutWord_tell (v : Int) : impl_PutWord.f v = some (wordBytes v) := rfl

/-- A word's value, where its four bytes are there. -/
theorem word_tell (l : List Int) (a : Nat) (h : ∀ i, 0 ≤ rd l i ∧ rd l i < 256) (hl : l.length ≤ 1048576) (ha : a + 4 ≤ l.length) :
    impl_Word.f l (a : Int) = some (rd l a + rd l (a + 1) * 256 + rd l (a + 2) * 65536 + rd l (a + 3) * 16777216, true) := by
  unfold impl_Word.f impl_in.f
  rw [wrap64_id (n := (l.length : Int) - 4) (by omega) (by omega)]
  rw [wrap64_id (n := (a : Int) + 1) (by omega) (by omega), wrap64_id (n := (a : Int) + 2) (by omega) (by omega), wrap64_id (n := (a : Int) + 3) (by omega) (by omega)]
  have b0 := h a
  have b1 := h (a + 1)
  have b2 := h (a + 2)
  have b3 := h (a + 3)
  rw [if_pos (by omega)]
  simp only [Option.bind_some]
  rw [if_pos (by simp; omega)]
  repeat rw [if_pos (by omega)]
  generalize rd l a = x0 at *
  generalize rd l (a + 1) = x1 at *
  generalize rd l (a + 2) = x2 at *
  generalize rd l (a + 3) = x3 at *
  rw [wrap64_id (n := x0) (by omega) (by omega), wrap64_id (n := x1) (by omega) (by omega), wrap64_id (n := x2) (by omega) (by omega), wrap64_id (n := x3) (by omega) (by omega)]
  rw [wrap64_id (n := x1 * 256) (by omega) (by omega), wrap64_id (n := x2 * 65536) (by omega) (by omega), wrap64_id (n := x3 * 16777216) (by omega) (by omega)]
  rw [or_low (x := x0) (y := x1 * 256) 8 (by omega) (by omega) (by omega) (by omega) (by omega) (by omega)]
  rw [or_low (x := x0 + x1 * 256) (y := x2 * 65536) 16 (by omega) (by omega) (by omega) (by omega) (by omega) (by omega)]
  rw [or_low (x := x0 + x1 * 256 + x2 * 65536) (y := x3 * 16777216) 24 (by omega) (by omega) (by omega) (by omega) (by omega) (by omega)]
theorem crcFold_u32 : ∀ (l : List Int) (x : Int), (∀ z ∈ l, 0 ≤ z ∧ z < 256) → 0 ≤ x ∧ x < 4294967296 → 0 ≤ crcFold x l ∧ crcFold x l < 4294967296
  | [], _, _, h => h
  | v :: r, x, h8, h => crcFold_u32 r _ (fun z hz => h8 z (by simp [hz])) (crcBits_u32 8 (xor_u32 h (by have := h8 v (by simp); omega)))
theorem crcOf_u32 (l : List Int) (h8 : ∀ z ∈ l, 0 ≤ z ∧ z < 256) : 0 ≤ crcOf l ∧ crcOf l < 4294967296 := xor_u32 (crcFold_u32 l _ h8 (by decide)) (by decide)

/-- The sum of bytes tells one changed byte. -/
theorem xor_cancel {a b c : Nat} (h : a ^^^ c = b ^^^ c) : a = b := by
  have h2 : (a ^^^ c) ^^^ c = (b ^^^ c) ^^^ c := by rw [h]
  rwa [Nat.xor_assoc, Nat.xor_assoc, Nat.xor_self, Nat.xor_zero, Nat.xor_zero] at h2
theorem xorI_cancel {a b c : Int} (ha : 0 ≤ a ∧ a < 4294967296) (hb : 0 ≤ b ∧ b < 4294967296) (hc : 0 ≤ c ∧ c < 4294967296) (h : Go.bits .xor .i64 a c = Go.bits .xor .i64 b c) : a = b := by
  obtain ⟨a, rfl⟩ := Int.eq_ofNat_of_zero_le ha.1
  obtain ⟨b, rfl⟩ := Int.eq_ofNat_of_zero_le hb.1
  obtain ⟨c, rfl⟩ := Int.eq_ofNat_of_zero_le hc.1
  rw [xor_i64 a c (by omega) (by omega), xor_i64 b c (by omega) (by omega)] at h
  have : a = b := xor_cancel (by exact_mod_cast h)
  rw [this]
theorem xorI_cancel2 {a b c : Int} (ha : 0 ≤ a ∧ a < 4294967296) (hb : 0 ≤ b ∧ b < 4294967296) (hc : 0 ≤ c ∧ c < 4294967296) (h : Go.bits .xor .i64 c a = Go.bits .xor .i64 c b) : a = b := by
  obtain ⟨a, rfl⟩ := Int.eq_ofNat_of_zero_le ha.1
  obtain ⟨b, rfl⟩ := Int.eq_ofNat_of_zero_le hb.1
  obtain ⟨c, rfl⟩ := Int.eq_ofNat_of_zero_le hc.1
  rw [xor_i64 c a (by omega) (by omega), xor_i64 c b (by omega) (by omega)] at h
  have h2 : c ^^^ a = c ^^^ b := by exact_mod_cast h
  rw [Nat.xor_comm c a, Nat.xor_comm c b] at h2
  rw [xor_cancel h2]
theorem top_set (a : Nat) (h : a < 2147483648) : 2147483648 ≤ a ^^^ 3988292384 := by
  have t : (a ^^^ 3988292384).testBit 31 = true := by
    rw [Nat.testBit_xor, Nat.testBit_lt_two_pow (by exact h)]; decide
  exact Nat.ge_two_pow_of_testBit t
theorem crcBit_odd {x : Int} (h : 0 ≤ x ∧ x < 4294967296) (hq : x % 2 = 1) : 2147483648 ≤ crcBit x := by
  unfold crcBit
  rw [if_pos hq]
  obtain ⟨a, ha⟩ := Int.eq_ofNat_of_zero_le (show 0 ≤ x / 2 by omega)
  rw [ha]
  have := xor_i64 a 3988292384 (by omega) (by omega)
  rw [show ((3988292384 : Nat) : Int) = 3988292384 from rfl] at this
  rw [this]
  have := top_set a (by omega)
  omega
theorem crcBit_inj {x y : Int} (hx : 0 ≤ x ∧ x < 4294967296) (hy : 0 ≤ y ∧ y < 4294967296) (h : crcBit x = crcBit y) : x = y := by
  by_cases px : x % 2 = 1
  · by_cases py : y % 2 = 1
    · unfold crcBit at h
      rw [if_pos px, if_pos py] at h
      have := xorI_cancel (by omega) (by omega) (by omega) h
      omega
    · have := crcBit_odd hx px
      rw [h] at this
      unfold crcBit at this
      rw [if_neg py] at this
      omega
  · by_cases py : y % 2 = 1
    · have := crcBit_odd hy py
      rw [← h] at this
      unfold crcBit at this
      rw [if_neg px] at this
      omega
    · unfold crcBit at h
      rw [if_neg px, if_neg py] at h
      omega
theorem crcBits_inj : ∀ (n : Nat) {x y : Int}, 0 ≤ x ∧ x < 4294967296 → 0 ≤ y ∧ y < 4294967296 → crcBits n x = crcBits n y → x = y
  | 0, _, _, _, _, h => h
  | n + 1, _, _, hx, hy, h => crcBit_inj hx hy (crcBits_inj n (crcBit_u32 hx) (crcBit_u32 hy) h)
theorem byte_u32 {v : Int} (h : 0 ≤ v ∧ v < 256) : 0 ≤ v ∧ v < 4294967296 := ⟨h.1, Int.lt_trans h.2 (by decide)⟩
theorem crcStep_inj {x y v : Int} (hx : 0 ≤ x ∧ x < 4294967296) (hy : 0 ≤ y ∧ y < 4294967296) (hv : 0 ≤ v ∧ v < 256) (h : crcBits 8 (Go.bits .xor .i64 x v) = crcBits 8 (Go.bits .xor .i64 y v)) : x = y :=
  xorI_cancel hx hy (byte_u32 hv) (crcBits_inj 8 (xor_u32 hx (byte_u32 hv)) (xor_u32 hy (byte_u32 hv)) h)
theorem crcStep_u32 {x v : Int} (hx : 0 ≤ x ∧ x < 4294967296) (hv : 0 ≤ v ∧ v < 256) : 0 ≤ crcBits 8 (Go.bits .xor .i64 x v) ∧ crcBits 8 (Go.bits .xor .i64 x v) < 4294967296 := crcBits_u32 8 (xor_u32 hx (byte_u32 hv))
theorem crcStep_inj2 {x u v : Int} (hx : 0 ≤ x ∧ x < 4294967296) (hu : 0 ≤ u ∧ u < 256) (hv : 0 ≤ v ∧ v < 256) (h : crcBits 8 (Go.bits .xor .i64 x u) = crcBits 8 (Go.bits .xor .i64 x v)) : u = v :=
  xorI_cancel2 (byte_u32 hu) (byte_u32 hv) hx (crcBits_inj 8 (xor_u32 hx (byte_u32 hu)) (xor_u32 hx (byte_u32 hv)) h)
theorem crcFold_cons (x v : Int) (r : List Int) : crcFold x (v :: r) = crcFold (crcBits 8 (Go.bits .xor .i64 x v)) r := by delta crcFold; rfl
theorem crcFold_inj : ∀ (l : List Int) (x y : Int), (∀ z ∈ l, 0 ≤ z ∧ z < 256) → 0 ≤ x ∧ x < 4294967296 → 0 ≤ y ∧ y < 4294967296 → crcFold x l = crcFold y l → x = y
  | [], _, _, _, _, _, h => h
  | v :: r, x, y, h8, hx, hy, h => by
    have hv := h8 v List.mem_cons_self
    rw [crcFold_cons, crcFold_cons] at h
    exact crcStep_inj hx hy hv (crcFold_inj r _ _ (fun z hz => h8 z (List.mem_cons_of_mem v hz)) (crcStep_u32 hx hv) (crcStep_u32 hy hv) h)
theorem crcFold_set : ∀ (l : List Int) (i : Nat) (v x : Int), (∀ z ∈ l, 0 ≤ z ∧ z < 256) → 0 ≤ v ∧ v < 256 → 0 ≤ x ∧ x < 4294967296 → i < l.length → crcFold x l = crcFold x (l.set i v) → l.getD i 0 = v
  | [], _, _, _, _, _, _, hi, _ => absurd hi (Nat.not_lt_zero _)
  | a :: r, 0, v, x, h8, hv, hx, hi, h => by
    have ha := h8 a List.mem_cons_self
    rw [List.set_cons_zero, crcFold_cons, crcFold_cons] at h
    exact crcStep_inj2 hx ha hv (crcFold_inj r _ _ (fun z hz => h8 z (List.mem_cons_of_mem a hz)) (crcStep_u32 hx ha) (crcStep_u32 hx hv) h)
  | a :: r, i + 1, v, x, h8, hv, hx, hi, h => by
    have ha := h8 a List.mem_cons_self
    rw [List.set_cons_succ, crcFold_cons, crcFold_cons] at h
    exact crcFold_set r i v _ (fun z hz => h8 z (List.mem_cons_of_mem a hz)) hv (crcStep_u32 hx ha) (Nat.lt_of_succ_lt_succ hi) h
theorem crcOf_set (l : List Int) (i : Nat) (v : Int) (h8 : ∀ z ∈ l, 0 ≤ z ∧ z < 256) (hv : 0 ≤ v ∧ v < 256) (hi : i < l.length) (hn : v ≠ l.getD i 0) : crcOf l ≠ crcOf (l.set i v) := by
  intro h
  unfold crcOf at h
  have h8' : ∀ z ∈ l.set i v, 0 ≤ z ∧ z < 256 := fun z hz => by
    rcases List.mem_or_eq_of_mem_set hz with q | q
    · exact h8 z q
    · rw [q]; exact hv
  have := xorI_cancel (crcFold_u32 l _ h8 (by decide)) (crcFold_u32 _ _ h8' (by decide)) (by decide) h
  exact hn (crcFold_set l i v _ h8 hv (by decide) hi this).symm

def digs : List Int := [48, 49, 50, 51, 52, 53, 54, 55, 56, 57, 97, 98, 99, 100, 101, 102]
def hexD (n : Int) : Int := if n < 10 then 48 + n else 87 + n
theorem bt_digs (n : Int) (h0 : 0 ≤ n) (h1 : n < 16) : bt (⟨#[48, 49, 50, 51, 52, 53, 54, 55, 56, 57, 97, 98, 99, 100, 101, 102]⟩ : ByteArray) n = hexD n := by
  obtain ⟨m, rfl⟩ := Int.eq_ofNat_of_zero_le h0
  have hm : m < 16 := by omega
  have : ∀ m : Fin 16, bt (⟨#[48, 49, 50, 51, 52, 53, 54, 55, 56, 57, 97, 98, 99, 100, 101, 102]⟩ : ByteArray) ((m.val : Nat) : Int) = hexD ((m.val : Nat) : Int) := by decide
  exact this ⟨m, hm⟩
def hexO : List Int → List Int
  | [] => []
  | x :: r => hexD (x / 16) :: hexD (x % 16) :: hexO r
theorem hexO_length : ∀ l : List Int, (hexO l).length = 2 * l.length
  | [] => rfl
  | x :: r => by simp [hexO, hexO_length r]; omega
theorem implHex_l0 (l : List Int) (h8 : ∀ x ∈ l, (Lit.int .u8 x).wf = true) (hl : l.length ≤ 1048576) : ∀ (d : Nat) (o : List Int) (i : Nat), i + d = l.length → o.length ≤ 2 * i → Ev (fun k => impl_Hex.l0 k o l (l.length : Int) (i : Int)) (strOfNums (o ++ hexO (l.drop i)))
  | 0, o, i, hi, ho => by
    refine Ev.step (f := fun _ => some (strOfNums o)) (fun k => ?_) (Ev.const ?_)
    · simp only [impl_Hex.l0]
      rw [if_neg (by omega)]
    · rw [List.drop_of_length_le (by omega)]; simp [hexO]
  | d + 1, o, i, hi, ho => by
    have b := rd_u8 h8 (i : Int)
    have e3 : l.drop i = rd l (i : Int) :: l.drop (i + 1) := by rw [rd_get l i (by omega)]; exact List.drop_eq_getElem_cons (by omega)
    have ih := implHex_l0 l h8 hl d (o ++ [hexD (rd l (i : Int) / 16), hexD (rd l (i : Int) % 16)]) (i + 1) (by omega) (by simp; omega)
    rw [e3]
    have e4 : o ++ hexO (rd l (i : Int) :: l.drop (i + 1)) = o ++ [hexD (rd l (i : Int) / 16), hexD (rd l (i : Int) % 16)] ++ hexO (l.drop (i + 1)) := by simp [hexO]
    rw [e4]
    refine Ev.step (fun k => ?_) ih
    simp only [impl_Hex.l0]
    rw [u8_and15 _ b.1 b.2, if_pos (by omega), if_pos (by omega), if_pos (by omega), if_pos (by omega), if_pos (by omega), if_pos (by omega), if_pos (by omega), bt_digs _ (by omega) (by omega), bt_digs _ (by omega) (by omega)]
    simp only [Option.bind_some]
    rw [if_pos (by simp; omega), wrap64_id (by omega) (by omega)]
    simp

theorem bt_str (xs : List Int) (h8 : ∀ x ∈ xs, 0 ≤ x ∧ x < 256) (i : Nat) (hi : i < xs.length) : bt (strOfNums xs) (i : Int) = xs[i] := by
  have hs : i < (strOfNums xs).size := by rw [strOfNums_size]; exact hi
  unfold bt
  rw [dif_pos (by simpa using hs)]
  have hb := h8 _ (List.getElem_mem hi)
  have e : (strOfNums xs)[i]'hs = UInt8.ofNat (xs[i]).toNat := by
    show (strOfNums xs).data[i]'hs = _
    simp [strOfNums]
  simp only [Int.toNat_natCast]
  rw [e, UInt8.toNat_ofNat']
  omega
theorem hexO_u8 : ∀ (l : List Int), (∀ x ∈ l, 0 ≤ x ∧ x < 256) → ∀ z ∈ hexO l, 0 ≤ z ∧ z < 256
  | [], _, z, hz => by simp [hexO] at hz
  | x :: r, h, z, hz => by
    have hx := h x (by simp)
    simp only [hexO, List.mem_cons] at hz
    rcases hz with rfl | rfl | hz
    · unfold hexD; split <;> omega
    · unfold hexD; split <;> omega
    · exact hexO_u8 r (fun y hy => h y (by simp [hy])) z hz
theorem digit_back (n : Int) (h0 : 0 ≤ n) (h1 : n < 16) : strings_IndexByte.f (⟨#[48, 49, 50, 51, 52, 53, 54, 55, 56, 57, 97, 98, 99, 100, 101, 102]⟩ : ByteArray) (hexD n) = some n := by
  obtain ⟨m, rfl⟩ := Int.eq_ofNat_of_zero_le h0
  have : ∀ m : Fin 16, Go.Lib.indexByte [48, 49, 50, 51, 52, 53, 54, 55, 56, 57, 97, 98, 99, 100, 101, 102] (hexD ((m.val : Nat) : Int)).toNat.toUInt8 = ((m.val : Nat) : Int) := by decide +kernel
  have t := this ⟨m, by omega⟩
  unfold strings_IndexByte.f stringslite_IndexByte.f
  simp only [Option.bind_some]
  exact congrArg some t
theorem hexO_get : ∀ (l : List Int) (i : Nat) (h : i < l.length) (h1 : 2 * i < (hexO l).length) (h2 : 2 * i + 1 < (hexO l).length), (hexO l)[2 * i] = hexD (l[i] / 16) ∧ (hexO l)[2 * i + 1] = hexD (l[i] % 16)
  | x :: r, 0, _, _, _ => ⟨rfl, rfl⟩
  | x :: r, i + 1, h, h1, h2 => by
    have := hexO_get r i (by simpa using h) (by simp [hexO] at h1; omega) (by simp [hexO] at h2; omega)
    simpa [hexO, Nat.mul_add] using this
theorem unhexBack_l0 (l : List Int) (h8 : ∀ x ∈ l, 0 ≤ x ∧ x < 256) (hl : l.length ≤ 1048576) : ∀ (d i : Nat) (o : List Int), i + d = l.length → o = l.take i → Ev (fun k => impl_Unhex.l0 k (strOfNums (hexO l)) o ((2 * i : Nat) : Int)) (l, true)
  | 0, i, o, hi, ho => by
    have hs : (strOfNums (hexO l)).size = 2 * l.length := by rw [strOfNums_size, hexO_length]
    rw [ho, List.take_of_length_le (by omega)]
    refine Ev.step (f := fun _ => some (l, true)) (fun k => ?_) (Ev.now _)
    simp only [impl_Unhex.l0]
    rw [if_neg (by omega)]
  | d + 1, i, o, hi, ho => by
    have hs : (strOfNums (hexO l)).size = 2 * l.length := by rw [strOfNums_size, hexO_length]
    have hlen : (hexO l).length = 2 * l.length := hexO_length l
    have g := hexO_get l i (by omega) (by omega) (by omega)
    have u8 := hexO_u8 l h8
    have b1 := bt_str (hexO l) u8 (2 * i) (by omega)
    have b2 := bt_str (hexO l) u8 (2 * i + 1) (by omega)
    rw [g.1] at b1
    rw [g.2] at b2
    have hx := h8 _ (List.getElem_mem (show i < l.length by omega))
    have f1 := digit_back (l[i]'(by omega) / 16) (by omega) (by omega)
    have f2 := digit_back (l[i]'(by omega) % 16) (by omega) (by omega)
    have ih := unhexBack_l0 l h8 hl d (i + 1) (o ++ [l[i]'(by omega)]) (by omega) (by rw [ho, List.take_succ_eq_append_getElem (by omega)])
    have ol : o.length ≤ 1048576 := by rw [ho]; simp; omega
    generalize l[i]'(by omega) = x at *
    have w1 : wrap64 (((2 * i : Nat) : Int) + 1) = ((2 * i + 1 : Nat) : Int) := wrap64_succ (by omega)
    have w2 : wrap64 (((2 * i : Nat) : Int) + 2) = ((2 * (i + 1) : Nat) : Int) := by rw [wrap64_id (by clear w1; omega) (by clear w1; omega)]; omega
    have w3 : wrap64 (x / 16 * 16) = x / 16 * 16 := wrap64_id (by clear w1 w2; omega) (by clear w1 w2; omega)
    have eo : Go.bits .or .i64 (x / 16 * 16) (x % 16) = x / 16 * 16 + x % 16 := or_high 4 (by clear w1 w2 w3; omega) (by clear w1 w2 w3; omega) (by clear w1 w2 w3; omega) (by clear w1 w2 w3; omega) (by clear w1 w2 w3; omega) (by clear w1 w2 w3; omega)
    have ex : (x / 16 * 16 + x % 16) % 256 = x := by clear w1 w2 w3; omega
    refine Ev.step (fun k => ?_) ih
    simp only [impl_Unhex.l0]
    rw [w1, w2, b1, b2, f1, f2]
    simp only [Option.bind_some]
    rw [w3, eo, ex]
    clear w1 w2 w3
    rw [if_pos (by omega), if_pos (by omega), if_pos (by omega), if_pos (by omega), if_neg (by omega), if_neg (by omega), if_pos (by omega)]
theorem unhexBack_ev (l : List Int) (h8 : ∀ x ∈ l, 0 ≤ x ∧ x < 256) (hl : l.length ≤ 1048576) : Ev (fun k => impl_Unhex.f k (strOfNums (hexO l))) (l, true) := by
  unfold impl_Unhex.f
  have hs : (strOfNums (hexO l)).size = 2 * l.length := by rw [strOfNums_size, hexO_length]
  exact Ev.ifT (by rw [hs]; omega) (unhexBack_l0 l h8 hl l.length 0 [] (by omega) rfl)
theorem implHex_ev (l : List Int) (h8 : ∀ x ∈ l, 0 ≤ x ∧ x < 256) (hl : l.length ≤ 1048576) : Ev (fun k => impl_Hex.f k l) (strOfNums (hexO l)) := by
  have hw : ∀ x ∈ l, (Lit.int .u8 x).wf = true := fun x hx => by
    have := h8 x hx
    simp [Lit.wf, IntKind.min, IntKind.max, IntKind.bits, IntKind.signed]; omega
  have e := implHex_l0 l hw hl l.length [] 0 (by omega) (by simp)
  unfold impl_Hex.f
  simpa using e

/-- A number, seven bits a byte; f: at most so many more bytes. -/
def varB : Nat → Int → List Int
  | 0, n => [n % 256]
  | f + 1, n => if n < 128 then [n % 256] else (n % 128 + 128) :: varB f (n / 128)
theorem varB_length : ∀ (f : Nat) (n : Int), (varB f n).length ≤ f + 1
  | 0, _ => by simp [varB]
  | f + 1, n => by
    have := varB_length f (n / 128)
    simp only [varB]
    split <;> simp
    omega
def varOf (n : Int) : List Int := if 0 ≤ n ∧ n ≤ 2147483647 then varB 4 n else []
theorem varOf_length (n : Int) : (varOf n).length ≤ 5 := by
  unfold varOf
  split
  · exact varB_length 4 n
  · simp
theorem varB_length_pos : ∀ (f : Nat) (n : Int), 1 ≤ (varB f n).length
  | 0, _ => by simp [varB]
  | f + 1, n => by simp only [varB]; split <;> simp

/-- What Var tells from its k-th byte on: n: what the bytes ahead say. -/
def varGo (l : List Int) (a : Nat) : Nat → Nat → Int → Int × Int × Int
  | 0, _, _ => (0, 0, 2)
  | d + 1, k, n => if l.length ≤ a + k then (0, 0, 1) else
      if 127 < l.getD (a + k) 0 then varGo l a d (k + 1) (n + l.getD (a + k) 0 % 128 * 128 ^ k) else
      if (l.getD (a + k) 0 = 0 ∧ 0 < k) ∨ 2147483647 < n + l.getD (a + k) 0 % 128 * 128 ^ k then (0, 0, 2) else (n + l.getD (a + k) 0 % 128 * 128 ^ k, (a : Int) + k + 1, 0)
def varR (l : List Int) (a : Int) : Int × Int × Int := if a < 0 ∨ (l.length : Int) < a then (0, 0, 1) else varGo l a.toNat 5 0 0

theorem pow128 (k : Nat) : (128 : Int) ^ k = 2 ^ (7 * k) := by rw [Int.pow_mul]; rfl
theorem implVar_l0 (l : List Int) (h8 : ∀ x ∈ l, 0 ≤ x ∧ x < 256) (hl : l.length ≤ 1048576) (a : Nat) (ha : a ≤ l.length) : ∀ (d k : Nat) (n : Int), k + d = 5 → 0 ≤ n → n < 128 ^ k → Ev (fun q => impl_Var.l0 q l (a : Int) n (k : Int)) (varGo l a d k n)
  | 0, k, n, hk, h0, h1 => by
    refine Ev.step (f := fun _ => some (0, 0, 2)) (fun q => ?_) (Ev.now _)
    simp only [impl_Var.l0]
    rw [if_neg (by omega)]
  | d + 1, k, n, hk, h0, h1 => by
    have g1 : (k : Int) < 5 := by omega
    have e1 : wrap64 ((a : Int) + (k : Int)) = ((a + k : Nat) : Int) := by rw [wrap64_id (by omega) (by omega)]; simp
    simp only [varGo]
    by_cases hb : l.length ≤ a + k
    · rw [if_pos hb]
      refine Ev.step (f := fun _ => some (0, 0, 1)) (fun q => ?_) (Ev.now _)
      simp only [impl_Var.l0]
      rw [if_pos g1, e1, if_pos (by clear e1; omega)]
    · rw [if_neg hb]
      have b := rd_all (P := fun x => 0 ≤ x ∧ x < 256) h8 (by omega) ((a + k : Nat) : Int)
      rw [rd_nat] at b
      have er := rd_nat l (a + k)
      generalize l.getD (a + k) 0 = v at *
      have hm : ∀ x, Go.bits .and .i64 x 127 = x % 128 := fun x => and_mask 7 (by decide) x
      have p1 := pow_bounds (n := 7 * k) (m := 28) (by clear e1; omega)
      rw [← pow128] at p1
      have m0 : 0 ≤ v % 128 * 128 ^ k := Int.mul_nonneg (by clear e1; omega) (by clear e1; omega)
      have m1 : v % 128 * 128 ^ k ≤ 127 * 2 ^ 28 := Int.mul_le_mul (by clear e1; omega) p1.2 (by clear e1; omega) (by omega)
      have m2 : n + v % 128 * 128 ^ k < 128 ^ (k + 1) := by
        rw [Int.pow_succ]
        have : v % 128 * 128 ^ k ≤ 127 * 128 ^ k := Int.mul_le_mul_of_nonneg_right (by clear e1; omega) (by clear e1; omega)
        clear e1; omega
      have es : shl .i64 (v % 128) ((7 * k : Nat) : Int) = v % 128 * 128 ^ k := by rw [pow128]; exact shl_i64 (by clear e1; omega) (by rw [← pow128]; clear e1; omega) (by rw [← pow128]; clear e1; omega)
      have e7 : wrap64 (7 * (k : Int)) = ((7 * k : Nat) : Int) := by rw [wrap64_id (by clear e1; omega) (by clear e1; omega)]; simp
      have eo : Go.bits .or .i64 n (v % 128 * 128 ^ k) = n + v % 128 * 128 ^ k := by
        have hn : n < 2 ^ (7 * k) := by rw [← pow128]; exact h1
        exact or_low (7 * k) h0 hn (by clear e1 e7; omega) m0 (by rw [pow128]; exact Int.mul_emod_left _ _) (by clear e1 e7; omega)
      have ev : wrap64 v = v := wrap64_id (by clear e1 e7; omega) (by clear e1 e7; omega)
      have gA : ¬ ((a + k : Nat) : Int) ≥ (l.length : Int) := by clear e1 e7 ev; omega
      have gB : (0 : Int) ≤ ((a + k : Nat) : Int) := by clear e1 e7 ev; omega
      have gC : ((a + k : Nat) : Int) < (l.length : Int) := by clear e1 e7 ev; omega
      have gD : (0 : Int) ≤ ((7 * k : Nat) : Int) := by clear e1 e7 ev; omega
      by_cases hv : 127 < v
      · rw [if_pos hv]
        have ih := implVar_l0 l h8 hl a ha d (k + 1) (n + v % 128 * 128 ^ k) (by clear e1 e7 ev; omega) (by clear e1 e7 ev; omega) m2
        have e8 : wrap64 ((k : Int) + 1) = ((k + 1 : Nat) : Int) := wrap64_succ (by clear e1 e7 ev; omega)
        refine Ev.step (fun q => ?_) ih
        simp only [impl_Var.l0]
        rw [if_pos g1, e1, er, ev, e7, if_neg gA, if_pos gB, if_pos gC, if_pos gD, if_pos hv, hm, es, eo, e8]
      · rw [if_neg hv]
        have e8 : wrap64 (((a + k : Nat) : Int) + 1) = (a : Int) + (k : Int) + 1 := by
          rw [wrap64_succ (by clear e1 e7 ev; omega)]; simp
        by_cases hz : v = 0
        · by_cases hk0 : 0 < k
          · rw [if_pos (.inl ⟨hz, hk0⟩)]
            refine Ev.step (f := fun _ => some (0, 0, 2)) (fun q => ?_) (Ev.now _)
            simp only [impl_Var.l0]
            rw [if_pos g1, e1, er, ev, e7, if_neg gA, if_pos gB, if_pos gC, if_pos gD, if_neg hv, if_pos hz, if_pos (by clear e1 e7 ev e8; omega)]
          · by_cases hbig : 2147483647 < n + v % 128 * 128 ^ k
            · rw [if_pos (.inr hbig)]
              refine Ev.step (f := fun _ => some (0, 0, 2)) (fun q => ?_) (Ev.now _)
              simp only [impl_Var.l0]
              rw [if_pos g1, e1, er, ev, e7, if_neg gA, if_pos gB, if_pos gC, if_pos gD, if_neg hv, if_pos hz, if_neg (by clear e1 e7 ev e8; omega), hm, es, eo, if_pos hbig]
            · rw [if_neg (fun h => h.elim (fun q => hk0 q.2) hbig)]
              refine Ev.step (f := fun _ => some (n + v % 128 * 128 ^ k, (a : Int) + (k : Int) + 1, 0)) (fun q => ?_) (Ev.now _)
              simp only [impl_Var.l0]
              rw [if_pos g1, e1, er, ev, e7, if_neg gA, if_pos gB, if_pos gC, if_pos gD, if_neg hv, if_pos hz, if_neg (by clear e1 e7 ev e8; omega), hm, es, eo, if_neg hbig, e8]
        · by_cases hbig : 2147483647 < n + v % 128 * 128 ^ k
          · rw [if_pos (.inr hbig)]
            refine Ev.step (f := fun _ => some (0, 0, 2)) (fun q => ?_) (Ev.now _)
            simp only [impl_Var.l0]
            rw [if_pos g1, e1, er, ev, e7, if_neg gA, if_pos gB, if_pos gC, if_pos gD, if_neg hv, if_neg hz, hm, es, eo, if_pos hbig]
          · rw [if_neg (fun h => h.elim (fun q => hz q.1) hbig)]
            refine Ev.step (f := fun _ => some (n + v % 128 * 128 ^ k, (a : Int) + (k : Int) + 1, 0)) (fun q => ?_) (Ev.now _)
            simp only [impl_Var.l0]
            rw [if_pos g1, e1, er, ev, e7, if_neg gA, if_pos gB, if_pos gC, if_pos gD, if_neg hv, if_neg hz, hm, es, eo, if_neg hbig, e8]
theorem implVar_ev (l : List Int) (h8 : ∀ x ∈ l, 0 ≤ x ∧ x < 256) (hl : l.length ≤ 1048576) (a : Int) : Ev (fun q => impl_Var.f q l a) (varR l a) := by
  unfold impl_Var.f varR
  rw [in_tell]
  simp only [Option.bind_some]
  by_cases h : 0 ≤ a ∧ a ≤ (l.length : Int)
  · rw [if_neg (by omega)]
    obtain ⟨m, rfl⟩ := Int.eq_ofNat_of_zero_le h.1
    exact Ev.ifT (decide_eq_true h) (implVar_l0 l h8 hl m (by omega) 5 0 0 (by omega) (by omega) (by omega))
  · rw [if_pos (by omega)]
    exact Ev.ifF (by rw [decide_eq_true_eq]; exact h) (Ev.now _)

theorem implPutVar_go : ∀ (f : Nat) (n : Int) (o : List Int), f ≤ 5 → 0 ≤ n → n ≤ 2147483647 → n < 128 ^ (f + 1) → o.length + f ≤ 10 → Ev (fun k => impl_PutVar.l0 k n o) (o ++ varB f n)
  | 0, n, o, hf, h0, h1, h2, ho => by
    refine Ev.step (f := fun _ => some (o ++ [n % 256])) (fun k => ?_) (Ev.now _)
    simp only [impl_PutVar.l0]
    rw [if_neg (by omega), if_pos (by omega)]
  | f + 1, n, o, hf, h0, h1, h2, ho => by
    have hp : (128 : Int) ^ (f + 1 + 1) = 128 ^ (f + 1) * 128 := Int.pow_succ _ _
    rw [hp] at h2
    by_cases h : n < 128
    · have e : varB (f + 1) n = [n % 256] := by simp [varB, h]
      rw [e]
      refine Ev.step (f := fun _ => some (o ++ [n % 256])) (fun k => ?_) (Ev.now _)
      simp only [impl_PutVar.l0]
      rw [if_neg (by omega), if_pos (by omega)]
    · have ih := implPutVar_go f (n / 128) (o ++ [n % 128 + 128]) (by omega) (by omega) (by omega) (by omega) (by simp; omega)
      have e : o ++ varB (f + 1) n = o ++ [n % 128 + 128] ++ varB f (n / 128) := by simp [varB, h]
      rw [e]
      have hm : Go.bits .and .i64 n 127 = n % 128 := and_mask 7 (by decide) n
      refine Ev.step (fun k => ?_) ih
      simp only [impl_PutVar.l0]
      rw [if_pos (by omega), if_pos (by omega), hm, or_low (x := n % 128) (y := 128) 7 (by omega) (by omega) (by omega) (by omega) (by omega) (by omega), show (n % 128 + 128) % 256 = n % 128 + 128 by omega]
theorem implPutVar_ev (n : Int) : Ev (fun k => impl_PutVar.f k n) (varOf n) := by
  unfold varOf impl_PutVar.f
  rw [in_tell]
  simp only [Option.bind_some]
  by_cases h : 0 ≤ n ∧ n ≤ 2147483647
  · rw [if_pos h]; exact Ev.ifT (decide_eq_true h) (implPutVar_go 4 n [] (by omega) h.1 h.2 (by omega) (by simp))
  · rw [if_neg h]; exact Ev.ifF (by rw [decide_eq_true_eq]; exact h) (Ev.now _)

theorem varGo_back (l : List Int) (a : Nat) : ∀ (f d k : Nat) (m acc : Int), l.drop (a + k) = varB f m → f < d → 0 ≤ m → m < 128 ^ (f + 1) → 0 ≤ acc → acc + m * 128 ^ k ≤ 2147483647 → (0 < k → 0 < m) → varGo l a d k acc = (acc + m * 128 ^ k, (a : Int) + k + (varB f m).length, 0)
  | _, 0, _, _, _, _, hd, _, _, _, _, _ => absurd hd (Nat.not_lt_zero _)
  | f, d + 1, k, m, acc, hl, hd, h0, h1, ha, hb, hk => by
    have hlen := varB_length_pos f m
    have hll : a + k < l.length := by
      rcases Nat.lt_or_ge (a + k) l.length with h | h
      · exact h
      · rw [List.drop_of_length_le h] at hl
        rw [← hl] at hlen
        simp at hlen
    have hg : l.getD (a + k) 0 = (l.drop (a + k)).getD 0 0 := by
      rw [List.getD_eq_getElem?_getD, List.getD_eq_getElem?_getD, List.getElem?_drop, Nat.add_zero]
    rw [hl] at hg
    simp only [varGo]
    rw [if_neg (by omega), hg]
    by_cases hm : m < 128
    · have e : varB f m = [m % 256] := by
        cases f with
        | zero => rfl
        | succ f => simp [varB, hm]
      rw [e]
      have e2 : ([m % 256] : List Int).getD 0 0 = m := by simp; omega
      rw [e2, if_neg (by omega), show m % 128 = m by omega, if_neg (by
        intro q
        rcases q with q | q
        · have := hk q.2; omega
        · omega)]
      simp
    · cases f with
      | zero => simp at h1; omega
      | succ f =>
        have e : varB (f + 1) m = (m % 128 + 128) :: varB f (m / 128) := by simp [varB, hm]
        rw [e] at hl ⊢
        have hdr : l.drop (a + (k + 1)) = varB f (m / 128) := by
          have : l.drop (a + (k + 1)) = (l.drop (a + k)).drop 1 := by rw [List.drop_drop]; rfl
          rw [this, hl]; rfl
        have hp : (128 : Int) ^ (f + 1 + 1) = 128 ^ (f + 1) * 128 := Int.pow_succ _ _
        have hp2 : (128 : Int) ^ (k + 1) = 128 ^ k * 128 := Int.pow_succ _ _
        have hpos : (0 : Int) < 128 ^ k := Int.pow_pos (by decide)
        have hsum : m % 128 * 128 ^ k + m / 128 * 128 ^ (k + 1) = m * 128 ^ k := by
          rw [hp2, Int.mul_comm (128 ^ k) 128, ← Int.mul_assoc, ← Int.add_mul]
          congr 1
          omega
        have hnn : 0 ≤ m % 128 * 128 ^ k := Int.mul_nonneg (by omega) (Int.le_of_lt hpos)
        have ih := varGo_back l a f d (k + 1) (m / 128) (acc + m % 128 * 128 ^ k) hdr (by omega) (by omega) (by rw [hp] at h1; omega) (by omega) (by omega) (fun _ => by omega)
        have e2 : ((m % 128 + 128) :: varB f (m / 128) : List Int).getD 0 0 = m % 128 + 128 := rfl
        rw [e2, if_pos (by omega), show (m % 128 + 128) % 128 = m % 128 by omega, ih]
        refine Prod.ext ?_ (Prod.ext ?_ rfl)
        · simp only; omega
        · simp only [List.length_cons]; omega
theorem varBack (n : Int) (h0 : 0 ≤ n) (h1 : n ≤ 2147483647) : varR ([9] ++ varOf n) 1 = (n, 1 + ((varOf n).length : Int), 0) := by
  have hv : varOf n = varB 4 n := by unfold varOf; rw [if_pos ⟨h0, h1⟩]
  rw [hv]
  unfold varR
  rw [if_neg (by simp; omega)]
  have := varGo_back ([9] ++ varB 4 n) 1 4 5 0 n 0 rfl (by omega) h0 (by omega) (by omega) (by simp; omega) (fun h => absurd h (Nat.lt_irrefl 0))
  simpa using this
theorem varB_u8 : ∀ (f : Nat) (n : Int), 0 ≤ n → ∀ x ∈ varB f n, 0 ≤ x ∧ x < 256
  | 0, n, _, x, hx => by simp [varB] at hx; omega
  | f + 1, n, h0, x, hx => by
    simp only [varB] at hx
    split at hx
    · simp at hx; omega
    · rcases List.mem_cons.1 hx with q | q
      · omega
      · exact varB_u8 f (n / 128) (by omega) x q

/-- Draws: whatever the cursor, a byte is a byte, a number below n is below n. -/
theorem mask255 (x : Int) : 0 ≤ Go.bits .and .i64 x 255 ∧ Go.bits .and .i64 x 255 < 256 := by
  have := and_mask 8 (by decide) x
  rw [show (2 : Int) ^ 8 - 1 = 255 from rfl, show (2 : Int) ^ 8 = 256 from rfl] at this
  rw [this]; omega
theorem draw_byte (b : List Int) (hb : b.length ≤ 1048576) (i h : Int) (h0 : 0 ≤ i) (h1 : i ≤ (b.length : Int)) : ∃ v j g, spec_l1Byte.f b i h = some (v, j, g) ∧ (0 ≤ v ∧ v < 256) ∧ 0 ≤ j ∧ j ≤ (b.length : Int) := by
  unfold spec_l1Byte.f
  by_cases q : i < (b.length : Int)
  · rw [if_pos q, if_pos h0]
    refine ⟨_, _, _, rfl, mask255 _, ?_, ?_⟩ <;> (rw [wrap64_id (by omega) (by omega)]; omega)
  · rw [if_neg q]
    exact ⟨_, _, _, rfl, mask255 _, h0, h1⟩
theorem draw_below (b : List Int) (hb : b.length ≤ 1048576) (i h n : Int) (h0 : 0 ≤ i) (h1 : i ≤ (b.length : Int)) : ∃ v j g, spec_l1Below.f b i h n = some (v, j, g) ∧ 0 ≤ v ∧ (0 < n → v < n) ∧ 0 ≤ j ∧ j ≤ (b.length : Int) := by
  unfold spec_l1Below.f
  by_cases q : n ≤ 0
  · rw [if_pos q]; exact ⟨_, _, _, rfl, by omega, by omega, h0, h1⟩
  rw [if_neg q]
  obtain ⟨v, j, g, e, hv, hj0, hj1⟩ := draw_byte b hb i h h0 h1
  by_cases q2 : n ≤ 256
  · rw [if_pos q2, e]
    simp only [Option.bind_some]
    rw [if_neg (by omega)]
    have t : Int.tmod v n = v % n := Int.tmod_eq_emod_of_nonneg hv.1
    exact ⟨_, _, _, rfl, by rw [t]; exact Int.emod_nonneg _ (by omega), fun hn => by rw [t]; exact Int.emod_lt_of_pos _ hn, hj0, hj1⟩
  · rw [if_neg q2, e]
    obtain ⟨v2, j2, g2, e2, hv2, hj2, hj3⟩ := draw_byte b hb j g hj0 hj1
    obtain ⟨v3, j3, g3, e3, hv3, hj4, hj5⟩ := draw_byte b hb j2 g2 hj2 hj3
    simp only [Option.bind_some, e2, e3]
    rw [if_neg (by omega)]
    have w1 : wrap64 (v * 65536) = v * 65536 := wrap64_id (by omega) (by omega)
    have w2 : wrap64 (v2 * 256) = v2 * 256 := wrap64_id (by clear w1; omega) (by clear w1; omega)
    have w3 : wrap64 (v * 65536 + v2 * 256) = v * 65536 + v2 * 256 := wrap64_id (by clear w1 w2; omega) (by clear w1 w2; omega)
    have w4 : wrap64 (v * 65536 + v2 * 256 + v3) = v * 65536 + v2 * 256 + v3 := wrap64_id (by clear w1 w2 w3; omega) (by clear w1 w2 w3; omega)
    rw [w1, w2, w3, w4]
    clear w1 w2 w3 w4
    have t : Int.tmod (v * 65536 + v2 * 256 + v3) n = (v * 65536 + v2 * 256 + v3) % n := Int.tmod_eq_emod_of_nonneg (by omega)
    exact ⟨_, _, _, rfl, by rw [t]; exact Int.emod_nonneg _ (by omega), fun hn => by rw [t]; exact Int.emod_lt_of_pos _ hn, hj4, hj5⟩
theorem draw_new_l0 (l : List Int) (hl : l.length ≤ 1048576) : ∀ (d i : Nat) (h : Int), i + d = l.length → ∃ g, Ev (fun k => spec_l1New.l0 k l h (i : Int)) (l, 0, g)
  | 0, i, h, hd => ⟨h, Ev.step (f := fun _ => some (l, 0, h)) (fun k => by simp only [spec_l1New.l0]; rw [if_neg (by omega)]) (Ev.now _)⟩
  | d + 1, i, h, hd => by
    by_cases q : (i : Int) < 4000
    · obtain ⟨g, e⟩ := draw_new_l0 l hl d (i + 1) (Go.bits .and .i64 (wrap64 ((wrap64 ((wrap64 (h * 137)) + (wrap64 (rd l (i : Int))))) + 11)) 1073741823) (by omega)
      refine ⟨g, Ev.step (fun k => ?_) e⟩
      simp only [spec_l1New.l0]
      rw [if_pos (by omega), if_pos q, if_pos (by omega), wrap64_succ (by omega)]
    · refine ⟨h, Ev.step (f := fun _ => some (l, 0, h)) (fun k => ?_) (Ev.now _)⟩
      simp only [spec_l1New.l0]
      rw [if_pos (by omega), if_neg q]
theorem draw_new (l : List Int) (hl : l.length ≤ 1048576) : ∃ g, Ev (fun k => spec_l1New.f k l) (l, 0, g) := by
  obtain ⟨g, e⟩ := draw_new_l0 l hl l.length 0 (wrap64 (71071 + (l.length : Int))) (by omega)
  exact ⟨g, e⟩

theorem draw_once (b : List Int) (hb : b.length ≤ 1048576) (i h n : Int) (h0 : 0 ≤ i) (h1 : i ≤ (b.length : Int)) : ∃ v j g, spec_l1Once.f b i h n = some (v, j, g) ∧ 0 ≤ j ∧ j ≤ (b.length : Int) := by
  obtain ⟨v, j, g, e, _, _, h2, h3⟩ := draw_below b hb i h n h0 h1
  unfold spec_l1Once.f
  rw [e]
  exact ⟨_, _, _, rfl, h2, h3⟩

theorem draw_int (b : List Int) (hb : b.length ≤ 1048576) (i h : Int) (l : List Int) (hl : l ≠ []) (h0 : 0 ≤ i) (h1 : i ≤ (b.length : Int)) : ∃ v j g, spec_l1Int.f b i h l = some (v, j, g) ∧ v ∈ l ∧ 0 ≤ j ∧ j ≤ (b.length : Int) := by
  obtain ⟨v, j, g, e, q0, q1, h2, h3⟩ := draw_below b hb i h (l.length : Int) h0 h1
  have hp : 0 < l.length := List.length_pos_iff.2 hl
  unfold spec_l1Int.f
  rw [e]
  simp only [Option.bind_some]
  have q2 := q1 (by omega)
  rw [if_pos q0, if_pos q2]
  obtain ⟨m, rfl⟩ := Int.eq_ofNat_of_zero_le q0
  exact ⟨_, _, _, rfl, by rw [rd_get l m (by omega)]; exact List.getElem_mem _, h2, h3⟩

theorem draw_bytes_l0 (b : List Int) (hb : b.length ≤ 1048576) (n : Nat) (hn : n ≤ 1048576) : ∀ (d : Nat) (o : List Int) (i : Nat) (x h : Int), i + d = n → o.length = i → (∀ z ∈ o, 0 ≤ z ∧ z < 256) → 0 ≤ x → x ≤ (b.length : Int) →
    ∃ r j g, Ev (fun k => spec_l1Bytes.l0 k (n : Int) o (i : Int) b x h) (r, j, g) ∧ r.length = n ∧ (∀ z ∈ r, 0 ≤ z ∧ z < 256) ∧ 0 ≤ j ∧ j ≤ (b.length : Int)
  | 0, o, i, x, h, hd, ho, h8, h0, h1 => ⟨o, x, h, Ev.step (f := fun _ => some (o, x, h)) (fun k => by simp only [spec_l1Bytes.l0]; rw [if_neg (by omega)]) (Ev.now _), by omega, h8, h0, h1⟩
  | d + 1, o, i, x, h, hd, ho, h8, h0, h1 => by
    obtain ⟨v, j, g, e, hv, hj0, hj1⟩ := draw_byte b hb x h h0 h1
    have ev : v % 256 = v := by omega
    obtain ⟨r, j2, g2, e2, hr, hr8, hj2, hj3⟩ := draw_bytes_l0 b hb n hn d (o ++ [v]) (i + 1) j g (by omega) (by simp; omega) (fun z hz => by
      rcases List.mem_append.1 hz with hz | hz
      · exact h8 z hz
      · rw [List.mem_singleton.1 hz]; exact hv) hj0 hj1
    refine ⟨r, j2, g2, Ev.step (fun k => ?_) e2, hr, hr8, hj2, hj3⟩
    simp only [spec_l1Bytes.l0, e, Option.bind_some, ev]
    rw [if_pos (by omega), if_pos (by omega), wrap64_succ (by omega)]
theorem draw_bytes (b : List Int) (hb : b.length ≤ 1048576) (i h n : Int) (hn : n ≤ 1048576) (h0 : 0 ≤ i) (h1 : i ≤ (b.length : Int)) : ∃ r j g, Ev (fun k => spec_l1Bytes.f k b i h n) (r, j, g) ∧ r.length = n.toNat ∧ (∀ z ∈ r, 0 ≤ z ∧ z < 256) ∧ 0 ≤ j ∧ j ≤ (b.length : Int) := by
  by_cases q : 0 ≤ n
  · obtain ⟨m, rfl⟩ := Int.eq_ofNat_of_zero_le q
    obtain ⟨r, j, g, e, hr, h8, h2, h3⟩ := draw_bytes_l0 b hb m (by omega) m [] 0 i h (by omega) rfl (fun _ hz => absurd hz (by simp)) h0 h1
    exact ⟨r, j, g, e, by simpa using hr, h8, h2, h3⟩
  · refine ⟨[], i, h, ?_, by simp; omega, fun _ hz => absurd hz (by simp), h0, h1⟩
    unfold spec_l1Bytes.f
    refine Ev.step (f := fun _ => some ([], i, h)) (fun k => ?_) (Ev.now _)
    simp only [spec_l1Bytes.l0]
    rw [if_neg (by omega)]

theorem at_tell (l : List Int) (a : Int) (h8 : ∀ x ∈ l, 0 ≤ x ∧ x < 256) (hl : l.length ≤ 1048576) (h0 : 0 ≤ a) (h1 : a ≤ 1000) : ∃ v, laws_at.f l a = some v ∧ 0 ≤ v ∧ v < 256 := by
  unfold laws_at.f
  by_cases q : a < (l.length : Int)
  · have b := rd_all (P := fun x => 0 ≤ x ∧ x < 256) h8 (by omega) a
    rw [if_pos q, if_pos h0, wrap64_id (by omega) (by omega)]
    exact ⟨_, rfl, b⟩
  · rw [if_neg q]
    have w1 : wrap64 (a * 31) = a * 31 := wrap64_id (by omega) (by omega)
    have w2 : wrap64 ((l.length : Int) * 7) = (l.length : Int) * 7 := wrap64_id (by clear w1; omega) (by clear w1; omega)
    have w3 : wrap64 (a * 31 + (l.length : Int) * 7) = a * 31 + (l.length : Int) * 7 := wrap64_id (by clear w1 w2; omega) (by clear w1 w2; omega)
    rw [w1, w2, w3]
    clear w1 w2 w3
    have t : Int.tmod (a * 31 + (l.length : Int) * 7) 256 = (a * 31 + (l.length : Int) * 7) % 256 := Int.tmod_eq_emod_of_nonneg (by omega)
    exact ⟨_, rfl, by rw [t]; omega, by rw [t]; omega⟩

theorem xor_other (x m : Int) (hx : 0 ≤ x ∧ x < 256) (hm : 0 < m ∧ m < 256) : (0 ≤ Go.bits .xor .u8 x m ∧ Go.bits .xor .u8 x m < 256) ∧ Go.bits .xor .u8 x m ≠ x := by
  obtain ⟨a, rfl⟩ := Int.eq_ofNat_of_zero_le hx.1
  obtain ⟨b, rfl⟩ := Int.eq_ofNat_of_zero_le (show 0 ≤ m by omega)
  have hw : ∀ n : Int, 0 ≤ n → n < 2 ^ 8 → IntKind.u8.wrap n = n := by
    intro n p q
    simp [IntKind.wrap, IntKind.bits, IntKind.signed]; omega
  rw [bits_xor_nat .u8 8 (by decide) hw a b (by omega) (by omega)]
  have hlt := Nat.xor_lt_two_pow (n := 8) (x := a) (y := b) (by omega) (by omega)
  refine ⟨by omega, fun e => ?_⟩
  have e2 : a ^^^ b = a := by exact_mod_cast e
  have e3 : a ^^^ (a ^^^ b) = 0 := by rw [e2, Nat.xor_self]
  rw [← Nat.xor_assoc, Nat.xor_self, Nat.zero_xor] at e3
  omega

theorem draw_odd (b : List Int) (hb : b.length ≤ 1048576) (i h : Int) (h0 : 0 ≤ i) (h1 : i ≤ (b.length : Int)) : ∃ v j g, spec_l1Odd.f b i h = some (v, j, g) := by
  obtain ⟨v, j, g, e, _, _, _⟩ := draw_int b hb i h [(-1), 0, 1, 2, 255, 256, 65535, 2147483647, 2147483648, 4294967295, 4294967296, (-2147483648), 9223372036854775807, (-9223372036854775808)] (by simp) h0 h1
  unfold spec_l1Odd.f
  rw [e]
  exact ⟨_, _, _, rfl⟩
theorem draw_putWord (l : List Int) (hl : l.length ≤ 1048576) : ∃ v, Ev (fun k => spec_DrawPutWord.f k l) v := by
  obtain ⟨g, e0⟩ := draw_new l hl
  obtain ⟨o, j1, g1, e1, p1, q1⟩ := draw_once l hl 0 g 3 (by omega) (by omega)
  unfold spec_DrawPutWord.f
  cases o with
  | true =>
    obtain ⟨v, j2, g2, e2⟩ := draw_odd l hl j1 g1 p1 q1
    exact ⟨v, Ev.bind e0 (Ev.bindc e1 (Ev.ifT rfl (Ev.bindc e2 (Ev.now _))))⟩
  | false =>
    obtain ⟨v, j2, g2, e2, _, _, p2, q2⟩ := draw_below l hl j1 g1 16777216 p1 q1
    obtain ⟨u, j3, g3, e3, _, _, p3, q3⟩ := draw_below l hl j2 g2 300 p2 q2
    exact ⟨_, Ev.bind e0 (Ev.bindc e1 (Ev.ifF (show ¬ false = true by decide) (Ev.bindc e2 (Ev.bindc e3 (Ev.now _)))))⟩
theorem draw_putVar (l : List Int) (hl : l.length ≤ 1048576) : ∃ v, Ev (fun k => spec_DrawPutVar.f k l) v := by
  obtain ⟨g, e0⟩ := draw_new l hl
  obtain ⟨o, j1, g1, e1, p1, q1⟩ := draw_once l hl 0 g 3 (by omega) (by omega)
  unfold spec_DrawPutVar.f
  cases o with
  | true =>
    obtain ⟨v, j2, g2, e2⟩ := draw_odd l hl j1 g1 p1 q1
    exact ⟨v, Ev.bind e0 (Ev.bindc e1 (Ev.ifT rfl (Ev.bindc e2 (Ev.now _))))⟩
  | false =>
    obtain ⟨v, j2, g2, e2, _, _, p2, q2⟩ := draw_below l hl j1 g1 16000000 p1 q1
    obtain ⟨u, j3, g3, e3, u0, _, p3, q3⟩ := draw_below l hl j2 g2 24 p2 q2
    exact ⟨_, Ev.bind e0 (Ev.bindc e1 (Ev.ifF (show ¬ false = true by decide) (Ev.bindc e2 (Ev.bindc e3 (Ev.ifT u0 (Ev.now _))))))⟩
theorem draw_crc (l : List Int) (hl : l.length ≤ 1048576) : ∃ r, Ev (fun k => spec_DrawCrc.f k l) r ∧ r.length ≤ 300 ∧ ∀ z ∈ r, 0 ≤ z ∧ z < 256 := by
  obtain ⟨g, e0⟩ := draw_new l hl
  have sz : ∃ s, spec_l1Size.f l 300 = some s ∧ 0 ≤ s ∧ s ≤ 300 := by
    unfold spec_l1Size.f
    have w1 : wrap64 ((l.length : Int) / 12) = (l.length : Int) / 12 := wrap64_id (by omega) (by omega)
    have w2 : wrap64 (3 + (l.length : Int) / 12) = 3 + (l.length : Int) / 12 := wrap64_id (by clear w1; omega) (by clear w1; omega)
    rw [w1, w2]
    clear w1 w2
    by_cases q : 3 + (l.length : Int) / 12 > 300
    · rw [if_pos q]; exact ⟨_, rfl, by omega, by omega⟩
    · rw [if_neg q]; exact ⟨_, rfl, by omega, by omega⟩
  obtain ⟨s, e1, s0, s1⟩ := sz
  obtain ⟨v, j1, g1, e2, v0, v1, p1, q1⟩ := draw_below l hl 0 g s (by omega) (by omega)
  have hv : v ≤ 300 := by
    by_cases q : 0 < s
    · have := v1 q; omega
    · have : spec_l1Below.f l 0 g s = some (0, 0, g) := by unfold spec_l1Below.f; rw [if_pos (by omega)]
      rw [this] at e2
      simp only [Option.some.injEq, Prod.mk.injEq] at e2
      omega
  obtain ⟨r, j2, g2, e3, hr, h8, _, _⟩ := draw_bytes l hl j1 g1 v (by omega) p1 q1
  refine ⟨r, ?_, by omega, h8⟩
  unfold spec_DrawCrc.f
  exact Ev.bind e0 (Ev.bindc e1 (Ev.bindc e2 (Ev.bind e3 (Ev.now _))))
theorem word_back (v : Int) : impl_Word.f (wordBytes v) 0 = some (v % 4294967296, true) := by
  have h := word_tell (wordBytes v) 0 (rd_all (P := fun x => 0 ≤ x ∧ x < 256) (wordBytes_u8 v) (by omega)) (by simp [wordBytes]) (by simp [wordBytes])
  have e0 : rd (wordBytes v) ((0 : Nat) : Int) = v % 256 := rfl
  have e1 : rd (wordBytes v) (((0 : Nat) : Int) + 1) = v / 256 % 256 := rfl
  have e2 : rd (wordBytes v) (((0 : Nat) : Int) + 2) = v / 65536 % 256 := rfl
  have e3 : rd (wordBytes v) (((0 : Nat) : Int) + 3) = v / 16777216 % 256 := rfl
  rw [e0, e1, e2, e3, show v % 256 + v / 256 % 256 * 256 + v / 65536 % 256 * 65536 + v / 16777216 % 256 * 16777216 = v % 4294967296 by omega] at h
  exact h
theorem words_j2 (l : List Int) (h8 : ∀ x ∈ l, 0 ≤ x ∧ x < 256) (hl : l.length ≤ 1048576) (r : List Int) (hr : r.length ≤ 300) (hr8 : ∀ z ∈ r, 0 ≤ z ∧ z < 256) : Ev (fun k => laws_FnWords.j2 k l r) true := by
  have ci := implCrc_ev r hr8 (by omega)
  have cs := specCrc_ev r hr8 (by omega)
  refine Ev.step (fun _ => laws_FnWords.j2.eq_2 _ _ _) ?_
  by_cases hz : (r.length : Int) = 0
  · have : r = [] := List.length_eq_zero_iff.1 (by omega)
    subst this
    refine Ev.ifT (by simp) (Ev.bind ci (Ev.const ?_))
    have : crcOf [] = 0 := by decide +kernel
    rw [this]; rfl
  · obtain ⟨v9, a9, b9⟩ := at_tell l 9 h8 hl (by omega) (by omega)
    obtain ⟨v10, a10, b10⟩ := at_tell l 10 h8 hl (by omega) (by omega)
    have t9 : Int.tmod v9 (r.length : Int) = v9 % (r.length : Int) := Int.tmod_eq_emod_of_nonneg b9.1
    have t10 : Int.tmod v10 255 = v10 % 255 := Int.tmod_eq_emod_of_nonneg b10.1
    have p0 : 0 ≤ v9 % (r.length : Int) := Int.emod_nonneg _ hz
    have p1 : v9 % (r.length : Int) < (r.length : Int) := Int.emod_lt_of_pos _ (by omega)
    have hm : 0 < 1 + v10 % 255 ∧ 1 + v10 % 255 < 256 := by omega
    refine Ev.ifF hz ?_
    simp only [Option.bind_some, List.nil_append, List.length_nil, Nat.zero_add]
    refine Ev.ifT (by omega) (Ev.bindc a9 ?_)
    rw [t9]
    obtain ⟨i, hi⟩ := Int.eq_ofNat_of_zero_le p0
    rw [hi] at p1 ⊢
    have hil : i < r.length := by omega
    refine Ev.ifT (by omega) (Ev.ifT (by omega) (Ev.bindc a10 (Ev.bind ci ?_)))
    rw [t10]
    have wm : wrap64 (1 + v10 % 255) = 1 + v10 % 255 := wrap64_id (by omega) (by omega)
    rw [wm, show (1 + v10 % 255) % 256 = 1 + v10 % 255 by clear wm; omega]
    clear wm
    generalize 1 + v10 % 255 = m at *
    have hb := rd_all (P := fun x => 0 ≤ x ∧ x < 256) hr8 (by omega) (i : Int)
    obtain ⟨z, zn⟩ := xor_other (rd r (i : Int)) m hb hm
    rw [Int.toNat_natCast]
    rw [rd_nat] at zn z
    have hs8 : ∀ y ∈ r.set i (Go.bits .xor .u8 (r.getD i 0) m), 0 ≤ y ∧ y < 256 := fun y hy => by
      rcases List.mem_or_eq_of_mem_set hy with q | q
      · exact hr8 y q
      · rw [q]; exact z
    have c2 := implCrc_ev (r.set i (Go.bits .xor .u8 (r.getD i 0) m)) hs8 (by simp; omega)
    have ne := crcOf_set r i (Go.bits .xor .u8 (r.getD i 0) m) hr8 z hil zn
    rw [← rd_nat] at c2 ne
    exact Ev.bind c2 (Ev.ifF ne (Ev.bind ci (Ev.bind cs (Ev.const (by simp)))))
theorem FnWords : laws_FnWords.Pure := by
  intro l _ _ hw
  have h8 := wf_all_u8 hw
  refine Ev.rounds ?_
  unfold laws_FnWords.f laws_big.f
  simp only [Option.bind_some]
  by_cases h1 : (l.length : Int) > 1048576
  · exact Ev.ifT (by simpa using h1) (Ev.now _)
  refine Ev.ifF (by simpa using h1) ?_
  obtain ⟨v, e1⟩ := draw_putWord l (by omega)
  obtain ⟨r, e2, hr, hr8⟩ := draw_crc l (by omega)
  obtain ⟨n, e3⟩ := draw_putVar l (by omega)
  have hx : Ev (fun k => impl_Hex.f k r) (strOfNums (hexO r)) := implHex_ev r hr8 (by omega)
  have ux := unhexBack_ev r hr8 (by omega)
  have hj2 := words_j2 l h8 (by omega) r hr hr8
  have am : Go.bits .and .i64 v 4294967295 = v % 4294967296 := and_mask 32 (by decide) v
  refine Ev.bind e1 (Ev.bindc (implPutWord_tell v) (Ev.bindc (word_back v) (Ev.bind e2 (Ev.bind hx (Ev.bind ux (Ev.ifT rfl (Ev.ifT am.symm (Ev.ifT rfl (Ev.bind (sameBytes_tell r r (by omega)) ?_)))))))))
  rw [decide_eq_true rfl, Bool.not_true]
  refine Ev.step (fun _ => laws_FnWords.j0.eq_2 _ _ _ _) (Ev.ifF (by decide) (Ev.bind e3 ?_))
  have bad : Ev (fun k => laws_FnWords.j1 k l r n false) true := Ev.step (fun _ => laws_FnWords.j1.eq_2 _ _ _ _ _) (Ev.ifF (by decide) hj2)
  by_cases hn0 : n ≥ 0
  · refine Ev.ifT hn0 ?_
    by_cases hn1 : n ≤ 2147483647
    · rw [decide_eq_true hn1]
      have pv := implPutVar_ev n
      have hvl := varOf_length n
      have hv8 : ∀ x ∈ [9] ++ varOf n, 0 ≤ x ∧ x < 256 := fun x hx => by
        rcases List.mem_append.1 hx with q | q
        · simp at q; omega
        · unfold varOf at q
          rw [if_pos ⟨hn0, hn1⟩] at q
          exact varB_u8 4 n hn0 x q
      have vv := implVar_ev ([9] ++ varOf n) hv8 (by simp; omega) 1
      rw [varBack n hn0 hn1] at vv
      have wl : wrap64 (1 + ((varOf n).length : Int)) = 1 + ((varOf n).length : Int) := wrap64_id (by omega) (by omega)
      refine Ev.step (fun _ => laws_FnWords.j1.eq_2 _ _ _ _ _) (Ev.ifT rfl ?_)
      simp only [Option.bind_some]
      exact Ev.bind pv (Ev.ifT (by simp; omega) (Ev.bind vv (Ev.ifT rfl (Ev.ifT rfl (Ev.bind pv (Ev.ifT wl.symm hj2))))))
    · rw [decide_eq_false hn1]; exact bad
  · exact Ev.ifF hn0 bad

end Go.Proofs.Ytdilibnfihcmkaa.Pure
