/- The plain law of FnExactPutHead, over numbers and lists alone: what the printed functions answer is true for all arguments. Conditions: those of the arguments' kinds. -/
import Derived.Test.YtndoapmehgfdkacQFnExactPutHeadx3
import Derived.Test.YtndoapmehgfdkacAid
set_option linter.unusedVariables false
set_option linter.unusedSimpArgs false
namespace Go.Proofs.Ytndoapmehgfdkac.Pure
open Go.RowKit Go.Proofs.Ytndoapmehgfdkac.Aid Go.Proofs.Ytndoapmehgfdkac.QFnExactPutHead Go.Proofs.YtndoapmehgfdkacW.PrintWords Go.Proofs.YtndoapmehgfdkacW.PrintLast Go.Proofs.YtndoapmehgfdkacW.PrintMore
theorem in_tell (a b c : Int) : impl_in.f a b c = some (decide (b ≤ a ∧ a ≤ c)) := by
  unfold impl_in.f
  by_cases h : a ≥ b
  · rw [if_pos h]; congr 1; rw [Bool.eq_iff_iff]; simp only [decide_eq_true_eq]; omega
  · rw [if_neg h]; congr 1; symm; rw [decide_eq_false_iff_not]; omega

theorem l1In_tell (a b c : Int) : spec_l1In.f a b c = some (decide (b ≤ a ∧ a ≤ c)) := by
  unfold spec_l1In.f
  by_cases h : a ≥ b
  · rw [if_pos h]; congr 1; rw [Bool.eq_iff_iff]; simp only [decide_eq_true_eq]; omega
  · rw [if_neg h]; congr 1; symm; rw [decide_eq_false_iff_not]; omega

theorem toByteS_l0 (l : List Int) (hl : l.length ≤ 140737488351232) : ∀ (d : Nat) (x : List Int) (i : Nat), x.length = l.length → i + d = l.length → x.take i = l.take i → Ev (fun k => laws_toByteS.l0 k l x (i : Int)) l
  | 0, x, i, hx, hi, ht => by
    refine Ev.step (f := fun _ => some l) (fun k => ?_) (Ev.now _)
    simp only [laws_toByteS.l0]
    rw [if_neg (by omega)]
    congr 1
    rw [List.take_of_length_le (by omega), List.take_of_length_le (by omega)] at ht
    exact ht
  | d + 1, x, i, hx, hi, ht => by
    have ih := toByteS_l0 l hl d (x.set i (rd l i)) (i + 1) (by simpa using hx) (by omega) (by
      rw [List.take_succ_eq_append_getElem (by simp; omega), List.take_succ_eq_append_getElem (by omega), List.take_set_of_le (by omega), ht]
      simp [rd, List.getElem?_eq_getElem (show i < l.length by omega)])
    refine Ev.step (fun k => ?_) ih
    simp only [laws_toByteS.l0]
    rw [if_pos (by omega), if_pos (by omega), if_pos (by omega), wrap64_id (by omega) (by omega)]
    simp
theorem toByteS_ev (l : List Int) (hl : l.length ≤ 140737488351232) : Ev (fun k => laws_toByteS.f k l) l := by
  refine Ev.congr (fun k => ?_) (toByteS_l0 l hl l.length (List.replicate l.length 0) 0 (by simp) (by simp) (by simp))
  simp only [laws_toByteS.f]
  rw [if_pos (by omega), if_pos (by omega)]
  simp

theorem eqByteS_l0 (l : List Int) (hl : l.length ≤ 140737488351232) : ∀ (d : Nat) (i : Nat), i + d = l.length → Ev (fun k => laws_eqByteS.l0 k l l (i : Int)) true
  | 0, i, hi => by
    refine Ev.step (f := fun _ => some true) (fun k => ?_) (Ev.now _)
    simp only [laws_eqByteS.l0]
    rw [if_neg (by omega)]
  | d + 1, i, hi => by
    have ih := eqByteS_l0 l hl d (i + 1) (by omega)
    refine Ev.step (fun k => ?_) ih
    simp only [laws_eqByteS.l0]
    rw [if_pos (by omega), if_pos (by omega), if_pos (by omega), wrap64_id (by omega) (by omega)]
    simp
theorem eqByteS_ev (l : List Int) (hl : l.length ≤ 140737488351232) : Ev (fun k => laws_eqByteS.f k l l) true := by
  refine Ev.congr (fun k => ?_) (eqByteS_l0 l hl l.length 0 (by simp))
  simp only [laws_eqByteS.f]
  simp

def marksB : Int → List Int → List Int
  | _, [] => []
  | c, _ :: r => c % 256 :: marksB (c + 1) r
theorem marksB_length : ∀ (c : Int) (l : List Int), (marksB c l).length = l.length
  | _, [] => rfl
  | c, _ :: r => by simp [marksB, marksB_length (c + 1) r]
theorem marksB_again : ∀ (c : Int) (l : List Int), marksB c (marksB c l) = marksB c l
  | _, [] => rfl
  | c, _ :: r => by simp [marksB, marksB_again (c + 1) r]
theorem markByteS_l0 : ∀ (d : Nat) (x : List Int) (c : Int) (i : Nat), x.length ≤ 140737488355328 → i + d = x.length → 0 ≤ c → c + d ≤ 4611686018427387904 →
    Ev (fun k => laws_markByteS.l0 k x c (i : Int)) (c + d, x.take i ++ marksB c (x.drop i))
  | 0, x, c, i, hl, hi, hc, hc1 => by
    refine Ev.step (f := fun _ => some (c, x)) (fun k => ?_) (Ev.const ?_)
    · simp only [laws_markByteS.l0]
      rw [if_neg (by omega)]
    · rw [List.take_of_length_le (by omega), List.drop_of_length_le (by omega)]
      simp [marksB]
  | d + 1, x, c, i, hl, hi, hc, hc1 => by
    have ih := markByteS_l0 d (x.set i (c % 256)) (c + 1) (i + 1) (by simpa using hl) (by simp; omega) (by omega) (by omega)
    have e1 : (x.set i (c % 256)).take (i + 1) = x.take i ++ [c % 256] := by
      rw [List.take_succ_eq_append_getElem (by simp; omega), List.take_set_of_le (by omega)]; simp
    have e2 : (x.set i (c % 256)).drop (i + 1) = x.drop (i + 1) := by rw [List.drop_set]; simp
    have e3 : x.drop i = x[i]'(by omega) :: x.drop (i + 1) := List.drop_eq_getElem_cons (by omega)
    rw [e1, e2] at ih
    have e4 : (c + ((d + 1 : Nat) : Int), x.take i ++ marksB c (x.drop i)) = (c + 1 + (d : Int), x.take i ++ [c % 256] ++ marksB (c + 1) (x.drop (i + 1))) := by
      rw [e3]; simp [marksB]; omega
    rw [e4]
    refine Ev.step (fun k => ?_) ih
    simp only [laws_markByteS.l0]
    rw [if_pos (by omega), if_pos (by omega), wrap64_id (by omega) (by omega), wrap64_id (by omega) (by omega)]
    simp
theorem markByteS_ev (x : List Int) (c : Int) (hl : x.length ≤ 140737488355328) (hc : 0 ≤ c) (hc1 : c + x.length ≤ 4611686018427387904) : Ev (fun k => laws_markByteS.f k x c) (c + x.length, marksB c x) := by
  have := markByteS_l0 x.length x c 0 hl (by omega) hc hc1
  simpa [laws_markByteS.f] using this
theorem heldByteS_l0 : ∀ (d : Nat) (x : List Int) (c : Int) (i : Nat), x.length ≤ 140737488355328 → i + d = x.length → 0 ≤ c → c + d ≤ 4611686018427387904 → x.drop i = marksB c (x.drop i) →
    Ev (fun k => laws_heldByteS.l0 k x c (i : Int)) (c + d)
  | 0, x, c, i, hl, hi, hc, hc1, hm => by
    refine Ev.step (f := fun _ => some c) (fun k => ?_) (Ev.const (by simp))
    simp only [laws_heldByteS.l0]
    rw [if_neg (by omega)]
  | d + 1, x, c, i, hl, hi, hc, hc1, hm => by
    have e3 : x.drop i = x[i]'(by omega) :: x.drop (i + 1) := List.drop_eq_getElem_cons (by omega)
    rw [e3] at hm
    simp only [marksB, List.cons.injEq] at hm
    have ih := heldByteS_l0 d x (c + 1) (i + 1) hl (by omega) (by omega) (by omega) hm.2
    have e4 : c + ((d + 1 : Nat) : Int) = c + 1 + (d : Int) := by omega
    rw [e4]
    refine Ev.step (fun k => ?_) ih
    simp only [laws_heldByteS.l0]
    rw [if_pos (by omega), if_pos (by omega), if_pos (by rw [rd_get x i (by omega)]; exact hm.1), wrap64_id (by omega) (by omega), wrap64_id (by omega) (by omega)]
    simp
theorem heldByteS_ev (x : List Int) (c : Int) (hl : x.length ≤ 140737488355328) (hc : 0 ≤ c) (hc1 : c + x.length ≤ 4611686018427387904) : Ev (fun k => laws_heldByteS.f k (marksB c x) c) (c + x.length) := by
  have := heldByteS_l0 x.length (marksB c x) c 0 (by rw [marksB_length]; exact hl) (by rw [marksB_length]; omega) hc hc1 (by simp [marksB_again])
  simpa [laws_heldByteS.f] using this

theorem szByteS_tell (l : List Int) (a : Int) (hl : l.length ≤ 9223372036854775807) (h0 : 0 ≤ a) (h1 : a ≤ 1048576) : laws_szByteS.f l a = some (if a < (l.length : Int) then -1 else a - l.length) := by
  unfold laws_szByteS.f
  rw [wrap64_id (by omega) (by omega)]
  by_cases h : a < (l.length : Int)
  · rw [if_pos (by omega), if_pos h]
  · rw [if_neg (by omega), if_neg h]

theorem wf_all_u8 {l : List Int} (h : ∀ x ∈ l, (Lit.int .u8 x).wf = true) : ∀ x ∈ l, 0 ≤ x ∧ x < 256 := fun x hx => wf_u8 (h x hx)
theorem wf_all_i64 {l : List Int} (h : ∀ x ∈ l, (Lit.int .i64 x).wf = true) : ∀ x ∈ l, -9223372036854775808 ≤ x ∧ x < 9223372036854775808 := fun x hx => wf_i64 (h x hx)

def wordBytes (v : Int) : List Int := [v % 256, v / 256 % 256, v / 65536 % 256, v / 16777216 % 256]
theorem wordBytes_u8 (v : Int) : ∀ x ∈ wordBytes v, 0 ≤ x ∧ x < 256 := by
  intro x hx
  simp only [wordBytes, List.mem_cons, List.mem_nil_iff, or_false] at hx
  omega

theorem specPutWord_ev (v : Int) : Ev (fun k => spec_PutWord.f k v) (wordBytes v) := by
  have e : Go.bits .and .i64 v 4294967295 = v % 4294967296 := and_mask 32 (by decide) v
  have go : ∀ (x : Int) (l : List Int) (i : Nat), 0 ≤ x → x < 4294967296 → l.length < 5 → (i : Int) < 4 → ∀ r, Ev (fun k => spec_PutWord.l0 k (x / 256) (l ++ [x % 256]) ((i + 1 : Nat) : Int)) r → Ev (fun k => spec_PutWord.l0 k x l (i : Int)) r := by
    intro x l i h0 h1 hl hi r h
    refine Ev.step (fun k => ?_) h
    simp only [spec_PutWord.l0]
    rw [if_pos hi, if_pos (by omega), Int.tdiv_eq_ediv_of_nonneg h0, Int.tmod_eq_emod_of_nonneg h0, wrap64_id (by omega) (by omega), wrap64_id (by omega) (by omega), show x % 256 % 256 = x % 256 by omega]
    simp
  unfold spec_PutWord.f
  rw [e]
  have h0 : 0 ≤ v % 4294967296 := by omega
  have h1 : v % 4294967296 < 4294967296 := by omega
  have last : ∀ x l, Ev (fun k => spec_PutWord.l0 k x l ((4 : Nat) : Int)) l := by
    intro x l
    refine Ev.step (f := fun _ => some l) (fun k => ?_) (Ev.now _)
    simp only [spec_PutWord.l0]
    rw [if_neg (by omega)]
  have f := go (v % 4294967296) [] 0 h0 h1 (by simp) (by omega) _ (go _ _ 1 (by omega) (by omega) (by simp) (by omega) _ (go _ _ 2 (by omega) (by omega) (by simp) (by omega) _ (go _ _ 3 (by omega) (by omega) (by simp) (by omega) _ (last _ _))))
  have g : wordBytes v = ((([] ++ [v % 4294967296 % 256]) ++ [v % 4294967296 / 256 % 256]) ++ [v % 4294967296 / 256 / 256 % 256]) ++ [v % 4294967296 / 256 / 256 / 256 % 256] := by
    simp only [wordBytes, List.nil_append, List.cons_append, List.cons.injEq, and_true]
    omega
  rw [g]
  exact f

theorem implPutWord_tell (v : Int) : impl_PutWord.f v = some (wordBytes v) := rfl

theorem xor_u32 {a b : Int} (ha : 0 ≤ a ∧ a < 4294967296) (hb : 0 ≤ b ∧ b < 4294967296) : 0 ≤ Go.bits .xor .i64 a b ∧ Go.bits .xor .i64 a b < 4294967296 := by
  obtain ⟨a, rfl⟩ := Int.eq_ofNat_of_zero_le ha.1
  obtain ⟨b, rfl⟩ := Int.eq_ofNat_of_zero_le hb.1
  rw [xor_i64 a b (by omega) (by omega)]
  have := Nat.xor_lt_two_pow (n := 32) (x := a) (y := b) (by omega) (by omega)
  omega
/-- One bit of the sum of bytes. -/
def crcBit (x : Int) : Int := if x % 2 = 1 then Go.bits .xor .i64 (x / 2) 3988292384 else x / 2
def crcBits : Nat → Int → Int
  | 0, x => x
  | n + 1, x => crcBits n (crcBit x)
def crcFold : Int → List Int → Int
  | x, [] => x
  | x, v :: r => crcFold (crcBits 8 (Go.bits .xor .i64 x v)) r
def crcOf (l : List Int) : Int := Go.bits .xor .i64 (crcFold 4294967295 l) 4294967295
theorem crcBit_u32 {x : Int} (h : 0 ≤ x ∧ x < 4294967296) : 0 ≤ crcBit x ∧ crcBit x < 4294967296 := by
  unfold crcBit
  split
  · exact xor_u32 (by omega) (by omega)
  · omega
theorem crcBits_u32 : ∀ (n : Nat) {x : Int}, 0 ≤ x ∧ x < 4294967296 → 0 ≤ crcBits n x ∧ crcBits n x < 4294967296
  | 0, _, h => h
  | n + 1, _, h => crcBits_u32 n (crcBit_u32 h)

theorem specCrc_l1 (l : List Int) (i : Int) {r : Int} : ∀ (d : Nat) (x : Int), d ≤ 8 → 0 ≤ x ∧ x < 4294967296 → Ev (fun k => spec_Crc.l0 k l (crcBits d x) (wrap64 (i + 1))) r → Ev (fun k => spec_Crc.l1 k l x i ((8 - d : Nat) : Int)) r
  | 0, x, hd, hx, h => by
    refine Ev.step (fun k => ?_) h
    simp only [spec_Crc.l1]
    rw [if_neg (by omega)]
    rfl
  | d + 1, x, hd, hx, h => by
    have ih := specCrc_l1 l i (r := r) d (crcBit x) (by omega) (crcBit_u32 hx) h
    refine Ev.step (fun k => ?_) ih
    simp only [spec_Crc.l1]
    rw [if_pos (by omega), Int.tmod_eq_emod_of_nonneg hx.1, Int.tdiv_eq_ediv_of_nonneg hx.1, wrap64_id (n := x / 2) (by omega) (by omega), wrap64_id (n := ((8 - (d + 1) : Nat) : Int) + 1) (by omega) (by omega), show ((8 - (d + 1) : Nat) : Int) + 1 = ((8 - d : Nat) : Int) by omega]
    unfold crcBit
    split <;> rfl
theorem specCrc_l0 (l : List Int) (h8 : ∀ x ∈ l, 0 ≤ x ∧ x < 256) (hl : l.length ≤ 140737488351232) : ∀ (d : Nat) (x : Int) (i : Nat), i + d = l.length → 0 ≤ x ∧ x < 4294967296 → Ev (fun k => spec_Crc.l0 k l x (i : Int)) (Go.bits .xor .i64 (crcFold x (l.drop i)) 4294967295)
  | 0, x, i, hi, hx => by
    refine Ev.step (f := fun _ => some (Go.bits .xor .i64 x 4294967295)) (fun k => ?_) (Ev.const ?_)
    · simp only [spec_Crc.l0]
      rw [if_neg (by omega)]
    · rw [List.drop_of_length_le (by omega)]; rfl
  | d + 1, x, i, hi, hx => by
    have e3 : l.drop i = l[i]'(by omega) :: l.drop (i + 1) := List.drop_eq_getElem_cons (by omega)
    have b := h8 (l[i]'(by omega)) (List.getElem_mem _)
    have hx2 := xor_u32 hx (b := l[i]'(by omega)) (by omega)
    have ih := specCrc_l0 l h8 hl d (crcBits 8 (Go.bits .xor .i64 x (l[i]'(by omega)))) (i + 1) (by omega) (crcBits_u32 8 hx2)
    rw [e3]
    have h := specCrc_l1 l i 8 _ (by omega) hx2 (by rw [wrap64_id (by omega) (by omega)]; exact ih)
    refine Ev.step (fun k => ?_) h
    simp only [spec_Crc.l0]
    rw [if_pos (by omega), if_pos (by omega), rd_get l i (by omega), wrap64_id (by omega) (by omega)]
    rfl
theorem specCrc_ev (l : List Int) (h8 : ∀ x ∈ l, 0 ≤ x ∧ x < 256) (hl : l.length ≤ 140737488351232) : Ev (fun k => spec_Crc.f k l) (crcOf l) := by
  have h := specCrc_l0 l h8 hl l.length 4294967295 0 (by omega) (by omega)
  exact h

theorem implCrc_l1 (l : List Int) (n i : Int) {r : Int} : ∀ (d : Nat) (x : Int), d ≤ 8 → 0 ≤ x ∧ x < 4294967296 → Ev (fun k => impl_Crc.l0 k (crcBits d x) l n (wrap64 (i + 1))) r → Ev (fun k => impl_Crc.l1 k x l n i ((8 - d : Nat) : Int)) r
  | 0, x, hd, hx, h => by
    refine Ev.step (fun k => ?_) h
    simp only [impl_Crc.l1]
    rw [if_neg (by omega)]
    rfl
  | d + 1, x, hd, hx, h => by
    have ih := implCrc_l1 l n i (r := r) d (crcBit x) (by omega) (crcBit_u32 hx) h
    have hm : Go.bits .and .i64 x 1 = x % 2 := and_mask 1 (by decide) x
    refine Ev.step (fun k => ?_) ih
    simp only [impl_Crc.l1]
    rw [if_pos (by omega), hm, wrap64_id (n := ((8 - (d + 1) : Nat) : Int) + 1) (by omega) (by omega), show ((8 - (d + 1) : Nat) : Int) + 1 = ((8 - d : Nat) : Int) by omega]
    unfold crcBit
    split <;> rfl
theorem implCrc_l0 (l : List Int) (h8 : ∀ x ∈ l, 0 ≤ x ∧ x < 256) (hl : l.length ≤ 140737488351232) : ∀ (d : Nat) (x : Int) (i : Nat), i + d = l.length → 0 ≤ x ∧ x < 4294967296 → Ev (fun k => impl_Crc.l0 k x l (l.length : Int) (i : Int)) (Go.bits .xor .i64 (crcFold x (l.drop i)) 4294967295)
  | 0, x, i, hi, hx => by
    refine Ev.step (f := fun _ => some (Go.bits .xor .i64 x 4294967295)) (fun k => ?_) (Ev.const ?_)
    · simp only [impl_Crc.l0]
      rw [if_neg (by omega)]
    · rw [List.drop_of_length_le (by omega)]; rfl
  | d + 1, x, i, hi, hx => by
    have e3 : l.drop i = l[i]'(by omega) :: l.drop (i + 1) := List.drop_eq_getElem_cons (by omega)
    have b := h8 (l[i]'(by omega)) (List.getElem_mem _)
    have hx2 := xor_u32 hx (b := l[i]'(by omega)) (by omega)
    have ih := implCrc_l0 l h8 hl d (crcBits 8 (Go.bits .xor .i64 x (l[i]'(by omega)))) (i + 1) (by omega) (crcBits_u32 8 hx2)
    rw [e3]
    have h := implCrc_l1 l (l.length : Int) i 8 _ (by omega) hx2 (by rw [wrap64_id (by omega) (by omega)]; exact ih)
    refine Ev.step (fun k => ?_) h
    simp only [impl_Crc.l0]
    rw [if_pos (by omega), if_pos (by omega), if_pos (by omega), rd_get l i (by omega), wrap64_id (by omega) (by omega)]
    rfl
theorem implCrc_ev (l : List Int) (h8 : ∀ x ∈ l, 0 ≤ x ∧ x < 256) (hl : l.length ≤ 140737488351232) : Ev (fun k => impl_Crc.f k l) (crcOf l) := by
  have h := implCrc_l0 l h8 hl l.length 4294967295 0 (by omega) (by omega)
  exact h

theorem szHead_tell (o : Bool) (n : Int) (l : List Int) (a : Int) (hl : l.length ≤ 9223372036854775807) (h0 : 0 ≤ a) (h1 : a ≤ 1048576) : laws_szHead.f o n l a = some (if a < (l.length : Int) then -1 else a - l.length) := by
  unfold laws_szHead.f
  rw [szByteS_tell l a hl h0 h1]
  simp only [Option.bind_some]
  by_cases q : a < (l.length : Int)
  · rw [if_pos q, if_pos (by omega)]
  · rw [if_neg q, if_neg (by omega)]
theorem toHead_ev (o : Bool) (n : Int) (l : List Int) (hl : l.length ≤ 1048576) : Ev (fun k => laws_toHead.f k o n l) (o, n, l) := Ev.bind (toByteS_ev l (by omega)) (Ev.now _)
theorem eqHead_ev (o : Bool) (n : Int) (l : List Int) (hl : l.length ≤ 140737488351232) : Ev (fun k => laws_eqHead.f k o n l o n l) true := by
  unfold laws_eqHead.f
  exact Ev.ifF (by simp) (Ev.ifT rfl (Ev.bind (eqByteS_ev l hl) (Ev.ifT rfl (Ev.now _))))
theorem markHead_ev (o : Bool) (n : Int) (l : List Int) (m : Int) (hl : l.length ≤ 140737488351232) (hm : 0 ≤ m) (hm1 : m ≤ 1000000000000000000) : Ev (fun k => laws_markHead.f k o n l m) (m + l.length, marksB m l) := by
  unfold laws_markHead.f
  exact Ev.bind (markByteS_ev l m (by omega) hm (by omega)) (Ev.now _)

def headFront (o : Bool) (n : Int) (d : List Int) : List Int := [67, 76, 1, if o then 1 else 0] ++ wordBytes n ++ d
def headOf (o : Bool) (n : Int) (d : List Int) : List Int := if (0 ≤ n ∧ n ≤ 1024) ∧ d.length = 32 then headFront o n d ++ wordBytes (crcOf (headFront o n d)) else []
theorem headFront_len (o : Bool) (n : Int) (d : List Int) : (headFront o n d).length = 8 + d.length := by simp [headFront, wordBytes]; omega
theorem headFront_u8 (o : Bool) (n : Int) (d : List Int) (hd : ∀ x ∈ d, 0 ≤ x ∧ x < 256) : ∀ x ∈ headFront o n d, 0 ≤ x ∧ x < 256 := by
  intro x hx
  unfold headFront at hx
  rcases List.mem_append.1 hx with hx | hx
  · rcases List.mem_append.1 hx with hx | hx
    · cases o <;> simp at hx <;> omega
    · exact wordBytes_u8 n x hx
  · exact hd x hx

theorem implPutHead_ev (o : Bool) (n : Int) (d : List Int) (hd : ∀ x ∈ d, 0 ≤ x ∧ x < 256) (hl : d.length ≤ 1048576) : Ev (fun k => impl_PutHead.f k o n d) (headOf o n d) := by
  unfold impl_PutHead.f impl_HeadOk.f impl_mark.f headOf
  rw [in_tell]
  simp only [Option.bind_some]
  have hw : (wordBytes n).length = 4 := rfl
  have hf := headFront_len o n d
  have hc := implCrc_ev (headFront o n d) (headFront_u8 o n d hd) (by omega)
  have hw2 : (wordBytes (crcOf (headFront o n d))).length = 4 := rfl
  by_cases h1 : 0 ≤ n ∧ n ≤ 1024
  · simp only [decide_eq_true h1, if_true, Option.bind_some]
    by_cases h2 : d.length = 32
    · rw [if_pos ⟨h1, h2⟩]
      have hb : ((d.length : Int) == 32) = true := by simp [h2]
      refine Ev.ifT hb ?_
      generalize crcOf (headFront o n d) = c at *
      unfold headFront at *
      cases o with
      | true =>
        simp only [if_true] at hc hf ⊢
        refine Ev.ifT (by simp) ?_
        simp only [List.cons_append, List.nil_append, implPutWord_tell, Option.bind_some] at hc hf ⊢
        refine Ev.ifT (by simp [hw]) (Ev.ifT (by simp [hw]; omega) (Ev.bind ?_ (Ev.ifT (by simp [hw, hw2]; omega) (Ev.now _))))
        simpa using hc
      | false =>
        simp only [if_neg (show ¬ (false = true) by decide)] at hc hf ⊢
        refine Ev.ifT (by simp) ?_
        simp only [List.cons_append, List.nil_append, implPutWord_tell, Option.bind_some] at hc hf ⊢
        refine Ev.ifT (by simp [hw]) (Ev.ifT (by simp [hw]; omega) (Ev.bind ?_ (Ev.ifT (by simp [hw, hw2]; omega) (Ev.now _))))
        simpa using hc
    · rw [if_neg (fun q => h2 q.2)]
      exact Ev.ifF (by simp; omega) (Ev.now _)
  · simp only [decide_eq_false h1, Option.bind_some]
    simp only [Bool.false_eq_true, if_false]
    rw [if_neg (fun q => h1 q.1)]
    exact Ev.now _

theorem specPutHead_ev (o : Bool) (n : Int) (d : List Int) (hd : ∀ x ∈ d, 0 ≤ x ∧ x < 256) (hl : d.length ≤ 1048576) : Ev (fun k => spec_PutHead.f k o n d) (headOf o n d) := by
  unfold spec_PutHead.f spec_HeadOk.f headOf
  rw [l1In_tell]
  simp only [Option.bind_some]
  have hw : (wordBytes n).length = 4 := rfl
  have hf := headFront_len o n d
  have hc := specCrc_ev (headFront o n d) (headFront_u8 o n d hd) (by omega)
  have hw2 : (wordBytes (crcOf (headFront o n d))).length = 4 := rfl
  by_cases h1 : 0 ≤ n ∧ n ≤ 1024
  · simp only [decide_eq_true h1, if_true, Option.bind_some]
    by_cases h2 : d.length = 32
    · rw [if_pos ⟨h1, h2⟩]
      have hb : ((d.length : Int) == 32) = true := by simp [h2]
      refine Ev.ifT hb ?_
      have hp := specPutWord_ev (crcOf (headFront o n d))
      generalize crcOf (headFront o n d) = c at *
      unfold headFront at *
      cases o with
      | true =>
        simp only [if_true] at hc hf ⊢
        refine Ev.bind (specPutWord_ev n) ?_
        refine Ev.ifT (by simp [hw]) (Ev.ifT (by simp [hw]; omega) (Ev.bind ?_ (Ev.bind hp (Ev.ifT (by simp [hw, hw2]; omega) (Ev.now _)))))
        simpa using hc
      | false =>
        simp only [if_neg (show ¬ (false = true) by decide)] at hc hf ⊢
        refine Ev.bind (specPutWord_ev n) ?_
        refine Ev.ifT (by simp [hw]) (Ev.ifT (by simp [hw]; omega) (Ev.bind ?_ (Ev.bind hp (Ev.ifT (by simp [hw, hw2]; omega) (Ev.now _)))))
        simpa using hc
    · rw [if_neg (fun q => h2 q.2)]
      exact Ev.ifF (by simp; omega) (Ev.now _)
  · simp only [decide_eq_false h1, Option.bind_some]
    simp only [Bool.false_eq_true, if_false]
    rw [if_neg (fun q => h1 q.1)]
    exact Ev.now _

theorem FnExactPutHead : ∀ (a0_0 : Bool) (a0_1 : Int) (l0_2 : List Int), (Lit.int .i64 a0_1).wf = true → l0_2.length ≤ maxLen → (∀ x ∈ l0_2, (Lit.int .u8 x).wf = true) → ∃ k, laws_FnExactPutHead.f k a0_0 a0_1 l0_2 = some true := by
  intro o n l _ hm h8
  unfold maxLen at hm
  have h8 := wf_all_u8 h8
  refine Ev.rounds ?_
  unfold laws_FnExactPutHead.f
  refine Ev.bindc (szHead_tell o n l 1048576 hm (by omega) (by omega)) ?_
  by_cases hl : (1048576 : Int) < (l.length : Int)
  · rw [if_pos hl]; exact Ev.ifT (by omega) (Ev.now _)
  · rw [if_neg hl]
    have t := toHead_ev o n l (by omega)
    have e := eqHead_ev o n l (by omega)
    have m := markHead_ev o n l 1 (by omega) (by omega) (by omega)
    have i := implPutHead_ev o n l h8 (by omega)
    have s := specPutHead_ev o n l h8 (by omega)
    have hg : (headOf o n l).length ≤ 1000 := by
      unfold headOf
      split
      · rename_i q
        have := headFront_len o n l
        simp [wordBytes]; omega
      · simp
    generalize headOf o n l = g at *
    have eg := eqByteS_ev g (by omega)
    have mg := markByteS_ev g 1 (by omega) (by omega) (by omega)
    have hd := heldByteS_ev g 1 (by omega) (by omega) (by omega)
    refine Ev.ifF (by omega) (Ev.bind t (Ev.bind s (Ev.bind t (Ev.bind i (Ev.bind eg (Ev.ifT rfl (Ev.bind t (Ev.bind e (Ev.ifT rfl (Ev.bind m (Ev.ifF (by omega) (Ev.bind eg ?_))))))))))))
    simp only [Bool.not_true]
    refine Ev.step (fun k => by simp only [laws_FnExactPutHead.j0]; rfl) ?_
    exact Ev.ifF (by simp) (Ev.bind mg (Ev.bind hd (Ev.ifF (by omega) (Ev.ifT rfl (Ev.bind t (Ev.bind i (Ev.bind eg (Ev.ifT rfl (Ev.bind hd (Ev.ifF (by omega) (Ev.ifT rfl (Ev.now _))))))))))))

end Go.Proofs.Ytndoapmehgfdkac.Pure
