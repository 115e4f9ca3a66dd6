/- The plain law of FnHead, over numbers and lists alone: what the printed functions answer is true for all arguments. Conditions: those of the arguments' kinds. -/
import Derived.Test.YtndoapmehgfdkacQFnHeadx4
import Derived.Test.YtndoapmehgfdkacAid
set_option linter.unusedVariables false
set_option linter.unusedSimpArgs false
namespace Go.Proofs.Ytndoapmehgfdkac.Pure
open Go.RowKit Go.Proofs.Ytndoapmehgfdkac.Aid Go.Proofs.Ytndoapmehgfdkac.QFnHead Go.Proofs.YtndoapmehgfdkacW.PrintWords Go.Proofs.YtndoapmehgfdkacW.PrintLast Go.Proofs.YtndoapmehgfdkacW.PrintMore
theorem in_tell (a b c : Int) : impl_in.f a b c = some (decide (b ≤ a ∧ a ≤ c)) := by
  unfold impl_in.f
  by_cases h : a ≥ b
  · rw [if_pos h]; congr 1; rw [Bool.eq_iff_iff]; simp only [decide_eq_true_eq]; omega
  · rw [if_neg h]; congr 1; symm; rw [decide_eq_false_iff_not]; omega

theorem l1In_tell (a b c : Int) : spec_l1In.f a b c = some (decide (b ≤ a ∧ a ≤ c)) := by
  unfold spec_l1In.f
  by_cases h : a ≥ b
  · rw [if_pos h]; congr 1; rw [Bool.eq_iff_iff]; simp only [decide_eq_true_eq]; omega
  · rw [if_neg h]; congr 1; symm; rw [decide_eq_false_iff_not]; omega

theorem wf_all_u8 {l : List Int} (h : ∀ x ∈ l, (Lit.int .u8 x).wf = true) : ∀ x ∈ l, 0 ≤ x ∧ x < 256 := fun x hx => wf_u8 (h x hx)
theorem wf_all_i64 {l : List Int} (h : ∀ x ∈ l, (Lit.int .i64 x).wf = true) : ∀ x ∈ l, -9223372036854775808 ≤ x ∧ x < 9223372036854775808 := fun x hx => wf_i64 (h x hx)

def wordBytes (v : Int) : List Int := [v % 256, v / 256 % 256, v / 65536 % 256, v / 16777216 % 256]
theorem wordBytes_u8 (v : Int) : ∀ x ∈ wordBytes v, 0 ≤ x ∧ x < 256 := by
  intro x hx
  simp only [wordBytes, List.mem_cons, List.mem_nil_iff, or_false] at hx
  omega

theorem implPutWord_tell (v : Int) : impl_PutWord.f v = some (wordBytes v) := rfl

theorem xor_u32 {a b : Int} (ha : 0 ≤ a ∧ a < 4294967296) (hb : 0 ≤ b ∧ b < 4294967296) : 0 ≤ Go.bits .xor .i64 a b ∧ Go.bits .xor .i64 a b < 4294967296 := by
  obtain ⟨a, rfl⟩ := Int.eq_ofNat_of_zero_le ha.1
  obtain ⟨b, rfl⟩ := Int.eq_ofNat_of_zero_le hb.1
  rw [xor_i64 a b (by omega) (by omega)]
  have := Nat.xor_lt_two_pow (n := 32) (x := a) (y := b) (by omega) (by omega)
  omega
/-- One bit of the sum of bytes. -/
def crcBit (x : Int) : Int := if x % 2 = 1 then Go.bits .xor .i64 (x / 2) 3988292384 else x / 2
def crcBits : Nat → Int → Int
  | 0, x => x
  | n + 1, x => crcBits n (crcBit x)
def crcFold : Int → List Int → Int
  | x, [] => x
  | x, v :: r => crcFold (crcBits 8 (Go.bits .xor .i64 x v)) r
def crcOf (l : List Int) : Int := Go.bits .xor .i64 (crcFold 4294967295 l) 4294967295
theorem crcBit_u32 {x : Int} (h : 0 ≤ x ∧ x < 4294967296) : 0 ≤ crcBit x ∧ crcBit x < 4294967296 := by
  unfold crcBit
  split
  · exact xor_u32 (by omega) (by omega)
  · omega
theorem crcBits_u32 : ∀ (n : Nat) {x : Int}, 0 ≤ x ∧ x < 4294967296 → 0 ≤ crcBits n x ∧ crcBits n x < 4294967296
  | 0, _, h => h
  | n + 1, _, h => crcBits_u32 n (crcBit_u32 h)

theorem implCrc_l1 (l : List Int) (n i : Int) {r : Int} : ∀ (d : Nat) (x : Int), d ≤ 8 → 0 ≤ x ∧ x < 4294967296 → Ev (fun k => impl_Crc.l0 k (crcBits d x) l n (wrap64 (i + 1))) r → Ev (fun k => impl_Crc.l1 k x l n i ((8 - d : Nat) : Int)) r
  | 0, x, hd, hx, h => by
    refine Ev.step (fun k => ?_) h
    simp only [impl_Crc.l1]
    rw [if_neg (by omega)]
    rfl
  | d + 1, x, hd, hx, h => by
    have ih := implCrc_l1 l n i (r := r) d (crcBit x) (by omega) (crcBit_u32 hx) h
    have hm : Go.bits .and .i64 x 1 = x % 2 := and_mask 1 (by decide) x
    refine Ev.step (fun k => ?_) ih
    simp only [impl_Crc.l1]
    rw [if_pos (by omega), hm, wrap64_id (n := ((8 - (d + 1) : Nat) : Int) + 1) (by omega) (by omega), show ((8 - (d + 1) : Nat) : Int) + 1 = ((8 - d : Nat) : Int) by omega]
    unfold crcBit
    split <;> rfl
theorem implCrc_l0 (l : List Int) (h8 : ∀ x ∈ l, 0 ≤ x ∧ x < 256) (hl : l.length ≤ 140737488351232) : ∀ (d : Nat) (x : Int) (i : Nat), i + d = l.length → 0 ≤ x ∧ x < 4294967296 → Ev (fun k => impl_Crc.l0 k x l (l.length : Int) (i : Int)) (Go.bits .xor .i64 (crcFold x (l.drop i)) 4294967295)
  | 0, x, i, hi, hx => by
    refine Ev.step (f := fun _ => some (Go.bits .xor .i64 x 4294967295)) (fun k => ?_) (Ev.const ?_)
    · simp only [impl_Crc.l0]
      rw [if_neg (by omega)]
    · rw [List.drop_of_length_le (by omega)]; rfl
  | d + 1, x, i, hi, hx => by
    have e3 : l.drop i = l[i]'(by omega) :: l.drop (i + 1) := List.drop_eq_getElem_cons (by omega)
    have b := h8 (l[i]'(by omega)) (List.getElem_mem _)
    have hx2 := xor_u32 hx (b := l[i]'(by omega)) (by omega)
    have ih := implCrc_l0 l h8 hl d (crcBits 8 (Go.bits .xor .i64 x (l[i]'(by omega)))) (i + 1) (by omega) (crcBits_u32 8 hx2)
    rw [e3]
    have h := implCrc_l1 l (l.length : Int) i 8 _ (by omega) hx2 (by rw [wrap64_id (by omega) (by omega)]; exact ih)
    refine Ev.step (fun k => ?_) h
    simp only [impl_Crc.l0]
    rw [if_pos (by omega), if_pos (by omega), if_pos (by omega), rd_get l i (by omega), wrap64_id (by omega) (by omega)]
    rfl
theorem implCrc_ev (l : List Int) (h8 : ∀ x ∈ l, 0 ≤ x ∧ x < 256) (hl : l.length ≤ 140737488351232) : Ev (fun k => impl_Crc.f k l) (crcOf l) := by
  have h := implCrc_l0 l h8 hl l.length 4294967295 0 (by omega) (by omega)
  exact h

def headFront (o : Bool) (n : Int) (d : List Int) : List Int := [67, 76, 1, if o then 1 else 0] ++ wordBytes n ++ d
def headOf (o : Bool) (n : Int) (d : List Int) : List Int := if (0 ≤ n ∧ n ≤ 1024) ∧ d.length = 32 then headFront o n d ++ wordBytes (crcOf (headFront o n d)) else []
theorem headFront_len (o : Bool) (n : Int) (d : List Int) : (headFront o n d).length = 8 + d.length := by simp [headFront, wordBytes]; omega
theorem headFront_u8 (o : Bool) (n : Int) (d : List Int) (hd : ∀ x ∈ d, 0 ≤ x ∧ x < 256) : ∀ x ∈ headFront o n d, 0 ≤ x ∧ x < 256 := by
  intro x hx
  unfold headFront at hx
  rcases List.mem_append.1 hx with hx | hx
  · rcases List.mem_append.1 hx with hx | hx
    · cases o <;> simp at hx <;> omega
    · exact wordBytes_u8 n x hx
  · exact hd x hx

/-- A word's value, where its four bytes are there. -/
theorem word_tell (l : List Int) (a : Nat) (h : ∀ i, 0 ≤ rd l i ∧ rd l i < 256) (hl : l.length ≤ 1048576) (ha : a + 4 ≤ l.length) :
    impl_Word.f l (a : Int) = some (rd l a + rd l (a + 1) * 256 + rd l (a + 2) * 65536 + rd l (a + 3) * 16777216, true) := by
  unfold impl_Word.f impl_in.f
  rw [wrap64_id (n := (l.length : Int) - 4) (by omega) (by omega)]
  rw [wrap64_id (n := (a : Int) + 1) (by omega) (by omega), wrap64_id (n := (a : Int) + 2) (by omega) (by omega), wrap64_id (n := (a : Int) + 3) (by omega) (by omega)]
  have b0 := h a
  have b1 := h (a + 1)
  have b2 := h (a + 2)
  have b3 := h (a + 3)
  rw [if_pos (by omega)]
  simp only [Option.bind_some]
  rw [if_pos (by simp; omega)]
  repeat rw [if_pos (by omega)]
  generalize rd l a = x0 at *
  generalize rd l (a + 1) = x1 at *
  generalize rd l (a + 2) = x2 at *
  generalize rd l (a + 3) = x3 at *
  rw [wrap64_id (n := x0) (by omega) (by omega), wrap64_id (n := x1) (by omega) (by omega), wrap64_id (n := x2) (by omega) (by omega), wrap64_id (n := x3) (by omega) (by omega)]
  rw [wrap64_id (n := x1 * 256) (by omega) (by omega), wrap64_id (n := x2 * 65536) (by omega) (by omega), wrap64_id (n := x3 * 16777216) (by omega) (by omega)]
  rw [or_low (x := x0) (y := x1 * 256) 8 (by omega) (by omega) (by omega) (by omega) (by omega) (by omega)]
  rw [or_low (x := x0 + x1 * 256) (y := x2 * 65536) 16 (by omega) (by omega) (by omega) (by omega) (by omega) (by omega)]
  rw [or_low (x := x0 + x1 * 256 + x2 * 65536) (y := x3 * 16777216) 24 (by omega) (by omega) (by omega) (by omega) (by omega) (by omega)]
theorem crcFold_u32 : ∀ (l : List Int) (x : Int), (∀ z ∈ l, 0 ≤ z ∧ z < 256) → 0 ≤ x ∧ x < 4294967296 → 0 ≤ crcFold x l ∧ crcFold x l < 4294967296
  | [], _, _, h => h
  | v :: r, x, h8, h => crcFold_u32 r _ (fun z hz => h8 z (by simp [hz])) (crcBits_u32 8 (xor_u32 h (by have := h8 v (by simp); omega)))
theorem crcOf_u32 (l : List Int) (h8 : ∀ z ∈ l, 0 ≤ z ∧ z < 256) : 0 ≤ crcOf l ∧ crcOf l < 4294967296 := xor_u32 (crcFold_u32 l _ h8 (by decide)) (by decide)

/-- What is read of a head that was put, whatever its last four bytes are. -/
theorem readHead_ev (o : Bool) (n : Int) (d : List Int) (x0 x1 x2 x3 : Int) (hn : 0 ≤ n ∧ n ≤ 1024) (hd : d.length = 32) (h8 : ∀ x ∈ d, 0 ≤ x ∧ x < 256) (h0 : 0 ≤ x0 ∧ x0 < 256) (h1 : 0 ≤ x1 ∧ x1 < 256) (h2 : 0 ≤ x2 ∧ x2 < 256) (h3 : 0 ≤ x3 ∧ x3 < 256) :
    Ev (fun k => impl_ReadHead.f k (headFront o n d ++ [x0, x1, x2, x3])) (if x0 + x1 * 256 + x2 * 65536 + x3 * 16777216 = crcOf (headFront o n d) then (o, n, d, 1) else (false, 0, [], 5)) := by
  have hf := headFront_len o n d
  have hf8 := headFront_u8 o n d h8
  have hc := implCrc_ev (headFront o n d) hf8 (by omega)
  have hlen : (headFront o n d ++ [x0, x1, x2, x3]).length = 44 := by simp [hf, hd]
  have hp8 : ∀ x ∈ headFront o n d ++ [x0, x1, x2, x3], 0 ≤ x ∧ x < 256 := by
    intro x hx
    rcases List.mem_append.1 hx with hx | hx
    · exact hf8 x hx
    · simp only [List.mem_cons, List.mem_nil_iff, or_false] at hx
      rcases hx with rfl | rfl | rfl | rfl <;> assumption
  have hr8 := rd_all (P := fun x => 0 ≤ x ∧ x < 256) hp8 (by omega)
  have w40 := word_tell _ 40 hr8 (by omega) (by omega)
  have w4 := word_tell _ 4 hr8 (by omega) (by omega)
  have htk : (headFront o n d ++ [x0, x1, x2, x3]).take 40 = headFront o n d := List.take_left' (by omega)
  have hdr : (headFront o n d).drop 8 = d := by simp [headFront, wordBytes]
  have r40 : ∀ i : Nat, rd (headFront o n d ++ [x0, x1, x2, x3]) ((40 : Nat) + (i : Int)) = rd [x0, x1, x2, x3] i := by
    intro i
    have : ((40 : Nat) : Int) + (i : Int) = ((40 + i : Nat) : Int) := by omega
    rw [this]
    unfold rd
    simp only [Int.toNat_natCast, List.getD_eq_getElem?_getD]
    rw [List.getElem?_append_right (by omega)]
    congr 2
    omega
  have q0 := r40 0
  have q1 := r40 1
  have q2 := r40 2
  have q3 := r40 3
  simp only [Int.cast_ofNat_Int, Int.add_zero] at q0 q1 q2 q3
  have e2 : rd (headFront o n d ++ [x0, x1, x2, x3]) 2 = 1 := rfl
  have e3 : rd (headFront o n d ++ [x0, x1, x2, x3]) 3 = if o then 1 else 0 := rfl
  have p0 : rd (headFront o n d ++ [x0, x1, x2, x3]) ((4 : Nat) : Int) = n % 256 := rfl
  have p1 : rd (headFront o n d ++ [x0, x1, x2, x3]) (((4 : Nat) : Int) + 1) = n / 256 % 256 := rfl
  have p2 : rd (headFront o n d ++ [x0, x1, x2, x3]) (((4 : Nat) : Int) + 2) = n / 65536 % 256 := rfl
  have p3 : rd (headFront o n d ++ [x0, x1, x2, x3]) (((4 : Nat) : Int) + 3) = n / 16777216 % 256 := rfl
  have t2 : (headFront o n d ++ [x0, x1, x2, x3]).take 2 = [67, 76] := rfl
  rw [p0, p1, p2, p3, show n % 256 + n / 256 % 256 * 256 + n / 65536 % 256 * 65536 + n / 16777216 % 256 * 16777216 = n by omega] at w4
  have v0 : rd (headFront o n d ++ [x0, x1, x2, x3]) ((40 : Nat) : Int) = x0 := q0
  have v1 : rd (headFront o n d ++ [x0, x1, x2, x3]) (((40 : Nat) : Int) + 1) = x1 := q1
  have v2 : rd (headFront o n d ++ [x0, x1, x2, x3]) (((40 : Nat) : Int) + 2) = x2 := q2
  have v3 : rd (headFront o n d ++ [x0, x1, x2, x3]) (((40 : Nat) : Int) + 3) = x3 := q3
  rw [v0, v1, v2, v3] at w40
  clear q0 q1 q2 q3 v0 v1 v2 v3 p0 p1 p2 p3 r40
  generalize headFront o n d ++ [x0, x1, x2, x3] = p at *
  unfold impl_ReadHead.f impl_mark.f
  refine Ev.ifF (by omega) ?_
  simp only [Option.bind_some]
  refine Ev.bindc (a := (x0 + x1 * 256 + x2 * 65536 + x3 * 16777216, true)) (by simpa using w40) (Ev.bindc (a := (n, true)) (by simpa using w4) (Ev.ifT (by omega) (Ev.ifT (by simp) ?_)))
  have hs : impl_Same.f (p.take 2) [67, 76] = some true := by
    rw [t2]
    unfold impl_Same.f bytes_Equal.f
    simp
  refine Ev.bindc hs (Ev.ifT rfl (Ev.ifT (by omega) (Ev.ifT (by simp) (Ev.ifT (by rw [e2]; rfl) (Ev.ifT (by omega) (Ev.ifF (by rw [e3]; cases o <;> simp) (Ev.ifT (by omega) (Ev.bind (by rw [htk]; exact hc) ?_))))))))
  by_cases hq : x0 + x1 * 256 + x2 * 65536 + x3 * 16777216 = crcOf (headFront o n d)
  · rw [if_pos hq, if_pos hq]
    refine Ev.ifF (show ¬ n > 1024 by omega) (Ev.bindc (a := d) ?_ ?_)
    · rw [htk, hdr]
      unfold slices_Clone_byte_byte.f
      simp [hd]
    · rw [e3]
      refine Ev.const ?_
      cases o <;> rfl
  · rw [if_neg hq, if_neg hq]
    exact Ev.now _

theorem implPutHead_ev (o : Bool) (n : Int) (d : List Int) (hd : ∀ x ∈ d, 0 ≤ x ∧ x < 256) (hl : d.length ≤ 1048576) : Ev (fun k => impl_PutHead.f k o n d) (headOf o n d) := by
  unfold impl_PutHead.f impl_HeadOk.f impl_mark.f headOf
  rw [in_tell]
  simp only [Option.bind_some]
  have hw : (wordBytes n).length = 4 := rfl
  have hf := headFront_len o n d
  have hc := implCrc_ev (headFront o n d) (headFront_u8 o n d hd) (by omega)
  have hw2 : (wordBytes (crcOf (headFront o n d))).length = 4 := rfl
  by_cases h1 : 0 ≤ n ∧ n ≤ 1024
  · simp only [decide_eq_true h1, if_true, Option.bind_some]
    by_cases h2 : d.length = 32
    · rw [if_pos ⟨h1, h2⟩]
      have hb : ((d.length : Int) == 32) = true := by simp [h2]
      refine Ev.ifT hb ?_
      generalize crcOf (headFront o n d) = c at *
      unfold headFront at *
      cases o with
      | true =>
        simp only [if_true] at hc hf ⊢
        refine Ev.ifT (by simp) ?_
        simp only [List.cons_append, List.nil_append, implPutWord_tell, Option.bind_some] at hc hf ⊢
        refine Ev.ifT (by simp [hw]) (Ev.ifT (by simp [hw]; omega) (Ev.bind ?_ (Ev.ifT (by simp [hw, hw2]; omega) (Ev.now _))))
        simpa using hc
      | false =>
        simp only [if_neg (show ¬ (false = true) by decide)] at hc hf ⊢
        refine Ev.ifT (by simp) ?_
        simp only [List.cons_append, List.nil_append, implPutWord_tell, Option.bind_some] at hc hf ⊢
        refine Ev.ifT (by simp [hw]) (Ev.ifT (by simp [hw]; omega) (Ev.bind ?_ (Ev.ifT (by simp [hw, hw2]; omega) (Ev.now _))))
        simpa using hc
    · rw [if_neg (fun q => h2 q.2)]
      exact Ev.ifF (by simp; omega) (Ev.now _)
  · simp only [decide_eq_false h1, Option.bind_some]
    simp only [Bool.false_eq_true, if_false]
    rw [if_neg (fun q => h1 q.1)]
    exact Ev.now _

theorem sameBytes_l0 (a b : List Int) (hab : a.length = b.length) (hl : a.length ≤ 140737488355328) : ∀ (d : Nat) (i : Nat), i + d = a.length → Ev (fun k => laws_sameBytes.l0 k a b (i : Int)) (decide (a.drop i = b.drop i))
  | 0, i, hi => by
    refine Ev.step (f := fun _ => some true) (fun k => ?_) (Ev.const ?_)
    · simp only [laws_sameBytes.l0]
      rw [if_neg (by omega)]
    · rw [List.drop_of_length_le (by omega), List.drop_of_length_le (by omega)]; simp
  | d + 1, i, hi => by
    have ih := sameBytes_l0 a b hab hl d (i + 1) (by omega)
    have e1 : a.drop i = a[i]'(by omega) :: a.drop (i + 1) := List.drop_eq_getElem_cons (by omega)
    have e2 : b.drop i = b[i]'(by omega) :: b.drop (i + 1) := List.drop_eq_getElem_cons (by omega)
    by_cases e : a[i]'(by omega) = b[i]'(by omega)
    · have e3 : decide (a.drop i = b.drop i) = decide (a.drop (i + 1) = b.drop (i + 1)) := by
        rw [e1, e2, e, Bool.eq_iff_iff]; simp only [decide_eq_true_eq, List.cons.injEq, true_and]
      rw [e3]
      refine Ev.step (fun k => ?_) ih
      simp only [laws_sameBytes.l0]
      rw [if_pos (by omega), if_pos (by omega), if_pos (by omega), if_pos (by rw [rd_get a i (by omega), rd_get b i (by omega)]; exact e), wrap64_id (by omega) (by omega)]
      simp
    · have e3 : decide (a.drop i = b.drop i) = false := by
        rw [e1, e2, decide_eq_false_iff_not]; simp only [List.cons.injEq, e, false_and, not_false_eq_true]
      rw [e3]
      refine Ev.step (f := fun _ => some false) (fun k => ?_) (Ev.now _)
      simp only [laws_sameBytes.l0]
      rw [if_pos (by omega), if_pos (by omega), if_pos (by omega), if_neg (by rw [rd_get a i (by omega), rd_get b i (by omega)]; exact e)]
theorem sameBytes_tell (a b : List Int) (hl : a.length ≤ 140737488355328) : Ev (fun k => laws_sameBytes.f k a b) (decide (a = b)) := by
  by_cases h : a.length = b.length
  · refine Ev.congr (fun k => ?_) (sameBytes_l0 a b h hl a.length 0 (by simp))
    simp only [laws_sameBytes.f]
    rw [if_pos (by omega)]; simp
  · refine Ev.congr (f := fun _ => some false) (fun k => ?_) (Ev.const ?_)
    · simp only [laws_sameBytes.f]
      rw [if_neg (by omega)]
    · have : a ≠ b := fun e => h (by rw [e])
      simp [this]

/-- Draws: whatever the cursor, a byte is a byte, a number below n is below n. -/
theorem mask255 (x : Int) : 0 ≤ Go.bits .and .i64 x 255 ∧ Go.bits .and .i64 x 255 < 256 := by
  have := and_mask 8 (by decide) x
  rw [show (2 : Int) ^ 8 - 1 = 255 from rfl, show (2 : Int) ^ 8 = 256 from rfl] at this
  rw [this]; omega
theorem draw_byte (b : List Int) (hb : b.length ≤ 1048576) (i h : Int) (h0 : 0 ≤ i) (h1 : i ≤ (b.length : Int)) : ∃ v j g, spec_l1Byte.f b i h = some (v, j, g) ∧ (0 ≤ v ∧ v < 256) ∧ 0 ≤ j ∧ j ≤ (b.length : Int) := by
  unfold spec_l1Byte.f
  by_cases q : i < (b.length : Int)
  · rw [if_pos q, if_pos h0]
    refine ⟨_, _, _, rfl, mask255 _, ?_, ?_⟩ <;> (rw [wrap64_id (by omega) (by omega)]; omega)
  · rw [if_neg q]
    exact ⟨_, _, _, rfl, mask255 _, h0, h1⟩
theorem draw_below (b : List Int) (hb : b.length ≤ 1048576) (i h n : Int) (h0 : 0 ≤ i) (h1 : i ≤ (b.length : Int)) : ∃ v j g, spec_l1Below.f b i h n = some (v, j, g) ∧ 0 ≤ v ∧ (0 < n → v < n) ∧ 0 ≤ j ∧ j ≤ (b.length : Int) := by
  unfold spec_l1Below.f
  by_cases q : n ≤ 0
  · rw [if_pos q]; exact ⟨_, _, _, rfl, by omega, by omega, h0, h1⟩
  rw [if_neg q]
  obtain ⟨v, j, g, e, hv, hj0, hj1⟩ := draw_byte b hb i h h0 h1
  by_cases q2 : n ≤ 256
  · rw [if_pos q2, e]
    simp only [Option.bind_some]
    rw [if_neg (by omega)]
    have t : Int.tmod v n = v % n := Int.tmod_eq_emod_of_nonneg hv.1
    exact ⟨_, _, _, rfl, by rw [t]; exact Int.emod_nonneg _ (by omega), fun hn => by rw [t]; exact Int.emod_lt_of_pos _ hn, hj0, hj1⟩
  · rw [if_neg q2, e]
    obtain ⟨v2, j2, g2, e2, hv2, hj2, hj3⟩ := draw_byte b hb j g hj0 hj1
    obtain ⟨v3, j3, g3, e3, hv3, hj4, hj5⟩ := draw_byte b hb j2 g2 hj2 hj3
    simp only [Option.bind_some, e2, e3]
    rw [if_neg (by omega)]
    have w1 : wrap64 (v * 65536) = v * 65536 := wrap64_id (by omega) (by omega)
    have w2 : wrap64 (v2 * 256) = v2 * 256 := wrap64_id (by clear w1; omega) (by clear w1; omega)
    have w3 : wrap64 (v * 65536 + v2 * 256) = v * 65536 + v2 * 256 := wrap64_id (by clear w1 w2; omega) (by clear w1 w2; omega)
    have w4 : wrap64 (v * 65536 + v2 * 256 + v3) = v * 65536 + v2 * 256 + v3 := wrap64_id (by clear w1 w2 w3; omega) (by clear w1 w2 w3; omega)
    rw [w1, w2, w3, w4]
    clear w1 w2 w3 w4
    have t : Int.tmod (v * 65536 + v2 * 256 + v3) n = (v * 65536 + v2 * 256 + v3) % n := Int.tmod_eq_emod_of_nonneg (by omega)
    exact ⟨_, _, _, rfl, by rw [t]; exact Int.emod_nonneg _ (by omega), fun hn => by rw [t]; exact Int.emod_lt_of_pos _ hn, hj4, hj5⟩
theorem draw_new_l0 (l : List Int) (hl : l.length ≤ 1048576) : ∀ (d i : Nat) (h : Int), i + d = l.length → ∃ g, Ev (fun k => spec_l1New.l0 k l h (i : Int)) (l, 0, g)
  | 0, i, h, hd => ⟨h, Ev.step (f := fun _ => some (l, 0, h)) (fun k => by simp only [spec_l1New.l0]; rw [if_neg (by omega)]) (Ev.now _)⟩
  | d + 1, i, h, hd => by
    by_cases q : (i : Int) < 4000
    · obtain ⟨g, e⟩ := draw_new_l0 l hl d (i + 1) (Go.bits .and .i64 (wrap64 ((wrap64 ((wrap64 (h * 137)) + (wrap64 (rd l (i : Int))))) + 11)) 1073741823) (by omega)
      refine ⟨g, Ev.step (fun k => ?_) e⟩
      simp only [spec_l1New.l0]
      rw [if_pos (by omega), if_pos q, if_pos (by omega), wrap64_succ (by omega)]
    · refine ⟨h, Ev.step (f := fun _ => some (l, 0, h)) (fun k => ?_) (Ev.now _)⟩
      simp only [spec_l1New.l0]
      rw [if_pos (by omega), if_neg q]
theorem draw_new (l : List Int) (hl : l.length ≤ 1048576) : ∃ g, Ev (fun k => spec_l1New.f k l) (l, 0, g) := by
  obtain ⟨g, e⟩ := draw_new_l0 l hl l.length 0 (wrap64 (71071 + (l.length : Int))) (by omega)
  exact ⟨g, e⟩

theorem draw_once (b : List Int) (hb : b.length ≤ 1048576) (i h n : Int) (h0 : 0 ≤ i) (h1 : i ≤ (b.length : Int)) : ∃ v j g, spec_l1Once.f b i h n = some (v, j, g) ∧ 0 ≤ j ∧ j ≤ (b.length : Int) := by
  obtain ⟨v, j, g, e, _, _, h2, h3⟩ := draw_below b hb i h n h0 h1
  unfold spec_l1Once.f
  rw [e]
  exact ⟨_, _, _, rfl, h2, h3⟩

theorem draw_int (b : List Int) (hb : b.length ≤ 1048576) (i h : Int) (l : List Int) (hl : l ≠ []) (h0 : 0 ≤ i) (h1 : i ≤ (b.length : Int)) : ∃ v j g, spec_l1Int.f b i h l = some (v, j, g) ∧ v ∈ l ∧ 0 ≤ j ∧ j ≤ (b.length : Int) := by
  obtain ⟨v, j, g, e, q0, q1, h2, h3⟩ := draw_below b hb i h (l.length : Int) h0 h1
  have hp : 0 < l.length := List.length_pos_iff.2 hl
  unfold spec_l1Int.f
  rw [e]
  simp only [Option.bind_some]
  have q2 := q1 (by omega)
  rw [if_pos q0, if_pos q2]
  obtain ⟨m, rfl⟩ := Int.eq_ofNat_of_zero_le q0
  exact ⟨_, _, _, rfl, by rw [rd_get l m (by omega)]; exact List.getElem_mem _, h2, h3⟩

theorem draw_bytes_l0 (b : List Int) (hb : b.length ≤ 1048576) (n : Nat) (hn : n ≤ 1048576) : ∀ (d : Nat) (o : List Int) (i : Nat) (x h : Int), i + d = n → o.length = i → (∀ z ∈ o, 0 ≤ z ∧ z < 256) → 0 ≤ x → x ≤ (b.length : Int) →
    ∃ r j g, Ev (fun k => spec_l1Bytes.l0 k (n : Int) o (i : Int) b x h) (r, j, g) ∧ r.length = n ∧ (∀ z ∈ r, 0 ≤ z ∧ z < 256) ∧ 0 ≤ j ∧ j ≤ (b.length : Int)
  | 0, o, i, x, h, hd, ho, h8, h0, h1 => ⟨o, x, h, Ev.step (f := fun _ => some (o, x, h)) (fun k => by simp only [spec_l1Bytes.l0]; rw [if_neg (by omega)]) (Ev.now _), by omega, h8, h0, h1⟩
  | d + 1, o, i, x, h, hd, ho, h8, h0, h1 => by
    obtain ⟨v, j, g, e, hv, hj0, hj1⟩ := draw_byte b hb x h h0 h1
    have ev : v % 256 = v := by omega
    obtain ⟨r, j2, g2, e2, hr, hr8, hj2, hj3⟩ := draw_bytes_l0 b hb n hn d (o ++ [v]) (i + 1) j g (by omega) (by simp; omega) (fun z hz => by
      rcases List.mem_append.1 hz with hz | hz
      · exact h8 z hz
      · rw [List.mem_singleton.1 hz]; exact hv) hj0 hj1
    refine ⟨r, j2, g2, Ev.step (fun k => ?_) e2, hr, hr8, hj2, hj3⟩
    simp only [spec_l1Bytes.l0, e, Option.bind_some, ev]
    rw [if_pos (by omega), if_pos (by omega), wrap64_succ (by omega)]
theorem draw_bytes (b : List Int) (hb : b.length ≤ 1048576) (i h n : Int) (hn : n ≤ 1048576) (h0 : 0 ≤ i) (h1 : i ≤ (b.length : Int)) : ∃ r j g, Ev (fun k => spec_l1Bytes.f k b i h n) (r, j, g) ∧ r.length = n.toNat ∧ (∀ z ∈ r, 0 ≤ z ∧ z < 256) ∧ 0 ≤ j ∧ j ≤ (b.length : Int) := by
  by_cases q : 0 ≤ n
  · obtain ⟨m, rfl⟩ := Int.eq_ofNat_of_zero_le q
    obtain ⟨r, j, g, e, hr, h8, h2, h3⟩ := draw_bytes_l0 b hb m (by omega) m [] 0 i h (by omega) rfl (fun _ hz => absurd hz (by simp)) h0 h1
    exact ⟨r, j, g, e, by simpa using hr, h8, h2, h3⟩
  · refine ⟨[], i, h, ?_, by simp; omega, fun _ hz => absurd hz (by simp), h0, h1⟩
    unfold spec_l1Bytes.f
    refine Ev.step (f := fun _ => some ([], i, h)) (fun k => ?_) (Ev.now _)
    simp only [spec_l1Bytes.l0]
    rw [if_neg (by omega)]

theorem at_tell (l : List Int) (a : Int) (h8 : ∀ x ∈ l, 0 ≤ x ∧ x < 256) (hl : l.length ≤ 1048576) (h0 : 0 ≤ a) (h1 : a ≤ 1000) : ∃ v, laws_at.f l a = some v ∧ 0 ≤ v ∧ v < 256 := by
  unfold laws_at.f
  by_cases q : a < (l.length : Int)
  · have b := rd_all (P := fun x => 0 ≤ x ∧ x < 256) h8 (by omega) a
    rw [if_pos q, if_pos h0, wrap64_id (by omega) (by omega)]
    exact ⟨_, rfl, b⟩
  · rw [if_neg q]
    have w1 : wrap64 (a * 31) = a * 31 := wrap64_id (by omega) (by omega)
    have w2 : wrap64 ((l.length : Int) * 7) = (l.length : Int) * 7 := wrap64_id (by clear w1; omega) (by clear w1; omega)
    have w3 : wrap64 (a * 31 + (l.length : Int) * 7) = a * 31 + (l.length : Int) * 7 := wrap64_id (by clear w1 w2; omega) (by clear w1 w2; omega)
    rw [w1, w2, w3]
    clear w1 w2 w3
    have t : Int.tmod (a * 31 + (l.length : Int) * 7) 256 = (a * 31 + (l.length : Int) * 7) % 256 := Int.tmod_eq_emod_of_nonneg (by omega)
    exact ⟨_, rfl, by rw [t]; omega, by rw [t]; omega⟩
theorem xor_other (x m : Int) (hx : 0 ≤ x ∧ x < 256) (hm : 0 < m ∧ m < 256) : (0 ≤ Go.bits .xor .u8 x m ∧ Go.bits .xor .u8 x m < 256) ∧ Go.bits .xor .u8 x m ≠ x := by
  obtain ⟨a, rfl⟩ := Int.eq_ofNat_of_zero_le hx.1
  obtain ⟨b, rfl⟩ := Int.eq_ofNat_of_zero_le (show 0 ≤ m by omega)
  have hw : ∀ n : Int, 0 ≤ n → n < 2 ^ 8 → IntKind.u8.wrap n = n := by
    intro n p q
    simp [IntKind.wrap, IntKind.bits, IntKind.signed]; omega
  rw [bits_xor_nat .u8 8 (by decide) hw a b (by omega) (by omega)]
  have hlt := Nat.xor_lt_two_pow (n := 8) (x := a) (y := b) (by omega) (by omega)
  refine ⟨by omega, fun e => ?_⟩
  have e2 : a ^^^ b = a := by exact_mod_cast e
  have e3 : a ^^^ (a ^^^ b) = 0 := by rw [e2, Nat.xor_self]
  rw [← Nat.xor_assoc, Nat.xor_self, Nat.zero_xor] at e3
  omega
theorem draw_head (l : List Int) (hl : l.length ≤ 1048576) : ∃ o n d, Ev (fun k => spec_DrawPutHead.f k l) (o, n, d) ∧ -1 ≤ n ∧ n ≤ 1025 ∧ d.length ≤ 33 ∧ ∀ x ∈ d, 0 ≤ x ∧ x < 256 := by
  obtain ⟨g, e0⟩ := draw_new l hl
  obtain ⟨o, j1, g1, e1, p1, q1⟩ := draw_once l hl 0 g 2 (by omega) (by omega)
  obtain ⟨n, j2, g2, e2, m2, p2, q2⟩ := draw_int l hl j1 g1 [(-1), 0, 5, 700, 1024, 1025] (by simp) p1 q1
  obtain ⟨z, j3, g3, e3, m3, p3, q3⟩ := draw_int l hl j2 g2 [32, 32, 32, 31, 33] (by simp) p2 q2
  have hz : z ≤ 33 := by
    simp only [List.mem_cons, List.mem_nil_iff, or_false] at m3
    omega
  obtain ⟨d, j4, g4, e4, r4, h8, _, _⟩ := draw_bytes l hl j3 g3 z (by omega) p3 q3
  refine ⟨o, n, d, ?_, ?_, ?_, by omega, h8⟩
  · unfold spec_DrawPutHead.f
    exact Ev.bind e0 (Ev.bindc e1 (Ev.bindc e2 (Ev.bindc e3 (Ev.bind e4 (Ev.now _)))))
  · simp only [List.mem_cons, List.mem_nil_iff, or_false] at m2
    omega
  · simp only [List.mem_cons, List.mem_nil_iff, or_false] at m2
    omega
theorem specHeadOk_tell (o : Bool) (n : Int) (d : List Int) : spec_HeadOk.f o n d = some (decide ((0 ≤ n ∧ n ≤ 1024) ∧ d.length = 32)) := by
  unfold spec_HeadOk.f
  rw [l1In_tell]
  simp only [Option.bind_some, decide_eq_true_eq]
  by_cases h : 0 ≤ n ∧ n ≤ 1024
  · rw [if_pos h]
    congr 1
    rw [Bool.eq_iff_iff]
    simp [h]
    omega
  · rw [if_neg h]
    simp [h]
theorem FnHead : laws_FnHead.Pure := by
  intro l _ _ hw
  have h8 := wf_all_u8 hw
  refine Ev.rounds ?_
  unfold laws_FnHead.f laws_big.f
  simp only [Option.bind_some]
  by_cases h1 : (l.length : Int) > 1048576
  · exact Ev.ifT (by simpa using h1) (Ev.now _)
  refine Ev.ifF (by simpa using h1) ?_
  obtain ⟨o, n, d, e, hn0, hn1, hd, hd8⟩ := draw_head l (by omega)
  refine Ev.bind e (Ev.bind (implPutHead_ev o n d hd8 (by omega)) (Ev.bindc (specHeadOk_tell o n d) ?_))
  by_cases hk : (0 ≤ n ∧ n ≤ 1024) ∧ d.length = 32
  · have hf := headFront_len o n d
    have hf8 := headFront_u8 o n d hd8
    have hc := crcOf_u32 _ hf8
    have hx := readHead_ev o n d (crcOf (headFront o n d) % 256) (crcOf (headFront o n d) / 256 % 256) (crcOf (headFront o n d) / 65536 % 256) (crcOf (headFront o n d) / 16777216 % 256) hk.1 hk.2 hd8 (by omega) (by omega) (by omega) (by omega)
    rw [if_pos (by omega)] at hx
    have hp : headOf o n d = headFront o n d ++ [crcOf (headFront o n d) % 256, crcOf (headFront o n d) / 256 % 256, crcOf (headFront o n d) / 65536 % 256, crcOf (headFront o n d) / 16777216 % 256] := by
      unfold headOf
      rw [if_pos hk]
      rfl
    rw [hp]
    obtain ⟨v2, a2, b2⟩ := at_tell l 2 h8 (by omega) (by omega) (by omega)
    obtain ⟨v3, a3, b3⟩ := at_tell l 3 h8 (by omega) (by omega) (by omega)
    have t2 : Int.tmod v2 4 = v2 % 4 := Int.tmod_eq_emod_of_nonneg (by omega)
    have t3 : Int.tmod v3 255 = v3 % 255 := Int.tmod_eq_emod_of_nonneg (by omega)
    have hlen : (headFront o n d ++ [crcOf (headFront o n d) % 256, crcOf (headFront o n d) / 256 % 256, crcOf (headFront o n d) / 65536 % 256, crcOf (headFront o n d) / 16777216 % 256]).length = 44 := by simp; omega
    refine Ev.ifT (by simpa using hk) (Ev.bind hx (Ev.ifT rfl (Ev.ifF (by simp) (Ev.ifT rfl (Ev.bind (sameBytes_tell d d (by omega)) (Ev.ifT (by simp) ?_))))))
    rw [hlen]
    refine Ev.step (fun k => by simp only [laws_FnHead.j0]; rfl) ?_
    refine Ev.ifF (by simp) (Ev.bindc a2 ?_)
    rw [t2]
    have hq : 0 ≤ v2 % 4 ∧ v2 % 4 < 4 := by omega
    have hm : 0 < 1 + v3 % 255 ∧ 1 + v3 % 255 < 256 := by omega
    generalize v2 % 4 = q at *
    have wq : wrap64 (40 + q) = 40 + q := wrap64_id (by omega) (by omega)
    rw [wq]
    clear wq
    refine Ev.ifT (by omega) (Ev.ifT (by rw [hlen]; omega) (Ev.bindc a3 ?_))
    rw [t3]
    have wm : wrap64 (1 + v3 % 255) = 1 + v3 % 255 := wrap64_id (by omega) (by omega)
    rw [wm, show (1 + v3 % 255) % 256 = 1 + v3 % 255 by clear wm; omega]
    clear wm
    generalize 1 + v3 % 255 = m at *
    clear a2 a3 t2 t3 e hx hp
    generalize hcc : crcOf (headFront o n d) = c at *
    have y0 : 0 ≤ c % 256 ∧ c % 256 < 256 := by omega
    have y1 : 0 ≤ c / 256 % 256 ∧ c / 256 % 256 < 256 := by omega
    have y2 : 0 ≤ c / 65536 % 256 ∧ c / 65536 % 256 < 256 := by omega
    have y3 : 0 ≤ c / 16777216 % 256 ∧ c / 16777216 % 256 < 256 := by omega
    have yc : c = c % 256 + c / 256 % 256 * 256 + c / 65536 % 256 * 65536 + c / 16777216 % 256 * 16777216 := by omega
    generalize c % 256 = x0 at *
    generalize c / 256 % 256 = x1 at *
    generalize c / 65536 % 256 = x2 at *
    generalize c / 16777216 % 256 = x3 at *
    have hset : ∀ (i : Nat) (v : Int), (headFront o n d ++ [x0, x1, x2, x3]).set (40 + i) v = headFront o n d ++ [x0, x1, x2, x3].set i v := by
      intro i v
      rw [List.set_append_right _ _ (by omega), show 40 + i - (headFront o n d).length = i by omega]
    have hrd : ∀ i : Nat, rd (headFront o n d ++ [x0, x1, x2, x3]) (40 + (i : Int)) = rd [x0, x1, x2, x3] i := by
      intro i
      have : (40 : Int) + (i : Int) = ((40 + i : Nat) : Int) := by omega
      rw [this]
      unfold rd
      simp only [Int.toNat_natCast, List.getD_eq_getElem?_getD]
      rw [List.getElem?_append_right (by omega)]
      congr 2
      omega
    obtain ⟨i, rfl⟩ := Int.eq_ofNat_of_zero_le hq.1
    rw [hrd, show ((40 : Int) + (i : Int)).toNat = 40 + i by omega, hset]
    have hi : i = 0 ∨ i = 1 ∨ i = 2 ∨ i = 3 := by omega
    rcases hi with rfl | rfl | rfl | rfl
    · obtain ⟨z, zn⟩ := xor_other x0 m y0 hm
      have := readHead_ev o n d (Go.bits .xor .u8 x0 m) x1 x2 x3 hk.1 hk.2 hd8 z y1 y2 y3
      rw [if_neg (by omega)] at this
      exact Ev.bind this (Ev.now _)
    · obtain ⟨z, zn⟩ := xor_other x1 m y1 hm
      have := readHead_ev o n d x0 (Go.bits .xor .u8 x1 m) x2 x3 hk.1 hk.2 hd8 y0 z y2 y3
      rw [if_neg (by omega)] at this
      exact Ev.bind this (Ev.now _)
    · obtain ⟨z, zn⟩ := xor_other x2 m y2 hm
      have := readHead_ev o n d x0 x1 (Go.bits .xor .u8 x2 m) x3 hk.1 hk.2 hd8 y0 y1 z y3
      rw [if_neg (by omega)] at this
      exact Ev.bind this (Ev.now _)
    · obtain ⟨z, zn⟩ := xor_other x3 m y3 hm
      have := readHead_ev o n d x0 x1 x2 (Go.bits .xor .u8 x3 m) hk.1 hk.2 hd8 y0 y1 y2 z
      rw [if_neg (by omega)] at this
      exact Ev.bind this (Ev.now _)
  · have hp : headOf o n d = [] := by
      unfold headOf
      rw [if_neg hk]
    rw [hp]
    exact Ev.ifF (by simpa using hk) (Ev.now _)

end Go.Proofs.Ytndoapmehgfdkac.Pure
