/- The plain law of FnExactExpand, over numbers and lists alone: what the printed functions answer is true for all arguments. Conditions: those of the arguments' kinds. -/
import Derived.Test.YtdilibnfihcmkaaQFnExactExpandx5
import Derived.Test.YtdilibnfihcmkaaAid
set_option linter.unusedVariables false
set_option linter.unusedSimpArgs false
namespace Go.Proofs.Ytdilibnfihcmkaa.Pure
open Go.RowKit Go.Proofs.Ytdilibnfihcmkaa.Aid Go.Proofs.Ytdilibnfihcmkaa.QFnExactExpand Go.Proofs.YtdilibnfihcmkaaW.PrintWords Go.Proofs.YtdilibnfihcmkaaW.PrintLast Go.Proofs.YtdilibnfihcmkaaW.PrintMore
theorem in_tell (a b c : Int) : impl_in.f a b c = some (decide (b ≤ a ∧ a ≤ c)) := by
  unfold impl_in.f
  by_cases h : a ≥ b
  · rw [if_pos h]; congr 1; rw [Bool.eq_iff_iff]; simp only [decide_eq_true_eq]; omega
  · rw [if_neg h]; congr 1; symm; rw [decide_eq_false_iff_not]; omega

theorem l1In_tell (a b c : Int) : spec_l1In.f a b c = some (decide (b ≤ a ∧ a ≤ c)) := by
  unfold spec_l1In.f
  by_cases h : a ≥ b
  · rw [if_pos h]; congr 1; rw [Bool.eq_iff_iff]; simp only [decide_eq_true_eq]; omega
  · rw [if_neg h]; congr 1; symm; rw [decide_eq_false_iff_not]; omega

theorem toByteS_l0 (l : List Int) (hl : l.length ≤ 140737488351232) : ∀ (d : Nat) (x : List Int) (i : Nat), x.length = l.length → i + d = l.length → x.take i = l.take i → Ev (fun k => laws_toByteS.l0 k l x (i : Int)) l
  | 0, x, i, hx, hi, ht => by
    refine Ev.step (f := fun _ => some l) (fun k => ?_) (Ev.now _)
    simp only [laws_toByteS.l0]
    rw [if_neg (by omega)]
    congr 1
    rw [List.take_of_length_le (by omega), List.take_of_length_le (by omega)] at ht
    exact ht
  | d + 1, x, i, hx, hi, ht => by
    have ih := toByteS_l0 l hl d (x.set i (rd l i)) (i + 1) (by simpa using hx) (by omega) (by
      rw [List.take_succ_eq_append_getElem (by simp; omega), List.take_succ_eq_append_getElem (by omega), List.take_set_of_le (by omega), ht]
      simp [rd, List.getElem?_eq_getElem (show i < l.length by omega)])
    refine Ev.step (fun k => ?_) ih
    simp only [laws_toByteS.l0]
    rw [if_pos (by omega), if_pos (by omega), if_pos (by omega), wrap64_id (by omega) (by omega)]
    simp
theorem toByteS_ev (l : List Int) (hl : l.length ≤ 140737488351232) : Ev (fun k => laws_toByteS.f k l) l := by
  refine Ev.congr (fun k => ?_) (toByteS_l0 l hl l.length (List.replicate l.length 0) 0 (by simp) (by simp) (by simp))
  simp only [laws_toByteS.f]
  rw [if_pos (by omega), if_pos (by omega)]
  simp

theorem eqByteS_l0 (l : List Int) (hl : l.length ≤ 140737488351232) : ∀ (d : Nat) (i : Nat), i + d = l.length → Ev (fun k => laws_eqByteS.l0 k l l (i : Int)) true
  | 0, i, hi => by
    refine Ev.step (f := fun _ => some true) (fun k => ?_) (Ev.now _)
    simp only [laws_eqByteS.l0]
    rw [if_neg (by omega)]
  | d + 1, i, hi => by
    have ih := eqByteS_l0 l hl d (i + 1) (by omega)
    refine Ev.step (fun k => ?_) ih
    simp only [laws_eqByteS.l0]
    rw [if_pos (by omega), if_pos (by omega), if_pos (by omega), wrap64_id (by omega) (by omega)]
    simp
theorem eqByteS_ev (l : List Int) (hl : l.length ≤ 140737488351232) : Ev (fun k => laws_eqByteS.f k l l) true := by
  refine Ev.congr (fun k => ?_) (eqByteS_l0 l hl l.length 0 (by simp))
  simp only [laws_eqByteS.f]
  simp

def marksB : Int → List Int → List Int
  | _, [] => []
  | c, _ :: r => c % 256 :: marksB (c + 1) r
theorem marksB_length : ∀ (c : Int) (l : List Int), (marksB c l).length = l.length
  | _, [] => rfl
  | c, _ :: r => by simp [marksB, marksB_length (c + 1) r]
theorem marksB_again : ∀ (c : Int) (l : List Int), marksB c (marksB c l) = marksB c l
  | _, [] => rfl
  | c, _ :: r => by simp [marksB, marksB_again (c + 1) r]
theorem markByteS_l0 : ∀ (d : Nat) (x : List Int) (c : Int) (i : Nat), x.length ≤ 140737488355328 → i + d = x.length → 0 ≤ c → c + d ≤ 4611686018427387904 →
    Ev (fun k => laws_markByteS.l0 k x c (i : Int)) (c + d, x.take i ++ marksB c (x.drop i))
  | 0, x, c, i, hl, hi, hc, hc1 => by
    refine Ev.step (f := fun _ => some (c, x)) (fun k => ?_) (Ev.const ?_)
    · simp only [laws_markByteS.l0]
      rw [if_neg (by omega)]
    · rw [List.take_of_length_le (by omega), List.drop_of_length_le (by omega)]
      simp [marksB]
  | d + 1, x, c, i, hl, hi, hc, hc1 => by
    have ih := markByteS_l0 d (x.set i (c % 256)) (c + 1) (i + 1) (by simpa using hl) (by simp; omega) (by omega) (by omega)
    have e1 : (x.set i (c % 256)).take (i + 1) = x.take i ++ [c % 256] := by
      rw [List.take_succ_eq_append_getElem (by simp; omega), List.take_set_of_le (by omega)]; simp
    have e2 : (x.set i (c % 256)).drop (i + 1) = x.drop (i + 1) := by rw [List.drop_set]; simp
    have e3 : x.drop i = x[i]'(by omega) :: x.drop (i + 1) := List.drop_eq_getElem_cons (by omega)
    rw [e1, e2] at ih
    have e4 : (c + ((d + 1 : Nat) : Int), x.take i ++ marksB c (x.drop i)) = (c + 1 + (d : Int), x.take i ++ [c % 256] ++ marksB (c + 1) (x.drop (i + 1))) := by
      rw [e3]; simp [marksB]; omega
    rw [e4]
    refine Ev.step (fun k => ?_) ih
    simp only [laws_markByteS.l0]
    rw [if_pos (by omega), if_pos (by omega), wrap64_id (by omega) (by omega), wrap64_id (by omega) (by omega)]
    simp
theorem markByteS_ev (x : List Int) (c : Int) (hl : x.length ≤ 140737488355328) (hc : 0 ≤ c) (hc1 : c + x.length ≤ 4611686018427387904) : Ev (fun k => laws_markByteS.f k x c) (c + x.length, marksB c x) := by
  have := markByteS_l0 x.length x c 0 hl (by omega) hc hc1
  simpa [laws_markByteS.f] using this
theorem heldByteS_l0 : ∀ (d : Nat) (x : List Int) (c : Int) (i : Nat), x.length ≤ 140737488355328 → i + d = x.length → 0 ≤ c → c + d ≤ 4611686018427387904 → x.drop i = marksB c (x.drop i) →
    Ev (fun k => laws_heldByteS.l0 k x c (i : Int)) (c + d)
  | 0, x, c, i, hl, hi, hc, hc1, hm => by
    refine Ev.step (f := fun _ => some c) (fun k => ?_) (Ev.const (by simp))
    simp only [laws_heldByteS.l0]
    rw [if_neg (by omega)]
  | d + 1, x, c, i, hl, hi, hc, hc1, hm => by
    have e3 : x.drop i = x[i]'(by omega) :: x.drop (i + 1) := List.drop_eq_getElem_cons (by omega)
    rw [e3] at hm
    simp only [marksB, List.cons.injEq] at hm
    have ih := heldByteS_l0 d x (c + 1) (i + 1) hl (by omega) (by omega) (by omega) hm.2
    have e4 : c + ((d + 1 : Nat) : Int) = c + 1 + (d : Int) := by omega
    rw [e4]
    refine Ev.step (fun k => ?_) ih
    simp only [laws_heldByteS.l0]
    rw [if_pos (by omega), if_pos (by omega), if_pos (by rw [rd_get x i (by omega)]; exact hm.1), wrap64_id (by omega) (by omega), wrap64_id (by omega) (by omega)]
    simp
theorem heldByteS_ev (x : List Int) (c : Int) (hl : x.length ≤ 140737488355328) (hc : 0 ≤ c) (hc1 : c + x.length ≤ 4611686018427387904) : Ev (fun k => laws_heldByteS.f k (marksB c x) c) (c + x.length) := by
  have := heldByteS_l0 x.length (marksB c x) c 0 (by rw [marksB_length]; exact hl) (by rw [marksB_length]; omega) hc hc1 (by simp [marksB_again])
  simpa [laws_heldByteS.f] using this

/-- Tokens' lists: read, held, marked. -/
theorem tok_get (l : List S78) (i : Nat) (h : i < l.length) : rd_T78 l (i : Int) = l[i] := by simp [rd_T78, List.getElem?_eq_getElem h]
theorem tok_eta (x : S78) : (⟨x.f0, x.f1, x.f2, x.f3⟩ : S78) = x := rfl
theorem eqTokenS_l0 (l : List S78) (hl : l.length ≤ 1048576) : ∀ (d : Nat) (i : Nat), i + d = l.length → Ev (fun k => laws_eqTokenS.l0 k l l (i : Int)) true
  | 0, i, hi => by
    refine Ev.step (f := fun _ => some true) (fun k => ?_) (Ev.now _)
    simp only [laws_eqTokenS.l0]
    rw [if_neg (by omega)]
  | d + 1, i, hi => by
    have ih := eqTokenS_l0 l hl d (i + 1) (by omega)
    refine Ev.step (fun k => ?_) ih
    simp only [laws_eqTokenS.l0, laws_eqToken.f]
    rw [if_pos (by omega), if_pos (by omega), if_pos (by omega), wrap64_succ (by omega)]
    simp
theorem eqTokenS_ev (l : List S78) (hl : l.length ≤ 1048576) : Ev (fun k => laws_eqTokenS.f k l l) true := by
  refine Ev.congr (fun k => ?_) (eqTokenS_l0 l hl l.length 0 (by simp))
  simp only [laws_eqTokenS.f]
  simp
def marksT : Int → List S78 → List S78
  | _, [] => []
  | c, _ :: r => ⟨c, c + 1, c + 2, c + 3⟩ :: marksT (c + 4) r
theorem marksT_length : ∀ (c : Int) (l : List S78), (marksT c l).length = l.length
  | _, [] => rfl
  | c, _ :: r => by simp [marksT, marksT_length (c + 4) r]
theorem marksT_again : ∀ (c : Int) (l : List S78), marksT c (marksT c l) = marksT c l
  | _, [] => rfl
  | c, _ :: r => by simp [marksT, marksT_again (c + 4) r]
theorem markTokenS_l0 : ∀ (d : Nat) (x : List S78) (c : Int) (i : Nat), x.length ≤ 1048576 → i + d = x.length → 0 ≤ c → c + 4 * d ≤ 4611686018427387904 →
    Ev (fun k => laws_markTokenS.l0 k x c (i : Int)) (c + 4 * d, x.take i ++ marksT c (x.drop i))
  | 0, x, c, i, hl, hi, hc, hc1 => by
    refine Ev.step (f := fun _ => some (c, x)) (fun k => ?_) (Ev.const ?_)
    · simp only [laws_markTokenS.l0]
      rw [if_neg (by omega)]
    · rw [List.take_of_length_le (by omega), List.drop_of_length_le (by omega)]
      simp [marksT]
  | d + 1, x, c, i, hl, hi, hc, hc1 => by
    have ih := markTokenS_l0 d (x.set i ⟨c, c + 1, c + 2, c + 3⟩) (c + 4) (i + 1) (by simpa using hl) (by simp; omega) (by omega) (by omega)
    have e1 : (x.set i (⟨c, c + 1, c + 2, c + 3⟩ : S78)).take (i + 1) = x.take i ++ [⟨c, c + 1, c + 2, c + 3⟩] := by
      rw [List.take_succ_eq_append_getElem (by simp; omega), List.take_set_of_le (by omega)]; simp
    have e2 : (x.set i (⟨c, c + 1, c + 2, c + 3⟩ : S78)).drop (i + 1) = x.drop (i + 1) := by rw [List.drop_set]; simp
    have e3 : x.drop i = x[i]'(by omega) :: x.drop (i + 1) := List.drop_eq_getElem_cons (by omega)
    rw [e1, e2] at ih
    have e4 : (c + 4 * ((d + 1 : Nat) : Int), x.take i ++ marksT c (x.drop i)) = (c + 4 + 4 * (d : Int), x.take i ++ [⟨c, c + 1, c + 2, c + 3⟩] ++ marksT (c + 4) (x.drop (i + 1))) := by
      rw [e3]; simp [marksT]; omega
    rw [e4]
    refine Ev.step (fun k => ?_) ih
    have w1 : wrap64 (c + 1) = c + 1 := wrap64_id (by omega) (by omega)
    have w2 : wrap64 (c + 1 + 1) = c + 2 := by rw [wrap64_id (by clear w1; omega) (by clear w1; omega)]; clear w1; omega
    have w3 : wrap64 (c + 2 + 1) = c + 3 := by rw [wrap64_id (by clear w1 w2; omega) (by clear w1 w2; omega)]; clear w1 w2; omega
    have w4 : wrap64 (c + 3 + 1) = c + 4 := by rw [wrap64_id (by clear w1 w2 w3; omega) (by clear w1 w2 w3; omega)]; clear w1 w2 w3; omega
    have w5 : wrap64 ((i : Int) + 1) = ((i + 1 : Nat) : Int) := wrap64_succ (by clear w1 w2 w3 w4; omega)
    have g1 : (i : Int) < (x.length : Int) := by clear w1 w2 w3 w4 w5; omega
    have g2 : (0 : Int) ≤ (i : Int) := by clear w1 w2 w3 w4 w5; omega
    have hi2 : i < x.length := by clear w1 w2 w3 w4 w5; omega
    simp only [laws_markTokenS.l0]
    rw [if_pos g1, if_pos g2, w1, w2, w3, w4, w5]
    simp only [Option.bind_some, Int.toNat_natCast, List.set_set]
    congr 1
    simp [rd_T78, hi2]
theorem markTokenS_ev (x : List S78) (c : Int) (hl : x.length ≤ 1048576) (hc : 0 ≤ c) (hc1 : c ≤ 1000000000000000000) : Ev (fun k => laws_markTokenS.f k x c) (c + 4 * x.length, marksT c x) := by
  have := markTokenS_l0 x.length x c 0 hl (by omega) hc (by omega)
  simpa [laws_markTokenS.f] using this

/-- Tokens that come in, copied. (81: as they come in, 78: as they are told.) -/
def convT (x : S81) : S78 := ⟨x.f0, x.f1, x.f2, x.f3⟩
theorem toTokenS_l0 (l : List S81) (hl : l.length ≤ 8796093022208) : ∀ (d : Nat) (o : List S78) (i : Nat), i + d = l.length → o.length = l.length → Ev (fun k => laws_toTokenS.l0 k l o (i : Int)) (o.take i ++ (l.drop i).map convT)
  | 0, o, i, hi, ho => by
    refine Ev.step (f := fun _ => some o) (fun k => ?_) (Ev.const ?_)
    · simp only [laws_toTokenS.l0]
      rw [if_neg (by omega)]
    · rw [List.take_of_length_le (by omega), List.drop_of_length_le (by omega)]; simp
  | d + 1, o, i, hi, ho => by
    have ih := toTokenS_l0 l hl d (o.set i (convT (l[i]'(by omega)))) (i + 1) (by omega) (by simpa using ho)
    have e1 : (o.set i (convT (l[i]'(by omega)))).take (i + 1) = o.take i ++ [convT (l[i]'(by omega))] := by
      rw [List.take_succ_eq_append_getElem (by simp; omega), List.take_set_of_le (by omega)]; simp
    have e3 : l.drop i = l[i]'(by omega) :: l.drop (i + 1) := List.drop_eq_getElem_cons (by omega)
    have er : rd_T81 l (i : Int) = l[i]'(by omega) := by simp [rd_T81, List.getElem?_eq_getElem (show i < l.length by omega)]
    rw [e1, List.append_assoc, List.singleton_append, ← List.map_cons, ← e3] at ih
    refine Ev.step (fun k => ?_) ih
    simp only [laws_toTokenS.l0, laws_toToken.f]
    rw [if_pos (by omega), if_pos (by omega)]
    simp only [Option.bind_some]
    rw [if_pos (by omega), wrap64_succ (by omega), er]
    rfl
theorem toTokenS_ev (l : List S81) (hl : l.length ≤ 1048576) : Ev (fun k => laws_toTokenS.f k l) (l.map convT) := by
  have e := toTokenS_l0 l (by omega) l.length (List.replicate l.length z78) 0 (by omega) (by simp)
  rw [List.take_zero, List.nil_append, List.drop_zero] at e
  refine Ev.congr (fun k => ?_) e
  simp only [laws_toTokenS.f]
  rw [if_pos (by omega), if_pos (by omega)]
  rfl
theorem szTokenS_tell (l : List S81) (a : Int) (hl : l.length ≤ 9223372036854775807) (h0 : 0 ≤ a) (h1 : a ≤ 1048576) : laws_szTokenS.f l a = some (if a < (l.length : Int) then -1 else a - l.length) := by
  unfold laws_szTokenS.f
  rw [wrap64_id (by omega) (by omega)]
  by_cases q : a < (l.length : Int)
  · rw [if_pos q, if_pos (by omega)]
  · rw [if_neg q, if_neg (by omega)]

/-- Are all tokens of a list fine? (impl_Token_93_of_impl_tokensOk_1: the search, impl_Token_84_of_impl_tokensOk_1: whether it finds.) -/
def tokOk (t : S78) : Bool := decide ((t.f0 = 1 ∧ 0 ≤ t.f1 ∧ t.f1 ≤ 255 ∧ t.f2 = 0 ∧ t.f3 = 0) ∨ (t.f0 = 2 ∧ t.f1 = 0 ∧ 3 ≤ t.f2 ∧ t.f2 ≤ 66 ∧ 1 ≤ t.f3 ∧ t.f3 ≤ 256))
theorem implTokenOk_tell (a b c d : Int) : impl_TokenOk.f a b c d = some (tokOk ⟨a, b, c, d⟩) := by
  unfold impl_TokenOk.f tokOk
  simp only [in_tell, Option.bind_some, decide_eq_true_eq]
  by_cases h1 : a = 1
  · rw [if_pos h1]
    by_cases h2 : 0 ≤ b ∧ b ≤ 255
    · rw [if_pos h2]
      by_cases h3 : c = 0
      · rw [if_pos h3]
        congr 1
        rw [Bool.eq_iff_iff, decide_eq_true_eq, beq_iff_eq]
        constructor
        · intro q; exact .inl ⟨h1, h2.1, h2.2, h3, q⟩
        · intro q; omega
      · rw [if_neg h3]
        congr 1
        symm; rw [decide_eq_false_iff_not]; omega
    · rw [if_neg h2]
      congr 1
      symm; rw [decide_eq_false_iff_not]; omega
  · rw [if_neg h1]
    by_cases h2 : a = 2
    · rw [if_pos h2]
      by_cases h3 : b = 0
      · rw [if_pos h3]
        by_cases h4 : 3 ≤ c ∧ c ≤ 66
        · rw [if_pos h4]
          congr 1
          rw [Bool.eq_iff_iff, decide_eq_true_eq, decide_eq_true_eq]
          omega
        · rw [if_neg h4]
          congr 1
          symm; rw [decide_eq_false_iff_not]; omega
      · rw [if_neg h3]
        congr 1
        symm; rw [decide_eq_false_iff_not]; omega
    · rw [if_neg h2]
      congr 1
      symm; rw [decide_eq_false_iff_not]; omega
theorem tokensOk_l0 (l : List S78) (hl : l.length ≤ 1048576) : ∀ (d i : Nat), i + d = l.length → ∃ r : Int, decide (r ≥ 0) = !(l.drop i).all tokOk ∧ Ev (fun k => impl_Token_93_of_impl_tokensOk_1.l0 k l (l.length : Int) (i : Int)) r
  | 0, i, hi => by
    refine ⟨-1, by rw [List.drop_of_length_le (by omega)]; rfl, Ev.step (f := fun _ => some (-1)) (fun k => ?_) (Ev.now _)⟩
    simp only [impl_Token_93_of_impl_tokensOk_1.l0]
    rw [if_neg (by omega)]
  | d + 1, i, hi => by
    obtain ⟨r, h1, h2⟩ := tokensOk_l0 l hl d (i + 1) (by omega)
    have e3 : l.drop i = l[i]'(by omega) :: l.drop (i + 1) := List.drop_eq_getElem_cons (by omega)
    have g1 : (i : Int) < (l.length : Int) := by omega
    have g2 : (0 : Int) ≤ (i : Int) := by omega
    have er : rd_T78 l (i : Int) = l[i]'(by omega) := by simp [rd_T78, List.getElem?_eq_getElem (show i < l.length by omega)]
    by_cases hb : tokOk (l[i]'(by omega)) = true
    · refine ⟨r, ?_, Ev.step (fun k => ?_) h2⟩
      · rw [h1, e3, List.all_cons, hb, Bool.true_and]
      · simp only [impl_Token_93_of_impl_tokensOk_1.l0, impl_tokensOk_1.f]
        rw [if_pos g1, if_pos g2, if_pos g1, er, implTokenOk_tell]
        simp only [Option.bind_some]
        rw [hb, wrap64_succ (by omega)]
        simp
    · refine ⟨(i : Int), ?_, Ev.step (f := fun _ => some (i : Int)) (fun k => ?_) (Ev.now _)⟩
      · rw [e3, List.all_cons, Bool.eq_false_iff.2 hb, Bool.false_and, Bool.not_false, decide_eq_true_eq]; omega
      · simp only [impl_Token_93_of_impl_tokensOk_1.l0, impl_tokensOk_1.f]
        rw [if_pos g1, if_pos g2, if_pos g1, er, implTokenOk_tell]
        simp only [Option.bind_some]
        rw [Bool.eq_false_iff.2 hb]
        simp
theorem tokensOk_ev (l : List S78) (hl : l.length ≤ 1048576) : Ev (fun k => impl_tokensOk.f k l) (decide (l.length ≤ 1024) && l.all tokOk) := by
  unfold impl_tokensOk.f impl_Token_84_of_impl_tokensOk_1.f impl_Token_93_of_impl_tokensOk_1.f
  by_cases h : (l.length : Int) ≤ 1024
  · obtain ⟨r, h1, h2⟩ := tokensOk_l0 l hl l.length 0 (by omega)
    refine Ev.ifT h (Ev.bind (a := decide (r ≥ 0)) (Ev.bind h2 (Ev.now _)) (Ev.const ?_))
    rw [h1, decide_eq_true (show l.length ≤ 1024 by omega)]
    simp
  · refine Ev.ifF h (Ev.const ?_)
    rw [decide_eq_false (by omega)]; rfl

theorem specTokenOk_tell (a b c d : Int) : spec_TokenOk.f a b c d = some (tokOk ⟨a, b, c, d⟩) := by
  rw [← implTokenOk_tell]
  unfold spec_TokenOk.f impl_TokenOk.f
  simp only [in_tell, l1In_tell]
theorem l5Ok_l0 (l : List S78) (hl : l.length ≤ 1048576) : ∀ (d i : Nat), i + d = l.length → Ev (fun k => spec_l5Ok.l0 k l (i : Int)) ((l.drop i).all tokOk)
  | 0, i, hi => by
    rw [List.drop_of_length_le (by omega)]
    refine Ev.step (f := fun _ => some true) (fun k => ?_) (Ev.now _)
    simp only [spec_l5Ok.l0]
    rw [if_neg (by omega)]
  | d + 1, i, hi => by
    have ih := l5Ok_l0 l hl d (i + 1) (by omega)
    have e3 : l.drop i = l[i]'(by omega) :: l.drop (i + 1) := List.drop_eq_getElem_cons (by omega)
    have er : rd_T78 l (i : Int) = l[i]'(by omega) := by simp [rd_T78, List.getElem?_eq_getElem (show i < l.length by omega)]
    have g1 : (i : Int) < (l.length : Int) := by omega
    have g2 : (0 : Int) ≤ (i : Int) := by omega
    rw [e3, List.all_cons]
    by_cases hb : tokOk (l[i]'(by omega)) = true
    · rw [hb, Bool.true_and]
      refine Ev.step (fun k => ?_) ih
      simp only [spec_l5Ok.l0]
      rw [if_pos g1, if_pos g2, er, specTokenOk_tell]
      simp only [Option.bind_some]
      rw [if_pos hb, wrap64_succ (by omega)]
    · rw [Bool.eq_false_iff.2 hb, Bool.false_and]
      refine Ev.step (f := fun _ => some false) (fun k => ?_) (Ev.now _)
      simp only [spec_l5Ok.l0]
      rw [if_pos g1, if_pos g2, er, specTokenOk_tell]
      simp only [Option.bind_some]
      rw [if_neg hb]
theorem l5Ok_ev (l : List S78) (hl : l.length ≤ 1048576) : Ev (fun k => spec_l5Ok.f k l) (decide (l.length ≤ 1024) && l.all tokOk) := by
  unfold spec_l5Ok.f
  by_cases h : (l.length : Int) > 1024
  · refine Ev.ifT h (Ev.const ?_)
    rw [decide_eq_false (by omega)]; rfl
  · rw [decide_eq_true (show l.length ≤ 1024 by omega), Bool.true_and]
    exact Ev.ifF h (l5Ok_l0 l hl l.length 0 (by omega))

def TwoE (e f : Nat → Option (List Int × Int)) : Prop := ∃ R : List Int × Int, R.1.length ≤ 1024 ∧ Ev e R ∧ Ev f R
theorem TwoE.step {e f e' f' : Nat → Option (List Int × Int)} (he : ∀ k, e (k + 1) = e' k) (hf : ∀ k, f (k + 1) = f' k) (h : TwoE e' f') : TwoE e f := by
  obtain ⟨R, h0, h1, h2⟩ := h
  exact ⟨R, h0, Ev.step he h1, Ev.step hf h2⟩
theorem expandB_l1 (x0 : List Int) (r : List S78) (most i : Int) (f0 f1 len f3 : Int) (n : Nat) (hn : n ≤ 1024) (hk : f0 = 2 → 1 ≤ f3) : ∀ (d j : Nat) (o : List Int), j + d = n → (f0 = 2 → f3 ≤ o.length) → o.length + d ≤ 4096 →
    (∀ o' : List Int, o'.length = o.length + d → TwoE (fun k => spec_Expand.l0 k x0 r most o' (wrap64 (i + 1))) (fun k => impl_Expand.l0 k x0 most o' r (r.length : Int) (wrap64 (i + 1)))) →
    TwoE (fun k => spec_Expand.l1 k x0 r most o i (n : Int) (j : Int) f0 f1 len f3) (fun k => impl_Expand.l1 k x0 most o r (r.length : Int) i (n : Int) (j : Int) f0 f1 len f3)
  | 0, j, o, hj, ho, hl, next => by
    refine TwoE.step (fun k => ?_) (fun k => ?_) (next o rfl)
    · simp only [spec_Expand.l1]
      rw [if_neg (by omega)]
    · simp only [impl_Expand.l1]
      rw [if_neg (by omega)]
  | d + 1, j, o, hj, ho, hl, next => by
    have wj : wrap64 ((j : Int) + 1) = ((j + 1 : Nat) : Int) := wrap64_succ (by omega)
    have g : (j : Int) < (n : Int) := by clear wj; omega
    by_cases h : f0 = 2
    · have h1 := hk h
      have h2 := ho h
      have w1 : wrap64 ((o.length : Int) - f3) = (o.length : Int) - f3 := wrap64_id (by clear wj; omega) (by clear wj; omega)
      have ih := expandB_l1 x0 r most i f0 f1 len f3 n hn hk d (j + 1) (o ++ [rd o ((o.length : Int) - f3)]) (by clear wj w1; omega) (fun _ => by clear wj w1; simp; omega) (by clear wj w1; simp; omega) (fun o' q => next o' (by clear wj w1; simp at q; omega))
      refine TwoE.step (fun k => ?_) (fun k => ?_) ih
      · simp only [spec_Expand.l1]
        rw [if_pos g, if_pos h, w1, wj]
        clear wj w1
        rw [if_pos (by omega), if_pos (by omega), if_pos (by omega)]
      · simp only [impl_Expand.l1]
        rw [if_pos g, if_pos h, w1, wj]
        clear wj w1
        rw [if_pos (by omega), if_pos (by omega), if_pos (by omega)]
    · have ih := expandB_l1 x0 r most i f0 f1 len f3 n hn hk d (j + 1) (o ++ [f1 % 256]) (by clear wj; omega) (fun q => absurd q h) (by clear wj; simp; omega) (fun o' q => next o' (by clear wj; simp at q; omega))
      refine TwoE.step (fun k => ?_) (fun k => ?_) ih
      · simp only [spec_Expand.l1]
        rw [if_pos g, if_neg h, wj]
        clear wj
        rw [if_pos (by omega)]
      · simp only [impl_Expand.l1]
        rw [if_pos g, if_neg h, wj]
        clear wj
        rw [if_pos (by omega)]
theorem clone_tell (l : List Int) (h : l.length ≤ 1000000) : slices_Clone_byte_byte.f l = some l := by
  unfold slices_Clone_byte_byte.f
  simp only [Option.bind_some, List.nil_append, List.length_nil, Nat.zero_add]
  rw [if_pos (by omega)]
theorem expandB_go (x0 : List Int) (hx : x0.length ≤ 1024) (r : List S78) (hr : r.length ≤ 1024) (hok : r.all tokOk = true) (most : Int) (hm0 : 0 ≤ most) (hm1 : most ≤ 1024) : ∀ (d i : Nat) (o : List Int), i + d = r.length → x0.length ≤ o.length → (o.length : Int) ≤ x0.length + most →
    TwoE (fun k => spec_Expand.l0 k x0 r most o (i : Int)) (fun k => impl_Expand.l0 k x0 most o r (r.length : Int) (i : Int))
  | 0, i, o, hi, h0, h1 => by
    refine ⟨(o.drop x0.length, 0), by simp; omega, ?_, ?_⟩
    · refine Ev.step (f := fun _ => some (o.drop x0.length, 0)) (fun k => ?_) (Ev.now _)
      simp only [spec_Expand.l0]
      rw [if_neg (by omega)]
      simp only [Option.bind_some, Int.toNat_natCast, List.nil_append, List.length_nil, Nat.zero_add]
      rw [if_pos (by omega), if_pos (by omega), if_pos (by simp; omega)]
    · refine Ev.step (f := fun _ => some (o.drop x0.length, 0)) (fun k => ?_) (Ev.now _)
      simp only [impl_Expand.l0]
      rw [if_neg (by omega), if_pos (by omega), if_pos (by omega), Int.toNat_natCast, clone_tell _ (by simp; omega)]
      rfl
  | d + 1, i, o, hi, h0, h1 => by
    have er : rd_T78 r (i : Int) = r[i]'(by omega) := by simp [rd_T78, List.getElem?_eq_getElem (show i < r.length by omega)]
    have g1 : (i : Int) < (r.length : Int) := by omega
    have g2 : (0 : Int) ≤ (i : Int) := by omega
    have hxx := List.all_eq_true.1 hok (r[i]'(by omega)) (List.getElem_mem _)
    have wi : wrap64 ((i : Int) + 1) = ((i + 1 : Nat) : Int) := wrap64_succ (by omega)
    unfold tokOk at hxx
    rw [decide_eq_true_eq] at hxx
    generalize r[i]'(by omega) = x at er hxx
    have j2 : ∀ n : Nat, 1 ≤ n → n ≤ 66 → (x.f0 = 2 → 1 ≤ x.f3 ∧ x.f3 ≤ o.length) → TwoE (fun k => spec_Expand.j2 k x0 r most o (i : Int) (n : Int) x.f0 x.f1 x.f2 x.f3) (fun k => impl_Expand.j2 k x0 most o (n : Int) r (r.length : Int) (i : Int) x.f0 x.f1 x.f2 x.f3) := by
      intro n hn1 hn2 hk
      have w1 : wrap64 ((o.length : Int) - (x0.length : Int)) = (o.length : Int) - (x0.length : Int) := wrap64_id (by clear wi; omega) (by clear wi; omega)
      have w2 : wrap64 ((o.length : Int) - (x0.length : Int) + (n : Int)) = (o.length : Int) - (x0.length : Int) + (n : Int) := wrap64_id (by clear wi w1; omega) (by clear wi w1; omega)
      by_cases q : (o.length : Int) - (x0.length : Int) + (n : Int) > most
      · refine ⟨([], 3), by simp, ?_, ?_⟩
        · refine Ev.step (f := fun _ => some ([], 3)) (fun k => ?_) (Ev.now _)
          simp only [spec_Expand.j2]
          rw [w1, w2, if_pos q]
        · refine Ev.step (f := fun _ => some ([], 3)) (fun k => ?_) (Ev.now _)
          simp only [impl_Expand.j2]
          rw [w1, w2, if_pos q]
      · refine TwoE.step (fun k => ?_) (fun k => ?_) (expandB_l1 x0 r most (i : Int) x.f0 x.f1 x.f2 x.f3 n (by clear wi w1 w2; omega) (fun h => (hk h).1) n 0 o (by clear wi w1 w2; omega) (fun h => (hk h).2) (by clear wi w1 w2; omega) (fun o' e => ?_))
        · simp only [spec_Expand.j2]
          rw [w1, w2, if_neg q]; rfl
        · simp only [impl_Expand.j2]
          rw [w1, w2, if_neg q]; rfl
        · rw [wi]
          exact expandB_go x0 hx r hr hok most hm0 hm1 d (i + 1) o' (by clear wi w1 w2; omega) (by clear wi w1 w2; omega) (by clear wi w1 w2; omega)
    rcases hxx with hxx | hxx
    · have h2 : ¬ x.f0 = 2 := by rw [hxx.1]; decide
      refine TwoE.step (fun k => ?_) (fun k => ?_) (j2 1 (by clear wi; omega) (by clear wi; omega) (fun h => absurd h h2))
      · simp only [spec_Expand.l0]
        rw [if_pos g1, if_pos g2, er, if_neg h2]; rfl
      · simp only [impl_Expand.l0]
        rw [if_pos g1, if_pos g2, if_pos g1, er, if_neg h2]; rfl
    · have h2 : x.f0 = 2 := hxx.1
      by_cases q : x.f3 > (o.length : Int)
      · refine ⟨([], 2), by simp, ?_, ?_⟩
        · refine Ev.step (f := fun _ => some ([], 2)) (fun k => ?_) (Ev.now _)
          simp only [spec_Expand.l0]
          rw [if_pos g1, if_pos g2, er, if_pos h2, if_pos q]
        · refine Ev.step (f := fun _ => some ([], 2)) (fun k => ?_) (Ev.now _)
          simp only [impl_Expand.l0]
          rw [if_pos g1, if_pos g2, if_pos g1, er, if_pos h2, if_pos q]
      · obtain ⟨n, hn⟩ := Int.eq_ofNat_of_zero_le (show 0 ≤ x.f2 by clear wi; omega)
        refine TwoE.step (fun k => ?_) (fun k => ?_) (j2 n (by clear wi; omega) (by clear wi; omega) (fun _ => by clear wi; omega))
        · simp only [spec_Expand.l0]
          rw [if_pos g1, if_pos g2, er, if_pos h2, if_neg q, ← hn]
        · simp only [impl_Expand.l0]
          rw [if_pos g1, if_pos g2, if_pos g1, er, if_pos h2, if_neg q, ← hn]
theorem expand_both (x0 : List Int) (hx : x0.length ≤ 1048576) (r : List S78) (hr : r.length ≤ 1048576) (most : Int) : TwoE (fun k => spec_Expand.f k x0 r most) (fun k => impl_Expand.f k x0 r most) := by
  have t1 := l5Ok_ev r hr
  have t2 := tokensOk_ev r hr
  have bad : TwoE (fun k => spec_Expand.j0 k x0 r most true) (fun k => impl_Expand.j0 k x0 r most true) :=
    ⟨([], 1), by simp, Ev.step (f := fun _ => some ([], 1)) (fun k => by simp [spec_Expand.j0]) (Ev.now _), Ev.step (f := fun _ => some ([], 1)) (fun k => by simp [impl_Expand.j0]) (Ev.now _)⟩
  unfold spec_Expand.f impl_Expand.f
  by_cases h : (decide (r.length ≤ 1024) && r.all tokOk) = true
  · rw [h] at t1 t2
    rw [Bool.and_eq_true, decide_eq_true_eq] at h
    by_cases hx2 : (x0.length : Int) > 1024
    · obtain ⟨R, h0, h1, h2⟩ := bad
      exact ⟨R, h0, Ev.bind t1 (Ev.ifT rfl (Ev.ifT hx2 h1)), Ev.bind t2 (Ev.ifT rfl (Ev.ifT hx2 h2))⟩
    by_cases hm : 0 ≤ most ∧ most ≤ 1024
    · obtain ⟨R, h0, h1, h2⟩ := expandB_go x0 (by omega) r h.1 h.2 most hm.1 hm.2 r.length 0 x0 (by omega) (by omega) (by omega)
      refine ⟨R, h0, Ev.bind t1 (Ev.ifT rfl (Ev.ifF hx2 (Ev.bindc (l1In_tell _ _ _) (Ev.step (f := fun k => spec_Expand.l0 k x0 r most x0 0) (fun k => ?_) h1)))), Ev.bind t2 (Ev.ifT rfl (Ev.ifF hx2 (Ev.bindc (in_tell _ _ _) (Ev.step (f := fun k => impl_Expand.l0 k x0 most x0 r (r.length : Int) 0) (fun k => ?_) h2))))⟩
      · rw [decide_eq_true hm]
        simp only [spec_Expand.j0, Bool.not_true, Option.bind_some, List.nil_append, List.length_nil, Nat.zero_add]
        rw [if_neg (by decide), if_pos (by omega)]
      · rw [decide_eq_true hm]
        simp only [impl_Expand.j0, Bool.not_true]
        rw [if_neg (by decide), clone_tell x0 (by omega)]
        rfl
    · obtain ⟨R, h0, h1, h2⟩ := bad
      refine ⟨R, h0, Ev.bind t1 (Ev.ifT rfl (Ev.ifF hx2 (Ev.bindc (l1In_tell _ _ _) ?_))), Ev.bind t2 (Ev.ifT rfl (Ev.ifF hx2 (Ev.bindc (in_tell _ _ _) ?_)))⟩
      · rw [decide_eq_false hm]; exact h1
      · rw [decide_eq_false hm]; exact h2
  · rw [Bool.eq_false_iff.2 h] at t1 t2
    obtain ⟨R, h0, h1, h2⟩ := bad
    exact ⟨R, h0, Ev.bind t1 (Ev.ifF (by decide) h1), Ev.bind t2 (Ev.ifF (by decide) h2)⟩

theorem FnExactExpand : ∀ (l0 : List Int) (l1 : List S81) (a2 : Int), l0.length ≤ maxLen → l0.length * 1 ≤ 140737488351232 → (∀ x ∈ l0, (Lit.int .u8 x).wf = true) → l1.length ≤ maxLen → (∀ t ∈ l1, (Lit.int .i64 t.f0).wf = true ∧ (Lit.int .i64 t.f1).wf = true ∧ (Lit.int .i64 t.f2).wf = true ∧ (Lit.int .i64 t.f3).wf = true) → (Lit.int .i64 a2).wf = true → ∃ k, laws_FnExactExpand.f k l0 l1 a2 = some true := by
  intro x l most _ _ _ hm _ _
  unfold maxLen at hm
  refine Ev.rounds ?_
  unfold laws_FnExactExpand.f
  by_cases hx : (x.length : Int) > 1048576
  · exact Ev.ifT hx (Ev.now _)
  refine Ev.ifF hx (Ev.bindc (szTokenS_tell l 1048576 hm (by omega) (by omega)) ?_)
  by_cases hl : (1048576 : Int) < (l.length : Int)
  · rw [if_pos hl]; exact Ev.ifT (by omega) (Ev.now _)
  rw [if_neg hl]
  have t := toTokenS_ev l (by omega)
  have hlen : (l.map convT).length = l.length := by simp
  have et := eqTokenS_ev (l.map convT) (by omega)
  have tx := toByteS_ev x (by omega)
  have ex := eqByteS_ev x (by omega)
  have mx := markByteS_ev x 1 (by omega) (by omega) (by omega)
  have mt := markTokenS_ev (l.map convT) (1 + x.length) (by omega) (by omega) (by omega)
  obtain ⟨⟨g, c⟩, hg, s, i⟩ := expand_both x (by omega) (l.map convT) (by omega) most
  simp only at hg
  have eg := eqByteS_ev g (by omega)
  have mg := markByteS_ev g 1 (by omega) (by omega) (by omega)
  have hg2 := heldByteS_ev g 1 (by omega) (by omega) (by omega)
  refine Ev.ifF (by omega) (Ev.bind tx (Ev.bind t (Ev.bind s (Ev.bind tx (Ev.bind t (Ev.bind i (Ev.bind eg (Ev.ifT rfl ?_))))))))
  simp only [bne_self_eq_false]
  refine Ev.step (fun _ => laws_FnExactExpand.j0.eq_2 _ _ _ _ _ _ _ _ _ _ _) (Ev.ifF (by decide) (Ev.bind tx (Ev.bind ex (Ev.ifT rfl (Ev.bind t (Ev.bind et (Ev.ifT rfl (Ev.bind mx (Ev.bind mt (Ev.ifF (by simp only; omega) (Ev.bind eg (Ev.ifT rfl ?_))))))))))))
  simp only [bne_self_eq_false]
  refine Ev.step (fun _ => laws_FnExactExpand.j1.eq_2 _ _ _ _ _ _ _ _) (Ev.ifF (by decide) (Ev.bind mg (Ev.bind hg2 (Ev.ifF (by omega) (Ev.ifT rfl (Ev.bind tx (Ev.bind t (Ev.bind i (Ev.bind eg (Ev.ifT rfl ?_))))))))))
  simp only [bne_self_eq_false]
  exact Ev.step (fun _ => laws_FnExactExpand.j2.eq_2 _ _ _ _) (Ev.ifF (by decide) (Ev.bind hg2 (Ev.ifF (by omega) (Ev.ifT rfl (Ev.now _)))))

end Go.Proofs.Ytdilibnfihcmkaa.Pure
