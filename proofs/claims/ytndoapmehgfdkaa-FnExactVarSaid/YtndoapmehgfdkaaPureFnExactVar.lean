/- The plain law of FnExactVar, over numbers and lists alone: what the printed functions answer is true for all arguments. Conditions: those of the arguments' kinds. -/
import Derived.Test.YtndoapmehgfdkaaPFnExactVarx3
import Derived.Test.YtndoapmehgfdkaaAid
set_option linter.unusedVariables false
set_option linter.unusedSimpArgs false
namespace Go.Proofs.Ytndoapmehgfdkaa.Pure
open Go.RowKit Go.Proofs.Ytndoapmehgfdkaa.Aid Go.Proofs.Ytndoapmehgfdkaa.PFnExactVar Go.Proofs.YtndoapmehgfdkaaW.PrintWords Go.Proofs.YtndoapmehgfdkaaW.PrintLast Go.Proofs.YtndoapmehgfdkaaW.PrintMore
theorem in_tell (a b c : Int) : impl_in.f a b c = some (decide (b ≤ a ∧ a ≤ c)) := by
  unfold impl_in.f
  by_cases h : a ≥ b
  · rw [if_pos h]; congr 1; rw [Bool.eq_iff_iff]; simp only [decide_eq_true_eq]; omega
  · rw [if_neg h]; congr 1; symm; rw [decide_eq_false_iff_not]; omega

theorem toByteS_l0 (l : List Int) (hl : l.length ≤ 140737488351232) : ∀ (d : Nat) (x : List Int) (i : Nat), x.length = l.length → i + d = l.length → x.take i = l.take i → Ev (fun k => laws_toByteS.l0 k l x (i : Int)) l
  | 0, x, i, hx, hi, ht => by
    refine Ev.step (f := fun _ => some l) (fun k => ?_) (Ev.now _)
    simp only [laws_toByteS.l0]
    rw [if_neg (by omega)]
    congr 1
    rw [List.take_of_length_le (by omega), List.take_of_length_le (by omega)] at ht
    exact ht
  | d + 1, x, i, hx, hi, ht => by
    have ih := toByteS_l0 l hl d (x.set i (rd l i)) (i + 1) (by simpa using hx) (by omega) (by
      rw [List.take_succ_eq_append_getElem (by simp; omega), List.take_succ_eq_append_getElem (by omega), List.take_set_of_le (by omega), ht]
      simp [rd, List.getElem?_eq_getElem (show i < l.length by omega)])
    refine Ev.step (fun k => ?_) ih
    simp only [laws_toByteS.l0]
    rw [if_pos (by omega), if_pos (by omega), if_pos (by omega), wrap64_id (by omega) (by omega)]
    simp
theorem toByteS_ev (l : List Int) (hl : l.length ≤ 140737488351232) : Ev (fun k => laws_toByteS.f k l) l := by
  refine Ev.congr (fun k => ?_) (toByteS_l0 l hl l.length (List.replicate l.length 0) 0 (by simp) (by simp) (by simp))
  simp only [laws_toByteS.f]
  rw [if_pos (by omega), if_pos (by omega)]
  simp

theorem eqByteS_l0 (l : List Int) (hl : l.length ≤ 140737488351232) : ∀ (d : Nat) (i : Nat), i + d = l.length → Ev (fun k => laws_eqByteS.l0 k l l (i : Int)) true
  | 0, i, hi => by
    refine Ev.step (f := fun _ => some true) (fun k => ?_) (Ev.now _)
    simp only [laws_eqByteS.l0]
    rw [if_neg (by omega)]
  | d + 1, i, hi => by
    have ih := eqByteS_l0 l hl d (i + 1) (by omega)
    refine Ev.step (fun k => ?_) ih
    simp only [laws_eqByteS.l0]
    rw [if_pos (by omega), if_pos (by omega), if_pos (by omega), wrap64_id (by omega) (by omega)]
    simp
theorem eqByteS_ev (l : List Int) (hl : l.length ≤ 140737488351232) : Ev (fun k => laws_eqByteS.f k l l) true := by
  refine Ev.congr (fun k => ?_) (eqByteS_l0 l hl l.length 0 (by simp))
  simp only [laws_eqByteS.f]
  simp

theorem wf_all_u8 {l : List Int} (h : ∀ x ∈ l, (Lit.int .u8 x).wf = true) : ∀ x ∈ l, 0 ≤ x ∧ x < 256 := fun x hx => wf_u8 (h x hx)
theorem wf_all_i64 {l : List Int} (h : ∀ x ∈ l, (Lit.int .i64 x).wf = true) : ∀ x ∈ l, -9223372036854775808 ≤ x ∧ x < 9223372036854775808 := fun x hx => wf_i64 (h x hx)

/-- What Var tells from its k-th byte on: n: what the bytes ahead say. -/
def varGo (l : List Int) (a : Nat) : Nat → Nat → Int → Int × Int × Int
  | 0, _, _ => (0, 0, 2)
  | d + 1, k, n => if l.length ≤ a + k then (0, 0, 1) else
      if 127 < l.getD (a + k) 0 then varGo l a d (k + 1) (n + l.getD (a + k) 0 % 128 * 128 ^ k) else
      if (l.getD (a + k) 0 = 0 ∧ 0 < k) ∨ 2147483647 < n + l.getD (a + k) 0 % 128 * 128 ^ k then (0, 0, 2) else (n + l.getD (a + k) 0 % 128 * 128 ^ k, (a : Int) + k + 1, 0)
def varR (l : List Int) (a : Int) : Int × Int × Int := if a < 0 ∨ (l.length : Int) < a then (0, 0, 1) else varGo l a.toNat 5 0 0

theorem pow128 (k : Nat) : (128 : Int) ^ k = 2 ^ (7 * k) := by rw [Int.pow_mul]; rfl
theorem implVar_l0 (l : List Int) (h8 : ∀ x ∈ l, 0 ≤ x ∧ x < 256) (hl : l.length ≤ 1048576) (a : Nat) (ha : a ≤ l.length) : ∀ (d k : Nat) (n : Int), k + d = 5 → 0 ≤ n → n < 128 ^ k → Ev (fun q => impl_Var.l0 q l (a : Int) n (k : Int)) (varGo l a d k n)
  | 0, k, n, hk, h0, h1 => by
    refine Ev.step (f := fun _ => some (0, 0, 2)) (fun q => ?_) (Ev.now _)
    simp only [impl_Var.l0]
    rw [if_neg (by omega)]
  | d + 1, k, n, hk, h0, h1 => by
    have g1 : (k : Int) < 5 := by omega
    have e1 : wrap64 ((a : Int) + (k : Int)) = ((a + k : Nat) : Int) := by rw [wrap64_id (by omega) (by omega)]; simp
    simp only [varGo]
    by_cases hb : l.length ≤ a + k
    · rw [if_pos hb]
      refine Ev.step (f := fun _ => some (0, 0, 1)) (fun q => ?_) (Ev.now _)
      simp only [impl_Var.l0]
      rw [if_pos g1, e1, if_pos (by clear e1; omega)]
    · rw [if_neg hb]
      have b := rd_all (P := fun x => 0 ≤ x ∧ x < 256) h8 (by omega) ((a + k : Nat) : Int)
      rw [rd_nat] at b
      have er := rd_nat l (a + k)
      generalize l.getD (a + k) 0 = v at *
      have hm : ∀ x, Go.bits .and .i64 x 127 = x % 128 := fun x => and_mask 7 (by decide) x
      have p1 := pow_bounds (n := 7 * k) (m := 28) (by clear e1; omega)
      rw [← pow128] at p1
      have m0 : 0 ≤ v % 128 * 128 ^ k := Int.mul_nonneg (by clear e1; omega) (by clear e1; omega)
      have m1 : v % 128 * 128 ^ k ≤ 127 * 2 ^ 28 := Int.mul_le_mul (by clear e1; omega) p1.2 (by clear e1; omega) (by omega)
      have m2 : n + v % 128 * 128 ^ k < 128 ^ (k + 1) := by
        rw [Int.pow_succ]
        have : v % 128 * 128 ^ k ≤ 127 * 128 ^ k := Int.mul_le_mul_of_nonneg_right (by clear e1; omega) (by clear e1; omega)
        clear e1; omega
      have es : shl .i64 (v % 128) ((7 * k : Nat) : Int) = v % 128 * 128 ^ k := by rw [pow128]; exact shl_i64 (by clear e1; omega) (by rw [← pow128]; clear e1; omega) (by rw [← pow128]; clear e1; omega)
      have e7 : wrap64 (7 * (k : Int)) = ((7 * k : Nat) : Int) := by rw [wrap64_id (by clear e1; omega) (by clear e1; omega)]; simp
      have eo : Go.bits .or .i64 n (v % 128 * 128 ^ k) = n + v % 128 * 128 ^ k := by
        have hn : n < 2 ^ (7 * k) := by rw [← pow128]; exact h1
        exact or_low (7 * k) h0 hn (by clear e1 e7; omega) m0 (by rw [pow128]; exact Int.mul_emod_left _ _) (by clear e1 e7; omega)
      have ev : wrap64 v = v := wrap64_id (by clear e1 e7; omega) (by clear e1 e7; omega)
      have gA : ¬ ((a + k : Nat) : Int) ≥ (l.length : Int) := by clear e1 e7 ev; omega
      have gB : (0 : Int) ≤ ((a + k : Nat) : Int) := by clear e1 e7 ev; omega
      have gC : ((a + k : Nat) : Int) < (l.length : Int) := by clear e1 e7 ev; omega
      have gD : (0 : Int) ≤ ((7 * k : Nat) : Int) := by clear e1 e7 ev; omega
      by_cases hv : 127 < v
      · rw [if_pos hv]
        have ih := implVar_l0 l h8 hl a ha d (k + 1) (n + v % 128 * 128 ^ k) (by clear e1 e7 ev; omega) (by clear e1 e7 ev; omega) m2
        have e8 : wrap64 ((k : Int) + 1) = ((k + 1 : Nat) : Int) := wrap64_succ (by clear e1 e7 ev; omega)
        refine Ev.step (fun q => ?_) ih
        simp only [impl_Var.l0]
        rw [if_pos g1, e1, er, ev, e7, if_neg gA, if_pos gB, if_pos gC, if_pos gD, if_pos hv, hm, es, eo, e8]
      · rw [if_neg hv]
        have e8 : wrap64 (((a + k : Nat) : Int) + 1) = (a : Int) + (k : Int) + 1 := by
          rw [wrap64_succ (by clear e1 e7 ev; omega)]; simp
        by_cases hz : v = 0
        · by_cases hk0 : 0 < k
          · rw [if_pos (.inl ⟨hz, hk0⟩)]
            refine Ev.step (f := fun _ => some (0, 0, 2)) (fun q => ?_) (Ev.now _)
            simp only [impl_Var.l0]
            rw [if_pos g1, e1, er, ev, e7, if_neg gA, if_pos gB, if_pos gC, if_pos gD, if_neg hv, if_pos hz, if_pos (by clear e1 e7 ev e8; omega)]
          · by_cases hbig : 2147483647 < n + v % 128 * 128 ^ k
            · rw [if_pos (.inr hbig)]
              refine Ev.step (f := fun _ => some (0, 0, 2)) (fun q => ?_) (Ev.now _)
              simp only [impl_Var.l0]
              rw [if_pos g1, e1, er, ev, e7, if_neg gA, if_pos gB, if_pos gC, if_pos gD, if_neg hv, if_pos hz, if_neg (by clear e1 e7 ev e8; omega), hm, es, eo, if_pos hbig]
            · rw [if_neg (fun h => h.elim (fun q => hk0 q.2) hbig)]
              refine Ev.step (f := fun _ => some (n + v % 128 * 128 ^ k, (a : Int) + (k : Int) + 1, 0)) (fun q => ?_) (Ev.now _)
              simp only [impl_Var.l0]
              rw [if_pos g1, e1, er, ev, e7, if_neg gA, if_pos gB, if_pos gC, if_pos gD, if_neg hv, if_pos hz, if_neg (by clear e1 e7 ev e8; omega), hm, es, eo, if_neg hbig, e8]
        · by_cases hbig : 2147483647 < n + v % 128 * 128 ^ k
          · rw [if_pos (.inr hbig)]
            refine Ev.step (f := fun _ => some (0, 0, 2)) (fun q => ?_) (Ev.now _)
            simp only [impl_Var.l0]
            rw [if_pos g1, e1, er, ev, e7, if_neg gA, if_pos gB, if_pos gC, if_pos gD, if_neg hv, if_neg hz, hm, es, eo, if_pos hbig]
          · rw [if_neg (fun h => h.elim (fun q => hz q.1) hbig)]
            refine Ev.step (f := fun _ => some (n + v % 128 * 128 ^ k, (a : Int) + (k : Int) + 1, 0)) (fun q => ?_) (Ev.now _)
            simp only [impl_Var.l0]
            rw [if_pos g1, e1, er, ev, e7, if_neg gA, if_pos gB, if_pos gC, if_pos gD, if_neg hv, if_neg hz, hm, es, eo, if_neg hbig, e8]
theorem implVar_ev (l : List Int) (h8 : ∀ x ∈ l, 0 ≤ x ∧ x < 256) (hl : l.length ≤ 1048576) (a : Int) : Ev (fun q => impl_Var.f q l a) (varR l a) := by
  unfold impl_Var.f varR
  rw [in_tell]
  simp only [Option.bind_some]
  by_cases h : 0 ≤ a ∧ a ≤ (l.length : Int)
  · rw [if_neg (by omega)]
    obtain ⟨m, rfl⟩ := Int.eq_ofNat_of_zero_le h.1
    exact Ev.ifT (decide_eq_true h) (implVar_l0 l h8 hl m (by omega) 5 0 0 (by omega) (by omega) (by omega))
  · rw [if_pos (by omega)]
    exact Ev.ifF (by rw [decide_eq_true_eq]; exact h) (Ev.now _)

/-- A number, seven bits a byte; f: at most so many more bytes. -/
def varB : Nat → Int → List Int
  | 0, n => [n % 256]
  | f + 1, n => if n < 128 then [n % 256] else (n % 128 + 128) :: varB f (n / 128)
theorem varB_length : ∀ (f : Nat) (n : Int), (varB f n).length ≤ f + 1
  | 0, _ => by simp [varB]
  | f + 1, n => by
    have := varB_length f (n / 128)
    simp only [varB]
    split <;> simp
    omega
theorem specPutVar_go : ∀ (f : Nat) (n : Int), f ≤ 5 → 0 ≤ n → n ≤ 2147483647 → n < 128 ^ (f + 1) → Ev (fun k => spec_PutVar.f k n) (varB f n)
  | 0, n, hf, h0, h1, h2 => by
    refine Ev.step (f := fun k => spec_PutVar.j0 k n false) (fun k => ?_) (Ev.step (f := fun _ => some [n % 256]) (fun k => ?_) (Ev.now _))
    · simp only [spec_PutVar.f]
      rw [if_neg (by omega), decide_eq_false (by omega)]
    · simp only [spec_PutVar.j0]
      rw [if_neg (by simp), if_pos (by omega)]
  | f + 1, n, hf, h0, h1, h2 => by
    have hp : (128 : Int) ^ (f + 1 + 1) = 128 ^ (f + 1) * 128 := Int.pow_succ _ _
    rw [hp] at h2
    have ih := specPutVar_go f (n / 128) (by omega) (by omega) (by omega) (by omega)
    have hl := varB_length f (n / 128)
    by_cases h : n < 128
    · have e : varB (f + 1) n = [n % 256] := by simp [varB, h]
      rw [e]
      refine Ev.step (f := fun k => spec_PutVar.j0 k n false) (fun k => ?_) (Ev.step (f := fun _ => some [n % 256]) (fun k => ?_) (Ev.now _))
      · simp only [spec_PutVar.f]
        rw [if_neg (by omega), decide_eq_false (by omega)]
      · simp only [spec_PutVar.j0]
        rw [if_neg (by simp), if_pos h]
    · have e : varB (f + 1) n = (n % 128 + 128) :: varB f (n / 128) := by simp [varB, h]
      rw [e]
      refine Ev.step (f := fun k => spec_PutVar.j0 k n false) (fun k => ?_) (Ev.step (f := fun k => (spec_PutVar.f k (n / 128)).bind fun t => if ([n % 128 + 128] : List Int).length + t.length < 140737488355328 then some ([n % 128 + 128] ++ t) else none) (r := _) (fun k => ?_) ?_)
      · simp only [spec_PutVar.f]
        rw [if_neg (by omega), decide_eq_false (by omega)]
      · simp only [spec_PutVar.j0]
        rw [if_neg (by simp), if_neg h, Int.tdiv_eq_ediv_of_nonneg h0, Int.tmod_eq_emod_of_nonneg h0, wrap64_id (n := n / 128) (by omega) (by omega), wrap64_id (n := n % 128 + 128) (by omega) (by omega), show (n % 128 + 128) % 256 = n % 128 + 128 by omega]
        rfl
      · exact Ev.bind ih (Ev.ifT (by simp; omega) (Ev.now _))
def varOf (n : Int) : List Int := if 0 ≤ n ∧ n ≤ 2147483647 then varB 4 n else []
theorem varOf_length (n : Int) : (varOf n).length ≤ 5 := by
  unfold varOf
  split
  · exact varB_length 4 n
  · simp
theorem specPutVar_ev (n : Int) : Ev (fun k => spec_PutVar.f k n) (varOf n) := by
  unfold varOf
  by_cases h : 0 ≤ n ∧ n ≤ 2147483647
  · rw [if_pos h]; exact specPutVar_go 4 n (by omega) h.1 h.2 (by omega)
  · rw [if_neg h]
    refine Ev.step (f := fun k => spec_PutVar.j0 k n true) (fun k => ?_) (Ev.step (f := fun _ => some []) (fun k => by simp [spec_PutVar.j0]) (Ev.now _))
    simp only [spec_PutVar.f]
    by_cases h0 : n < 0
    · rw [if_pos h0]
    · rw [if_neg h0, decide_eq_true (by omega)]
theorem varB_length_pos : ∀ (f : Nat) (n : Int), 1 ≤ (varB f n).length
  | 0, _ => by simp [varB]
  | f + 1, n => by simp only [varB]; split <;> simp

theorem specSame_l0 (a b : List Int) (hab : a.length = b.length) (hl : a.length ≤ 140737488355328) : ∀ (d : Nat) (i : Nat), i + d = a.length → Ev (fun k => spec_Same.l0 k a b (i : Int)) (decide (a.drop i = b.drop i))
  | 0, i, hi => by
    refine Ev.step (f := fun _ => some true) (fun k => ?_) (Ev.const ?_)
    · simp only [spec_Same.l0]
      rw [if_neg (by omega)]
    · rw [List.drop_of_length_le (by omega), List.drop_of_length_le (by omega)]; simp
  | d + 1, i, hi => by
    have ih := specSame_l0 a b hab hl d (i + 1) (by omega)
    have e1 : a.drop i = a[i]'(by omega) :: a.drop (i + 1) := List.drop_eq_getElem_cons (by omega)
    have e2 : b.drop i = b[i]'(by omega) :: b.drop (i + 1) := List.drop_eq_getElem_cons (by omega)
    by_cases e : a[i]'(by omega) = b[i]'(by omega)
    · have e3 : decide (a.drop i = b.drop i) = decide (a.drop (i + 1) = b.drop (i + 1)) := by
        rw [e1, e2, e, Bool.eq_iff_iff]; simp only [decide_eq_true_eq, List.cons.injEq, true_and]
      rw [e3]
      refine Ev.step (fun k => ?_) ih
      simp only [spec_Same.l0]
      rw [if_pos (by omega), if_pos (by omega), if_pos (by omega), if_pos (by rw [rd_get a i (by omega), rd_get b i (by omega)]; exact e), wrap64_id (by omega) (by omega)]
      simp
    · have e3 : decide (a.drop i = b.drop i) = false := by
        rw [e1, e2, decide_eq_false_iff_not]; simp only [List.cons.injEq, e, false_and, not_false_eq_true]
      rw [e3]
      refine Ev.step (f := fun _ => some false) (fun k => ?_) (Ev.now _)
      simp only [spec_Same.l0]
      rw [if_pos (by omega), if_pos (by omega), if_pos (by omega), if_neg (by rw [rd_get a i (by omega), rd_get b i (by omega)]; exact e)]
theorem specSame_tell (a b : List Int) (hl : a.length ≤ 140737488355328) : Ev (fun k => spec_Same.f k a b) (decide (a = b)) := by
  by_cases h : a.length = b.length
  · refine Ev.congr (fun k => ?_) (specSame_l0 a b h hl a.length 0 (by simp))
    simp only [spec_Same.f]
    rw [if_pos (by omega)]; simp
  · refine Ev.congr (f := fun _ => some false) (fun k => ?_) (Ev.const ?_)
    · simp only [spec_Same.f]
      rw [if_neg (by omega)]
    · have : a ≠ b := fun e => h (by rw [e])
      simp [this]

def decB : List Int → Int
  | [] => 0
  | b :: r => b % 128 + 128 * decB r
theorem decB_snoc : ∀ (l : List Int) (x : Int), decB (l ++ [x]) = decB l + x % 128 * 128 ^ l.length
  | [], x => by simp [decB]
  | b :: r, x => by
    have := decB_snoc r x
    simp only [List.cons_append, decB, this, List.length_cons, Int.pow_succ]
    rw [← Int.mul_assoc]
    generalize x % 128 * 128 ^ r.length = q
    omega
theorem decB_nonneg : ∀ (l : List Int), 0 ≤ decB l
  | [] => by simp [decB]
  | b :: r => by have := decB_nonneg r; simp only [decB]; omega
/-- Behind continued bytes a last byte that is not 0 says at least 1. -/
theorem decB_pos : ∀ (l : List Int) (x : Int), 0 < x → x < 128 → 0 < decB (l ++ [x])
  | [], x, h0, h1 => by simp only [List.nil_append, decB]; omega
  | b :: r, x, h0, h1 => by have := decB_pos r x h0 h1; simp only [List.cons_append, decB]; omega
theorem varB_dec : ∀ (l : List Int) (x : Int) (f : Nat), (∀ b ∈ l, 128 ≤ b ∧ b < 256) → 0 ≤ x → x < 128 → (l = [] ∨ x ≠ 0) → l.length ≤ f → varB f (decB (l ++ [x])) = l ++ [x]
  | [], x, 0, _, h0, h1, _, _ => by simp only [List.nil_append, decB, varB]; congr 1; omega
  | [], x, f + 1, _, h0, h1, _, _ => by
    have : decB ([] ++ [x]) = x := by simp only [List.nil_append, decB]; omega
    rw [this]
    simp only [varB, if_pos h1, List.nil_append]; congr 1; omega
  | b :: r, x, 0, _, _, _, _, hf => by simp at hf
  | b :: r, x, f + 1, hb, h0, h1, hx, hf => by
    have hx0 : x ≠ 0 := hx.resolve_left (by simp)
    have ih := varB_dec r x f (fun y hy => hb y (by simp [hy])) h0 h1 (.inr hx0) (by simp at hf; omega)
    have hp := decB_pos r x (by omega) h1
    have hbb := hb b (by simp)
    simp only [List.cons_append, decB, varB]
    rw [if_neg (by omega), show (b % 128 + 128 * decB (r ++ [x])) / 128 = decB (r ++ [x]) by omega, ih, show (b % 128 + 128 * decB (r ++ [x])) % 128 + 128 = b by omega]
/-- A number above 0 does not end with a byte 0. -/
theorem varB_last : ∀ (f : Nat) (n : Int) (l : List Int) (x : Int), 1 ≤ n → n < 128 ^ (f + 1) → varB f n = l ++ [x] → x ≠ 0
  | 0, n, l, x, h0, h1, h => by
    simp only [varB] at h
    have hl : l = [] := by
      cases l with
      | nil => rfl
      | cons a b => simp at h
    subst hl
    simp at h
    omega
  | f + 1, n, l, x, h0, h1, h => by
    have hp : (128 : Int) ^ (f + 1 + 1) = 128 ^ (f + 1) * 128 := Int.pow_succ _ _
    rw [hp] at h1
    simp only [varB] at h
    split at h
    · have hl : l = [] := by
        cases l with
        | nil => rfl
        | cons a b => simp at h
      subst hl
      simp at h
      omega
    · cases l with
      | nil =>
        simp at h
        have := varB_length_pos f (n / 128)
        simp [h.2] at this
      | cons a b =>
        simp only [List.cons_append, List.cons.injEq] at h
        exact varB_last f (n / 128) b x (by omega) (by omega) h.2
theorem varOf_iff (l : List Int) (x : Int) (hb : ∀ b ∈ l, 128 ≤ b ∧ b < 256) (h0 : 0 ≤ x) (h1 : x < 128) (hl : l.length ≤ 4) :
    (varOf (decB (l ++ [x])) = l ++ [x]) ↔ ¬ ((x = 0 ∧ 0 < l.length) ∨ 2147483647 < decB (l ++ [x])) := by
  have hn := decB_nonneg (l ++ [x])
  unfold varOf
  by_cases hbig : 2147483647 < decB (l ++ [x])
  · rw [if_neg (by omega)]
    simp [hbig]
  · rw [if_pos (by omega)]
    by_cases hz : x = 0 ∧ 0 < l.length
    · constructor
      · intro h
        exfalso
        have hp : 1 ≤ decB (l ++ [x]) := by
          by_cases hd : decB (l ++ [x]) = 0
          · rw [hd] at h
            have : (varB 4 0).length = 1 := rfl
            rw [h] at this
            simp at this
            rw [this] at hz
            simp at hz
          · omega
        exact varB_last 4 _ l x hp (by omega) h hz.1
      · intro h; exact absurd (.inl hz) h
    · constructor
      · intro _ h; exact h.elim hz hbig
      · intro _
        refine varB_dec l x 4 hb h0 h1 ?_ hl
        by_cases hx : x = 0
        · left
          cases l with
          | nil => rfl
          | cons a b => exact absurd ⟨hx, by simp⟩ hz
        · exact .inr hx
theorem specVar_l0 (l : List Int) (h8 : ∀ x ∈ l, 0 ≤ x ∧ x < 256) (hl : l.length ≤ 1048576) (a : Nat) (ha : a ≤ l.length) : ∀ (d k : Nat), k + d = 5 → a + k ≤ l.length → (∀ b ∈ (l.drop a).take k, 128 ≤ b ∧ b < 256) → Ev (fun q => spec_Var.l0 q l (a : Int) (decB ((l.drop a).take k)) (128 ^ k) (k : Int)) (varGo l a d k (decB ((l.drop a).take k)))
  | 0, k, hk, hak, hb => by
    refine Ev.step (f := fun _ => some (0, 0, 2)) (fun q => ?_) (Ev.now _)
    simp only [spec_Var.l0]
    rw [if_neg (by omega)]
  | d + 1, k, hk, hak, hb => by
    have g1 : (k : Int) < 5 := by omega
    have e1 : wrap64 ((a : Int) + (k : Int)) = ((a + k : Nat) : Int) := by rw [wrap64_id (by omega) (by omega)]; simp
    simp only [varGo]
    by_cases hq : l.length ≤ a + k
    · rw [if_pos hq]
      refine Ev.step (f := fun _ => some (0, 0, 1)) (fun q => ?_) (Ev.now _)
      simp only [spec_Var.l0]
      rw [if_pos g1, e1, if_pos (by clear e1; omega)]
    · rw [if_neg hq]
      have b := rd_all (P := fun x => 0 ≤ x ∧ x < 256) h8 (by omega) ((a + k : Nat) : Int)
      rw [rd_nat] at b
      have er := rd_nat l (a + k)
      have hlt : a + k < l.length := by clear e1; omega
      have ht : (l.drop a).take (k + 1) = (l.drop a).take k ++ [l.getD (a + k) 0] := by
        rw [List.take_succ_eq_append_getElem (by simp; clear e1; omega)]
        simp [List.getElem?_eq_getElem hlt]
      have hlen : ((l.drop a).take k).length = k := by simp; clear e1; omega
      generalize hv0 : l.getD (a + k) 0 = v at *
      have n0 := decB_nonneg ((l.drop a).take k)
      have hdec : decB ((l.drop a).take (k + 1)) = decB ((l.drop a).take k) + v % 128 * 128 ^ k := by rw [ht, decB_snoc, hlen]
      have p1 : (1 : Int) ≤ 128 ^ k ∧ (128 : Int) ^ k ≤ 2 ^ 28 := by
        have := pow_bounds (n := 7 * k) (m := 28) (by clear e1; omega)
        rwa [Int.pow_mul] at this
      have m0 : 0 ≤ v % 128 * 128 ^ k := Int.mul_nonneg (by clear e1; omega) (by clear e1; omega)
      have m1 : v % 128 * 128 ^ k ≤ 127 * 2 ^ 28 := Int.mul_le_mul (by clear e1; omega) p1.2 (by clear e1; omega) (by omega)
      have nb : decB ((l.drop a).take k) < 128 ^ k := by
        have : ∀ l : List Int, decB l < 128 ^ l.length := by
          intro l
          induction l with
          | nil => simp [decB]
          | cons x r ih => simp only [decB, List.length_cons, Int.pow_succ]; omega
        have := this ((l.drop a).take k)
        rw [hlen] at this
        exact this
      generalize hN : decB ((l.drop a).take k) = n at *
      have ev : wrap64 v = v := wrap64_id (by clear e1; omega) (by clear e1; omega)
      have em : wrap64 (v % 128 * 128 ^ k) = v % 128 * 128 ^ k := wrap64_id (by clear e1 ev; omega) (by clear e1 ev; omega)
      have es : wrap64 (n + v % 128 * 128 ^ k) = n + v % 128 * 128 ^ k := wrap64_id (by clear e1 ev em; omega) (by clear e1 ev em; omega)
      have tm : Int.tmod v 128 = v % 128 := Int.tmod_eq_emod_of_nonneg b.1
      have e9 : wrap64 (((a + k : Nat) : Int) + 1) = ((a + k + 1 : Nat) : Int) := wrap64_succ (by clear e1 ev em es; omega)
      have gA : ¬ ((a + k : Nat) : Int) ≥ (l.length : Int) := by clear e1 ev em es e9; omega
      have gB : (0 : Int) ≤ ((a + k : Nat) : Int) := by clear e1 ev em es e9; omega
      have gC : ((a + k : Nat) : Int) < (l.length : Int) := by clear e1 ev em es e9; omega
      have gD : (0 : Int) ≤ (a : Int) := by clear e1 ev em es e9; omega
      have gE : (a : Int) ≤ ((a + k + 1 : Nat) : Int) := by clear e1 ev em es e9; omega
      have gF : ((a + k + 1 : Nat) : Int) ≤ (l.length : Int) := by clear e1 ev em es e9; omega
      by_cases hv : 127 < v
      · have gv : ¬ v < 128 := by clear e1 ev em es e9; omega
        rw [if_pos hv]
        have ih := specVar_l0 l h8 hl a ha d (k + 1) (by clear e1 ev em es e9; omega) (by clear e1 ev em es e9; omega) (by
          intro y hy
          rw [ht] at hy
          rcases List.mem_append.1 hy with hy | hy
          · exact hb y hy
          · simp at hy; subst hy; clear e1 ev em es e9; omega)
        rw [hdec, Int.pow_succ] at ih
        have e8 : wrap64 ((k : Int) + 1) = ((k + 1 : Nat) : Int) := wrap64_succ (by clear e1 ev em es e9; omega)
        have eu : wrap64 ((128 : Int) ^ k * 128) = 128 ^ k * 128 := wrap64_id (by clear e1 ev em es e9 e8; omega) (by clear e1 ev em es e9 e8; omega)
        refine Ev.step (fun q => ?_) ih
        simp only [spec_Var.l0]
        rw [if_pos g1, e1, er, ev, if_neg gA, if_pos gB, if_pos gC, if_neg gv, tm, em, es, eu, e8]
      · have gv : v < 128 := by clear e1 ev em es e9; omega
        rw [if_neg hv]
        have hsl : ((l.take (((a + k + 1 : Nat) : Int)).toNat).drop ((a : Int)).toNat) = (l.drop a).take (k + 1) := by
          rw [Int.toNat_natCast, Int.toNat_natCast, List.drop_take, show a + k + 1 - a = k + 1 by clear e1 ev em es e9; omega]
        have hiff := varOf_iff ((l.drop a).take k) v hb b.1 gv (by rw [hlen]; clear e1 ev em es e9; omega)
        rw [← ht, hdec, hlen] at hiff
        have hsame := specSame_tell (varOf (n + v % 128 * 128 ^ k)) ((l.drop a).take (k + 1)) (by have := varOf_length (n + v % 128 * 128 ^ k); clear e1 ev em es e9; omega)
        refine Ev.step (f := fun q => (spec_PutVar.f q (n + v % 128 * 128 ^ k)).bind fun t121 => (spec_Same.f q t121 ((l.drop a).take (k + 1))).bind fun t125 => if t125 = true then some (n + v % 128 * 128 ^ k, ((a + k + 1 : Nat) : Int), 0) else some (0, 0, 2)) (fun q => ?_) ?_
        · simp only [spec_Var.l0]
          rw [if_pos g1, e1, er, ev, if_neg gA, if_pos gB, if_pos gC, if_pos gv, tm, em, es, e9]
          simp only [if_pos gD, if_pos gE, if_pos gF, hsl]
        · refine Ev.bind (specPutVar_ev _) (Ev.bind hsame ?_)
          by_cases hbad : (v = 0 ∧ 0 < k) ∨ 2147483647 < n + v % 128 * 128 ^ k
          · rw [if_pos hbad]
            exact Ev.ifF (by rw [decide_eq_true_eq]; exact fun h => (hiff.1 h) hbad) (Ev.now _)
          · rw [if_neg hbad]
            refine Ev.ifT (by rw [decide_eq_true_eq]; exact hiff.2 hbad) (Ev.const ?_)
            congr 2
theorem specVar_ev (l : List Int) (h8 : ∀ x ∈ l, 0 ≤ x ∧ x < 256) (hl : l.length ≤ 1048576) (a : Int) : Ev (fun q => spec_Var.f q l a) (varR l a) := by
  unfold spec_Var.f varR
  have bad : Ev (fun q => spec_Var.j0 q l a true) (0, 0, 1) := Ev.step (f := fun _ => some (0, 0, 1)) (fun q => by simp [spec_Var.j0]) (Ev.now _)
  by_cases h0 : a < 0
  · rw [if_pos (.inl h0)]
    exact Ev.ifT h0 bad
  · refine Ev.ifF h0 ?_
    by_cases h1 : a > (l.length : Int)
    · rw [if_pos (.inr h1), decide_eq_true h1]; exact bad
    · rw [if_neg (by omega), decide_eq_false h1]
      obtain ⟨m, rfl⟩ := Int.eq_ofNat_of_zero_le (show 0 ≤ a by omega)
      have h := specVar_l0 l h8 hl m (by omega) 5 0 (by omega) (by omega) (by simp)
      simp only [List.take_zero, decB] at h
      exact Ev.step (fun q => by simp [spec_Var.j0]) h

theorem FnExactVar : laws_FnExactVar.Pure := by
  intro l a _ hl h8 _
  refine Ev.rounds ?_
  unfold laws_FnExactVar.f
  by_cases h1 : (l.length : Int) > 1048576
  · exact Ev.ifT h1 (Ev.now _)
  have t := toByteS_ev l (by omega)
  have e := eqByteS_ev l (by omega)
  have hj : Ev (fun k => laws_FnExactVar.j0 k l l ((varR l a).2.2 != (varR l a).2.2)) true := by
    simp only [bne_self_eq_false]
    refine Ev.step (fun k => by simp only [laws_FnExactVar.j0]; rfl) ?_
    exact Ev.ifF (by simp) (Ev.bind t (Ev.bind e (Ev.ifT rfl (Ev.now _))))
  exact Ev.ifF h1 (Ev.bind t (Ev.bind (specVar_ev l (wf_all_u8 h8) (by omega) a) (Ev.bind t (Ev.bind (implVar_ev l (wf_all_u8 h8) (by omega) a) (Ev.ifT rfl (Ev.ifT rfl hj))))))

end Go.Proofs.Ytndoapmehgfdkaa.Pure
