/- The plain law of FnExactTokenBits, over numbers and lists alone: what the printed functions answer is true for all arguments. Conditions: those of the arguments' kinds. -/
import Derived.Test.YtdilibnfihcmkabQFnExactTokenBitsx7
import Derived.Test.YtdilibnfihcmkabAid
set_option linter.unusedVariables false
set_option linter.unusedSimpArgs false
namespace Go.Proofs.Ytdilibnfihcmkab.Pure
open Go.RowKit Go.Proofs.Ytdilibnfihcmkab.Aid Go.Proofs.Ytdilibnfihcmkab.QFnExactTokenBits Go.Proofs.YtdilibnfihcmkabW.PrintWords Go.Proofs.YtdilibnfihcmkabW.PrintLast Go.Proofs.YtdilibnfihcmkabW.PrintMore
theorem in_tell (a b c : Int) : impl_in.f a b c = some (decide (b ≤ a ∧ a ≤ c)) := by
  unfold impl_in.f
  by_cases h : a ≥ b
  · rw [if_pos h]; congr 1; rw [Bool.eq_iff_iff]; simp only [decide_eq_true_eq]; omega
  · rw [if_neg h]; congr 1; symm; rw [decide_eq_false_iff_not]; omega

theorem l1In_tell (a b c : Int) : spec_l1In.f a b c = some (decide (b ≤ a ∧ a ≤ c)) := by
  unfold spec_l1In.f
  by_cases h : a ≥ b
  · rw [if_pos h]; congr 1; rw [Bool.eq_iff_iff]; simp only [decide_eq_true_eq]; omega
  · rw [if_neg h]; congr 1; symm; rw [decide_eq_false_iff_not]; omega

theorem div_zero_iff {h : Int} {p : Int} (hp : 1 ≤ p) (h0 : 0 ≤ h) : h / p = 0 ↔ h < p := by
  constructor
  · intro hz
    have := Int.lt_ediv_add_one_mul_self h (show (0 : Int) < p by omega)
    rw [hz] at this
    omega
  · intro hz
    exact Int.ediv_eq_zero_of_lt h0 hz

theorem toIntS_l0 (l : List Int) (hl : l.length ≤ 17592186044416) : ∀ (d : Nat) (x : List Int) (i : Nat), x.length = l.length → i + d = l.length → x.take i = l.take i → Ev (fun k => laws_toIntS.l0 k l x (i : Int)) l
  | 0, x, i, hx, hi, ht => by
    refine Ev.step (f := fun _ => some l) (fun k => ?_) (Ev.now _)
    simp only [laws_toIntS.l0]
    rw [if_neg (by omega)]
    congr 1
    rw [List.take_of_length_le (by omega), List.take_of_length_le (by omega)] at ht
    exact ht
  | d + 1, x, i, hx, hi, ht => by
    have ih := toIntS_l0 l hl d (x.set i (rd l i)) (i + 1) (by simpa using hx) (by omega) (by
      rw [List.take_succ_eq_append_getElem (by simp; omega), List.take_succ_eq_append_getElem (by omega), List.take_set_of_le (by omega), ht]
      simp [rd, List.getElem?_eq_getElem (show i < l.length by omega)])
    refine Ev.step (fun k => ?_) ih
    simp only [laws_toIntS.l0]
    rw [if_pos (by omega), if_pos (by omega), if_pos (by omega), wrap64_id (by omega) (by omega)]
    simp
theorem toIntS_ev (l : List Int) (hl : l.length ≤ 17592186044416) : Ev (fun k => laws_toIntS.f k l) l := by
  refine Ev.congr (fun k => ?_) (toIntS_l0 l hl l.length (List.replicate l.length 0) 0 (by simp) (by simp) (by simp))
  simp only [laws_toIntS.f]
  rw [if_pos (by omega), if_pos (by omega)]
  simp

theorem eqIntS_l0 (l : List Int) (hl : l.length ≤ 140737488351232) : ∀ (d : Nat) (i : Nat), i + d = l.length → Ev (fun k => laws_eqIntS.l0 k l l (i : Int)) true
  | 0, i, hi => by
    refine Ev.step (f := fun _ => some true) (fun k => ?_) (Ev.now _)
    simp only [laws_eqIntS.l0]
    rw [if_neg (by omega)]
  | d + 1, i, hi => by
    have ih := eqIntS_l0 l hl d (i + 1) (by omega)
    refine Ev.step (fun k => ?_) ih
    simp only [laws_eqIntS.l0]
    rw [if_pos (by omega), if_pos (by omega), if_pos (by omega), wrap64_id (by omega) (by omega)]
    simp
theorem eqIntS_ev (l : List Int) (hl : l.length ≤ 140737488351232) : Ev (fun k => laws_eqIntS.f k l l) true := by
  refine Ev.congr (fun k => ?_) (eqIntS_l0 l hl l.length 0 (by simp))
  simp only [laws_eqIntS.f]
  simp

def bB (k : Nat) : Int := if k < 4 then (k : Int) else (2 + (k : Int) % 2) * 2 ^ (k / 2 - 1)
def eB (k : Nat) : Nat := if k < 4 then 0 else k / 2 - 1
theorem bB_le : ∀ m : Fin 16, 0 ≤ bB m ∧ bB m + 2 ^ (eB m) ≤ 256 ∧ eB m ≤ 6 ∧ (1 : Int) ≤ 2 ^ eB m := by decide +kernel
theorem bB_le12 : ∀ m : Fin 12, bB m + 2 ^ (eB m) ≤ 64 := by decide +kernel

theorem specBase1 : ∀ m : Fin 16, spec_l5Base.f ((m.val : Nat) : Int) 1 = some (1 + bB m, ((eB m : Nat) : Int)) := by decide +kernel
theorem specBase3 : ∀ m : Fin 16, spec_l5Base.f ((m.val : Nat) : Int) 3 = some (3 + bB m, ((eB m : Nat) : Int)) := by decide +kernel

theorem implBase : ∀ m : Fin 16, impl_baseOf.f ((m.val : Nat) : Int) = some (bB m, ((eB m : Nat) : Int)) := by decide +kernel

/-- Of a number: the first symbol (from S - d on) whose numbers it is among. -/
def partD (n : Int) (S : Nat) : Nat → Option (Nat × Int × Int)
  | 0 => none
  | d + 1 => if bB (S - (d + 1)) ≤ n ∧ n < bB (S - (d + 1)) + 2 ^ eB (S - (d + 1)) then some (S - (d + 1), (eB (S - (d + 1)) : Int), n - bB (S - (d + 1))) else partD n S d
def partR (add : Int) : Option (Nat × Int × Int) → Int × Int × Int × Bool
  | none => (0, 0, 0, false)
  | some (s, e, r) => ((s : Int) + add, e, r, true)
theorem partD_lt {n : Int} {S : Nat} : ∀ {d : Nat} {s : Nat} {e r : Int}, d ≤ S → partD n S d = some (s, e, r) → s < S
  | 0, _, _, _, _, h => by simp [partD] at h
  | d + 1, s, e, r, hd, h => by
    simp only [partD] at h
    split at h
    · simp only [Option.some.injEq, Prod.mk.injEq] at h; omega
    · exact partD_lt (by omega) h
theorem partD_none {n : Int} {S : Nat} (hS : S ≤ 16) (M : Int) (hM : ∀ m : Nat, m < S → bB m + 2 ^ eB m ≤ M) (h : n < 0 ∨ M ≤ n) : ∀ (d : Nat), d ≤ S → partD n S d = none
  | 0, _ => rfl
  | d + 1, hd => by
    have h1 := bB_le ⟨S - (d + 1), by omega⟩
    have h2 := hM (S - (d + 1)) (by omega)
    simp only at h1
    simp only [partD]
    rw [if_neg (by omega)]
    exact partD_none hS M hM h d (by omega)

theorem specPart_l0 (x : Int) (S : Nat) (hS : S ≤ 16) (f add : Int) (hf : 0 ≤ f ∧ f ≤ 3) (ha : 0 ≤ add ∧ add ≤ 1000) (hx : -9223372036854775808 ≤ x ∧ x < 9223372036854775808)
    (hb : ∀ m : Fin 16, spec_l5Base.f ((m.val : Nat) : Int) f = some (f + bB m, ((eB m : Nat) : Int))) :
    ∀ (d : Nat), d ≤ S → Ev (fun k => spec_l5Part.l0 k x S f add ((S - d : Nat) : Int)) (partR add (partD (x - f) S d))
  | 0, hd => by
    refine Ev.step (f := fun _ => some (0, 0, 0, false)) (fun k => ?_) (Ev.now _)
    simp only [spec_l5Part.l0]
    rw [if_neg (by omega)]
  | d + 1, hd => by
    have ih := specPart_l0 x S hS f add hf ha hx hb d (by omega)
    have h1 := hb ⟨S - (d + 1), by omega⟩
    have h3 := bB_le ⟨S - (d + 1), by omega⟩
    have q1 : ((S - (d + 1) : Nat) : Int) < (S : Int) := by omega
    have q2 : ((S - (d + 1) : Nat) : Int) + 1 = ((S - d : Nat) : Int) := by omega
    have q3 : ((S - d : Nat) : Int) ≤ 16 := by omega
    simp only at h1 h3
    simp only [partD]
    generalize S - (d + 1) = m at *
    generalize S - d = m1 at *
    clear hd hS hb
    obtain ⟨h30, h31, h32, h33⟩ := h3
    have en : wrap64 ((m : Int) + 1) = (m1 : Int) := by rw [wrap64_id (by omega) (by omega)]; omega
    have w0 : wrap64 ((m : Int) + add) = (m : Int) + add := wrap64_id (by omega) (by omega)
    generalize bB m = b at *
    generalize eB m = e at *
    have w1 : IntKind.u64.wrap (e : Int) = (e : Int) := wrapU64_id (by omega) (by omega)
    have w2 : shl .i64 1 (e : Int) = 1 * 2 ^ e := shl_i64 (by omega) (by omega) (by omega)
    generalize (2 : Int) ^ e = p at *
    have w3 : wrap64 (f + b + 1 * p) = f + b + 1 * p := wrap64_id (by omega) (by omega)
    have q4 : (0 : Int) ≤ (e : Int) := by omega
    clear q2 q3
    by_cases hin : b ≤ x - f ∧ x - f < b + p
    · rw [if_pos hin]
      have g1 : x ≥ f + b := by omega
      have g2 : x < f + b + 1 * p := by omega
      have w4 : wrap64 (x - (f + b)) = x - (f + b) := wrap64_id (by omega) (by omega)
      refine Ev.step (f := fun _ => some (partR add (some (m, (e : Int), x - f - b)))) (fun k => ?_) (Ev.now _)
      simp only [spec_l5Part.l0]
      rw [if_pos q1, h1]
      simp only [Option.bind_some]
      rw [if_pos g1, w1, if_pos q4, w2, w3, if_pos g2, w0, w4]
      rw [show x - f - b = x - (f + b) by omega]
      rfl
    · rw [if_neg hin]
      refine Ev.step (fun k => ?_) ih
      simp only [spec_l5Part.l0]
      rw [if_pos q1, h1]
      simp only [Option.bind_some]
      rw [en]
      by_cases hge : x ≥ f + b
      · have g2 : ¬ x < f + b + 1 * p := by omega
        rw [if_pos hge, w1, if_pos q4, w2, w3, if_neg g2]
      · rw [if_neg hge]

theorem implPart_l0 (x : Int) (S : Nat) (hS : S ≤ 16) (hx : -9223372036854775808 ≤ x ∧ x < 9223372036854775808) :
    ∀ (d : Nat), d ≤ S → Ev (fun k => impl_partOf.l0 k x S ((S - d : Nat) : Int)) (partR 0 (partD x S d))
  | 0, hd => by
    refine Ev.step (f := fun _ => some (0, 0, 0, false)) (fun k => ?_) (Ev.now _)
    simp only [impl_partOf.l0]
    rw [if_neg (by omega)]
  | d + 1, hd => by
    have ih := implPart_l0 x S hS hx d (by omega)
    have h1 := implBase ⟨S - (d + 1), by omega⟩
    have h3 := bB_le ⟨S - (d + 1), by omega⟩
    simp only at h1 h3
    generalize hm : S - (d + 1) = m at *
    simp only [partD, hm]
    generalize bB m = b at *
    generalize eB m = e at *
    have hp : (2 : Int) ^ e ≤ 256 := by omega
    have en : ((S - d : Nat) : Int) = wrap64 ((m : Int) + 1) := by rw [wrap64_id (by omega) (by omega)]; omega
    by_cases hin : b ≤ x ∧ x < b + 2 ^ e
    · rw [if_pos hin]
      refine Ev.step (f := fun _ => some (partR 0 (some (m, (e : Int), x - b)))) (fun k => ?_) (Ev.now _)
      simp only [impl_partOf.l0]
      rw [if_pos (by omega), h1]
      simp only [Option.bind_some]
      rw [if_pos (by omega), shl_i64 (by omega) (by omega) (by omega), wrap64_id (n := b + 1 * 2 ^ e) (by omega) (by omega), wrap64_id (n := b + 1 * 2 ^ e - 1) (by omega) (by omega), in_tell]
      simp only [Option.bind_some]
      rw [if_pos (by rw [decide_eq_true_eq]; omega), wrap64_id (n := x - b) (by omega) (by omega)]
      simp [partR]
    · rw [if_neg hin]
      refine Ev.step (fun k => ?_) ih
      simp only [impl_partOf.l0]
      rw [if_pos (by omega), h1]
      simp only [Option.bind_some]
      rw [if_pos (by omega), shl_i64 (by omega) (by omega) (by omega), wrap64_id (n := b + 1 * 2 ^ e) (by omega) (by omega), wrap64_id (n := b + 1 * 2 ^ e - 1) (by omega) (by omega), in_tell]
      simp only [Option.bind_some]
      rw [if_neg (by rw [decide_eq_true_eq]; omega), en]

theorem specLengthPart_ev (d : Int) (hd : -9223372036854775808 ≤ d ∧ d < 9223372036854775808) : Ev (fun k => spec_LengthPart.f k d) (partR 257 (partD (d - 3) 12 12)) := by
  have h := specPart_l0 d 12 (by omega) 3 257 (by omega) (by omega) hd specBase3 12 (by omega)
  unfold spec_LengthPart.f spec_l5Part.f
  exact Ev.bind h (Ev.now _)
theorem implLengthPart_ev (d : Int) (hd : -9223372036854775808 ≤ d ∧ d < 9223372036854775808) : Ev (fun k => impl_LengthPart.f k d) (partR 257 (partD (d - 3) 12 12)) := by
  unfold impl_LengthPart.f impl_partOf.f
  rw [in_tell]
  simp only [Option.bind_some]
  by_cases h : 3 ≤ d ∧ d ≤ 66
  · rw [wrap64_id (by omega) (by omega)]
    have e := implPart_l0 (d - 3) 12 (by omega) (by omega) 12 (by omega)
    refine Ev.ifT (by rw [decide_eq_true_eq]; exact h) (Ev.bind e ?_)
    rcases hp : partD (d - 3) 12 12 with _ | ⟨s, e, r⟩
    · exact Ev.ifF (by simp [partR]) (Ev.now _)
    · have := partD_lt (by omega) hp
      simp only [partR, Int.add_zero]
      rw [wrap64_id (by omega) (by omega)]
      exact Ev.ifT (by simp) (Ev.now _)
  · rw [partD_none (by omega) 64 (fun m hm => bB_le12 ⟨m, hm⟩) (by omega) 12 (by omega)]
    exact Ev.ifF (by rw [decide_eq_true_eq]; exact h) (Ev.now _)

theorem specDistPart_ev (d : Int) (hd : -9223372036854775808 ≤ d ∧ d < 9223372036854775808) : Ev (fun k => spec_DistPart.f k d) (partR 0 (partD (d - 1) 16 16)) := by
  have h := specPart_l0 d 16 (by omega) 1 0 (by omega) (by omega) hd specBase1 16 (by omega)
  unfold spec_DistPart.f spec_l5Part.f
  exact Ev.bind h (Ev.now _)
theorem implDistPart_ev (d : Int) (hd : -9223372036854775808 ≤ d ∧ d < 9223372036854775808) : Ev (fun k => impl_DistPart.f k d) (partR 0 (partD (d - 1) 16 16)) := by
  unfold impl_DistPart.f impl_partOf.f
  rw [in_tell]
  simp only [Option.bind_some]
  by_cases h : 1 ≤ d ∧ d ≤ 256
  · rw [wrap64_id (by omega) (by omega)]
    have e := implPart_l0 (d - 1) 16 (by omega) (by omega) 16 (by omega)
    exact Ev.ifT (by rw [decide_eq_true_eq]; exact h) (Ev.bind e (Ev.now _))
  · rw [partD_none (by omega) 256 (fun m hm => (bB_le ⟨m, hm⟩).2.1) (by omega) 16 (by omega)]
    exact Ev.ifF (by rw [decide_eq_true_eq]; exact h) (Ev.now _)

/-- Tokens' lists: read, held, marked. -/
theorem tok_get (l : List S96) (i : Nat) (h : i < l.length) : rd_T96 l (i : Int) = l[i] := by simp [rd_T96, List.getElem?_eq_getElem h]
theorem tok_eta (x : S96) : (⟨x.f0, x.f1, x.f2, x.f3⟩ : S96) = x := rfl
theorem eqTokenS_l0 (l : List S96) (hl : l.length ≤ 1048576) : ∀ (d : Nat) (i : Nat), i + d = l.length → Ev (fun k => laws_eqTokenS.l0 k l l (i : Int)) true
  | 0, i, hi => by
    refine Ev.step (f := fun _ => some true) (fun k => ?_) (Ev.now _)
    simp only [laws_eqTokenS.l0]
    rw [if_neg (by omega)]
  | d + 1, i, hi => by
    have ih := eqTokenS_l0 l hl d (i + 1) (by omega)
    refine Ev.step (fun k => ?_) ih
    simp only [laws_eqTokenS.l0, laws_eqToken.f]
    rw [if_pos (by omega), if_pos (by omega), if_pos (by omega), wrap64_succ (by omega)]
    simp
theorem eqTokenS_ev (l : List S96) (hl : l.length ≤ 1048576) : Ev (fun k => laws_eqTokenS.f k l l) true := by
  refine Ev.congr (fun k => ?_) (eqTokenS_l0 l hl l.length 0 (by simp))
  simp only [laws_eqTokenS.f]
  simp

/-- Tokens that come in, copied. (98: as they come in, 96: as they are told.) -/
def convT (x : S98) : S96 := ⟨x.f0, x.f1, x.f2, x.f3⟩
theorem toTokenS_l0 (l : List S98) (hl : l.length ≤ 8796093022208) : ∀ (d : Nat) (o : List S96) (i : Nat), i + d = l.length → o.length = l.length → Ev (fun k => laws_toTokenS.l0 k l o (i : Int)) (o.take i ++ (l.drop i).map convT)
  | 0, o, i, hi, ho => by
    refine Ev.step (f := fun _ => some o) (fun k => ?_) (Ev.const ?_)
    · simp only [laws_toTokenS.l0]
      rw [if_neg (by omega)]
    · rw [List.take_of_length_le (by omega), List.drop_of_length_le (by omega)]; simp
  | d + 1, o, i, hi, ho => by
    have ih := toTokenS_l0 l hl d (o.set i (convT (l[i]'(by omega)))) (i + 1) (by omega) (by simpa using ho)
    have e1 : (o.set i (convT (l[i]'(by omega)))).take (i + 1) = o.take i ++ [convT (l[i]'(by omega))] := by
      rw [List.take_succ_eq_append_getElem (by simp; omega), List.take_set_of_le (by omega)]; simp
    have e3 : l.drop i = l[i]'(by omega) :: l.drop (i + 1) := List.drop_eq_getElem_cons (by omega)
    have er : rd_T98 l (i : Int) = l[i]'(by omega) := by simp [rd_T98, List.getElem?_eq_getElem (show i < l.length by omega)]
    rw [e1, List.append_assoc, List.singleton_append, ← List.map_cons, ← e3] at ih
    refine Ev.step (fun k => ?_) ih
    simp only [laws_toTokenS.l0, laws_toToken.f]
    rw [if_pos (by omega), if_pos (by omega)]
    simp only [Option.bind_some]
    rw [if_pos (by omega), wrap64_succ (by omega), er]
    rfl
theorem toTokenS_ev (l : List S98) (hl : l.length ≤ 1048576) : Ev (fun k => laws_toTokenS.f k l) (l.map convT) := by
  have e := toTokenS_l0 l (by omega) l.length (List.replicate l.length z96) 0 (by omega) (by simp)
  rw [List.take_zero, List.nil_append, List.drop_zero] at e
  refine Ev.congr (fun k => ?_) e
  simp only [laws_toTokenS.f]
  rw [if_pos (by omega), if_pos (by omega)]
  rfl
theorem szTokenS_tell (l : List S98) (a : Int) (hl : l.length ≤ 9223372036854775807) (h0 : 0 ≤ a) (h1 : a ≤ 1048576) : laws_szTokenS.f l a = some (if a < (l.length : Int) then -1 else a - l.length) := by
  unfold laws_szTokenS.f
  rw [wrap64_id (by omega) (by omega)]
  by_cases q : a < (l.length : Int)
  · rw [if_pos q, if_pos (by omega)]
  · rw [if_neg q, if_neg (by omega)]

/-- Are all tokens of a list fine? (impl_Token_139_of_impl_tokensOk_1: the search, impl_Token_135_of_impl_tokensOk_1: whether it finds.) -/
def tokOk (t : S96) : Bool := decide ((t.f0 = 1 ∧ 0 ≤ t.f1 ∧ t.f1 ≤ 255 ∧ t.f2 = 0 ∧ t.f3 = 0) ∨ (t.f0 = 2 ∧ t.f1 = 0 ∧ 3 ≤ t.f2 ∧ t.f2 ≤ 66 ∧ 1 ≤ t.f3 ∧ t.f3 ≤ 256))
theorem implTokenOk_tell (a b c d : Int) : impl_TokenOk.f a b c d = some (tokOk ⟨a, b, c, d⟩) := by
  unfold impl_TokenOk.f tokOk
  simp only [in_tell, Option.bind_some, decide_eq_true_eq]
  by_cases h1 : a = 1
  · rw [if_pos h1]
    by_cases h2 : 0 ≤ b ∧ b ≤ 255
    · rw [if_pos h2]
      by_cases h3 : c = 0
      · rw [if_pos h3]
        congr 1
        rw [Bool.eq_iff_iff, decide_eq_true_eq, beq_iff_eq]
        constructor
        · intro q; exact .inl ⟨h1, h2.1, h2.2, h3, q⟩
        · intro q; omega
      · rw [if_neg h3]
        congr 1
        symm; rw [decide_eq_false_iff_not]; omega
    · rw [if_neg h2]
      congr 1
      symm; rw [decide_eq_false_iff_not]; omega
  · rw [if_neg h1]
    by_cases h2 : a = 2
    · rw [if_pos h2]
      by_cases h3 : b = 0
      · rw [if_pos h3]
        by_cases h4 : 3 ≤ c ∧ c ≤ 66
        · rw [if_pos h4]
          congr 1
          rw [Bool.eq_iff_iff, decide_eq_true_eq, decide_eq_true_eq]
          omega
        · rw [if_neg h4]
          congr 1
          symm; rw [decide_eq_false_iff_not]; omega
      · rw [if_neg h3]
        congr 1
        symm; rw [decide_eq_false_iff_not]; omega
    · rw [if_neg h2]
      congr 1
      symm; rw [decide_eq_false_iff_not]; omega
theorem tokensOk_l0 (l : List S96) (hl : l.length ≤ 1048576) : ∀ (d i : Nat), i + d = l.length → ∃ r : Int, decide (r ≥ 0) = !(l.drop i).all tokOk ∧ Ev (fun k => impl_Token_139_of_impl_tokensOk_1.l0 k l (l.length : Int) (i : Int)) r
  | 0, i, hi => by
    refine ⟨-1, by rw [List.drop_of_length_le (by omega)]; rfl, Ev.step (f := fun _ => some (-1)) (fun k => ?_) (Ev.now _)⟩
    simp only [impl_Token_139_of_impl_tokensOk_1.l0]
    rw [if_neg (by omega)]
  | d + 1, i, hi => by
    obtain ⟨r, h1, h2⟩ := tokensOk_l0 l hl d (i + 1) (by omega)
    have e3 : l.drop i = l[i]'(by omega) :: l.drop (i + 1) := List.drop_eq_getElem_cons (by omega)
    have g1 : (i : Int) < (l.length : Int) := by omega
    have g2 : (0 : Int) ≤ (i : Int) := by omega
    have er : rd_T96 l (i : Int) = l[i]'(by omega) := by simp [rd_T96, List.getElem?_eq_getElem (show i < l.length by omega)]
    by_cases hb : tokOk (l[i]'(by omega)) = true
    · refine ⟨r, ?_, Ev.step (fun k => ?_) h2⟩
      · rw [h1, e3, List.all_cons, hb, Bool.true_and]
      · simp only [impl_Token_139_of_impl_tokensOk_1.l0, impl_tokensOk_1.f]
        rw [if_pos g1, if_pos g2, if_pos g1, er, implTokenOk_tell]
        simp only [Option.bind_some]
        rw [hb, wrap64_succ (by omega)]
        simp
    · refine ⟨(i : Int), ?_, Ev.step (f := fun _ => some (i : Int)) (fun k => ?_) (Ev.now _)⟩
      · rw [e3, List.all_cons, Bool.eq_false_iff.2 hb, Bool.false_and, Bool.not_false, decide_eq_true_eq]; omega
      · simp only [impl_Token_139_of_impl_tokensOk_1.l0, impl_tokensOk_1.f]
        rw [if_pos g1, if_pos g2, if_pos g1, er, implTokenOk_tell]
        simp only [Option.bind_some]
        rw [Bool.eq_false_iff.2 hb]
        simp
theorem tokensOk_ev (l : List S96) (hl : l.length ≤ 1048576) : Ev (fun k => impl_tokensOk.f k l) (decide (l.length ≤ 1024) && l.all tokOk) := by
  unfold impl_tokensOk.f impl_Token_135_of_impl_tokensOk_1.f impl_Token_139_of_impl_tokensOk_1.f
  by_cases h : (l.length : Int) ≤ 1024
  · obtain ⟨r, h1, h2⟩ := tokensOk_l0 l hl l.length 0 (by omega)
    refine Ev.ifT h (Ev.bind (a := decide (r ≥ 0)) (Ev.bind h2 (Ev.now _)) (Ev.const ?_))
    rw [h1, decide_eq_true (show l.length ≤ 1024 by omega)]
    simp
  · refine Ev.ifF h (Ev.const ?_)
    rw [decide_eq_false (by omega)]; rfl

theorem specTokenOk_tell (a b c d : Int) : spec_TokenOk.f a b c d = some (tokOk ⟨a, b, c, d⟩) := by
  rw [← implTokenOk_tell]
  unfold spec_TokenOk.f impl_TokenOk.f
  simp only [in_tell, l1In_tell]
theorem l5Ok_l0 (l : List S96) (hl : l.length ≤ 1048576) : ∀ (d i : Nat), i + d = l.length → Ev (fun k => spec_l5Ok.l0 k l (i : Int)) ((l.drop i).all tokOk)
  | 0, i, hi => by
    rw [List.drop_of_length_le (by omega)]
    refine Ev.step (f := fun _ => some true) (fun k => ?_) (Ev.now _)
    simp only [spec_l5Ok.l0]
    rw [if_neg (by omega)]
  | d + 1, i, hi => by
    have ih := l5Ok_l0 l hl d (i + 1) (by omega)
    have e3 : l.drop i = l[i]'(by omega) :: l.drop (i + 1) := List.drop_eq_getElem_cons (by omega)
    have er : rd_T96 l (i : Int) = l[i]'(by omega) := by simp [rd_T96, List.getElem?_eq_getElem (show i < l.length by omega)]
    have g1 : (i : Int) < (l.length : Int) := by omega
    have g2 : (0 : Int) ≤ (i : Int) := by omega
    rw [e3, List.all_cons]
    by_cases hb : tokOk (l[i]'(by omega)) = true
    · rw [hb, Bool.true_and]
      refine Ev.step (fun k => ?_) ih
      simp only [spec_l5Ok.l0]
      rw [if_pos g1, if_pos g2, er, specTokenOk_tell]
      simp only [Option.bind_some]
      rw [if_pos hb, wrap64_succ (by omega)]
    · rw [Bool.eq_false_iff.2 hb, Bool.false_and]
      refine Ev.step (f := fun _ => some false) (fun k => ?_) (Ev.now _)
      simp only [spec_l5Ok.l0]
      rw [if_pos g1, if_pos g2, er, specTokenOk_tell]
      simp only [Option.bind_some]
      rw [if_neg hb]
theorem l5Ok_ev (l : List S96) (hl : l.length ≤ 1048576) : Ev (fun k => spec_l5Ok.f k l) (decide (l.length ≤ 1024) && l.all tokOk) := by
  unfold spec_l5Ok.f
  by_cases h : (l.length : Int) > 1024
  · refine Ev.ifT h (Ev.const ?_)
    rw [decide_eq_false (by omega)]; rfl
  · rw [decide_eq_true (show l.length ≤ 1024 by omega), Bool.true_and]
    exact Ev.ifF h (l5Ok_l0 l hl l.length 0 (by omega))

theorem partR_sym {n : Int} {S : Nat} (add : Int) : ((partR add (partD n S S)).1 = 0) ∨ ∃ s : Nat, s < S ∧ (partR add (partD n S S)).1 = (s : Int) + add := by
  rcases hp : partD n S S with _ | ⟨s, e, r⟩
  · exact .inl rfl
  · exact .inr ⟨s, partD_lt (Nat.le_refl _) hp, rfl⟩
theorem set_apart (o : List Int) (j : Nat) (v w : Int) (h : j ≠ 256) : (o.set 256 v).set j w = (o.set j w).set 256 v := by
  rw [List.set_comm _ _ (fun e => h e.symm)]
theorem rd_apart (o : List Int) (j : Nat) (v : Int) (h : j ≠ 256) : rd (o.set 256 v) (j : Int) = rd o (j : Int) := by
  unfold rd
  simp only [Int.toNat_natCast, List.getD_eq_getElem?_getD]
  rw [List.getElem?_set_ne (fun e => h e.symm)]
theorem rd_apart2 (o : List Int) (j : Nat) (v : Int) (h : j ≠ 256) : rd (o.set j v) 256 = rd o 256 := by
  unfold rd
  rw [show (256 : Int).toNat = 256 from rfl, List.getD_eq_getElem?_getD, List.getElem?_set_ne h, ← List.getD_eq_getElem?_getD]
theorem tally_go (l : List S96) (hl : l.length ≤ 1024) (hok : l.all tokOk = true) : ∀ (d i : Nat) (o p : List Int), i + d = l.length → o.length = 269 → p.length = 16 → rd o 256 = 0 →
    ∃ a b : List Int, a.length = 269 ∧ b.length = 16 ∧ Ev (fun k => spec_Tally.l0 k l (o.set 256 1) p (i : Int)) (a, b, true) ∧ Ev (fun k => impl_Tally.l0 k o p l (l.length : Int) (i : Int)) (a, b, true)
  | 0, i, o, p, hi, ho, hp, hz => by
    refine ⟨o.set 256 1, p, by simpa using ho, hp, ?_, ?_⟩
    · refine Ev.step (f := fun _ => some (o.set 256 1, p, true)) (fun k => ?_) (Ev.now _)
      simp only [spec_Tally.l0]
      rw [if_neg (by omega)]
    · refine Ev.step (f := fun _ => some (o.set 256 1, p, true)) (fun k => ?_) (Ev.now _)
      simp only [impl_Tally.l0]
      rw [if_neg (by omega), if_pos (by omega), hz, show wrap64 (0 + 1) = 1 by decide +kernel]
      rfl
  | d + 1, i, o, p, hi, ho, hp, hz => by
    have er : rd_T96 l (i : Int) = l[i]'(by omega) := by simp [rd_T96, List.getElem?_eq_getElem (show i < l.length by omega)]
    have g1 : (i : Int) < (l.length : Int) := by omega
    have g2 : (0 : Int) ≤ (i : Int) := by omega
    have hx := List.all_eq_true.1 hok (l[i]'(by omega)) (List.getElem_mem _)
    have wi : wrap64 ((i : Int) + 1) = ((i + 1 : Nat) : Int) := wrap64_succ (by omega)
    unfold tokOk at hx
    rw [decide_eq_true_eq] at hx
    have next : ∀ (j q : Nat) (v w : Int), j ≠ 256 → ∃ a b : List Int, a.length = 269 ∧ b.length = 16 ∧ Ev (fun k => spec_Tally.l0 k l ((o.set 256 1).set j v) (p.set q w) ((i + 1 : Nat) : Int)) (a, b, true) ∧ Ev (fun k => impl_Tally.l0 k (o.set j v) (p.set q w) l (l.length : Int) ((i + 1 : Nat) : Int)) (a, b, true) := by
      intro j q v w hj
      rw [set_apart o j 1 v hj]
      exact tally_go l hl hok d (i + 1) (o.set j v) (p.set q w) (by clear wi; omega) (by simpa using ho) (by simpa using hp) (by rw [rd_apart2 o j v hj]; exact hz)
    generalize l[i]'(by omega) = x at er hx
    have hs : (o.set 256 1).length = 269 := by simpa using ho
    rcases hx with hx | hx
    · have h1 : x.f0 = 1 := hx.1
      obtain ⟨j, hj⟩ := Int.eq_ofNat_of_zero_le hx.2.1
      have hj2 : j ≤ 255 := by clear wi; omega
      obtain ⟨a, b, ha, hb, s, t⟩ := next j 16 (wrap64 (rd o (j : Int) + 1)) 0 (by clear wi; omega)
      have ep : p.set 16 0 = p := List.set_eq_of_length_le (by clear wi; omega)
      rw [ep] at s t
      refine ⟨a, b, ha, hb, Ev.step (fun k => ?_) s, Ev.step (fun k => ?_) t⟩
      · simp only [spec_Tally.l0]
        rw [if_pos g1, if_pos g2, er, if_pos h1, hj, if_pos (by clear wi; omega), if_pos (by rw [hs]; clear wi; omega), rd_apart o j 1 (by clear wi; omega), wi]
        rfl
      · simp only [impl_Tally.l0]
        rw [if_pos g1, if_pos g2, if_pos g1, er, if_pos h1, hj, if_pos (by clear wi; omega), if_pos (by rw [ho]; clear wi; omega), wi]
        rfl
    · have h1 : ¬ x.f0 = 1 := by rw [hx.1]; decide
      have e1 := specLengthPart_ev x.f2 (by clear wi; omega)
      have e2 := implLengthPart_ev x.f2 (by clear wi; omega)
      have e3 := specDistPart_ev x.f3 (by clear wi; omega)
      have e4 := implDistPart_ev x.f3 (by clear wi; omega)
      have s1 := partR_sym (n := x.f2 - 3) (S := 12) 257
      have s2 := partR_sym (n := x.f3 - 1) (S := 16) 0
      generalize partR 257 (partD (x.f2 - 3) 12 12) = u at *
      generalize partR 0 (partD (x.f3 - 1) 16 16) = v at *
      obtain ⟨u1, u2⟩ := u
      obtain ⟨v1, v2⟩ := v
      simp only at s1 s2
      have s1' : 0 ≤ u1 ∧ u1 < 269 ∧ u1 ≠ 256 := by clear wi; rcases s1 with h | ⟨s, h, h2⟩ <;> omega
      have s2' : 0 ≤ v1 ∧ v1 < 16 := by clear wi; rcases s2 with h | ⟨s, h, h2⟩ <;> omega
      clear s1 s2
      obtain ⟨j, rfl⟩ := Int.eq_ofNat_of_zero_le s1'.1
      obtain ⟨q, rfl⟩ := Int.eq_ofNat_of_zero_le s2'.1
      obtain ⟨a, b, ha, hb, s, t⟩ := next j q (wrap64 (rd o (j : Int) + 1)) (wrap64 (rd p (q : Int) + 1)) (by clear wi; omega)
      rw [← wi] at s t
      clear wi
      refine ⟨a, b, ha, hb, ?_, ?_⟩
      · refine Ev.step (f := fun k => (spec_LengthPart.f k x.f2).bind fun bt161 => (spec_DistPart.f k x.f3).bind fun bt167 => if 0 ≤ bt161.1 then (if bt161.1 < ((o.set 256 1).length : Int) then (if 0 ≤ bt167.1 then (if bt167.1 < (p.length : Int) then spec_Tally.l0 k l ((o.set 256 1).set (bt161.1 : Int).toNat (wrap64 ((rd (o.set 256 1) bt161.1) + 1))) (p.set (bt167.1 : Int).toNat (wrap64 ((rd p bt167.1) + 1))) (wrap64 ((i : Int) + 1)) else none) else none) else none) else none) (fun k => ?_) (Ev.bind e1 (Ev.bind e3 (Ev.ifT s1'.1 (Ev.ifT (by rw [hs]; exact s1'.2.1) (Ev.ifT s2'.1 (Ev.ifT (by rw [hp]; exact s2'.2) ?_))))))
        · simp only [spec_Tally.l0]
          rw [if_pos g1, if_pos g2, er, if_neg h1]
        · simp only [Int.toNat_natCast]
          rw [rd_apart o j 1 (by omega)]
          exact s
      · refine Ev.step (f := fun k => (impl_LengthPart.f k x.f2).bind fun bt161 => (impl_DistPart.f k x.f3).bind fun bt167 => if 0 ≤ bt161.1 then (if bt161.1 < (o.length : Int) then (if 0 ≤ bt167.1 then (if bt167.1 < (p.length : Int) then impl_Tally.l0 k (o.set (bt161.1 : Int).toNat (wrap64 ((rd o bt161.1) + 1))) (p.set (bt167.1 : Int).toNat (wrap64 ((rd p bt167.1) + 1))) l (l.length : Int) (wrap64 ((i : Int) + 1)) else none) else none) else none) else none) (fun k => ?_) (Ev.bind e2 (Ev.bind e4 (Ev.ifT s1'.1 (Ev.ifT (by rw [ho]; exact s1'.2.1) (Ev.ifT s2'.1 (Ev.ifT (by rw [hp]; exact s2'.2) ?_))))))
        · simp only [impl_Tally.l0]
          rw [if_pos g1, if_pos g2, if_pos g1, er, if_neg h1]
        · simp only [Int.toNat_natCast]
          exact t
theorem tally_both (l : List S96) (hl : l.length ≤ 1048576) : ∃ (a b : List Int) (c : Bool), a.length ≤ 269 ∧ b.length ≤ 16 ∧ Ev (fun k => spec_Tally.f k l) (a, b, c) ∧ Ev (fun k => impl_Tally.f k l) (a, b, c) ∧ (c = true → a.length = 269 ∧ b.length = 16) := by
  have t1 := l5Ok_ev l hl
  have t2 := tokensOk_ev l hl
  unfold spec_Tally.f impl_Tally.f
  by_cases h : (decide (l.length ≤ 1024) && l.all tokOk) = true
  · rw [h] at t1 t2
    rw [Bool.and_eq_true, decide_eq_true_eq] at h
    obtain ⟨a, b, ha, hb, s, i⟩ := tally_go l h.1 h.2 l.length 0 (List.replicate 269 0) (List.replicate 16 0) (by omega) List.length_replicate List.length_replicate (by rfl)
    refine ⟨a, b, true, by omega, by omega, Ev.bind t1 (Ev.ifT rfl ?_), Ev.bind t2 (Ev.ifT rfl i), fun _ => ⟨ha, hb⟩⟩
    simp only [Option.bind_some]
    exact Ev.ifT (by rw [List.length_replicate]; decide) s
  · rw [Bool.eq_false_iff.2 h] at t1 t2
    exact ⟨[], [], false, by simp, by simp, Ev.bind t1 (Ev.ifF (by decide) (Ev.now _)), Ev.bind t2 (Ev.ifF (by decide) (Ev.now _)), fun h => by cases h⟩

def badLen (x : Int) : Bool := !decide (0 ≤ x ∧ x ≤ 12)
def badLens (l : List Int) : Prop := ¬ (1 ≤ l.length ∧ l.length ≤ 300) ∨ l.any badLen = true
instance (l : List Int) : Decidable (badLens l) := by unfold badLens; infer_instance
/-- The room that codes take, in parts of 4096. -/
def krOf : List Int → Int
  | [] => 0
  | x :: r => (if x > 0 then 2 ^ (12 - x).toNat else 0) + krOf r
def usedN : List Int → Nat
  | [] => 0
  | x :: r => (if x > 0 then 1 else 0) + usedN r
/-- Is the last used length 1? -/
def lastOne : Bool → List Int → Bool
  | b, [] => b
  | b, x :: r => lastOne (if x > 0 then x == 1 else b) r
def usedI : Nat → List Int → List Int
  | _, [] => []
  | i, x :: r => if x > 0 then (i : Int) :: usedI (i + 1) r else usedI (i + 1) r
def lensEnd (s : Int) (n : Nat) (one : Bool) : Int := if s = 0 then 2 else if s > 4096 then 3 else if s = 4096 then 0 else if one = true then (if n = 1 then 0 else 4) else 4
def lensCodeOf (l : List Int) : Int := if badLens l then 1 else lensEnd (krOf l) (usedN l) (lastOne false l)
theorem any_bad {l : List Int} (h : l.any badLen = false) : ∀ x ∈ l, 0 ≤ x ∧ x ≤ 12 := by
  intro x hx
  have := List.any_eq_false.1 h x hx
  unfold badLen at this
  simp at this
  omega
theorem pow12 {x : Int} (h0 : 0 < x) (h1 : x ≤ 12) : (1 : Int) ≤ 2 ^ (12 - x).toNat ∧ (2 : Int) ^ (12 - x).toNat ≤ 2048 := by
  have := pow_bounds (n := (12 - x).toNat) (m := 11) (by omega)
  simpa using this
theorem krOf_bd : ∀ {l : List Int}, (∀ x ∈ l, 0 ≤ x ∧ x ≤ 12) → 0 ≤ krOf l ∧ krOf l ≤ 2048 * l.length ∧ (usedN l : Int) ≤ krOf l ∧ (usedN l = 0 → krOf l = 0)
  | [], _ => by simp [krOf, usedN]
  | x :: r, h => by
    have ih := krOf_bd (l := r) (fun y hy => h y (by simp [hy]))
    have hx := h x (by simp)
    simp only [krOf, usedN, List.length_cons]
    by_cases h0 : x > 0
    · rw [if_pos h0, if_pos h0]
      have := pow12 h0 hx.2
      generalize (2 : Int) ^ (12 - x).toNat = p at *
      omega
    · rw [if_neg h0, if_neg h0]
      omega
theorem usedI_len : ∀ (i : Nat) (l : List Int), (usedI i l).length = usedN l
  | _, [] => rfl
  | i, x :: r => by
    have := usedI_len (i + 1) r
    simp only [usedI, usedN]
    split <;> simp <;> omega

theorem indexFunc_TokenBits_l0 (p : Int → Bool) (l : List Int) (hl : l.length ≤ 140737488351232) (hp : ∀ x ∈ l, impl_TokenBits_1.f x = some (p x)) : ∀ (d i : Nat), i + d = l.length → ∃ r : Int, decide (r ≥ 0) = (l.drop i).any p ∧ Ev (fun k => slices_IndexFunc_int_int_of_impl_TokenBits_1.l0 k l (l.length : Int) (i : Int)) r
  | 0, i, hi => by
    refine ⟨-1, by rw [List.drop_of_length_le (by omega)]; rfl, Ev.step (f := fun _ => some (-1)) (fun k => ?_) (Ev.now _)⟩
    simp only [slices_IndexFunc_int_int_of_impl_TokenBits_1.l0]
    rw [if_neg (by omega)]
  | d + 1, i, hi => by
    obtain ⟨r, h1, h2⟩ := indexFunc_TokenBits_l0 p l hl hp d (i + 1) (by omega)
    have e3 : l.drop i = l[i]'(by omega) :: l.drop (i + 1) := List.drop_eq_getElem_cons (by omega)
    have hx := hp (l[i]'(by omega)) (List.getElem_mem _)
    have g1 : (i : Int) < (l.length : Int) := by omega
    have g2 : (0 : Int) ≤ (i : Int) := by omega
    have er := rd_get l i (by omega)
    by_cases hb : p (l[i]'(by omega)) = true
    · refine ⟨(i : Int), ?_, Ev.step (f := fun _ => some (i : Int)) (fun k => ?_) (Ev.now _)⟩
      · rw [e3, List.any_cons, hb, Bool.true_or, decide_eq_true_eq]; omega
      · simp only [slices_IndexFunc_int_int_of_impl_TokenBits_1.l0]
        rw [if_pos g1, if_pos g2, if_pos g1, er, hx]
        simp only [Option.bind_some]
        rw [if_pos hb]
    · refine ⟨r, ?_, Ev.step (fun k => ?_) h2⟩
      · rw [h1, e3, List.any_cons, Bool.eq_false_iff.2 hb, Bool.false_or]
      · simp only [slices_IndexFunc_int_int_of_impl_TokenBits_1.l0]
        rw [if_pos g1, if_pos g2, if_pos g1, er, hx]
        simp only [Option.bind_some]
        rw [if_neg hb, wrap64_succ (by omega)]
theorem containsFunc_TokenBits (p : Int → Bool) (l : List Int) (hl : l.length ≤ 140737488351232) (hp : ∀ x ∈ l, impl_TokenBits_1.f x = some (p x)) (z : Nat) : Ev (fun k => slices_ContainsFunc_int_int_of_impl_TokenBits_1.f k l z) (l.any p) := by
  obtain ⟨r, h1, h2⟩ := indexFunc_TokenBits_l0 p l hl hp l.length 0 (by omega)
  unfold slices_ContainsFunc_int_int_of_impl_TokenBits_1.f slices_IndexFunc_int_int_of_impl_TokenBits_1.f
  refine Ev.bind h2 (Ev.const ?_)
  rw [h1]; rfl

theorem specBad_l0 (l : List Int) (hl : l.length ≤ 300) (m : Int) : ∀ (d i : Nat), i + d = l.length → Ev (fun k => spec_l4Bad.l0 k l m (i : Int)) ((l.drop i).any fun x => !decide (0 ≤ x ∧ x ≤ m))
  | 0, i, hi => by
    refine Ev.step (f := fun _ => some false) (fun k => ?_) (Ev.const (by rw [List.drop_of_length_le (by omega)]; rfl))
    simp only [spec_l4Bad.l0]
    rw [if_neg (by omega)]
  | d + 1, i, hi => by
    have ih := specBad_l0 l hl m d (i + 1) (by omega)
    have e3 : l.drop i = l[i]'(by omega) :: l.drop (i + 1) := List.drop_eq_getElem_cons (by omega)
    have g1 : (i : Int) < (l.length : Int) := by omega
    have g2 : (0 : Int) ≤ (i : Int) := by omega
    rw [e3, List.any_cons]
    by_cases hb : 0 ≤ l[i]'(by omega) ∧ l[i]'(by omega) ≤ m
    · rw [decide_eq_true hb, Bool.not_true, Bool.false_or]
      refine Ev.step (fun k => ?_) ih
      simp only [spec_l4Bad.l0]
      rw [if_pos g1, if_pos g2, rd_get l i (by omega), l1In_tell]
      simp only [Option.bind_some]
      rw [if_pos (decide_eq_true hb), wrap64_succ (by omega)]
    · rw [decide_eq_false hb, Bool.not_false, Bool.true_or]
      refine Ev.step (f := fun _ => some true) (fun k => ?_) (Ev.now _)
      simp only [spec_l4Bad.l0]
      rw [if_pos g1, if_pos g2, rd_get l i (by omega), l1In_tell]
      simp only [Option.bind_some]
      rw [if_neg (by rw [decide_eq_true_eq]; exact hb)]
theorem specBad_ev (l : List Int) (hl : l.length ≤ 1048576) : Ev (fun k => spec_l4Bad.f k l 12) (decide (badLens l)) := by
  unfold spec_l4Bad.f
  rw [l1In_tell]
  simp only [Option.bind_some]
  by_cases h : 1 ≤ (l.length : Int) ∧ (l.length : Int) ≤ 300
  · refine Ev.ifT (decide_eq_true h) ?_
    have e := specBad_l0 l (by omega) 12 l.length 0 (by omega)
    have e2 : decide (badLens l) = (l.drop 0).any fun x => !decide (0 ≤ x ∧ x ≤ 12) := by
      rw [Bool.eq_iff_iff, decide_eq_true_eq]
      unfold badLens badLen
      simp only [List.drop_zero]
      constructor
      · intro q; exact q.resolve_left (by omega)
      · intro q; exact .inr q
    rw [e2]; exact e
  · refine Ev.ifF (by rw [decide_eq_true_eq]; exact h) (Ev.const ?_)
    congr 1; symm; rw [decide_eq_true_eq]; left; omega

def TwoB (e f : Nat → Option (Int × Bool)) : Prop := ∃ R : Int × Bool, Ev e R ∧ Ev f R
theorem TwoB.step {e f e' f' : Nat → Option (Int × Bool)} (he : ∀ k, e (k + 1) = e' k) (hf : ∀ k, f (k + 1) = f' k) (h : TwoB e' f') : TwoB e f := by
  obtain ⟨R, h1, h2⟩ := h
  exact ⟨R, Ev.step he h1, Ev.step hf h2⟩
theorem wrap_two (x a l e : Int) : wrap64 (wrap64 (x + wrap64 (a * l)) + wrap64 (a * e)) = wrap64 (x + wrap64 (a * (l + e))) := by
  rw [Int.mul_add]
  generalize a * l = p
  generalize a * e = q
  unfold wrap64
  omega
theorem eB_le (m : Nat) (h : m < 16) : eB m ≤ 6 := (bB_le ⟨m, h⟩).2.2.1
theorem bits_l1 (x2 b : List Int) (hx : x2.length = 16) (hb : b.length = 16) (h12 : ∀ x ∈ x2, 0 ≤ x ∧ x ≤ 12) : ∀ (d i : Nat) (x : Int), i + d = 16 → TwoB (fun k => spec_TokenBits.l1 k x2 b x (i : Int)) (fun k => impl_TokenBits.l1 k x2 x b (b.length : Int) (i : Int))
  | 0, i, x, hi => by
    refine ⟨(x, true), Ev.step (f := fun _ => some (x, true)) (fun k => ?_) (Ev.now _), Ev.step (f := fun _ => some (x, true)) (fun k => ?_) (Ev.now _)⟩
    · simp only [spec_TokenBits.l1]
      rw [if_neg (by omega)]
    · simp only [impl_TokenBits.l1]
      rw [if_neg (by omega)]
  | d + 1, i, x, hi => by
    have g1 : (i : Int) < (b.length : Int) := by omega
    have g2 : (0 : Int) ≤ (i : Int) := by omega
    have g3 : (i : Int) < (x2.length : Int) := by omega
    have s1 := specBase1 ⟨i, by omega⟩
    have s2 := implBase ⟨i, by omega⟩
    simp only at s1 s2
    have ih := bits_l1 x2 b hx hb h12 d (i + 1) (wrap64 (x + wrap64 ((rd b (i : Int)) * (wrap64 ((rd x2 (i : Int)) + (eB i : Int)))))) (by omega)
    rw [← wrap64_succ (by omega)] at ih
    by_cases q : rd b (i : Int) > 0
    · by_cases z : rd x2 (i : Int) = 0
      · refine ⟨(0, false), Ev.step (f := fun _ => some (0, false)) (fun k => ?_) (Ev.now _), Ev.step (f := fun _ => some (0, false)) (fun k => ?_) (Ev.now _)⟩
        · simp only [spec_TokenBits.l1]
          rw [if_pos g1, if_pos g2, if_pos q, if_pos g3, if_pos z]
        · simp only [impl_TokenBits.l1]
          rw [if_pos g1, if_pos g2, if_pos g1, if_pos q, if_pos g3, if_pos z]
      · refine TwoB.step (fun k => ?_) (fun k => ?_) ih
        · simp only [spec_TokenBits.l1]
          rw [if_pos g1, if_pos g2, if_pos q, if_pos g3, if_neg z, s1]
          rfl
        · simp only [impl_TokenBits.l1]
          rw [if_pos g1, if_pos g2, if_pos g1, if_pos q, if_pos g3, if_neg z, s2]
          rfl
    · refine TwoB.step (fun k => ?_) (fun k => ?_) ih
      · simp only [spec_TokenBits.l1]
        rw [if_pos g1, if_pos g2, if_neg q, s1]
        simp only [Option.bind_some]
        rw [if_pos g3]
      · simp only [impl_TokenBits.l1]
        rw [if_pos g1, if_pos g2, if_pos g1, if_neg q, s2]
        simp only [Option.bind_some]
        rw [if_pos g3]
theorem bits_l0 (x1 x2 a b : List Int) (h1 : x1.length = 269) (ha : a.length = 269) (hl : ∀ x ∈ x1, 0 ≤ x ∧ x ≤ 12) (hx : x2.length = 16) (hb : b.length = 16) (h12 : ∀ x ∈ x2, 0 ≤ x ∧ x ≤ 12) : ∀ (d i : Nat) (x : Int), i + d = 269 → (-9223372036854775808 ≤ x ∧ x < 9223372036854775808) → TwoB (fun k => spec_TokenBits.l0 k x1 x2 a b x (i : Int)) (fun k => impl_TokenBits.l0 k x1 x2 b x a (a.length : Int) (i : Int))
  | 0, i, x, hi, _ => by
    refine TwoB.step (fun k => ?_) (fun k => ?_) (bits_l1 x2 b hx hb h12 16 0 x (by omega))
    · simp only [spec_TokenBits.l0]
      rw [if_neg (by omega)]; rfl
    · simp only [impl_TokenBits.l0]
      rw [if_neg (by omega)]; rfl
  | d + 1, i, x, hi, hxx => by
    have g1 : (i : Int) < (a.length : Int) := by omega
    have g2 : (0 : Int) ≤ (i : Int) := by omega
    have g3 : (i : Int) < (x1.length : Int) := by omega
    have hlen := rd_all (P := fun x => 0 ≤ x ∧ x ≤ 12) hl (by omega) (i : Int)
    obtain ⟨m, hm16, hm, hm2⟩ : ∃ m : Nat, m < 16 ∧ mx 0 (wrap64 ((i : Int) - 257)) = (m : Int) ∧ m = i - 257 := by
      refine ⟨i - 257, by omega, ?_, rfl⟩
      rw [wrap64_id (by omega) (by omega)]
      unfold mx
      omega
    have s2 := implBase ⟨m, hm16⟩
    have s3 := specBase3 ⟨m, hm16⟩
    have he := eB_le m hm16
    simp only at s2 s3
    have we : wrap64 (rd x1 (i : Int) + (eB m : Int)) = rd x1 (i : Int) + (eB m : Int) := wrap64_id (by omega) (by omega)
    have hw : ∀ z : Int, -9223372036854775808 ≤ wrap64 z ∧ wrap64 z < 9223372036854775808 := fun z => by unfold wrap64; clear we; omega
    have ih := bits_l0 x1 x2 a b h1 ha hl hx hb h12 d (i + 1) (wrap64 (x + wrap64 ((rd a (i : Int)) * (rd x1 (i : Int) + (eB m : Int))))) (by clear we; omega) (hw _)
    have wi : wrap64 ((i : Int) + 1) = ((i + 1 : Nat) : Int) := wrap64_succ (by clear we; omega)
    rw [← wi] at ih
    clear wi
    -- the specification's next step, behind its test
    have hj2 : TwoB (fun k => spec_TokenBits.j2 k x1 x2 a b x (i : Int) false) (fun k => impl_TokenBits.l0 k x1 x2 b (wrap64 (x + wrap64 ((rd a (i : Int)) * (rd x1 (i : Int) + (eB m : Int))))) a (a.length : Int) (wrap64 ((i : Int) + 1))) := by
      obtain ⟨R, p1, p2⟩ := ih
      refine ⟨R, ?_, p2⟩
      by_cases h256 : (i : Int) > 256
      · have w7 : wrap64 ((i : Int) - 257) = (m : Int) := by rw [wrap64_id (by clear we; omega) (by clear we; omega)]; clear we; omega
        refine Ev.step (fun k => ?_) p1
        simp only [spec_TokenBits.j2]
        rw [if_neg (by decide), if_pos g2, if_pos g1, if_pos g3, if_pos h256, w7, s3]
        simp only [Option.bind_some]
        rw [wrap_two]
      · have em : eB m = 0 := by
          have : m = 0 := by clear we; omega
          rw [this]; rfl
        refine Ev.step (fun k => ?_) p1
        simp only [spec_TokenBits.j2]
        rw [if_neg (by decide), if_pos g2, if_pos g1, if_pos g3, if_neg h256, em]
        simp
    by_cases q : rd a (i : Int) > 0
    · by_cases z : rd x1 (i : Int) = 0
      · refine ⟨(0, false), Ev.step (f := fun k => spec_TokenBits.j2 k x1 x2 a b x (i : Int) true) (fun k => ?_) (Ev.step (f := fun _ => some (0, false)) (fun k => ?_) (Ev.now _)), Ev.step (f := fun _ => some (0, false)) (fun k => ?_) (Ev.now _)⟩
        · simp only [spec_TokenBits.l0]
          rw [if_pos g1, if_pos g2, if_pos q, if_pos g3, z]; rfl
        · simp [spec_TokenBits.j2]
        · simp only [impl_TokenBits.l0]
          rw [if_pos g1, if_pos g2, if_pos g1, if_pos q, if_pos g3, if_pos z]
      · refine TwoB.step (fun k => ?_) (fun k => ?_) hj2
        · simp only [spec_TokenBits.l0]
          rw [if_pos g1, if_pos g2, if_pos q, if_pos g3, show (rd x1 (i : Int) == 0) = false by simpa using z]
        · simp only [impl_TokenBits.l0]
          rw [if_pos g1, if_pos g2, if_pos g1, if_pos q, if_pos g3, if_neg z, hm, s2]
          simp only [Option.bind_some]
          rw [we]
    · refine TwoB.step (fun k => ?_) (fun k => ?_) hj2
      · simp only [spec_TokenBits.l0]
        rw [if_pos g1, if_pos g2, if_neg q]
      · simp only [impl_TokenBits.l0]
        rw [if_pos g1, if_pos g2, if_pos g1, if_neg q, hm, s2]
        simp only [Option.bind_some]
        rw [if_pos g3, we]
theorem bitsBad_tell (x : Int) : impl_TokenBits_1.f x = some (badLen x) := by
  unfold impl_TokenBits_1.f impl_isLen.f badLen
  rw [in_tell]; rfl
theorem badLens_any (l : List Int) (h1 : 1 ≤ l.length) (h2 : l.length ≤ 300) : decide (badLens l) = l.any badLen := by
  rw [Bool.eq_iff_iff, decide_eq_true_eq]
  unfold badLens
  constructor
  · intro h; exact h.resolve_left (fun q => q ⟨h1, h2⟩)
  · intro h; exact .inr h
theorem tokenBits_both (l : List S96) (hl : l.length ≤ 1048576) (x1 x2 : List Int) (h1 : x1.length ≤ 1048576) (h2 : x2.length ≤ 1048576) : TwoB (fun k => spec_TokenBits.f k l x1 x2) (fun k => impl_TokenBits.f k l x1 x2) := by
  obtain ⟨a, b, c, ha, hb, s, i, hc⟩ := tally_both l hl
  have bad : ∀ (a b : List Int), TwoB (fun k => spec_TokenBits.j0 k x1 x2 a b true) (fun k => impl_TokenBits.j0 k x1 x2 a b true) := fun a b =>
    ⟨(0, false), Ev.step (f := fun _ => some (0, false)) (fun k => by simp [spec_TokenBits.j0]) (Ev.now _), Ev.step (f := fun _ => some (0, false)) (fun k => by simp [impl_TokenBits.j0]) (Ev.now _)⟩
  obtain ⟨R, p, q⟩ := bad a b
  unfold spec_TokenBits.f impl_TokenBits.f
  cases c with
  | false => exact ⟨R, Ev.bind s (Ev.ifF (show ¬ false = true by decide) p), Ev.bind i (Ev.ifF (show ¬ false = true by decide) q)⟩
  | true =>
  by_cases l1 : (x1.length : Int) = 269
  · by_cases l2 : (x2.length : Int) = 16
    · have b1 := specBad_ev x1 h1
      have b2 := specBad_ev x2 h2
      rw [badLens_any x1 (by omega) (by omega)] at b1
      rw [badLens_any x2 (by omega) (by omega)] at b2
      have c1 := containsFunc_TokenBits badLen x1 (by omega) (fun x _ => bitsBad_tell x) 0
      have c2 := containsFunc_TokenBits badLen x2 (by omega) (fun x _ => bitsBad_tell x) 0
      by_cases z1 : x1.any badLen = true
      · exact ⟨R, Ev.bind s (Ev.ifT rfl (Ev.ifT l1 (Ev.ifT l2 (Ev.bind b1 (Ev.ifT z1 p))))), Ev.bind i (Ev.ifT rfl (Ev.ifT l1 (Ev.ifT l2 (Ev.bind c1 (Ev.ifT z1 q)))))⟩
      by_cases z2 : x2.any badLen = true
      · rw [z2] at b2 c2
        exact ⟨R, Ev.bind s (Ev.ifT rfl (Ev.ifT l1 (Ev.ifT l2 (Ev.bind b1 (Ev.ifF z1 (Ev.bind b2 p)))))), Ev.bind i (Ev.ifT rfl (Ev.ifT l1 (Ev.ifT l2 (Ev.bind c1 (Ev.ifF z1 (Ev.bind c2 q))))))⟩
      rw [Bool.eq_false_iff.2 z2] at b2 c2
      obtain ⟨R2, p2, q2⟩ := bits_l0 x1 x2 a b (by omega) (hc rfl).1 (any_bad (Bool.eq_false_iff.2 z1)) (by omega) (hc rfl).2 (any_bad (Bool.eq_false_iff.2 z2)) 269 0 0 (by omega) (by omega)
      exact ⟨R2, Ev.bind s (Ev.ifT rfl (Ev.ifT l1 (Ev.ifT l2 (Ev.bind b1 (Ev.ifF z1 (Ev.bind b2 (Ev.step (fun k => by simp [spec_TokenBits.j0]) p2))))))), Ev.bind i (Ev.ifT rfl (Ev.ifT l1 (Ev.ifT l2 (Ev.bind c1 (Ev.ifF z1 (Ev.bind c2 (Ev.step (fun k => by simp [impl_TokenBits.j0]) q2)))))))⟩
    · exact ⟨R, Ev.bind s (Ev.ifT rfl (Ev.ifT l1 (Ev.ifF l2 p))), Ev.bind i (Ev.ifT rfl (Ev.ifT l1 (Ev.ifF l2 q)))⟩
  · exact ⟨R, Ev.bind s (Ev.ifT rfl (Ev.ifF l1 p)), Ev.bind i (Ev.ifT rfl (Ev.ifF l1 q))⟩

theorem FnExactTokenBits : ∀ (l0 : List S98) (l1 : List Int) (l2 : List Int), l0.length ≤ maxLen → (∀ t ∈ l0, (Lit.int .i64 t.f0).wf = true ∧ (Lit.int .i64 t.f1).wf = true ∧ (Lit.int .i64 t.f2).wf = true ∧ (Lit.int .i64 t.f3).wf = true) → l1.length ≤ maxLen → l1.length * 8 ≤ 140737488351232 → (∀ x ∈ l1, (Lit.int .i64 x).wf = true) → l2.length ≤ maxLen → l2.length * 8 ≤ 140737488351232 → (∀ x ∈ l2, (Lit.int .i64 x).wf = true) → ∃ k, laws_FnExactTokenBits.f k l0 l1 l2 = some true := by
  intro l x1 x2 hm _ _ _ _ _ _ _
  unfold maxLen at hm
  refine Ev.rounds ?_
  unfold laws_FnExactTokenBits.f
  by_cases h1 : (x1.length : Int) > 1048576
  · exact Ev.ifT h1 (Ev.now _)
  by_cases h2 : (x2.length : Int) > 1048576
  · exact Ev.ifF h1 (Ev.ifT h2 (Ev.now _))
  refine Ev.ifF h1 (Ev.ifF h2 (Ev.bindc (szTokenS_tell l 1048576 hm (by omega) (by omega)) ?_))
  by_cases hl : (1048576 : Int) < (l.length : Int)
  · rw [if_pos hl]; exact Ev.ifT (by omega) (Ev.now _)
  rw [if_neg hl]
  have t := toTokenS_ev l (by omega)
  have hlen : (l.map convT).length = l.length := by simp
  have et := eqTokenS_ev (l.map convT) (by omega)
  have t1 := toIntS_ev x1 (by omega)
  have t2 := toIntS_ev x2 (by omega)
  have e1 := eqIntS_ev x1 (by omega)
  have e2 := eqIntS_ev x2 (by omega)
  obtain ⟨R, s, i⟩ := tokenBits_both (l.map convT) (by omega) x1 x2 (by omega) (by omega)
  refine Ev.ifF (by omega) (Ev.bind t (Ev.bind t1 (Ev.bind t2 (Ev.bind s (Ev.bind t (Ev.bind t1 (Ev.bind t2 (Ev.bind i (Ev.ifT rfl ?_)))))))))
  simp only [bne_self_eq_false]
  exact Ev.step (fun _ => laws_FnExactTokenBits.j0.eq_2 _ _ _ _ _ _ _ _) (Ev.ifF (by decide) (Ev.bind t (Ev.bind et (Ev.ifT rfl (Ev.bind t1 (Ev.bind e1 (Ev.ifT rfl (Ev.bind t2 (Ev.bind e2 (Ev.ifT rfl (Ev.now _)))))))))))

end Go.Proofs.Ytdilibnfihcmkab.Pure
