/- The plain law of FnExactTokens, over numbers and lists alone: what the printed functions answer is true for all arguments. Conditions: those of the arguments' kinds. -/
import Derived.Test.YtndoapmehgfdkacQFnExactTokensx5
import Derived.Test.YtndoapmehgfdkacAid
set_option linter.unusedVariables false
set_option linter.unusedSimpArgs false
namespace Go.Proofs.Ytndoapmehgfdkac.Pure
open Go.RowKit Go.Proofs.Ytndoapmehgfdkac.Aid Go.Proofs.Ytndoapmehgfdkac.QFnExactTokens Go.Proofs.YtndoapmehgfdkacW.PrintWords Go.Proofs.YtndoapmehgfdkacW.PrintLast Go.Proofs.YtndoapmehgfdkacW.PrintMore
theorem in_tell (a b c : Int) : impl_in.f a b c = some (decide (b ≤ a ∧ a ≤ c)) := by
  unfold impl_in.f
  by_cases h : a ≥ b
  · rw [if_pos h]; congr 1; rw [Bool.eq_iff_iff]; simp only [decide_eq_true_eq]; omega
  · rw [if_neg h]; congr 1; symm; rw [decide_eq_false_iff_not]; omega

theorem l1In_tell (a b c : Int) : spec_l1In.f a b c = some (decide (b ≤ a ∧ a ≤ c)) := by
  unfold spec_l1In.f
  by_cases h : a ≥ b
  · rw [if_pos h]; congr 1; rw [Bool.eq_iff_iff]; simp only [decide_eq_true_eq]; omega
  · rw [if_neg h]; congr 1; symm; rw [decide_eq_false_iff_not]; omega

theorem toByteS_l0 (l : List Int) (hl : l.length ≤ 140737488351232) : ∀ (d : Nat) (x : List Int) (i : Nat), x.length = l.length → i + d = l.length → x.take i = l.take i → Ev (fun k => laws_toByteS.l0 k l x (i : Int)) l
  | 0, x, i, hx, hi, ht => by
    refine Ev.step (f := fun _ => some l) (fun k => ?_) (Ev.now _)
    simp only [laws_toByteS.l0]
    rw [if_neg (by omega)]
    congr 1
    rw [List.take_of_length_le (by omega), List.take_of_length_le (by omega)] at ht
    exact ht
  | d + 1, x, i, hx, hi, ht => by
    have ih := toByteS_l0 l hl d (x.set i (rd l i)) (i + 1) (by simpa using hx) (by omega) (by
      rw [List.take_succ_eq_append_getElem (by simp; omega), List.take_succ_eq_append_getElem (by omega), List.take_set_of_le (by omega), ht]
      simp [rd, List.getElem?_eq_getElem (show i < l.length by omega)])
    refine Ev.step (fun k => ?_) ih
    simp only [laws_toByteS.l0]
    rw [if_pos (by omega), if_pos (by omega), if_pos (by omega), wrap64_id (by omega) (by omega)]
    simp
theorem toByteS_ev (l : List Int) (hl : l.length ≤ 140737488351232) : Ev (fun k => laws_toByteS.f k l) l := by
  refine Ev.congr (fun k => ?_) (toByteS_l0 l hl l.length (List.replicate l.length 0) 0 (by simp) (by simp) (by simp))
  simp only [laws_toByteS.f]
  rw [if_pos (by omega), if_pos (by omega)]
  simp

theorem eqByteS_l0 (l : List Int) (hl : l.length ≤ 140737488351232) : ∀ (d : Nat) (i : Nat), i + d = l.length → Ev (fun k => laws_eqByteS.l0 k l l (i : Int)) true
  | 0, i, hi => by
    refine Ev.step (f := fun _ => some true) (fun k => ?_) (Ev.now _)
    simp only [laws_eqByteS.l0]
    rw [if_neg (by omega)]
  | d + 1, i, hi => by
    have ih := eqByteS_l0 l hl d (i + 1) (by omega)
    refine Ev.step (fun k => ?_) ih
    simp only [laws_eqByteS.l0]
    rw [if_pos (by omega), if_pos (by omega), if_pos (by omega), wrap64_id (by omega) (by omega)]
    simp
theorem eqByteS_ev (l : List Int) (hl : l.length ≤ 140737488351232) : Ev (fun k => laws_eqByteS.f k l l) true := by
  refine Ev.congr (fun k => ?_) (eqByteS_l0 l hl l.length 0 (by simp))
  simp only [laws_eqByteS.f]
  simp

def marksB : Int → List Int → List Int
  | _, [] => []
  | c, _ :: r => c % 256 :: marksB (c + 1) r
theorem marksB_length : ∀ (c : Int) (l : List Int), (marksB c l).length = l.length
  | _, [] => rfl
  | c, _ :: r => by simp [marksB, marksB_length (c + 1) r]
theorem marksB_again : ∀ (c : Int) (l : List Int), marksB c (marksB c l) = marksB c l
  | _, [] => rfl
  | c, _ :: r => by simp [marksB, marksB_again (c + 1) r]
theorem markByteS_l0 : ∀ (d : Nat) (x : List Int) (c : Int) (i : Nat), x.length ≤ 140737488355328 → i + d = x.length → 0 ≤ c → c + d ≤ 4611686018427387904 →
    Ev (fun k => laws_markByteS.l0 k x c (i : Int)) (c + d, x.take i ++ marksB c (x.drop i))
  | 0, x, c, i, hl, hi, hc, hc1 => by
    refine Ev.step (f := fun _ => some (c, x)) (fun k => ?_) (Ev.const ?_)
    · simp only [laws_markByteS.l0]
      rw [if_neg (by omega)]
    · rw [List.take_of_length_le (by omega), List.drop_of_length_le (by omega)]
      simp [marksB]
  | d + 1, x, c, i, hl, hi, hc, hc1 => by
    have ih := markByteS_l0 d (x.set i (c % 256)) (c + 1) (i + 1) (by simpa using hl) (by simp; omega) (by omega) (by omega)
    have e1 : (x.set i (c % 256)).take (i + 1) = x.take i ++ [c % 256] := by
      rw [List.take_succ_eq_append_getElem (by simp; omega), List.take_set_of_le (by omega)]; simp
    have e2 : (x.set i (c % 256)).drop (i + 1) = x.drop (i + 1) := by rw [List.drop_set]; simp
    have e3 : x.drop i = x[i]'(by omega) :: x.drop (i + 1) := List.drop_eq_getElem_cons (by omega)
    rw [e1, e2] at ih
    have e4 : (c + ((d + 1 : Nat) : Int), x.take i ++ marksB c (x.drop i)) = (c + 1 + (d : Int), x.take i ++ [c % 256] ++ marksB (c + 1) (x.drop (i + 1))) := by
      rw [e3]; simp [marksB]; omega
    rw [e4]
    refine Ev.step (fun k => ?_) ih
    simp only [laws_markByteS.l0]
    rw [if_pos (by omega), if_pos (by omega), wrap64_id (by omega) (by omega), wrap64_id (by omega) (by omega)]
    simp
theorem markByteS_ev (x : List Int) (c : Int) (hl : x.length ≤ 140737488355328) (hc : 0 ≤ c) (hc1 : c + x.length ≤ 4611686018427387904) : Ev (fun k => laws_markByteS.f k x c) (c + x.length, marksB c x) := by
  have := markByteS_l0 x.length x c 0 hl (by omega) hc hc1
  simpa [laws_markByteS.f] using this

/-- What Longest may tell at a place: nothing, or a match that is there. -/
def Match (l : List Int) (a : Nat) (b f : Int) : Prop :=
  (b = 0 ∧ f = 0) ∨ (3 ≤ b ∧ b ≤ 66 ∧ 1 ≤ f ∧ f ≤ 256 ∧ f ≤ (a : Int) ∧ (a : Int) + b ≤ l.length ∧ ∀ j : Nat, (j : Int) < b → rd l ((a : Int) + j) = rd l ((a : Int) + j - f))
def Both (l : List Int) (a : Nat) (b f x : Int) : Prop :=
  ∃ r : Int × Int, Match l a r.1 r.2 ∧ Ev (fun k => spec_Longest.l0 k l (a : Int) b f x) r ∧ Ev (fun k => impl_Longest.l0 k l (a : Int) b f x) r
theorem longest_l1 (l : List Int) (hl : l.length ≤ 1024) (a : Nat) (ha : a < l.length) (x : Nat) (hx : 1 ≤ x) (hxa : x ≤ a) (hx2 : x ≤ 256) (next : ∀ b f : Int, Match l a b f → Both l a b f ((x + 1 : Nat) : Int)) :
    ∀ (d n : Nat), n + d = 66 → ∀ (b f : Int), Match l a b f → (∀ j : Nat, j < n → rd l ((a : Int) + j) = rd l ((a : Int) + j - x)) → (a : Int) + n ≤ l.length →
      ∃ r : Int × Int, Match l a r.1 r.2 ∧ Ev (fun k => spec_Longest.l1 k l (a : Int) b f (x : Int) (n : Int)) r ∧ Ev (fun k => impl_Longest.l1 k l (a : Int) b f (x : Int) (n : Int)) r := by
  -- the end of the inner loop
  have stop : ∀ (n : Nat) (b f : Int), n ≤ 66 → Match l a b f → (∀ j : Nat, j < n → rd l ((a : Int) + j) = rd l ((a : Int) + j - x)) → (a : Int) + n ≤ l.length →
      ∃ r : Int × Int, Match l a r.1 r.2 ∧ Ev (fun k => if (n : Int) ≥ 3 then (if (n : Int) > b then spec_Longest.l0 k l (a : Int) n x (wrap64 ((x : Int) + 1)) else spec_Longest.l0 k l (a : Int) b f (wrap64 ((x : Int) + 1))) else spec_Longest.l0 k l (a : Int) b f (wrap64 ((x : Int) + 1))) r ∧
        Ev (fun k => if (n : Int) ≥ 3 then (if (n : Int) > b then impl_Longest.l0 k l (a : Int) n x (wrap64 ((x : Int) + 1)) else impl_Longest.l0 k l (a : Int) b f (wrap64 ((x : Int) + 1))) else impl_Longest.l0 k l (a : Int) b f (wrap64 ((x : Int) + 1))) r := by
    intro n b f hn hm he hle
    by_cases h : (n : Int) ≥ 3 ∧ (n : Int) > b
    · obtain ⟨r, h1, h2, h3⟩ := next n x (.inr ⟨h.1, by omega, by omega, by omega, by omega, hle, fun j hj => he j (by omega)⟩)
      rw [wrap64_succ (by omega)]
      exact ⟨r, h1, Ev.ifT h.1 (Ev.ifT h.2 h2), Ev.ifT h.1 (Ev.ifT h.2 h3)⟩
    · obtain ⟨r, h1, h2, h3⟩ := next b f hm
      rw [wrap64_succ (by omega)]
      by_cases h5 : (n : Int) ≥ 3
      · have h6 : ¬ (n : Int) > b := fun q => h ⟨h5, q⟩
        exact ⟨r, h1, Ev.ifT h5 (Ev.ifF h6 h2), Ev.ifT h5 (Ev.ifF h6 h3)⟩
      · exact ⟨r, h1, Ev.ifF h5 h2, Ev.ifF h5 h3⟩
  intro d
  induction d with
  | zero =>
    intro n hn b f hm he hle
    obtain ⟨r, h1, h2, h3⟩ := stop n b f (by omega) hm he hle
    have g : ¬ (n : Int) < 66 := by omega
    refine ⟨r, h1, Ev.step (fun k => ?_) h2, Ev.step (fun k => ?_) h3⟩
    · simp only [spec_Longest.l1]; rw [if_neg g]
    · simp only [impl_Longest.l1]; rw [if_neg g]
  | succ d ih =>
    intro n hn b f hm he hle
    have g1 : (n : Int) < 66 := by omega
    have w1 : wrap64 ((a : Int) + n) = (a : Int) + n := wrap64_id (by omega) (by omega)
    have w2 : wrap64 ((a : Int) + n - x) = (a : Int) + n - x := wrap64_id (by clear w1; omega) (by clear w1; omega)
    by_cases hb : (a : Int) + n < l.length
    · have g2 : (0 : Int) ≤ (a : Int) + n := by clear w1 w2; omega
      have g3 : (0 : Int) ≤ (a : Int) + n - x := by clear w1 w2; omega
      have g4 : (a : Int) + n - x < (l.length : Int) := by clear w1 w2; omega
      by_cases hq : rd l ((a : Int) + n) = rd l ((a : Int) + n - x)
      · have w3 : wrap64 ((n : Int) + 1) = ((n + 1 : Nat) : Int) := wrap64_succ (by clear w1 w2; omega)
        obtain ⟨r, h1, h2, h3⟩ := ih (n + 1) (by clear w1 w2 w3; omega) b f hm (fun j hj => by
          by_cases hjn : j < n
          · exact he j hjn
          · obtain rfl : j = n := by clear w1 w2 w3; omega
            exact hq) (by clear w1 w2 w3; omega)
        refine ⟨r, h1, Ev.step (fun k => ?_) h2, Ev.step (fun k => ?_) h3⟩
        · simp only [spec_Longest.l1]; rw [if_pos g1, w1, w2, if_pos hb, if_pos g2, if_pos g3, if_pos g4, if_pos hq, w3]
        · simp only [impl_Longest.l1]; rw [if_pos g1, w1, w2, if_pos hb, if_pos g2, if_pos g3, if_pos g4, if_pos hq, w3]
      · obtain ⟨r, h1, h2, h3⟩ := stop n b f (by clear w1 w2; omega) hm he hle
        refine ⟨r, h1, Ev.step (fun k => ?_) h2, Ev.step (fun k => ?_) h3⟩
        · simp only [spec_Longest.l1]; rw [if_pos g1, w1, w2, if_pos hb, if_pos g2, if_pos g3, if_pos g4, if_neg hq]
        · simp only [impl_Longest.l1]; rw [if_pos g1, w1, w2, if_pos hb, if_pos g2, if_pos g3, if_pos g4, if_neg hq]
    · obtain ⟨r, h1, h2, h3⟩ := stop n b f (by clear w1 w2; omega) hm he hle
      refine ⟨r, h1, Ev.step (fun k => ?_) h2, Ev.step (fun k => ?_) h3⟩
      · simp only [spec_Longest.l1]; rw [if_pos g1, w1, if_neg hb]
      · simp only [impl_Longest.l1]; rw [if_pos g1, w1, if_neg hb]
theorem longest_l0 (l : List Int) (hl : l.length ≤ 1024) (a : Nat) (ha : a < l.length) : ∀ (d x : Nat), 1 ≤ x → min a 256 + 1 ≤ x + d → ∀ b f : Int, Match l a b f → Both l a b f (x : Int)
  | 0, x, hx, hd, b, f, hm => by
    have g : ¬ ((x : Int) ≤ (a : Int) ∧ (x : Int) ≤ 256) := by omega
    have g2 : ¬ (x : Int) ≤ mn (a : Int) 256 := by unfold mn; split <;> omega
    refine ⟨(b, f), hm, ?_, ?_⟩
    · have j : Ev (fun k => spec_Longest.j2 k l (a : Int) b f (x : Int) false) (b, f) := Ev.step (f := fun _ => some (b, f)) (fun k => by simp [spec_Longest.j2]) (Ev.now _)
      refine Ev.step (f := fun k => spec_Longest.j2 k l (a : Int) b f (x : Int) false) (fun k => ?_) j
      simp only [spec_Longest.l0]
      by_cases h1 : (x : Int) ≤ (a : Int)
      · rw [if_pos h1, decide_eq_false (fun h => g ⟨h1, h⟩)]
      · rw [if_neg h1]
    · refine Ev.step (f := fun _ => some (b, f)) (fun k => ?_) (Ev.now _)
      simp only [impl_Longest.l0]
      rw [if_neg g2]
  | d + 1, x, hx, hd, b, f, hm => by
    by_cases g : x ≤ a ∧ x ≤ 256
    · have g1 : (x : Int) ≤ (a : Int) := by omega
      have g2 : (x : Int) ≤ 256 := by omega
      have g3 : (x : Int) ≤ mn (a : Int) 256 := by unfold mn; split <;> omega
      obtain ⟨r, h1, h2, h3⟩ := longest_l1 l hl a ha x hx g.1 g.2 (fun b f hm => longest_l0 l hl a ha d (x + 1) (by omega) (by omega) b f hm) 66 0 (by omega) b f hm (fun j hj => by omega) (by omega)
      refine ⟨r, h1, ?_, ?_⟩
      · refine Ev.step (f := fun k => spec_Longest.j2 k l (a : Int) b f (x : Int) true) (fun k => ?_) (Ev.step (fun k => ?_) h2)
        · simp only [spec_Longest.l0]
          rw [if_pos g1, decide_eq_true g2]
        · simp [spec_Longest.j2]
      · refine Ev.step (fun k => ?_) h3
        simp only [impl_Longest.l0]
        rw [if_pos g3]; simp
    · exact longest_l0 l hl a ha 0 x hx (by omega) b f hm
theorem longest_same (l : List Int) (hl : l.length ≤ 140737488351232) (a : Int) (ha : -9223372036854775808 ≤ a ∧ a < 9223372036854775808) :
    ∃ r : Int × Int, (r = (0, 0) ∨ (0 ≤ a ∧ a < l.length ∧ l.length ≤ 1024 ∧ Match l a.toNat r.1 r.2)) ∧ Ev (fun k => spec_Longest.f k l a) r ∧ Ev (fun k => impl_Longest.f k l a) r := by
  unfold spec_Longest.f impl_Longest.f
  rw [l1In_tell, in_tell, wrap64_id (n := (l.length : Int) - 1) (by omega) (by omega)]
  simp only [Option.bind_some]
  have bs : Ev (fun k => spec_Longest.j0 k l a true) (0, 0) := Ev.step (f := fun _ => some (0, 0)) (fun k => by simp [spec_Longest.j0]) (Ev.now _)
  have bi : Ev (fun k => impl_Longest.j0 k l a true) (0, 0) := Ev.step (f := fun _ => some (0, 0)) (fun k => by simp [impl_Longest.j0]) (Ev.now _)
  by_cases h1 : (l.length : Int) > 1024
  · refine ⟨(0, 0), .inl rfl, Ev.ifT h1 bs, ?_⟩
    simp only [decide_eq_true h1]
    split
    · exact bi
    · exact bi
  · simp only [decide_eq_false h1]
    by_cases h2 : 0 ≤ a ∧ a ≤ (l.length : Int) - 1
    · obtain ⟨m, rfl⟩ := Int.eq_ofNat_of_zero_le h2.1
      obtain ⟨r, q1, q2, q3⟩ := longest_l0 l (by omega) m (by omega) 257 1 (by omega) (by omega) 0 0 (.inl ⟨rfl, rfl⟩)
      refine ⟨r, .inr ⟨h2.1, by omega, by omega, by simpa using q1⟩, Ev.ifF h1 ?_, ?_⟩
      · simp only [decide_eq_true h2, Bool.not_true]
        exact Ev.step (fun k => by simp [spec_Longest.j0]) q2
      · simp only [decide_eq_true h2, if_true]
        exact Ev.step (fun k => by simp [impl_Longest.j0]) q3
    · refine ⟨(0, 0), .inl rfl, Ev.ifF h1 ?_, ?_⟩
      · simp only [decide_eq_false h2, Bool.not_false]; exact bs
      · simp only [decide_eq_false h2]; exact bi

/-- Tokens' lists: read, held, marked. -/
theorem tok_get (l : List S79) (i : Nat) (h : i < l.length) : rd_T79 l (i : Int) = l[i] := by simp [rd_T79, List.getElem?_eq_getElem h]
theorem tok_eta (x : S79) : (⟨x.f0, x.f1, x.f2, x.f3⟩ : S79) = x := rfl
theorem eqTokenS_l0 (l : List S79) (hl : l.length ≤ 1048576) : ∀ (d : Nat) (i : Nat), i + d = l.length → Ev (fun k => laws_eqTokenS.l0 k l l (i : Int)) true
  | 0, i, hi => by
    refine Ev.step (f := fun _ => some true) (fun k => ?_) (Ev.now _)
    simp only [laws_eqTokenS.l0]
    rw [if_neg (by omega)]
  | d + 1, i, hi => by
    have ih := eqTokenS_l0 l hl d (i + 1) (by omega)
    refine Ev.step (fun k => ?_) ih
    simp only [laws_eqTokenS.l0, laws_eqToken.f]
    rw [if_pos (by omega), if_pos (by omega), if_pos (by omega), wrap64_succ (by omega)]
    simp
theorem eqTokenS_ev (l : List S79) (hl : l.length ≤ 1048576) : Ev (fun k => laws_eqTokenS.f k l l) true := by
  refine Ev.congr (fun k => ?_) (eqTokenS_l0 l hl l.length 0 (by simp))
  simp only [laws_eqTokenS.f]
  simp
def marksT : Int → List S79 → List S79
  | _, [] => []
  | c, _ :: r => ⟨c, c + 1, c + 2, c + 3⟩ :: marksT (c + 4) r
theorem marksT_length : ∀ (c : Int) (l : List S79), (marksT c l).length = l.length
  | _, [] => rfl
  | c, _ :: r => by simp [marksT, marksT_length (c + 4) r]
theorem marksT_again : ∀ (c : Int) (l : List S79), marksT c (marksT c l) = marksT c l
  | _, [] => rfl
  | c, _ :: r => by simp [marksT, marksT_again (c + 4) r]
theorem markTokenS_l0 : ∀ (d : Nat) (x : List S79) (c : Int) (i : Nat), x.length ≤ 1048576 → i + d = x.length → 0 ≤ c → c + 4 * d ≤ 4611686018427387904 →
    Ev (fun k => laws_markTokenS.l0 k x c (i : Int)) (c + 4 * d, x.take i ++ marksT c (x.drop i))
  | 0, x, c, i, hl, hi, hc, hc1 => by
    refine Ev.step (f := fun _ => some (c, x)) (fun k => ?_) (Ev.const ?_)
    · simp only [laws_markTokenS.l0]
      rw [if_neg (by omega)]
    · rw [List.take_of_length_le (by omega), List.drop_of_length_le (by omega)]
      simp [marksT]
  | d + 1, x, c, i, hl, hi, hc, hc1 => by
    have ih := markTokenS_l0 d (x.set i ⟨c, c + 1, c + 2, c + 3⟩) (c + 4) (i + 1) (by simpa using hl) (by simp; omega) (by omega) (by omega)
    have e1 : (x.set i (⟨c, c + 1, c + 2, c + 3⟩ : S79)).take (i + 1) = x.take i ++ [⟨c, c + 1, c + 2, c + 3⟩] := by
      rw [List.take_succ_eq_append_getElem (by simp; omega), List.take_set_of_le (by omega)]; simp
    have e2 : (x.set i (⟨c, c + 1, c + 2, c + 3⟩ : S79)).drop (i + 1) = x.drop (i + 1) := by rw [List.drop_set]; simp
    have e3 : x.drop i = x[i]'(by omega) :: x.drop (i + 1) := List.drop_eq_getElem_cons (by omega)
    rw [e1, e2] at ih
    have e4 : (c + 4 * ((d + 1 : Nat) : Int), x.take i ++ marksT c (x.drop i)) = (c + 4 + 4 * (d : Int), x.take i ++ [⟨c, c + 1, c + 2, c + 3⟩] ++ marksT (c + 4) (x.drop (i + 1))) := by
      rw [e3]; simp [marksT]; omega
    rw [e4]
    refine Ev.step (fun k => ?_) ih
    have w1 : wrap64 (c + 1) = c + 1 := wrap64_id (by omega) (by omega)
    have w2 : wrap64 (c + 1 + 1) = c + 2 := by rw [wrap64_id (by clear w1; omega) (by clear w1; omega)]; clear w1; omega
    have w3 : wrap64 (c + 2 + 1) = c + 3 := by rw [wrap64_id (by clear w1 w2; omega) (by clear w1 w2; omega)]; clear w1 w2; omega
    have w4 : wrap64 (c + 3 + 1) = c + 4 := by rw [wrap64_id (by clear w1 w2 w3; omega) (by clear w1 w2 w3; omega)]; clear w1 w2 w3; omega
    have w5 : wrap64 ((i : Int) + 1) = ((i + 1 : Nat) : Int) := wrap64_succ (by clear w1 w2 w3 w4; omega)
    have g1 : (i : Int) < (x.length : Int) := by clear w1 w2 w3 w4 w5; omega
    have g2 : (0 : Int) ≤ (i : Int) := by clear w1 w2 w3 w4 w5; omega
    have hi2 : i < x.length := by clear w1 w2 w3 w4 w5; omega
    simp only [laws_markTokenS.l0]
    rw [if_pos g1, if_pos g2, w1, w2, w3, w4, w5]
    simp only [Option.bind_some, Int.toNat_natCast, List.set_set]
    congr 1
    simp [rd_T79, hi2]
theorem markTokenS_ev (x : List S79) (c : Int) (hl : x.length ≤ 1048576) (hc : 0 ≤ c) (hc1 : c ≤ 1000000000000000000) : Ev (fun k => laws_markTokenS.f k x c) (c + 4 * x.length, marksT c x) := by
  have := markTokenS_l0 x.length x c 0 hl (by omega) hc (by omega)
  simpa [laws_markTokenS.f] using this
theorem heldTokenS_l0 : ∀ (d : Nat) (x : List S79) (c : Int) (i : Nat), x.length ≤ 1048576 → i + d = x.length → 0 ≤ c → c + 4 * d ≤ 4611686018427387904 → x.drop i = marksT c (x.drop i) →
    Ev (fun k => laws_heldTokenS.l0 k x c (i : Int)) (c + 4 * d)
  | 0, x, c, i, hl, hi, hc, hc1, hm => by
    refine Ev.step (f := fun _ => some c) (fun k => ?_) (Ev.const (by simp))
    simp only [laws_heldTokenS.l0]
    rw [if_neg (by omega)]
  | d + 1, x, c, i, hl, hi, hc, hc1, hm => by
    have e3 : x.drop i = x[i]'(by omega) :: x.drop (i + 1) := List.drop_eq_getElem_cons (by omega)
    rw [e3] at hm
    simp only [marksT, List.cons.injEq] at hm
    have ih := heldTokenS_l0 d x (c + 4) (i + 1) hl (by omega) (by omega) (by omega) hm.2
    have e4 : c + 4 * ((d + 1 : Nat) : Int) = c + 4 + 4 * (d : Int) := by omega
    rw [e4]
    refine Ev.step (fun k => ?_) ih
    have w1 : wrap64 (c + 1) = c + 1 := wrap64_id (by omega) (by omega)
    have w2 : wrap64 (c + 1 + 1) = c + 2 := by rw [wrap64_id (by clear w1; omega) (by clear w1; omega)]; clear w1; omega
    have w3 : wrap64 (c + 2 + 1) = c + 3 := by rw [wrap64_id (by clear w1 w2; omega) (by clear w1 w2; omega)]; clear w1 w2; omega
    have w4 : wrap64 (c + 3 + 1) = c + 4 := by rw [wrap64_id (by clear w1 w2 w3; omega) (by clear w1 w2 w3; omega)]; clear w1 w2 w3; omega
    have w5 : wrap64 ((i : Int) + 1) = ((i + 1 : Nat) : Int) := wrap64_succ (by clear w1 w2 w3 w4; omega)
    have g1 : (i : Int) < (x.length : Int) := by clear w1 w2 w3 w4 w5; omega
    have g2 : (0 : Int) ≤ (i : Int) := by clear w1 w2 w3 w4 w5; omega
    have ex : rd_T79 x (i : Int) = ⟨c, c + 1, c + 2, c + 3⟩ := by rw [tok_get x i (by clear w1 w2 w3 w4 w5; omega)]; exact hm.1
    simp only [laws_heldTokenS.l0]
    rw [if_pos g1, if_pos g2, w1, w2, w3, w4, w5, ex]
    simp
theorem heldTokenS_ev (x : List S79) (c : Int) (hl : x.length ≤ 1048576) (hc : 0 ≤ c) (hc1 : c ≤ 1000000000000000000) : Ev (fun k => laws_heldTokenS.f k (marksT c x) c) (c + 4 * x.length) := by
  have := heldTokenS_l0 x.length (marksT c x) c 0 (by rw [marksT_length]; exact hl) (by rw [marksT_length]; omega) hc (by omega) (by simp [marksT_again])
  simpa [laws_heldTokenS.f] using this

/-- What the tokens say: literals, and copies of what stands ahead. -/
inductive Makes (l : List Int) : Nat → List S79 → Prop
  | done (a : Nat) : l.length ≤ a → Makes l a []
  | byte (a : Nat) (r : List S79) : a < l.length → Makes l (a + 1) r → Makes l a (⟨1, rd l (a : Int), 0, 0⟩ :: r)
  | copy (a n f : Nat) (r : List S79) : 3 ≤ n → n ≤ 66 → 1 ≤ f → f ≤ 256 → f ≤ a → a + n ≤ l.length → (∀ j : Nat, j < n → rd l ((a : Int) + j) = rd l ((a : Int) + j - f)) → Makes l (a + n) r → Makes l a (⟨2, 0, (n : Int), (f : Int)⟩ :: r)
theorem tokens_go (l : List Int) (lazy : Bool) (h8 : ∀ x ∈ l, 0 ≤ x ∧ x < 256) (hl : l.length ≤ 1024) : ∀ (d a : Nat) (o : List S79), l.length ≤ a + d → a ≤ l.length → o.length ≤ a →
    ∃ r, r.length ≤ l.length - a ∧ Makes l a r ∧ Ev (fun k => spec_Tokens.l0 k l lazy o (a : Int)) (o ++ r) ∧ Ev (fun k => impl_Tokens.l0 k l lazy o (a : Int)) (o ++ r)
  | 0, a, o, hd, ha, ho => by
    refine ⟨[], by simp, Makes.done a (by omega), ?_, ?_⟩
    · rw [List.append_nil]
      refine Ev.step (f := fun _ => some o) (fun k => ?_) (Ev.now _)
      simp only [spec_Tokens.l0]
      rw [if_neg (by omega)]
    · rw [List.append_nil]
      refine Ev.step (f := fun _ => some o) (fun k => ?_) (Ev.now _)
      simp only [impl_Tokens.l0]
      rw [if_neg (by omega)]
  | d + 1, a, o, hd, ha, ho => by
    by_cases hal : l.length ≤ a
    · exact tokens_go l lazy h8 hl 0 a o (by omega) ha ho
    have hlt : a < l.length := by omega
    have g1 : (a : Int) < (l.length : Int) := by omega
    have g2 : (0 : Int) ≤ (a : Int) := by omega
    have ho2 : o.length < 4398046511104 := by omega
    obtain ⟨p, hp, ls, li⟩ := longest_same l (by omega) (a : Int) (by omega)
    obtain ⟨q, _, ls2, li2⟩ := longest_same l (by omega) ((a : Int) + 1) (by omega)
    have b8 := rd_all (P := fun x => 0 ≤ x ∧ x < 256) h8 (by omega) (a : Int)
    have wa : wrap64 ((a : Int) + 1) = ((a + 1 : Nat) : Int) := wrap64_succ (by omega)
    have wb : wrap64 (rd l (a : Int)) = rd l (a : Int) := wrap64_id (by clear wa; omega) (by clear wa; omega)
    -- a literal
    obtain ⟨r1, c1, m1, s1, i1⟩ := tokens_go l lazy h8 hl d (a + 1) (o ++ [⟨1, rd l (a : Int), 0, 0⟩]) (by clear wa wb; omega) (by clear wa wb; omega) (by clear wa wb; simp; omega)
    have lit : (⟨1, rd l (a : Int), 0, 0⟩ :: r1 : List S79).length ≤ l.length - a ∧ Makes l a (⟨1, rd l (a : Int), 0, 0⟩ :: r1) := ⟨by clear wa wb; simp; omega, Makes.byte a r1 hlt m1⟩
    rw [List.append_assoc, List.singleton_append] at s1 i1
    have goLitS : Ev (fun k => if 0 ≤ (a : Int) then (if (a : Int) < (l.length : Int) then (if o.length < 4398046511104 then (spec_Tokens.l0 k l lazy (o ++ [(⟨1, wrap64 (rd l (a : Int)), 0, 0⟩ : S79)]) (wrap64 ((a : Int) + 1))) else none) else none) else none) (o ++ (⟨1, rd l (a : Int), 0, 0⟩ :: r1)) := by
      rw [wb, wa]; exact Ev.ifT g2 (Ev.ifT g1 (Ev.ifT ho2 s1))
    have goLitI : Ev (fun k => if 0 ≤ (a : Int) then (if (a : Int) < (l.length : Int) then (if o.length < 4398046511104 then (impl_Tokens.l0 k l lazy (o ++ [(⟨1, wrap64 (rd l (a : Int)), 0, 0⟩ : S79)]) (wrap64 ((a : Int) + 1))) else none) else none) else none) (o ++ (⟨1, rd l (a : Int), 0, 0⟩ :: r1)) := by
      rw [wb, wa]; exact Ev.ifT g2 (Ev.ifT g1 (Ev.ifT ho2 i1))
    obtain ⟨n, f⟩ := p
    obtain ⟨n2, f2⟩ := q
    simp only at hp
    have hp2 : (n = 0 ∧ f = 0) ∨ (3 ≤ n ∧ n ≤ 66 ∧ 1 ≤ f ∧ f ≤ 256 ∧ f ≤ (a : Int) ∧ (a : Int) + n ≤ l.length ∧ ∀ j : Nat, (j : Int) < n → rd l ((a : Int) + j) = rd l ((a : Int) + j - f)) := by
      rcases hp with hp | hp
      · simp only [Prod.mk.injEq] at hp; exact .inl hp
      · have := hp.2.2.2
        rw [Int.toNat_natCast] at this
        exact this
    rcases hp2 with ⟨rfl, rfl⟩ | ⟨h3, h66, hf1, hf256, hfa, han, hsame⟩
    · -- nothing found
      refine ⟨_, lit.1, lit.2, ?_, ?_⟩
      · refine Ev.step (f := fun k => (spec_Longest.f k l (a : Int)).bind fun bt => if bt.1 > 0 then spec_Tokens.j1 k l lazy o (a : Int) bt.1 bt.2 lazy else spec_Tokens.j1 k l lazy o (a : Int) bt.1 bt.2 false) (fun k => ?_) (Ev.bind ls (Ev.ifF (by decide) (Ev.step (fun _ => spec_Tokens.j1.eq_2 _ _ _ _ _ _ _ _) (Ev.ifF (by decide) (Ev.ifT rfl goLitS)))))
        simp only [spec_Tokens.l0]
        rw [if_pos g1]
      · refine Ev.step (f := fun k => (impl_Longest.f k l (a : Int)).bind fun bt => if bt.1 > 0 then impl_Tokens.j1 k l lazy o (a : Int) bt.1 bt.2 lazy else impl_Tokens.j1 k l lazy o (a : Int) bt.1 bt.2 false) (fun k => ?_) (Ev.bind li (Ev.ifF (by decide) (Ev.step (fun _ => impl_Tokens.j1.eq_2 _ _ _ _ _ _ _ _) (Ev.ifF (by decide) (Ev.ifF (by decide) goLitI)))))
        simp only [impl_Tokens.l0]
        rw [if_pos g1]
    · obtain ⟨m, rfl⟩ := Int.eq_ofNat_of_zero_le (show 0 ≤ n by clear wa wb; omega)
      obtain ⟨e, rfl⟩ := Int.eq_ofNat_of_zero_le (show 0 ≤ f by clear wa wb; omega)
      have wc : wrap64 ((a : Int) + (m : Int)) = ((a + m : Nat) : Int) := by rw [wrap64_id (by clear wa wb; omega) (by clear wa wb; omega)]; simp
      obtain ⟨r2, c2, m2, s2, i2⟩ := tokens_go l lazy h8 hl d (a + m) (o ++ [⟨2, 0, (m : Int), (e : Int)⟩]) (by clear wa wb wc; omega) (by clear wa wb wc; omega) (by clear wa wb wc; simp; omega)
      have cpy : (⟨2, 0, (m : Int), (e : Int)⟩ :: r2 : List S79).length ≤ l.length - a ∧ Makes l a (⟨2, 0, (m : Int), (e : Int)⟩ :: r2) := ⟨by clear wa wb wc; simp; omega, Makes.copy a m e r2 (by clear wa wb wc; omega) (by clear wa wb wc; omega) (by clear wa wb wc; omega) (by clear wa wb wc; omega) (by clear wa wb wc; omega) (by clear wa wb wc; omega) (fun j hj => hsame j (by clear wa wb wc; omega)) m2⟩
      rw [List.append_assoc, List.singleton_append] at s2 i2
      have q0 : (m : Int) > 0 := by clear wa wb wc; omega
      have q1 : ¬ (m : Int) = 0 := by clear wa wb wc; omega
      have goCpS : Ev (fun k => if o.length < 4398046511104 then (spec_Tokens.l0 k l lazy (o ++ [(⟨2, 0, (m : Int), (e : Int)⟩ : S79)]) (wrap64 ((a : Int) + (m : Int)))) else none) (o ++ (⟨2, 0, (m : Int), (e : Int)⟩ :: r2)) := by
        rw [wc]; exact Ev.ifT ho2 s2
      have goCpI : Ev (fun k => if o.length < 4398046511104 then (impl_Tokens.l0 k l lazy (o ++ [(⟨2, 0, (m : Int), (e : Int)⟩ : S79)]) (wrap64 ((a : Int) + (m : Int)))) else none) (o ++ (⟨2, 0, (m : Int), (e : Int)⟩ :: r2)) := by
        rw [wc]; exact Ev.ifT ho2 i2
      have stepS : ∀ r, Ev (fun k => spec_Tokens.j1 k l lazy o (a : Int) (m : Int) (e : Int) lazy) r → Ev (fun k => spec_Tokens.l0 k l lazy o (a : Int)) r := fun r h => by
        refine Ev.step (f := fun k => (spec_Longest.f k l (a : Int)).bind fun bt => if bt.1 > 0 then spec_Tokens.j1 k l lazy o (a : Int) bt.1 bt.2 lazy else spec_Tokens.j1 k l lazy o (a : Int) bt.1 bt.2 false) (fun k => ?_) (Ev.bind ls (Ev.ifT q0 h))
        simp only [spec_Tokens.l0]
        rw [if_pos g1]
      have stepI : ∀ r, Ev (fun k => impl_Tokens.j1 k l lazy o (a : Int) (m : Int) (e : Int) lazy) r → Ev (fun k => impl_Tokens.l0 k l lazy o (a : Int)) r := fun r h => by
        refine Ev.step (f := fun k => (impl_Longest.f k l (a : Int)).bind fun bt => if bt.1 > 0 then impl_Tokens.j1 k l lazy o (a : Int) bt.1 bt.2 lazy else impl_Tokens.j1 k l lazy o (a : Int) bt.1 bt.2 false) (fun k => ?_) (Ev.bind li (Ev.ifT q0 h))
        simp only [impl_Tokens.l0]
        rw [if_pos g1]
      have wa2 : wrap64 ((a : Int) + 1) = (a : Int) + 1 := by rw [wa]; simp
      cases lazy with
      | false =>
        refine ⟨_, cpy.1, cpy.2, stepS _ (Ev.step (fun _ => spec_Tokens.j1.eq_2 _ _ _ _ _ _ _ _) (Ev.ifF (by decide) (Ev.ifF q1 goCpS))), stepI _ (Ev.step (fun _ => impl_Tokens.j1.eq_2 _ _ _ _ _ _ _ _) (Ev.ifF (by decide) (Ev.ifT q0 goCpI)))⟩
      | true =>
        by_cases hn2 : n2 > (m : Int)
        · refine ⟨_, lit.1, lit.2, stepS _ (Ev.step (fun _ => spec_Tokens.j1.eq_2 _ _ _ _ _ _ _ _) (Ev.ifT rfl (Ev.bind (by rw [wa2]; exact ls2) (Ev.ifT hn2 goLitS)))), stepI _ (Ev.step (fun _ => impl_Tokens.j1.eq_2 _ _ _ _ _ _ _ _) (Ev.ifT rfl (Ev.bind (by rw [wa2]; exact li2) (Ev.ifT hn2 goLitI))))⟩
        · refine ⟨_, cpy.1, cpy.2, stepS _ (Ev.step (fun _ => spec_Tokens.j1.eq_2 _ _ _ _ _ _ _ _) (Ev.ifT rfl (Ev.bind (by rw [wa2]; exact ls2) (Ev.ifF hn2 (Ev.ifF q1 goCpS))))), stepI _ (Ev.step (fun _ => impl_Tokens.j1.eq_2 _ _ _ _ _ _ _ _) (Ev.ifT rfl (Ev.bind (by rw [wa2]; exact li2) (Ev.ifF hn2 (Ev.ifT q0 goCpI)))))⟩

theorem tokens_both (l : List Int) (z : Bool) (h8 : ∀ x ∈ l, 0 ≤ x ∧ x < 256) : ∃ r, r.length ≤ 1024 ∧ Ev (fun k => spec_Tokens.f k l z) r ∧ Ev (fun k => impl_Tokens.f k l z) r := by
  by_cases h : (l.length : Int) > 1024
  · refine ⟨[], by simp, ?_, ?_⟩
    · simp only [spec_Tokens.f, Option.bind_some]; exact Ev.ifT h (Ev.now _)
    · simp only [impl_Tokens.f, Option.bind_some]; exact Ev.ifT h (Ev.now _)
  · obtain ⟨r, c, _, s, i⟩ := tokens_go l z h8 (by omega) l.length 0 [] (by omega) (by omega) (by simp)
    refine ⟨r, by omega, ?_, ?_⟩
    · simp only [spec_Tokens.f, Option.bind_some]; exact Ev.ifF h s
    · simp only [impl_Tokens.f, Option.bind_some]; exact Ev.ifF h i
theorem FnExactTokens : laws_FnExactTokens.Pure := by
  intro l z _ _ hw
  have h8 : ∀ x ∈ l, 0 ≤ x ∧ x < 256 := fun x hx => wf_u8 (hw x hx)
  refine Ev.rounds ?_
  unfold laws_FnExactTokens.f
  by_cases h1 : (l.length : Int) > 1048576
  · exact Ev.ifT h1 (Ev.now _)
  have t := toByteS_ev l (by omega)
  have e := eqByteS_ev l (by omega)
  have m := markByteS_ev l 1 (by omega) (by omega) (by omega)
  obtain ⟨r, hr, q1, q2⟩ := tokens_both l z h8
  have er := eqTokenS_ev r (by omega)
  have mr := markTokenS_ev r 1 (by omega) (by omega) (by omega)
  have hr2 := heldTokenS_ev r 1 (by omega) (by omega) (by omega)
  refine Ev.ifF h1 (Ev.bind t (Ev.bind q1 (Ev.bind t (Ev.bind q2 (Ev.bind er (Ev.ifT rfl (Ev.bind t (Ev.bind e (Ev.ifT rfl (Ev.bind m (Ev.ifF (by omega) (Ev.bind er ?_))))))))))))
  simp only [Bool.not_true]
  refine Ev.step (fun k => by simp only [laws_FnExactTokens.j0]; rfl) ?_
  exact Ev.ifF (by simp) (Ev.bind mr (Ev.bind hr2 (Ev.ifF (by omega) (Ev.ifT rfl (Ev.bind t (Ev.bind q2 (Ev.bind er (Ev.ifT rfl (Ev.bind hr2 (Ev.ifF (by omega) (Ev.ifT rfl (Ev.now _))))))))))))

end Go.Proofs.Ytndoapmehgfdkac.Pure
