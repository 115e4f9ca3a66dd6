/- The plain law of FnTokens, over numbers and lists alone: what the printed functions answer is true for all arguments. Conditions: those of the arguments' kinds. -/
import Derived.Test.YtdilibnfihcmkaaQFnTokensx5
import Derived.Test.YtdilibnfihcmkaaAid
set_option linter.unusedVariables false
set_option linter.unusedSimpArgs false
namespace Go.Proofs.Ytdilibnfihcmkaa.Pure
open Go.RowKit Go.Proofs.Ytdilibnfihcmkaa.Aid Go.Proofs.Ytdilibnfihcmkaa.QFnTokens Go.Proofs.YtdilibnfihcmkaaW.PrintWords Go.Proofs.YtdilibnfihcmkaaW.PrintLast Go.Proofs.YtdilibnfihcmkaaW.PrintMore
theorem in_tell (a b c : Int) : impl_in.f a b c = some (decide (b ≤ a ∧ a ≤ c)) := by
  unfold impl_in.f
  by_cases h : a ≥ b
  · rw [if_pos h]; congr 1; rw [Bool.eq_iff_iff]; simp only [decide_eq_true_eq]; omega
  · rw [if_neg h]; congr 1; symm; rw [decide_eq_false_iff_not]; omega

/-! A second way to find tokens (as the specification's), for the proof alone. -/
def spec_l1In.f (a0 : Int) (a1 : Int) (a2 : Int) : Option (Bool) := if a0 ≥ a1 then (some (decide (a0 ≤ a2))) else (some false)
mutual
def spec_Longest.j0 : Nat → List Int → Int → Bool → Option (Int × Int)
  | 0, _, _, _ => none
  | k + 1, x0, x1, x20 => if x20 = true then (some (0, 0)) else (spec_Longest.l0 k x0 x1 0 0 1)
def spec_Longest.l0 : Nat → List Int → Int → Int → Int → Int → Option (Int × Int)
  | 0, _, _, _, _, _ => none
  | k + 1, x0, x1, x6, x7, x8 => if x8 ≤ x1 then (spec_Longest.j2 k x0 x1 x6 x7 x8 (decide (x8 ≤ 256))) else (spec_Longest.j2 k x0 x1 x6 x7 x8 false)
def spec_Longest.j2 : Nat → List Int → Int → Int → Int → Int → Bool → Option (Int × Int)
  | 0, _, _, _, _, _, _ => none
  | k + 1, x0, x1, x6, x7, x8, x27 => if x27 = true then (spec_Longest.l1 k x0 x1 x6 x7 x8 0) else (some (x6, x7))
def spec_Longest.l1 : Nat → List Int → Int → Int → Int → Int → Int → Option (Int × Int)
  | 0, _, _, _, _, _, _ => none
  | k + 1, x0, x1, x6, x7, x8, x9 => if x9 < 66 then (if (wrap64 (x1 + x9)) < (x0.length : Int) then (if 0 ≤ (wrap64 (x1 + x9)) then (if 0 ≤ (wrap64 ((wrap64 (x1 + x9)) - x8)) then (if (wrap64 ((wrap64 (x1 + x9)) - x8)) < (x0.length : Int) then (if (rd x0 (wrap64 (x1 + x9))) = (rd x0 (wrap64 ((wrap64 (x1 + x9)) - x8))) then (spec_Longest.l1 k x0 x1 x6 x7 x8 (wrap64 (x9 + 1))) else (if x9 ≥ 3 then (if x9 > x6 then (spec_Longest.l0 k x0 x1 x9 x8 (wrap64 (x8 + 1))) else (spec_Longest.l0 k x0 x1 x6 x7 (wrap64 (x8 + 1)))) else (spec_Longest.l0 k x0 x1 x6 x7 (wrap64 (x8 + 1))))) else (none)) else (none)) else (none)) else (if x9 ≥ 3 then (if x9 > x6 then (spec_Longest.l0 k x0 x1 x9 x8 (wrap64 (x8 + 1))) else (spec_Longest.l0 k x0 x1 x6 x7 (wrap64 (x8 + 1)))) else (spec_Longest.l0 k x0 x1 x6 x7 (wrap64 (x8 + 1))))) else (if x9 ≥ 3 then (if x9 > x6 then (spec_Longest.l0 k x0 x1 x9 x8 (wrap64 (x8 + 1))) else (spec_Longest.l0 k x0 x1 x6 x7 (wrap64 (x8 + 1)))) else (spec_Longest.l0 k x0 x1 x6 x7 (wrap64 (x8 + 1))))
end
def spec_Longest.f (k : Nat) (l0 : List Int) (a1 : Int) : Option (Int × Int) := if (l0.length : Int) > 1024 then (spec_Longest.j0 k l0 a1 true) else ((spec_l1In.f a1 0 (wrap64 ((l0.length : Int) - 1))).bind fun t104 => (spec_Longest.j0 k l0 a1 (!t104)))
mutual
def spec_Tokens.l0 : Nat → List Int → Bool → List (S78) → Int → Option ((List (S78)))
  | 0, _, _, _, _ => none
  | k + 1, x0, x1, x5, x6 => if x6 < (x0.length : Int) then ((spec_Longest.f k x0 x6).bind fun bt110 => (if bt110.1 > 0 then (spec_Tokens.j1 k x0 x1 x5 x6 bt110.1 bt110.2 x1) else (spec_Tokens.j1 k x0 x1 x5 x6 bt110.1 bt110.2 false))) else (some x5)
def spec_Tokens.j1 : Nat → List Int → Bool → List (S78) → Int → Int → Int → Bool → Option ((List (S78)))
  | 0, _, _, _, _, _, _, _ => none
  | k + 1, x0, x1, x5, x6, x7, x8, x30 => if x30 = true then ((spec_Longest.f k x0 (wrap64 (x6 + 1))).bind fun bt112 => (if bt112.1 > x7 then (if 0 ≤ x6 then (if x6 < (x0.length : Int) then (if x5.length < 4398046511104 then (spec_Tokens.l0 k x0 x1 (x5 ++ [(⟨1, wrap64 (rd x0 x6), 0, 0⟩ : S78)]) (wrap64 (x6 + 1))) else (none)) else (none)) else (none)) else (if x7 = 0 then (if 0 ≤ x6 then (if x6 < (x0.length : Int) then (if x5.length < 4398046511104 then (spec_Tokens.l0 k x0 x1 (x5 ++ [(⟨1, wrap64 (rd x0 x6), 0, 0⟩ : S78)]) (wrap64 (x6 + 1))) else (none)) else (none)) else (none)) else (if x5.length < 4398046511104 then (spec_Tokens.l0 k x0 x1 (x5 ++ [(⟨2, 0, x7, x8⟩ : S78)]) (wrap64 (x6 + x7))) else (none))))) else (if x7 = 0 then (if 0 ≤ x6 then (if x6 < (x0.length : Int) then (if x5.length < 4398046511104 then (spec_Tokens.l0 k x0 x1 (x5 ++ [(⟨1, wrap64 (rd x0 x6), 0, 0⟩ : S78)]) (wrap64 (x6 + 1))) else (none)) else (none)) else (none)) else (if x5.length < 4398046511104 then (spec_Tokens.l0 k x0 x1 (x5 ++ [(⟨2, 0, x7, x8⟩ : S78)]) (wrap64 (x6 + x7))) else (none)))
end
def spec_Tokens.f (k : Nat) (l0 : List Int) (a1 : Bool) : Option ((List (S78))) := (some (([] : List (S78)) : List (S78))).bind fun y107 => (if (l0.length : Int) > 1024 then (some y107) else (spec_Tokens.l0 k l0 a1 y107 0))

theorem l1In_tell (a b c : Int) : spec_l1In.f a b c = some (decide (b ≤ a ∧ a ≤ c)) := by
  unfold spec_l1In.f
  by_cases h : a ≥ b
  · rw [if_pos h]; congr 1; rw [Bool.eq_iff_iff]; simp only [decide_eq_true_eq]; omega
  · rw [if_neg h]; congr 1; symm; rw [decide_eq_false_iff_not]; omega

theorem wf_all_u8 {l : List Int} (h : ∀ x ∈ l, (Lit.int .u8 x).wf = true) : ∀ x ∈ l, 0 ≤ x ∧ x < 256 := fun x hx => wf_u8 (h x hx)
theorem wf_all_i64 {l : List Int} (h : ∀ x ∈ l, (Lit.int .i64 x).wf = true) : ∀ x ∈ l, -9223372036854775808 ≤ x ∧ x < 9223372036854775808 := fun x hx => wf_i64 (h x hx)

theorem sameBytes_l0 (a b : List Int) (hab : a.length = b.length) (hl : a.length ≤ 140737488355328) : ∀ (d : Nat) (i : Nat), i + d = a.length → Ev (fun k => laws_sameBytes.l0 k a b (i : Int)) (decide (a.drop i = b.drop i))
  | 0, i, hi => by
    refine Ev.step (f := fun _ => some true) (fun k => ?_) (Ev.const ?_)
    · simp only [laws_sameBytes.l0]
      rw [if_neg (by omega)]
    · rw [List.drop_of_length_le (by omega), List.drop_of_length_le (by omega)]; simp
  | d + 1, i, hi => by
    have ih := sameBytes_l0 a b hab hl d (i + 1) (by omega)
    have e1 : a.drop i = a[i]'(by omega) :: a.drop (i + 1) := List.drop_eq_getElem_cons (by omega)
    have e2 : b.drop i = b[i]'(by omega) :: b.drop (i + 1) := List.drop_eq_getElem_cons (by omega)
    by_cases e : a[i]'(by omega) = b[i]'(by omega)
    · have e3 : decide (a.drop i = b.drop i) = decide (a.drop (i + 1) = b.drop (i + 1)) := by
        rw [e1, e2, e, Bool.eq_iff_iff]; simp only [decide_eq_true_eq, List.cons.injEq, true_and]
      rw [e3]
      refine Ev.step (fun k => ?_) ih
      simp only [laws_sameBytes.l0]
      rw [if_pos (by omega), if_pos (by omega), if_pos (by omega), if_pos (by rw [rd_get a i (by omega), rd_get b i (by omega)]; exact e), wrap64_id (by omega) (by omega)]
      simp
    · have e3 : decide (a.drop i = b.drop i) = false := by
        rw [e1, e2, decide_eq_false_iff_not]; simp only [List.cons.injEq, e, false_and, not_false_eq_true]
      rw [e3]
      refine Ev.step (f := fun _ => some false) (fun k => ?_) (Ev.now _)
      simp only [laws_sameBytes.l0]
      rw [if_pos (by omega), if_pos (by omega), if_pos (by omega), if_neg (by rw [rd_get a i (by omega), rd_get b i (by omega)]; exact e)]
theorem sameBytes_tell (a b : List Int) (hl : a.length ≤ 140737488355328) : Ev (fun k => laws_sameBytes.f k a b) (decide (a = b)) := by
  by_cases h : a.length = b.length
  · refine Ev.congr (fun k => ?_) (sameBytes_l0 a b h hl a.length 0 (by simp))
    simp only [laws_sameBytes.f]
    rw [if_pos (by omega)]; simp
  · refine Ev.congr (f := fun _ => some false) (fun k => ?_) (Ev.const ?_)
    · simp only [laws_sameBytes.f]
      rw [if_neg (by omega)]
    · have : a ≠ b := fun e => h (by rw [e])
      simp [this]

/-- What Longest may tell at a place: nothing, or a match that is there. -/
def Match (l : List Int) (a : Nat) (b f : Int) : Prop :=
  (b = 0 ∧ f = 0) ∨ (3 ≤ b ∧ b ≤ 66 ∧ 1 ≤ f ∧ f ≤ 256 ∧ f ≤ (a : Int) ∧ (a : Int) + b ≤ l.length ∧ ∀ j : Nat, (j : Int) < b → rd l ((a : Int) + j) = rd l ((a : Int) + j - f))
def Both (l : List Int) (a : Nat) (b f x : Int) : Prop :=
  ∃ r : Int × Int, Match l a r.1 r.2 ∧ Ev (fun k => spec_Longest.l0 k l (a : Int) b f x) r ∧ Ev (fun k => impl_Longest.l0 k l (a : Int) b f x) r
theorem longest_l1 (l : List Int) (hl : l.length ≤ 1024) (a : Nat) (ha : a < l.length) (x : Nat) (hx : 1 ≤ x) (hxa : x ≤ a) (hx2 : x ≤ 256) (next : ∀ b f : Int, Match l a b f → Both l a b f ((x + 1 : Nat) : Int)) :
    ∀ (d n : Nat), n + d = 66 → ∀ (b f : Int), Match l a b f → (∀ j : Nat, j < n → rd l ((a : Int) + j) = rd l ((a : Int) + j - x)) → (a : Int) + n ≤ l.length →
      ∃ r : Int × Int, Match l a r.1 r.2 ∧ Ev (fun k => spec_Longest.l1 k l (a : Int) b f (x : Int) (n : Int)) r ∧ Ev (fun k => impl_Longest.l1 k l (a : Int) b f (x : Int) (n : Int)) r := by
  -- the end of the inner loop
  have stop : ∀ (n : Nat) (b f : Int), n ≤ 66 → Match l a b f → (∀ j : Nat, j < n → rd l ((a : Int) + j) = rd l ((a : Int) + j - x)) → (a : Int) + n ≤ l.length →
      ∃ r : Int × Int, Match l a r.1 r.2 ∧ Ev (fun k => if (n : Int) ≥ 3 then (if (n : Int) > b then spec_Longest.l0 k l (a : Int) n x (wrap64 ((x : Int) + 1)) else spec_Longest.l0 k l (a : Int) b f (wrap64 ((x : Int) + 1))) else spec_Longest.l0 k l (a : Int) b f (wrap64 ((x : Int) + 1))) r ∧
        Ev (fun k => if (n : Int) ≥ 3 then (if (n : Int) > b then impl_Longest.l0 k l (a : Int) n x (wrap64 ((x : Int) + 1)) else impl_Longest.l0 k l (a : Int) b f (wrap64 ((x : Int) + 1))) else impl_Longest.l0 k l (a : Int) b f (wrap64 ((x : Int) + 1))) r := by
    intro n b f hn hm he hle
    by_cases h : (n : Int) ≥ 3 ∧ (n : Int) > b
    · obtain ⟨r, h1, h2, h3⟩ := next n x (.inr ⟨h.1, by omega, by omega, by omega, by omega, hle, fun j hj => he j (by omega)⟩)
      rw [wrap64_succ (by omega)]
      exact ⟨r, h1, Ev.ifT h.1 (Ev.ifT h.2 h2), Ev.ifT h.1 (Ev.ifT h.2 h3)⟩
    · obtain ⟨r, h1, h2, h3⟩ := next b f hm
      rw [wrap64_succ (by omega)]
      by_cases h5 : (n : Int) ≥ 3
      · have h6 : ¬ (n : Int) > b := fun q => h ⟨h5, q⟩
        exact ⟨r, h1, Ev.ifT h5 (Ev.ifF h6 h2), Ev.ifT h5 (Ev.ifF h6 h3)⟩
      · exact ⟨r, h1, Ev.ifF h5 h2, Ev.ifF h5 h3⟩
  intro d
  induction d with
  | zero =>
    intro n hn b f hm he hle
    obtain ⟨r, h1, h2, h3⟩ := stop n b f (by omega) hm he hle
    have g : ¬ (n : Int) < 66 := by omega
    refine ⟨r, h1, Ev.step (fun k => ?_) h2, Ev.step (fun k => ?_) h3⟩
    · simp only [spec_Longest.l1]; rw [if_neg g]
    · simp only [impl_Longest.l1]; rw [if_neg g]
  | succ d ih =>
    intro n hn b f hm he hle
    have g1 : (n : Int) < 66 := by omega
    have w1 : wrap64 ((a : Int) + n) = (a : Int) + n := wrap64_id (by omega) (by omega)
    have w2 : wrap64 ((a : Int) + n - x) = (a : Int) + n - x := wrap64_id (by clear w1; omega) (by clear w1; omega)
    by_cases hb : (a : Int) + n < l.length
    · have g2 : (0 : Int) ≤ (a : Int) + n := by clear w1 w2; omega
      have g3 : (0 : Int) ≤ (a : Int) + n - x := by clear w1 w2; omega
      have g4 : (a : Int) + n - x < (l.length : Int) := by clear w1 w2; omega
      by_cases hq : rd l ((a : Int) + n) = rd l ((a : Int) + n - x)
      · have w3 : wrap64 ((n : Int) + 1) = ((n + 1 : Nat) : Int) := wrap64_succ (by clear w1 w2; omega)
        obtain ⟨r, h1, h2, h3⟩ := ih (n + 1) (by clear w1 w2 w3; omega) b f hm (fun j hj => by
          by_cases hjn : j < n
          · exact he j hjn
          · obtain rfl : j = n := by clear w1 w2 w3; omega
            exact hq) (by clear w1 w2 w3; omega)
        refine ⟨r, h1, Ev.step (fun k => ?_) h2, Ev.step (fun k => ?_) h3⟩
        · simp only [spec_Longest.l1]; rw [if_pos g1, w1, w2, if_pos hb, if_pos g2, if_pos g3, if_pos g4, if_pos hq, w3]
        · simp only [impl_Longest.l1]; rw [if_pos g1, w1, w2, if_pos hb, if_pos g2, if_pos g3, if_pos g4, if_pos hq, w3]
      · obtain ⟨r, h1, h2, h3⟩ := stop n b f (by clear w1 w2; omega) hm he hle
        refine ⟨r, h1, Ev.step (fun k => ?_) h2, Ev.step (fun k => ?_) h3⟩
        · simp only [spec_Longest.l1]; rw [if_pos g1, w1, w2, if_pos hb, if_pos g2, if_pos g3, if_pos g4, if_neg hq]
        · simp only [impl_Longest.l1]; rw [if_pos g1, w1, w2, if_pos hb, if_pos g2, if_pos g3, if_pos g4, if_neg hq]
    · obtain ⟨r, h1, h2, h3⟩ := stop n b f (by clear w1 w2; omega) hm he hle
      refine ⟨r, h1, Ev.step (fun k => ?_) h2, Ev.step (fun k => ?_) h3⟩
      · simp only [spec_Longest.l1]; rw [if_pos g1, w1, if_neg hb]
      · simp only [impl_Longest.l1]; rw [if_pos g1, w1, if_neg hb]
theorem longest_l0 (l : List Int) (hl : l.length ≤ 1024) (a : Nat) (ha : a < l.length) : ∀ (d x : Nat), 1 ≤ x → min a 256 + 1 ≤ x + d → ∀ b f : Int, Match l a b f → Both l a b f (x : Int)
  | 0, x, hx, hd, b, f, hm => by
    have g : ¬ ((x : Int) ≤ (a : Int) ∧ (x : Int) ≤ 256) := by omega
    have g2 : ¬ (x : Int) ≤ mn (a : Int) 256 := by unfold mn; split <;> omega
    refine ⟨(b, f), hm, ?_, ?_⟩
    · have j : Ev (fun k => spec_Longest.j2 k l (a : Int) b f (x : Int) false) (b, f) := Ev.step (f := fun _ => some (b, f)) (fun k => by simp [spec_Longest.j2]) (Ev.now _)
      refine Ev.step (f := fun k => spec_Longest.j2 k l (a : Int) b f (x : Int) false) (fun k => ?_) j
      simp only [spec_Longest.l0]
      by_cases h1 : (x : Int) ≤ (a : Int)
      · rw [if_pos h1, decide_eq_false (fun h => g ⟨h1, h⟩)]
      · rw [if_neg h1]
    · refine Ev.step (f := fun _ => some (b, f)) (fun k => ?_) (Ev.now _)
      simp only [impl_Longest.l0]
      rw [if_neg g2]
  | d + 1, x, hx, hd, b, f, hm => by
    by_cases g : x ≤ a ∧ x ≤ 256
    · have g1 : (x : Int) ≤ (a : Int) := by omega
      have g2 : (x : Int) ≤ 256 := by omega
      have g3 : (x : Int) ≤ mn (a : Int) 256 := by unfold mn; split <;> omega
      obtain ⟨r, h1, h2, h3⟩ := longest_l1 l hl a ha x hx g.1 g.2 (fun b f hm => longest_l0 l hl a ha d (x + 1) (by omega) (by omega) b f hm) 66 0 (by omega) b f hm (fun j hj => by omega) (by omega)
      refine ⟨r, h1, ?_, ?_⟩
      · refine Ev.step (f := fun k => spec_Longest.j2 k l (a : Int) b f (x : Int) true) (fun k => ?_) (Ev.step (fun k => ?_) h2)
        · simp only [spec_Longest.l0]
          rw [if_pos g1, decide_eq_true g2]
        · simp [spec_Longest.j2]
      · refine Ev.step (fun k => ?_) h3
        simp only [impl_Longest.l0]
        rw [if_pos g3]; simp
    · exact longest_l0 l hl a ha 0 x hx (by omega) b f hm
theorem longest_same (l : List Int) (hl : l.length ≤ 140737488351232) (a : Int) (ha : -9223372036854775808 ≤ a ∧ a < 9223372036854775808) :
    ∃ r : Int × Int, (r = (0, 0) ∨ (0 ≤ a ∧ a < l.length ∧ l.length ≤ 1024 ∧ Match l a.toNat r.1 r.2)) ∧ Ev (fun k => spec_Longest.f k l a) r ∧ Ev (fun k => impl_Longest.f k l a) r := by
  unfold spec_Longest.f impl_Longest.f
  rw [l1In_tell, in_tell, wrap64_id (n := (l.length : Int) - 1) (by omega) (by omega)]
  simp only [Option.bind_some]
  have bs : Ev (fun k => spec_Longest.j0 k l a true) (0, 0) := Ev.step (f := fun _ => some (0, 0)) (fun k => by simp [spec_Longest.j0]) (Ev.now _)
  have bi : Ev (fun k => impl_Longest.j0 k l a true) (0, 0) := Ev.step (f := fun _ => some (0, 0)) (fun k => by simp [impl_Longest.j0]) (Ev.now _)
  by_cases h1 : (l.length : Int) > 1024
  · refine ⟨(0, 0), .inl rfl, Ev.ifT h1 bs, ?_⟩
    simp only [decide_eq_true h1]
    split
    · exact bi
    · exact bi
  · simp only [decide_eq_false h1]
    by_cases h2 : 0 ≤ a ∧ a ≤ (l.length : Int) - 1
    · obtain ⟨m, rfl⟩ := Int.eq_ofNat_of_zero_le h2.1
      obtain ⟨r, q1, q2, q3⟩ := longest_l0 l (by omega) m (by omega) 257 1 (by omega) (by omega) 0 0 (.inl ⟨rfl, rfl⟩)
      refine ⟨r, .inr ⟨h2.1, by omega, by omega, by simpa using q1⟩, Ev.ifF h1 ?_, ?_⟩
      · simp only [decide_eq_true h2, Bool.not_true]
        exact Ev.step (fun k => by simp [spec_Longest.j0]) q2
      · simp only [decide_eq_true h2, if_true]
        exact Ev.step (fun k => by simp [impl_Longest.j0]) q3
    · refine ⟨(0, 0), .inl rfl, Ev.ifF h1 ?_, ?_⟩
      · simp only [decide_eq_false h2, Bool.not_false]; exact bs
      · simp only [decide_eq_false h2]; exact bi

/-- What the tokens say: literals, and copies of what stands ahead. -/
inductive Makes (l : List Int) : Nat → List S78 → Prop
  | done (a : Nat) : l.length ≤ a → Makes l a []
  | byte (a : Nat) (r : List S78) : a < l.length → Makes l (a + 1) r → Makes l a (⟨1, rd l (a : Int), 0, 0⟩ :: r)
  | copy (a n f : Nat) (r : List S78) : 3 ≤ n → n ≤ 66 → 1 ≤ f → f ≤ 256 → f ≤ a → a + n ≤ l.length → (∀ j : Nat, j < n → rd l ((a : Int) + j) = rd l ((a : Int) + j - f)) → Makes l (a + n) r → Makes l a (⟨2, 0, (n : Int), (f : Int)⟩ :: r)
theorem tokens_go (l : List Int) (lazy : Bool) (h8 : ∀ x ∈ l, 0 ≤ x ∧ x < 256) (hl : l.length ≤ 1024) : ∀ (d a : Nat) (o : List S78), l.length ≤ a + d → a ≤ l.length → o.length ≤ a →
    ∃ r, r.length ≤ l.length - a ∧ Makes l a r ∧ Ev (fun k => spec_Tokens.l0 k l lazy o (a : Int)) (o ++ r) ∧ Ev (fun k => impl_Tokens.l0 k l lazy o (a : Int)) (o ++ r)
  | 0, a, o, hd, ha, ho => by
    refine ⟨[], by simp, Makes.done a (by omega), ?_, ?_⟩
    · rw [List.append_nil]
      refine Ev.step (f := fun _ => some o) (fun k => ?_) (Ev.now _)
      simp only [spec_Tokens.l0]
      rw [if_neg (by omega)]
    · rw [List.append_nil]
      refine Ev.step (f := fun _ => some o) (fun k => ?_) (Ev.now _)
      simp only [impl_Tokens.l0]
      rw [if_neg (by omega)]
  | d + 1, a, o, hd, ha, ho => by
    by_cases hal : l.length ≤ a
    · exact tokens_go l lazy h8 hl 0 a o (by omega) ha ho
    have hlt : a < l.length := by omega
    have g1 : (a : Int) < (l.length : Int) := by omega
    have g2 : (0 : Int) ≤ (a : Int) := by omega
    have ho2 : o.length < 4398046511104 := by omega
    obtain ⟨p, hp, ls, li⟩ := longest_same l (by omega) (a : Int) (by omega)
    obtain ⟨q, _, ls2, li2⟩ := longest_same l (by omega) ((a : Int) + 1) (by omega)
    have b8 := rd_all (P := fun x => 0 ≤ x ∧ x < 256) h8 (by omega) (a : Int)
    have wa : wrap64 ((a : Int) + 1) = ((a + 1 : Nat) : Int) := wrap64_succ (by omega)
    have wb : wrap64 (rd l (a : Int)) = rd l (a : Int) := wrap64_id (by clear wa; omega) (by clear wa; omega)
    -- a literal
    obtain ⟨r1, c1, m1, s1, i1⟩ := tokens_go l lazy h8 hl d (a + 1) (o ++ [⟨1, rd l (a : Int), 0, 0⟩]) (by clear wa wb; omega) (by clear wa wb; omega) (by clear wa wb; simp; omega)
    have lit : (⟨1, rd l (a : Int), 0, 0⟩ :: r1 : List S78).length ≤ l.length - a ∧ Makes l a (⟨1, rd l (a : Int), 0, 0⟩ :: r1) := ⟨by clear wa wb; simp; omega, Makes.byte a r1 hlt m1⟩
    rw [List.append_assoc, List.singleton_append] at s1 i1
    have goLitS : Ev (fun k => if 0 ≤ (a : Int) then (if (a : Int) < (l.length : Int) then (if o.length < 4398046511104 then (spec_Tokens.l0 k l lazy (o ++ [(⟨1, wrap64 (rd l (a : Int)), 0, 0⟩ : S78)]) (wrap64 ((a : Int) + 1))) else none) else none) else none) (o ++ (⟨1, rd l (a : Int), 0, 0⟩ :: r1)) := by
      rw [wb, wa]; exact Ev.ifT g2 (Ev.ifT g1 (Ev.ifT ho2 s1))
    have goLitI : Ev (fun k => if 0 ≤ (a : Int) then (if (a : Int) < (l.length : Int) then (if o.length < 4398046511104 then (impl_Tokens.l0 k l lazy (o ++ [(⟨1, wrap64 (rd l (a : Int)), 0, 0⟩ : S78)]) (wrap64 ((a : Int) + 1))) else none) else none) else none) (o ++ (⟨1, rd l (a : Int), 0, 0⟩ :: r1)) := by
      rw [wb, wa]; exact Ev.ifT g2 (Ev.ifT g1 (Ev.ifT ho2 i1))
    obtain ⟨n, f⟩ := p
    obtain ⟨n2, f2⟩ := q
    simp only at hp
    have hp2 : (n = 0 ∧ f = 0) ∨ (3 ≤ n ∧ n ≤ 66 ∧ 1 ≤ f ∧ f ≤ 256 ∧ f ≤ (a : Int) ∧ (a : Int) + n ≤ l.length ∧ ∀ j : Nat, (j : Int) < n → rd l ((a : Int) + j) = rd l ((a : Int) + j - f)) := by
      rcases hp with hp | hp
      · simp only [Prod.mk.injEq] at hp; exact .inl hp
      · have := hp.2.2.2
        rw [Int.toNat_natCast] at this
        exact this
    rcases hp2 with ⟨rfl, rfl⟩ | ⟨h3, h66, hf1, hf256, hfa, han, hsame⟩
    · -- nothing found
      refine ⟨_, lit.1, lit.2, ?_, ?_⟩
      · refine Ev.step (f := fun k => (spec_Longest.f k l (a : Int)).bind fun bt => if bt.1 > 0 then spec_Tokens.j1 k l lazy o (a : Int) bt.1 bt.2 lazy else spec_Tokens.j1 k l lazy o (a : Int) bt.1 bt.2 false) (fun k => ?_) (Ev.bind ls (Ev.ifF (by decide) (Ev.step (fun _ => spec_Tokens.j1.eq_2 _ _ _ _ _ _ _ _) (Ev.ifF (by decide) (Ev.ifT rfl goLitS)))))
        simp only [spec_Tokens.l0]
        rw [if_pos g1]
      · refine Ev.step (f := fun k => (impl_Longest.f k l (a : Int)).bind fun bt => if bt.1 > 0 then impl_Tokens.j1 k l lazy o (a : Int) bt.1 bt.2 lazy else impl_Tokens.j1 k l lazy o (a : Int) bt.1 bt.2 false) (fun k => ?_) (Ev.bind li (Ev.ifF (by decide) (Ev.step (fun _ => impl_Tokens.j1.eq_2 _ _ _ _ _ _ _ _) (Ev.ifF (by decide) (Ev.ifF (by decide) goLitI)))))
        simp only [impl_Tokens.l0]
        rw [if_pos g1]
    · obtain ⟨m, rfl⟩ := Int.eq_ofNat_of_zero_le (show 0 ≤ n by clear wa wb; omega)
      obtain ⟨e, rfl⟩ := Int.eq_ofNat_of_zero_le (show 0 ≤ f by clear wa wb; omega)
      have wc : wrap64 ((a : Int) + (m : Int)) = ((a + m : Nat) : Int) := by rw [wrap64_id (by clear wa wb; omega) (by clear wa wb; omega)]; simp
      obtain ⟨r2, c2, m2, s2, i2⟩ := tokens_go l lazy h8 hl d (a + m) (o ++ [⟨2, 0, (m : Int), (e : Int)⟩]) (by clear wa wb wc; omega) (by clear wa wb wc; omega) (by clear wa wb wc; simp; omega)
      have cpy : (⟨2, 0, (m : Int), (e : Int)⟩ :: r2 : List S78).length ≤ l.length - a ∧ Makes l a (⟨2, 0, (m : Int), (e : Int)⟩ :: r2) := ⟨by clear wa wb wc; simp; omega, Makes.copy a m e r2 (by clear wa wb wc; omega) (by clear wa wb wc; omega) (by clear wa wb wc; omega) (by clear wa wb wc; omega) (by clear wa wb wc; omega) (by clear wa wb wc; omega) (fun j hj => hsame j (by clear wa wb wc; omega)) m2⟩
      rw [List.append_assoc, List.singleton_append] at s2 i2
      have q0 : (m : Int) > 0 := by clear wa wb wc; omega
      have q1 : ¬ (m : Int) = 0 := by clear wa wb wc; omega
      have goCpS : Ev (fun k => if o.length < 4398046511104 then (spec_Tokens.l0 k l lazy (o ++ [(⟨2, 0, (m : Int), (e : Int)⟩ : S78)]) (wrap64 ((a : Int) + (m : Int)))) else none) (o ++ (⟨2, 0, (m : Int), (e : Int)⟩ :: r2)) := by
        rw [wc]; exact Ev.ifT ho2 s2
      have goCpI : Ev (fun k => if o.length < 4398046511104 then (impl_Tokens.l0 k l lazy (o ++ [(⟨2, 0, (m : Int), (e : Int)⟩ : S78)]) (wrap64 ((a : Int) + (m : Int)))) else none) (o ++ (⟨2, 0, (m : Int), (e : Int)⟩ :: r2)) := by
        rw [wc]; exact Ev.ifT ho2 i2
      have stepS : ∀ r, Ev (fun k => spec_Tokens.j1 k l lazy o (a : Int) (m : Int) (e : Int) lazy) r → Ev (fun k => spec_Tokens.l0 k l lazy o (a : Int)) r := fun r h => by
        refine Ev.step (f := fun k => (spec_Longest.f k l (a : Int)).bind fun bt => if bt.1 > 0 then spec_Tokens.j1 k l lazy o (a : Int) bt.1 bt.2 lazy else spec_Tokens.j1 k l lazy o (a : Int) bt.1 bt.2 false) (fun k => ?_) (Ev.bind ls (Ev.ifT q0 h))
        simp only [spec_Tokens.l0]
        rw [if_pos g1]
      have stepI : ∀ r, Ev (fun k => impl_Tokens.j1 k l lazy o (a : Int) (m : Int) (e : Int) lazy) r → Ev (fun k => impl_Tokens.l0 k l lazy o (a : Int)) r := fun r h => by
        refine Ev.step (f := fun k => (impl_Longest.f k l (a : Int)).bind fun bt => if bt.1 > 0 then impl_Tokens.j1 k l lazy o (a : Int) bt.1 bt.2 lazy else impl_Tokens.j1 k l lazy o (a : Int) bt.1 bt.2 false) (fun k => ?_) (Ev.bind li (Ev.ifT q0 h))
        simp only [impl_Tokens.l0]
        rw [if_pos g1]
      have wa2 : wrap64 ((a : Int) + 1) = (a : Int) + 1 := by rw [wa]; simp
      cases lazy with
      | false =>
        refine ⟨_, cpy.1, cpy.2, stepS _ (Ev.step (fun _ => spec_Tokens.j1.eq_2 _ _ _ _ _ _ _ _) (Ev.ifF (by decide) (Ev.ifF q1 goCpS))), stepI _ (Ev.step (fun _ => impl_Tokens.j1.eq_2 _ _ _ _ _ _ _ _) (Ev.ifF (by decide) (Ev.ifT q0 goCpI)))⟩
      | true =>
        by_cases hn2 : n2 > (m : Int)
        · refine ⟨_, lit.1, lit.2, stepS _ (Ev.step (fun _ => spec_Tokens.j1.eq_2 _ _ _ _ _ _ _ _) (Ev.ifT rfl (Ev.bind (by rw [wa2]; exact ls2) (Ev.ifT hn2 goLitS)))), stepI _ (Ev.step (fun _ => impl_Tokens.j1.eq_2 _ _ _ _ _ _ _ _) (Ev.ifT rfl (Ev.bind (by rw [wa2]; exact li2) (Ev.ifT hn2 goLitI))))⟩
        · refine ⟨_, cpy.1, cpy.2, stepS _ (Ev.step (fun _ => spec_Tokens.j1.eq_2 _ _ _ _ _ _ _ _) (Ev.ifT rfl (Ev.bind (by rw [wa2]; exact ls2) (Ev.ifF hn2 (Ev.ifF q1 goCpS))))), stepI _ (Ev.step (fun _ => impl_Tokens.j1.eq_2 _ _ _ _ _ _ _ _) (Ev.ifT rfl (Ev.bind (by rw [wa2]; exact li2) (Ev.ifF hn2 (Ev.ifT q0 goCpI)))))⟩

/-- Draws: whatever the cursor, a byte is a byte, a number below n is below n. -/
theorem mask255 (x : Int) : 0 ≤ Go.bits .and .i64 x 255 ∧ Go.bits .and .i64 x 255 < 256 := by
  have := and_mask 8 (by decide) x
  rw [show (2 : Int) ^ 8 - 1 = 255 from rfl, show (2 : Int) ^ 8 = 256 from rfl] at this
  rw [this]; omega
theorem draw_byte (b : List Int) (hb : b.length ≤ 1048576) (i h : Int) (h0 : 0 ≤ i) (h1 : i ≤ (b.length : Int)) : ∃ v j g, spec_l1Byte.f b i h = some (v, j, g) ∧ (0 ≤ v ∧ v < 256) ∧ 0 ≤ j ∧ j ≤ (b.length : Int) := by
  unfold spec_l1Byte.f
  by_cases q : i < (b.length : Int)
  · rw [if_pos q, if_pos h0]
    refine ⟨_, _, _, rfl, mask255 _, ?_, ?_⟩ <;> (rw [wrap64_id (by omega) (by omega)]; omega)
  · rw [if_neg q]
    exact ⟨_, _, _, rfl, mask255 _, h0, h1⟩
theorem draw_below (b : List Int) (hb : b.length ≤ 1048576) (i h n : Int) (h0 : 0 ≤ i) (h1 : i ≤ (b.length : Int)) : ∃ v j g, spec_l1Below.f b i h n = some (v, j, g) ∧ 0 ≤ v ∧ (0 < n → v < n) ∧ 0 ≤ j ∧ j ≤ (b.length : Int) := by
  unfold spec_l1Below.f
  by_cases q : n ≤ 0
  · rw [if_pos q]; exact ⟨_, _, _, rfl, by omega, by omega, h0, h1⟩
  rw [if_neg q]
  obtain ⟨v, j, g, e, hv, hj0, hj1⟩ := draw_byte b hb i h h0 h1
  by_cases q2 : n ≤ 256
  · rw [if_pos q2, e]
    simp only [Option.bind_some]
    rw [if_neg (by omega)]
    have t : Int.tmod v n = v % n := Int.tmod_eq_emod_of_nonneg hv.1
    exact ⟨_, _, _, rfl, by rw [t]; exact Int.emod_nonneg _ (by omega), fun hn => by rw [t]; exact Int.emod_lt_of_pos _ hn, hj0, hj1⟩
  · rw [if_neg q2, e]
    obtain ⟨v2, j2, g2, e2, hv2, hj2, hj3⟩ := draw_byte b hb j g hj0 hj1
    obtain ⟨v3, j3, g3, e3, hv3, hj4, hj5⟩ := draw_byte b hb j2 g2 hj2 hj3
    simp only [Option.bind_some, e2, e3]
    rw [if_neg (by omega)]
    have w1 : wrap64 (v * 65536) = v * 65536 := wrap64_id (by omega) (by omega)
    have w2 : wrap64 (v2 * 256) = v2 * 256 := wrap64_id (by clear w1; omega) (by clear w1; omega)
    have w3 : wrap64 (v * 65536 + v2 * 256) = v * 65536 + v2 * 256 := wrap64_id (by clear w1 w2; omega) (by clear w1 w2; omega)
    have w4 : wrap64 (v * 65536 + v2 * 256 + v3) = v * 65536 + v2 * 256 + v3 := wrap64_id (by clear w1 w2 w3; omega) (by clear w1 w2 w3; omega)
    rw [w1, w2, w3, w4]
    clear w1 w2 w3 w4
    have t : Int.tmod (v * 65536 + v2 * 256 + v3) n = (v * 65536 + v2 * 256 + v3) % n := Int.tmod_eq_emod_of_nonneg (by omega)
    exact ⟨_, _, _, rfl, by rw [t]; exact Int.emod_nonneg _ (by omega), fun hn => by rw [t]; exact Int.emod_lt_of_pos _ hn, hj4, hj5⟩
theorem draw_new_l0 (l : List Int) (hl : l.length ≤ 1048576) : ∀ (d i : Nat) (h : Int), i + d = l.length → ∃ g, Ev (fun k => spec_l1New.l0 k l h (i : Int)) (l, 0, g)
  | 0, i, h, hd => ⟨h, Ev.step (f := fun _ => some (l, 0, h)) (fun k => by simp only [spec_l1New.l0]; rw [if_neg (by omega)]) (Ev.now _)⟩
  | d + 1, i, h, hd => by
    by_cases q : (i : Int) < 4000
    · obtain ⟨g, e⟩ := draw_new_l0 l hl d (i + 1) (Go.bits .and .i64 (wrap64 ((wrap64 ((wrap64 (h * 137)) + (wrap64 (rd l (i : Int))))) + 11)) 1073741823) (by omega)
      refine ⟨g, Ev.step (fun k => ?_) e⟩
      simp only [spec_l1New.l0]
      rw [if_pos (by omega), if_pos q, if_pos (by omega), wrap64_succ (by omega)]
    · refine ⟨h, Ev.step (f := fun _ => some (l, 0, h)) (fun k => ?_) (Ev.now _)⟩
      simp only [spec_l1New.l0]
      rw [if_pos (by omega), if_neg q]
theorem draw_new (l : List Int) (hl : l.length ≤ 1048576) : ∃ g, Ev (fun k => spec_l1New.f k l) (l, 0, g) := by
  obtain ⟨g, e⟩ := draw_new_l0 l hl l.length 0 (wrap64 (71071 + (l.length : Int))) (by omega)
  exact ⟨g, e⟩

theorem draw_once (b : List Int) (hb : b.length ≤ 1048576) (i h n : Int) (h0 : 0 ≤ i) (h1 : i ≤ (b.length : Int)) : ∃ v j g, spec_l1Once.f b i h n = some (v, j, g) ∧ 0 ≤ j ∧ j ≤ (b.length : Int) := by
  obtain ⟨v, j, g, e, _, _, h2, h3⟩ := draw_below b hb i h n h0 h1
  unfold spec_l1Once.f
  rw [e]
  exact ⟨_, _, _, rfl, h2, h3⟩

theorem draw_bytes_l0 (b : List Int) (hb : b.length ≤ 1048576) (n : Nat) (hn : n ≤ 1048576) : ∀ (d : Nat) (o : List Int) (i : Nat) (x h : Int), i + d = n → o.length = i → (∀ z ∈ o, 0 ≤ z ∧ z < 256) → 0 ≤ x → x ≤ (b.length : Int) →
    ∃ r j g, Ev (fun k => spec_l1Bytes.l0 k (n : Int) o (i : Int) b x h) (r, j, g) ∧ r.length = n ∧ (∀ z ∈ r, 0 ≤ z ∧ z < 256) ∧ 0 ≤ j ∧ j ≤ (b.length : Int)
  | 0, o, i, x, h, hd, ho, h8, h0, h1 => ⟨o, x, h, Ev.step (f := fun _ => some (o, x, h)) (fun k => by simp only [spec_l1Bytes.l0]; rw [if_neg (by omega)]) (Ev.now _), by omega, h8, h0, h1⟩
  | d + 1, o, i, x, h, hd, ho, h8, h0, h1 => by
    obtain ⟨v, j, g, e, hv, hj0, hj1⟩ := draw_byte b hb x h h0 h1
    have ev : v % 256 = v := by omega
    obtain ⟨r, j2, g2, e2, hr, hr8, hj2, hj3⟩ := draw_bytes_l0 b hb n hn d (o ++ [v]) (i + 1) j g (by omega) (by simp; omega) (fun z hz => by
      rcases List.mem_append.1 hz with hz | hz
      · exact h8 z hz
      · rw [List.mem_singleton.1 hz]; exact hv) hj0 hj1
    refine ⟨r, j2, g2, Ev.step (fun k => ?_) e2, hr, hr8, hj2, hj3⟩
    simp only [spec_l1Bytes.l0, e, Option.bind_some, ev]
    rw [if_pos (by omega), if_pos (by omega), wrap64_succ (by omega)]
theorem draw_bytes (b : List Int) (hb : b.length ≤ 1048576) (i h n : Int) (hn : n ≤ 1048576) (h0 : 0 ≤ i) (h1 : i ≤ (b.length : Int)) : ∃ r j g, Ev (fun k => spec_l1Bytes.f k b i h n) (r, j, g) ∧ r.length = n.toNat ∧ (∀ z ∈ r, 0 ≤ z ∧ z < 256) ∧ 0 ≤ j ∧ j ≤ (b.length : Int) := by
  by_cases q : 0 ≤ n
  · obtain ⟨m, rfl⟩ := Int.eq_ofNat_of_zero_le q
    obtain ⟨r, j, g, e, hr, h8, h2, h3⟩ := draw_bytes_l0 b hb m (by omega) m [] 0 i h (by omega) rfl (fun _ hz => absurd hz (by simp)) h0 h1
    exact ⟨r, j, g, e, by simpa using hr, h8, h2, h3⟩
  · refine ⟨[], i, h, ?_, by simp; omega, fun _ hz => absurd hz (by simp), h0, h1⟩
    unfold spec_l1Bytes.f
    refine Ev.step (f := fun _ => some ([], i, h)) (fun k => ?_) (Ev.now _)
    simp only [spec_l1Bytes.l0]
    rw [if_neg (by omega)]

/-- An image that is drawn: as many bytes as asked for. -/
def byteL (l : List Int) : Prop := ∀ z ∈ l, 0 ≤ z ∧ z < 256
theorem byteL_add {a b : List Int} (ha : byteL a) (hb : byteL b) : byteL (a ++ b) := fun z hz => (List.mem_append.1 hz).elim (ha z) (hb z)
theorem byteL_one {v : Int} (h : 0 ≤ v ∧ v < 256) : byteL [v] := fun z hz => by rw [List.mem_singleton.1 hz]; exact h
def Drawn1 (n : Nat) (b : List Int) (e : Nat → Option (List Int × Int × Int)) : Prop := ∃ r j g, Ev e (r, j, g) ∧ r.length = n ∧ byteL r ∧ 0 ≤ j ∧ j ≤ (b.length : Int)
theorem Drawn1.step {n : Nat} {b : List Int} {e f : Nat → Option (List Int × Int × Int)} (h : ∀ k, e (k + 1) = f k) (q : Drawn1 n b f) : Drawn1 n b e := by
  obtain ⟨r, j, g, q1, q2⟩ := q
  exact ⟨r, j, g, Ev.step h q1, q2⟩
theorem image_l1 (n : Nat) (hn : n ≤ 1048576) (b : List Int) (few v : Int) (hv : 0 ≤ v ∧ v < 256) : ∀ (m : Nat) (o : List Int) (x h : Int), byteL o → o.length + m ≤ n + 64 → 0 ≤ x → x ≤ (b.length : Int) →
    (∀ (o' : List Int) (x h : Int), byteL o' → o'.length = o.length + m → 0 ≤ x → x ≤ (b.length : Int) → Drawn1 n b (fun k => spec_l5DrawImage.l0 k (n : Int) o' few b x h)) → Drawn1 n b (fun k => spec_l5DrawImage.l1 k (n : Int) o few v (m : Int) b x h)
  | 0, o, x, h, ho, hl, h0, h1, next => by
    refine Drawn1.step (fun k => ?_) (next o x h ho rfl h0 h1)
    simp only [spec_l5DrawImage.l1]
    rw [if_neg (by omega)]
  | m + 1, o, x, h, ho, hl, h0, h1, next => by
    have ih := image_l1 n hn b few v hv m (o ++ [v]) x h (byteL_add ho (byteL_one hv)) (by simp; omega) h0 h1 (fun o' x h p q => next o' x h p (by simp at q; omega))
    refine Drawn1.step (fun k => ?_) ih
    simp only [spec_l5DrawImage.l1]
    rw [if_pos (by omega), if_pos (by omega), wrap64_id (by omega) (by omega), show ((m + 1 : Nat) : Int) - 1 = (m : Int) by omega]
theorem image_l2 (n : Nat) (hn : n ≤ 1048576) (b : List Int) (few : Int) (d : Nat) (hd : 1 ≤ d) : ∀ (m : Nat) (o : List Int) (x h : Int), byteL o → d ≤ o.length → o.length + m ≤ n + 64 → 0 ≤ x → x ≤ (b.length : Int) →
    (∀ (o' : List Int) (x h : Int), byteL o' → o'.length = o.length + m → 0 ≤ x → x ≤ (b.length : Int) → Drawn1 n b (fun k => spec_l5DrawImage.l0 k (n : Int) o' few b x h)) → Drawn1 n b (fun k => spec_l5DrawImage.l2 k (n : Int) o few (d : Int) (m : Int) b x h)
  | 0, o, x, h, ho, hdo, hl, h0, h1, next => by
    refine Drawn1.step (fun k => ?_) (next o x h ho rfl h0 h1)
    simp only [spec_l5DrawImage.l2]
    rw [if_neg (by omega)]
  | m + 1, o, x, h, ho, hdo, hl, h0, h1, next => by
    have w1 : wrap64 ((o.length : Int) - (d : Int)) = ((o.length - d : Nat) : Int) := by rw [wrap64_id (by omega) (by omega)]; omega
    have hv : 0 ≤ rd o ((o.length - d : Nat) : Int) ∧ rd o ((o.length - d : Nat) : Int) < 256 := rd_all (P := fun x => 0 ≤ x ∧ x < 256) ho (by clear w1; omega) _
    have ih := image_l2 n hn b few d hd m (o ++ [rd o ((o.length - d : Nat) : Int)]) x h (byteL_add ho (byteL_one hv)) (by clear w1; simp; omega) (by clear w1; simp; omega) h0 h1 (fun o' x h p q => next o' x h p (by clear w1; simp at q; omega))
    refine Drawn1.step (fun k => ?_) ih
    simp only [spec_l5DrawImage.l2]
    rw [w1]
    clear w1
    rw [if_pos (by omega), if_pos (by omega), if_pos (by omega), if_pos (by omega), wrap64_id (by omega) (by omega), show ((m + 1 : Nat) : Int) - 1 = (m : Int) by omega]
theorem image_l3 (n : Nat) (hn : n ≤ 1048576) (b : List Int) (hb : b.length ≤ 1048576) (few : Int) : ∀ (m : Nat) (o : List Int) (x h : Int), byteL o → o.length + m ≤ n + 64 → 0 ≤ x → x ≤ (b.length : Int) →
    (∀ (o' : List Int) (x h : Int), byteL o' → o'.length = o.length + m → 0 ≤ x → x ≤ (b.length : Int) → Drawn1 n b (fun k => spec_l5DrawImage.l0 k (n : Int) o' few b x h)) → Drawn1 n b (fun k => spec_l5DrawImage.l3 k (n : Int) o few (m : Int) b x h)
  | 0, o, x, h, ho, hl, h0, h1, next => by
    refine Drawn1.step (fun k => ?_) (next o x h ho rfl h0 h1)
    simp only [spec_l5DrawImage.l3]
    rw [if_neg (by omega)]
  | m + 1, o, x, h, ho, hl, h0, h1, next => by
    obtain ⟨v, j, g, e, _, _, hj0, hj1⟩ := draw_below b hb x h few h0 h1
    have ih := image_l3 n hn b hb few m (o ++ [(wrap64 (97 + v)) % 256]) j g (byteL_add ho (byteL_one (by generalize wrap64 (97 + v) = z; omega))) (by simp; omega) hj0 hj1 (fun o' x h p q => next o' x h p (by simp at q; omega))
    refine Drawn1.step (fun k => ?_) ih
    simp only [spec_l5DrawImage.l3, e, Option.bind_some]
    rw [if_pos (by omega), if_pos (by omega), wrap64_id (n := ((m + 1 : Nat) : Int) - 1) (by omega) (by omega), show ((m + 1 : Nat) : Int) - 1 = (m : Int) by omega]
theorem Drawn1.bindc {α : Type} {n : Nat} {b : List Int} {g : Option α} {f : Nat → α → Option (List Int × Int × Int)} {a : α} (h : g = some a) (q : Drawn1 n b (fun k => f k a)) : Drawn1 n b (fun k => g.bind (f k)) := by
  subst h; simpa using q
theorem Drawn1.bind {α : Type} {n : Nat} {b : List Int} {g : Nat → Option α} {f : Nat → α → Option (List Int × Int × Int)} {a : α} (h : Ev g a) (q : Drawn1 n b (fun k => f k a)) : Drawn1 n b (fun k => (g k).bind (f k)) := by
  obtain ⟨r, j, z, q1, q2⟩ := q
  exact ⟨r, j, z, Ev.bind h q1, q2⟩
theorem Drawn1.ifT {n : Nat} {b : List Int} {c : Prop} [Decidable c] {f g : Nat → Option (List Int × Int × Int)} (h : c) (q : Drawn1 n b f) : Drawn1 n b (fun k => if c then f k else g k) := by
  simp only [if_pos h]; exact q
theorem Drawn1.ifF {n : Nat} {b : List Int} {c : Prop} [Decidable c] {f g : Nat → Option (List Int × Int × Int)} (h : ¬ c) (q : Drawn1 n b g) : Drawn1 n b (fun k => if c then f k else g k) := by
  simp only [if_neg h]; exact q
theorem image_l0 (n : Nat) (hn : n ≤ 1048576) (b : List Int) (hb : b.length ≤ 1048576) (few : Int) : ∀ (d : Nat) (o : List Int) (x h : Int), n ≤ o.length + d → byteL o → o.length ≤ n + 64 → 0 ≤ x → x ≤ (b.length : Int) → Drawn1 n b (fun k => spec_l5DrawImage.l0 k (n : Int) o few b x h)
  | d, o, x, h, hd, ho, hl, h0, h1 => by
    by_cases hlt : (o.length : Int) < (n : Int)
    · cases d with
      | zero => omega
      | succ d =>
      have next : ∀ (m : Nat), 1 ≤ m → m ≤ 64 → ∀ (o' : List Int) (x h : Int), byteL o' → o'.length = o.length + m → 0 ≤ x → x ≤ (b.length : Int) → Drawn1 n b (fun k => spec_l5DrawImage.l0 k (n : Int) o' few b x h) :=
        fun m hm hm2 o' x h p q r s => image_l0 n hn b hb few d o' x h (by omega) p (by omega) r s
      obtain ⟨v, j, g, e, hv0, hv1, hj0, hj1⟩ := draw_below b hb x h 6 h0 h1
      have wv : ∀ (c u : Int), 0 ≤ c → c ≤ 3 → 0 ≤ u → u ≤ 2000000 → wrap64 (c + u) = c + u := fun c u p q r s => wrap64_id (by omega) (by omega)
      refine Drawn1.step (fun _ => spec_l5DrawImage.l0.eq_2 _ _ _ _ _ _ _) (Drawn1.ifT hlt (Drawn1.bindc e ?_))
      have hj2 : ∀ c : Bool, Drawn1 n b (fun k => spec_l5DrawImage.j2 k (n : Int) o few v c b j g) := by
        intro c
        refine Drawn1.step (fun _ => spec_l5DrawImage.j2.eq_2 _ _ _ _ _ _ _ _ _) ?_
        cases c with
        | true =>
          refine Drawn1.ifT rfl ?_
          by_cases hz : (o.length : Int) = 0
          · exact Drawn1.ifT hz (Drawn1.ifT (by omega) (next 1 (by omega) (by omega) _ _ _ (byteL_add ho (byteL_one (by omega))) (by simp) hj0 hj1))
          · obtain ⟨v2, j2, g2, e2, p2, q2, r2, s2⟩ := draw_below b hb j g (o.length : Int) hj0 hj1
            obtain ⟨v3, j3, g3, e3, p3, q3, r3, s3⟩ := draw_below b hb j2 g2 30 r2 s2
            have q2 := q2 (by omega)
            have q3 := q3 (by omega)
            obtain ⟨a2, rfl⟩ := Int.eq_ofNat_of_zero_le p2
            obtain ⟨a3, rfl⟩ := Int.eq_ofNat_of_zero_le p3
            refine Drawn1.ifF hz (Drawn1.bindc e2 (Drawn1.bindc e3 ?_))
            simp only
            rw [wv 1 (a2 : Int) (by omega) (by omega) (by omega) (by omega), wv 3 (a3 : Int) (by omega) (by omega) (by omega) (by omega), show (1 : Int) + (a2 : Int) = ((1 + a2 : Nat) : Int) by omega, show (3 : Int) + (a3 : Int) = ((3 + a3 : Nat) : Int) by omega]
            exact image_l2 n hn b few (1 + a2) (by omega) (3 + a3) o j3 g3 ho (by omega) (by omega) r3 s3 (next (3 + a3) (by omega) (by omega))
        | false =>
          refine Drawn1.ifF (by decide) ?_
          by_cases hz : v = 3
          · obtain ⟨v2, j2, g2, e2, p2, q2, r2, s2⟩ := draw_below b hb j g 12 hj0 hj1
            have q2 := q2 (by omega)
            obtain ⟨rr, j3, g3, e3, hr, h8, r3, s3⟩ := draw_bytes b hb j2 g2 (1 + v2) (by omega) r2 s2
            refine Drawn1.ifT hz (Drawn1.bindc e2 (Drawn1.bind (a := (rr, j3, g3)) (by simp only; rw [wv 1 v2 (by omega) (by omega) (by omega) (by omega)]; exact e3) (Drawn1.ifT (by simp only; omega) ?_)))
            exact next rr.length (by omega) (by omega) _ _ _ (byteL_add ho h8) (by simp) r3 s3
          · obtain ⟨v2, j2, g2, e2, p2, q2, r2, s2⟩ := draw_below b hb j g 16 hj0 hj1
            have q2 := q2 (by omega)
            obtain ⟨a2, rfl⟩ := Int.eq_ofNat_of_zero_le p2
            refine Drawn1.ifF hz (Drawn1.bindc e2 ?_)
            simp only
            rw [wv 1 (a2 : Int) (by omega) (by omega) (by omega) (by omega), show (1 : Int) + (a2 : Int) = ((1 + a2 : Nat) : Int) by omega]
            exact image_l3 n hn b hb few (1 + a2) o j2 g2 ho (by omega) r2 s2 (next (1 + a2) (by omega) (by omega))
      by_cases hz : v = 0
      · obtain ⟨v2, j2, g2, e2, p2, r2, s2⟩ := draw_byte b hb j g hj0 hj1
        obtain ⟨v3, j3, g3, e3, p3, q3, r3, s3⟩ := draw_below b hb j2 g2 40 r2 s2
        have q3 := q3 (by omega)
        obtain ⟨a3, rfl⟩ := Int.eq_ofNat_of_zero_le p3
        refine Drawn1.ifT hz (Drawn1.bindc e2 (Drawn1.bindc e3 ?_))
        simp only
        rw [wv 3 (a3 : Int) (by omega) (by omega) (by omega) (by omega), show (3 : Int) + (a3 : Int) = ((3 + a3 : Nat) : Int) by omega]
        exact image_l1 n hn b few (v2 % 256) (by omega) (3 + a3) o j3 g3 ho (by omega) r3 s3 (next (3 + a3) (by omega) (by omega))
      · refine Drawn1.ifF hz ?_
        by_cases hz1 : v = 1
        · exact Drawn1.ifT hz1 (hj2 _)
        · exact Drawn1.ifF hz1 (hj2 _)
    · refine Drawn1.step (f := fun _ => some (o.take n, x, h)) (fun k => ?_) ⟨_, x, h, Ev.now _, by simp; omega, fun z hz => ho z (List.mem_of_mem_take hz), h0, h1⟩
      simp only [spec_l5DrawImage.l0]
      rw [if_neg hlt, if_pos (by omega), if_pos (by omega)]
      simp
theorem draw_image (n : Nat) (hn : n ≤ 1048576) (b : List Int) (hb : b.length ≤ 1048576) (x h : Int) (h0 : 0 ≤ x) (h1 : x ≤ (b.length : Int)) : Drawn1 n b (fun k => spec_l5DrawImage.f k b x h (n : Int)) := by
  unfold spec_l5DrawImage.f
  obtain ⟨v, j, g, e, hv0, hv1, hj0, hj1⟩ := draw_below b hb x h 6 h0 h1
  exact Drawn1.bindc e (image_l0 n hn b hb _ n [] j g (by simp) (fun _ hz => absurd hz (by simp)) (by simp) hj0 hj1)

/-- Are all tokens of a list fine? (impl_Token_93_of_impl_tokensOk_1: the search, impl_Token_84_of_impl_tokensOk_1: whether it finds.) -/
def tokOk (t : S78) : Bool := decide ((t.f0 = 1 ∧ 0 ≤ t.f1 ∧ t.f1 ≤ 255 ∧ t.f2 = 0 ∧ t.f3 = 0) ∨ (t.f0 = 2 ∧ t.f1 = 0 ∧ 3 ≤ t.f2 ∧ t.f2 ≤ 66 ∧ 1 ≤ t.f3 ∧ t.f3 ≤ 256))
theorem implTokenOk_tell (a b c d : Int) : impl_TokenOk.f a b c d = some (tokOk ⟨a, b, c, d⟩) := by
  unfold impl_TokenOk.f tokOk
  simp only [in_tell, Option.bind_some, decide_eq_true_eq]
  by_cases h1 : a = 1
  · rw [if_pos h1]
    by_cases h2 : 0 ≤ b ∧ b ≤ 255
    · rw [if_pos h2]
      by_cases h3 : c = 0
      · rw [if_pos h3]
        congr 1
        rw [Bool.eq_iff_iff, decide_eq_true_eq, beq_iff_eq]
        constructor
        · intro q; exact .inl ⟨h1, h2.1, h2.2, h3, q⟩
        · intro q; omega
      · rw [if_neg h3]
        congr 1
        symm; rw [decide_eq_false_iff_not]; omega
    · rw [if_neg h2]
      congr 1
      symm; rw [decide_eq_false_iff_not]; omega
  · rw [if_neg h1]
    by_cases h2 : a = 2
    · rw [if_pos h2]
      by_cases h3 : b = 0
      · rw [if_pos h3]
        by_cases h4 : 3 ≤ c ∧ c ≤ 66
        · rw [if_pos h4]
          congr 1
          rw [Bool.eq_iff_iff, decide_eq_true_eq, decide_eq_true_eq]
          omega
        · rw [if_neg h4]
          congr 1
          symm; rw [decide_eq_false_iff_not]; omega
      · rw [if_neg h3]
        congr 1
        symm; rw [decide_eq_false_iff_not]; omega
    · rw [if_neg h2]
      congr 1
      symm; rw [decide_eq_false_iff_not]; omega
theorem tokensOk_l0 (l : List S78) (hl : l.length ≤ 1048576) : ∀ (d i : Nat), i + d = l.length → ∃ r : Int, decide (r ≥ 0) = !(l.drop i).all tokOk ∧ Ev (fun k => impl_Token_93_of_impl_tokensOk_1.l0 k l (l.length : Int) (i : Int)) r
  | 0, i, hi => by
    refine ⟨-1, by rw [List.drop_of_length_le (by omega)]; rfl, Ev.step (f := fun _ => some (-1)) (fun k => ?_) (Ev.now _)⟩
    simp only [impl_Token_93_of_impl_tokensOk_1.l0]
    rw [if_neg (by omega)]
  | d + 1, i, hi => by
    obtain ⟨r, h1, h2⟩ := tokensOk_l0 l hl d (i + 1) (by omega)
    have e3 : l.drop i = l[i]'(by omega) :: l.drop (i + 1) := List.drop_eq_getElem_cons (by omega)
    have g1 : (i : Int) < (l.length : Int) := by omega
    have g2 : (0 : Int) ≤ (i : Int) := by omega
    have er : rd_T78 l (i : Int) = l[i]'(by omega) := by simp [rd_T78, List.getElem?_eq_getElem (show i < l.length by omega)]
    by_cases hb : tokOk (l[i]'(by omega)) = true
    · refine ⟨r, ?_, Ev.step (fun k => ?_) h2⟩
      · rw [h1, e3, List.all_cons, hb, Bool.true_and]
      · simp only [impl_Token_93_of_impl_tokensOk_1.l0, impl_tokensOk_1.f]
        rw [if_pos g1, if_pos g2, if_pos g1, er, implTokenOk_tell]
        simp only [Option.bind_some]
        rw [hb, wrap64_succ (by omega)]
        simp
    · refine ⟨(i : Int), ?_, Ev.step (f := fun _ => some (i : Int)) (fun k => ?_) (Ev.now _)⟩
      · rw [e3, List.all_cons, Bool.eq_false_iff.2 hb, Bool.false_and, Bool.not_false, decide_eq_true_eq]; omega
      · simp only [impl_Token_93_of_impl_tokensOk_1.l0, impl_tokensOk_1.f]
        rw [if_pos g1, if_pos g2, if_pos g1, er, implTokenOk_tell]
        simp only [Option.bind_some]
        rw [Bool.eq_false_iff.2 hb]
        simp
theorem tokensOk_ev (l : List S78) (hl : l.length ≤ 1048576) : Ev (fun k => impl_tokensOk.f k l) (decide (l.length ≤ 1024) && l.all tokOk) := by
  unfold impl_tokensOk.f impl_Token_84_of_impl_tokensOk_1.f impl_Token_93_of_impl_tokensOk_1.f
  by_cases h : (l.length : Int) ≤ 1024
  · obtain ⟨r, h1, h2⟩ := tokensOk_l0 l hl l.length 0 (by omega)
    refine Ev.ifT h (Ev.bind (a := decide (r ≥ 0)) (Ev.bind h2 (Ev.now _)) (Ev.const ?_))
    rw [h1, decide_eq_true (show l.length ≤ 1024 by omega)]
    simp
  · refine Ev.ifF h (Ev.const ?_)
    rw [decide_eq_false (by omega)]; rfl

/-- What tokens that were made of a list expand to. -/
theorem makes_ok (l : List Int) (h8 : ∀ x ∈ l, 0 ≤ x ∧ x < 256) : ∀ {a : Nat} {q : List S78}, Makes l a q → q.all tokOk = true
  | _, _, .done _ _ => rfl
  | _, _, .byte a r h m => by
    have b := rd_all (P := fun x => 0 ≤ x ∧ x < 256) h8 (by omega) (a : Int)
    rw [List.all_cons, makes_ok l h8 m, Bool.and_true]
    unfold tokOk
    rw [decide_eq_true_eq]; left
    exact ⟨rfl, b.1, by simp only; omega, rfl, rfl⟩
  | _, _, .copy a n f r h1 h2 h3 h4 h5 h6 h7 m => by
    rw [List.all_cons, makes_ok l h8 m, Bool.and_true]
    unfold tokOk
    rw [decide_eq_true_eq]; right
    exact ⟨rfl, rfl, by simp only; omega, by simp only; omega, by simp only; omega, by simp only; omega⟩
theorem take_more (l : List Int) (a : Nat) (h : a < l.length) : l.take a ++ [rd l (a : Int)] = l.take (a + 1) := by
  rw [rd_get l a h, List.take_succ_eq_append_getElem h]
theorem rd_take (l : List Int) (a i : Nat) (h : i < a) : rd (l.take a) (i : Int) = rd l (i : Int) := by
  unfold rd
  simp only [Int.toNat_natCast, List.getD_eq_getElem?_getD]
  rw [List.getElem?_take_of_lt h]
theorem expand_l1 (l : List Int) (hl : l.length ≤ 1024) (r : List S78) (most : Int) (i : Int) (a n f : Nat) (h5 : 1 ≤ f) (hfa : f ≤ a) (h6 : a + n ≤ l.length) (h7 : ∀ j : Nat, j < n → rd l ((a : Int) + j) = rd l ((a : Int) + j - f)) (len : Int) (R : List Int × Int)
    (next : Ev (fun k => impl_Expand.l0 k [] most (l.take (a + n)) r (r.length : Int) (wrap64 (i + 1))) R) : ∀ (d j : Nat), j + d = n → Ev (fun k => impl_Expand.l1 k [] most (l.take (a + j)) r (r.length : Int) i (n : Int) (j : Int) 2 0 len (f : Int)) R
  | 0, j, hj => by
    obtain rfl : j = n := by omega
    refine Ev.step (fun k => ?_) next
    simp only [impl_Expand.l1]
    rw [if_neg (by omega)]
  | d + 1, j, hj => by
    have ih := expand_l1 l hl r most i a n f h5 hfa h6 h7 len R next d (j + 1) (by omega)
    have tl : (l.take (a + j)).length = a + j := by simp; omega
    have w1 : wrap64 (((a + j : Nat) : Int) - (f : Int)) = ((a + j - f : Nat) : Int) := by rw [wrap64_id (by omega) (by omega)]; omega
    have e : rd (l.take (a + j)) ((a + j - f : Nat) : Int) = rd l ((a + j : Nat) : Int) := by
      rw [rd_take l (a + j) (a + j - f) (by clear w1; omega)]
      have := h7 j (by clear w1; omega)
      rw [show ((a + j : Nat) : Int) = (a : Int) + (j : Int) by clear w1; omega, this]
      congr 1
      clear w1
      omega
    refine Ev.step (fun k => ?_) ih
    simp only [impl_Expand.l1, tl]
    rw [w1, e]
    clear w1
    rw [if_pos (by omega), if_pos trivial, if_pos (by omega), if_pos (by omega), if_pos (by omega), take_more l (a + j) (by omega), wrap64_succ (by omega)]
    rfl
theorem expand_go (l : List Int) (h8 : ∀ x ∈ l, 0 ≤ x ∧ x < 256) (hl : l.length ≤ 1024) (r : List S78) (hr : r.length ≤ 1024) (most : Nat) (hm : most ≤ 1024) : ∀ (d i a : Nat), i + d = r.length → a ≤ l.length → a ≤ most → Makes l a (r.drop i) →
    Ev (fun k => impl_Expand.l0 k [] (most : Int) (l.take a) r (r.length : Int) (i : Int)) (if l.length ≤ most then (l, 0) else ([], 3))
  | 0, i, a, hi, ha, hma, m => by
    rw [List.drop_of_length_le (by omega)] at m
    cases m with
    | done _ h =>
      have ha2 : a = l.length := by omega
      rw [if_pos (by omega), ha2, List.take_length]
      refine Ev.step (f := fun _ => some (l, 0)) (fun k => ?_) (Ev.now _)
      simp only [impl_Expand.l0]
      rw [if_neg (by omega), if_pos (by simp), if_pos (by simp)]
      have cl : slices_Clone_byte_byte.f l = some l := by
        unfold slices_Clone_byte_byte.f
        simp only [Option.bind_some, List.nil_append, List.length_nil, Nat.zero_add]
        rw [if_pos (by omega)]
      rw [show l.drop ((([] : List Int).length : Int)).toNat = l from rfl, cl]
      rfl
  | d + 1, i, a, hi, ha, hma, m => by
    have e3 : r.drop i = r[i]'(by omega) :: r.drop (i + 1) := List.drop_eq_getElem_cons (by omega)
    have er : rd_T78 r (i : Int) = r[i]'(by omega) := by simp [rd_T78, List.getElem?_eq_getElem (show i < r.length by omega)]
    have g0 : (i : Int) < (r.length : Int) := by omega
    have g1 : (0 : Int) ≤ (i : Int) := by omega
    have tl : (l.take a).length = a := by simp; omega
    have wi : wrap64 ((i : Int) + 1) = ((i + 1 : Nat) : Int) := wrap64_succ (by omega)
    rw [e3] at m
    generalize hx : r[i]'(by omega) = x at m er
    cases m with
    | byte _ _ h m =>
      have w1 : wrap64 (((a : Nat) : Int) - (([] : List Int).length : Int)) = (a : Int) := by simp; exact wrap64_id (by clear wi; omega) (by clear wi; omega)
      have w2 : wrap64 ((a : Int) + 1) = ((a + 1 : Nat) : Int) := wrap64_succ (by clear wi w1; omega)
      have hj : ∀ R, (most < a + 1 → R = ([], 3)) → (a + 1 ≤ most → Ev (fun k => impl_Expand.l0 k [] (most : Int) (l.take (a + 1)) r (r.length : Int) ((i + 1 : Nat) : Int)) R) →
          Ev (fun k => impl_Expand.j2 k [] (most : Int) (l.take a) 1 r (r.length : Int) (i : Int) 1 (rd l (a : Int)) 0 0) R := by
        intro R p q
        refine Ev.step (fun _ => impl_Expand.j2.eq_2 _ _ _ _ _ _ _ _ _ _ _ _) ?_
        rw [tl, w1, w2]
        by_cases hq : most < a + 1
        · rw [p hq]
          exact Ev.ifT (by clear wi w1 w2; omega) (Ev.now _)
        · refine Ev.ifF (by clear wi w1 w2; omega) ?_
          have b := rd_all (P := fun x => 0 ≤ x ∧ x < 256) h8 (by clear wi w1 w2; omega) (a : Int)
          have qq := q (by clear wi w1 w2; omega)
          refine Ev.step (fun k => impl_Expand.l1.eq_2 _ _ _ _ _ _ _ _ _ _ _ _ _) (Ev.ifT (by clear wi w1 w2; omega) (Ev.ifF (by decide) (Ev.ifT (by rw [tl]; clear wi w1 w2; omega) (Ev.step (f := fun k => impl_Expand.l0 k [] (most : Int) (l.take a ++ [rd l (a : Int) % 256]) r (r.length : Int) (wrap64 ((i : Int) + 1))) (fun k => ?_) ?_))))
          · simp only [impl_Expand.l1]
            rw [if_neg (show ¬ wrap64 (0 + 1) < 1 from by decide +kernel)]
          · rw [wi, show rd l (a : Int) % 256 = rd l (a : Int) by clear wi w1 w2; omega, take_more l a h]
            exact qq
      refine Ev.step (f := fun k => impl_Expand.j2 k [] (most : Int) (l.take a) 1 r (r.length : Int) (i : Int) 1 (rd l (a : Int)) 0 0) (fun k => ?_) (hj _ (fun q => ?_) (fun q => ?_))
      · simp only [impl_Expand.l0]
        rw [if_pos g0, if_pos g1, if_pos g0, er]
        rfl
      · rw [if_neg (by clear wi w1 w2; omega)]
      · exact expand_go l h8 hl r hr most hm d (i + 1) (a + 1) (by clear wi w1 w2; omega) (by clear wi w1 w2; omega) (by clear wi w1 w2; omega) m
    | copy _ n f _ h1 h2 h3 h4 h5 h6 h7 m =>
      have w1 : wrap64 (((a : Nat) : Int) - (([] : List Int).length : Int)) = (a : Int) := by simp; exact wrap64_id (by clear wi; omega) (by clear wi; omega)
      have w2 : wrap64 ((a : Int) + (n : Int)) = ((a + n : Nat) : Int) := by rw [wrap64_id (by clear wi w1; omega) (by clear wi w1; omega)]; simp
      have hj : ∀ R, (most < a + n → R = ([], 3)) → (a + n ≤ most → Ev (fun k => impl_Expand.l0 k [] (most : Int) (l.take (a + n)) r (r.length : Int) ((i + 1 : Nat) : Int)) R) →
          Ev (fun k => impl_Expand.j2 k [] (most : Int) (l.take a) (n : Int) r (r.length : Int) (i : Int) 2 0 (n : Int) (f : Int)) R := by
        intro R p q
        refine Ev.step (fun _ => impl_Expand.j2.eq_2 _ _ _ _ _ _ _ _ _ _ _ _) ?_
        rw [tl, w1, w2]
        by_cases hq : most < a + n
        · rw [p hq]
          exact Ev.ifT (by clear wi w1 w2; omega) (Ev.now _)
        · refine Ev.ifF (by clear wi w1 w2; omega) ?_
          have qq := q (by clear wi w1 w2; omega)
          rw [← wi] at qq
          clear wi w1 w2
          exact expand_l1 l hl r (most : Int) (i : Int) a n f h3 h5 h6 h7 (n : Int) R qq n 0 (by omega)
      refine Ev.step (f := fun k => impl_Expand.j2 k [] (most : Int) (l.take a) (n : Int) r (r.length : Int) (i : Int) 2 0 (n : Int) (f : Int)) (fun k => ?_) (hj _ (fun q => ?_) (fun q => ?_))
      · simp only [impl_Expand.l0]
        rw [if_pos g0, if_pos g1, if_pos g0, er]
        simp only
        rw [if_pos trivial, if_neg (by rw [tl]; clear wi w1 w2; omega)]
      · rw [if_neg (by clear wi w1 w2; omega)]
      · exact expand_go l h8 hl r hr most hm d (i + 1) (a + n) (by clear wi w1 w2; omega) (by clear wi w1 w2; omega) (by clear wi w1 w2; omega) m
theorem expand_made (l : List Int) (h8 : ∀ x ∈ l, 0 ≤ x ∧ x < 256) (hl : l.length ≤ 1024) (r : List S78) (hr : r.length ≤ 1024) (m : Makes l 0 r) (most : Nat) (hm : most ≤ 1024) : Ev (fun k => impl_Expand.f k [] r (most : Int)) (if l.length ≤ most then (l, 0) else ([], 3)) := by
  unfold impl_Expand.f
  have t := tokensOk_ev r (by omega)
  rw [makes_ok l h8 m, decide_eq_true hr] at t
  have e := expand_go l h8 hl r hr most hm r.length 0 0 (by omega) (by omega) (by omega) (by simpa using m)
  refine Ev.bind t (Ev.ifT rfl (Ev.ifF (by simp) (Ev.bindc (in_tell _ _ _) (Ev.step (fun _ => impl_Expand.j0.eq_2 _ _ _ _ _) (Ev.ifF ?_ (Ev.bindc (a := []) (by simp [slices_Clone_byte_byte.f]) e))))))
  rw [decide_eq_true (by omega)]; decide

theorem at_tell (l : List Int) (a : Int) (h8 : ∀ x ∈ l, 0 ≤ x ∧ x < 256) (hl : l.length ≤ 1048576) (h0 : 0 ≤ a) (h1 : a ≤ 1000) : ∃ v, laws_at.f l a = some v ∧ 0 ≤ v ∧ v < 256 := by
  unfold laws_at.f
  by_cases q : a < (l.length : Int)
  · have b := rd_all (P := fun x => 0 ≤ x ∧ x < 256) h8 (by omega) a
    rw [if_pos q, if_pos h0, wrap64_id (by omega) (by omega)]
    exact ⟨_, rfl, b⟩
  · rw [if_neg q]
    have w1 : wrap64 (a * 31) = a * 31 := wrap64_id (by omega) (by omega)
    have w2 : wrap64 ((l.length : Int) * 7) = (l.length : Int) * 7 := wrap64_id (by clear w1; omega) (by clear w1; omega)
    have w3 : wrap64 (a * 31 + (l.length : Int) * 7) = a * 31 + (l.length : Int) * 7 := wrap64_id (by clear w1 w2; omega) (by clear w1 w2; omega)
    rw [w1, w2, w3]
    clear w1 w2 w3
    have t : Int.tmod (a * 31 + (l.length : Int) * 7) 256 = (a * 31 + (l.length : Int) * 7) % 256 := Int.tmod_eq_emod_of_nonneg (by omega)
    exact ⟨_, rfl, by rw [t]; omega, by rw [t]; omega⟩

theorem draw_imageOf (l : List Int) (hl : l.length ≤ 1048576) : ∃ r, Ev (fun k => spec_DrawImage.f k l) r ∧ r.length ≤ 1024 ∧ byteL r := by
  obtain ⟨g, e0⟩ := draw_new l hl
  have sz : ∃ s, spec_l1Size.f l 60 = some s ∧ 0 ≤ s ∧ s ≤ 60 := by
    unfold spec_l1Size.f
    have w1 : wrap64 ((l.length : Int) / 12) = (l.length : Int) / 12 := wrap64_id (by omega) (by omega)
    have w2 : wrap64 (3 + (l.length : Int) / 12) = 3 + (l.length : Int) / 12 := wrap64_id (by clear w1; omega) (by clear w1; omega)
    rw [w1, w2]
    clear w1 w2
    by_cases q : 3 + (l.length : Int) / 12 > 60
    · rw [if_pos q]; exact ⟨_, rfl, by omega, by omega⟩
    · rw [if_neg q]; exact ⟨_, rfl, by omega, by omega⟩
  obtain ⟨s, e1, s0, s1⟩ := sz
  have w4 : wrap64 (4 * s) = 4 * s := wrap64_id (by omega) (by omega)
  obtain ⟨v, j, g1, e2, v0, v1, j0, j1⟩ := draw_below l hl 0 g (4 * s) (by clear w4; omega) (by clear w4; omega)
  have hv : v ≤ 240 := by
    clear w4
    by_cases q : 0 < 4 * s
    · have := v1 q; omega
    · have : spec_l1Below.f l 0 g (4 * s) = some (0, 0, g) := by unfold spec_l1Below.f; rw [if_pos (by omega)]
      rw [this] at e2
      simp only [Option.some.injEq, Prod.mk.injEq] at e2
      omega
  obtain ⟨m, rfl⟩ := Int.eq_ofNat_of_zero_le v0
  obtain ⟨o, j2, g2, e3, p2, q2⟩ := draw_once l hl j g1 50 j0 j1
  unfold spec_DrawImage.f
  rw [← w4] at e2
  clear w4
  cases o with
  | true =>
    obtain ⟨r, j3, g3, e4, hr, h8, _, _⟩ := draw_image 1024 (by omega) l hl j2 g2 p2 q2
    exact ⟨r, Ev.bind e0 (Ev.bindc e1 (Ev.bindc e2 (Ev.bindc e3 (Ev.ifT rfl (Ev.bind e4 (Ev.now _)))))), by omega, h8⟩
  | false =>
    obtain ⟨r, j3, g3, e4, hr, h8, _, _⟩ := draw_image m (by omega) l hl j2 g2 p2 q2
    exact ⟨r, Ev.bind e0 (Ev.bindc e1 (Ev.bindc e2 (Ev.bindc e3 (Ev.ifF (show ¬ false = true by decide) (Ev.bind e4 (Ev.now _)))))), by omega, h8⟩
theorem FnTokens : laws_FnTokens.Pure := by
  intro l _ _ hw
  have h8 := wf_all_u8 hw
  refine Ev.rounds ?_
  unfold laws_FnTokens.f laws_big.f
  simp only [Option.bind_some]
  by_cases h1 : (l.length : Int) > 1048576
  · exact Ev.ifT (by simpa using h1) (Ev.now _)
  refine Ev.ifF (by simpa using h1) ?_
  obtain ⟨p, e, hp, hp8⟩ := draw_imageOf l (by omega)
  obtain ⟨v2, a2, b2⟩ := at_tell l 2 h8 (by omega) (by omega) (by omega)
  obtain ⟨r, c, mk, _, i⟩ := tokens_go p ((Int.tmod v2 2) == 0) hp8 hp p.length 0 [] (by omega) (by omega) (by simp)
  rw [List.nil_append] at i
  have it : Ev (fun k => impl_Tokens.f k p ((Int.tmod v2 2) == 0)) r := by
    unfold impl_Tokens.f
    exact Ev.ifF (by omega) i
  have x1 := expand_made p hp8 hp r (by omega) mk 1024 (by omega)
  rw [if_pos (by omega)] at x1
  refine Ev.bind e (Ev.bindc a2 (Ev.bind it (Ev.bind x1 (Ev.ifT rfl (Ev.bind (sameBytes_tell p p (by omega)) ?_)))))
  rw [decide_eq_true rfl, Bool.not_true]
  refine Ev.step (fun _ => laws_FnTokens.j0.eq_2 _ _ _ _) (Ev.ifF (by decide) ?_)
  by_cases hz : (p.length : Int) = 0
  · refine Ev.ifT hz (Ev.const ?_)
    have : r.length = 0 := by omega
    rw [this]; rfl
  · have x2 := expand_made p hp8 hp r (by omega) mk (p.length - 1) (by omega)
    rw [if_neg (by omega)] at x2
    have w : wrap64 ((p.length : Int) - 1) = ((p.length - 1 : Nat) : Int) := by rw [wrap64_id (by omega) (by omega)]; omega
    refine Ev.ifF hz ?_
    rw [w]
    exact Ev.bind x2 (Ev.now _)

end Go.Proofs.Ytdilibnfihcmkaa.Pure
