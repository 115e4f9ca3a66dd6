/- The plain law of FnExactLongest, over numbers and lists alone: what the printed functions answer is true for all arguments. Conditions: those of the arguments' kinds. -/
import Derived.Test.YtclejdchdfmapacPFnExactLongestx2
import Derived.Test.YtclejdchdfmapacAid
set_option linter.unusedVariables false
set_option linter.unusedSimpArgs false
namespace Go.Proofs.Ytclejdchdfmapac.Pure
open Go.RowKit Go.Proofs.Ytclejdchdfmapac.Aid Go.Proofs.Ytclejdchdfmapac.PFnExactLongest Go.Proofs.YtclejdchdfmapacW.PrintWords Go.Proofs.YtclejdchdfmapacW.PrintLast Go.Proofs.YtclejdchdfmapacW.PrintMore
theorem in_tell (a b c : Int) : impl_in.f a b c = some (decide (b ≤ a ∧ a ≤ c)) := by
  unfold impl_in.f
  by_cases h : a ≥ b
  · rw [if_pos h]; congr 1; rw [Bool.eq_iff_iff]; simp only [decide_eq_true_eq]; omega
  · rw [if_neg h]; congr 1; symm; rw [decide_eq_false_iff_not]; omega

theorem l1In_tell (a b c : Int) : spec_l1In.f a b c = some (decide (b ≤ a ∧ a ≤ c)) := by
  unfold spec_l1In.f
  by_cases h : a ≥ b
  · rw [if_pos h]; congr 1; rw [Bool.eq_iff_iff]; simp only [decide_eq_true_eq]; omega
  · rw [if_neg h]; congr 1; symm; rw [decide_eq_false_iff_not]; omega

theorem toByteS_l0 (l : List Int) (hl : l.length ≤ 140737488351232) : ∀ (d : Nat) (x : List Int) (i : Nat), x.length = l.length → i + d = l.length → x.take i = l.take i → Ev (fun k => laws_toByteS.l0 k l x (i : Int)) l
  | 0, x, i, hx, hi, ht => by
    refine Ev.step (f := fun _ => some l) (fun k => ?_) (Ev.now _)
    simp only [laws_toByteS.l0]
    rw [if_neg (by omega)]
    congr 1
    rw [List.take_of_length_le (by omega), List.take_of_length_le (by omega)] at ht
    exact ht
  | d + 1, x, i, hx, hi, ht => by
    have ih := toByteS_l0 l hl d (x.set i (rd l i)) (i + 1) (by simpa using hx) (by omega) (by
      rw [List.take_succ_eq_append_getElem (by simp; omega), List.take_succ_eq_append_getElem (by omega), List.take_set_of_le (by omega), ht]
      simp [rd, List.getElem?_eq_getElem (show i < l.length by omega)])
    refine Ev.step (fun k => ?_) ih
    simp only [laws_toByteS.l0]
    rw [if_pos (by omega), if_pos (by omega), if_pos (by omega), wrap64_id (by omega) (by omega)]
    simp
theorem toByteS_ev (l : List Int) (hl : l.length ≤ 140737488351232) : Ev (fun k => laws_toByteS.f k l) l := by
  refine Ev.congr (fun k => ?_) (toByteS_l0 l hl l.length (List.replicate l.length 0) 0 (by simp) (by simp) (by simp))
  simp only [laws_toByteS.f]
  rw [if_pos (by omega), if_pos (by omega)]
  simp

theorem eqByteS_l0 (l : List Int) (hl : l.length ≤ 140737488351232) : ∀ (d : Nat) (i : Nat), i + d = l.length → Ev (fun k => laws_eqByteS.l0 k l l (i : Int)) true
  | 0, i, hi => by
    refine Ev.step (f := fun _ => some true) (fun k => ?_) (Ev.now _)
    simp only [laws_eqByteS.l0]
    rw [if_neg (by omega)]
  | d + 1, i, hi => by
    have ih := eqByteS_l0 l hl d (i + 1) (by omega)
    refine Ev.step (fun k => ?_) ih
    simp only [laws_eqByteS.l0]
    rw [if_pos (by omega), if_pos (by omega), if_pos (by omega), wrap64_id (by omega) (by omega)]
    simp
theorem eqByteS_ev (l : List Int) (hl : l.length ≤ 140737488351232) : Ev (fun k => laws_eqByteS.f k l l) true := by
  refine Ev.congr (fun k => ?_) (eqByteS_l0 l hl l.length 0 (by simp))
  simp only [laws_eqByteS.f]
  simp

/-- What Longest may tell at a place: nothing, or a match that is there. -/
def Match (l : List Int) (a : Nat) (b f : Int) : Prop :=
  (b = 0 ∧ f = 0) ∨ (3 ≤ b ∧ b ≤ 66 ∧ 1 ≤ f ∧ f ≤ 256 ∧ f ≤ (a : Int) ∧ (a : Int) + b ≤ l.length ∧ ∀ j : Nat, (j : Int) < b → rd l ((a : Int) + j) = rd l ((a : Int) + j - f))
def Both (l : List Int) (a : Nat) (b f x : Int) : Prop :=
  ∃ r : Int × Int, Match l a r.1 r.2 ∧ Ev (fun k => spec_Longest.l0 k l (a : Int) b f x) r ∧ Ev (fun k => impl_Longest.l0 k l (a : Int) b f x) r
theorem longest_l1 (l : List Int) (hl : l.length ≤ 1024) (a : Nat) (ha : a < l.length) (x : Nat) (hx : 1 ≤ x) (hxa : x ≤ a) (hx2 : x ≤ 256) (next : ∀ b f : Int, Match l a b f → Both l a b f ((x + 1 : Nat) : Int)) :
    ∀ (d n : Nat), n + d = 66 → ∀ (b f : Int), Match l a b f → (∀ j : Nat, j < n → rd l ((a : Int) + j) = rd l ((a : Int) + j - x)) → (a : Int) + n ≤ l.length →
      ∃ r : Int × Int, Match l a r.1 r.2 ∧ Ev (fun k => spec_Longest.l1 k l (a : Int) b f (x : Int) (n : Int)) r ∧ Ev (fun k => impl_Longest.l1 k l (a : Int) b f (x : Int) (n : Int)) r := by
  -- the end of the inner loop
  have stop : ∀ (n : Nat) (b f : Int), n ≤ 66 → Match l a b f → (∀ j : Nat, j < n → rd l ((a : Int) + j) = rd l ((a : Int) + j - x)) → (a : Int) + n ≤ l.length →
      ∃ r : Int × Int, Match l a r.1 r.2 ∧ Ev (fun k => if (n : Int) ≥ 3 then (if (n : Int) > b then spec_Longest.l0 k l (a : Int) n x (wrap64 ((x : Int) + 1)) else spec_Longest.l0 k l (a : Int) b f (wrap64 ((x : Int) + 1))) else spec_Longest.l0 k l (a : Int) b f (wrap64 ((x : Int) + 1))) r ∧
        Ev (fun k => if (n : Int) ≥ 3 then (if (n : Int) > b then impl_Longest.l0 k l (a : Int) n x (wrap64 ((x : Int) + 1)) else impl_Longest.l0 k l (a : Int) b f (wrap64 ((x : Int) + 1))) else impl_Longest.l0 k l (a : Int) b f (wrap64 ((x : Int) + 1))) r := by
    intro n b f hn hm he hle
    by_cases h : (n : Int) ≥ 3 ∧ (n : Int) > b
    · obtain ⟨r, h1, h2, h3⟩ := next n x (.inr ⟨h.1, by omega, by omega, by omega, by omega, hle, fun j hj => he j (by omega)⟩)
      rw [wrap64_succ (by omega)]
      exact ⟨r, h1, Ev.ifT h.1 (Ev.ifT h.2 h2), Ev.ifT h.1 (Ev.ifT h.2 h3)⟩
    · obtain ⟨r, h1, h2, h3⟩ := next b f hm
      rw [wrap64_succ (by omega)]
      by_cases h5 : (n : Int) ≥ 3
      · have h6 : ¬ (n : Int) > b := fun q => h ⟨h5, q⟩
        exact ⟨r, h1, Ev.ifT h5 (Ev.ifF h6 h2), Ev.ifT h5 (Ev.ifF h6 h3)⟩
      · exact ⟨r, h1, Ev.ifF h5 h2, Ev.ifF h5 h3⟩
  intro d
  induction d with
  | zero =>
    intro n hn b f hm he hle
    obtain ⟨r, h1, h2, h3⟩ := stop n b f (by omega) hm he hle
    have g : ¬ (n : Int) < 66 := by omega
    refine ⟨r, h1, Ev.step (fun k => ?_) h2, Ev.step (fun k => ?_) h3⟩
    · simp only [spec_Longest.l1]; rw [if_neg g]
    · simp only [impl_Longest.l1]; rw [if_neg g]
  | succ d ih =>
    intro n hn b f hm he hle
    have g1 : (n : Int) < 66 := by omega
    have w1 : wrap64 ((a : Int) + n) = (a : Int) + n := wrap64_id (by omega) (by omega)
    have w2 : wrap64 ((a : Int) + n - x) = (a : Int) + n - x := wrap64_id (by clear w1; omega) (by clear w1; omega)
    by_cases hb : (a : Int) + n < l.length
    · have g2 : (0 : Int) ≤ (a : Int) + n := by clear w1 w2; omega
      have g3 : (0 : Int) ≤ (a : Int) + n - x := by clear w1 w2; omega
      have g4 : (a : Int) + n - x < (l.length : Int) := by clear w1 w2; omega
      by_cases hq : rd l ((a : Int) + n) = rd l ((a : Int) + n - x)
      · have w3 : wrap64 ((n : Int) + 1) = ((n + 1 : Nat) : Int) := wrap64_succ (by clear w1 w2; omega)
        obtain ⟨r, h1, h2, h3⟩ := ih (n + 1) (by clear w1 w2 w3; omega) b f hm (fun j hj => by
          by_cases hjn : j < n
          · exact he j hjn
          · obtain rfl : j = n := by clear w1 w2 w3; omega
            exact hq) (by clear w1 w2 w3; omega)
        refine ⟨r, h1, Ev.step (fun k => ?_) h2, Ev.step (fun k => ?_) h3⟩
        · simp only [spec_Longest.l1]; rw [if_pos g1, w1, w2, if_pos hb, if_pos g2, if_pos g3, if_pos g4, if_pos hq, w3]
        · simp only [impl_Longest.l1]; rw [if_pos g1, w1, w2, if_pos hb, if_pos g2, if_pos g3, if_pos g4, if_pos hq, w3]
      · obtain ⟨r, h1, h2, h3⟩ := stop n b f (by clear w1 w2; omega) hm he hle
        refine ⟨r, h1, Ev.step (fun k => ?_) h2, Ev.step (fun k => ?_) h3⟩
        · simp only [spec_Longest.l1]; rw [if_pos g1, w1, w2, if_pos hb, if_pos g2, if_pos g3, if_pos g4, if_neg hq]
        · simp only [impl_Longest.l1]; rw [if_pos g1, w1, w2, if_pos hb, if_pos g2, if_pos g3, if_pos g4, if_neg hq]
    · obtain ⟨r, h1, h2, h3⟩ := stop n b f (by clear w1 w2; omega) hm he hle
      refine ⟨r, h1, Ev.step (fun k => ?_) h2, Ev.step (fun k => ?_) h3⟩
      · simp only [spec_Longest.l1]; rw [if_pos g1, w1, if_neg hb]
      · simp only [impl_Longest.l1]; rw [if_pos g1, w1, if_neg hb]
theorem longest_l0 (l : List Int) (hl : l.length ≤ 1024) (a : Nat) (ha : a < l.length) : ∀ (d x : Nat), 1 ≤ x → min a 256 + 1 ≤ x + d → ∀ b f : Int, Match l a b f → Both l a b f (x : Int)
  | 0, x, hx, hd, b, f, hm => by
    have g : ¬ ((x : Int) ≤ (a : Int) ∧ (x : Int) ≤ 256) := by omega
    have g2 : ¬ (x : Int) ≤ mn (a : Int) 256 := by unfold mn; split <;> omega
    refine ⟨(b, f), hm, ?_, ?_⟩
    · have j : Ev (fun k => spec_Longest.j2 k l (a : Int) b f (x : Int) false) (b, f) := Ev.step (f := fun _ => some (b, f)) (fun k => by simp [spec_Longest.j2]) (Ev.now _)
      refine Ev.step (f := fun k => spec_Longest.j2 k l (a : Int) b f (x : Int) false) (fun k => ?_) j
      simp only [spec_Longest.l0]
      by_cases h1 : (x : Int) ≤ (a : Int)
      · rw [if_pos h1, decide_eq_false (fun h => g ⟨h1, h⟩)]
      · rw [if_neg h1]
    · refine Ev.step (f := fun _ => some (b, f)) (fun k => ?_) (Ev.now _)
      simp only [impl_Longest.l0]
      rw [if_neg g2]
  | d + 1, x, hx, hd, b, f, hm => by
    by_cases g : x ≤ a ∧ x ≤ 256
    · have g1 : (x : Int) ≤ (a : Int) := by omega
      have g2 : (x : Int) ≤ 256 := by omega
      have g3 : (x : Int) ≤ mn (a : Int) 256 := by unfold mn; split <;> omega
      obtain ⟨r, h1, h2, h3⟩ := longest_l1 l hl a ha x hx g.1 g.2 (fun b f hm => longest_l0 l hl a ha d (x + 1) (by omega) (by omega) b f hm) 66 0 (by omega) b f hm (fun j hj => by omega) (by omega)
      refine ⟨r, h1, ?_, ?_⟩
      · refine Ev.step (f := fun k => spec_Longest.j2 k l (a : Int) b f (x : Int) true) (fun k => ?_) (Ev.step (fun k => ?_) h2)
        · simp only [spec_Longest.l0]
          rw [if_pos g1, decide_eq_true g2]
        · simp [spec_Longest.j2]
      · refine Ev.step (fun k => ?_) h3
        simp only [impl_Longest.l0]
        rw [if_pos g3]; simp
    · exact longest_l0 l hl a ha 0 x hx (by omega) b f hm
theorem longest_same (l : List Int) (hl : l.length ≤ 140737488351232) (a : Int) (ha : -9223372036854775808 ≤ a ∧ a < 9223372036854775808) :
    ∃ r : Int × Int, (r = (0, 0) ∨ (0 ≤ a ∧ a < l.length ∧ l.length ≤ 1024 ∧ Match l a.toNat r.1 r.2)) ∧ Ev (fun k => spec_Longest.f k l a) r ∧ Ev (fun k => impl_Longest.f k l a) r := by
  unfold spec_Longest.f impl_Longest.f
  rw [l1In_tell, in_tell, wrap64_id (n := (l.length : Int) - 1) (by omega) (by omega)]
  simp only [Option.bind_some]
  have bs : Ev (fun k => spec_Longest.j0 k l a true) (0, 0) := Ev.step (f := fun _ => some (0, 0)) (fun k => by simp [spec_Longest.j0]) (Ev.now _)
  have bi : Ev (fun k => impl_Longest.j0 k l a true) (0, 0) := Ev.step (f := fun _ => some (0, 0)) (fun k => by simp [impl_Longest.j0]) (Ev.now _)
  by_cases h1 : (l.length : Int) > 1024
  · refine ⟨(0, 0), .inl rfl, Ev.ifT h1 bs, ?_⟩
    simp only [decide_eq_true h1]
    split
    · exact bi
    · exact bi
  · simp only [decide_eq_false h1]
    by_cases h2 : 0 ≤ a ∧ a ≤ (l.length : Int) - 1
    · obtain ⟨m, rfl⟩ := Int.eq_ofNat_of_zero_le h2.1
      obtain ⟨r, q1, q2, q3⟩ := longest_l0 l (by omega) m (by omega) 257 1 (by omega) (by omega) 0 0 (.inl ⟨rfl, rfl⟩)
      refine ⟨r, .inr ⟨h2.1, by omega, by omega, by simpa using q1⟩, Ev.ifF h1 ?_, ?_⟩
      · simp only [decide_eq_true h2, Bool.not_true]
        exact Ev.step (fun k => by simp [spec_Longest.j0]) q2
      · simp only [decide_eq_true h2, if_true]
        exact Ev.step (fun k => by simp [impl_Longest.j0]) q3
    · refine ⟨(0, 0), .inl rfl, Ev.ifF h1 ?_, ?_⟩
      · simp only [decide_eq_false h2, Bool.not_false]; exact bs
      · simp only [decide_eq_false h2]; exact bi

theorem FnExactLongest : laws_FnExactLongest.Pure := by
  intro l a _ hl _ ha
  have ha := wf_i64 ha
  refine Ev.rounds ?_
  unfold laws_FnExactLongest.f
  by_cases h1 : (l.length : Int) > 1048576
  · exact Ev.ifT h1 (Ev.now _)
  have t := toByteS_ev l (by omega)
  have e := eqByteS_ev l (by omega)
  obtain ⟨r, _, q1, q2⟩ := longest_same l (by omega) a ha
  have hj : Ev (fun k => laws_FnExactLongest.j0 k l l (r.2 != r.2)) true := by
    simp only [bne_self_eq_false]
    refine Ev.step (fun k => by simp only [laws_FnExactLongest.j0]; rfl) ?_
    exact Ev.ifF (by simp) (Ev.bind t (Ev.bind e (Ev.ifT rfl (Ev.now _))))
  exact Ev.ifF h1 (Ev.bind t (Ev.bind q1 (Ev.bind t (Ev.bind q2 (Ev.ifT rfl hj)))))

end Go.Proofs.Ytclejdchdfmapac.Pure
