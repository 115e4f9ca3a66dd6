/- The plain law of FnExactUnhex, over numbers and lists alone: what the printed functions answer is true for all arguments. Conditions: those of the arguments' kinds. -/
import Derived.Test.YtndoapmehgfdkaaQFnExactUnhexx2
import Derived.Test.YtndoapmehgfdkaaAid
import Derived.Lib.Bytealg
set_option linter.unusedVariables false
set_option linter.unusedSimpArgs false
namespace Go.Proofs.Ytndoapmehgfdkaa.Pure
open Go.RowKit Go.Proofs.Ytndoapmehgfdkaa.Aid Go.Proofs.Ytndoapmehgfdkaa.QFnExactUnhex Go.Proofs.YtndoapmehgfdkaaW.PrintWords Go.Proofs.YtndoapmehgfdkaaW.PrintLast Go.Proofs.YtndoapmehgfdkaaW.PrintMore
theorem eqByteS_l0 (l : List Int) (hl : l.length ≤ 140737488351232) : ∀ (d : Nat) (i : Nat), i + d = l.length → Ev (fun k => laws_eqByteS.l0 k l l (i : Int)) true
  | 0, i, hi => by
    refine Ev.step (f := fun _ => some true) (fun k => ?_) (Ev.now _)
    simp only [laws_eqByteS.l0]
    rw [if_neg (by omega)]
  | d + 1, i, hi => by
    have ih := eqByteS_l0 l hl d (i + 1) (by omega)
    refine Ev.step (fun k => ?_) ih
    simp only [laws_eqByteS.l0]
    rw [if_pos (by omega), if_pos (by omega), if_pos (by omega), wrap64_id (by omega) (by omega)]
    simp
theorem eqByteS_ev (l : List Int) (hl : l.length ≤ 140737488351232) : Ev (fun k => laws_eqByteS.f k l l) true := by
  refine Ev.congr (fun k => ?_) (eqByteS_l0 l hl l.length 0 (by simp))
  simp only [laws_eqByteS.f]
  simp

def marksB : Int → List Int → List Int
  | _, [] => []
  | c, _ :: r => c % 256 :: marksB (c + 1) r
theorem marksB_length : ∀ (c : Int) (l : List Int), (marksB c l).length = l.length
  | _, [] => rfl
  | c, _ :: r => by simp [marksB, marksB_length (c + 1) r]
theorem marksB_again : ∀ (c : Int) (l : List Int), marksB c (marksB c l) = marksB c l
  | _, [] => rfl
  | c, _ :: r => by simp [marksB, marksB_again (c + 1) r]
theorem markByteS_l0 : ∀ (d : Nat) (x : List Int) (c : Int) (i : Nat), x.length ≤ 140737488355328 → i + d = x.length → 0 ≤ c → c + d ≤ 4611686018427387904 →
    Ev (fun k => laws_markByteS.l0 k x c (i : Int)) (c + d, x.take i ++ marksB c (x.drop i))
  | 0, x, c, i, hl, hi, hc, hc1 => by
    refine Ev.step (f := fun _ => some (c, x)) (fun k => ?_) (Ev.const ?_)
    · simp only [laws_markByteS.l0]
      rw [if_neg (by omega)]
    · rw [List.take_of_length_le (by omega), List.drop_of_length_le (by omega)]
      simp [marksB]
  | d + 1, x, c, i, hl, hi, hc, hc1 => by
    have ih := markByteS_l0 d (x.set i (c % 256)) (c + 1) (i + 1) (by simpa using hl) (by simp; omega) (by omega) (by omega)
    have e1 : (x.set i (c % 256)).take (i + 1) = x.take i ++ [c % 256] := by
      rw [List.take_succ_eq_append_getElem (by simp; omega), List.take_set_of_le (by omega)]; simp
    have e2 : (x.set i (c % 256)).drop (i + 1) = x.drop (i + 1) := by rw [List.drop_set]; simp
    have e3 : x.drop i = x[i]'(by omega) :: x.drop (i + 1) := List.drop_eq_getElem_cons (by omega)
    rw [e1, e2] at ih
    have e4 : (c + ((d + 1 : Nat) : Int), x.take i ++ marksB c (x.drop i)) = (c + 1 + (d : Int), x.take i ++ [c % 256] ++ marksB (c + 1) (x.drop (i + 1))) := by
      rw [e3]; simp [marksB]; omega
    rw [e4]
    refine Ev.step (fun k => ?_) ih
    simp only [laws_markByteS.l0]
    rw [if_pos (by omega), if_pos (by omega), wrap64_id (by omega) (by omega), wrap64_id (by omega) (by omega)]
    simp
theorem markByteS_ev (x : List Int) (c : Int) (hl : x.length ≤ 140737488355328) (hc : 0 ≤ c) (hc1 : c + x.length ≤ 4611686018427387904) : Ev (fun k => laws_markByteS.f k x c) (c + x.length, marksB c x) := by
  have := markByteS_l0 x.length x c 0 hl (by omega) hc hc1
  simpa [laws_markByteS.f] using this
theorem heldByteS_l0 : ∀ (d : Nat) (x : List Int) (c : Int) (i : Nat), x.length ≤ 140737488355328 → i + d = x.length → 0 ≤ c → c + d ≤ 4611686018427387904 → x.drop i = marksB c (x.drop i) →
    Ev (fun k => laws_heldByteS.l0 k x c (i : Int)) (c + d)
  | 0, x, c, i, hl, hi, hc, hc1, hm => by
    refine Ev.step (f := fun _ => some c) (fun k => ?_) (Ev.const (by simp))
    simp only [laws_heldByteS.l0]
    rw [if_neg (by omega)]
  | d + 1, x, c, i, hl, hi, hc, hc1, hm => by
    have e3 : x.drop i = x[i]'(by omega) :: x.drop (i + 1) := List.drop_eq_getElem_cons (by omega)
    rw [e3] at hm
    simp only [marksB, List.cons.injEq] at hm
    have ih := heldByteS_l0 d x (c + 1) (i + 1) hl (by omega) (by omega) (by omega) hm.2
    have e4 : c + ((d + 1 : Nat) : Int) = c + 1 + (d : Int) := by omega
    rw [e4]
    refine Ev.step (fun k => ?_) ih
    simp only [laws_heldByteS.l0]
    rw [if_pos (by omega), if_pos (by omega), if_pos (by rw [rd_get x i (by omega)]; exact hm.1), wrap64_id (by omega) (by omega), wrap64_id (by omega) (by omega)]
    simp
theorem heldByteS_ev (x : List Int) (c : Int) (hl : x.length ≤ 140737488355328) (hc : 0 ≤ c) (hc1 : c + x.length ≤ 4611686018427387904) : Ev (fun k => laws_heldByteS.f k (marksB c x) c) (c + x.length) := by
  have := heldByteS_l0 x.length (marksB c x) c 0 (by rw [marksB_length]; exact hl) (by rw [marksB_length]; omega) hc hc1 (by simp [marksB_again])
  simpa [laws_heldByteS.f] using this

/-- A hex digit's number, both ways. -/
def digC (i : Nat) : Int := if i < 10 then 48 + (i : Int) else 87 + (i : Int)
def findD (v : Int) : Nat → Nat → Int
  | 0, _ => -1
  | d + 1, i => if digC i = v then (i : Int) else findD v d (i + 1)
def hexL : List UInt8 := [48, 49, 50, 51, 52, 53, 54, 55, 56, 57, 97, 98, 99, 100, 101, 102]
theorem digit_tell (i : Nat) (h : i < 16) : spec_l1Digit.f (i : Int) = some (digC i) := by
  unfold spec_l1Digit.f digC
  by_cases q : i < 10
  · rw [if_pos (by omega), if_pos q, wrap64_id (by omega) (by omega)]
    congr 1
    omega
  · have w1 : wrap64 (97 + (i : Int)) = 97 + (i : Int) := wrap64_id (by omega) (by omega)
    have w2 : wrap64 (97 + (i : Int) - 10) = 97 + (i : Int) - 10 := wrap64_id (by clear w1; omega) (by clear w1; omega)
    rw [if_neg (by clear w1 w2; omega), if_neg q, w1, w2]
    clear w1 w2
    congr 1
    omega
theorem fromDigit_l0 (v : Int) : ∀ (d i : Nat), i + d = 16 → Ev (fun k => spec_l1FromDigit.l0 k v (i : Int)) (findD v d i)
  | 0, i, hi => Ev.step (f := fun _ => some (-1)) (fun k => by simp only [spec_l1FromDigit.l0]; rw [if_neg (by omega)]) (Ev.now _)
  | d + 1, i, hi => by
    simp only [findD]
    by_cases q : digC i = v
    · rw [if_pos q]
      refine Ev.step (f := fun _ => some (i : Int)) (fun k => ?_) (Ev.now _)
      simp only [spec_l1FromDigit.l0]
      rw [if_pos (by omega), digit_tell i (by omega)]
      simp only [Option.bind_some]
      rw [if_pos q]
    · rw [if_neg q]
      refine Ev.step (fun k => ?_) (fromDigit_l0 v d (i + 1) (by omega))
      simp only [spec_l1FromDigit.l0]
      rw [if_pos (by omega), digit_tell i (by omega)]
      simp only [Option.bind_some]
      rw [if_neg q, wrap64_succ (by omega)]
theorem findD_all : ∀ v : Fin 256, findD ((v.val : Nat) : Int) 16 0 = Go.Lib.indexByte hexL v.val.toUInt8 ∧ -1 ≤ findD ((v.val : Nat) : Int) 16 0 ∧ findD ((v.val : Nat) : Int) 16 0 ≤ 15 := by decide +kernel
theorem dig_both (v : Int) (h0 : 0 ≤ v) (h1 : v ≤ 255) : ∃ r, Ev (fun k => spec_l1FromDigit.f k v) r ∧ strings_IndexByte.f (⟨#[48, 49, 50, 51, 52, 53, 54, 55, 56, 57, 97, 98, 99, 100, 101, 102]⟩ : ByteArray) v = some r ∧ -1 ≤ r ∧ r ≤ 15 := by
  obtain ⟨n, rfl⟩ := Int.eq_ofNat_of_zero_le h0
  obtain ⟨e, l, u⟩ := findD_all ⟨n, by omega⟩
  refine ⟨findD (n : Int) 16 0, fromDigit_l0 (n : Int) 16 0 (by omega), ?_, l, u⟩
  unfold strings_IndexByte.f stringslite_IndexByte.f
  rw [e]
  rfl
theorem unhex_go (s : ByteArray) (hs : s.size ≤ 1048576) : ∀ (d i : Nat) (o : List Int), i + 2 * d = s.size → o.length ≤ i → ∃ R : List Int × Bool, R.1.length ≤ 1048576 ∧ Ev (fun k => spec_Unhex.l0 k s o (i : Int)) R ∧ Ev (fun k => impl_Unhex.l0 k s o (i : Int)) R
  | 0, i, o, hi, ho => by
    refine ⟨(o, true), by simp only; omega, ?_, ?_⟩
    · refine Ev.step (f := fun _ => some (o, true)) (fun k => ?_) (Ev.now _)
      simp only [spec_Unhex.l0]
      rw [if_neg (by omega)]
    · refine Ev.step (f := fun _ => some (o, true)) (fun k => ?_) (Ev.now _)
      simp only [impl_Unhex.l0]
      rw [if_neg (by omega)]
  | d + 1, i, o, hi, ho => by
    have g1 : (i : Int) < (s.size : Int) := by omega
    have g2 : (0 : Int) ≤ (i : Int) := by omega
    have w1 : wrap64 ((i : Int) + 1) = ((i + 1 : Nat) : Int) := wrap64_succ (by omega)
    have w2 : wrap64 ((i : Int) + 2) = ((i + 2 : Nat) : Int) := by rw [wrap64_id (by clear w1; omega) (by clear w1; omega)]; simp
    have b1 := bt_range s (i : Int)
    have b2 := bt_range s ((i + 1 : Nat) : Int)
    obtain ⟨t, e1, f1, l1, u1⟩ := dig_both _ b1.1 b1.2
    obtain ⟨u, e2, f2, l2, u2⟩ := dig_both _ b2.1 b2.2
    have g3 : (0 : Int) ≤ ((i + 1 : Nat) : Int) := by clear w1 w2; omega
    have g4 : ((i + 1 : Nat) : Int) < (s.size : Int) := by clear w1 w2; omega
    have specS : ∀ R, Ev (fun k => if t < 0 then some ([], false) else if u < 0 then some ([], false) else if o.length < 140737488355328 then spec_Unhex.l0 k s (o ++ [(wrap64 ((wrap64 (t * 16)) + u)) % 256]) ((i + 2 : Nat) : Int) else none) R → Ev (fun k => spec_Unhex.l0 k s o (i : Int)) R := fun R h => by
      refine Ev.step (f := fun k => (spec_l1FromDigit.f k (bt s (i : Int))).bind fun t108 => if 0 ≤ ((i + 1 : Nat) : Int) then (if ((i + 1 : Nat) : Int) < (s.size : Int) then ((spec_l1FromDigit.f k (bt s ((i + 1 : Nat) : Int))).bind fun t109 => if t108 < 0 then some ([], false) else if t109 < 0 then some ([], false) else if o.length < 140737488355328 then spec_Unhex.l0 k s (o ++ [(wrap64 ((wrap64 (t108 * 16)) + t109)) % 256]) ((i + 2 : Nat) : Int) else none) else none) else none) (fun k => ?_) (Ev.bind e1 (Ev.ifT g3 (Ev.ifT g4 (Ev.bind e2 h))))
      simp only [spec_Unhex.l0]
      rw [if_pos g1, if_pos g2, w1, w2]
    have implS : ∀ R, Ev (fun k => if t < 0 then some ([], false) else if u < 0 then some ([], false) else if o.length < 140737488355328 then impl_Unhex.l0 k s (o ++ [(Go.bits .or .i64 (wrap64 (t * 16)) u) % 256]) ((i + 2 : Nat) : Int) else none) R → Ev (fun k => impl_Unhex.l0 k s o (i : Int)) R := fun R h => by
      refine Ev.step (fun k => ?_) h
      simp only [impl_Unhex.l0]
      rw [if_pos g1, if_pos g2, f1, w1, w2]
      simp only [Option.bind_some]
      rw [if_pos g3, if_pos g4, f2]
      rfl
    by_cases ht : t < 0
    · exact ⟨([], false), by simp, specS _ (Ev.ifT ht (Ev.now _)), implS _ (Ev.ifT ht (Ev.now _))⟩
    by_cases hu : u < 0
    · exact ⟨([], false), by simp, specS _ (Ev.ifF ht (Ev.ifT hu (Ev.now _))), implS _ (Ev.ifF ht (Ev.ifT hu (Ev.now _)))⟩
    have w3 : wrap64 (t * 16) = t * 16 := wrap64_id (by clear w1 w2; omega) (by clear w1 w2; omega)
    have w4 : wrap64 (t * 16 + u) = t * 16 + u := wrap64_id (by clear w1 w2 w3; omega) (by clear w1 w2 w3; omega)
    have eo : Go.bits .or .i64 (t * 16) u = t * 16 + u := or_high 4 (by clear w1 w2 w3 w4; omega) (by clear w1 w2 w3 w4; omega) (by clear w1 w2 w3 w4; omega) (by clear w1 w2 w3 w4; omega) (by clear w1 w2 w3 w4; omega) (by clear w1 w2 w3 w4; omega)
    obtain ⟨R, h0, h1, h2⟩ := unhex_go s hs d (i + 2) (o ++ [(t * 16 + u) % 256]) (by clear w1 w2 w3 w4; omega) (by clear w1 w2 w3 w4; simp; omega)
    have gl : o.length < 140737488355328 := by clear w1 w2 w3 w4; omega
    refine ⟨R, h0, specS _ (Ev.ifF ht (Ev.ifF hu (Ev.ifT gl ?_))), implS _ (Ev.ifF ht (Ev.ifF hu (Ev.ifT gl ?_)))⟩
    · rw [w3, w4]; exact h1
    · rw [w3, eo]; exact h2
theorem unhex_both (s : ByteArray) (hs : s.size ≤ 1048576) : ∃ R : List Int × Bool, R.1.length ≤ 1048576 ∧ Ev (fun k => spec_Unhex.f k s) R ∧ Ev (fun k => impl_Unhex.f k s) R := by
  unfold spec_Unhex.f impl_Unhex.f
  by_cases h : ((s.size : Int) % 2) = 0
  · obtain ⟨R, h0, h1, h2⟩ := unhex_go s hs (s.size / 2) 0 [] (by omega) (by simp)
    exact ⟨R, h0, Ev.ifT h h1, Ev.ifT h h2⟩
  · exact ⟨([], false), by simp, Ev.ifF h (Ev.now _), Ev.ifF h (Ev.now _)⟩

theorem FnExactUnhex : laws_FnExactUnhex.Pure := by
  intro s _
  refine Ev.rounds ?_
  unfold laws_FnExactUnhex.f
  by_cases h1 : (s.size : Int) > 1048576
  · exact Ev.ifT h1 (Ev.now _)
  obtain ⟨⟨g, c⟩, hg, s1, i1⟩ := unhex_both s (by omega)
  simp only at hg
  have eg := eqByteS_ev g (by omega)
  have mg := markByteS_ev g 1 (by omega) (by omega) (by omega)
  have hg2 := heldByteS_ev g 1 (by omega) (by omega) (by omega)
  refine Ev.ifF h1 (Ev.bind s1 (Ev.bind i1 (Ev.bind eg (Ev.ifT rfl ?_))))
  simp only [bne_self_eq_false]
  refine Ev.step (fun _ => laws_FnExactUnhex.j0.eq_2 _ _ _ _ _ _) (Ev.ifF (by decide) (Ev.bind mg (Ev.bind hg2 (Ev.ifF (by omega) (Ev.ifT rfl (Ev.bind i1 (Ev.bind eg (Ev.ifT rfl ?_))))))))
  simp only [bne_self_eq_false]
  exact Ev.step (fun _ => laws_FnExactUnhex.j1.eq_2 _ _ _ _) (Ev.ifF (by decide) (Ev.bind hg2 (Ev.ifF (by omega) (Ev.ifT rfl (Ev.now _)))))

end Go.Proofs.Ytndoapmehgfdkaa.Pure
