/- The plain law of FnExactWord, over numbers and lists alone: what the printed functions answer is true for all arguments. Conditions: those of the arguments' kinds. -/
import Derived.Test.YtpeahfhfidjjcaaPFnExactWordx1
import Derived.Test.YtpeahfhfidjjcaaAid
set_option linter.unusedVariables false
set_option linter.unusedSimpArgs false
namespace Go.Proofs.Ytpeahfhfidjjcaa.Pure
open Go.RowKit Go.Proofs.Ytpeahfhfidjjcaa.Aid Go.Proofs.Ytpeahfhfidjjcaa.PFnExactWord Go.Proofs.YtpeahfhfidjjcaaW.PrintWords Go.Proofs.YtpeahfhfidjjcaaW.PrintLast Go.Proofs.YtpeahfhfidjjcaaW.PrintMore
theorem toByteS_l0 (l : List Int) (hl : l.length ≤ 140737488351232) : ∀ (d : Nat) (x : List Int) (i : Nat), x.length = l.length → i + d = l.length → x.take i = l.take i → Ev (fun k => laws_toByteS.l0 k l x (i : Int)) l
  | 0, x, i, hx, hi, ht => by
    refine Ev.step (f := fun _ => some l) (fun k => ?_) (Ev.now _)
    simp only [laws_toByteS.l0]
    rw [if_neg (by omega)]
    congr 1
    rw [List.take_of_length_le (by omega), List.take_of_length_le (by omega)] at ht
    exact ht
  | d + 1, x, i, hx, hi, ht => by
    have ih := toByteS_l0 l hl d (x.set i (rd l i)) (i + 1) (by simpa using hx) (by omega) (by
      rw [List.take_succ_eq_append_getElem (by simp; omega), List.take_succ_eq_append_getElem (by omega), List.take_set_of_le (by omega), ht]
      simp [rd, List.getElem?_eq_getElem (show i < l.length by omega)])
    refine Ev.step (fun k => ?_) ih
    simp only [laws_toByteS.l0]
    rw [if_pos (by omega), if_pos (by omega), if_pos (by omega), wrap64_id (by omega) (by omega)]
    simp
theorem toByteS_ev (l : List Int) (hl : l.length ≤ 140737488351232) : Ev (fun k => laws_toByteS.f k l) l := by
  refine Ev.congr (fun k => ?_) (toByteS_l0 l hl l.length (List.replicate l.length 0) 0 (by simp) (by simp) (by simp))
  simp only [laws_toByteS.f]
  rw [if_pos (by omega), if_pos (by omega)]
  simp

theorem eqByteS_l0 (l : List Int) (hl : l.length ≤ 140737488351232) : ∀ (d : Nat) (i : Nat), i + d = l.length → Ev (fun k => laws_eqByteS.l0 k l l (i : Int)) true
  | 0, i, hi => by
    refine Ev.step (f := fun _ => some true) (fun k => ?_) (Ev.now _)
    simp only [laws_eqByteS.l0]
    rw [if_neg (by omega)]
  | d + 1, i, hi => by
    have ih := eqByteS_l0 l hl d (i + 1) (by omega)
    refine Ev.step (fun k => ?_) ih
    simp only [laws_eqByteS.l0]
    rw [if_pos (by omega), if_pos (by omega), if_pos (by omega), wrap64_id (by omega) (by omega)]
    simp
theorem eqByteS_ev (l : List Int) (hl : l.length ≤ 140737488351232) : Ev (fun k => laws_eqByteS.f k l l) true := by
  refine Ev.congr (fun k => ?_) (eqByteS_l0 l hl l.length 0 (by simp))
  simp only [laws_eqByteS.f]
  simp

theorem word_same (l : List Int) (a : Int) (h : ∀ x ∈ l, (Lit.int .u8 x).wf = true) (hl : l.length ≤ 1048576) (ha0 : -9223372036854775808 ≤ a) (ha1 : a < 9223372036854775808) :
    ∃ r, spec_Word.f l a = some r ∧ impl_Word.f l a = some r := by
  unfold spec_Word.f impl_Word.f impl_in.f
  rw [wrap64_id (n := (l.length : Int) - 4) (by omega) (by omega)]
  by_cases h0 : a < 0
  · refine ⟨(0, false), by rw [if_pos h0], ?_⟩
    rw [if_neg (by omega)]; simp
  by_cases h1 : a > (l.length : Int) - 4
  · refine ⟨(0, false), by rw [if_neg h0, if_pos h1], ?_⟩
    rw [if_pos (by omega)]; simp; omega
  rw [wrap64_id (n := a + 1) (by omega) (by omega), wrap64_id (n := a + 2) (by omega) (by omega), wrap64_id (n := a + 3) (by omega) (by omega)]
  have b0 := rd_u8 h a
  have b1 := rd_u8 h (a + 1)
  have b2 := rd_u8 h (a + 2)
  have b3 := rd_u8 h (a + 3)
  rw [if_neg h0, if_neg h1]
  repeat rw [if_pos (by omega)]
  refine ⟨_, rfl, ?_⟩
  simp only [Option.bind_some]
  rw [if_pos (by simp; omega)]
  repeat rw [if_pos (by omega)]
  generalize rd l a = x0 at *
  generalize rd l (a + 1) = x1 at *
  generalize rd l (a + 2) = x2 at *
  generalize rd l (a + 3) = x3 at *
  rw [wrap64_id (n := x0) (by omega) (by omega), wrap64_id (n := x1) (by omega) (by omega), wrap64_id (n := x2) (by omega) (by omega), wrap64_id (n := x3) (by omega) (by omega)]
  rw [wrap64_id (n := x1 * 256) (by omega) (by omega), wrap64_id (n := x2 * 65536) (by omega) (by omega), wrap64_id (n := x3 * 16777216) (by omega) (by omega)]
  rw [or_low (x := x0) (y := x1 * 256) 8 (by omega) (by omega) (by omega) (by omega) (by omega) (by omega)]
  rw [or_low (x := x0 + x1 * 256) (y := x2 * 65536) 16 (by omega) (by omega) (by omega) (by omega) (by omega) (by omega)]
  rw [or_low (x := x0 + x1 * 256 + x2 * 65536) (y := x3 * 16777216) 24 (by omega) (by omega) (by omega) (by omega) (by omega) (by omega)]
  congr 2
  unfold wrap64
  omega
theorem FnExactWord : laws_FnExactWord.Pure := by
  intro l a hm hb h ha
  obtain ⟨ha0, ha1⟩ := wf_i64 ha
  refine Ev.rounds ?_
  unfold laws_FnExactWord.f
  by_cases hl : (l.length : Int) > 1048576
  · exact Ev.ifT hl (Ev.now _)
  refine Ev.ifF hl ?_
  obtain ⟨r, h1, h2⟩ := word_same l a h (by omega) ha0 ha1
  refine Ev.bind (toByteS_ev l (by omega)) (Ev.bindc h1 (Ev.bind (toByteS_ev l (by omega)) (Ev.bindc h2 (Ev.ifT rfl ?_))))
  simp only [bne_self_eq_false]
  refine Ev.step (fun k => by simp only [laws_FnExactWord.j0]; rfl) ?_
  refine Ev.ifF (by simp) (Ev.bind (toByteS_ev l (by omega)) (Ev.bind (eqByteS_ev l (by omega)) (Ev.ifT rfl (Ev.now _))))

end Go.Proofs.Ytpeahfhfidjjcaa.Pure
