/- The plain law of FnExactHex, over numbers and lists alone: what the printed functions answer is true for all arguments. Conditions: those of the arguments' kinds. -/
import Derived.Test.YtclejdchdfmapaaPFnExactHexx2
import Derived.Test.YtclejdchdfmapaaAid
set_option linter.unusedVariables false
set_option linter.unusedSimpArgs false
namespace Go.Proofs.Ytclejdchdfmapaa.Pure
open Go.RowKit Go.Proofs.Ytclejdchdfmapaa.Aid Go.Proofs.Ytclejdchdfmapaa.PFnExactHex Go.Proofs.YtclejdchdfmapaaW.PrintWords Go.Proofs.YtclejdchdfmapaaW.PrintLast Go.Proofs.YtclejdchdfmapaaW.PrintMore
theorem toByteS_l0 (l : List Int) (hl : l.length ≤ 140737488351232) : ∀ (d : Nat) (x : List Int) (i : Nat), x.length = l.length → i + d = l.length → x.take i = l.take i → Ev (fun k => laws_toByteS.l0 k l x (i : Int)) l
  | 0, x, i, hx, hi, ht => by
    refine Ev.step (f := fun _ => some l) (fun k => ?_) (Ev.now _)
    simp only [laws_toByteS.l0]
    rw [if_neg (by omega)]
    congr 1
    rw [List.take_of_length_le (by omega), List.take_of_length_le (by omega)] at ht
    exact ht
  | d + 1, x, i, hx, hi, ht => by
    have ih := toByteS_l0 l hl d (x.set i (rd l i)) (i + 1) (by simpa using hx) (by omega) (by
      rw [List.take_succ_eq_append_getElem (by simp; omega), List.take_succ_eq_append_getElem (by omega), List.take_set_of_le (by omega), ht]
      simp [rd, List.getElem?_eq_getElem (show i < l.length by omega)])
    refine Ev.step (fun k => ?_) ih
    simp only [laws_toByteS.l0]
    rw [if_pos (by omega), if_pos (by omega), if_pos (by omega), wrap64_id (by omega) (by omega)]
    simp
theorem toByteS_ev (l : List Int) (hl : l.length ≤ 140737488351232) : Ev (fun k => laws_toByteS.f k l) l := by
  refine Ev.congr (fun k => ?_) (toByteS_l0 l hl l.length (List.replicate l.length 0) 0 (by simp) (by simp) (by simp))
  simp only [laws_toByteS.f]
  rw [if_pos (by omega), if_pos (by omega)]
  simp

theorem eqByteS_l0 (l : List Int) (hl : l.length ≤ 140737488351232) : ∀ (d : Nat) (i : Nat), i + d = l.length → Ev (fun k => laws_eqByteS.l0 k l l (i : Int)) true
  | 0, i, hi => by
    refine Ev.step (f := fun _ => some true) (fun k => ?_) (Ev.now _)
    simp only [laws_eqByteS.l0]
    rw [if_neg (by omega)]
  | d + 1, i, hi => by
    have ih := eqByteS_l0 l hl d (i + 1) (by omega)
    refine Ev.step (fun k => ?_) ih
    simp only [laws_eqByteS.l0]
    rw [if_pos (by omega), if_pos (by omega), if_pos (by omega), wrap64_id (by omega) (by omega)]
    simp
theorem eqByteS_ev (l : List Int) (hl : l.length ≤ 140737488351232) : Ev (fun k => laws_eqByteS.f k l l) true := by
  refine Ev.congr (fun k => ?_) (eqByteS_l0 l hl l.length 0 (by simp))
  simp only [laws_eqByteS.f]
  simp

def digs : List Int := [48, 49, 50, 51, 52, 53, 54, 55, 56, 57, 97, 98, 99, 100, 101, 102]
def hexD (n : Int) : Int := if n < 10 then 48 + n else 87 + n
theorem l1Digit_tell (n : Int) (h0 : 0 ≤ n) (h1 : n < 16) : spec_l1Digit.f n = some (hexD n) := by
  unfold spec_l1Digit.f hexD
  by_cases h : n < 10
  · rw [if_pos h, if_pos h, wrap64_id (by omega) (by omega)]; congr 1; omega
  · rw [if_neg h, if_neg h, wrap64_id (n := 97 + n) (by omega) (by omega), wrap64_id (by omega) (by omega)]; congr 1; omega
theorem bt_digs (n : Int) (h0 : 0 ≤ n) (h1 : n < 16) : bt (⟨#[48, 49, 50, 51, 52, 53, 54, 55, 56, 57, 97, 98, 99, 100, 101, 102]⟩ : ByteArray) n = hexD n := by
  obtain ⟨m, rfl⟩ := Int.eq_ofNat_of_zero_le h0
  have hm : m < 16 := by omega
  have : ∀ m : Fin 16, bt (⟨#[48, 49, 50, 51, 52, 53, 54, 55, 56, 57, 97, 98, 99, 100, 101, 102]⟩ : ByteArray) ((m.val : Nat) : Int) = hexD ((m.val : Nat) : Int) := by decide
  exact this ⟨m, hm⟩
def hexL : List Int → List Int
  | [] => []
  | x :: r => hexD (x / 16) :: hexD (x % 16) :: hexL r
theorem hexL_length : ∀ l : List Int, (hexL l).length = 2 * l.length
  | [] => rfl
  | x :: r => by simp [hexL, hexL_length r]; omega
theorem specHex_l0 (l : List Int) (h8 : ∀ x ∈ l, (Lit.int .u8 x).wf = true) (hl : l.length ≤ 1048576) : ∀ (d : Nat) (o : List Int) (i : Nat), i + d = l.length → o.length ≤ 2 * i → Ev (fun k => spec_Hex.l0 k l o (i : Int)) (strOfNums (o ++ hexL (l.drop i)))
  | 0, o, i, hi, ho => by
    refine Ev.step (f := fun _ => some (strOfNums o)) (fun k => ?_) (Ev.const ?_)
    · simp only [spec_Hex.l0]
      rw [if_neg (by omega)]
    · rw [List.drop_of_length_le (by omega)]; simp [hexL]
  | d + 1, o, i, hi, ho => by
    have b := rd_u8 h8 (i : Int)
    have e3 : l.drop i = rd l (i : Int) :: l.drop (i + 1) := by rw [rd_get l i (by omega)]; exact List.drop_eq_getElem_cons (by omega)
    have ih := specHex_l0 l h8 hl d (o ++ [hexD (rd l (i : Int) / 16), hexD (rd l (i : Int) % 16)]) (i + 1) (by omega) (by simp; omega)
    rw [e3]
    have e4 : o ++ hexL (rd l (i : Int) :: l.drop (i + 1)) = o ++ [hexD (rd l (i : Int) / 16), hexD (rd l (i : Int) % 16)] ++ hexL (l.drop (i + 1)) := by simp [hexL]
    rw [e4]
    refine Ev.step (fun k => ?_) ih
    simp only [spec_Hex.l0]
    rw [if_pos (by omega), if_pos (by omega), wrap64_id (n := rd l (i : Int)) (by omega) (by omega), Int.tdiv_eq_ediv_of_nonneg b.1, Int.tmod_eq_emod_of_nonneg b.1, wrap64_id (n := rd l (i : Int) / 16) (by omega) (by omega), l1Digit_tell _ (by omega) (by omega)]
    simp only [Option.bind_some]
    rw [l1Digit_tell _ (by omega) (by omega)]
    simp only [Option.bind_some]
    rw [if_pos (by simp; omega), wrap64_id (by omega) (by omega)]
    simp
theorem implHex_l0 (l : List Int) (h8 : ∀ x ∈ l, (Lit.int .u8 x).wf = true) (hl : l.length ≤ 1048576) : ∀ (d : Nat) (o : List Int) (i : Nat), i + d = l.length → o.length ≤ 2 * i → Ev (fun k => impl_Hex.l0 k o l (l.length : Int) (i : Int)) (strOfNums (o ++ hexL (l.drop i)))
  | 0, o, i, hi, ho => by
    refine Ev.step (f := fun _ => some (strOfNums o)) (fun k => ?_) (Ev.const ?_)
    · simp only [impl_Hex.l0]
      rw [if_neg (by omega)]
    · rw [List.drop_of_length_le (by omega)]; simp [hexL]
  | d + 1, o, i, hi, ho => by
    have b := rd_u8 h8 (i : Int)
    have e3 : l.drop i = rd l (i : Int) :: l.drop (i + 1) := by rw [rd_get l i (by omega)]; exact List.drop_eq_getElem_cons (by omega)
    have ih := implHex_l0 l h8 hl d (o ++ [hexD (rd l (i : Int) / 16), hexD (rd l (i : Int) % 16)]) (i + 1) (by omega) (by simp; omega)
    rw [e3]
    have e4 : o ++ hexL (rd l (i : Int) :: l.drop (i + 1)) = o ++ [hexD (rd l (i : Int) / 16), hexD (rd l (i : Int) % 16)] ++ hexL (l.drop (i + 1)) := by simp [hexL]
    rw [e4]
    refine Ev.step (fun k => ?_) ih
    simp only [impl_Hex.l0]
    rw [u8_and15 _ b.1 b.2, if_pos (by omega), if_pos (by omega), if_pos (by omega), if_pos (by omega), if_pos (by omega), if_pos (by omega), if_pos (by omega), bt_digs _ (by omega) (by omega), bt_digs _ (by omega) (by omega)]
    simp only [Option.bind_some]
    rw [if_pos (by simp; omega), wrap64_id (by omega) (by omega)]
    simp
theorem FnExactHex : laws_FnExactHex.Pure := by
  intro l _ hl h8
  refine Ev.rounds ?_
  unfold laws_FnExactHex.f
  by_cases h1 : (l.length : Int) > 1048576
  · exact Ev.ifT h1 (Ev.now _)
  have t := toByteS_ev l (by omega)
  have e := eqByteS_ev l (by omega)
  have s : Ev (fun k => spec_Hex.f k l) (strOfNums (hexL l)) := by simpa [spec_Hex.f] using specHex_l0 l h8 (by omega) l.length [] 0 (by omega) (by simp)
  have i : Ev (fun k => impl_Hex.f k l) (strOfNums (hexL l)) := by simpa [impl_Hex.f] using implHex_l0 l h8 (by omega) l.length [] 0 (by omega) (by simp)
  exact Ev.ifF h1 (Ev.bind t (Ev.bind s (Ev.bind t (Ev.bind i (Ev.ifT rfl (Ev.bind t (Ev.bind e (Ev.ifT rfl (Ev.now _)))))))))

end Go.Proofs.Ytclejdchdfmapaa.Pure
