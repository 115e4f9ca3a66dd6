/- Lemmas for walks that were written by hand: a row that is made, a row that is filled by copies of itself. Conditions: those in each theorem's head. -/
import Derived.Test.YtboefincoghbbabWMore
import Derived.Test.YtboefincoghbbabAid
import Derived.Laws.CopyOwn
namespace Go.Proofs.Ytboefincoghbbab.Hand
open Go.RowKit Go.Proofs.YtboefincoghbbabW.PrintWords Go.Proofs.YtboefincoghbbabW.PrintLast
theorem own_whole {w : World} {base : Nat} {e : TypeId} {g n : Nat} {xs : List Value} (h : w.ownsRow base e 1 (.slice (some ⟨g, 0, none⟩) n n) n xs) : w.heap[g]? = some (.cells xs.toArray e (0, 0)) ∧ base ≤ g := by
  obtain ⟨h1, h2⟩ := h
  rcases h2 with ⟨h2, _⟩ | ⟨g', cap, cur, he, hb, hh, hnc, hcm, hcs, ht⟩
  · cases h2
  · injection he with ha _ hc
    injection ha with ha
    injection ha with ha
    subst ha; subst hc
    rw [Nat.mul_one, List.take_of_length_le (by have := hcs; simp; omega)] at ht
    subst ht
    exact ⟨by simpa using hh, hb⟩
theorem make_row {P : Program} {w0 w : World} {ops : Array Oper} {rest : List Oper} {o : Oper} {a : Act} {Q : Exit → Act → World → Prop} (hg : o.guard = none) (l c : Operand) (t : TypeId) (hop : o.op = .makeSlice t l c)
    (base e : Nat) (z : Value) (bytes : Nat) (ht : P.underlying t = some (.slice e)) (hinfo : (P.info? e).map (fun i => (i.zero, i.size, i.bytes)) = some (some z, 1, bytes)) (hz : z.cells = #[z]) (n : Nat)
    (hl : a.eval l = .int .i64 n) (hc : a.eval c = .int .i64 n) (hb : bytes * n ≤ 281474976710656) (hn : n ≤ maxLen) (HB : Below base w0 w) (hbase : base ≤ w.heap.size)
    (h : ∀ g w1, w.heap.size ≤ g → Aside0 (w1.heap[g]? = some (.cells (List.replicate n z).toArray e (0, 0))) → Aside0 (Below base w0 w1) → wpList P ops Q rest (a.put o.dst (.slice (some ⟨g, 0, none⟩) n n)) w1) : wpList P ops Q (o :: rest) a w := by
  obtain ⟨i0, hi, hzz⟩ := Option.map_eq_some_iff.1 hinfo
  simp only [Prod.mk.injEq] at hzz
  obtain ⟨hz0, hz1, hz2⟩ := hzz
  refine wpList_make_full w hg l c t hop base e i0 z 1 ht hi hz0 hz1 .i64 .i64 n n n hl hc rfl rfl (by rw [hz2]; exact hb) hn hbase ?_
  intro w' ho hgr
  have hm : (madeCells z.cells (n * 1)).toList = List.replicate n z := by
    rw [hz]
    refine List.ext_getElem (by simp [madeCells]) fun j h1 h2 => ?_
    simp [madeCells, Nat.mod_one]
  rw [hm] at ho
  exact h _ _ (Nat.le_refl _) ⟨(own_whole ho).1⟩ ⟨HB.grown hgr hbase (fun _ hk => by cases hk)⟩
/-- m elements of the row are laid. -/
def Laid (cur : List Value) (v : Value) (m n : Nat) : Prop := cur.length = n ∧ m ≤ n ∧ (n = 0 ∨ 1 ≤ m) ∧ (∀ j, j < m → cur[j]? = some v) ∧ ∀ u ∈ cur, u.oneCell' = true
theorem laid_first {cs : List Value} {v u : Value} {n : Nat} (h : cs = List.take n [v]) (hu : u.oneCell' = true) (hv : v.oneCell' = true) : Laid (splice (List.replicate n u) 0 cs) v cs.length n := by
  subst h
  rcases n with _ | n
  · simp [Laid, splice]
  · simp only [List.take_succ_cons, List.take_nil, splice, List.take_zero, List.nil_append, List.length_singleton, Nat.zero_add, List.drop_replicate, Nat.add_sub_cancel, Laid]
    refine ⟨by simp, by omega, .inr (by omega), fun j hj => ?_, fun x hx => ?_⟩
    · obtain rfl : j = 0 := by simpa using hj
      rfl
    rcases List.mem_append.1 hx with hx | hx
    · rw [List.mem_singleton.1 hx]; exact hv
    · rw [(List.mem_replicate.1 hx).2]; exact hu
theorem laid_next {cur dd : List Value} {v : Value} {k n : Nat} (hd : dd = cur.take (min k (n - k))) (h : Laid cur v k n) : Laid (splice cur k dd) v (k + dd.length) n := by
  obtain ⟨h1, h2, h3, h4, h5⟩ := h
  have hl : dd.length = min k (n - k) := by rw [hd, List.length_take]; omega
  refine ⟨by rw [length_splice _ _ _ (by omega)]; exact h1, by omega, by omega, fun j hj => ?_, fun u hu => ?_⟩
  · unfold splice
    rcases Nat.lt_or_ge j k with hjk | hjk
    · rw [List.getElem?_append_left (by rw [List.length_take]; omega), List.getElem?_take_of_lt hjk]
      exact h4 j hjk
    · have htl : (cur.take k).length = k := by rw [List.length_take]; omega
      rw [List.getElem?_append_right (by omega), htl, List.getElem?_append_left (by omega), hd, List.getElem?_take_of_lt (by omega)]
      exact h4 _ (by omega)
  · unfold splice at hu
    rcases List.mem_append.1 hu with hu | hu
    · exact h5 u (List.mem_of_mem_take hu)
    · rcases List.mem_append.1 hu with hu | hu
      · rw [hd] at hu; exact h5 u (List.mem_of_mem_take hu)
      · exact h5 u (List.mem_of_mem_drop hu)
theorem laid_row {e : Nat} {cur : List Value} {v : Int} {n g base : Nat} {W : World} (h : Laid cur (.int .i64 v) n n) (hg : W.heap[g]? = some (.cells cur.toArray e (0, 0))) (hb : base ≤ g) (hn : n ≤ maxLen) :
    Kd.R (Kd.int .i64) e W base (fun _ => True) (.slice (some ⟨g, 0, none⟩) n n) (List.replicate n v) := by
  obtain ⟨h1, _, _, h4, _⟩ := h
  have hc : cur = List.replicate n (.int .i64 v) := by
    refine List.ext_getElem? fun j => ?_
    rcases Nat.lt_or_ge j n with hj | hj
    · rw [h4 j hj, List.getElem?_replicate_of_lt hj]
    · rw [List.getElem?_eq_none (by omega), List.getElem?_eq_none (by simpa using hj)]
  subst hc
  refine Kd.R_of_own ⟨by simp [encs], .inr ⟨g, n, _, by simp, hb, hg, by simp, hn, by simp, by simp [encs]⟩⟩ (fun _ _ => trivial)
end Go.Proofs.Ytboefincoghbbab.Hand
