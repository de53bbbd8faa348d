/-
  A transaction among a law's arguments, opened.
-/
import Derived.Test.YtaelaldgohppeaaOpen
import Derived.Test.YtaelaldgohppeaaT1
import Derived.Deep.SlicePairs
namespace Go.Proofs.Ytaelaldgohppeaa
open Go.ChangeShapes Go.WideShapes Go.ChangeAt Go.RowKit Go.Joins
set_option maxRecDepth 100000
set_option linter.unusedVariables false

section
variable {H : Type} {enc : TypeId × Value → H} {W : World} {base : Nat} {spare : Nat → Bool} {held : Bool} {r : Reach} {b0 : Nat}
theorem cellsLPut : Try.prog.cellsOf 98 = 2 := by kernel_rfl
theorem puts_of_trod {fuel : Nat} {v : Value} {x : DataW H × List MemPlace} (hf : DataW.trod enc Try.prog W base spare held fuel 40 [v] = some x) :
    ∃ A n c ps, v = .slice A n c ∧ n ≤ 9223372036854775807 ∧ Puts W W.heap.size A n ps := by
  rcases Go.Deep.open_slice_pairs Try.underlying40 Try.underlying98 cellsLPut rfl rfl (by kernel_rfl) (by kernel_rfl) hf with ⟨hcs, _⟩ | ⟨a, len, cap, m, n, V0, V1, D0, D1, P0, P1, hcs, _, hl, hm, hmm, _, hel⟩
  · simp only [List.cons.injEq, and_true] at hcs
    exact ⟨none, 0, 0, [], hcs, by omega, Puts.none0 _ _ _⟩
  · simp only [List.cons.injEq, and_true] at hcs
    have hlm : len ≤ m := by rw [hmm]; split <;> omega
    have hint : ∀ i, i < len → ∃ p : Int × Int, W.cell? (a.add (i * 2)) = some (.int .i64 p.1) ∧ W.cell? (a.add (i * 2 + 1)) = some (.int .i64 p.2) := fun i hi => by
      obtain ⟨h0, h1, h2, h3⟩ := hel i (by omega)
      obtain ⟨x0, e0, _, _⟩ := DataW.trod_int Try.underlying3 h2
      obtain ⟨x1, e1, _, _⟩ := DataW.trod_int Try.underlying3 h3
      simp only [List.cons.injEq, and_true] at e0 e1
      exact ⟨(x0, x1), by rw [h0, e0], by rw [h1, e1]⟩
    have hch : ∃ f : Nat → Int × Int, ∀ i, i < len → W.cell? (a.add (i * 2)) = some (.int .i64 (f i).1) ∧ W.cell? (a.add (i * 2 + 1)) = some (.int .i64 (f i).2) :=
      ⟨fun i => if h : i < len then (hint i h).choose else (0, 0), fun i hi => by simp only [hi, dif_pos]; exact (hint i hi).choose_spec⟩
    obtain ⟨f, hfx⟩ := hch
    refine ⟨some a, len, cap, (List.range len).map f, hcs, by unfold maxLen at hm; omega, ⟨by rw [pv_length]; simp, fun h0 => ⟨a, rfl, ?_, fun j u hu => ?_⟩⟩⟩
    · have := World.block_lt_of_cell? W _ (hfx 0 (by omega)).1
      rwa [block_of_add] at this
    · have hj : j < len * 2 := by
        have := (List.getElem?_eq_some_iff.1 hu).1
        rw [pv_length] at this; simpa using this
      have hk : j / 2 < len := by omega
      have e : ((List.range len).map f)[j / 2]? = some ((f (j / 2)).1, (f (j / 2)).2) := by simp [hk]
      have hg := pv_get e
      rcases Nat.mod_two_eq_zero_or_one j with h2 | h2
      · rw [show j = j / 2 * 2 by omega] at hu ⊢
        rw [hg.1] at hu; rw [← Option.some.inj hu]
        exact (hfx _ hk).1
      · rw [show j = j / 2 * 2 + 1 by omega] at hu ⊢
        rw [hg.2] at hu; rw [← Option.some.inj hu]
        exact (hfx _ hk).2
theorem cellsLTxn : Try.prog.cellsOf 42 = 3 := by kernel_rfl
theorem openTxn {v : Value} {d : DataW H} {p : List MemPlace} (hv : Value.okWide Try.prog W r b0 42 v) (h : DataW.Trod enc Try.prog W base spare held 42 v d p) :
    ∃ A n c xs q B m e ps, v = .agg #[.slice A n c, .int .i64 q, .slice B m e] ∧ n ≤ 9223372036854775807 ∧ Ints W W.heap.size A n xs ∧ m ≤ 9223372036854775807 ∧ Puts W W.heap.size B m ps := by
  obtain ⟨v0, v1, v2, y0, y1, y2, k, rfl, rfl, rfl, hy0, hy1, hy2⟩ := open_agg3 Try.underlying42 (by kernel_rfl) cellsLTxn hv h
  obtain ⟨A, n, c, xs, rfl, hn, hx⟩ := ints_of_trod hy0
  obtain ⟨q, hq, _, hw⟩ := DataW.trod_int Try.underlying3 hy1
  simp only [List.cons.injEq, and_true] at hq
  subst hq
  obtain ⟨B, m, e, ps, rfl, hm, hp⟩ := puts_of_trod hy2
  exact ⟨A, n, c, xs, q, B, m, e, ps, rfl, hn, hx, hm, hp⟩
end
end Go.Proofs.Ytaelaldgohppeaa
