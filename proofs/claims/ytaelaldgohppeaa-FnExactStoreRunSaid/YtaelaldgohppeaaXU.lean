/-
  An argument of the type []Txn opened.
-/
import Derived.Test.YtaelaldgohppeaaXO
import Derived.Test.YtaelaldgohppeaaXR
import Derived.Deep.Strs
namespace Go.Proofs.Ytaelaldgohppeaa
open Go.ChangeShapes Go.WideShapes Go.ChangeAt Go.RowKit Go.Joins
set_option linter.unusedVariables false

section
variable {H : Type} {enc : TypeId × Value → H} {W : World} {base : Nat} {spare : Nat → Bool} {held : Bool} {r : Reach} {b0 : Nat}
theorem cellsIntS : Try.prog.cellsOf 22 = 1 := by kernel_rfl
theorem cellsInt1 : Try.prog.cellsOf 3 = 1 := by kernel_rfl
theorem cellsPutS : Try.prog.cellsOf 40 = 1 := by kernel_rfl
theorem txn_at {fuel : Nat} {cs' : List Value} {y : DataW H × List MemPlace} {a : Addr} (h1 : W.cells? base a 3 = some cs') (h2 : DataW.trod enc Try.prog W base spare held fuel 42 cs' = some y) :
    ∃ q : TR × TX, W.cell? a = some (.slice q.1.A1 q.1.n1 q.1.c1) ∧ W.cell? (a.add 1) = some (.int .i64 q.1.nd) ∧ W.cell? (a.add 2) = some (.slice q.1.A2 q.1.n2 q.1.c2) ∧ q.1.n1 ≤ 9223372036854775807 ∧ q.1.n2 ≤ 9223372036854775807 ∧ Ints W W.heap.size q.1.A1 q.1.n1 q.2.reads ∧ q.1.nd = q.2.need ∧ Puts W W.heap.size q.1.A2 q.1.n2 q.2.puts := by
  obtain ⟨_, hlen, hcell⟩ := World.cells?_some h1
  obtain ⟨xs, k, hk, hxy, _, hxl, hf⟩ := DataW.trod_struct Try.underlying42 h2
  match xs, hxl, cs', hlen with
  | [y0, y1, y2], _, [v0, v1, v2], _ =>
    have g0 := hf 0 _ rfl
    have g1 := hf 1 _ rfl
    have g2 := hf 2 _ rfl
    simp [cellsIntS, cellsInt1, cellsPutS] at g0 g1 g2
    have e0 := hcell 0 (by omega)
    have e1 := hcell 1 (by omega)
    have e2 := hcell 2 (by omega)
    simp at e0 e1 e2
    obtain ⟨A, n, c, xs, rfl, hn, hx⟩ := ints_of_trod g0
    obtain ⟨q, hq, _, hw⟩ := DataW.trod_int Try.underlying3 g1
    simp only [List.cons.injEq, and_true] at hq
    subst hq
    obtain ⟨B, m, e, ps, rfl, hm, hp⟩ := puts_of_trod g2
    exact ⟨(⟨A, n, c, q, B, m, e⟩, ⟨xs, q, ps⟩), by simpa [Addr.add] using e0, e1, e2, hn, hm, hx, rfl, hp⟩
theorem txns_of_trod {fuel : Nat} {v : Value} {y : DataW H × List MemPlace} (hf : DataW.trod enc Try.prog W base (fun _ => true) held fuel 70 [v] = some y) :
    ∃ A n c R ts, v = .slice A n c ∧ n ≤ 9223372036854775807 ∧ TxnS W W.heap.size A n R ts ∧ (∀ r ∈ R, r.n1 ≤ 9223372036854775807 ∧ r.n2 ≤ 9223372036854775807) := by
  rcases Go.Deep.open_slice Try.underlying70 hf with ⟨hcs, _⟩ | ⟨a, len, cap, m, n, D, Pl, hcs, _, hl, hm, hmm, _, hel⟩
  · simp only [List.cons.injEq, and_true] at hcs
    subst hcs
    exact ⟨none, 0, 0, [], [], rfl, by omega, ⟨⟨rfl, fun h => absurd h (by omega)⟩, rfl, fun k r t h => by simp at h⟩, fun r h => by simp at h⟩
  · simp only [List.cons.injEq, and_true] at hcs
    subst hcs
    have hlm : len ≤ m := by rw [hmm]; split <;> omega
    rw [cellsLTxn] at hel
    have hint : ∀ i, i < len → ∃ q : TR × TX, W.cell? (a.add (i * 3)) = some (.slice q.1.A1 q.1.n1 q.1.c1) ∧ W.cell? ((a.add (i * 3)).add 1) = some (.int .i64 q.1.nd) ∧ W.cell? ((a.add (i * 3)).add 2) = some (.slice q.1.A2 q.1.n2 q.1.c2) ∧ q.1.n1 ≤ 9223372036854775807 ∧ q.1.n2 ≤ 9223372036854775807 ∧ Ints W W.heap.size q.1.A1 q.1.n1 q.2.reads ∧ q.1.nd = q.2.need ∧ Puts W W.heap.size q.1.A2 q.1.n2 q.2.puts := fun i hi => by
      obtain ⟨cs', h1, h2⟩ := hel i (by omega)
      exact txn_at h1 h2
    have hch : ∃ f : Nat → TR × TX, ∀ i, i < len → W.cell? (a.add (i * 3)) = some (.slice (f i).1.A1 (f i).1.n1 (f i).1.c1) ∧ W.cell? ((a.add (i * 3)).add 1) = some (.int .i64 (f i).1.nd) ∧ W.cell? ((a.add (i * 3)).add 2) = some (.slice (f i).1.A2 (f i).1.n2 (f i).1.c2) ∧ (f i).1.n1 ≤ 9223372036854775807 ∧ (f i).1.n2 ≤ 9223372036854775807 ∧ Ints W W.heap.size (f i).1.A1 (f i).1.n1 (f i).2.reads ∧ (f i).1.nd = (f i).2.need ∧ Puts W W.heap.size (f i).1.A2 (f i).1.n2 (f i).2.puts :=
      ⟨fun i => if h : i < len then (hint i h).choose else (⟨none, 0, 0, 0, none, 0, 0⟩, ⟨[], 0, []⟩), fun i hi => by simp only [hi, dif_pos]; exact (hint i hi).choose_spec⟩
    obtain ⟨f, hfx⟩ := hch
    refine ⟨_, len, cap, (List.range len).map fun i => (f i).1, (List.range len).map fun i => (f i).2, rfl, by unfold maxLen at hm; omega, ⟨⟨by rw [tcv_length]; simp, fun h0 => ⟨a, rfl, ?_, fun j u hu => ?_⟩⟩, by simp, fun k rr t hr ht => ?_⟩, fun rr hr => ?_⟩
    · have := World.block_lt_of_cell? W _ (hfx 0 (by omega)).1
      rwa [block_of_add] at this
    · have hj : j < len * 3 := by
        have := (List.getElem?_eq_some_iff.1 hu).1
        rw [tcv_length] at this; simpa using this
      have hk : j / 3 < len := by omega
      have e : ((List.range len).map fun i => (f i).1)[j / 3]? = some (f (j / 3)).1 := by simp [hk]
      obtain ⟨y0, y1, y2⟩ := tcv_get e
      obtain ⟨c0, c1, c2, _⟩ := hfx _ hk
      rw [add_of_add] at c1 c2
      rcases (by omega : j % 3 = 0 ∨ j % 3 = 1 ∨ j % 3 = 2) with h3 | h3 | h3
      · have hi3 : j = j / 3 * 3 := by omega
        rw [← hi3] at y0 c0
        rw [y0] at hu; rw [← Option.some.inj hu]
        exact c0
      · have hi3 : j = j / 3 * 3 + 1 := by omega
        rw [← hi3] at y1 c1
        rw [y1] at hu; rw [← Option.some.inj hu]
        exact c1
      · have hi3 : j = j / 3 * 3 + 2 := by omega
        rw [← hi3] at y2 c2
        rw [y2] at hu; rw [← Option.some.inj hu]
        exact c2
    · have hk : k < len := by
        have := (List.getElem?_eq_some_iff.1 hr).1
        simpa using this
      rw [List.getElem?_map, List.getElem?_range hk] at hr ht
      simp only [Option.map_some, Option.some.injEq] at hr ht
      subst hr; subst ht
      obtain ⟨_, _, _, _, _, p, q, s⟩ := hfx k hk
      exact ⟨p, q, s⟩
    · obtain ⟨i, hi, rfl⟩ := List.mem_map.1 hr
      obtain ⟨_, _, _, p, q, _⟩ := hfx i (List.mem_range.1 hi)
      exact ⟨p, q⟩
theorem openTxnS {v : Value} {d : DataW H} {p : List MemPlace} (hv : Value.okWide Try.prog W r b0 70 v) (h : DataW.Trod enc Try.prog W base (fun _ => true) held 70 v d p) :
    ∃ A n c R ts, v = .slice A n c ∧ n ≤ 9223372036854775807 ∧ TxnS W W.heap.size A n R ts ∧ (∀ r ∈ R, r.n1 ≤ 9223372036854775807 ∧ r.n2 ≤ 9223372036854775807) := by
  obtain ⟨a0, len0, cap0, rfl⟩ := okWide_slice Try.underlying70 hv
  obtain ⟨fuel, hf⟩ := h
  exact txns_of_trod (by simpa [Value.cells] using hf)
end
end Go.Proofs.Ytaelaldgohppeaa
