/-
  An argument of the type Credits opened.
-/
import Derived.Test.YtehgipbedlamaaaOpen
import Derived.Test.YtehgipbedlamaaaH1
import Derived.Deep.Strs
namespace Go.Proofs.Ytehgipbedlamaaa
open Go.ChangeShapes Go.WideShapes Go.ChangeAt Go.RowKit Go.Joins
set_option linter.unusedVariables false

/-- The slice reads as these senders' states, their sets of any length. -/
structure HoldW (w : World) (B : Nat) (A : Option Addr) (n : Nat) (R : List HR) (hs : List HX) : Prop where
  o : Reads w B 2 A n (hcv R)
  l : hs.length = n
  i : ∀ (k : Nat) (r : HR) (h : HX), R[k]? = some r → hs[k]? = some h → Ints w B r.A r.n h.has ∧ r.wait = h.wait
theorem HoldW.holds {w : World} {B n : Nat} {A : Option Addr} {R : List HR} {hs : List HX} (h : HoldW w B A n R hs) (hl : ∀ r ∈ R, r.n ≤ 1048576) : HoldS w B A n R hs :=
  ⟨h.o, h.l, fun k r t hr ht => ⟨(h.i k r t hr ht).1, (h.i k r t hr ht).2, hl r (List.mem_of_getElem? hr)⟩⟩
theorem HoldW.below {w w' : World} {B n : Nat} {A : Option Addr} {R : List HR} {hs : List HX} (h : HoldW w B A n R hs) (hb : Below B w w') : HoldW w' B A n R hs := ⟨h.o.below hb, h.l, fun k r t hr ht => ⟨(h.i k r t hr ht).1.below hb, (h.i k r t hr ht).2⟩⟩
theorem HoldW.rlen {w : World} {B n : Nat} {A : Option Addr} {R : List HR} {hs : List HX} (h : HoldW w B A n R hs) : R.length = n := by have := h.o.1; rw [hcv_length] at this; omega
/-- The k-th of them, its cells in the walk's spellings. -/
theorem HoldW.el {w : World} {B n : Nat} {A : Option Addr} {R : List HR} {hs : List HX} (h : HoldW w B A n R hs) {k : Nat} (hk : k < n) : ∃ (ad : Addr) (A1 : Option Addr) (n1 c1 : Nat) (v : Int) (xs : List Int), A = some ad ∧ ad.block < B ∧
    w.cell? (ad.add (k * 2)) = some (.slice A1 n1 c1) ∧ w.cell? ((ad.add (k * 2)).add 1) = some (.int .i64 v) ∧ w.cell? ⟨(ad.add (k * 2)).block, (ad.add (k * 2)).off + 1, none⟩ = some (.int .i64 v) ∧ w.cell? ((ad.add (k * 2)).add 0) = some (.slice A1 n1 c1) ∧
    Ints w B A1 n1 xs ∧ Hid (hs[k]? = some ⟨xs, v⟩) ∧ Hid (hs.take (k + 1) = hs.take k ++ [⟨xs, v⟩]) ∧ Hid (R[k]? = some ⟨A1, n1, c1, v⟩) := by
  obtain ⟨ad, hA, hb, hc⟩ := h.o.2 (by omega)
  have hl : k < R.length := by rw [h.rlen]; exact hk
  have hlt : k < hs.length := by rw [h.l]; exact hk
  have e : R[k]? = some R[k] := List.getElem?_eq_getElem hl
  have et : hs[k]? = some hs[k] := List.getElem?_eq_getElem hlt
  obtain ⟨g0, g1⟩ := hcv_get e
  obtain ⟨i1, i2⟩ := h.i k _ _ e et
  have c0 := hc _ _ g0
  have c1 := hc _ _ g1
  have ht : hs[k] = ⟨hs[k].has, R[k].wait⟩ := by rw [i2]
  have a1 : (ad.add (k * 2)).add 1 = ad.add (k * 2 + 1) := add_of_add ad _ 1
  have b1 : (⟨(ad.add (k * 2)).block, (ad.add (k * 2)).off + 1, none⟩ : Addr) = ad.add (k * 2 + 1) := by rw [← a1]; rfl
  exact ⟨ad, R[k].A, R[k].n, R[k].c, R[k].wait, hs[k].has, hA, hb, c0, by rw [a1]; exact c1, by rw [b1]; exact c1, by rw [show (ad.add (k * 2)).add 0 = ad.add (k * 2) by simp [Addr.add]]; exact c0, i1,
    Lib.hid (by rw [et, ← ht]), Lib.hid (by rw [List.take_succ_eq_append_getElem hlt, ← ht]), Lib.hid e⟩
section
variable {H : Type} {enc : TypeId × Value → H} {W : World} {base : Nat} {spare : Nat → Bool} {held : Bool} {r : Reach} {b0 : Nat}
theorem cellsIntS : Try.prog.cellsOf 23 = 1 := by kernel_rfl
theorem cellsInt1 : Try.prog.cellsOf 3 = 1 := by kernel_rfl
theorem cellsLHold : Try.prog.cellsOf 83 = 2 := by kernel_rfl
theorem cellsLHoldS : Try.prog.cellsOf 40 = 1 := by kernel_rfl
theorem cellsLCr : Try.prog.cellsOf 42 = 2 := by kernel_rfl
theorem hold_at {fuel : Nat} {cs' : List Value} {y : DataW H × List MemPlace} {a : Addr} (h1 : W.cells? base a 2 = some cs') (h2 : DataW.trod enc Try.prog W base spare held fuel 83 cs' = some y) :
    ∃ q : HR × HX, W.cell? a = some (.slice q.1.A q.1.n q.1.c) ∧ W.cell? (a.add 1) = some (.int .i64 q.1.wait) ∧ q.1.n ≤ 9223372036854775807 ∧ Ints W W.heap.size q.1.A q.1.n q.2.has ∧ q.1.wait = q.2.wait := by
  obtain ⟨_, hlen, hcell⟩ := World.cells?_some h1
  obtain ⟨xs, k, hk, hxy, _, hxl, hf⟩ := DataW.trod_struct Try.underlying83 h2
  match xs, hxl, cs', hlen with
  | [y0, y1], _, [v0, v1], _ =>
    have g0 := hf 0 _ rfl
    have g1 := hf 1 _ rfl
    simp [cellsIntS, cellsInt1] at g0 g1
    have e0 := hcell 0 (by omega)
    have e1 := hcell 1 (by omega)
    simp at e0 e1
    obtain ⟨A, n, c, xs, rfl, hn, hx⟩ := ints_of_trod g0
    obtain ⟨q, hq, _, hw⟩ := DataW.trod_int Try.underlying3 g1
    simp only [List.cons.injEq, and_true] at hq
    subst hq
    exact ⟨(⟨A, n, c, q⟩, ⟨xs, q⟩), by simpa [Addr.add] using e0, e1, hn, hx, rfl⟩
theorem holds_of_trod {fuel : Nat} {v : Value} {y : DataW H × List MemPlace} (hf : DataW.trod enc Try.prog W base (fun _ => true) held fuel 40 [v] = some y) :
    ∃ A n c R hs, v = .slice A n c ∧ n ≤ 9223372036854775807 ∧ HoldW W W.heap.size A n R hs ∧ (∀ r ∈ R, r.n ≤ 9223372036854775807) := by
  rcases Go.Deep.open_slice Try.underlying40 hf with ⟨hcs, _⟩ | ⟨a, len, cap, m, n, D, Pl, hcs, _, hl, hm, hmm, _, hel⟩
  · simp only [List.cons.injEq, and_true] at hcs
    subst hcs
    exact ⟨none, 0, 0, [], [], rfl, by omega, ⟨⟨rfl, fun h => absurd h (by omega)⟩, rfl, fun k r t h => by simp at h⟩, fun r h => by simp at h⟩
  · simp only [List.cons.injEq, and_true] at hcs
    subst hcs
    have hlm : len ≤ m := by rw [hmm]; split <;> omega
    rw [cellsLHold] at hel
    have hint : ∀ i, i < len → ∃ q : HR × HX, W.cell? (a.add (i * 2)) = some (.slice q.1.A q.1.n q.1.c) ∧ W.cell? ((a.add (i * 2)).add 1) = some (.int .i64 q.1.wait) ∧ q.1.n ≤ 9223372036854775807 ∧ Ints W W.heap.size q.1.A q.1.n q.2.has ∧ q.1.wait = q.2.wait := fun i hi => by
      obtain ⟨cs', h1, h2⟩ := hel i (by omega)
      exact hold_at h1 h2
    have hch : ∃ f : Nat → HR × HX, ∀ i, i < len → W.cell? (a.add (i * 2)) = some (.slice (f i).1.A (f i).1.n (f i).1.c) ∧ W.cell? ((a.add (i * 2)).add 1) = some (.int .i64 (f i).1.wait) ∧ (f i).1.n ≤ 9223372036854775807 ∧ Ints W W.heap.size (f i).1.A (f i).1.n (f i).2.has ∧ (f i).1.wait = (f i).2.wait :=
      ⟨fun i => if h : i < len then (hint i h).choose else (⟨none, 0, 0, 0⟩, ⟨[], 0⟩), fun i hi => by simp only [hi, dif_pos]; exact (hint i hi).choose_spec⟩
    obtain ⟨f, hfx⟩ := hch
    refine ⟨_, len, cap, (List.range len).map fun i => (f i).1, (List.range len).map fun i => (f i).2, rfl, by unfold maxLen at hm; omega, ⟨⟨by rw [hcv_length]; simp, fun h0 => ⟨a, rfl, ?_, fun j u hu => ?_⟩⟩, by simp, fun k rr t hr ht => ?_⟩, fun rr hr => ?_⟩
    · have := World.block_lt_of_cell? W _ (hfx 0 (by omega)).1
      rwa [block_of_add] at this
    · have hj : j < len * 2 := by
        have := (List.getElem?_eq_some_iff.1 hu).1
        rw [hcv_length] at this; simpa using this
      have hk : j / 2 < len := by omega
      have e : ((List.range len).map fun i => (f i).1)[j / 2]? = some (f (j / 2)).1 := by simp [hk]
      obtain ⟨y0, y1⟩ := hcv_get e
      obtain ⟨c0, c1, _⟩ := hfx _ hk
      rw [add_of_add] at c1
      rcases (by omega : j % 2 = 0 ∨ j % 2 = 1) with h3 | h3
      · have hi3 : j = j / 2 * 2 := by omega
        rw [← hi3] at y0 c0
        rw [y0] at hu; rw [← Option.some.inj hu]
        exact c0
      · have hi3 : j = j / 2 * 2 + 1 := by omega
        rw [← hi3] at y1 c1
        rw [y1] at hu; rw [← Option.some.inj hu]
        exact c1
    · have hk : k < len := by
        have := (List.getElem?_eq_some_iff.1 hr).1
        simpa using this
      rw [List.getElem?_map, List.getElem?_range hk] at hr ht
      simp only [Option.map_some, Option.some.injEq] at hr ht
      subst hr; subst ht
      obtain ⟨_, _, _, p, q⟩ := hfx k hk
      exact ⟨p, q⟩
    · obtain ⟨i, hi, rfl⟩ := List.mem_map.1 hr
      obtain ⟨_, _, p, _⟩ := hfx i (List.mem_range.1 hi)
      exact p
theorem openCredits {v : Value} {d : DataW H} {p : List MemPlace} (hv : Value.okWide Try.prog W r b0 42 v) (h : DataW.Trod enc Try.prog W base (fun _ => true) held 42 v d p) :
    ∃ F nf cf free A n c R hs, v = .agg #[.slice F nf cf, .slice A n c] ∧ nf ≤ 9223372036854775807 ∧ Ints W W.heap.size F nf free ∧ n ≤ 9223372036854775807 ∧ HoldW W W.heap.size A n R hs ∧ (∀ r ∈ R, r.n ≤ 9223372036854775807) := by
  obtain ⟨v0, v1, y0, y1, k, rfl, rfl, -, hy0, hy1⟩ := open_agg2 Try.underlying42 (by kernel_rfl) cellsLCr hv h
  obtain ⟨F, nf, cf, free, rfl, hnf, hx⟩ := ints_of_trod hy0
  obtain ⟨A, n, c, R, hs, rfl, hn, hh, hl⟩ := holds_of_trod hy1
  exact ⟨F, nf, cf, free, A, n, c, R, hs, rfl, hnf, hx, hn, hh, hl⟩
end
end Go.Proofs.Ytehgipbedlamaaa
