/-
  A slice of slices of ints: what it reads as (IntSS), and an argument of this type opened.
-/
import Derived.Test.YtaelaldgohppeaaOpen
import Derived.Test.YtaelaldgohppeaaK
import Derived.Deep.Matrix
namespace Go.Proofs.Ytaelaldgohppeaa
open Go.ChangeShapes Go.WideShapes Go.ChangeAt Go.RowKit Go.Joins
set_option linter.unusedVariables false

/-- A slice's three words as a value. -/
def sv (r : Option Addr × Nat × Nat) : Value := .slice r.1 r.2.1 r.2.2

/-- The slice value '.slice A n c' holds the slices R, which read as the lists xss, all below block B. -/
def IntSS (w : World) (B : Nat) (A : Option Addr) (n : Nat) (R : List (Option Addr × Nat × Nat)) (xss : List (List Int)) : Prop :=
  Reads w B 1 A n (R.map sv) ∧ xss.length = n ∧ ∀ (k : Nat) (r : Option Addr × Nat × Nat) (xs : List Int), R[k]? = some r → xss[k]? = some xs → r.2.1 ≤ 9223372036854775807 ∧ Ints w B r.1 r.2.1 xs

section
variable {w w' : World} {B B' n : Nat} {A : Option Addr} {R : List (Option Addr × Nat × Nat)} {xss : List (List Int)}
theorem IntSS.rlen (h : IntSS w B A n R xss) : R.length = n := by have := h.1.1; simpa using this
theorem IntSS.len (h : IntSS w B A n R xss) : xss.length = n := h.2.1
theorem IntSS.keep (h : IntSS w B A n R xss) (hk : ∀ p : Addr, p.block < B → w'.cell? p = w.cell? p) : IntSS w' B A n R xss :=
  ⟨h.1.keep hk, h.2.1, fun k r xs hr hx => ⟨(h.2.2 k r xs hr hx).1, (h.2.2 k r xs hr hx).2.keep hk⟩⟩
theorem IntSS.more (h : IntSS w B A n R xss) (hB : B ≤ B') : IntSS w B' A n R xss :=
  ⟨h.1.more hB, h.2.1, fun k r xs hr hx => ⟨(h.2.2 k r xs hr hx).1, (h.2.2 k r xs hr hx).2.more hB⟩⟩
theorem IntSS.below (h : IntSS w B A n R xss) (hb : Below B w w') : IntSS w' B A n R xss := h.keep fun _ hp => hb.cell hp
theorem IntSS.up (h : IntSS w B A n R xss) (hb : Below B w w') (hB : B ≤ w'.heap.size) : IntSS w' w'.heap.size A n R xss := (h.below hb).more hB
theorem IntSS.alloc (h : IntSS w B A n R xss) (hB : B ≤ w.heap.size) (o : Obj) : IntSS (w.alloc o) B A n R xss := h.keep fun p hp => World.cell?_alloc_lt w o p (by omega)
theorem IntSS.box (h : IntSS w w.heap.size A n R xss) (o : Obj) : IntSS (w.alloc o) (w.alloc o).heap.size A n R xss := (h.alloc (Nat.le_refl _) o).more (by simp)
theorem IntSS.none0 (w : World) (B : Nat) (A : Option Addr) : IntSS w B A 0 [] [] := ⟨⟨rfl, fun h => absurd h (by omega)⟩, rfl, fun k r xs hr => by simp at hr⟩
/-- The k-th of them. -/
theorem IntSS.elem (h : IntSS w B A n R xss) {k : Nat} (hk : k < n) : ∃ (ad : Addr) (r : Option Addr × Nat × Nat) (xs : List Int), A = some ad ∧ ad.block < B ∧ w.cell? (ad.add k) = some (.slice r.1 r.2.1 r.2.2) ∧ R[k]? = some r ∧ xss[k]? = some xs ∧ xss.take (k + 1) = xss.take k ++ [xs] ∧ r.2.1 ≤ 9223372036854775807 ∧ Ints w B r.1 r.2.1 xs := by
  obtain ⟨ad, u, hA, hb, hu, hc⟩ := h.1.at_ hk
  have hr : k < R.length := by rw [h.rlen]; exact hk
  have hx : k < xss.length := by rw [h.len]; exact hk
  have e1 : R[k]? = some R[k] := List.getElem?_eq_getElem hr
  have e2 : xss[k]? = some xss[k] := List.getElem?_eq_getElem hx
  rw [List.getElem?_map, e1] at hu
  have hu' : sv R[k] = u := by simpa using hu
  subst hu'
  exact ⟨ad, R[k], xss[k], hA, hb, hc, e1, e2, by rw [List.take_add_one, e2]; rfl, (h.2.2 k _ _ e1 e2).1, (h.2.2 k _ _ e1 e2).2⟩
end

section
variable {H : Type} {enc : TypeId × Value → H} {W : World} {base : Nat} {held : Bool} {r : Reach} {b0 : Nat}
theorem intss_of_trod {fuel : Nat} {v : Value} {y : DataW H × List MemPlace} (hf : DataW.trod enc Try.prog W base (fun _ => true) held fuel 32 [v] = some y) :
    ∃ A n c R xss, v = .slice A n c ∧ n ≤ 9223372036854775807 ∧ IntSS W W.heap.size A n R xss := by
  rcases Go.Deep.open_int_rows Try.underlying32 Try.underlying22 Try.underlying3 (by kernel_rfl) (by kernel_rfl) hf with ⟨hcs, _⟩ | ⟨a, l, cap, F, L, C, Z, hcs, _, hl, hm, _, hx⟩
  · simp only [List.cons.injEq, and_true] at hcs
    subst hcs
    exact ⟨none, 0, 0, [], [], rfl, by omega, IntSS.none0 _ _ _⟩
  · simp only [List.cons.injEq, and_true] at hcs
    subst hcs
    refine ⟨_, l, cap, (List.range l).map fun i => (F i, L i, C i), (List.range l).map fun i => (Z i).take (L i), rfl, by unfold maxLen at hm; omega, ⟨by simp, fun h0 => ⟨a, rfl, ?_, fun j u hu => ?_⟩⟩, by simp, fun k rr xs hr hxs => ?_⟩
    · have := World.block_lt_of_cell? W _ (hx 0 (by omega)).1
      rwa [block_of_add] at this
    · have hj : j < l := by
        have := (List.getElem?_eq_some_iff.1 hu).1
        simpa using this
      rw [List.getElem?_map, List.getElem?_map, List.getElem?_range hj] at hu
      simp only [Option.map_some, Option.some.injEq] at hu
      subst hu
      exact (hx j (by omega)).1
    · have hk : k < l := by
        have := (List.getElem?_eq_some_iff.1 hr).1
        simpa using this
      rw [List.getElem?_map, List.getElem?_range hk] at hr hxs
      simp only [Option.map_some, Option.some.injEq] at hr hxs
      subst hr; subst hxs
      obtain ⟨_, h1, h2, h3, _, h4, h5⟩ := hx k (by omega)
      refine ⟨by unfold maxLen at h2; simp only; omega, ?_⟩
      simp only
      cases hF : F k with
      | none =>
        have c0 := h4 hF
        have l0 : L k = 0 := by omega
        rw [l0]
        exact Ints.none0 _ _ _
      | some a' =>
        refine row_below (by rw [List.length_take]; omega) (fun i hi => ?_)
        rw [(h5 a' hF).2 i (by omega)]
        simp [hi]
theorem openIntSS {v : Value} {d : DataW H} {p : List MemPlace} (hv : Value.okWide Try.prog W r b0 32 v) (h : DataW.Trod enc Try.prog W base (fun _ => true) held 32 v d p) :
    ∃ A n c R xss, v = .slice A n c ∧ n ≤ 9223372036854775807 ∧ IntSS W W.heap.size A n R xss := by
  obtain ⟨a0, len0, cap0, rfl⟩ := okWide_slice Try.underlying32 hv
  obtain ⟨fuel, hf⟩ := h
  exact intss_of_trod (by simpa [Value.cells] using hf)
end
end Go.Proofs.Ytaelaldgohppeaa
