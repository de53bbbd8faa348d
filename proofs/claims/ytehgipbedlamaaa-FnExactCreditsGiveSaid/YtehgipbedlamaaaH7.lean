/-
  Credits of the call's own where a block of another kind, or one that none of its rows is, is written.
-/
import Derived.Test.YtehgipbedlamaaaH6
namespace Go.Proofs.Ytehgipbedlamaaa
open Go.RowKit
set_option linter.unusedVariables false

section
variable {w w' : World} {base nf cf n c : Nat} {F A : Option Addr} {R : List HR} {cx : CX}
/-- A block that is none of the rows has been written. -/
theorem OwnC.far (h : OwnC w base F nf cf A n c R cx) {g : Nat} (hg : w.grownBy w' (some g)) (hF : blk F ≠ some g) (hA : blk A ≠ some g) (hR : ∀ (k : Nat) (r : HR), R[k]? = some r → blk r.A ≠ some g) : OwnC w' base F nf cf A n c R cx :=
  ⟨h.f.kept hg (fun k hk e => hF (by rw [hk]; exact e.symm)),
   World.ownsRow.kept h.o hg (by
    cases hB : (Value.slice A n c).ownBlock with
    | none => exact .inl rfl
    | some k => rw [blk_own] at hB; exact .inr (fun e => hA (by rw [hB]; exact e))), h.l,
   fun j r t hrj hx => ⟨(h.i j r t hrj hx).1.kept hg (fun k hk e => hR j r hrj (by rw [hk]; exact e.symm)), (h.i j r t hrj hx).2⟩, h.d, h.e⟩
end
/-- A row does not lie in a block of another kind. -/
theorem own_ne_box {w : World} {base n c g s : Nat} {A : Option Addr} {e t : TypeId} {xs : List Value} {cs : Array Value} (h : w.ownsRow base e s (.slice A n c) n xs) (hb : Blk w g t cs) (ht : e ≠ t) : blk A ≠ some g := by
  intro hA
  rw [← blk_own (n := n) (c := c)] at hA
  rcases h.2 with ⟨hv, _⟩ | ⟨g', cap, cur, hv, _, hh, _⟩
  · rw [hv] at hA; simp [Value.ownBlock] at hA
  · rw [hv] at hA
    have e1 : g' = g := by simpa [Value.ownBlock] using hA
    subst e1
    have hb' := hb
    unfold Blk at hb'
    rw [hh] at hb'
    injection hb' with hb'
    injection hb' with _ h2
    exact ht h2
theorem OwnC.box {w w' : World} {base nf cf n c g : Nat} {F A : Option Addr} {R : List HR} {cx : CX} {t : TypeId} {cs : Array Value} (h : OwnC w base F nf cf A n c R cx) (hg : w.grownBy w' (some g)) (hb : Blk w g t cs) (h1 : 3 ≠ t) (h2 : 47 ≠ t) : OwnC w' base F nf cf A n c R cx :=
  h.far hg (own_ne_box h.f hb h1) (own_ne_box h.o hb h2) (fun k r hr => by
    have hl : k < cx.holds.length := by rw [h.l, ← h.rlen]; exact (List.getElem?_eq_some_iff.1 hr).1
    exact own_ne_box (h.i k r _ hr (List.getElem?_eq_getElem hl)).1 hb h1)
/-- What copies of credits hand back. -/
def RetC (cx : CX) (w : World) (e : Ending) (w' : World) : Prop :=
  ∃ F nf cf A n c R, e = .returned (.agg #[.slice F nf cf, .slice A n c]) ∧ OwnC w' w.heap.size F nf cf A n c R cx ∧ Below w.heap.size w w'
end Go.Proofs.Ytehgipbedlamaaa
