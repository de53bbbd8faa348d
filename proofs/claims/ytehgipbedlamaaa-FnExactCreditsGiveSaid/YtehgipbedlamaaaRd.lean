/-
  What is common to all draws: the reader's block, a call as a step of a region that draws.
-/
import Derived.Test.YtehgipbedlamaaaDraw
import Derived.Deep.RegionLaw
import Derived.Deep.DeepCutAuto
namespace Go.Proofs.Ytehgipbedlamaaa
open Go.RowKit
set_option linter.unusedVariables false

/-- A call of a Go function by its contract, as one step of a region that draws its order. -/
theorem step_calls {P : Program} {ops : Array Oper} {o : Oper} {a : Act} {w : World} {K : Act → World → Prop} {Q : Exit → Act → World → Prop} {E : Prop} (f : FuncId) (args : Array Value)
    (hg : o.guard = none) (hr : (execOp a.eval o).run P w = .ok (.enter f args) w) (h : Calls P f args w fun e w' => ∃ v, e = .returned v ∧ K (a.put o.dst v) w') :
    if Region.wanted o (yielded ops a.tmps) = true then Oper.wp P o a w K Q else E := by
  have hw : Region.wanted o (yielded ops a.tmps) = true := by simp [Region.wanted, hg]
  rw [if_pos hw]
  unfold Oper.wp
  rw [hr]
  exact h.mono fun e w' ⟨v, he, hk⟩ => by subst he; exact hk

theorem Rdr.lt {w : World} {B g : Nat} {p : Int} (h : Rdr w B g p) : g < w.heap.size ∧ B ≤ g := by
  obtain ⟨A, n, c, bs, hb, hB, _⟩ := h
  exact ⟨hb.lt, hB⟩
theorem Rdr.keep {w w' : World} {B g : Nat} {p : Int} (h : Rdr w B g p) (hb : ∀ k, k ≤ g → w'.heap[k]? = w.heap[k]?) : Rdr w' B g p := by
  obtain ⟨A, n, c, bs, hblk, hB, hn, hc, hbs⟩ := h
  exact ⟨A, n, c, bs, (hb g (Nat.le_refl _)).trans hblk, hB, hn, hc, hbs.keep fun q hq => World.cell?_of_block (hb q.block (by omega))⟩
theorem Rdr.alloc {w : World} {B g : Nat} {p : Int} (h : Rdr w B g p) (o : Obj) : Rdr (w.alloc o) B g p :=
  h.keep fun k hk => Below.heap_alloc w o k (by have := h.lt; omega)
theorem Rdr.drew {w : World} {B g : Nat} {p : Int} (h : Rdr w B g p) : Rdr w.drew B g p := h
theorem Rdr.grown {w w' : World} {B g : Nat} {p : Int} {row : Option Nat} (h : Rdr w B g p) (hg : w.grownBy w' row) (hr : ∀ k, row = some k → g < k) : Rdr w' B g p :=
  h.keep fun k hk => hg.block k (by have := h.lt; omega) (fun e => by have := hr k e.symm; omega)
theorem Rdr.setCell {w : World} {B g : Nat} {p : Int} (h : Rdr w B g p) {q : Addr} (hq : g < q.block) (u : Value) : Rdr (w.setCell q u) B g p :=
  h.keep fun k hk => Below.heap_setCell w q u k (by omega)

theorem own_ne_blk {w : World} {base n c g : Nat} {A : Option Addr} {xs : List Int} {t : TypeId} {cs : Array Value} (h : Own w base A n c xs) (hb : Blk w g t cs) (ht : 3 ≠ t) : blk A ≠ some g := by
  have := own_blk_ne h hb ht
  rwa [blk_own] at this

theorem only_set {a w : World} {g : Nat} (h : a.grownBy w (some g)) {p : Addr} (hp : a.heap.size ≤ p.block) (u : Value) : a.grownBy (w.setCell p u) (some g) :=
  ⟨h.os, h.tape, h.output, by simpa [World.setCell] using h.size, fun i hi hne => (Below.heap_setCell w p u i (by omega)).trans (h.block i hi hne)⟩
theorem grown_trans' {w w1 w2 : World} {row row2 : Option Nat} (h : w.grownBy w1 row) (h2 : w1.grownBy w2 row2) (hr : ∀ k, row2 = some k → row = some k ∨ w.heap.size ≤ k) : w.grownBy w2 row :=
  ⟨h2.os.trans h.os, h2.tape.trans h.tape, h2.output.trans h.output, Nat.le_trans h.size h2.size, fun k hk hne =>
    (h2.block k (Nat.lt_of_lt_of_le hk h.size) (fun e => by rcases hr k e.symm with h' | h'; exact hne h'.symm; omega)).trans (h.block k hk hne)⟩


theorem Bytes.up {w : World} {A : Option Addr} {n : Nat} {bs : List Int} (hb : Bytes w w.heap.size A n bs) (o : Obj) : Bytes (w.alloc o) (w.alloc o).heap.size A n bs :=
  ⟨Reads.more (Reads.alloc hb.1 (Nat.le_refl _) o) (by simp), hb.2⟩
end Go.Proofs.Ytehgipbedlamaaa
