/-
  What all laws about credits share.
-/
import Derived.Test.YtehgipbedlamaaaHN
import Derived.Test.YtehgipbedlamaaaHO
import Derived.Test.YtehgipbedlamaaaHI
namespace Go.Proofs.Ytehgipbedlamaaa
open Go.RowKit
set_option linter.unusedVariables false

theorem giveC_len {c : CX} (s : Int) (hf : c.free.length ≤ 5) (hh : c.holds.length ≤ 6) : (giveC c s).free.length ≤ 5 ∧ (giveC c s).holds.length ≤ 6 := by
  cases hO : giveOk c s
  · rw [(give_no hO).1]; simp [cNo]
  · cases hS : stopG c s
    · have e := give_go hO hS
      rw [e.2.1]
      have := give_len e.1
      omega
    · rw [(give_stop hO hS).1]; exact ⟨hf, hh⟩
theorem askC_len {c : CX} (s g : Int) (hf : c.free.length ≤ 5) (hh : c.holds.length ≤ 6) : (askC c s g).free.length ≤ 5 ∧ (askC c s g).holds.length ≤ 6 := by
  cases hO : askOk c s g
  · rw [(ask_no hO).1]; simp [cNo]
  · cases hS : stopA c s g
    · rw [(ask_go hO hS).1]
      unfold askY
      split <;> simp <;> omega
    · rw [(ask_stop hO hS).1]; exact ⟨hf, hh⟩
/-- A box of credits and what they read as. -/
structure Bc (w wr : World) (g : Nat) (F : Option Addr) (nf cf : Nat) (A : Option Addr) (n c : Nat) (R : List HR) (cx : CX) : Prop where
  b : Blk wr g 26 #[.slice F nf cf, .slice A n c]
  x : Cr wr wr.heap.size F nf A n R cx
  bl : Below w.heap.size w wr
  f5 : nf ≤ 5
  n6 : n ≤ 6
section
variable {w wr w1 : World} {g nf cf n c nf' cf' n' c' : Nat} {F A F' A' : Option Addr} {R R' : List HR} {cx cx' : CX}
theorem Bc.step (h : Bc w wr g F nf cf A n c R cx) (hb : Below wr.heap.size wr w1) : Bc w w1 g F nf cf A n c R cx :=
  ⟨h.b.below hb h.b.lt, h.x.up hb hb.size, h.bl.trans (hb.mono h.bl.size), h.f5, h.n6⟩
theorem Bc.alloc (h : Bc w wr g F nf cf A n c R cx) (o : Obj) : Bc w (wr.alloc o) g F nf cf A n c R cx := h.step ((Below.refl _ _).alloc (Nat.le_refl _) o)
theorem Bc.start (hx : Cr w1 w1.heap.size F nf A n R cx) (hb : Below w.heap.size w w1) (h5 : nf ≤ 5) (h6 : n ≤ 6) : Bc w (w1.alloc (.cells #[.slice F nf cf, .slice A n c] 26)) w1.heap.size F nf cf A n c R cx :=
  ⟨Blk.new _ _ _, hx.box _, hb.alloc hb.size _, h5, h6⟩
theorem Bc.own {b : Nat} (o : OwnC w1 b F nf cf A n c R cx) (hb : Below w.heap.size w w1) (h5 : cx.free.length ≤ 5) (h6 : cx.holds.length ≤ 6) : Bc w (w1.alloc (.cells #[.slice F nf cf, .slice A n c] 26)) w1.heap.size F nf cf A n c R cx :=
  Bc.start o.reads hb (by have := o.f.len; omega) (by have := o.l; omega)
theorem Bc.lens (h : Bc w wr g F nf cf A n c R cx) : cx.free.length ≤ 5 ∧ cx.holds.length ≤ 6 := by
  have h1 := h.x.f.len; have h2 := h.x.h.l; have := h.f5; have := h.n6; omega
end
end Go.Proofs.Ytehgipbedlamaaa
