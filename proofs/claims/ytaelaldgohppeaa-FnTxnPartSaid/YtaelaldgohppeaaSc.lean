/-
  What stands in memory behind the common head of a transaction's laws; plain facts for their tails.
-/
import Derived.Test.YtaelaldgohppeaaDT3
import Derived.Test.YtaelaldgohppeaaT6
namespace Go.Proofs.Ytaelaldgohppeaa
open Go.RowKit
set_option linter.unusedVariables false

structure Sc (w : World) (g : Nat) (A : Option Addr) (n : Nat) (xs : List Int) (A1 : Option Addr) (n1 c1 : Nat) (nd : Int) (A2 : Option Addr) (n2 c2 : Nat) (rs : List Int) (ps : List (Int × Int)) (Ao : Option Addr) (no : Nat) (Aw : Option Addr) (nw : Nat) (W : World) : Prop where
  b : Blk W g 47 #[.slice A1 n1 c1, .int .i64 nd, .slice A2 n2 c2]
  x : Ints W W.heap.size A n xs
  r : Ints W W.heap.size A1 n1 rs
  p : Puts W W.heap.size A2 n2 ps
  o : Ints W W.heap.size Ao no (taL xs ⟨rs, nd, ps⟩)
  v : Ints W W.heap.size Aw nw (taL xs ⟨rs, nd, ps⟩)
  bl : Below w.heap.size w W
  gl : w.heap.size ≤ g
  hn : n ≤ 15
  h1 : n1 ≤ 16
  h2 : n2 ≤ 16
  ho : no ≤ 15
  hw : nw ≤ 15
section
variable {w W W' : World} {g n n1 c1 n2 c2 no nw : Nat} {A A1 A2 Ao Aw : Option Addr} {xs rs : List Int} {nd : Int} {ps : List (Int × Int)}
theorem Sc.step (h : Sc w g A n xs A1 n1 c1 nd A2 n2 c2 rs ps Ao no Aw nw W) (hb : Below W.heap.size W W') : Sc w g A n xs A1 n1 c1 nd A2 n2 c2 rs ps Ao no Aw nw W' :=
  ⟨h.b.below hb h.b.lt, h.x.up hb hb.size, h.r.up hb hb.size, h.p.up hb hb.size, h.o.up hb hb.size, h.v.up hb hb.size, h.bl.trans (hb.mono h.bl.size), h.gl, h.hn, h.h1, h.h2, h.ho, h.hw⟩
theorem Sc.alloc (h : Sc w g A n xs A1 n1 c1 nd A2 n2 c2 rs ps Ao no Aw nw W) (o : Obj) : Sc w g A n xs A1 n1 c1 nd A2 n2 c2 rs ps Ao no Aw nw (W.alloc o) := h.step ((Below.refl _ _).alloc (Nat.le_refl _) _)
theorem Sc.drew (h : Sc w g A n xs A1 n1 c1 nd A2 n2 c2 rs ps Ao no Aw nw W) : Sc w g A n xs A1 n1 c1 nd A2 n2 c2 rs ps Ao no Aw nw W.drew := h.step (Below.drew (Below.refl _ _))
theorem Sc.drewN (h : Sc w g A n xs A1 n1 c1 nd A2 n2 c2 rs ps Ao no Aw nw W) (k : Nat) : Sc w g A n xs A1 n1 c1 nd A2 n2 c2 rs ps Ao no Aw nw (W.drewN k) := h.step (below_drewN (Below.refl _ _) k)
/-- A law's end. -/
theorem Sc.fin (h : Sc w g A n xs A1 n1 c1 nd A2 n2 c2 rs ps Ao no Aw nw W) (hb : Below W.heap.size W W') : Below w.heap.size w W' := h.bl.trans (hb.mono h.bl.size)
end
/-- A state that was handed back is not empty: all was valid. -/
theorem ta_pos {st : List Int} {t : TX} (h : (taL st t).length ≠ 0) : svB st = true ∧ tvB t = true := by
  unfold taL at h
  cases h1 : svB st <;> cases h2 : tvB t <;> simp [h1, h2] at h ⊢
theorem ta_fail {st : List Int} {t : TX} (h : (taL st t).length ≠ 0) (hb : taB st t = false) : taL st t = st := by
  obtain ⟨h1, h2⟩ := ta_pos h
  obtain ⟨e1, e2⟩ := taL_step h1 h2
  rw [e2] at hb
  rw [e1]
  simp only [tstep, hb]
  rfl
theorem ta_need {st : List Int} {t : TX} (h : (taL st t).length ≠ 0) (hb : taB st t = true) : t.need ≤ sumR st t.reads := (tOk_iff.1 (taL_yes hb).2.2.1).1
end Go.Proofs.Ytaelaldgohppeaa
