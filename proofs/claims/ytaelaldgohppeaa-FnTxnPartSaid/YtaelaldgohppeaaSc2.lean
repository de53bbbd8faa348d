/-
  A second transaction in memory; transactions of different groups.
-/
import Derived.Test.YtaelaldgohppeaaSc
namespace Go.Proofs.Ytaelaldgohppeaa
open Go.RowKit
set_option linter.unusedVariables false

/-- Block g holds a transaction that reads as rs, nd, ps. -/
structure Tb (W : World) (g : Nat) (A1 : Option Addr) (n1 c1 : Nat) (nd : Int) (A2 : Option Addr) (n2 c2 : Nat) (rs : List Int) (ps : List (Int × Int)) : Prop where
  b : Blk W g 47 #[.slice A1 n1 c1, .int .i64 nd, .slice A2 n2 c2]
  r : Ints W W.heap.size A1 n1 rs
  p : Puts W W.heap.size A2 n2 ps
section
variable {W W' : World} {g n1 c1 n2 c2 : Nat} {A1 A2 : Option Addr} {rs : List Int} {nd : Int} {ps : List (Int × Int)}
theorem Tb.step (h : Tb W g A1 n1 c1 nd A2 n2 c2 rs ps) (hb : Below W.heap.size W W') : Tb W' g A1 n1 c1 nd A2 n2 c2 rs ps := ⟨h.b.below hb h.b.lt, h.r.up hb hb.size, h.p.up hb hb.size⟩
theorem Tb.alloc (h : Tb W g A1 n1 c1 nd A2 n2 c2 rs ps) (o : Obj) : Tb (W.alloc o) g A1 n1 c1 nd A2 n2 c2 rs ps := h.step ((Below.refl _ _).alloc (Nat.le_refl _) _)
theorem Tb.drew (h : Tb W g A1 n1 c1 nd A2 n2 c2 rs ps) : Tb W.drew g A1 n1 c1 nd A2 n2 c2 rs ps := h.step (Below.drew (Below.refl _ _))
theorem Tb.new (hr : Ints W W.heap.size A1 n1 rs) (hp : Puts W W.heap.size A2 n2 ps) : Tb (W.alloc (.cells #[.slice A1 n1 c1, .int .i64 nd, .slice A2 n2 c2] 47)) W.heap.size A1 n1 c1 nd A2 n2 c2 rs ps :=
  ⟨Blk.new _ _ _, hr.box _, hp.box _⟩
end
theorem Bytes.step {w w' : World} {A : Option Addr} {n : Nat} {bs : List Int} (h : Bytes w w.heap.size A n bs) (hb : Below w.heap.size w w') : Bytes w' w'.heap.size A n bs :=
  ⟨Reads.more (Reads.below h.1 hb) hb.size, h.2⟩
theorem com_all {st : List Int} {t u : TX} (hs : svB st = true) (ht : tvB t = true) (hu : tvB u = true) (hg : (gcL (tgL t) (tgL u)).length = 0) :
    taB (taL st t) u = taB st u ∧ taB (taL st u) t = taB st t ∧ taL (taL st t) u = taL (taL st u) t := by
  obtain ⟨c1, c2, c3⟩ := commute_yes hs ht hu hg
  obtain ⟨a1, a2⟩ := taL_step hs ht
  obtain ⟨b1, b2⟩ := taL_step hs hu
  obtain ⟨d1, d2⟩ := taL_step (st := tstep st t) (t := u) (tstep_sv hs) hu
  obtain ⟨e1, e2⟩ := taL_step (st := tstep st u) (t := t) (tstep_sv hs) ht
  rw [a1, b1, d1, d2, e1, e2, a2, b2]
  exact ⟨c1, c2, c3⟩
end Go.Proofs.Ytaelaldgohppeaa
