/-
  Credits of the call's own: no two of its rows share a block (OwnC).
-/
import Derived.Test.YtehgipbedlamaaaH4
namespace Go.Proofs.Ytehgipbedlamaaa
open Go.RowKit
set_option linter.unusedVariables false

/-- Two rows of the call's own of different element types lie in different blocks. -/
theorem own_ne_own {w : World} {b b' : Nat} {e e' : TypeId} {s s' n n' : Nat} {v v' : Value} {xs xs' : List Value} (h : w.ownsRow b e s v n xs) (h' : w.ownsRow b' e' s' v' n' xs') (hne : e ≠ e') {k : Nat} (hk : v.ownBlock = some k) : v'.ownBlock ≠ some k := by
  intro hk'
  rcases h.2 with ⟨rfl, _⟩ | ⟨g, cap, cur, rfl, _, hh, _⟩
  · simp [Value.ownBlock] at hk
  rcases h'.2 with ⟨rfl, _⟩ | ⟨g', cap', cur', rfl, _, hh', _⟩
  · simp [Value.ownBlock] at hk'
  have e1 : g = k := by simpa [Value.ownBlock] using hk
  have e2 : g' = k := by simpa [Value.ownBlock] using hk'
  subst e1; subst e2
  rw [hh] at hh'
  injection hh' with hh'
  injection hh' with _ ht
  exact hne ht
/-- Credits of the call's own. -/
structure OwnC (w : World) (base : Nat) (F : Option Addr) (nf cf : Nat) (A : Option Addr) (n c : Nat) (R : List HR) (cx : CX) : Prop where
  f : Own w base F nf cf cx.free
  o : w.ownsRow base 47 2 (.slice A n c) n (hcv R)
  l : cx.holds.length = n
  i : ∀ (k : Nat) (r : HR) (h : HX), R[k]? = some r → cx.holds[k]? = some h → Own w base r.A r.n r.c h.has ∧ r.wait = h.wait ∧ r.n ≤ 1048576
  d : ∀ (i j : Nat) (r s : HR) (x : Nat), i ≠ j → R[i]? = some r → R[j]? = some s → blk r.A = some x → blk s.A ≠ some x
  e : ∀ (k : Nat) (r : HR) (x : Nat), R[k]? = some r → blk r.A = some x → blk F ≠ some x
section
variable {w w' w1 w3 : World} {base base' nf cf n c c3 : Nat} {F A A3 : Option Addr} {R : List HR} {cx : CX} {r : HR} {h : HX} {row : Option Nat}
theorem OwnC.rlen (h : OwnC w base F nf cf A n c R cx) : R.length = n := by have := h.o.1; rw [hcv_length] at this; omega
theorem OwnC.kept (h : OwnC w base F nf cf A n c R cx) (hg : w.grownBy w' row) (hr : ∀ k, row = some k → k < base) : OwnC w' base F nf cf A n c R cx :=
  ⟨h.f.kept hg (fun k hk e => by have := (h.f.lt hk).1; have := hr k e; omega),
   World.ownsRow.kept h.o hg (by
    cases hA : (Value.slice A n c).ownBlock with
    | none => exact .inl rfl
    | some k => exact .inr (fun e => by have := (World.ownsRow.lt h.o k hA).1; have := hr k e.symm; omega)), h.l,
   fun j r t hrj hx => ⟨(h.i j r t hrj hx).1.kept hg (fun k hk e => by have := ((h.i j r t hrj hx).1.lt hk).1; have := hr k e; omega), (h.i j r t hrj hx).2⟩, h.d, h.e⟩
theorem OwnC.below (h : OwnC w base F nf cf A n c R cx) (hb : Below w.heap.size w w') : OwnC w' base F nf cf A n c R cx :=
  h.kept (row := none) ⟨hb.os, hb.tape, hb.output, hb.size, fun k hk _ => hb.block k hk⟩ (fun k e => by cases e)
theorem OwnC.alloc (h : OwnC w base F nf cf A n c R cx) (o : Obj) : OwnC (w.alloc o) base F nf cf A n c R cx := h.below ((Below.refl _ _).alloc (Nat.le_refl _) o)
theorem OwnC.reads (h : OwnC w base F nf cf A n c R cx) : Cr w w.heap.size F nf A n R cx :=
  ⟨h.f.ints, Reads.of_own h.o, h.l, fun k r t hr ht => ⟨(h.i k r t hr ht).1.ints, (h.i k r t hr ht).2⟩⟩
theorem OwnC.mono (h : OwnC w base F nf cf A n c R cx) (hb : base' ≤ base) : OwnC w base' F nf cf A n c R cx := by
  refine ⟨h.f.mono hb, ?_, h.l, fun j r t hr hx => ⟨(h.i j r t hr hx).1.mono hb, (h.i j r t hr hx).2⟩, h.d, h.e⟩
  obtain ⟨h1, h2⟩ := h.o
  refine ⟨h1, ?_⟩
  rcases h2 with h2 | ⟨g, cap, cur, hv, hg, r⟩
  · exact .inl h2
  · exact .inr ⟨g, cap, cur, hv, Nat.le_trans hb hg, r⟩
/-- A sender more. -/
theorem OwnC.app (hc : OwnC w1 base F nf cf A n c R cx) (h1 : Own w1 base r.A r.n r.c h.has) (h2 : r.wait = h.wait) (h3 : r.n ≤ 1048576)
    (hd : ∀ x, blk r.A = some x → (∀ (k : Nat) (s : HR), R[k]? = some s → blk s.A ≠ some x) ∧ blk F ≠ some x)
    (hg : w1.grownBy w3 (blk A)) (ho : w3.ownsRow base 47 2 (.slice A3 (n + 1) c3) (n + 1) (hcv (R ++ [r]))) :
    OwnC w3 base F nf cf A3 (n + 1) c3 (R ++ [r]) ⟨cx.free, cx.holds ++ [h]⟩ := by
  have key : ∀ {B : Option Addr} {m d : Nat} {xs : List Int}, Own w1 base B m d xs → Own w3 base B m d xs := fun {B m d xs} h2 => h2.kept hg (fun k hk e => by
    have := own_ne_own h2 hc.o (by decide) (k := k) (by rw [blk_own]; exact hk)
    rw [blk_own] at this
    exact this e)
  have hl := hc.rlen
  have at_ : ∀ (j : Nat) (s : HR), (R ++ [r])[j]? = some s → (j < n ∧ R[j]? = some s) ∨ (j = n ∧ s = r) := fun j s hs => by
    by_cases hj : j < n
    · rw [List.getElem?_append_left (by omega)] at hs
      exact .inl ⟨hj, hs⟩
    · have hjn : j = n := by
        have := (List.getElem?_eq_some_iff.1 hs).1
        simp at this; omega
      subst hjn
      rw [List.getElem?_append_right (by omega), hl] at hs
      simp at hs
      exact .inr ⟨rfl, hs.symm⟩
  refine ⟨key hc.f, ho, by simp [hc.l], fun j r' t' hr' hx' => ?_, fun i j a b x hij ha hb hx => ?_, fun k a x ha hx => ?_⟩
  · rcases at_ j r' hr' with ⟨hj, hr2⟩ | ⟨rfl, rfl⟩
    · simp only at hx'
      rw [List.getElem?_append_left (by rw [hc.l]; omega)] at hx'
      obtain ⟨p, q⟩ := hc.i j r' t' hr2 hx'
      exact ⟨key p, q⟩
    · simp only at hx'
      rw [List.getElem?_append_right (by rw [hc.l]; omega), hc.l] at hx'
      simp at hx'
      subst hx'
      exact ⟨key h1, h2, h3⟩
  · rcases at_ i a ha with ⟨_, ha2⟩ | ⟨rfl, rfl⟩
    · rcases at_ j b hb with ⟨_, hb2⟩ | ⟨rfl, rfl⟩
      · exact hc.d i j a b x hij ha2 hb2 hx
      · intro hbx
        exact (hd x hbx).1 i a ha2 hx
    · rcases at_ j b hb with ⟨_, hb2⟩ | ⟨rfl, rfl⟩
      · exact (hd x hx).1 j b hb2
      · exact absurd rfl hij
  · rcases at_ k a ha with ⟨_, ha2⟩ | ⟨rfl, rfl⟩
    · exact hc.e k a x ha2 hx
    · exact (hd x hx).2
end
theorem hold_info : (Try.prog.info? 47).map (fun i => (i.zero, i.size, i.bytes)) = some (some (.agg #[.slice none 0 0, .int .i64 0]), 2, 32) := by kernel_rfl
end Go.Proofs.Ytehgipbedlamaaa
