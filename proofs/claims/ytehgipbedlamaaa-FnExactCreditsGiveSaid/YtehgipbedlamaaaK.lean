/-
  Rows of the call's own between two bounds; what a call that writes between two bounds leaves alone. No program in sight but for the type of ints.
-/
import Derived.Test.YtehgipbedlamaaaMem
namespace Go.Proofs.Ytehgipbedlamaaa
open Go.RowKit
set_option linter.unusedVariables false

/-- The blocks from b to e are as they were. -/
def Same (b e : Nat) (w w' : World) : Prop := ∀ k, b ≤ k → k < e → w'.heap[k]? = w.heap[k]?
theorem same_of_below {b e B : Nat} {w w' : World} (h : Below B w w') (he : e ≤ B) : Same b e w w' := fun k _ hk => h.block k (by omega)
theorem Same.alloc {b e : Nat} {w : World} (he : e ≤ w.heap.size) (o : Obj) : Same b e w (w.alloc o) := fun k _ hk => Below.heap_alloc w o k (by omega)
theorem Same.drewN {b e : Nat} (w : World) (d : Nat) : Same b e w (w.drewN d) := fun _ _ _ => rfl
theorem Same.drew {b e : Nat} (w : World) : Same b e w w.drew := fun _ _ _ => rfl
theorem Same.set {b e : Nat} (w : World) {p : Addr} (h : p.block < b ∨ e ≤ p.block) (u : Value) : Same b e w (w.setCell p u) := fun k _ hk => Below.heap_setCell w p u k (by omega)
theorem Same.trans {b e : Nat} {w w1 w2 : World} (h : Same b e w w1) (h2 : Same b e w1 w2) : Same b e w w2 := fun k hk hk' => (h2 k hk hk').trans (h k hk hk')

/-- Two cells of block S are written, and a box is laid. -/
theorem Same.ys {b e S : Nat} {w : World} (he : e ≤ w.heap.size) (hd : S < b ∨ e ≤ S) (o : Obj) (u v : Value) : Same b e w (((w.setCell ⟨S, 0, none⟩ u).setCell ⟨S, 1, none⟩ v).alloc o) :=
  ((Same.set _ hd u).trans (Same.set _ hd v)).trans (Same.alloc (by simpa using he) o)
theorem below_ys {B S : Nat} {a w : World} (h : Below B a w) (hB : B ≤ w.heap.size) (hS : B ≤ S) (o : Obj) (u v : Value) : Below B a (((w.setCell ⟨S, 0, none⟩ u).setCell ⟨S, 1, none⟩ v).alloc o) :=
  ((h.setCell hS u).setCell hS v).alloc (by simpa using hB) o
theorem Blk.ys {S g : Nat} {w : World} {t : TypeId} {cs : Array Value} (h : Blk w g t cs) (hd : g ≠ S) (o : Obj) (u v : Value) : Blk (((w.setCell ⟨S, 0, none⟩ u).setCell ⟨S, 1, none⟩ v).alloc o) g t cs :=
  ((h.far hd u).far hd v).alloc o
theorem Blk.ys' {S : Nat} {w : World} {t : TypeId} {a b : Value} (h : Blk w S t #[a, b]) (o : Obj) (u v : Value) : Blk (((w.setCell ⟨S, 0, none⟩ u).setCell ⟨S, 1, none⟩ v).alloc o) S t #[u, v] :=
  ((h.set_ 0 u).set_ 1 v).alloc o

/-- Only blocks from b to e, and new ones, have changed. -/
structure Touch (b e : Nat) (w w' : World) : Prop where
  os : w'.os = w.os
  tape : w'.tape = w.tape
  output : w'.output = w.output
  size : w.heap.size ≤ w'.heap.size
  block : ∀ k, k < w.heap.size → (k < b ∨ e ≤ k) → w'.heap[k]? = w.heap[k]?
theorem Touch.same {b e b' e' : Nat} {w w' : World} (h : Touch b e w w') (hs : e' ≤ w.heap.size) (hd : e ≤ b' ∨ e' ≤ b) : Same b' e' w w' := fun k _ hk => h.block k (by omega) (by omega)
theorem Touch.below {b e B : Nat} {w w' : World} (h : Touch b e w w') (hb : B ≤ b) (hs : B ≤ w.heap.size) : Below B w w' := ⟨h.os, h.tape, h.output, h.size, fun k hk => h.block k (by omega) (by omega)⟩
theorem Touch.of_grown {b e : Nat} {w w' : World} {row : Option Nat} (h : w.grownBy w' row) (hr : ∀ k, row = some k → b ≤ k ∧ k < e) : Touch b e w w' :=
  ⟨h.os, h.tape, h.output, h.size, fun k hk hd => h.block k hk (fun e' => by have := hr k e'.symm; omega)⟩
theorem Touch.trans {b e : Nat} {w w1 w2 : World} (h : Touch b e w w1) (h2 : Touch b e w1 w2) : Touch b e w w2 :=
  ⟨h2.os.trans h.os, h2.tape.trans h.tape, h2.output.trans h.output, Nat.le_trans h.size h2.size, fun k hk hd => (h2.block k (Nat.lt_of_lt_of_le hk h.size) hd).trans (h.block k hk hd)⟩
theorem Touch.refl (b e : Nat) (w : World) : Touch b e w w := ⟨rfl, rfl, rfl, Nat.le_refl _, fun _ _ _ => rfl⟩
theorem Touch.of_below {b e : Nat} {w w' : World} (h : Below w.heap.size w w') : Touch b e w w' := ⟨h.os, h.tape, h.output, h.size, fun k hk _ => h.block k hk⟩
theorem Touch.blk {b e : Nat} {w w' : World} (h : Touch b e w w') {g : Nat} {t : TypeId} {cs : Array Value} (hb : Blk w g t cs) (hd : g < b ∨ e ≤ g) : Blk w' g t cs := (h.block g hb.lt hd).trans hb
theorem Blk.same {b e : Nat} {w w' : World} {g : Nat} {t : TypeId} {cs : Array Value} (hb : Blk w g t cs) (hs : Same b e w w') (h : b ≤ g) (h' : g < e) : Blk w' g t cs := (hs g h h').trans hb

/-- The slice value '.slice A n c' is a row of the call's own, of elements of type t, in a block from b to e, that holds the cells xs. -/
def Row (t : TypeId) (size : Nat) (w : World) (b e : Nat) (A : Option Addr) (n c : Nat) (xs : List Value) : Prop := w.ownsRow b t size (.slice A n c) n xs ∧ ∀ k, blk A = some k → k < e
section
variable {t : TypeId} {size : Nat} {w w' : World} {b e b' e' n c : Nat} {A : Option Addr} {xs : List Value}
theorem Row.mk' (h : w.ownsRow b t size (.slice A n c) n xs) : Row t size w b w.heap.size A n c xs := ⟨h, fun k hk => (World.ownsRow.lt h k (by rw [blk_own]; exact hk)).2⟩
theorem Row.keep (h : Row t size w b e A n c xs) (hs : Same b e w w') : Row t size w' b e A n c xs := by
  obtain ⟨⟨h1, h2⟩, h3⟩ := h
  refine ⟨⟨h1, ?_⟩, h3⟩
  rcases h2 with h2 | ⟨g, cap, cur, hv, hg, hh, r⟩
  · exact .inl h2
  · have hA : A = some ⟨g, 0, none⟩ := by injection hv
    exact .inr ⟨g, cap, cur, hv, hg, (hs g hg (h3 g (by rw [hA]; rfl))).trans hh, r⟩
theorem Row.mono (h : Row t size w b e A n c xs) (hb : b' ≤ b) (he : e ≤ e') : Row t size w b' e' A n c xs := by
  obtain ⟨⟨h1, h2⟩, h3⟩ := h
  refine ⟨⟨h1, ?_⟩, fun k hk => Nat.lt_of_lt_of_le (h3 k hk) he⟩
  rcases h2 with h2 | ⟨g, cap, cur, hv, hg, r⟩
  · exact .inl h2
  · exact .inr ⟨g, cap, cur, hv, Nat.le_trans hb hg, r⟩
theorem Row.reads (h : Row t size w b e A n c xs) {B : Nat} (hB : e ≤ B) : Reads w B size A n xs := by
  obtain ⟨h1, h3⟩ := h
  have h2 := Reads.of_own h1
  refine ⟨h2.1, fun hn => ?_⟩
  obtain ⟨ad, hA, _, hc⟩ := h2.2 hn
  exact ⟨ad, hA, Nat.lt_of_lt_of_le (h3 _ (by rw [hA]; rfl)) hB, hc⟩
theorem Row.len (h : Row t size w b e A n c xs) : xs.length = n * size := h.1.1
theorem Row.cap (h : Row t size w b e A n c xs) : n ≤ c := by
  rcases h.1.2 with ⟨hv, hn⟩ | ⟨g, cap, cur, hv, _, _, hnc, _⟩
  · omega
  · injection hv with _ _ hc; omega
theorem Row.lt (h : Row t size w b e A n c xs) {k : Nat} (hk : blk A = some k) : b ≤ k ∧ k < w.heap.size := World.ownsRow.lt h.1 k (by rw [blk_own]; exact hk)
end

/-- A row of ints of the call's own, in a block from b to e. -/
def RowI (w : World) (b e : Nat) (A : Option Addr) (n c : Nat) (xs : List Int) : Prop := Row 3 1 w b e A n c (iv xs)
section
variable {w w' : World} {b e b' e' n c : Nat} {A : Option Addr} {xs : List Int}
theorem rowI (h : Own w b A n c xs) : RowI w b w.heap.size A n c xs := Row.mk' h
theorem RowI.own (h : RowI w b e A n c xs) : Own w b A n c xs := h.1
theorem RowI.keep (h : RowI w b e A n c xs) (hs : Same b e w w') : RowI w' b e A n c xs := Row.keep h hs
theorem RowI.mono (h : RowI w b e A n c xs) (hb : b' ≤ b) (he : e ≤ e') : RowI w b' e' A n c xs := Row.mono h hb he
theorem RowI.ints (h : RowI w b e A n c xs) {B : Nat} (hB : e ≤ B) : Ints w B A n xs := Row.reads h hB
theorem RowI.intsD (h : RowI w b e A n c xs) (hB : e ≤ w.heap.size) : Ints w.drew w.drew.heap.size A n xs := RowI.ints h hB
theorem RowI.len (h : RowI w b e A n c xs) : xs.length = n := Own.len h.1
theorem RowI.cap (h : RowI w b e A n c xs) : n ≤ c := Row.cap h
theorem RowI.nil (w : World) (b e : Nat) : RowI w b e none 0 0 [] := ⟨Own.nil w b, fun k hk => by cases hk⟩
end
theorem RowI.form {w : World} {b e n c : Nat} {A : Option Addr} {xs : List Int} (h : RowI w b e A n c xs) (hn : 0 < n) : ∃ g, A = some ⟨g, 0, none⟩ ∧ b ≤ g ∧ g < e := by
  obtain ⟨g, hA, hb, _⟩ := h.own.form hn
  exact ⟨g, hA, hb, h.2 g (by rw [hA]; rfl)⟩
/-- The k-th cell of a row, under the name of its number. -/
theorem RowI.cellIs {w : World} {b e g n c : Nat} {xs : List Int} (h : RowI w b e (some ⟨g, 0, none⟩) n c xs) {k : Nat} {x : Int} (hx : xs[k]? = some x) : w.cell? ⟨g, k, none⟩ = some (.int .i64 x) ∧ w.frozen? ⟨g, k, none⟩ = false := by
  have hl := (List.getElem?_eq_some_iff.1 hx).1
  have h2 := h.own.cellAt (k := k) (by rw [h.len] at hl; exact hl)
  rw [List.getD_eq_getElem?_getD, hx] at h2
  exact h2
theorem RowI.of_touch {w w' : World} {b e n c : Nat} {A : Option Addr} {xs ys : List Int} (h : RowI w b e A n c xs) (h' : Own w' b A n c ys) : RowI w' b e A n c ys := ⟨h', h.2⟩

/-- Ints below the heap's size, carried over a new box. -/
theorem Ints.up {w w' : World} {B n : Nat} {A : Option Addr} {xs : List Int} (h : Ints w B A n xs) (hb : Below B w w') (hB : B ≤ w'.heap.size) : Ints w' w'.heap.size A n xs := (h.below hb).more hB
theorem Ints.box {w : World} {n : Nat} {A : Option Addr} {xs : List Int} (h : Ints w w.heap.size A n xs) (o : Obj) : Ints (w.alloc o) (w.alloc o).heap.size A n xs := (h.alloc (Nat.le_refl _) o).more (by simp)

/-- One step of a walk: all that was there is kept. -/
def Step (w w' : World) : Prop := Below w.heap.size w w'
section
variable {w w' : World} {b e n c g : Nat} {A : Option Addr} {xs : List Int} {t : TypeId} {cs : Array Value} {row : Option Nat} {B : Nat} {a : World}
theorem grown_row {P : Nat → Prop} (hg : w.grownBy w' row) (h : ∀ k, row = some k → P k) : ∃ row', (∀ k, row' = some k → P k) ∧ w.grownBy w' row' := ⟨row, h, hg⟩
theorem rowI_ex (o : Own w b A n c xs) : ∃ b', b ≤ b' ∧ RowI w b' w.heap.size A n c xs := ⟨b, Nat.le_refl _, rowI o⟩
theorem Ints.ofBlk {x : Int} (h : Blk w g 3 #[.int .i64 x]) : Ints w (g + 1) (some ⟨g, 0, none⟩) 1 [x] := by
  refine ⟨rfl, fun _ => ⟨_, rfl, Nat.lt_succ_self _, fun j u hu => ?_⟩⟩
  have hadd : (⟨g, 0, none⟩ : Addr).add j = ⟨g, j, none⟩ := by unfold Addr.add; split <;> simp_all
  rw [hadd, h.cell j]
  simpa [iv] using hu
theorem RowI.ints' (h : RowI w b e A n c xs) (he : e ≤ w.heap.size) : Ints w w.heap.size A n xs := RowI.ints h he
theorem RowI.step (h : RowI w b e A n c xs) (hs : Step w w') (he : e ≤ w.heap.size) : RowI w' b e A n c xs := h.keep (same_of_below hs he)
theorem RowI.alloc1 (h : RowI w b e A n c xs) (he : e ≤ w.heap.size) (o : Obj) : RowI (w.alloc o) b e A n c xs := h.keep (Same.alloc he o)
theorem RowI.drew1 (h : RowI w b e A n c xs) : RowI w.drew b e A n c xs := h.keep (Same.drew w)
theorem RowI.drewN1 (h : RowI w b e A n c xs) (d : Nat) : RowI (w.drewN d) b e A n c xs := h.keep (Same.drewN w d)
theorem RowI.grown1 (h : RowI w b e A n c xs) (hg : w.grownBy w' row) (he : e ≤ w.heap.size) (hr : ∀ k, row = some k → k < b ∨ e ≤ k) : RowI w' b e A n c xs :=
  h.keep fun k hk hk' => hg.block k (by omega) (fun e' => by have := hr k e'.symm; omega)
theorem Blk.step (h : Blk w g t cs) (hs : Step w w') : Blk w' g t cs := h.below hs h.lt
theorem Below.step (h : Below B a w) (hs : Step w w') (hB : B ≤ w.heap.size) : Below B a w' := h.trans (Below.mono hs hB)
theorem Own.step (h : Own w b A n c xs) (hs : Step w w') : Own w' b A n c xs := h.below hs
theorem Ints.step (h : Ints w B A n xs) (hs : Step w w') (hB : B ≤ w.heap.size) : Ints w' B A n xs := h.below (Below.mono hs hB)
end
theorem Blk.newAt {w : World} {t : TypeId} {cs : Array Value} {g : Nat} (h : g = w.heap.size) : Blk (w.alloc (.cells cs t)) g t cs := h ▸ Blk.new w t cs
/-- An empty slice reads as no ints. -/
theorem Ints.none0 (w : World) (B : Nat) (A : Option Addr) : Ints w B A 0 [] := ⟨rfl, fun h => absurd h (by omega)⟩
end Go.Proofs.Ytehgipbedlamaaa
