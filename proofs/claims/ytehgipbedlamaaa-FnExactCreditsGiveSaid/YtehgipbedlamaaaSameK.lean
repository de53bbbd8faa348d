/-
  The laws' own functions on lists of ints, in one form: equal lists, marks between two bounds.
-/
import Derived.Test.YtehgipbedlamaaaSame
import Derived.Test.YtehgipbedlamaaaK
namespace Go.Proofs.Ytehgipbedlamaaa
open Go.RowKit
set_option linter.unusedVariables false

/-- A call hands back a value and leaves all that was there. -/
def RetV (v : Value) (w : World) (e : Ending) (w' : World) : Prop := e = .returned v ∧ Below w.heap.size w w'
theorem RetB.same {w w' : World} {e : Ending} {b c : Bool} (h : RetB b w e w') (hc : b = c) : RetV (.bool c) w e w' := by
  obtain ⟨rfl, d, rfl⟩ := h
  subst hc
  exact ⟨rfl, below_drewN (Below.refl _ _) d⟩

theorem eqIntS_same (A A' : Option Addr) (n c m c' : Nat) (xs : List Int) (w : World) (hx : Ints w w.heap.size A n xs) (hy : Ints w w.heap.size A' m xs) (hn : n ≤ 1048576) (hm : m ≤ 1048576) :
    Calls Try.prog 51 #[.slice A n c, .slice A' m c'] w (RetV (.bool true) w) :=
  (eqIntS_any A A' n c m c' w.heap.size xs xs w hx hy hn hm).mono fun e w' h => h.same (by simp)
theorem sameInts_same (A A' : Option Addr) (n c m c' : Nat) (xs : List Int) (w : World) (hx : Ints w w.heap.size A n xs) (hy : Ints w w.heap.size A' m xs) (hn : n ≤ 1048576) (hm : m ≤ 1048576) :
    Calls Try.prog 29 #[.slice A n c, .slice A' m c'] w (RetV (.bool true) w) :=
  (sameInts_any A A' n c m c' w.heap.size xs xs w hx hy hn hm).mono fun e w' h => h.same (by simp)
theorem sameInts_b (A A' : Option Addr) (n c m c' : Nat) (xs ys : List Int) (w : World) (hx : Ints w w.heap.size A n xs) (hy : Ints w w.heap.size A' m ys) (hn : n ≤ 1048576) (hm : m ≤ 1048576) (b : Bool) (hb : (xs == ys) = b) :
    Calls Try.prog 29 #[.slice A n c, .slice A' m c'] w (RetV (.bool b) w) :=
  (sameInts_any A A' n c m c' w.heap.size xs ys w hx hy hn hm).mono fun e w' h => h.same hb
theorem toIntS_r (A : Option Addr) (n c : Nat) (xs : List Int) (w : World) (hr : Ints w w.heap.size A n xs) (hn : n ≤ 1048576) :
    Calls Try.prog 49 #[.slice A n c] w (RetInts xs w) := toIntS_any A n c w.heap.size xs w hr (Nat.le_refl _) hn
/-- Marks are laid between two bounds. -/
def MarkedI (b e : Nat) (A : Option Addr) (n c : Nat) (k : Int) (w : World) (r : Ending) (w' : World) : Prop := r = .returned (.int .i64 (k + n)) ∧ RowI w' b e A n c (marks k n) ∧ Touch b e w w'
theorem markIntS_t (A : Option Addr) (n c b e : Nat) (xs : List Int) (k : Int) (w : World) (hr : RowI w b e A n c xs) (h0 : 0 ≤ k) (hk : k ≤ 8388608) (hn : n ≤ 1048576) :
    Calls Try.prog 53 #[.slice A n c, .int .i64 k] w (MarkedI b e A n c k w) :=
  (markIntS_any A n c b xs k w hr.own h0 hk hn).mono fun r w' ⟨h1, h2, h3⟩ => ⟨h1, ⟨h2, hr.2⟩, Touch.of_grown h3 (fun k hk => ⟨(hr.own.lt hk).1, hr.2 k hk⟩)⟩
theorem heldIntS_v (A : Option Addr) (n c : Nat) (k : Int) (w : World) (hr : Ints w w.heap.size A n (marks k n)) (h0 : 0 ≤ k) (hk : k ≤ 8388608) (hn : n ≤ 1048576) :
    Calls Try.prog 55 #[.slice A n c, .int .i64 k] w (RetV (.int .i64 (k + n)) w) :=
  (heldIntS_any A n c w.heap.size k w hr h0 hk hn).mono fun r w' ⟨h1, h2⟩ => ⟨h1, h2 ▸ Below.refl _ _⟩

/-- append(out, v) of one int that was laid into a block of its own, as a step of a region that draws. -/
theorem step_appone {w : World} {ops : Array Oper} {o : Oper} {a : Act} {Q : Exit → Act → World → Prop} {K : Act → World → Prop} {E : Prop} (hgd : o.guard = none) (s x : Operand) (ho : o.op = .call { callee := .builtin .append, args := #[s, x], argTypes := #[23, 23] })
    (base : Nat) {A : Option Addr} {n c : Nat} {xs : List Int} (hs : a.eval s = .slice A n c) (hown : Own w base A n c xs)
    (g c' : Nat) (v : Int) (hx : a.eval x = .slice (some ⟨g, 0, none⟩) 1 c') (hb : Blk w g 3 #[.int .i64 v]) (hlen : n + 1 ≤ 4194304) (hbase : base ≤ w.heap.size)
    (h : ∀ A2 c2 w', Own w' base A2 (n + 1) c2 (xs ++ [v]) → w.grownBy w' (blk A) → (blk A2 = blk A ∨ blk A2 = some w.heap.size) → K (a.put o.dst (.slice A2 (n + 1) c2)) w') :
    if Region.wanted o (yielded ops a.tmps) = true then Oper.wp Try.prog o a w K Q else E :=
  step_app1 hgd s x ho base hs hown (g + 1) _ 1 c' [v] hx (Ints.ofBlk hb) hlen hbase h
end Go.Proofs.Ytehgipbedlamaaa
