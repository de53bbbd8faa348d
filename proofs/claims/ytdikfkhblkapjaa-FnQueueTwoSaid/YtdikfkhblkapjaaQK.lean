/-
  The queue's copies, comparisons and marks, in the one form of all laws.
-/
import Derived.Test.YtdikfkhblkapjaaQ2
import Derived.Test.YtdikfkhblkapjaaSameK
namespace Go.Proofs.Ytdikfkhblkapjaa
open Go.RowKit
set_option linter.unusedVariables false

theorem eqQueue_same (A A' : Option Addr) (n c n' c' : Nat) (xs ys : List Int) (B B' : Option Addr) (m d m' d' : Nat) (w : World)
    (hx : Ints w w.heap.size A n xs) (hy : Ints w w.heap.size A' n' ys) (hu : Ints w w.heap.size B m xs) (hv : Ints w w.heap.size B' m' ys) (hn : n ≤ 1048576) (hn' : n' ≤ 1048576) (hm : m ≤ 1048576) (hm' : m' ≤ 1048576) :
    Calls Try.prog 27 #[.agg #[.slice A n c, .slice A' n' c'], .agg #[.slice B m d, .slice B' m' d']] w (RetV (.bool true) w) :=
  (eqQueue_any A A' n c n' c' xs ys B B' m d m' d' xs ys w hx hy hu hv hn hn' hm hm').mono fun e w' ⟨h1, h2⟩ => ⟨by rw [h1]; simp, h2⟩
theorem sameQueue_same (A A' : Option Addr) (n c n' c' : Nat) (xs ys : List Int) (B B' : Option Addr) (m d m' d' : Nat) (w : World)
    (hx : Ints w w.heap.size A n xs) (hy : Ints w w.heap.size A' n' ys) (hu : Ints w w.heap.size B m xs) (hv : Ints w w.heap.size B' m' ys) (hn : n ≤ 1048576) (hn' : n' ≤ 1048576) (hm : m ≤ 1048576) (hm' : m' ≤ 1048576) :
    Calls Try.prog 38 #[.agg #[.slice A n c, .slice A' n' c'], .agg #[.slice B m d, .slice B' m' d']] w (RetV (.bool true) w) :=
  (sameQueue_any A A' n c n' c' xs ys B B' m d m' d' xs ys w hx hy hu hv hn hn' hm hm').mono fun e w' ⟨h1, h2⟩ => ⟨by rw [h1]; simp, h2⟩
def MarkedQ (b e : Nat) (A : Option Addr) (n c : Nat) (A' : Option Addr) (n' c' : Nat) (k : Int) (w : World) (r : Ending) (w' : World) : Prop :=
  r = .returned (.int .i64 (k + n + n')) ∧ RowI w' b e A n c (marks k n) ∧ RowI w' b e A' n' c' (marks (k + n) n') ∧ Touch b e w w'
theorem markQueue_t (A A' : Option Addr) (n c n' c' : Nat) (xs ys : List Int) (b e : Nat) (k : Int) (w : World) (hx : RowI w b e A n c xs) (hy : RowI w b e A' n' c' ys) (hap : Apart A A') (h0 : 0 ≤ k) (hk : k ≤ 1048576) (hn : n ≤ 1048576) (hn' : n' ≤ 1048576) :
    Calls Try.prog 41 #[.agg #[.slice A n c, .slice A' n' c'], .int .i64 k] w (MarkedQ b e A n c A' n' c' k w) := by
  refine (markQueue_any A A' n c n' c' xs ys b k w hx.own hy.own hap h0 hk hn hn').mono ?_
  rintro r w' ⟨h1, h2, h3, h4, h5, h6, h7, h8⟩
  refine ⟨h1, ⟨h2, hx.2⟩, ⟨h3, hy.2⟩, ⟨h5, h6, h7, h4, fun i hi hd => h8 i hi ?_ ?_⟩⟩
  · intro e'
    have := (hx.own.lt e'.symm).1
    have := hx.2 i e'.symm
    omega
  · intro e'
    have := (hy.own.lt e'.symm).1
    have := hy.2 i e'.symm
    omega
theorem heldQueue_v (A A' : Option Addr) (n c n' c' : Nat) (k : Int) (w : World) (hx : Ints w w.heap.size A n (marks k n)) (hy : Ints w w.heap.size A' n' (marks (k + n) n')) (h0 : 0 ≤ k) (hk : k ≤ 1048576) (hn : n ≤ 1048576) (hn' : n' ≤ 1048576) :
    Calls Try.prog 46 #[.agg #[.slice A n c, .slice A' n' c'], .int .i64 k] w (RetV (.int .i64 (k + n + n')) w) := heldQueue_any A A' n c n' c' k w hx hy h0 hk hn hn'
end Go.Proofs.Ytdikfkhblkapjaa
