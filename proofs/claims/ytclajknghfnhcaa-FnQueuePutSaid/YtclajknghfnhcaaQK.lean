/-
  The queue's copies, comparisons and marks, in the one form of all laws.
-/
import Derived.Test.YtclajknghfnhcaaQ2
import Derived.Test.YtclajknghfnhcaaSameK
namespace Go.Proofs.Ytclajknghfnhcaa
open Go.RowKit
set_option linter.unusedVariables false

theorem sameQueue_same (A A' : Option Addr) (n c n' c' : Nat) (xs ys : List Int) (B B' : Option Addr) (m d m' d' : Nat) (w : World)
    (hx : Ints w w.heap.size A n xs) (hy : Ints w w.heap.size A' n' ys) (hu : Ints w w.heap.size B m xs) (hv : Ints w w.heap.size B' m' ys) (hn : n ≤ 1048576) (hn' : n' ≤ 1048576) (hm : m ≤ 1048576) (hm' : m' ≤ 1048576) :
    Calls Try.prog 7 #[.agg #[.slice A n c, .slice A' n' c'], .agg #[.slice B m d, .slice B' m' d']] w (RetV (.bool true) w) :=
  (sameQueue_any A A' n c n' c' xs ys B B' m d m' d' xs ys w hx hy hu hv hn hn' hm hm').mono fun e w' ⟨h1, h2⟩ => ⟨by rw [h1]; simp, h2⟩
end Go.Proofs.Ytclajknghfnhcaa
