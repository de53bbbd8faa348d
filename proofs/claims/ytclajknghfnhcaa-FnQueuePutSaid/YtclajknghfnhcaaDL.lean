/-
  The draws of the queue's laws: what each leaves.
-/
import Derived.Test.YtclajknghfnhcaaDQ
import Derived.Deep.RegionHeld3
namespace Go.Proofs.Ytclajknghfnhcaa
open Go.RowKit
set_option linter.unusedVariables false

/-- A queue and a number are drawn into memory of the call's own. -/
def DrewQI (w : World) (e : Ending) (w' : World) : Prop :=
  ∃ A n c A' n' c' xs ys x, e = .returned (.tuple #[.agg #[.slice A n c, .slice A' n' c'], .int .i64 x]) ∧ Own w' w.heap.size A n c xs ∧ Own w' w.heap.size A' n' c' ys ∧ n ≤ 21 ∧ n' ≤ 21 ∧ Below w.heap.size w w'

end Go.Proofs.Ytclajknghfnhcaa
