/-
  Contracts of QueueOf, the program's and the reference's, and of the reference's QueueLeft.
-/
import Derived.Test.YtclajknghfnhcaaQ2
import Derived.Test.YtclajknghfnhcaaCut
namespace Go.Proofs.Ytclajknghfnhcaa
open Go.RowKit
set_option linter.unusedVariables false

/-- What the first k entries tell of a consumer's items. -/
def qofK (xs ys : List Int) (who : Int) (k : Nat) : List Int := ((List.range k).filter fun i => ys.getD i 0 == who).map fun i => xs.getD i 0
def qof (xs ys : List Int) (who : Int) : List Int := if qvB xs ys then qofK xs ys who ys.length else []
theorem qofK_zero (xs ys : List Int) (who : Int) : qofK xs ys who 0 = [] := by simp [qofK]
theorem qofK_yes {xs ys : List Int} {who x y : Int} {k : Nat} (hy : ys[k]? = some y) (hx : xs[k]? = some x) (h : (y == who) = true) : qofK xs ys who (k + 1) = qofK xs ys who k ++ [x] := by
  unfold qofK
  rw [List.range_succ, List.filter_append, List.map_append]
  simp [hy, hx, h]
theorem qofK_no {xs ys : List Int} {who y : Int} {k : Nat} (hy : ys[k]? = some y) (h : (y == who) = false) : qofK xs ys who (k + 1) = qofK xs ys who k := by
  unfold qofK
  rw [List.range_succ, List.filter_append, List.map_append]
  simp [hy, h]
theorem qofK_len (xs ys : List Int) (who : Int) (k : Nat) : (qofK xs ys who k).length ≤ k := by
  unfold qofK
  rw [List.length_map]
  exact Nat.le_trans (List.length_filter_le _ _) (by simp)
theorem qof_len (xs ys : List Int) (who : Int) : (qof xs ys who).length ≤ ys.length := by
  unfold qof; split
  · exact qofK_len _ _ _ _
  · simp
theorem qv_len {xs ys : List Int} (h : qvB xs ys = true) : xs.length ≤ 20 ∧ ys.length ≤ xs.length := by
  simp only [qvB, Bool.and_eq_true, decide_eq_true_eq] at h
  exact ⟨h.1.1.1, h.1.2⟩

theorem RetInts.zero {w w' : World} (h : Below w.heap.size w w') : RetInts [] w (.returned (.slice none 0 0)) w' := ⟨none, 0, 0, rfl, Own.nil _ _, h⟩

/-- The items that were not taken. -/
def qleft (xs ys : List Int) : List Int := if qvB xs ys then xs.drop ys.length else []
theorem qleft_len (xs ys : List Int) : (qleft xs ys).length ≤ xs.length := by
  unfold qleft; split
  · simp
  · simp
end Go.Proofs.Ytclajknghfnhcaa
