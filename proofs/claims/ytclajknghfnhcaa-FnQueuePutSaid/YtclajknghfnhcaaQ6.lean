/-
  The contract of the reference's QueueTake.
-/
import Derived.Test.YtclajknghfnhcaaQ3
import Derived.ChangeAlike
namespace Go.Proofs.Ytclajknghfnhcaa
open Go.RowKit
set_option linter.unusedVariables false

/-- A call hands back a queue in memory of its own, an item and a bool. -/
def RetQIB (xs ys : List Int) (item : Int) (b : Bool) (w : World) (e : Ending) (w' : World) : Prop :=
  ∃ A n c A' n' c', e = .returned (.tuple #[.agg #[.slice A n c, .slice A' n' c'], .int .i64 item, .bool b]) ∧ Own w' w.heap.size A n c xs ∧ Own w' w.heap.size A' n' c' ys ∧ Apart A A' ∧ Below w.heap.size w w'

/-- What QueueTake returns. -/
def takeOk (xs ys : List Int) (who : Int) : Bool := qvB xs ys && inB who 0 3
def takeB (xs ys : List Int) (who : Int) : Bool := takeOk xs ys who && decide (ys.length < xs.length)
def takeItems (xs ys : List Int) (who : Int) : List Int := if takeOk xs ys who then xs else []
def takeTaken (xs ys : List Int) (who : Int) : List Int := if takeOk xs ys who then (if ys.length < xs.length then ys ++ [who] else ys) else []
def takeItem (xs ys : List Int) (who : Int) : Int := if takeB xs ys who then xs.getD ys.length 0 else 0

theorem take_len (xs ys : List Int) (who : Int) : (takeItems xs ys who).length ≤ xs.length ∧ (takeTaken xs ys who).length ≤ ys.length + 1 ∧ (takeTaken xs ys who).length ≤ 20 := by
  unfold takeItems takeTaken
  by_cases h : takeOk xs ys who = true
  · have h2 : xs.length ≤ 20 ∧ ys.length ≤ xs.length := by
      simp only [takeOk, qvB, Bool.and_eq_true, decide_eq_true_eq] at h
      omega
    by_cases h3 : ys.length < xs.length <;> simp [h, h3] <;> omega
  · simp [h]
theorem RetQIB.zero {w w' : World} (h : Below w.heap.size w w') : RetQIB [] [] 0 false w (.returned (.tuple #[.agg #[.slice none 0 0, .slice none 0 0], .int .i64 0, .bool false])) w' :=
  ⟨none, 0, 0, none, 0, 0, rfl, Own.nil _ _, Own.nil _ _, Apart.none_left _, h⟩

theorem take_no {xs ys : List Int} {who : Int} (h : takeOk xs ys who = false) : takeItems xs ys who = [] ∧ takeTaken xs ys who = [] ∧ takeItem xs ys who = 0 ∧ takeB xs ys who = false := by
  simp [takeItems, takeTaken, takeItem, takeB, h]
theorem take_none {xs ys : List Int} {who : Int} (h : takeOk xs ys who = true) (h2 : xs.length ≤ ys.length) : takeItems xs ys who = xs ∧ takeTaken xs ys who = ys ∧ takeItem xs ys who = 0 ∧ takeB xs ys who = false := by
  simp [takeItems, takeTaken, takeItem, takeB, h]; omega
theorem take_yes {xs ys : List Int} {who x : Int} (h : takeOk xs ys who = true) (hx : xs[ys.length]? = some x) : takeItems xs ys who = xs ∧ takeTaken xs ys who = ys ++ [who] ∧ takeItem xs ys who = x ∧ takeB xs ys who = true := by
  have h2 : ys.length < xs.length := (List.getElem?_eq_some_iff.1 hx).1
  have h3 : takeB xs ys who = true := by simp [takeB, h, h2]
  refine ⟨by simp [takeItems, h], by simp [takeTaken, h, h2], ?_, h3⟩
  unfold takeItem
  rw [if_pos h3, List.getD_eq_getElem?_getD, hx]; rfl
theorem qv_len' {xs ys : List Int} (h : qvB xs ys = true) : xs.length ≤ 20 ∧ ys.length ≤ xs.length := by
  simp only [qvB, Bool.and_eq_true, decide_eq_true_eq] at h
  exact ⟨h.1.1.1, h.1.2⟩

end Go.Proofs.Ytclajknghfnhcaa
