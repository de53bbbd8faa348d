/-
  Contracts of the store's functions that test a state and take a group's part of it.
-/
import Derived.Test.YtehgipbedlamaaaSameK
import Derived.Deep.RegionHeld3
import Derived.Deep.DeepCutAuto
import Derived.IntWalk
namespace Go.Proofs.Ytehgipbedlamaaa
open Go.RowKit
set_option linter.unusedVariables false

/-- A state is valid. -/
def svB (xs : List Int) : Bool := decide (xs.length = 15) && inR xs 0 999

theorem isGroup_any (g : Int) (w : World) : Calls Try.prog 42 #[.int .i64 g] w fun e w' => e = .returned (.bool (inB g 0 4)) ∧ w = w' := by
  by_cases h0 : g < 0
  · go_enter Try.func42, Try.ntmps42
    go_wp2
    go_ret
    exact ⟨ret_bool (inB_low h0).symm, rfl⟩
  by_cases h4 : 4 < g
  · go_enter Try.func42, Try.ntmps42
    go_wp2
    go_ret
    exact ⟨ret_bool (by rw [inB_high h4]; simp; omega), rfl⟩
  · go_enter Try.func42, Try.ntmps42
    go_wp2
    go_ret
    exact ⟨ret_bool (by rw [inB_in (show 0 ≤ g by omega) (show g ≤ 4 by omega)]; simp; omega), rfl⟩
theorem l1Group_any (g : Int) (w : World) : Calls Try.prog 43 #[.int .i64 g] w fun e w' => e = .returned (.bool (inB g 0 4)) ∧ w = w' := by
  go_enter Try.func43, Try.ntmps43
  go_wp2_with (go_at_call 38; refine (l6In_any _ _ _ _).mono ?_; rintro e w' ⟨rfl, rfl⟩)
  go_ret
  exact ⟨rfl, rfl⟩
/-- A group's values. -/
def partJ (xs : List Int) (g j : Nat) : List Int := (List.range j).map fun i => xs.getD (g + 5 * i) 0
def partK (xs : List Int) (g k : Nat) : List Int := ((List.range k).filter fun i => i % 5 == g).map fun i => xs.getD i 0
theorem part_eq (xs : List Int) (g : Nat) (h : g < 5) : partK xs g 15 = partJ xs g 3 := by
  rcases (by omega : g = 0 ∨ g = 1 ∨ g = 2 ∨ g = 3 ∨ g = 4) with rfl | rfl | rfl | rfl | rfl <;> rfl
theorem partJ_succ (xs : List Int) (g j : Nat) : partJ xs g (j + 1) = partJ xs g j ++ [xs.getD (g + 5 * j) 0] := by simp [partJ, List.range_succ]
theorem partK_yes {xs : List Int} {g k : Nat} (h : k % 5 = g) : partK xs g (k + 1) = partK xs g k ++ [xs.getD k 0] := by simp [partK, List.range_succ, h]
theorem partK_no {xs : List Int} {g k : Nat} (h : ¬ k % 5 = g) : partK xs g (k + 1) = partK xs g k := by simp [partK, List.range_succ, h]
theorem partK_len (xs : List Int) (g k : Nat) : (partK xs g k).length ≤ k := by
  have := List.length_filter_le (fun i => i % 5 == g) (List.range k)
  simpa [partK] using this
def spart (xs : List Int) (g : Int) : List Int := if svB xs && inB g 0 4 then partJ xs g.toNat 3 else []
theorem spart_len (xs : List Int) (g : Int) : (spart xs g).length ≤ 3 := by
  unfold spart; split
  · simp [partJ]
  · simp
theorem sv_len {xs : List Int} (h : svB xs = true) : xs.length = 15 := by
  simp only [svB, Bool.and_eq_true, decide_eq_true_eq] at h
  exact h.1
end Go.Proofs.Ytehgipbedlamaaa
