/-
  Contracts of the guard's functions: each returns a plain Lean function of its arguments, and leaves the world as it was.
-/
import Derived.Test.YtdikfkhblkapjaaChecked
import Derived.WalkKit
import Derived.WalkSpells
import Derived.WalkLawsBesides
import Derived.Below
namespace Go.Proofs.Ytdikfkhblkapjaa
open Go.RowKit
set_option linter.unusedVariables false

def inB (n lo hi : Int) : Bool := decide (lo ≤ n) && decide (n ≤ hi)

theorem l6In_any (n lo hi : Int) (w : World) :
    Calls Try.prog 47 #[.int .i64 n, .int .i64 lo, .int .i64 hi] w fun e w' => e = .returned (.bool (inB n lo hi)) ∧ w = w' := by
  by_cases h1 : lo ≤ n
  · go_enter Try.func47, Try.ntmps47
    go_wp2
    go_ret
    exact ⟨by simp [inB, h1], rfl⟩
  · go_enter Try.func47, Try.ntmps47
    go_wp2
    go_ret
    exact ⟨by simp [inB]; omega, rfl⟩

/-- What GuardCheck returns: the greater fence; whether the fence is accepted. -/
def gcOk (a b : Int) : Bool := inB a 0 99 && inB b 1 99
def gcN (a b : Int) : Int := if gcOk a b then (if b < a then a else b) else 0
def gcB (a b : Int) : Bool := gcOk a b && decide (a ≤ b)

theorem specGuard_any (a b : Int) (w : World) :
    Calls Try.prog 20 #[.int .i64 a, .int .i64 b] w fun e w' => e = .returned (.tuple #[.int .i64 (gcN a b), .bool (gcB a b)]) ∧ w = w' := by
  by_cases h1 : inB a 0 99 = true
  · by_cases h2 : inB b 1 99 = true
    · by_cases h3 : b < a
      · go_enter Try.func20, Try.ntmps20
        go_wp2_with (go_at_call 47; refine (l6In_any _ _ _ _).mono ?_; rintro e w' ⟨rfl, rfl⟩)
        go_ret2
        exact ⟨by simp [gcN, gcB, gcOk, h1, h2, h3], rfl⟩
      · go_enter Try.func20, Try.ntmps20
        go_wp2_with (go_at_call 47; refine (l6In_any _ _ _ _).mono ?_; rintro e w' ⟨rfl, rfl⟩)
        go_ret2
        exact ⟨by simp [gcN, gcB, gcOk, h1, h2, h3]; omega, rfl⟩
    · have h2' : inB b 1 99 = false := by simpa using h2
      go_enter Try.func20, Try.ntmps20
      go_wp2_with (go_at_call 47; refine (l6In_any _ _ _ _).mono ?_; rintro e w' ⟨rfl, rfl⟩)
      go_ret2
      exact ⟨by simp [gcN, gcB, gcOk, h2'], rfl⟩
  · have h1' : inB a 0 99 = false := by simpa using h1
    go_enter Try.func20, Try.ntmps20
    go_wp2_with (go_at_call 47; refine (l6In_any _ _ _ _).mono ?_; rintro e w' ⟨rfl, rfl⟩)
    go_ret2
    exact ⟨by simp [gcN, gcB, gcOk, h1'], rfl⟩

theorem implGuard_any (a b : Int) (w : World) :
    Calls Try.prog 21 #[.int .i64 a, .int .i64 b] w fun e w' => e = .returned (.tuple #[.int .i64 (gcN a b), .bool (gcB a b)]) ∧ w = w' := by
  by_cases h1 : a < 0
  · go_enter Try.func21, Try.ntmps21
    go_wp2
    go_ret2
    exact ⟨by simp [gcN, gcB, gcOk, inB]; omega, rfl⟩
  by_cases h2 : 99 < a
  · go_enter Try.func21, Try.ntmps21
    go_wp2
    go_ret2
    exact ⟨by simp [gcN, gcB, gcOk, inB]; omega, rfl⟩
  by_cases h3 : b < 1
  · go_enter Try.func21, Try.ntmps21
    go_wp2
    go_ret2
    exact ⟨by simp [gcN, gcB, gcOk, inB]; omega, rfl⟩
  by_cases h4 : 99 < b
  · go_enter Try.func21, Try.ntmps21
    go_wp2
    go_ret2
    exact ⟨by simp [gcN, gcB, gcOk, inB]; omega, rfl⟩
  · by_cases h5 : b ≤ a
    all_goals
      go_enter Try.func21, Try.ntmps21
      go_wp2
      all_goals
        go_ret2
        exact ⟨by simp [gcN, gcB, gcOk, inB]; omega, rfl⟩
end Go.Proofs.Ytdikfkhblkapjaa
