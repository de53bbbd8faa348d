/-
  A cut from k on of a slice of ints, in one equation.
-/
import Derived.Test.YtdikfkhblkapjaaLists
namespace Go.Proofs.Ytdikfkhblkapjaa
open Go.RowKit
set_option linter.unusedVariables false
theorem size_int (w : World) : (sizeOf (Try.prog.elem 29)).run Try.prog w = .ok 1 w := by kernel_rfl
theorem cut_run (A : Option Addr) (n c k : Nat) (hk : k ≤ n) (w : World) :
    (Instr.slice 29 (.slice A n c) (some (.int .i64 (k : Int))) none none).run Try.prog w = .ok (.slice (if c = k then A else A.map (·.add k)) (n - k) (c - k)) w := by
  rw [run_slice_l (P := Try.prog) (w := w) 29 A n c (by kernel_rfl) .i64 (k : Int) (by omega) (by omega), size_int]
  simp [Result.andThen, sliced]
end Go.Proofs.Ytdikfkhblkapjaa
