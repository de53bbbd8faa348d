/-
  A cut from k on of a slice of ints, in one equation.
-/
import Derived.Test.YtehgipbedlamaaaLists
namespace Go.Proofs.Ytehgipbedlamaaa
open Go.RowKit
set_option linter.unusedVariables false
theorem size_int (w : World) : (sizeOf (Try.prog.elem 23)).run Try.prog w = .ok 1 w := by kernel_rfl
theorem cut_run (A : Option Addr) (n c k : Nat) (hk : k ≤ n) (w : World) :
    (Instr.slice 23 (.slice A n c) (some (.int .i64 (k : Int))) none none).run Try.prog w = .ok (.slice (if c = k then A else A.map (·.add k)) (n - k) (c - k)) w := by
  rw [run_slice_l (P := Try.prog) (w := w) 23 A n c (by kernel_rfl) .i64 (k : Int) (by omega) (by omega), size_int]
  simp [Result.andThen, sliced]
theorem cutTo_run (A : Option Addr) (n c k : Nat) (hk : k ≤ n) (hc : n ≤ c) (w : World) :
    (Instr.slice 23 (.slice A n c) none (some (.int .i64 (k : Int))) none).run Try.prog w = .ok (.slice A k c) w := by
  rw [run_slice_h (P := Try.prog) (w := w) 23 A n c (by kernel_rfl) .i64 (k : Int) (by omega) (by omega), size_int]
  simp [Result.andThen, sliced]
  intro _
  rcases A with _ | ad
  · rfl
  · simp [Addr.add]
/-- A slice cut to its first k elements. -/
theorem Ints.takeI {w : World} {B n : Nat} {A : Option Addr} {xs : List Int} (h : Ints w B A n xs) {k : Nat} (hk : k ≤ n) : Ints w B A k (xs.take k) := by
  have hl := h.len
  obtain ⟨h1, h2⟩ := h
  refine ⟨by rw [iv_length, List.length_take]; omega, fun h0 => ?_⟩
  obtain ⟨ad, hA, hb, hc⟩ := h2 (by omega)
  refine ⟨ad, hA, hb, fun j u hu => hc j u ?_⟩
  unfold iv at hu ⊢
  rw [List.map_take, List.getElem?_take] at hu
  split at hu
  · exact hu
  · cases hu
end Go.Proofs.Ytehgipbedlamaaa
