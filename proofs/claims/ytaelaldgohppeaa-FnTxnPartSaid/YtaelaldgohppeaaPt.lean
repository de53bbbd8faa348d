/-
  Slicing a list of puts, as the program runs it.
-/
import Derived.Test.YtaelaldgohppeaaR5
namespace Go.Proofs.Ytaelaldgohppeaa
open Go.RowKit
set_option linter.unusedVariables false

theorem size_put (w : World) : (sizeOf (Try.prog.elem 45)).run Try.prog w = .ok 2 w := by kernel_rfl
theorem cutP_run (A : Option Addr) (n c k : Nat) (hk : k + 1 ≤ n) (w : World) :
    (Instr.slice 45 (.slice A n c) (some (.int .i64 ((k : Int) + 1))) none none).run Try.prog w = .ok (.slice (if c = k + 1 then A else A.map (·.add ((k + 1) * 2))) (n - (k + 1)) (c - (k + 1))) w := by
  rw [run_slice_l (P := Try.prog) (w := w) 45 A n c (by kernel_rfl) .i64 ((k : Int) + 1) (by omega) (by omega), size_put]
  simp [Result.andThen, sliced, show ((k : Int) + 1).toNat = k + 1 by omega]
theorem cutPTo_run (A : Option Addr) (n c k : Nat) (hk : k ≤ n) (hc : n ≤ c) (w : World) :
    (Instr.slice 45 (.slice A n c) none (some (.int .i64 (k : Int))) none).run Try.prog w = .ok (.slice A k c) w := by
  rw [run_slice_h (P := Try.prog) (w := w) 45 A n c (by kernel_rfl) .i64 (k : Int) (by omega) (by omega), size_put]
  simp [Result.andThen, sliced]
  intro _
  rcases A with _ | ad
  · rfl
  · simp [Addr.add]
theorem pv_take (ps : List (Int × Int)) : ∀ k : Nat, (pv ps).take (k * 2) = pv (ps.take k) := by
  induction ps with
  | nil => intro k; simp [pv]
  | cons p ps ih =>
    intro k
    cases k with
    | zero => simp [pv]
    | succ k => rw [pv_cons, List.take_succ_cons, pv_cons, show (k + 1) * 2 = k * 2 + 1 + 1 by omega, List.take_succ_cons, List.take_succ_cons, ih]
theorem pv_drop (ps : List (Int × Int)) : ∀ k : Nat, (pv ps).drop (k * 2) = pv (ps.drop k) := by
  induction ps with
  | nil => intro k; simp [pv]
  | cons p ps ih =>
    intro k
    cases k with
    | zero => simp
    | succ k => rw [pv_cons, List.drop_succ_cons, show (k + 1) * 2 = k * 2 + 1 + 1 by omega, List.drop_succ_cons, List.drop_succ_cons, ih]
theorem Puts.take {w : World} {B : Nat} {A : Option Addr} {n : Nat} {ps : List (Int × Int)} (h : Puts w B A n ps) {k : Nat} (hk : k ≤ n) : Puts w B A k (ps.take k) := by
  obtain ⟨h1, h2⟩ := h
  refine ⟨by rw [← pv_take, List.length_take, h1]; have := Nat.mul_le_mul_right 2 hk; omega, fun hp => ?_⟩
  obtain ⟨ad, hA, hb, hc⟩ := h2 (by omega)
  refine ⟨ad, hA, hb, fun j u hu => hc j u ?_⟩
  rw [← pv_take, List.getElem?_take] at hu
  split at hu
  · exact hu
  · cases hu
theorem Puts.cut {w : World} {B : Nat} {A : Option Addr} {n : Nat} {ps : List (Int × Int)} (h : Puts w B A n ps) {k d : Nat} (hk : k ≤ n) (hd : n ≤ d) : Puts w B (if d = k then A else A.map (·.add (k * 2))) (n - k) (ps.drop k) := by
  unfold Puts
  rw [← pv_drop]
  exact Reads.cut h hk hd
end Go.Proofs.Ytaelaldgohppeaa
