/-
  The arguments of the laws opened: what a reading of the form says of the values in memory, in our own words (Ints, Bytes).
-/
import Derived.Test.YtehgipbedlamaaaHead
import Derived.Test.YtehgipbedlamaaaMem
import Derived.ProofKit
import Derived.OpenShut
import Derived.Lib.SmallJoins
import Derived.ChangeOld
namespace Go.Proofs.Ytehgipbedlamaaa
open Go.ChangeShapes Go.WideShapes Go.ChangeAt Go.RowKit Go.Joins
set_option maxRecDepth 100000

/-- The slice value '.slice A n c' reads as the bytes bs, below block B. -/
def Bytes (w : World) (B : Nat) (A : Option Addr) (n : Nat) (bs : List Int) : Prop := Reads w B 1 A n (bs.map (Value.int .u8)) ∧ ∀ b ∈ bs, 0 ≤ b ∧ b < 256

section
variable {H : Type} {enc : TypeId × Value → H} {W : World} {base : Nat} {spare : Nat → Bool} {held : Bool} {r : Reach} {b0 : Nat}
theorem row_below {k : IntKind} {a : Addr} {n : Nat} {xs : List Int} (hn : xs.length = n) (hc : ∀ i, i < n → W.cell? (a.add i) = some (.int k (xs.getD i 0))) : Reads W W.heap.size 1 (some a) n (xs.map (Value.int k)) := by
  refine ⟨by simp [hn], fun h0 => ⟨a, rfl, ?_, fun j u hu => ?_⟩⟩
  · have := World.block_lt_of_cell? W _ (hc 0 h0)
    rwa [block_of_add] at this
  · have hj : j < n := by
      rw [← hn]
      have := (List.getElem?_eq_some_iff.1 hu).1
      simpa using this
    have e : (xs.map (Value.int k))[j]? = some (.int k (xs.getD j 0)) := by simp [hn, hj]
    rw [e] at hu
    injection hu with hu
    rw [← hu]
    exact hc j hj

theorem openBytes {v : Value} {d : DataW H} {p : List MemPlace} (hv : Value.okWide Try.prog W r b0 22 v) (h : DataW.Trod enc Try.prog W base spare held 22 v d p) :
    ∃ A n c bs, v = .slice A n c ∧ n ≤ c ∧ c ≤ 9223372036854775807 ∧ Bytes W W.heap.size A n bs := by
  obtain ⟨a0, len0, cap0, rfl⟩ := okWide_slice Try.underlying22 hv
  obtain ⟨fuel, hf⟩ := h
  rcases open_ints Try.underlying22 Try.underlying5 (by kernel_rfl) hf with ⟨hcs, _⟩ | ⟨x, l, c, zs, hcs, _, hl, hm, hz, _, hcell, hwz⟩
  · simp [Value.cells] at hcs
    obtain ⟨rfl, rfl, rfl⟩ := hcs
    exact ⟨none, 0, 0, [], rfl, by omega, by omega, Reads.none_, by simp⟩
  · simp [Value.cells] at hcs
    obtain ⟨rfl, rfl, rfl⟩ := hcs
    have hz' : len0 ≤ zs.length := by rw [hz]; split <;> omega
    refine ⟨_, len0, cap0, zs.take len0, rfl, hl, by unfold maxLen at hm; omega, row_below (by rw [List.length_take]; omega) (fun i hi => ?_), fun b hb => ?_⟩
    · rw [hcell i (by omega)]
      simp [hi]
    · have hw := hwz b (List.mem_of_mem_take hb)
      have := bounds_u8 hw
      omega
theorem ints_of_trod {fuel : Nat} {v : Value} {y : DataW H × List MemPlace} (hf : DataW.trod enc Try.prog W base spare held fuel 23 [v] = some y) :
    ∃ A n c xs, v = .slice A n c ∧ n ≤ 9223372036854775807 ∧ Ints W W.heap.size A n xs := by
  rcases open_ints Try.underlying23 Try.underlying3 (by kernel_rfl) hf with ⟨hcs, _⟩ | ⟨x, l, c, zs, hcs, _, hl, hm, hz, _, hcell, hwz⟩
  · simp only [List.cons.injEq, and_true] at hcs
    subst hcs
    exact ⟨none, 0, 0, [], rfl, by omega, Reads.none_⟩
  · simp only [List.cons.injEq, and_true] at hcs
    subst hcs
    have hz' : l ≤ zs.length := by rw [hz]; split <;> omega
    refine ⟨_, l, c, zs.take l, rfl, by unfold maxLen at hm; omega, row_below (by rw [List.length_take]; omega) (fun i hi => ?_)⟩
    rw [hcell i (by omega)]
    simp [hi]
theorem openInts {v : Value} {d : DataW H} {p : List MemPlace} (hv : Value.okWide Try.prog W r b0 23 v) (h : DataW.Trod enc Try.prog W base spare held 23 v d p) :
    ∃ A n c xs, v = .slice A n c ∧ n ≤ 9223372036854775807 ∧ Ints W W.heap.size A n xs := by
  obtain ⟨a0, len0, cap0, rfl⟩ := okWide_slice Try.underlying23 hv
  obtain ⟨fuel, hf⟩ := h
  exact ints_of_trod (by simpa [Value.cells] using hf)
end
end Go.Proofs.Ytehgipbedlamaaa
