/-
  The plain laws of sets of groups. No program in sight.
-/
import Derived.Test.YtehgipbedlamaaaVL
namespace Go.Proofs.Ytehgipbedlamaaa
set_option linter.unusedVariables false

theorem mem_accK {p : Int → Bool} {n : Nat} {x : Int} : x ∈ accK p n ↔ (0 ≤ x ∧ x < n) ∧ p x = true := by
  simp only [accK, List.mem_filter, List.mem_map, List.mem_range]
  constructor
  · rintro ⟨⟨i, hi, rfl⟩, h⟩
    exact ⟨⟨by omega, by omega⟩, h⟩
  · rintro ⟨⟨h0, h7⟩, h⟩
    exact ⟨⟨x.toNat, by omega, by omega⟩, h⟩
theorem accK_sorted (p : Int → Bool) : (accK p 5).Pairwise (· < ·) := by
  unfold accK
  exact List.Pairwise.filter _ (by decide)
theorem accK_congr {p p' : Int → Bool} (h : ∀ x, 0 ≤ x → x < 5 → p x = p' x) : accK p 5 = accK p' 5 :=
  sorted_ext (accK_sorted _) (accK_sorted _) fun x => by
    rw [mem_accK, mem_accK]
    constructor
    · rintro ⟨hx, hp⟩; exact ⟨hx, by rw [← h x hx.1 hx.2]; exact hp⟩
    · rintro ⟨hx, hp⟩; exact ⟨hx, by rw [h x hx.1 hx.2]; exact hp⟩
theorem has_accK {p : Int → Bool} {x : Int} (h0 : 0 ≤ x) (h4 : x < 5) : hasB (accK p 5) x = p x := by
  cases h : p x with
  | true => exact hasB_iff.2 (mem_accK.2 ⟨⟨h0, h4⟩, h⟩)
  | false => exact hasB_no.2 fun hx => by rw [(mem_accK.1 hx).2] at h; cases h
/-- A set of groups is valid. -/
def gvB (xs : List Int) : Bool := decide (0 < xs.length) && (ascB xs && inR xs 0 4)
theorem gv_acc {p : Int → Bool} (h : 0 < (accK p 5).length) : gvB (accK p 5) = true := by
  simp only [gvB, Bool.and_eq_true, decide_eq_true_eq]
  exact ⟨h, asc_of_pairwise (accK_sorted p), inR_iff.2 fun x hx => by have := (mem_accK.1 hx).1; omega⟩
/-- The groups of either. -/
def unL (a b : List Int) : List Int := accK (fun g => hasB a g || hasB b g) 5
/-- The groups of both. -/
def gcL (a b : List Int) : List Int := if gvB a && gvB b then accK (fun g => hasB a g && hasB b g) 5 else []
theorem gc_len (a b : List Int) : (gcL a b).length ≤ 5 := by
  unfold gcL
  split
  · exact accK_len _ _
  · simp
end Go.Proofs.Ytehgipbedlamaaa
