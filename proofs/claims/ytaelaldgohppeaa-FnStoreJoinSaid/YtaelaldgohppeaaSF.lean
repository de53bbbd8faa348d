/-
  The plain facts that the laws of a state's parts come to. No program in sight.
-/
import Derived.Test.YtaelaldgohppeaaTL
import Derived.Test.YtaelaldgohppeaaSJ
namespace Go.Proofs.Ytaelaldgohppeaa
set_option linter.unusedVariables false

/-- The parts of the first k groups. -/
def partsL (st : List Int) (k : Nat) : List (List Int) := (List.range k).map fun (i : Nat) => spart st (i : Int)
theorem partsL_succ (st : List Int) (k : Nat) : partsL st (k + 1) = partsL st k ++ [spart st (k : Int)] := by simp [partsL, List.range_succ]
theorem partsL_len (st : List Int) (k : Nat) : (partsL st k).length = k := by simp [partsL]
theorem spart_at {st : List Int} (h : svB st = true) {g : Nat} (hg : g < 5) : spart st (g : Int) = [st.getD g 0, st.getD (g + 5) 0, st.getD (g + 10) 0] := by
  have h2 : inB (g : Int) 0 4 = true := by simp [inB]; omega
  simp only [spart, h, h2, Bool.and_self, if_true, Int.toNat_natCast]
  rfl
theorem fill_at (xss : List (List Int)) {i : Nat} (hi : i < 15) : (fillP xss 5 0).getD i 0 = (xss.getD (i % 5) []).getD (i / 5) 0 := by
  have h : i % 5 < 5 := Nat.mod_lt _ (by omega)
  simp [fillP, List.getD_eq_getElem?_getD, hi, h]
theorem join_parts {st : List Int} (h : svB st = true) : sjL (partsL st 5) = st := by
  have hf : fillP (partsL st 5) 5 0 = st := ext15 (fill_len _ _ _) (sv_iff.1 h).1 fun i hi => by
    rw [fill_at _ hi]
    have hm : i % 5 < 5 := Nat.mod_lt _ (by omega)
    have e : (partsL st 5).getD (i % 5) [] = spart st ((i % 5 : Nat) : Int) := by simp [partsL, List.getD_eq_getElem?_getD, hm]
    rw [e, spart_at h hm]
    rcases (by omega : i / 5 = 0 ∨ i / 5 = 1 ∨ i / 5 = 2) with e | e | e <;> rw [e] <;> simp <;> congr 2 <;> omega
  have h3 : three (partsL st 5) = true := by
    unfold three
    rw [List.all_eq_true]
    intro xs hx
    obtain ⟨i, hi, rfl⟩ := List.mem_map.1 hx
    rw [spart_at h (List.mem_range.1 hi)]; rfl
  rw [sjL_ok (partsL_len st 5) h3 (by rw [hf]; exact h), hf]
theorem join_pos {xss : List (List Int)} (h : (sjL xss).length ≠ 0) : xss.length = 5 ∧ three xss = true ∧ svB (fillP xss 5 0) = true ∧ sjL xss = fillP xss 5 0 := by
  unfold sjL at h ⊢
  split at h
  · rename_i h'
    rw [if_pos h']
    exact ⟨h'.1, h'.2.1, h'.2.2, rfl⟩
  · simp at h
theorem join_back {xss : List (List Int)} (h : (sjL xss).length ≠ 0) {g : Nat} {xs : List Int} (hg : xss[g]? = some xs) : spart (sjL xss) (g : Int) = xs := by
  obtain ⟨h5, h3, hs, e⟩ := join_pos h
  have hl := (List.getElem?_eq_some_iff.1 hg).1
  have hx3 : xs.length = 3 := by
    have := List.all_eq_true.1 h3 xs (List.mem_of_getElem? hg)
    simpa using this
  rw [e, spart_at hs (by omega), fill_at _ (by omega), fill_at _ (by omega), fill_at _ (by omega)]
  rw [show g % 5 = g by omega, show (g + 5) % 5 = g by omega, show (g + 10) % 5 = g by omega, show g / 5 = 0 by omega, show (g + 5) / 5 = 1 by omega, show (g + 10) / 5 = 2 by omega]
  have e : xss.getD g [] = xs := by rw [List.getD_eq_getElem?_getD, hg]; rfl
  rw [e]
  match xs, hx3 with
  | [a, b, c], _ => rfl
theorem sjL_len (xss : List (List Int)) : (sjL xss).length ≤ 15 := by
  unfold sjL
  split
  · rw [fill_len]; exact Nat.le_refl _
  · simp
end Go.Proofs.Ytaelaldgohppeaa
