/-
  Parts of a list of transactions.
-/
import Derived.Test.YtaelaldgohppeaaR3
import Derived.Test.YtaelaldgohppeaaSc2
namespace Go.Proofs.Ytaelaldgohppeaa
open Go.RowKit
set_option linter.unusedVariables false

/-- Each of these transactions, with its row, is one of those. -/
structure SubR (R : List TR) (ts : List TX) (R' : List TR) (ts' : List TX) : Prop where
  l : R'.length = ts'.length
  i : ∀ (j : Nat) (r : TR) (t : TX), R'[j]? = some r → ts'[j]? = some t → ∃ i0 : Nat, R[i0]? = some r ∧ ts[i0]? = some t
theorem SubR.nil (R : List TR) (ts : List TX) : SubR R ts [] [] := ⟨rfl, fun j r t h => by simp at h⟩
theorem SubR.snoc {R R' : List TR} {ts ts' : List TX} {r : TR} {t : TX} {k : Nat} (h : SubR R ts R' ts') (hr : R[k]? = some r) (ht : ts[k]? = some t) : SubR R ts (R' ++ [r]) (ts' ++ [t]) := by
  refine ⟨by simp [h.l], fun j r' t' h1 h2 => ?_⟩
  have hl := h.l
  by_cases hj : j < R'.length
  · rw [List.getElem?_append_left hj] at h1
    rw [List.getElem?_append_left (by omega)] at h2
    exact h.i j r' t' h1 h2
  · have hj2 : j = R'.length := by
      have := (List.getElem?_eq_some_iff.1 h1).1
      simp at this; omega
    subst hj2
    rw [List.getElem?_append_right (Nat.le_refl _)] at h1
    rw [List.getElem?_append_right (by omega), ← hl] at h2
    simp at h1 h2
    subst h1; subst h2
    exact ⟨k, hr, ht⟩
theorem SubR.mem {R R' : List TR} {ts ts' : List TX} (h : SubR R ts R' ts') : ∀ r ∈ R', r ∈ R := fun r hr => by
  obtain ⟨j, hj, rfl⟩ := List.mem_iff_getElem.1 hr
  have hl : j < ts'.length := by rw [← h.l]; exact hj
  obtain ⟨i, h1, _⟩ := h.i j _ _ (List.getElem?_eq_getElem hj) (List.getElem?_eq_getElem hl)
  exact List.mem_of_getElem? h1
theorem TxnS.sub {W : World} {A A' : Option Addr} {m k c base : Nat} {R R' : List TR} {ts ts' : List TX} (h : TxnS W W.heap.size A m R ts) (ho : W.ownsRow base 47 3 (.slice A' k c) k (tcv R')) (hs : SubR R ts R' ts') : TxnS W W.heap.size A' k R' ts' := by
  have hl : R'.length = k := by have := ho.1; rw [tcv_length] at this; omega
  refine ⟨Reads.of_own ho, by rw [← hs.l, hl], fun j r t h1 h2 => ?_⟩
  obtain ⟨i, h3, h4⟩ := hs.i j r t h1 h2
  exact h.i i r t h3 h4
theorem TxnS.take {w : World} {B : Nat} {A : Option Addr} {n : Nat} {R : List TR} {ts : List TX} (h : TxnS w B A n R ts) {k : Nat} (hk : k ≤ n) : TxnS w B A k (R.take k) (ts.take k) := by
  refine ⟨?_, by rw [List.length_take, h.l]; omega, fun j r t h1 h2 => ?_⟩
  · obtain ⟨h1, h2⟩ := h.o
    rw [← tcv_take]
    refine ⟨by rw [List.length_take, h1]; have := Nat.mul_le_mul_right 3 hk; omega, fun hp => ?_⟩
    obtain ⟨ad, hA, hb, hc⟩ := h2 (by omega)
    refine ⟨ad, hA, hb, fun j u hu => hc j u ?_⟩
    rw [List.getElem?_take] at hu
    split at hu
    · exact hu
    · cases hu
  · rw [List.getElem?_take] at h1 h2
    split at h1
    · rename_i hj
      rw [if_pos hj] at h2
      exact h.i j r t h1 h2
    · cases h1
theorem TxnS.cut {w : World} {B : Nat} {A : Option Addr} {n : Nat} {R : List TR} {ts : List TX} (h : TxnS w B A n R ts) {k d : Nat} (hk : k ≤ n) (hd : n ≤ d) : TxnS w B (if d = k then A else A.map (·.add (k * 3))) (n - k) (R.drop k) (ts.drop k) := by
  refine ⟨?_, by rw [List.length_drop, h.l], fun j r t h1 h2 => ?_⟩
  · rw [← tcv_drop]
    exact Reads.cut h.o hk hd
  · rw [List.getElem?_drop] at h1 h2
    exact h.i _ r t h1 h2
/-- A transaction's cells and numbers of a run's law. -/
theorem fail_step {xs : List Int} {ts : List TX} {k : Nat} {t : TX} {b : Bool} {bs : List Bool} (h : ts.take (k + 1) = ts.take k ++ [t]) (hb : bs.take (k + 1) = bs.take k ++ [b]) (hk : k < ts.length) (hk' : k < bs.length) :
    keepL (ts.take (k + 1)) (bs.take (k + 1)) = keepL (ts.take k) (bs.take k) ++ (if b then [t] else []) := by
  rw [h, hb]
  exact keepL_snoc t b (by simp; omega)
theorem keepL_len (ts : List TX) (bs : List Bool) : (keepL ts bs).length ≤ ts.length := (keepL_sub ts bs).length_le
end Go.Proofs.Ytaelaldgohppeaa
