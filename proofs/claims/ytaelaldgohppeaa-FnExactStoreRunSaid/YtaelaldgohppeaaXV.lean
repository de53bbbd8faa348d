/-
  Plain bounds for the exact law of StoreRun.
-/
import Derived.Test.YtaelaldgohppeaaXQ
import Derived.Test.YtaelaldgohppeaaXN
namespace Go.Proofs.Ytaelaldgohppeaa
open Go.RowKit
set_option linter.unusedVariables false

theorem totT_congr : ∀ {R R' : List TR}, R.length = R'.length → (∀ (k : Nat) (r r' : TR), R[k]? = some r → R'[k]? = some r' → r.n1 = r'.n1 ∧ r.n2 = r'.n2) → totT R = totT R'
  | [], [], _, _ => rfl
  | [], _ :: _, h, _ => by simp at h
  | _ :: _, [], h, _ => by simp at h
  | r :: R, r' :: R', h, hk => by
    obtain ⟨h1, h2⟩ := hk 0 r r' (by simp) (by simp)
    have h3 := totT_congr (R := R) (R' := R') (by simpa using h) (fun k q q' hq hq' => hk (k + 1) q q' (by simpa using hq) (by simpa using hq'))
    simp only [totT, h1, h2, h3]
theorem TxnS.tot_eq {w w' : World} {B B' n n' : Nat} {A A' : Option Addr} {R R' : List TR} {ts : List TX} (h : TxnS w B A n R ts) (h' : TxnS w' B' A' n' R' ts) : totT R = totT R' :=
  totT_congr (by rw [h.rlen, h'.rlen, ← h.l, ← h'.l]) (fun k r r' hr hr' => by
    have hl : k < ts.length := by rw [h.l, ← h.rlen]; exact (List.getElem?_eq_some_iff.1 hr).1
    obtain ⟨a1, _, a2⟩ := h.i k r _ hr (List.getElem?_eq_getElem hl)
    obtain ⟨b1, _, b2⟩ := h'.i k r' _ hr' (List.getElem?_eq_getElem hl)
    exact ⟨by rw [← a1.len, ← b1.len], by rw [← a2.len, ← b2.len]⟩)
theorem TxnS.lens {w : World} {B n : Nat} {A : Option Addr} {R : List TR} {ts : List TX} (h : TxnS w B A n R ts) (hl : ∀ r ∈ R, r.n1 ≤ 1048576 ∧ r.n2 ≤ 1048576) : ∀ t ∈ ts, t.reads.length ≤ 1048576 ∧ t.puts.length ≤ 1048576 := fun t ht => by
  obtain ⟨j, hj, rfl⟩ := List.mem_iff_getElem.1 ht
  have hr : j < R.length := by rw [h.rlen, ← h.l]; exact hj
  obtain ⟨a1, _, a2⟩ := h.i j _ _ (List.getElem?_eq_getElem hr) (List.getElem?_eq_getElem hj)
  have := hl _ (List.getElem_mem hr)
  have := a1.len
  have := a2.len
  omega
theorem small_of_tot {R : List TR} (h : totT R ≤ 1048576) : ∀ r ∈ R, r.n1 ≤ 1048576 ∧ r.n2 ≤ 1048576 := fun r hr => by
  obtain ⟨j, hj, rfl⟩ := List.mem_iff_getElem.1 hr
  have := totT_mem (List.getElem?_eq_getElem hj)
  omega
theorem mkT_small {w : World} {B B' n n' : Nat} {A A' : Option Addr} {R R' : List TR} {ts : List TX} {w' : World} (h : TxnS w B A n R ts) (h' : TxnS w' B' A' n' R' ts) (ht : (n : Int) + totT R ≤ 1048576) : mkT R' ≤ 2097152 := by
  have h1 := mkT_le R'
  have h2 := h.tot_eq h'
  have h3 : R'.length = n := by rw [h'.rlen, ← h'.l, h.l]
  omega
end Go.Proofs.Ytaelaldgohppeaa
