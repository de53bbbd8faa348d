/-
  A slice of slices of ints of the call's own: its outer row, then its rows, each in its own range of blocks (OwnSS).
-/
import Derived.Test.YtaelaldgohppeaaSS
namespace Go.Proofs.Ytaelaldgohppeaa
open Go.RowKit
set_option linter.unusedVariables false

/-- Rows of the call's own, one behind the other, between the blocks b and e. -/
def RowsI (w : World) : Nat → Nat → List (Option Addr × Nat × Nat) → List (List Int) → Prop
  | b, e, [], [] => b ≤ e
  | b, e, r :: R, xs :: xss => ∃ m, b ≤ m ∧ RowI w b m r.1 r.2.1 r.2.2 xs ∧ RowsI w m e R xss
  | _, _, _, _ => False

section
variable {w w' : World}
theorem RowsI.le : ∀ {R : List (Option Addr × Nat × Nat)} {xss : List (List Int)} {b e : Nat}, RowsI w b e R xss → b ≤ e
  | [], [], _, _, h => h
  | _ :: _, _ :: _, _, _, ⟨m, h1, _, h3⟩ => Nat.le_trans h1 h3.le
theorem RowsI.len : ∀ {R : List (Option Addr × Nat × Nat)} {xss : List (List Int)} {b e : Nat}, RowsI w b e R xss → R.length = xss.length
  | [], [], _, _, _ => rfl
  | _ :: _, _ :: _, _, _, ⟨m, _, _, h3⟩ => by simp only [List.length_cons]; rw [h3.len]
theorem RowsI.keep : ∀ {R : List (Option Addr × Nat × Nat)} {xss : List (List Int)} {b e : Nat}, RowsI w b e R xss → (∀ k, b ≤ k → k < e → w'.heap[k]? = w.heap[k]?) → RowsI w' b e R xss
  | [], [], _, _, h, _ => h
  | _ :: _, _ :: _, b, e, ⟨m, h1, h2, h3⟩, hs => by
    have hm := h3.le
    exact ⟨m, h1, h2.keep (fun k hk1 hk2 => hs k hk1 (by omega)), h3.keep (fun k hk1 hk2 => hs k (by omega) hk2)⟩
theorem RowsI.more : ∀ {R : List (Option Addr × Nat × Nat)} {xss : List (List Int)} {b e e' : Nat}, RowsI w b e R xss → e ≤ e' → RowsI w b e' R xss
  | [], [], _, _, _, h, he => Nat.le_trans h he
  | _ :: _, _ :: _, _, _, _, ⟨m, h1, h2, h3⟩, he => ⟨m, h1, h2, h3.more he⟩
theorem RowsI.snoc {r : Option Addr × Nat × Nat} {xs : List Int} : ∀ {R : List (Option Addr × Nat × Nat)} {xss : List (List Int)} {b m e : Nat}, RowsI w b m R xss → RowI w m e r.1 r.2.1 r.2.2 xs → m ≤ e → RowsI w b e (R ++ [r]) (xss ++ [xs])
  | [], [], b, m, e, h, hr, he => ⟨e, Nat.le_trans h he, hr.mono h (Nat.le_refl _), Nat.le_refl _⟩
  | _ :: _, _ :: _, _, _, _, ⟨m', h1, h2, h3⟩, hr, he => ⟨m', h1, h2, h3.snoc hr he⟩
/-- The k-th of them, in its range. -/
theorem RowsI.get {r : Option Addr × Nat × Nat} {xs : List Int} : ∀ {R : List (Option Addr × Nat × Nat)} {xss : List (List Int)} {b e : Nat} {k : Nat}, RowsI w b e R xss → R[k]? = some r → xss[k]? = some xs → ∃ b' e', b ≤ b' ∧ e' ≤ e ∧ RowI w b' e' r.1 r.2.1 r.2.2 xs
  | [], [], _, _, _, _, hr, _ => by simp at hr
  | r0 :: R, x0 :: xss, b, e, 0, ⟨m, h1, h2, h3⟩, hr, hx => by
    simp only [List.getElem?_cons_zero, Option.some.injEq] at hr hx
    subst hr; subst hx
    exact ⟨b, m, Nat.le_refl _, h3.le, h2⟩
  | r0 :: R, x0 :: xss, b, e, k + 1, ⟨m, h1, h2, h3⟩, hr, hx => by
    simp only [List.getElem?_cons_succ] at hr hx
    obtain ⟨b', e', p1, p2, p3⟩ := h3.get hr hx
    exact ⟨b', e', by omega, p2, p3⟩
end

/-- The slice value '.slice A n c': an outer row of the call's own that holds the slices R, each a row of the call's own that holds one of xss. -/
def OwnSS (w : World) (b e : Nat) (A : Option Addr) (n c : Nat) (R : List (Option Addr × Nat × Nat)) (xss : List (List Int)) : Prop :=
  ∃ m, b ≤ m ∧ Row 22 1 w b m A n c (R.map sv) ∧ RowsI w m e R xss
section
variable {w w' : World} {b e n c : Nat} {A : Option Addr} {R : List (Option Addr × Nat × Nat)} {xss : List (List Int)}
theorem OwnSS.le (h : OwnSS w b e A n c R xss) : b ≤ e := by obtain ⟨m, h1, _, h3⟩ := h; exact Nat.le_trans h1 h3.le
theorem OwnSS.rlen (h : OwnSS w b e A n c R xss) : R.length = n := by obtain ⟨m, _, h2, _⟩ := h; have := h2.len; simpa using this
theorem OwnSS.len (h : OwnSS w b e A n c R xss) : xss.length = n := by have h1 := h.rlen; obtain ⟨m, _, _, h3⟩ := h; rw [← h3.len]; exact h1
theorem OwnSS.keep (h : OwnSS w b e A n c R xss) (hs : Same b e w w') : OwnSS w' b e A n c R xss := by
  obtain ⟨m, h1, h2, h3⟩ := h
  have hm := h3.le
  exact ⟨m, h1, Row.keep h2 (fun k p q => hs k p (by omega)), h3.keep (fun k p q => hs k (by omega) q)⟩
theorem OwnSS.reads (h : OwnSS w b e A n c R xss) {B : Nat} (hB : e ≤ B) (hl : ∀ (k : Nat) (xs : List Int), xss[k]? = some xs → xs.length ≤ 9223372036854775807) : IntSS w B A n R xss := by
  have hlen := h.len
  obtain ⟨m, h1, h2, h3⟩ := h
  have hm := h3.le
  refine ⟨Row.reads h2 (by omega), hlen, fun k r xs hr hx => ?_⟩
  obtain ⟨b', e', p1, p2, p3⟩ := h3.get hr hx
  exact ⟨by have := hl k xs hx; have := p3.len; omega, p3.ints (by omega)⟩
end
end Go.Proofs.Ytaelaldgohppeaa
