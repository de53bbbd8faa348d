/-
  A [][]int that is built by append: an outer row of the call's own, whose rows lie anywhere among the call's own blocks (HeldSS).
-/
import Derived.Test.YtaelaldgohppeaaSS
import Derived.Test.YtaelaldgohppeaaSSt
import Derived.Test.YtaelaldgohppeaaRd
namespace Go.Proofs.Ytaelaldgohppeaa
open Go.RowKit
set_option linter.unusedVariables false

theorem Reads.one' {w : World} {g : Nat} {t : TypeId} (v : Value) (hg : g = w.heap.size) : Reads (w.alloc (.cells #[v] t)) (w.heap.size + 1) 1 (some ⟨g, 0, none⟩) 1 [v] := by
  subst hg
  refine ⟨rfl, fun _ => ⟨_, rfl, Nat.lt_succ_self _, fun j u hu => ?_⟩⟩
  have hadd : (⟨w.heap.size, 0, none⟩ : Addr).add j = ⟨w.heap.size, j, none⟩ := by unfold Addr.add; split <;> simp_all
  rw [hadd, cell_of_row _ w.heap.size j _ _ (0, 0) (heap_alloc_new w _)]
  simpa using hu
/-- Two rows of the call's own of different element types lie in different blocks. -/
theorem rows_ne {w : World} {b b' : Nat} {e e' : TypeId} {s s' n n' : Nat} {v v' : Value} {xs xs' : List Value} (h : w.ownsRow b e s v n xs) (h' : w.ownsRow b' e' s' v' n' xs') (hne : e ≠ e') {k : Nat} (hk : v.ownBlock = some k) : v'.ownBlock ≠ some k := by
  intro hk'
  rcases h.2 with ⟨rfl, _⟩ | ⟨g, cap, cur, rfl, _, hh, _⟩
  · simp [Value.ownBlock] at hk
  rcases h'.2 with ⟨rfl, _⟩ | ⟨g', cap', cur', rfl, _, hh', _⟩
  · simp [Value.ownBlock] at hk'
  have e1 : g = k := by simpa [Value.ownBlock] using hk
  have e2 : g' = k := by simpa [Value.ownBlock] using hk'
  subst e1; subst e2
  rw [hh] at hh'
  injection hh' with hh'
  injection hh' with _ ht
  exact hne ht
theorem row_take {w : World} {b n c size : Nat} {e : TypeId} {A : Option Addr} {xs : List Value} (h : w.ownsRow b e size (.slice A n c) n xs) {k : Nat} (hk : k ≤ n) : w.ownsRow b e size (.slice A k c) k (xs.take (k * size)) := by
  obtain ⟨h1, h2⟩ := h
  have hm : k * size ≤ n * size := Nat.mul_le_mul_right _ hk
  refine ⟨by rw [List.length_take, h1]; omega, ?_⟩
  rcases h2 with ⟨hv, hn⟩ | ⟨g, cap, cur, hv, hg, hh, hnc, hcm, hsz, ht⟩
  · injection hv with hA hn' hc
    obtain rfl : k = 0 := by omega
    subst hA; subst hc
    exact .inl ⟨rfl, rfl⟩
  · injection hv with hA hn' hc
    subst hA; subst hc
    refine .inr ⟨g, _, cur, rfl, hg, hh, by omega, hcm, hsz, ?_⟩
    rw [← ht, List.take_take, Nat.min_eq_left hm]
section
variable {w : World} {ops : Array Oper} {rest : List Oper} {o : Oper} {a : Act} {Q : Exit → Act → World → Prop}
/-- append(out, rows...) at this program's numbers. -/
theorem appSS (hgd : o.guard = none) (s x : Operand) (ho : o.op = .call { callee := .builtin .append, args := #[s, x], argTypes := #[32, 32] })
    (base : Nat) {A : Option Addr} {n c : Nat} {xs : List Value} (hs : a.eval s = .slice A n c) (hown : w.ownsRow base 22 1 (.slice A n c) n xs)
    (B : Nat) (A' : Option Addr) (m c' : Nat) (ys : List Value) (hx : a.eval x = .slice A' m c') (hr : Reads w B 1 A' m ys) (h1 : ∀ u ∈ ys, u.oneCell' = true) (hlen : n + m ≤ 4194304) (hbase : base ≤ w.heap.size)
    (h : ∀ A2 c2 w', w'.ownsRow base 22 1 (.slice A2 (n + m) c2) (n + m) (xs ++ ys) → w.grownBy w' (blk A) → (blk A2 = blk A ∨ blk A2 = some w.heap.size) → wpList Try.prog ops Q rest (a.put o.dst (.slice A2 (n + m) c2)) w') :
    wpList Try.prog ops Q (o :: rest) a w := by
  obtain ⟨i0, hi, hz0, hz1, hz2⟩ := info_parts ints_info
  refine wpList_append_any w hgd s x 32 ho base 22 i0 (.slice none 0 0) 1 24 Try.underlying32 hi hz0 hz1 hz2 rfl (by omega) (.slice A n c) n xs hs hown B A' m c' ys hx hr h1 (by unfold maxLen; omega) (by omega) hbase ?_
  intro v' w' hown' hg hat
  have hform : ∃ A2 c2, v' = .slice A2 (n + m) c2 := by
    rcases hown'.2 with ⟨rfl, hz⟩ | ⟨g, cap, cur, rfl, _⟩
    · exact ⟨none, 0, by rw [hz]⟩
    · exact ⟨_, _, rfl⟩
  obtain ⟨A2, c2, hv⟩ := hform
  rw [hv] at hown' hat ⊢
  rw [blk_own, blk_own] at hat
  rw [blk_own] at hg
  exact h A2 c2 w' hown' hg hat
end
structure HeldSS (w : World) (base : Nat) (A : Option Addr) (n c : Nat) (R : List (Option Addr × Nat × Nat)) (xss : List (List Int)) : Prop where
  o : w.ownsRow base 22 1 (.slice A n c) n (R.map sv)
  l : xss.length = n
  i : ∀ (j : Nat) (r : Option Addr × Nat × Nat) (xs : List Int), R[j]? = some r → xss[j]? = some xs → Own w base r.1 r.2.1 r.2.2 xs
section
variable {w w' w1 w3 : World} {base n c c3 : Nat} {A A3 : Option Addr} {R : List (Option Addr × Nat × Nat)} {xss : List (List Int)} {xs : List Int} {r : Option Addr × Nat × Nat}
theorem HeldSS.rlen (h : HeldSS w base A n c R xss) : R.length = n := by have := h.o.1; simpa using this
theorem HeldSS.below (h : HeldSS w base A n c R xss) (hb : Below w.heap.size w w') : HeldSS w' base A n c R xss :=
  ⟨World.ownsRow.kept h.o (row := none) ⟨hb.os, hb.tape, hb.output, hb.size, fun k hk _ => hb.block k hk⟩ (by
    cases hA : (Value.slice A n c).ownBlock with
    | none => exact .inl rfl
    | some k => exact .inr (fun e => by cases e)), h.l, fun j r xs hr hx => (h.i j r xs hr hx).below hb⟩
theorem HeldSS.alloc (h : HeldSS w base A n c R xss) (o : Obj) : HeldSS (w.alloc o) base A n c R xss := h.below ((Below.refl _ _).alloc (Nat.le_refl _) o)
theorem HeldSS.drew (h : HeldSS w base A n c R xss) : HeldSS w.drew base A n c R xss := ⟨h.o, h.l, h.i⟩
/-- A block below the call's own is written. -/
theorem HeldSS.low (h : HeldSS w base A n c R xss) {row : Option Nat} (hg : w.grownBy w' row) (hr : ∀ k, row = some k → k < base) : HeldSS w' base A n c R xss :=
  ⟨World.ownsRow.kept h.o hg (by
    cases hA : (Value.slice A n c).ownBlock with
    | none => exact .inl rfl
    | some k => exact .inr (fun e => by have := (World.ownsRow.lt h.o k hA).1; have := hr k e.symm; omega)), h.l,
   fun j r xs hrj hx => (h.i j r xs hrj hx).kept hg (fun k hk e => by have := ((h.i j r xs hrj hx).lt hk).1; have := hr k e; omega)⟩
/-- A row more. -/
theorem HeldSS.app (h : HeldSS w1 base A n c R xss) (hr : Own w1 base r.1 r.2.1 r.2.2 xs) (hg : w1.grownBy w3 (blk A)) (ho : w3.ownsRow base 22 1 (.slice A3 (n + 1) c3) (n + 1) (R.map sv ++ [sv r])) : HeldSS w3 base A3 (n + 1) c3 (R ++ [r]) (xss ++ [xs]) := by
  have key : ∀ {r : Option Addr × Nat × Nat} {xs : List Int}, Own w1 base r.1 r.2.1 r.2.2 xs → Own w3 base r.1 r.2.1 r.2.2 xs := fun {r xs} h2 => h2.kept hg (fun k hk e => by
    have := rows_ne h2 h.o (by decide) (k := k) (by rw [blk_own]; exact hk)
    rw [blk_own] at this
    exact this e)
  refine ⟨by simpa using ho, by simp [h.l], fun j r' xs' hr' hx' => ?_⟩
  have hl := h.rlen
  by_cases hj : j < n
  · rw [List.getElem?_append_left (by omega)] at hr'
    rw [List.getElem?_append_left (by rw [h.l]; omega)] at hx'
    exact key (h.i j r' xs' hr' hx')
  · have hjn : j = n := by
      have := (List.getElem?_eq_some_iff.1 hr').1
      simp at this; omega
    subst hjn
    rw [List.getElem?_append_right (by omega), hl] at hr'
    rw [List.getElem?_append_right (by rw [h.l]; omega), h.l] at hx'
    simp at hr' hx'
    subst hr'; subst hx'
    exact key hr
theorem HeldSS.reads (h : HeldSS w base A n c R xss) (hl : ∀ (k : Nat) (xs : List Int), xss[k]? = some xs → xs.length ≤ 9223372036854775807) : IntSS w w.heap.size A n R xss :=
  ⟨Reads.of_own h.o, h.l, fun k r xs hr hx => ⟨by have := (h.i k r xs hr hx).len; have := hl k xs hx; omega, (h.i k r xs hr hx).ints⟩⟩
theorem HeldSS.take (h : HeldSS w base A n c R xss) {k : Nat} (hk : k ≤ n) : HeldSS w base A k c (R.take k) (xss.take k) := by
  refine ⟨by have := row_take h.o hk; simpa [List.map_take] using this, by rw [List.length_take, h.l]; omega, fun j r xs hr hx => ?_⟩
  rw [List.getElem?_take] at hr hx
  split at hr
  · rename_i hj
    rw [if_pos hj] at hx
    exact h.i j r xs hr hx
  · cases hr
theorem HeldSS.put {g : Nat} (h : HeldSS w base (some ⟨g, 0, none⟩) n c R xss) (hr : Own w base r.1 r.2.1 r.2.2 xs) (k : Nat) : HeldSS (w.setCell ⟨g, k, none⟩ (sv r)) base (some ⟨g, 0, none⟩) n c (R.set k r) (xss.set k xs) := by
  have key : ∀ {r : Option Addr × Nat × Nat} {xs : List Int} (u : Value), Own w base r.1 r.2.1 r.2.2 xs → Own (w.setCell ⟨g, k, none⟩ u) base r.1 r.2.1 r.2.2 xs := fun {r xs} u h2 => h2.setCell (fun j hj e => by
    have := rows_ne h2 h.o (by decide) (k := j) (by rw [blk_own]; exact hj)
    rw [blk_own] at this
    exact this (by rw [e]; rfl)) u
  have hs := (World.ownsRow.stored h.o k (sv r)).1
  refine ⟨by rw [List.map_set]; exact hs, by simp [h.l], fun j r' xs' hr' hx' => ?_⟩
  rw [List.getElem?_set] at hr' hx'
  split at hr'
  · rename_i e
    rw [if_pos e] at hx'
    split at hr'
    · split at hx'
      · injection hr' with hr'; injection hx' with hx'; subst hr'; subst hx'
        exact key _ hr
      · cases hx'
    · cases hr'
  · rename_i e
    rw [if_neg e] at hx'
    exact key _ (h.i j r' xs' hr' hx')
theorem HeldSS.mono {base' : Nat} (h : HeldSS w base A n c R xss) (hb : base' ≤ base) : HeldSS w base' A n c R xss := by
  refine ⟨?_, h.l, fun j r xs hr hx => (h.i j r xs hr hx).mono hb⟩
  obtain ⟨h1, h2⟩ := h.o
  refine ⟨h1, ?_⟩
  rcases h2 with h2 | ⟨g, cap, cur, hv, hg, r⟩
  · exact .inl h2
  · exact .inr ⟨g, cap, cur, hv, Nat.le_trans hb hg, r⟩
theorem HeldSS.cap (h : HeldSS w base A n c R xss) : n ≤ c := by
  rcases h.o.2 with ⟨hv, hn⟩ | ⟨g, cap, cur, hv, _, _, hnc, _⟩
  · omega
  · injection hv with _ _ hc; omega
theorem HeldSS.form (h : HeldSS w base A n c R xss) (hn : 0 < n) : ∃ g, A = some ⟨g, 0, none⟩ ∧ base ≤ g ∧ g < w.heap.size := by
  obtain ⟨g, cap, hv, hb, hlt⟩ := World.ownsRow.form h.o hn
  injection hv with hA
  exact ⟨g, hA, hb, hlt⟩
theorem HeldSS.cellAt {g : Nat} (h : HeldSS w base (some ⟨g, 0, none⟩) n c R xss) {k : Nat} (hk : k < n) : ∃ r : Option Addr × Nat × Nat, w.cell? ⟨g, k, none⟩ = some (.slice r.1 r.2.1 r.2.2) ∧ w.frozen? ⟨g, k, none⟩ = false := by
  have hl : k < R.length := by rw [h.rlen]; exact hk
  refine ⟨R[k], ?_, World.ownsRow.frozenAt h.o k⟩
  rw [World.ownsRow.cellAt h.o k (by omega)]
  simp [hl, sv]
theorem HeldSS.start (hb : base ≤ w.heap.size) : HeldSS (w.alloc (.cells #[] 22)) base (some ⟨w.heap.size, 0, none⟩) 0 0 [] [] :=
  ⟨World.ownsRow_lit w #[] 0 hb (Nat.zero_le _) (by simp), rfl, fun j r xs hr => by simp at hr⟩
theorem HeldSS.lt (h : HeldSS w base A n c R xss) {k : Nat} (hk : blk A = some k) : base ≤ k ∧ k < w.heap.size := World.ownsRow.lt h.o k (by rw [blk_own]; exact hk)
end
theorem sv_one (r : Option Addr × Nat × Nat) : ∀ u ∈ [sv r], u.oneCell' = true := by
  intro u hu
  simp only [List.mem_singleton] at hu
  subst hu
  rfl
end Go.Proofs.Ytaelaldgohppeaa
