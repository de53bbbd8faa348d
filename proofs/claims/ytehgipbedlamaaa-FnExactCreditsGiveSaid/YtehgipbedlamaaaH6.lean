/-
  append of senders' states, as a step of a list of operations and of a region that draws; one sender's cells that have just been laid.
-/
import Derived.Test.YtehgipbedlamaaaH5
namespace Go.Proofs.Ytehgipbedlamaaa
open Go.RowKit
set_option linter.unusedVariables false

theorem Reads.hold1 {w : World} {g : Nat} (r : HR) (hg : g = w.heap.size) : Reads (w.alloc (.cells #[.slice r.A r.n r.c, .int .i64 r.wait] 47)) (w.heap.size + 1) 2 (some ⟨g, 0, none⟩) 1 (hcv [r]) := by
  subst hg
  refine ⟨rfl, fun _ => ⟨_, rfl, Nat.lt_succ_self _, fun j u hu => ?_⟩⟩
  have hadd : (⟨w.heap.size, 0, none⟩ : Addr).add j = ⟨w.heap.size, j, none⟩ := by unfold Addr.add; split <;> simp_all
  rw [hadd, (Blk.new w 47 #[.slice r.A r.n r.c, .int .i64 r.wait]).cell j]
  rw [hcv_one] at hu
  simpa [HR.cells] using hu
section
variable {w : World} {ops : Array Oper} {rest : List Oper} {o : Oper} {a : Act} {Q : Exit → Act → World → Prop}
/-- append(out, hs...) at this program's numbers. -/
theorem appH (hgd : o.guard = none) (s x : Operand) (ho : o.op = .call { callee := .builtin .append, args := #[s, x], argTypes := #[24, 24] })
    (base : Nat) {A : Option Addr} {n c : Nat} {R : List HR} (hs : a.eval s = .slice A n c) (hown : w.ownsRow base 47 2 (.slice A n c) n (hcv R))
    (B : Nat) (A' : Option Addr) (m c' : Nat) (R' : List HR) (hx : a.eval x = .slice A' m c') (hr : Reads w B 2 A' m (hcv R')) (hlen : n + m ≤ 4194304) (hbase : base ≤ w.heap.size)
    (h : ∀ A2 c2 w', w'.ownsRow base 47 2 (.slice A2 (n + m) c2) (n + m) (hcv (R ++ R')) → w.grownBy w' (blk A) → (blk A2 = blk A ∨ blk A2 = some w.heap.size) → wpList Try.prog ops Q rest (a.put o.dst (.slice A2 (n + m) c2)) w') :
    wpList Try.prog ops Q (o :: rest) a w := by
  obtain ⟨i0, hi, hz0, hz1, hz2⟩ := info_parts hold_info
  refine wpList_append_any w hgd s x 24 ho base 47 i0 _ 2 32 Try.underlying24 hi hz0 hz1 hz2 rfl (by omega) (.slice A n c) n (hcv R) hs hown B A' m c' (hcv R') hx hr (hcv_cells R') (by unfold maxLen; omega) (by omega) hbase ?_
  intro v' w' hown' hg hat
  have hform : ∃ A2 c2, v' = .slice A2 (n + m) c2 := by
    rcases hown'.2 with ⟨rfl, hz⟩ | ⟨g, cap, cur, rfl, _⟩
    · exact ⟨none, 0, by rw [hz]⟩
    · exact ⟨_, _, rfl⟩
  obtain ⟨A2, c2, hv⟩ := hform
  rw [hv] at hown' hat ⊢
  rw [blk_own, blk_own] at hat
  rw [blk_own] at hg
  exact h A2 c2 w' (by rw [hcv_append]; exact hown') hg hat
theorem step_appH {K : Act → World → Prop} {E : Prop} (hgd : o.guard = none) (s x : Operand) (ho : o.op = .call { callee := .builtin .append, args := #[s, x], argTypes := #[24, 24] })
    (base : Nat) {A : Option Addr} {n c : Nat} {R : List HR} (hs : a.eval s = .slice A n c) (hown : w.ownsRow base 47 2 (.slice A n c) n (hcv R))
    (B : Nat) (A' : Option Addr) (m c' : Nat) (R' : List HR) (hx : a.eval x = .slice A' m c') (hr : Reads w B 2 A' m (hcv R')) (hlen : n + m ≤ 4194304) (hbase : base ≤ w.heap.size)
    (h : ∀ A2 c2 w', w'.ownsRow base 47 2 (.slice A2 (n + m) c2) (n + m) (hcv (R ++ R')) → w.grownBy w' (blk A) → (blk A2 = blk A ∨ blk A2 = some w.heap.size) → K (a.put o.dst (.slice A2 (n + m) c2)) w') :
    if Region.wanted o (yielded ops a.tmps) = true then Oper.wp Try.prog o a w K Q else E := by
  obtain ⟨i0, hi, hz0, hz1, hz2⟩ := info_parts hold_info
  refine step_append_any w hgd s x 24 ho base 47 i0 _ 2 32 Try.underlying24 hi hz0 hz1 hz2 rfl (by omega) (.slice A n c) n (hcv R) hs hown B A' m c' (hcv R') hx hr (hcv_cells R') (by unfold maxLen; omega) (by omega) hbase ?_
  intro v' w' hown' hg hat
  have hform : ∃ A2 c2, v' = .slice A2 (n + m) c2 := by
    rcases hown'.2 with ⟨rfl, hz⟩ | ⟨g, cap, cur, rfl, _⟩
    · exact ⟨none, 0, by rw [hz]⟩
    · exact ⟨_, _, rfl⟩
  obtain ⟨A2, c2, hv⟩ := hform
  rw [hv] at hown' hat ⊢
  rw [blk_own, blk_own] at hat
  rw [blk_own] at hg
  exact h A2 c2 w' (by rw [hcv_append]; exact hown') hg hat
end
end Go.Proofs.Ytehgipbedlamaaa
