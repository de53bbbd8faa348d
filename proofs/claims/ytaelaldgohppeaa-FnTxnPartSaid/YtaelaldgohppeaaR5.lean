/-
  Slicing a list of transactions, as the program runs it.
-/
import Derived.Test.YtaelaldgohppeaaR4
namespace Go.Proofs.Ytaelaldgohppeaa
open Go.RowKit
set_option linter.unusedVariables false

theorem size_txn (w : World) : (sizeOf (Try.prog.elem 61)).run Try.prog w = .ok 3 w := by kernel_rfl
theorem cutT_run (A : Option Addr) (n c k : Nat) (hk : k ≤ n) (w : World) :
    (Instr.slice 61 (.slice A n c) (some (.int .i64 (k : Int))) none none).run Try.prog w = .ok (.slice (if c = k then A else A.map (·.add (k * 3))) (n - k) (c - k)) w := by
  rw [run_slice_l (P := Try.prog) (w := w) 61 A n c (by kernel_rfl) .i64 (k : Int) (by omega) (by omega), size_txn]
  simp [Result.andThen, sliced]
theorem cutTTo_run (A : Option Addr) (n c k : Nat) (hk : k ≤ n) (hc : n ≤ c) (w : World) :
    (Instr.slice 61 (.slice A n c) none (some (.int .i64 (k : Int))) none).run Try.prog w = .ok (.slice A k c) w := by
  rw [run_slice_h (P := Try.prog) (w := w) 61 A n c (by kernel_rfl) .i64 (k : Int) (by omega) (by omega), size_txn]
  simp [Result.andThen, sliced]
  intro _
  rcases A with _ | ad
  · rfl
  · simp [Addr.add]
section
variable {w : World} {ops : Array Oper} {rest : List Oper} {o : Oper} {a : Act} {Q : Exit → Act → World → Prop}
/-- append of bools where the operation is guarded and its guard holds. -/
theorem appBg (hw : Region.wanted o (yielded ops a.tmps) = true) (s x : Operand) (ho : o.op = .call { callee := .builtin .append, args := #[s, x], argTypes := #[64, 64] })
    (base : Nat) {A : Option Addr} {n c : Nat} {bs : List Bool} (hs : a.eval s = .slice A n c) (hown : OwnB w base A n c bs)
    (B : Nat) (A' : Option Addr) (m c' : Nat) (cs : List Bool) (hx : a.eval x = .slice A' m c') (hr : Bools w B A' m cs) (hlen : n + m ≤ 4194304) (hbase : base ≤ w.heap.size)
    (h : ∀ A2 c2 w', OwnB w' base A2 (n + m) c2 (bs ++ cs) → w.grownBy w' (blk A) → (blk A2 = blk A ∨ blk A2 = some w.heap.size) → wpList Try.prog ops Q rest (a.put o.dst (.slice A2 (n + m) c2)) w') :
    wpList Try.prog ops Q (o :: rest) a w := by
  obtain ⟨i0, hi, hz0, hz1, hz2⟩ := info_parts bool_info
  refine wpList_step fun K hK => ?_
  rw [if_pos hw]
  refine wp_append_any w s x 64 ho base 4 i0 (.bool false) 1 1 Try.underlying64 hi hz0 hz1 hz2 rfl (by omega) (.slice A n c) n (bv bs) hs hown B A' m c' (bv cs) hx hr (bv_cells cs) (by unfold maxLen; omega) (by omega) hbase ?_
  intro v' w' hown' hg hat
  have hform : ∃ A2 c2, v' = .slice A2 (n + m) c2 := by
    rcases hown'.2 with ⟨rfl, hz⟩ | ⟨g, cap, cur, rfl, _⟩
    · exact ⟨none, 0, by rw [hz]⟩
    · exact ⟨_, _, rfl⟩
  obtain ⟨A2, c2, hv⟩ := hform
  rw [hv] at hown' hat ⊢
  rw [blk_own, blk_own] at hat
  rw [blk_own] at hg
  exact hK _ _ (h A2 c2 w' (by unfold OwnB; rw [bv_append]; exact hown') hg hat)
end
end Go.Proofs.Ytaelaldgohppeaa
