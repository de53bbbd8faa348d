/-
  Contracts of the functions on lists of ints: each returns a plain Lean function of the list that it reads.
-/
import Derived.Test.YtehgipbedlamaaaChecked
import Derived.Test.YtehgipbedlamaaaMem
import Derived.Test.YtehgipbedlamaaaG1
import Derived.WalkKit
import Derived.WalkSpells
import Derived.WalkLawsBesides
import Derived.LoopTactic
import Derived.Outline
import Derived.Lib.Hide
namespace Go.Proofs.Ytehgipbedlamaaa
open Go.RowKit
set_option linter.unusedVariables false

theorem ret_bool {a b : Bool} (h : a = b) : Ending.returned (.bool a) = .returned (.bool b) := by rw [h]
theorem ret_int {a b : Int} (h : a = b) : Ending.returned (.int .i64 a) = .returned (.int .i64 b) := by rw [h]

theorem take_snoc_getD (xs : List Int) (k : Nat) (h : k < xs.length) : xs.take (k + 1) = xs.take k ++ [xs.getD k 0] := by
  rw [List.take_succ_eq_append_getElem h]; simp [h]

theorem int_info : (Try.prog.info? 3).map (fun i => (i.zero, i.size, i.bytes)) = some (some (.int .i64 0), 1, 8) := by kernel_rfl

section
variable {w : World} {ops : Array Oper} {rest : List Oper} {o : Oper} {a : Act} {Q : Exit → Act → World → Prop}
/-- append(out, ys...) at this program's numbers. -/
theorem app1 (hgd : o.guard = none) (s x : Operand) (ho : o.op = .call { callee := .builtin .append, args := #[s, x], argTypes := #[23, 23] })
    (base : Nat) {A : Option Addr} {n c : Nat} {xs : List Int} (hs : a.eval s = .slice A n c) (hown : Own w base A n c xs)
    (B : Nat) (A' : Option Addr) (m c' : Nat) (ys : List Int) (hx : a.eval x = .slice A' m c') (hr : Ints w B A' m ys) (hlen : n + m ≤ 4194304) (hbase : base ≤ w.heap.size)
    (h : ∀ A2 c2 w', Own w' base A2 (n + m) c2 (xs ++ ys) → w.grownBy w' (blk A) → (blk A2 = blk A ∨ blk A2 = some w.heap.size) → wpList Try.prog ops Q rest (a.put o.dst (.slice A2 (n + m) c2)) w') :
    wpList Try.prog ops Q (o :: rest) a w := by
  obtain ⟨i0, hi, hz0, hz1, hz2⟩ := info_parts int_info
  exact wpList_appI 23 i0 Try.underlying23 hi hz0 hz1 hz2 hgd s x ho base hs hown B A' m c' ys hx hr hlen hbase h
/-- The same as one step of a region that draws its order. -/
theorem step_app1 {K : Act → World → Prop} {E : Prop} (hgd : o.guard = none) (s x : Operand) (ho : o.op = .call { callee := .builtin .append, args := #[s, x], argTypes := #[23, 23] })
    (base : Nat) {A : Option Addr} {n c : Nat} {xs : List Int} (hs : a.eval s = .slice A n c) (hown : Own w base A n c xs)
    (B : Nat) (A' : Option Addr) (m c' : Nat) (ys : List Int) (hx : a.eval x = .slice A' m c') (hr : Ints w B A' m ys) (hlen : n + m ≤ 4194304) (hbase : base ≤ w.heap.size)
    (h : ∀ A2 c2 w', Own w' base A2 (n + m) c2 (xs ++ ys) → w.grownBy w' (blk A) → (blk A2 = blk A ∨ blk A2 = some w.heap.size) → K (a.put o.dst (.slice A2 (n + m) c2)) w') :
    if Region.wanted o (yielded ops a.tmps) = true then Oper.wp Try.prog o a w K Q else E := by
  obtain ⟨i0, hi, hz0, hz1, hz2⟩ := info_parts int_info
  refine step_append_any w hgd s x 23 ho base 3 i0 (.int .i64 0) 1 8 Try.underlying23 hi hz0 hz1 hz2 rfl (by omega) (.slice A n c) n (iv xs) hs hown B A' m c' (iv ys) hx hr (iv_cells ys) (by unfold maxLen; omega) (by omega) hbase ?_
  intro v' w' hown' hg hat
  have hform : ∃ A2 c2, v' = .slice A2 (n + m) c2 := by
    rcases hown'.2 with ⟨rfl, hz⟩ | ⟨g, cap, cur, rfl, _⟩
    · exact ⟨none, 0, by rw [hz]⟩
    · exact ⟨_, _, rfl⟩
  obtain ⟨A2, c2, hv⟩ := hform
  rw [hv] at hown' hat ⊢
  rw [blk_own, blk_own] at hat
  rw [blk_own] at hg
  exact h A2 c2 w' (by unfold Own; rw [iv_append]; exact hown') hg hat
/-- make([]int, 0, n). -/
theorem mk0 (hgd : o.guard = none) (l c : Operand) (hop : o.op = Op.makeSlice 23 l c) (base : Nat) (kl kc : IntKind) (C : Int) (n : Nat)
    (hl : a.eval l = .int kl 0) (hc : a.eval c = .int kc C) (hC : C = (n : Int)) (hn : n ≤ 4194304) (hb : base ≤ w.heap.size)
    (h : ∀ w', Own w' base (some ⟨w.heap.size, 0, none⟩) 0 n [] → w.grownBy w' none → wpList Try.prog ops Q rest (a.put o.dst (.slice (some ⟨w.heap.size, 0, none⟩) 0 n)) w') :
    wpList Try.prog ops Q (o :: rest) a w := by
  obtain ⟨i0, hi, hz0, hz1, hz2⟩ := info_parts int_info
  exact wpList_make_own w hgd l c 23 hop base 3 i0 (.int .i64 0) 1 Try.underlying23 hi hz0 hz1 kl kc C n hl hc hC (by rw [hz2]; omega) (by unfold maxLen; omega) hb h
/-- make([]int, n). -/
theorem mkn (hgd : o.guard = none) (l c : Operand) (hop : o.op = Op.makeSlice 23 l c) (base : Nat) (kl kc : IntKind) (L C : Int) (n : Nat)
    (hl : a.eval l = .int kl L) (hc : a.eval c = .int kc C) (hL : L = (n : Int)) (hC : C = (n : Int)) (hn : n ≤ 4194304) (hb : base ≤ w.heap.size)
    (h : ∀ w', Own w' base (some ⟨w.heap.size, 0, none⟩) n n (List.replicate n 0) → w.grownBy w' none → wpList Try.prog ops Q rest (a.put o.dst (.slice (some ⟨w.heap.size, 0, none⟩) n n)) w') :
    wpList Try.prog ops Q (o :: rest) a w := by
  obtain ⟨i0, hi, hz0, hz1, hz2⟩ := info_parts int_info
  refine wpList_make_full w hgd l c 23 hop base 3 i0 (.int .i64 0) 1 Try.underlying23 hi hz0 hz1 kl kc L C n hl hc hL hC (by rw [hz2]; omega) (by unfold maxLen; omega) hb ?_
  intro w' ho hg
  refine h w' ?_ hg
  have e : (madeCells (Value.int .i64 0).cells (n * 1)).toList = iv (List.replicate n 0) := by
    simp only [madeCells, Value.cells, iv, List.map_replicate]
    simp only [Nat.mul_one, List.size_toArray, List.length_cons, List.length_nil]
    refine List.ext_getElem (by simp) (fun i h1 h2 => ?_)
    simp [Nat.mod_one]
  unfold Own
  rw [← e]
  exact ho
end

/-- All of xs are from lo to hi. -/
def inR (xs : List Int) (lo hi : Int) : Bool := xs.all fun x => inB x lo hi

theorem inR_false {xs : List Int} {lo hi x : Int} {k : Nat} (h : xs[k]? = some x) (hx : inB x lo hi = false) : inR xs lo hi = false := by
  unfold inR
  rw [List.all_eq_false]
  exact ⟨x, List.mem_of_getElem? h, by simp [hx]⟩
theorem inR_snoc {xs ys : List Int} {lo hi x : Int} (h : ys = xs ++ [x]) (hx : inB x lo hi = true) (ha : inR xs lo hi = true) : inR ys lo hi = true := by
  subst h
  unfold inR at *
  simp [ha, hx]
theorem inB_low {x lo hi : Int} (h : x < lo) : inB x lo hi = false := by unfold inB; simp; omega
theorem inB_high {x lo hi : Int} (h : hi < x) : inB x lo hi = false := by unfold inB; simp; omega
theorem inB_in {x lo hi : Int} (h : lo ≤ x) (h' : x ≤ hi) : inB x lo hi = true := by unfold inB; simp; omega

theorem inRange_any (A : Option Addr) (n c B : Nat) (xs : List Int) (lo hi : Int) (w : World) (hr : Ints w B A n xs) (hn : n ≤ 1048576) :
    Calls Try.prog 65 #[.slice A n c, .int .i64 lo, .int .i64 hi] w fun e w' => e = .returned (.bool (inR xs lo hi)) ∧ w = w' := by
  have hlen := Lib.hid hr.len
  go_enter Try.func65, Try.ntmps65
  go_wp2
  go_loop [11] (fun i => ∃ k : Nat, k ≤ n ∧ i = .int .i64 k ∧ inR (xs.take k) lo hi = true) (fun i => n - (intOf i).toNat)
  case atStart => exact ⟨0, Nat.zero_le _, rfl, by simp [inR]⟩
  case round =>
    obtain ⟨k, hk, rfl, hall⟩ := hrel
    have HA := Lib.hid hall
    clear hall
    by_cases hlt : k < n
    · obtain ⟨ad, x, rfl, hb, hc, hx, hs⟩ := hr.elem hlt
      by_cases h1 : x < lo
      · go_wp2
        go_ret
        exact ⟨ret_bool (inR_false hx.out (inB_low h1)).symm, rfl⟩
      by_cases h2 : hi < x
      · go_wp2
        go_ret
        exact ⟨ret_bool (inR_false hx.out (inB_high h2)).symm, rfl⟩
      · go_wp2
        go_round
        case rel => exact ⟨k + 1, by omega, by go_num, inR_snoc hs.out (inB_in (by omega) (by omega)) HA.out⟩
        case measure => simp [intOf]; omega
    · have : k = n := by omega
      subst this
      go_wp2
      go_ret
      exact ⟨ret_bool (by rw [← HA.out, List.take_of_length_le (by rw [hlen.out]; exact Nat.le_refl _)]), rfl⟩

theorem clone_any (A : Option Addr) (n c B : Nat) (xs : List Int) (w : World) (hr : Ints w B A n xs) (hB : B ≤ w.heap.size) (hn : n ≤ 1048576) :
    Calls Try.prog 59 #[.slice A n c] w (RetInts xs w) := by
  go_enter Try.func59, Try.ntmps59
  go_wp2_with (first
    | (at_make; refine mk0 rfl _ _ rfl w.heap.size _ _ _ n rfl rfl rfl (by omega) (Nat.le_refl _) ?_; intro w1 hown1 hg1)
    | (at_builtin; refine app1 rfl _ _ rfl w.heap.size rfl hown1 B _ _ _ xs rfl (hr.grown hg1 hB (by simp)) (by omega) hg1.size ?_; intro A2 c2 w2 hown2 hg2 hat2; simp only [Nat.zero_add, List.nil_append] at hown2))
  go_ret
  refine ⟨A2, n, c2, rfl, hown2, ?_⟩
  have hb1 : Below w.heap.size w w1 := (Below.refl _ _).grown hg1 (Nat.le_refl _) (by simp)
  exact hb1.grown hg2 hb1.size (by intro k hk; simp [blk] at hk; omega)
end Go.Proofs.Ytehgipbedlamaaa
