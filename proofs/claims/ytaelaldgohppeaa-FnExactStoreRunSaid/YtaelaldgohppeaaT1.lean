/-
  Words on memory: a slice of puts (elements of two cells), read, and of the call's own. No program in sight but for its types.
-/
import Derived.Test.YtaelaldgohppeaaK
import Derived.Test.YtaelaldgohppeaaLists
namespace Go.Proofs.Ytaelaldgohppeaa
open Go.RowKit
set_option linter.unusedVariables false

/-- The cells of a list of puts. -/
def pv (ps : List (Int × Int)) : List Value := ps.flatMap fun p => [.int .i64 p.1, .int .i64 p.2]
theorem pv_cons (p : Int × Int) (ps : List (Int × Int)) : pv (p :: ps) = .int .i64 p.1 :: .int .i64 p.2 :: pv ps := rfl
theorem pv_length (ps : List (Int × Int)) : (pv ps).length = ps.length * 2 := by
  induction ps with
  | nil => rfl
  | cons p ps ih => rw [pv_cons]; simp only [List.length_cons, ih]; omega
theorem pv_append (ps qs : List (Int × Int)) : pv (ps ++ qs) = pv ps ++ pv qs := by simp [pv]
theorem pv_cells (ps : List (Int × Int)) : ∀ u ∈ pv ps, u.oneCell' = true := by
  intro u hu
  simp only [pv, List.mem_flatMap] at hu
  obtain ⟨p, _, hp⟩ := hu
  simp only [List.mem_cons, List.not_mem_nil, or_false] at hp
  rcases hp with rfl | rfl <;> rfl
theorem pv_get : ∀ {ps : List (Int × Int)} {k : Nat} {x y : Int}, ps[k]? = some (x, y) → (pv ps)[k * 2]? = some (.int .i64 x) ∧ (pv ps)[k * 2 + 1]? = some (.int .i64 y)
  | [], k, x, y, h => by simp at h
  | p :: ps, 0, x, y, h => by
    simp only [List.getElem?_cons_zero, Option.some.injEq] at h
    subst h
    exact ⟨rfl, rfl⟩
  | p :: ps, k + 1, x, y, h => by
    simp only [List.getElem?_cons_succ] at h
    have := pv_get h
    rw [pv_cons, show (k + 1) * 2 = k * 2 + 1 + 1 by omega]
    exact this
theorem pv_set : ∀ {ps : List (Int × Int)} {k : Nat} (x y : Int), ((pv ps).set (k * 2) (.int .i64 x)).set (k * 2 + 1) (.int .i64 y) = pv (ps.set k (x, y))
  | [], k, x, y => rfl
  | p :: ps, 0, x, y => rfl
  | p :: ps, k + 1, x, y => by
    rw [pv_cons, show (k + 1) * 2 = k * 2 + 1 + 1 by omega, List.set_cons_succ, List.set_cons_succ, List.set_cons_succ, List.set_cons_succ, pv_set x y, List.set_cons_succ, pv_cons]

/-- The slice value '.slice A n c' reads as the puts ps, below block B. -/
def Puts (w : World) (B : Nat) (A : Option Addr) (n : Nat) (ps : List (Int × Int)) : Prop := Reads w B 2 A n (pv ps)
section
variable {w w' : World} {B B' n : Nat} {A : Option Addr} {ps : List (Int × Int)}
theorem Puts.len (h : Puts w B A n ps) : ps.length = n := by have := h.1; rw [pv_length] at this; omega
/-- The k-th of them under names: its two cells. -/
theorem Puts.elem (h : Puts w B A n ps) {k : Nat} (hk : k < n) : ∃ (ad : Addr) (x y : Int), A = some ad ∧ ad.block < B ∧ w.cell? (ad.add (k * 2)) = some (.int .i64 x) ∧ w.cell? (ad.add (k * 2 + 1)) = some (.int .i64 y) ∧ Hid (ps[k]? = some (x, y)) ∧ Hid (ps.take (k + 1) = ps.take k ++ [(x, y)]) := by
  obtain ⟨ad, hA, hb, hc⟩ := h.2 (by omega)
  have hl : k < ps.length := by rw [h.len]; exact hk
  have e : ps[k]? = some ((ps[k]).1, (ps[k]).2) := List.getElem?_eq_getElem hl
  have hg := pv_get e
  exact ⟨ad, _, _, hA, hb, hc _ _ hg.1, hc _ _ hg.2, Lib.hid e, Lib.hid (by rw [List.take_succ_eq_append_getElem hl])⟩
/-- The same cells as the walk spells them. -/
theorem add_one_cell (w : World) (ad : Addr) (k : Nat) : w.cell? ((ad.add k).add 1) = w.cell? (ad.add (k + 1)) ∧ w.cell? ⟨(ad.add k).block, (ad.add k).off + 1, none⟩ = w.cell? (ad.add (k + 1)) := by
  have h1 : (ad.add k).add 1 = ad.add (k + 1) := add_of_add ad k 1
  have h2 : (⟨(ad.add k).block, (ad.add k).off + 1, none⟩ : Addr) = ad.add (k + 1) := by
    rw [← h1]
    rfl
  exact ⟨by rw [h1], by rw [h2]⟩
theorem add_zero_cell (w : World) (ad : Addr) (k : Nat) : w.cell? ((ad.add k).add 0) = w.cell? (ad.add k) := by
  have h1 : (ad.add k).add 0 = ad.add k := by unfold Addr.add; simp
  rw [h1]
/-- The k-th of them, its cells in all the walk's spellings. -/
theorem Puts.el (h : Puts w B A n ps) {k : Nat} (hk : k < n) : ∃ (ad : Addr) (x y : Int), A = some ad ∧ ad.block < B ∧ w.cell? (ad.add (k * 2)) = some (.int .i64 x) ∧ w.cell? (ad.add (k * 2 + 1)) = some (.int .i64 y) ∧ w.cell? ((ad.add (k * 2)).add 1) = some (.int .i64 y) ∧ w.cell? ⟨(ad.add (k * 2)).block, (ad.add (k * 2)).off + 1, none⟩ = some (.int .i64 y) ∧ w.cell? ((ad.add (k * 2)).add 0) = some (.int .i64 x) ∧ Hid (ps[k]? = some (x, y)) ∧ Hid (ps.take (k + 1) = ps.take k ++ [(x, y)]) := by
  obtain ⟨ad, x, y, hA, hb, h0, h1, h2, h3⟩ := h.elem hk
  exact ⟨ad, x, y, hA, hb, h0, h1, (add_one_cell w ad _).1.trans h1, (add_one_cell w ad _).2.trans h1, (add_zero_cell w ad _).trans h0, h2, h3⟩
/-- The first of them. -/
theorem Puts.el0 (h : Puts w B A n ps) (hk : 0 < n) : ∃ (ad : Addr) (x y : Int), A = some ad ∧ ad.block < B ∧ w.cell? ad = some (.int .i64 x) ∧ w.cell? (ad.add 1) = some (.int .i64 y) ∧ w.cell? ⟨ad.block, ad.off + 1, none⟩ = some (.int .i64 y) ∧ Hid (ps[0]? = some (x, y)) ∧ Hid (ps.take 1 = ps.take 0 ++ [(x, y)]) := by
  obtain ⟨ad, x, y, hA, hb, h0, h1, h2, h3⟩ := h.elem hk
  have e : ad.add (0 * 2) = ad := by unfold Addr.add; simp
  exact ⟨ad, x, y, hA, hb, by rw [← e]; exact h0, by simpa using h1, by simpa [Addr.add] using h1, h2, h3⟩
theorem Puts.keep (h : Puts w B A n ps) (hk : ∀ p : Addr, p.block < B → w'.cell? p = w.cell? p) : Puts w' B A n ps := Reads.keep h hk
theorem Puts.below (h : Puts w B A n ps) (hb : Below B w w') : Puts w' B A n ps := Reads.below h hb
theorem Puts.more (h : Puts w B A n ps) (hB : B ≤ B') : Puts w B' A n ps := Reads.more h hB
theorem Puts.alloc (h : Puts w B A n ps) (hB : B ≤ w.heap.size) (o : Obj) : Puts (w.alloc o) B A n ps := Reads.alloc h hB o
theorem Puts.drewN (h : Puts w B A n ps) (k : Nat) : Puts (w.drewN k) B A n ps := h
theorem Puts.setCell (h : Puts w B A n ps) {p : Addr} (hB : B ≤ p.block) (u : Value) : Puts (w.setCell p u) B A n ps := Reads.setCell h hB u
theorem Puts.up (h : Puts w B A n ps) (hb : Below B w w') (hB : B ≤ w'.heap.size) : Puts w' w'.heap.size A n ps := (h.below hb).more hB
theorem Puts.box (h : Puts w w.heap.size A n ps) (o : Obj) : Puts (w.alloc o) (w.alloc o).heap.size A n ps := (h.alloc (Nat.le_refl _) o).more (by simp)
theorem Puts.none0 (w : World) (B : Nat) (A : Option Addr) : Puts w B A 0 [] := ⟨rfl, fun h => absurd h (by omega)⟩
theorem Puts.nil_of (h : Puts w B A 0 ps) : ps = [] := List.eq_nil_of_length_eq_zero h.len
end
/-- A row of puts of the call's own, in a block from b to e. -/
def RowP (w : World) (b e : Nat) (A : Option Addr) (n c : Nat) (ps : List (Int × Int)) : Prop := Row 54 2 w b e A n c (pv ps)
section
variable {w w' : World} {b e b' e' n c : Nat} {A : Option Addr} {ps : List (Int × Int)} {row : Option Nat}
theorem RowP.keep (h : RowP w b e A n c ps) (hs : Same b e w w') : RowP w' b e A n c ps := Row.keep h hs
theorem RowP.mono (h : RowP w b e A n c ps) (hb : b' ≤ b) (he : e ≤ e') : RowP w b' e' A n c ps := Row.mono h hb he
theorem RowP.puts (h : RowP w b e A n c ps) {B : Nat} (hB : e ≤ B) : Puts w B A n ps := Row.reads h hB
theorem RowP.len (h : RowP w b e A n c ps) : ps.length = n := by have := Row.len h; rw [pv_length] at this; omega
theorem RowP.cap (h : RowP w b e A n c ps) : n ≤ c := Row.cap h
theorem RowP.nil (w : World) (b e : Nat) : RowP w b e none 0 0 [] := ⟨World.ownsRow_nil w b _ _, fun k hk => by cases hk⟩
theorem RowP.step (h : RowP w b e A n c ps) (hs : Step w w') (he : e ≤ w.heap.size) : RowP w' b e A n c ps := h.keep (same_of_below hs he)
theorem RowP.alloc1 (h : RowP w b e A n c ps) (he : e ≤ w.heap.size) (o : Obj) : RowP (w.alloc o) b e A n c ps := h.keep (Same.alloc he o)
theorem RowP.drew1 (h : RowP w b e A n c ps) : RowP w.drew b e A n c ps := h.keep (Same.drew w)
theorem RowP.drewN1 (h : RowP w b e A n c ps) (d : Nat) : RowP (w.drewN d) b e A n c ps := h.keep (Same.drewN w d)
theorem RowP.form (h : RowP w b e A n c ps) (hn : 0 < n) : ∃ g, A = some ⟨g, 0, none⟩ ∧ b ≤ g ∧ g < e := by
  obtain ⟨g, cap, hv, hb, _⟩ := World.ownsRow.form h.1 hn
  injection hv with hA
  subst hA
  exact ⟨g, rfl, hb, h.2 g rfl⟩
/-- The k-th of them: its two cells, and that they may be written. -/
theorem RowP.cellsAt {g : Nat} (h : RowP w b e (some ⟨g, 0, none⟩) n c ps) {k : Nat} (hk : k < n) : ∃ x y : Int, w.cell? ⟨g, k * 2, none⟩ = some (.int .i64 x) ∧ w.cell? ⟨g, k * 2 + 1, none⟩ = some (.int .i64 y) ∧ w.frozen? ⟨g, k * 2, none⟩ = false ∧ w.frozen? ⟨g, k * 2 + 1, none⟩ = false := by
  have hl : k < ps.length := by rw [h.len]; exact hk
  have e : ps[k]? = some ((ps[k]).1, (ps[k]).2) := List.getElem?_eq_getElem hl
  have hg := pv_get e
  refine ⟨(ps[k]).1, (ps[k]).2, ?_, ?_, World.ownsRow.frozenAt h.1 _, World.ownsRow.frozenAt h.1 _⟩
  · rw [World.ownsRow.cellAt h.1 _ (by omega)]; exact hg.1
  · rw [World.ownsRow.cellAt h.1 _ (by omega)]; exact hg.2
theorem RowP.stored {g : Nat} (h : RowP w b e (some ⟨g, 0, none⟩) n c ps) (k : Nat) (x y : Int) : RowP ((w.setCell ⟨g, k * 2, none⟩ (.int .i64 x)).setCell ⟨g, k * 2 + 1, none⟩ (.int .i64 y)) b e (some ⟨g, 0, none⟩) n c (ps.set k (x, y)) := by
  have h1 := (World.ownsRow.stored h.1 (k * 2) (.int .i64 x)).1
  have h2 := (World.ownsRow.stored h1 (k * 2 + 1) (.int .i64 y)).1
  rw [pv_set] at h2
  exact ⟨h2, h.2⟩
end
theorem put_info : (Try.prog.info? 54).map (fun i => (i.zero, i.size, i.bytes)) = some (some (.agg #[.int .i64 0, .int .i64 0]), 2, 16) := by kernel_rfl
section
variable {w : World} {ops : Array Oper} {rest : List Oper} {o : Oper} {a : Act} {Q : Exit → Act → World → Prop}
/-- append(out, ps...) at this program's numbers. -/
theorem appP (hgd : o.guard = none) (s x : Operand) (ho : o.op = .call { callee := .builtin .append, args := #[s, x], argTypes := #[45, 45] })
    (base : Nat) {A : Option Addr} {n c : Nat} {ps : List (Int × Int)} (hs : a.eval s = .slice A n c) (hown : w.ownsRow base 54 2 (.slice A n c) n (pv ps))
    (B : Nat) (A' : Option Addr) (m c' : Nat) (qs : List (Int × Int)) (hx : a.eval x = .slice A' m c') (hr : Puts w B A' m qs) (hlen : n + m ≤ 4194304) (hbase : base ≤ w.heap.size)
    (h : ∀ A2 c2 w', w'.ownsRow base 54 2 (.slice A2 (n + m) c2) (n + m) (pv (ps ++ qs)) → w.grownBy w' (blk A) → (blk A2 = blk A ∨ blk A2 = some w.heap.size) → wpList Try.prog ops Q rest (a.put o.dst (.slice A2 (n + m) c2)) w') :
    wpList Try.prog ops Q (o :: rest) a w := by
  obtain ⟨i0, hi, hz0, hz1, hz2⟩ := info_parts put_info
  refine wpList_append_any w hgd s x 45 ho base 54 i0 (.agg #[.int .i64 0, .int .i64 0]) 2 16 Try.underlying45 hi hz0 hz1 hz2 rfl (by omega) (.slice A n c) n (pv ps) hs hown B A' m c' (pv qs) hx hr (pv_cells qs) (by unfold maxLen; omega) (by omega) hbase ?_
  intro v' w' hown' hg hat
  have hform : ∃ A2 c2, v' = .slice A2 (n + m) c2 := by
    rcases hown'.2 with ⟨rfl, hz⟩ | ⟨g, cap, cur, rfl, _⟩
    · exact ⟨none, 0, by rw [hz]⟩
    · exact ⟨_, _, rfl⟩
  obtain ⟨A2, c2, hv⟩ := hform
  rw [hv] at hown' hat ⊢
  rw [blk_own, blk_own] at hat
  rw [blk_own] at hg
  exact h A2 c2 w' (by rw [pv_append]; exact hown') hg hat
/-- The same as one step of a region that draws its order. -/
theorem step_appP {K : Act → World → Prop} {E : Prop} (hgd : o.guard = none) (s x : Operand) (ho : o.op = .call { callee := .builtin .append, args := #[s, x], argTypes := #[45, 45] })
    (base : Nat) {A : Option Addr} {n c : Nat} {ps : List (Int × Int)} (hs : a.eval s = .slice A n c) (hown : w.ownsRow base 54 2 (.slice A n c) n (pv ps))
    (B : Nat) (A' : Option Addr) (m c' : Nat) (qs : List (Int × Int)) (hx : a.eval x = .slice A' m c') (hr : Puts w B A' m qs) (hlen : n + m ≤ 4194304) (hbase : base ≤ w.heap.size)
    (h : ∀ A2 c2 w', w'.ownsRow base 54 2 (.slice A2 (n + m) c2) (n + m) (pv (ps ++ qs)) → w.grownBy w' (blk A) → (blk A2 = blk A ∨ blk A2 = some w.heap.size) → K (a.put o.dst (.slice A2 (n + m) c2)) w') :
    if Region.wanted o (yielded ops a.tmps) = true then Oper.wp Try.prog o a w K Q else E := by
  obtain ⟨i0, hi, hz0, hz1, hz2⟩ := info_parts put_info
  refine step_append_any w hgd s x 45 ho base 54 i0 (.agg #[.int .i64 0, .int .i64 0]) 2 16 Try.underlying45 hi hz0 hz1 hz2 rfl (by omega) (.slice A n c) n (pv ps) hs hown B A' m c' (pv qs) hx hr (pv_cells qs) (by unfold maxLen; omega) (by omega) hbase ?_
  intro v' w' hown' hg hat
  have hform : ∃ A2 c2, v' = .slice A2 (n + m) c2 := by
    rcases hown'.2 with ⟨rfl, hz⟩ | ⟨g, cap, cur, rfl, _⟩
    · exact ⟨none, 0, by rw [hz]⟩
    · exact ⟨_, _, rfl⟩
  obtain ⟨A2, c2, hv⟩ := hform
  rw [hv] at hown' hat ⊢
  rw [blk_own, blk_own] at hat
  rw [blk_own] at hg
  exact h A2 c2 w' (by rw [pv_append]; exact hown') hg hat
/-- make([]Put, n). -/
theorem mknP (hgd : o.guard = none) (l c : Operand) (hop : o.op = Op.makeSlice 45 l c) (base : Nat) (kl kc : IntKind) (L C : Int) (n : Nat)
    (hl : a.eval l = .int kl L) (hc : a.eval c = .int kc C) (hL : L = (n : Int)) (hC : C = (n : Int)) (hn : n ≤ 4194304) (hb : base ≤ w.heap.size)
    (h : ∀ w', w'.ownsRow base 54 2 (.slice (some ⟨w.heap.size, 0, none⟩) n n) n (pv (List.replicate n (0, 0))) → w.grownBy w' none → wpList Try.prog ops Q rest (a.put o.dst (.slice (some ⟨w.heap.size, 0, none⟩) n n)) w') :
    wpList Try.prog ops Q (o :: rest) a w := by
  obtain ⟨i0, hi, hz0, hz1, hz2⟩ := info_parts put_info
  refine wpList_make_full w hgd l c 45 hop base 54 i0 (.agg #[.int .i64 0, .int .i64 0]) 2 Try.underlying45 hi hz0 hz1 kl kc L C n hl hc hL hC (by rw [hz2]; omega) (by unfold maxLen; omega) hb ?_
  intro w' ho hg
  refine h w' ?_ hg
  have e : (madeCells (Value.agg #[.int .i64 0, .int .i64 0]).cells (n * 2)).toList = pv (List.replicate n (0, 0)) := by
    have hx : ∀ n : Nat, pv (List.replicate n ((0 : Int), (0 : Int))) = List.replicate (n * 2) (.int .i64 0) := by
      intro n
      induction n with
      | zero => rfl
      | succ n ih => rw [List.replicate_succ, pv_cons, ih, show (n + 1) * 2 = n * 2 + 1 + 1 by omega, List.replicate_succ, List.replicate_succ]
    rw [hx]
    simp only [madeCells, Value.cells]
    refine List.ext_getElem (by simp) (fun i h1 h2 => ?_)
    simp
    rcases (by omega : i % 2 = 0 ∨ i % 2 = 1) with e | e <;> simp [e]
  rw [← e]
  exact ho
end
end Go.Proofs.Ytaelaldgohppeaa
