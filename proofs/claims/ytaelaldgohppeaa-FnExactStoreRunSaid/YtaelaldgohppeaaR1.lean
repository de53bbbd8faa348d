/-
  Words on memory: a slice of transactions (elements of three cells), read and of the call's own; a slice of bools.
-/
import Derived.Test.YtaelaldgohppeaaDT
namespace Go.Proofs.Ytaelaldgohppeaa
open Go.RowKit
set_option linter.unusedVariables false

/-- A transaction's row: its reads, its number, its puts. -/
structure TR where
  A1 : Option Addr
  n1 : Nat
  c1 : Nat
  nd : Int
  A2 : Option Addr
  n2 : Nat
  c2 : Nat
def TR.cells (r : TR) : List Value := [.slice r.A1 r.n1 r.c1, .int .i64 r.nd, .slice r.A2 r.n2 r.c2]
def tcv (R : List TR) : List Value := R.flatMap TR.cells
theorem tcv_cons (r : TR) (R : List TR) : tcv (r :: R) = r.cells ++ tcv R := rfl
theorem tcv_length (R : List TR) : (tcv R).length = R.length * 3 := by
  induction R with
  | nil => rfl
  | cons r R ih => rw [tcv_cons, List.length_append, ih]; simp [TR.cells]; omega
theorem tcv_append (R S : List TR) : tcv (R ++ S) = tcv R ++ tcv S := by simp [tcv]
theorem tcv_one (r : TR) : tcv [r] = r.cells := by simp [tcv]
theorem tcv_cells (R : List TR) : ∀ u ∈ tcv R, u.oneCell' = true := by
  intro u hu
  simp only [tcv, List.mem_flatMap, TR.cells] at hu
  obtain ⟨r, _, hp⟩ := hu
  simp only [List.mem_cons, List.not_mem_nil, or_false] at hp
  rcases hp with rfl | rfl | rfl <;> rfl
theorem tcv_get : ∀ {R : List TR} {k : Nat} {r : TR}, R[k]? = some r → (tcv R)[k * 3]? = some (.slice r.A1 r.n1 r.c1) ∧ (tcv R)[k * 3 + 1]? = some (.int .i64 r.nd) ∧ (tcv R)[k * 3 + 2]? = some (.slice r.A2 r.n2 r.c2)
  | [], k, r, h => by simp at h
  | q :: R, 0, r, h => by
    simp only [List.getElem?_cons_zero, Option.some.injEq] at h
    subst h
    exact ⟨rfl, rfl, rfl⟩
  | q :: R, k + 1, r, h => by
    simp only [List.getElem?_cons_succ] at h
    have := tcv_get h
    rw [tcv_cons, show (k + 1) * 3 = k * 3 + 1 + 1 + 1 by omega]
    exact this
theorem tcv_take (R : List TR) (k : Nat) : (tcv R).take (k * 3) = tcv (R.take k) := by
  induction R generalizing k with
  | nil => simp [tcv]
  | cons r R ih =>
    cases k with
    | zero => rfl
    | succ k =>
      rw [tcv_cons, List.take_succ_cons, tcv_cons, show (k + 1) * 3 = k * 3 + 1 + 1 + 1 by omega]
      simp [TR.cells, ih]
theorem tcv_drop (R : List TR) (k : Nat) : (tcv R).drop (k * 3) = tcv (R.drop k) := by
  induction R generalizing k with
  | nil => simp [tcv]
  | cons r R ih =>
    cases k with
    | zero => rfl
    | succ k =>
      rw [tcv_cons, List.drop_succ_cons, show (k + 1) * 3 = k * 3 + 1 + 1 + 1 by omega]
      simp [TR.cells, ih]

/-- The slice reads as these transactions. -/
structure TxnS (w : World) (B : Nat) (A : Option Addr) (n : Nat) (R : List TR) (ts : List TX) : Prop where
  o : Reads w B 3 A n (tcv R)
  l : ts.length = n
  i : ∀ (k : Nat) (r : TR) (t : TX), R[k]? = some r → ts[k]? = some t → Ints w B r.A1 r.n1 t.reads ∧ r.nd = t.need ∧ Puts w B r.A2 r.n2 t.puts
section
variable {w w' : World} {B B' n : Nat} {A : Option Addr} {R : List TR} {ts : List TX}
theorem TxnS.rlen (h : TxnS w B A n R ts) : R.length = n := by have := h.o.1; rw [tcv_length] at this; omega
theorem TxnS.below (h : TxnS w B A n R ts) (hb : Below B w w') : TxnS w' B A n R ts := ⟨h.o.below hb, h.l, fun k r t hr ht => ⟨(h.i k r t hr ht).1.below hb, (h.i k r t hr ht).2.1, (h.i k r t hr ht).2.2.below hb⟩⟩
theorem TxnS.more (h : TxnS w B A n R ts) (hB : B ≤ B') : TxnS w B' A n R ts := ⟨h.o.more hB, h.l, fun k r t hr ht => ⟨(h.i k r t hr ht).1.more hB, (h.i k r t hr ht).2.1, (h.i k r t hr ht).2.2.more hB⟩⟩
theorem TxnS.up (h : TxnS w B A n R ts) (hb : Below B w w') (hB : B ≤ w'.heap.size) : TxnS w' w'.heap.size A n R ts := (h.below hb).more hB
/-- The k-th of them, its cells in the walk's spellings. -/
theorem TxnS.el (h : TxnS w B A n R ts) {k : Nat} (hk : k < n) : ∃ (ad : Addr) (A1 : Option Addr) (n1 c1 : Nat) (nd : Int) (A2 : Option Addr) (n2 c2 : Nat) (rs : List Int) (ps : List (Int × Int)), A = some ad ∧ ad.block < B ∧
    w.cell? (ad.add (k * 3)) = some (.slice A1 n1 c1) ∧ w.cell? ((ad.add (k * 3)).add 1) = some (.int .i64 nd) ∧ w.cell? ((ad.add (k * 3)).add 2) = some (.slice A2 n2 c2) ∧
    w.cell? ⟨(ad.add (k * 3)).block, (ad.add (k * 3)).off + 1, none⟩ = some (.int .i64 nd) ∧ w.cell? ⟨(ad.add (k * 3)).block, (ad.add (k * 3)).off + 2, none⟩ = some (.slice A2 n2 c2) ∧ w.cell? ((ad.add (k * 3)).add 0) = some (.slice A1 n1 c1) ∧
    Ints w B A1 n1 rs ∧ Puts w B A2 n2 ps ∧ Hid (ts[k]? = some ⟨rs, nd, ps⟩) ∧ Hid (ts.take (k + 1) = ts.take k ++ [⟨rs, nd, ps⟩]) ∧ Hid (R[k]? = some ⟨A1, n1, c1, nd, A2, n2, c2⟩) := by
  obtain ⟨ad, hA, hb, hc⟩ := h.o.2 (by omega)
  have hl : k < R.length := by rw [h.rlen]; exact hk
  have hlt : k < ts.length := by rw [h.l]; exact hk
  have e : R[k]? = some R[k] := List.getElem?_eq_getElem hl
  have et : ts[k]? = some ts[k] := List.getElem?_eq_getElem hlt
  obtain ⟨g0, g1, g2⟩ := tcv_get e
  obtain ⟨i1, i2, i3⟩ := h.i k _ _ e et
  have c0 := hc _ _ g0
  have c1 := hc _ _ g1
  have c2 := hc _ _ g2
  have ht : ts[k] = ⟨ts[k].reads, R[k].nd, ts[k].puts⟩ := by rw [i2]
  have a1 : (ad.add (k * 3)).add 1 = ad.add (k * 3 + 1) := add_of_add ad _ 1
  have a2 : (ad.add (k * 3)).add 2 = ad.add (k * 3 + 2) := add_of_add ad _ 2
  have b1 : (⟨(ad.add (k * 3)).block, (ad.add (k * 3)).off + 1, none⟩ : Addr) = ad.add (k * 3 + 1) := by rw [← a1]; rfl
  have b2 : (⟨(ad.add (k * 3)).block, (ad.add (k * 3)).off + 2, none⟩ : Addr) = ad.add (k * 3 + 2) := by rw [← a2]; rfl
  exact ⟨ad, R[k].A1, R[k].n1, R[k].c1, R[k].nd, R[k].A2, R[k].n2, R[k].c2, ts[k].reads, ts[k].puts, hA, hb, c0, by rw [a1]; exact c1, by rw [a2]; exact c2, by rw [b1]; exact c1, by rw [b2]; exact c2, by rw [add_zero_cell]; exact c0, i1, i3,
    Lib.hid (by rw [et, ← ht]), Lib.hid (by rw [List.take_succ_eq_append_getElem hlt, ← ht]), Lib.hid e⟩
end
theorem txn_info : (Try.prog.info? 47).map (fun i => (i.zero, i.size, i.bytes)) = some (some (.agg #[.slice none 0 0, .int .i64 0, .slice none 0 0]), 3, 56) := by kernel_rfl
section
variable {w : World} {ops : Array Oper} {rest : List Oper} {o : Oper} {a : Act} {Q : Exit → Act → World → Prop}
/-- append(out, ts...) at this program's numbers. -/
theorem appT (hgd : o.guard = none) (s x : Operand) (ho : o.op = .call { callee := .builtin .append, args := #[s, x], argTypes := #[61, 61] })
    (base : Nat) {A : Option Addr} {n c : Nat} {R : List TR} (hs : a.eval s = .slice A n c) (hown : w.ownsRow base 47 3 (.slice A n c) n (tcv R))
    (B : Nat) (A' : Option Addr) (m c' : Nat) (R' : List TR) (hx : a.eval x = .slice A' m c') (hr : Reads w B 3 A' m (tcv R')) (hlen : n + m ≤ 4194304) (hbase : base ≤ w.heap.size)
    (h : ∀ A2 c2 w', w'.ownsRow base 47 3 (.slice A2 (n + m) c2) (n + m) (tcv (R ++ R')) → w.grownBy w' (blk A) → (blk A2 = blk A ∨ blk A2 = some w.heap.size) → wpList Try.prog ops Q rest (a.put o.dst (.slice A2 (n + m) c2)) w') :
    wpList Try.prog ops Q (o :: rest) a w := by
  obtain ⟨i0, hi, hz0, hz1, hz2⟩ := info_parts txn_info
  refine wpList_append_any w hgd s x 61 ho base 47 i0 _ 3 56 Try.underlying61 hi hz0 hz1 hz2 rfl (by omega) (.slice A n c) n (tcv R) hs hown B A' m c' (tcv R') hx hr (tcv_cells R') (by unfold maxLen; omega) (by omega) hbase ?_
  intro v' w' hown' hg hat
  have hform : ∃ A2 c2, v' = .slice A2 (n + m) c2 := by
    rcases hown'.2 with ⟨rfl, hz⟩ | ⟨g, cap, cur, rfl, _⟩
    · exact ⟨none, 0, by rw [hz]⟩
    · exact ⟨_, _, rfl⟩
  obtain ⟨A2, c2, hv⟩ := hform
  rw [hv] at hown' hat ⊢
  rw [blk_own, blk_own] at hat
  rw [blk_own] at hg
  exact h A2 c2 w' (by rw [tcv_append]; exact hown') hg hat
end
/-- A list of transactions of the call's own, whose parts lie anywhere among the call's own blocks. -/
structure HeldT (w : World) (base : Nat) (A : Option Addr) (n c : Nat) (R : List TR) (ts : List TX) : Prop where
  o : w.ownsRow base 47 3 (.slice A n c) n (tcv R)
  l : ts.length = n
  i : ∀ (k : Nat) (r : TR) (t : TX), R[k]? = some r → ts[k]? = some t → Own w base r.A1 r.n1 r.c1 t.reads ∧ r.nd = t.need ∧ OwnP w base r.A2 r.n2 r.c2 t.puts
section
variable {w w' w1 w3 : World} {base base' n c c3 : Nat} {A A3 : Option Addr} {R : List TR} {ts : List TX} {r : TR} {t : TX} {row : Option Nat}
theorem HeldT.rlen (h : HeldT w base A n c R ts) : R.length = n := by have := h.o.1; rw [tcv_length] at this; omega
theorem HeldT.kept (h : HeldT w base A n c R ts) (hg : w.grownBy w' row) (hr : ∀ k, row = some k → k < base) : HeldT w' base A n c R ts :=
  ⟨World.ownsRow.kept h.o hg (by
    cases hA : (Value.slice A n c).ownBlock with
    | none => exact .inl rfl
    | some k => exact .inr (fun e => by have := (World.ownsRow.lt h.o k hA).1; have := hr k e.symm; omega)), h.l,
   fun j r t hrj hx => ⟨(h.i j r t hrj hx).1.kept hg (fun k hk e => by have := ((h.i j r t hrj hx).1.lt hk).1; have := hr k e; omega), (h.i j r t hrj hx).2.1, (h.i j r t hrj hx).2.2.kept hg (fun k hk e => by have := ((h.i j r t hrj hx).2.2.lt hk).1; have := hr k e; omega)⟩⟩
theorem HeldT.below (h : HeldT w base A n c R ts) (hb : Below w.heap.size w w') : HeldT w' base A n c R ts :=
  h.kept (row := none) ⟨hb.os, hb.tape, hb.output, hb.size, fun k hk _ => hb.block k hk⟩ (fun k e => by cases e)
theorem HeldT.alloc (h : HeldT w base A n c R ts) (o : Obj) : HeldT (w.alloc o) base A n c R ts := h.below ((Below.refl _ _).alloc (Nat.le_refl _) o)
theorem HeldT.lt (h : HeldT w base A n c R ts) {k : Nat} (hk : blk A = some k) : base ≤ k ∧ k < w.heap.size := World.ownsRow.lt h.o k (by rw [blk_own]; exact hk)
theorem HeldT.app (h : HeldT w1 base A n c R ts) (h1 : Own w1 base r.A1 r.n1 r.c1 t.reads) (h2 : r.nd = t.need) (h3 : OwnP w1 base r.A2 r.n2 r.c2 t.puts) (hg : w1.grownBy w3 (blk A)) (ho : w3.ownsRow base 47 3 (.slice A3 (n + 1) c3) (n + 1) (tcv (R ++ [r]))) : HeldT w3 base A3 (n + 1) c3 (R ++ [r]) (ts ++ [t]) := by
  have key1 : ∀ {B : Option Addr} {m d : Nat} {xs : List Int}, Own w1 base B m d xs → Own w3 base B m d xs := fun {B m d xs} h2 => h2.kept hg (fun k hk e => by
    have := rows_ne h2 h.o (by decide) (k := k) (by rw [blk_own]; exact hk)
    rw [blk_own] at this
    exact this e)
  have key2 : ∀ {B : Option Addr} {m d : Nat} {xs : List (Int × Int)}, OwnP w1 base B m d xs → OwnP w3 base B m d xs := fun {B m d xs} h2 => h2.kept hg (fun k hk e => by
    have := rows_ne h2 h.o (by decide) (k := k) (by rw [blk_own]; exact hk)
    rw [blk_own] at this
    exact this e)
  refine ⟨ho, by simp [h.l], fun j r' t' hr' hx' => ?_⟩
  have hl := h.rlen
  by_cases hj : j < n
  · rw [List.getElem?_append_left (by omega)] at hr'
    rw [List.getElem?_append_left (by rw [h.l]; omega)] at hx'
    obtain ⟨a, b, c⟩ := h.i j r' t' hr' hx'
    exact ⟨key1 a, b, key2 c⟩
  · have hjn : j = n := by
      have := (List.getElem?_eq_some_iff.1 hr').1
      simp at this; omega
    subst hjn
    rw [List.getElem?_append_right (by omega), hl] at hr'
    rw [List.getElem?_append_right (by rw [h.l]; omega), h.l] at hx'
    simp at hr' hx'
    subst hr'; subst hx'
    exact ⟨key1 h1, h2, key2 h3⟩
theorem HeldT.reads (h : HeldT w base A n c R ts) : TxnS w w.heap.size A n R ts :=
  ⟨Reads.of_own h.o, h.l, fun k r t hr ht => ⟨(h.i k r t hr ht).1.ints, (h.i k r t hr ht).2.1, (h.i k r t hr ht).2.2.puts⟩⟩
theorem HeldT.mono (h : HeldT w base A n c R ts) (hb : base' ≤ base) : HeldT w base' A n c R ts := by
  refine ⟨?_, h.l, fun j r t hr hx => ⟨(h.i j r t hr hx).1.mono hb, (h.i j r t hr hx).2.1, (h.i j r t hr hx).2.2.mono hb⟩⟩
  obtain ⟨h1, h2⟩ := h.o
  refine ⟨h1, ?_⟩
  rcases h2 with h2 | ⟨g, cap, cur, hv, hg, r⟩
  · exact .inl h2
  · exact .inr ⟨g, cap, cur, hv, Nat.le_trans hb hg, r⟩
theorem HeldT.cap (h : HeldT w base A n c R ts) : n ≤ c := by
  rcases h.o.2 with ⟨hv, hn⟩ | ⟨g, cap, cur, hv, _, _, hnc, _⟩
  · omega
  · injection hv with _ _ hc; omega
theorem HeldT.start (hb : base ≤ w.heap.size) : HeldT (w.alloc (.cells #[] 47)) base (some ⟨w.heap.size, 0, none⟩) 0 0 [] [] :=
  ⟨World.ownsRow_lit w #[] 0 hb (Nat.zero_le _) (by simp), rfl, fun j r t hr => by simp at hr⟩
end
/-- One transaction's cells that have just been laid. -/
theorem Reads.txn1 {w : World} {g : Nat} (r : TR) (hg : g = w.heap.size) : Reads (w.alloc (.cells #[.slice r.A1 r.n1 r.c1, .int .i64 r.nd, .slice r.A2 r.n2 r.c2] 47)) (w.heap.size + 1) 3 (some ⟨g, 0, none⟩) 1 (tcv [r]) := by
  subst hg
  refine ⟨rfl, fun _ => ⟨_, rfl, Nat.lt_succ_self _, fun j u hu => ?_⟩⟩
  have hadd : (⟨w.heap.size, 0, none⟩ : Addr).add j = ⟨w.heap.size, j, none⟩ := by unfold Addr.add; split <;> simp_all
  rw [hadd, (Blk.new w 47 #[.slice r.A1 r.n1 r.c1, .int .i64 r.nd, .slice r.A2 r.n2 r.c2]).cell j]
  rw [tcv_one] at hu
  simpa [TR.cells] using hu

/-- The values of a list of bools. -/
def bv (bs : List Bool) : List Value := bs.map Value.bool
theorem bv_length (bs : List Bool) : (bv bs).length = bs.length := by simp [bv]
theorem bv_append (a b : List Bool) : bv (a ++ b) = bv a ++ bv b := by simp [bv]
theorem bv_cells (bs : List Bool) : ∀ u ∈ bv bs, u.oneCell' = true := by
  intro u hu
  simp only [bv, List.mem_map] at hu
  obtain ⟨x, _, rfl⟩ := hu
  rfl
def Bools (w : World) (B : Nat) (A : Option Addr) (n : Nat) (bs : List Bool) : Prop := Reads w B 1 A n (bv bs)
def OwnB (w : World) (base : Nat) (A : Option Addr) (n c : Nat) (bs : List Bool) : Prop := w.ownsRow base 4 1 (.slice A n c) n (bv bs)
section
variable {w w' : World} {B B' base base' n c : Nat} {A : Option Addr} {bs : List Bool} {row : Option Nat}
theorem Bools.len (h : Bools w B A n bs) : bs.length = n := by have := h.1; rw [bv_length] at this; omega
theorem Bools.up (h : Bools w B A n bs) (hb : Below B w w') (hB : B ≤ w'.heap.size) : Bools w' w'.heap.size A n bs := Reads.more (Reads.below h hb) hB
theorem Bools.below (h : Bools w B A n bs) (hb : Below B w w') : Bools w' B A n bs := Reads.below h hb
theorem Bools.more (h : Bools w B A n bs) (hB : B ≤ B') : Bools w B' A n bs := Reads.more h hB
theorem Bools.none0 (w : World) (B : Nat) (A : Option Addr) : Bools w B A 0 [] := ⟨rfl, fun h => absurd h (by omega)⟩
theorem Bools.el (h : Bools w B A n bs) {k : Nat} (hk : k < n) : ∃ (ad : Addr) (b : Bool), A = some ad ∧ ad.block < B ∧ w.cell? (ad.add k) = some (.bool b) ∧ Hid (bs[k]? = some b) ∧ Hid (bs.take (k + 1) = bs.take k ++ [b]) := by
  obtain ⟨ad, hA, hb, hc⟩ := h.2 (by omega)
  have hl : k < bs.length := by rw [h.len]; exact hk
  have e : bs[k]? = some bs[k] := List.getElem?_eq_getElem hl
  exact ⟨ad, bs[k], hA, hb, hc k _ (by simp [bv, hl]), Lib.hid e, Lib.hid (by rw [List.take_succ_eq_append_getElem hl])⟩
theorem OwnB.len (h : OwnB w base A n c bs) : bs.length = n := by have := h.1; rw [bv_length] at this; omega
theorem OwnB.bools (h : OwnB w base A n c bs) : Bools w w.heap.size A n bs := Reads.of_own h
theorem OwnB.lt (h : OwnB w base A n c bs) {k : Nat} (hk : blk A = some k) : base ≤ k ∧ k < w.heap.size := World.ownsRow.lt h k (by rw [blk_own]; exact hk)
theorem OwnB.kept (h : OwnB w base A n c bs) (hg : w.grownBy w' row) (hne : ∀ k, blk A = some k → row ≠ some k) : OwnB w' base A n c bs :=
  World.ownsRow.kept h hg (by
    cases hA : (Value.slice A n c).ownBlock with
    | none => exact .inl rfl
    | some k => rw [blk_own] at hA; exact .inr (fun e => hne k hA e.symm))
theorem OwnB.below (h : OwnB w base A n c bs) (hb : Below w.heap.size w w') : OwnB w' base A n c bs :=
  h.kept (row := none) ⟨hb.os, hb.tape, hb.output, hb.size, fun k hk _ => hb.block k hk⟩ (fun k _ e => by cases e)
theorem OwnB.alloc (h : OwnB w base A n c bs) (o : Obj) : OwnB (w.alloc o) base A n c bs := World.ownsRow.alloc h o
theorem OwnB.drew (h : OwnB w base A n c bs) : OwnB w.drew base A n c bs := h
theorem OwnB.mono (h : OwnB w base A n c bs) (hb : base' ≤ base) : OwnB w base' A n c bs := by
  obtain ⟨h1, h2⟩ := h
  refine ⟨h1, ?_⟩
  rcases h2 with h2 | ⟨g, cap, cur, hv, hg, r⟩
  · exact .inl h2
  · exact .inr ⟨g, cap, cur, hv, Nat.le_trans hb hg, r⟩
theorem OwnB.nil (w : World) (base : Nat) : OwnB w base none 0 0 [] := World.ownsRow_nil w base _ _
theorem OwnB.lit0 {g : Nat} (hg : g = w.heap.size) (hb : base ≤ w.heap.size) : OwnB (w.alloc (.cells #[] 4)) base (some ⟨g, 0, none⟩) 0 0 [] := by
  subst hg
  exact World.ownsRow_lit w #[] 0 hb (Nat.zero_le _) (by simp)
/-- A row of another kind is not where the bools lie. -/
theorem OwnB.ne {e : TypeId} {s m b2 : Nat} {v : Value} {xs : List Value} (h : OwnB w base A n c bs) (h2 : w.ownsRow b2 e s v m xs) (hne : 4 ≠ e) {k : Nat} (hk : blk A = some k) : v.ownBlock ≠ some k :=
  rows_ne h h2 hne (k := k) (by rw [blk_own]; exact hk)
end
theorem Bools.one' {w : World} {g : Nat} (b : Bool) (hg : g = w.heap.size) : Bools (w.alloc (.cells #[.bool b] 4)) (w.heap.size + 1) (some ⟨g, 0, none⟩) 1 [b] := Reads.one' (.bool b) hg
theorem bool_info : (Try.prog.info? 4).map (fun i => (i.zero, i.size, i.bytes)) = some (some (.bool false), 1, 1) := by kernel_rfl
section
variable {w : World} {ops : Array Oper} {rest : List Oper} {o : Oper} {a : Act} {Q : Exit → Act → World → Prop}
theorem appB (hgd : o.guard = none) (s x : Operand) (ho : o.op = .call { callee := .builtin .append, args := #[s, x], argTypes := #[64, 64] })
    (base : Nat) {A : Option Addr} {n c : Nat} {bs : List Bool} (hs : a.eval s = .slice A n c) (hown : OwnB w base A n c bs)
    (B : Nat) (A' : Option Addr) (m c' : Nat) (cs : List Bool) (hx : a.eval x = .slice A' m c') (hr : Bools w B A' m cs) (hlen : n + m ≤ 4194304) (hbase : base ≤ w.heap.size)
    (h : ∀ A2 c2 w', OwnB w' base A2 (n + m) c2 (bs ++ cs) → w.grownBy w' (blk A) → (blk A2 = blk A ∨ blk A2 = some w.heap.size) → wpList Try.prog ops Q rest (a.put o.dst (.slice A2 (n + m) c2)) w') :
    wpList Try.prog ops Q (o :: rest) a w := by
  obtain ⟨i0, hi, hz0, hz1, hz2⟩ := info_parts bool_info
  refine wpList_append_any w hgd s x 64 ho base 4 i0 (.bool false) 1 1 Try.underlying64 hi hz0 hz1 hz2 rfl (by omega) (.slice A n c) n (bv bs) hs hown B A' m c' (bv cs) hx hr (bv_cells cs) (by unfold maxLen; omega) (by omega) hbase ?_
  intro v' w' hown' hg hat
  have hform : ∃ A2 c2, v' = .slice A2 (n + m) c2 := by
    rcases hown'.2 with ⟨rfl, hz⟩ | ⟨g, cap, cur, rfl, _⟩
    · exact ⟨none, 0, by rw [hz]⟩
    · exact ⟨_, _, rfl⟩
  obtain ⟨A2, c2, hv⟩ := hform
  rw [hv] at hown' hat ⊢
  rw [blk_own, blk_own] at hat
  rw [blk_own] at hg
  exact h A2 c2 w' (by unfold OwnB; rw [bv_append]; exact hown') hg hat
end
end Go.Proofs.Ytaelaldgohppeaa
