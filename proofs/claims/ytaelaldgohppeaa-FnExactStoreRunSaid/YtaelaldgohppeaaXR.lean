/-
  A list of transactions of the call's own, its parts in ranges one behind the other (OwnT); toTxnS.
-/
import Derived.Test.YtaelaldgohppeaaXS
import Derived.Test.YtaelaldgohppeaaSSt
namespace Go.Proofs.Ytaelaldgohppeaa
open Go.RowKit
set_option linter.unusedVariables false

/-- Transactions' parts of the call's own, one transaction's behind the other's, between the blocks b and e. -/
def RowsT (w : World) : Nat → Nat → List TR → List TX → Prop
  | b, e, [], [] => b ≤ e
  | b, e, r :: R, t :: ts => ∃ m, b ≤ m ∧ RowI w b m r.A1 r.n1 r.c1 t.reads ∧ r.nd = t.need ∧ RowP w b m r.A2 r.n2 r.c2 t.puts ∧ RowsT w m e R ts
  | _, _, _, _ => False
section
variable {w w' : World}
theorem RowsT.le : ∀ {R : List TR} {ts : List TX} {b e : Nat}, RowsT w b e R ts → b ≤ e
  | [], [], _, _, h => h
  | _ :: _, _ :: _, _, _, ⟨m, h1, _, _, _, h3⟩ => Nat.le_trans h1 h3.le
theorem RowsT.len : ∀ {R : List TR} {ts : List TX} {b e : Nat}, RowsT w b e R ts → R.length = ts.length
  | [], [], _, _, _ => rfl
  | _ :: _, _ :: _, _, _, ⟨m, _, _, _, _, h3⟩ => by simp only [List.length_cons]; rw [h3.len]
theorem RowsT.keep : ∀ {R : List TR} {ts : List TX} {b e : Nat}, RowsT w b e R ts → (∀ k, b ≤ k → k < e → w'.heap[k]? = w.heap[k]?) → RowsT w' b e R ts
  | [], [], _, _, h, _ => h
  | _ :: _, _ :: _, b, e, ⟨m, h1, h2, h4, h5, h3⟩, hs => by
    have hm := h3.le
    exact ⟨m, h1, h2.keep (fun k hk1 hk2 => hs k hk1 (by omega)), h4, h5.keep (fun k hk1 hk2 => hs k hk1 (by omega)), h3.keep (fun k hk1 hk2 => hs k (by omega) hk2)⟩
theorem RowsT.more : ∀ {R : List TR} {ts : List TX} {b e e' : Nat}, RowsT w b e R ts → e ≤ e' → RowsT w b e' R ts
  | [], [], _, _, _, h, he => Nat.le_trans h he
  | _ :: _, _ :: _, _, _, _, ⟨m, h1, h2, h4, h5, h3⟩, he => ⟨m, h1, h2, h4, h5, h3.more he⟩
theorem RowsT.snoc {r : TR} {t : TX} : ∀ {R : List TR} {ts : List TX} {b m e : Nat}, RowsT w b m R ts → RowI w m e r.A1 r.n1 r.c1 t.reads → r.nd = t.need → RowP w m e r.A2 r.n2 r.c2 t.puts → m ≤ e → RowsT w b e (R ++ [r]) (ts ++ [t])
  | [], [], b, m, e, h, hr, hn, hp, he => ⟨e, Nat.le_trans h he, hr.mono h (Nat.le_refl _), hn, hp.mono h (Nat.le_refl _), Nat.le_refl _⟩
  | _ :: _, _ :: _, _, _, _, ⟨m', h1, h2, h4, h5, h3⟩, hr, hn, hp, he => ⟨m', h1, h2, h4, h5, h3.snoc hr hn hp he⟩
theorem RowsT.get {r : TR} {t : TX} : ∀ {R : List TR} {ts : List TX} {b e : Nat} {k : Nat}, RowsT w b e R ts → R[k]? = some r → ts[k]? = some t → ∃ b' e', b ≤ b' ∧ e' ≤ e ∧ RowI w b' e' r.A1 r.n1 r.c1 t.reads ∧ r.nd = t.need ∧ RowP w b' e' r.A2 r.n2 r.c2 t.puts
  | [], [], _, _, _, _, hr, _ => by simp at hr
  | r0 :: R, x0 :: ts, b, e, 0, ⟨m, h1, h2, h4, h5, h3⟩, hr, hx => by
    simp only [List.getElem?_cons_zero, Option.some.injEq] at hr hx
    subst hr; subst hx
    exact ⟨b, m, Nat.le_refl _, h3.le, h2, h4, h5⟩
  | r0 :: R, x0 :: ts, b, e, k + 1, ⟨m, h1, h2, h4, h5, h3⟩, hr, hx => by
    simp only [List.getElem?_cons_succ] at hr hx
    obtain ⟨b', e', p1, p2, p3⟩ := h3.get hr hx
    exact ⟨b', e', by omega, p2, p3⟩
end
/-- The slice value '.slice A n c' holds these transactions, all of the call's own, in the blocks from b to e. -/
def OwnT (w : World) (b e : Nat) (A : Option Addr) (n c : Nat) (R : List TR) (ts : List TX) : Prop :=
  ∃ m, b ≤ m ∧ Row 47 3 w b m A n c (tcv R) ∧ RowsT w m e R ts
section
variable {w w' : World} {b e b' e' n c : Nat} {A : Option Addr} {R : List TR} {ts : List TX}
theorem OwnT.le (h : OwnT w b e A n c R ts) : b ≤ e := by obtain ⟨m, h1, _, h3⟩ := h; exact Nat.le_trans h1 h3.le
theorem OwnT.rlen (h : OwnT w b e A n c R ts) : R.length = n := by obtain ⟨m, _, h2, _⟩ := h; have := h2.len; rw [tcv_length] at this; omega
theorem OwnT.len (h : OwnT w b e A n c R ts) : ts.length = n := by have h1 := h.rlen; obtain ⟨m, _, _, h3⟩ := h; rw [← h3.len]; exact h1
theorem OwnT.keep (h : OwnT w b e A n c R ts) (hs : Same b e w w') : OwnT w' b e A n c R ts := by
  obtain ⟨m, h1, h2, h3⟩ := h
  have hm := h3.le
  exact ⟨m, h1, Row.keep h2 (fun k p q => hs k p (by omega)), h3.keep (fun k p q => hs k (by omega) q)⟩
theorem OwnT.more (h : OwnT w b e A n c R ts) (he : e ≤ e') : OwnT w b e' A n c R ts := by
  obtain ⟨m, h1, h2, h3⟩ := h
  exact ⟨m, h1, h2, h3.more he⟩
theorem OwnT.low (h : OwnT w b e A n c R ts) (hb : b' ≤ b) : OwnT w b' e A n c R ts := by
  obtain ⟨m, h1, h2, h3⟩ := h
  exact ⟨m, Nat.le_trans hb h1, Row.mono h2 hb (Nat.le_refl _), h3⟩
theorem OwnT.reads (h : OwnT w b e A n c R ts) {B : Nat} (hB : e ≤ B) : TxnS w B A n R ts := by
  have hlen := h.len
  obtain ⟨m, h1, h2, h3⟩ := h
  have hm := h3.le
  refine ⟨Row.reads h2 (by omega), hlen, fun k r t hr hx => ?_⟩
  obtain ⟨b', e', p1, p2, p3, p4, p5⟩ := h3.get hr hx
  exact ⟨p3.ints (by omega), p4, p5.puts (by omega)⟩
theorem OwnT.small (h : OwnT w b e A n c R ts) (hl : ∀ t ∈ ts, t.reads.length ≤ 1048576 ∧ t.puts.length ≤ 1048576) : ∀ r ∈ R, r.n1 ≤ 1048576 ∧ r.n2 ≤ 1048576 := fun r hr => by
  obtain ⟨j, hj, rfl⟩ := List.mem_iff_getElem.1 hr
  have hl2 : j < ts.length := by rw [h.len, ← h.rlen]; exact hj
  obtain ⟨m, h1, h2, h3⟩ := h
  obtain ⟨b', e', p1, p2, p3, p4, p5⟩ := h3.get (List.getElem?_eq_getElem hj) (List.getElem?_eq_getElem hl2)
  have := hl _ (List.getElem_mem hl2)
  have := p3.len
  have := p5.len
  omega
end
theorem tcv_set : ∀ {R : List TR} {k : Nat} (r : TR), (((tcv R).set (k * 3) (.slice r.A1 r.n1 r.c1)).set (k * 3 + 1) (.int .i64 r.nd)).set (k * 3 + 2) (.slice r.A2 r.n2 r.c2) = tcv (R.set k r)
  | [], k, r => rfl
  | p :: R, 0, r => rfl
  | p :: R, k + 1, r => by
    rw [tcv_cons, show (k + 1) * 3 = k * 3 + 1 + 1 + 1 by omega]
    simp only [TR.cells, List.cons_append, List.nil_append, List.set_cons_succ, tcv_cons]
    rw [tcv_set r]
section
variable {ops : Array Oper} {rest : List Oper} {Q : Exit → Act → World → Prop} {o : Oper} {a : Act} {w : World}
def zeroTR : TR := ⟨none, 0, 0, 0, none, 0, 0⟩
/-- make([]Txn, n). -/
theorem mknT (hgd : o.guard = none) (l c : Operand) (hop : o.op = Op.makeSlice 61 l c) (base : Nat) (kl kc : IntKind) (L C : Int) (n : Nat)
    (hl : a.eval l = .int kl L) (hc : a.eval c = .int kc C) (hL : L = (n : Int)) (hC : C = (n : Int)) (hn : n ≤ 1048576) (hb : base ≤ w.heap.size)
    (h : ∀ w', w'.ownsRow base 47 3 (.slice (some ⟨w.heap.size, 0, none⟩) n n) n (tcv (List.replicate n zeroTR)) → w.grownBy w' none → wpList Try.prog ops Q rest (a.put o.dst (.slice (some ⟨w.heap.size, 0, none⟩) n n)) w') :
    wpList Try.prog ops Q (o :: rest) a w := by
  obtain ⟨i0, hi, hz0, hz1, hz2⟩ := info_parts txn_info
  refine wpList_make_full w hgd l c 61 hop base 47 i0 (.agg #[.slice none 0 0, .int .i64 0, .slice none 0 0]) 3 Try.underlying61 hi hz0 hz1 kl kc L C n hl hc hL hC (by rw [hz2]; omega) (by unfold maxLen; omega) hb ?_
  intro w' ho hg
  refine h w' ?_ hg
  have hx : ∀ n : Nat, (tcv (List.replicate n zeroTR)).length = n * 3 := fun n => by rw [tcv_length]; simp
  have hy : ∀ (n i : Nat), i < n → (tcv (List.replicate n zeroTR))[i * 3]? = some (.slice none 0 0) ∧ (tcv (List.replicate n zeroTR))[i * 3 + 1]? = some (.int .i64 0) ∧ (tcv (List.replicate n zeroTR))[i * 3 + 2]? = some (.slice none 0 0) := fun n i hi => tcv_get (R := List.replicate n zeroTR) (k := i) (r := zeroTR) (by simp [hi])
  have e : (madeCells (Value.agg #[.slice none 0 0, .int .i64 0, .slice none 0 0]).cells (n * 3)).toList = tcv (List.replicate n zeroTR) := by
    simp only [madeCells, Value.cells]
    refine List.ext_getElem? (fun i => ?_)
    by_cases hi : i < n * 3
    · obtain ⟨y0, y1, y2⟩ := hy n (i / 3) (by omega)
      rcases (by omega : i % 3 = 0 ∨ i % 3 = 1 ∨ i % 3 = 2) with e | e | e
      · have hi3 : i = i / 3 * 3 := by omega
        rw [← hi3] at y0
        rw [y0]; simp [hi, e]
      · have hi3 : i = i / 3 * 3 + 1 := by omega
        rw [← hi3] at y1
        rw [y1]; simp [hi, e]
      · have hi3 : i = i / 3 * 3 + 2 := by omega
        rw [← hi3] at y2
        rw [y2]; simp [hi, e]
    · rw [List.getElem?_eq_none (by simp; omega), List.getElem?_eq_none (by rw [hx]; omega)]
  rw [← e]
  exact ho
end
def RetT (ts : List TX) (w : World) (e : Ending) (w' : World) : Prop :=
  ∃ A n c R, e = .returned (.slice A n c) ∧ OwnT w' w.heap.size w'.heap.size A n c R ts ∧ Below w.heap.size w w'
set_option maxHeartbeats 4000000 in
theorem toTxnS_r (A : Option Addr) (n c : Nat) (R : List TR) (ts : List TX) (w : World) (hx : TxnS w w.heap.size A n R ts) (hn : n ≤ 1048576) (hl : ∀ r ∈ R, r.n1 ≤ 1048576 ∧ r.n2 ≤ 1048576) :
    Calls Try.prog 62 #[.slice A n c] w (RetT ts w) := by
  have HL := Lib.hid hl
  clear hl
  go_enter Try.func62, Try.ntmps62
  go_wp2_with (at_make; refine mknT rfl _ _ rfl w.heap.size _ _ _ _ n rfl rfl rfl rfl (by omega) (Nat.le_refl _) ?_; intro w1 hown1 hg1)
  have hb1 : Below w.heap.size w w1 := (Below.refl _ _).grown hg1 (Nat.le_refl _) (by simp)
  have hs1 : w.heap.size + 1 ≤ w1.heap.size := by have := (World.ownsRow.lt hown1 w.heap.size (by rfl)).2; omega
  go_loopw [4] (fun i wr => ∃ (k : Nat) (S : List TR), k ≤ n ∧ i = .int .i64 k ∧ S.length = k ∧ wr.ownsRow w.heap.size 47 3 (.slice (some ⟨w.heap.size, 0, none⟩) n n) n (tcv (S ++ List.replicate (n - k) zeroTR)) ∧ RowsT wr (w.heap.size + 1) wr.heap.size S (ts.take k) ∧ Below w.heap.size w wr) (fun i _ => n - (intOf i).toNat)
  case atStart => exact ⟨0, [], Nat.zero_le _, rfl, rfl, by simpa using hown1, hs1, hb1⟩
  case round =>
    obtain ⟨k, S, hk, rfl, hS, hown, hrows, hbw⟩ := hrel
    clear hown1 hg1 hb1 hs1
    by_cases hlt : k < n
    · have X := hx.up hbw hbw.size
      obtain ⟨ad, A1, n1, c1, nd, A2, n2, c2, rs, ps, rfl, hb, hc0, hc1, hc2, hc3, hc4, hc5, hi, hp, ht1, hts, hR⟩ := X.el hlt
      obtain ⟨l1, l2⟩ := HL.out _ (List.mem_of_getElem? hR.out)
      simp only at l1 l2
      have hsz : w.heap.size < wr.heap.size := by have := (World.ownsRow.lt hown w.heap.size (by rfl)).2; omega
      go_wp2_with fail
      refine (toTxn_x A1 n1 c1 A2 n2 c2 nd rs ps wr hi hp l1 l2).mono ?_
      rintro e w9 ⟨A9, n9, c9, B9, m9, d9, rfl, o9, u9, hb9⟩
      have hw9 := World.ownsRow.kept hown (row := none) ⟨hb9.os, hb9.tape, hb9.output, hb9.size, fun k hk _ => hb9.block k hk⟩ (.inr (fun e => by cases e))
      have q0 := World.ownsRow.cellAt hw9 (k * 3) (by omega)
      have q1 := World.ownsRow.cellAt hw9 (k * 3 + 1) (by omega)
      have q2 := World.ownsRow.cellAt hw9 (k * 3 + 2) (by omega)
      have p0 := World.ownsRow.frozenAt hw9 (k * 3)
      have p1 := World.ownsRow.frozenAt hw9 (k * 3 + 1)
      have p2 := World.ownsRow.frozenAt hw9 (k * 3 + 2)
      obtain ⟨y0, y1, y2⟩ := tcv_get (R := S ++ List.replicate (n - k) zeroTR) (k := k) (r := zeroTR) (by rw [List.getElem?_append_right (Nat.le_of_eq hS), hS, Nat.sub_self, List.getElem?_replicate, if_pos (by omega)])
      rw [y0] at q0
      rw [y1] at q1
      rw [y2] at q2
      have hz9 := hb9.size
      clear hc0 hc1 hc2 hc3 hc4 hc5 y0 y1 y2 hi hp
      go_wp2_with fail
      go_roundw
      case rel =>
        refine ⟨k + 1, S ++ [⟨A9, n9, c9, nd, B9, m9, d9⟩], by omega, by go_num, by simp [hS], ?_, ?_, ?_⟩
        · have h1 := (World.ownsRow.stored hw9 (k * 3) (.slice A9 n9 c9)).1
          have h2 := (World.ownsRow.stored h1 (k * 3 + 1) (.int .i64 nd)).1
          have h3 := (World.ownsRow.stored h2 (k * 3 + 2) (.slice B9 m9 d9)).1
          rw [tcv_set ⟨A9, n9, c9, nd, B9, m9, d9⟩, set_mid _ _ _ n k hS hlt] at h3
          exact h3
        · rw [hts.out]
          have h2 : RowsT w9 (w.heap.size + 1) wr.heap.size S (ts.take k) := hrows.keep (fun j _ hj => hb9.block j hj)
          have h3 := h2.snoc (r := ⟨A9, n9, c9, nd, B9, m9, d9⟩) (t := ⟨rs, nd, ps⟩) (rowI o9) rfl (rowP u9) hz9
          have h4 := h3.keep (w' := ((w9.setCell ⟨w.heap.size, k * 3, none⟩ (.slice A9 n9 c9)).setCell ⟨w.heap.size, k * 3 + 1, none⟩ (.int .i64 nd)).setCell ⟨w.heap.size, k * 3 + 2, none⟩ (.slice B9 m9 d9)) (fun j hj _ => (Below.heap_setCell _ _ _ j (by simp only; omega)).trans ((Below.heap_setCell _ _ _ j (by simp only; omega)).trans (Below.heap_setCell w9 _ _ j (by simp only; omega))))
          simpa [World.setCell] using h4
        · exact (((hbw.trans (hb9.mono hbw.size)).setCell (Nat.le_refl _) _).setCell (Nat.le_refl _) _).setCell (Nat.le_refl _) _
      case measure => simp [intOf]; omega
    · obtain rfl : k = n := by omega
      go_wp2
      go_ret
      have hxl : ts.take k = ts := List.take_of_length_le (by rw [hx.l]; exact Nat.le_refl _)
      rw [hxl] at hrows
      exact ⟨_, _, _, S, rfl, ⟨w.heap.size + 1, by omega, ⟨by simpa using hown, fun j hj => by simp [blk] at hj; omega⟩, hrows⟩, hbw⟩
end Go.Proofs.Ytaelaldgohppeaa
