/-
  The drawn transaction: whatever the code, a short transaction in memory of its own.
-/
import Derived.Test.YtaelaldgohppeaaDS
import Derived.Test.YtaelaldgohppeaaSH
import Derived.Test.YtaelaldgohppeaaT3
import Derived.Deep.RegionHeld3
namespace Go.Proofs.Ytaelaldgohppeaa
open Go.RowKit
set_option linter.unusedVariables false

/-- A row of puts of the call's own. -/
def OwnP (w : World) (base : Nat) (A : Option Addr) (n c : Nat) (ps : List (Int × Int)) : Prop := w.ownsRow base 54 2 (.slice A n c) n (pv ps)
section
variable {w w' : World} {base base' n c : Nat} {A : Option Addr} {ps : List (Int × Int)} {row : Option Nat}
theorem OwnP.len (h : OwnP w base A n c ps) : ps.length = n := by have := h.1; rw [pv_length] at this; omega
theorem OwnP.puts (h : OwnP w base A n c ps) : Puts w w.heap.size A n ps := Reads.of_own h
theorem OwnP.cap (h : OwnP w base A n c ps) : n ≤ c := by
  rcases h.2 with ⟨hv, hn⟩ | ⟨g, cap, cur, hv, _, _, hnc, _⟩
  · omega
  · injection hv with _ _ hc; omega
theorem OwnP.lt (h : OwnP w base A n c ps) {k : Nat} (hk : blk A = some k) : base ≤ k ∧ k < w.heap.size := World.ownsRow.lt h k (by rw [blk_own]; exact hk)
theorem OwnP.kept (h : OwnP w base A n c ps) (hg : w.grownBy w' row) (hne : ∀ k, blk A = some k → row ≠ some k) : OwnP w' base A n c ps :=
  World.ownsRow.kept h hg (by
    cases hA : (Value.slice A n c).ownBlock with
    | none => exact .inl rfl
    | some k => rw [blk_own] at hA; exact .inr (fun e => hne k hA e.symm))
theorem OwnP.alloc (h : OwnP w base A n c ps) (o : Obj) : OwnP (w.alloc o) base A n c ps := World.ownsRow.alloc h o
theorem OwnP.below (h : OwnP w base A n c ps) (hb : Below w.heap.size w w') : OwnP w' base A n c ps :=
  h.kept (row := none) ⟨hb.os, hb.tape, hb.output, hb.size, fun k hk _ => hb.block k hk⟩ (fun k _ e => by cases e)
theorem OwnP.drew (h : OwnP w base A n c ps) : OwnP w.drew base A n c ps := h
theorem OwnP.drewN (h : OwnP w base A n c ps) (k : Nat) : OwnP (w.drewN k) base A n c ps := h
theorem OwnP.mono (h : OwnP w base A n c ps) (hb : base' ≤ base) : OwnP w base' A n c ps := by
  obtain ⟨h1, h2⟩ := h
  refine ⟨h1, ?_⟩
  rcases h2 with h2 | ⟨g, cap, cur, hv, hg, r⟩
  · exact .inl h2
  · exact .inr ⟨g, cap, cur, hv, Nat.le_trans hb hg, r⟩
theorem OwnP.setCell (h : OwnP w base A n c ps) {p : Addr} (hp : ∀ k, blk A = some k → k ≠ p.block) (u : Value) : OwnP (w.setCell p u) base A n c ps :=
  h.kept (row := some p.block) ⟨rfl, rfl, rfl, by simp, fun i _ hi => Below.heap_setCell w _ _ i (fun e => hi (by rw [e]))⟩ (fun k hk e => hp k hk (by injection e with e; exact e.symm))
theorem OwnP.ne (h : OwnP w base A n c ps) {g : Nat} {t : TypeId} {cs : Array Value} (hb : Blk w g t cs) (ht : 54 ≠ t) : blk A ≠ some g := by
  have := own_blk_ne h hb ht
  rwa [blk_own] at this
theorem OwnP.lit0 {g : Nat} (hg : g = w.heap.size) (hb : base ≤ w.heap.size) : OwnP (w.alloc (.cells #[] 54)) base (some ⟨g, 0, none⟩) 0 0 [] := by
  subst hg
  exact World.ownsRow_lit w #[] 0 hb (Nat.zero_le _) (by simp)
theorem OwnP.nil (w : World) (base : Nat) : OwnP w base none 0 0 [] := World.ownsRow_nil w base _ _
end
/-- A put that has just been laid. -/
theorem Puts.one' {w : World} {g : Nat} (x y : Int) (hg : g = w.heap.size) : Puts (w.alloc (.cells #[.int .i64 x, .int .i64 y] 54)) (w.heap.size + 1) (some ⟨g, 0, none⟩) 1 [(x, y)] := by
  subst hg
  refine ⟨rfl, fun _ => ⟨_, rfl, Nat.lt_succ_self _, fun j u hu => ?_⟩⟩
  have hadd : (⟨w.heap.size, 0, none⟩ : Addr).add j = ⟨w.heap.size, j, none⟩ := by unfold Addr.add; split <;> simp_all
  rw [hadd, (Blk.new w 54 #[.int .i64 x, .int .i64 y]).cell j]
  simpa [pv] using hu

/-- What stands in memory while a transaction is drawn. -/
structure DT (w : World) (B g g3 : Nat) (p : Int) (wr : World) (A1 : Option Addr) (n1 c1 : Nat) (nd : Int) (A2 : Option Addr) (n2 c2 : Nat) (rs : List Int) (ps : List (Int × Int)) (p' : Int) : Prop where
  b : Blk wr g3 47 #[.slice A1 n1 c1, .int .i64 nd, .slice A2 n2 c2]
  z : Blk wr w.heap.size 47 #[.slice none 0 0, .int .i64 0, .slice none 0 0]
  a1 : Own wr (w.heap.size + 1) A1 n1 c1 rs
  a2 : OwnP wr (w.heap.size + 1) A2 n2 c2 ps
  rd : Rdr wr B g p'
  gl : g < w.heap.size
  g3l : w.heap.size + 1 ≤ g3
  p0 : p ≤ p'
  gr : w.grownBy wr (some g)
  bl : Below g w wr
/-- What drawing a transaction leaves. -/
def DrewT (p : Int) (B g : Nat) (w : World) (e : Ending) (w' : World) : Prop :=
  ∃ A1 n1 c1 nd A2 n2 c2 rs ps p', e = .returned (.agg #[.slice A1 n1 c1, .int .i64 nd, .slice A2 n2 c2]) ∧ Own w' w.heap.size A1 n1 c1 rs ∧ OwnP w' w.heap.size A2 n2 c2 ps ∧ n1 ≤ 16 ∧ n2 ≤ 16 ∧ Rdr w' B g p' ∧ p ≤ p' ∧ p' ≤ p + 100 ∧ w.grownBy w' (some g) ∧ Below g w w'
section
variable {w wr w1 w3 : World} {B g g3 n1 c1 n2 c2 n3 c3 : Nat} {p p' nd v : Int} {A1 A2 A3 : Option Addr} {rs rs' : List Int} {ps ps' : List (Int × Int)}
theorem DT.picked (h : DT w B g g3 p wr A1 n1 c1 nd A2 n2 c2 rs ps p') (hr : Rdr w1 B g (p' + 1)) (hg : wr.grownBy w1 (some g)) (hb : Below g wr w1) : DT w B g g3 p w1 A1 n1 c1 nd A2 n2 c2 rs ps (p' + 1) := by
  have hgl := h.gl
  have h3 := h.g3l
  exact ⟨h.b.grown hg (fun e => by injection e with e; omega), h.z.grown hg (fun e => by injection e with e; omega), h.a1.kept hg (fun k hk e => by injection e with e; have := h.a1.lt hk; omega), h.a2.kept hg (fun k hk e => by injection e with e; have := h.a2.lt hk; omega), hr, hgl, h3, by have := h.p0; omega, grown_trans' h.gr hg (fun k hk => .inl hk), h.bl.trans hb⟩
theorem DT.alloc (h : DT w B g g3 p wr A1 n1 c1 nd A2 n2 c2 rs ps p') (o : Obj) : DT w B g g3 p (wr.alloc o) A1 n1 c1 nd A2 n2 c2 rs ps p' :=
  ⟨h.b.alloc o, h.z.alloc o, h.a1.alloc o, h.a2.alloc o, h.rd.alloc o, h.gl, h.g3l, h.p0, grown_trans' h.gr (World.grownBy_alloc wr o none) (by simp), h.bl.alloc (by have := h.rd.lt; omega) o⟩
theorem DT.drew (h : DT w B g g3 p wr A1 n1 c1 nd A2 n2 c2 rs ps p') : DT w B g g3 p wr.drew A1 n1 c1 nd A2 n2 c2 rs ps p' :=
  ⟨h.b, h.z, h.a1, h.a2, h.rd, h.gl, h.g3l, h.p0, ⟨h.gr.os, h.gr.tape, h.gr.output, h.gr.size, h.gr.block⟩, h.bl.drew⟩
theorem DT.sz (h : DT w B g g3 p wr A1 n1 c1 nd A2 n2 c2 rs ps p') : w.heap.size + 1 ≤ wr.heap.size ∧ g3 < wr.heap.size := ⟨by have := h.z.lt; omega, h.b.lt⟩
/-- The block behind an append onto the reads (the puts). -/
theorem DT.gB (h : DT w B g g3 p wr A1 n1 c1 nd A2 n2 c2 rs ps p') (hg : wr.grownBy w3 (blk A1)) : Blk w3 g3 47 #[.slice A1 n1 c1, .int .i64 nd, .slice A2 n2 c2] :=
  h.b.grown hg (fun e => own_ne_blk h.a1 h.b (by decide) e.symm)
theorem DT.gP (h : DT w B g g3 p wr A1 n1 c1 nd A2 n2 c2 rs ps p') (hg : wr.grownBy w3 (blk A2)) : Blk w3 g3 47 #[.slice A1 n1 c1, .int .i64 nd, .slice A2 n2 c2] :=
  h.b.grown hg (fun e => h.a2.ne h.b (by decide) e.symm)
theorem DT.addR (h : DT w B g g3 p wr A1 n1 c1 nd A2 n2 c2 rs ps p') (hg : wr.grownBy w3 (blk A1)) (ho : Own w3 (w.heap.size + 1) A3 n3 c3 rs') : DT w B g g3 p (w3.setCell ⟨g3, 0, none⟩ (.slice A3 n3 c3)) A3 n3 c3 nd A2 n2 c2 rs' ps p' := by
  have hgl := h.gl
  have h3 := h.g3l
  have hrow : ∀ k, blk A1 = some k → w.heap.size + 1 ≤ k := fun k hk => (h.a1.lt hk).1
  have b3 := h.gB hg
  have a3 := h.a2.kept hg (fun k hk e => by
    have := rows_ne h.a1 h.a2 (by decide) (k := k) (by rw [blk_own]; exact e)
    rw [blk_own] at this; exact this hk)
  exact ⟨b3.set_ 0 _, (h.z.grown hg (fun e => by have := hrow _ e.symm; omega)).far (by simp; omega) _, ho.setBlk b3 (by decide) 0 _, a3.setCell (fun k hk e => a3.ne b3 (by decide) (by rw [hk, e])) _,
    (h.rd.grown hg (fun k hk => by have := hrow k hk; omega)).setCell (by simp; omega) _, hgl, h3, h.p0, only_set (grown_trans' h.gr hg (fun k hk => .inr (by have := hrow k hk; omega))) (by simp; omega) _,
    (h.bl.grown hg (by have := h.rd.lt; omega) (fun k hk => by have := hrow k hk; omega)).setCell (by simp; omega) _⟩
theorem DT.addP (h : DT w B g g3 p wr A1 n1 c1 nd A2 n2 c2 rs ps p') (hg : wr.grownBy w3 (blk A2)) (ho : OwnP w3 (w.heap.size + 1) A3 n3 c3 ps') : DT w B g g3 p (w3.setCell ⟨g3, 2, none⟩ (.slice A3 n3 c3)) A1 n1 c1 nd A3 n3 c3 rs ps' p' := by
  have hgl := h.gl
  have h3 := h.g3l
  have hrow : ∀ k, blk A2 = some k → w.heap.size + 1 ≤ k := fun k hk => (h.a2.lt hk).1
  have b3 := h.gP hg
  have a3 := h.a1.kept hg (fun k hk e => by
    have := rows_ne h.a2 h.a1 (by decide) (k := k) (by rw [blk_own]; exact e)
    rw [blk_own] at this; exact this hk)
  exact ⟨b3.set_ 2 _, (h.z.grown hg (fun e => by have := hrow _ e.symm; omega)).far (by simp; omega) _, a3.setBlk b3 (by decide) 2 _, ho.setCell (fun k hk e => ho.ne b3 (by decide) (by rw [hk, e])) _,
    (h.rd.grown hg (fun k hk => by have := hrow k hk; omega)).setCell (by simp; omega) _, hgl, h3, h.p0, only_set (grown_trans' h.gr hg (fun k hk => .inr (by have := hrow k hk; omega))) (by simp; omega) _,
    (h.bl.grown hg (by have := h.rd.lt; omega) (fun k hk => by have := hrow k hk; omega)).setCell (by simp; omega) _⟩
theorem DT.need (h : DT w B g g3 p wr A1 n1 c1 nd A2 n2 c2 rs ps p') (v : Int) : DT w B g g3 p (wr.setCell ⟨g3, 1, none⟩ (.int .i64 v)) A1 n1 c1 v A2 n2 c2 rs ps p' := by
  have hgl := h.gl
  have h3 := h.g3l
  exact ⟨h.b.set_ 1 _, h.z.far (by simp; omega) _, h.a1.setBlk h.b (by decide) 1 _, h.a2.setCell (fun k hk e => h.a2.ne h.b (by decide) (by rw [hk, e])) _, h.rd.setCell (by simp; omega) _, hgl, h3, h.p0, only_set h.gr (by simp; omega) _, h.bl.setCell (by simp; omega) _⟩
theorem DT.finish (h : DT w B g g3 p wr A1 n1 c1 nd A2 n2 c2 rs ps p') (hn1 : n1 ≤ 16) (hn2 : n2 ≤ 16) (hp : p' ≤ p + 100) :
    DrewT p B g w (.returned (.agg #[.slice A1 n1 c1, .int .i64 nd, .slice A2 n2 c2])) (((wr.setCell ⟨w.heap.size, 0, none⟩ (.slice A1 n1 c1)).setCell ⟨w.heap.size, 1, none⟩ (.int .i64 nd)).setCell ⟨w.heap.size, 2, none⟩ (.slice A2 n2 c2)) := by
  have hgl := h.gl
  have k1 : ∀ k, blk A1 = some k → k ≠ w.heap.size := fun k hk e => by have := (h.a1.lt hk).1; omega
  have k2 : ∀ k, blk A2 = some k → k ≠ w.heap.size := fun k hk e => by have := (h.a2.lt hk).1; omega
  exact ⟨A1, n1, c1, nd, A2, n2, c2, rs, ps, p', rfl, (((h.a1.setCell k1 _).setCell k1 _).setCell k1 _).mono (by omega), (((h.a2.setCell k2 _).setCell k2 _).setCell k2 _).mono (by omega), hn1, hn2,
    ((h.rd.setCell (by simpa using hgl) _).setCell (by simpa using hgl) _).setCell (by simpa using hgl) _, h.p0, hp, only_set (only_set (only_set h.gr (by simp) _) (by simp) _) (by simp) _, ((h.bl.setCell (by simp; omega) _).setCell (by simp; omega) _).setCell (by simp; omega) _⟩
theorem DT.start {x y : Int} {w2 : World} (h2 : Blk w2 w.heap.size 47 #[.slice none 0 0, .int .i64 0, .slice none 0 0]) (ho : Own w2 (w.heap.size + 1) A1 0 c1 []) (hr : Rdr w2 B g p') (hgl : g < w.heap.size) (hp : p ≤ p') (hgr : w.grownBy w2 (some g)) (hb : Below g w w2) :
    DT w B g (w2.heap.size + 1) p ((w2.alloc (.cells #[] 54)).alloc (.cells #[.slice A1 0 c1, .int .i64 nd, .slice (some ⟨w2.heap.size, 0, none⟩) 0 0] 47)) A1 0 c1 nd (some ⟨w2.heap.size, 0, none⟩) 0 0 [] [] p' := by
  have hq := Blk.new (w2.alloc (.cells #[] 54)) 47 #[.slice A1 0 c1, .int .i64 nd, .slice (some ⟨w2.heap.size, 0, none⟩) 0 0]
  simp only [World.size_alloc] at hq
  have l2 := h2.lt
  have lr := hr.lt
  exact ⟨hq, (h2.alloc _).alloc _, (ho.alloc _).alloc _, (OwnP.lit0 rfl (by omega)).alloc _, (hr.alloc _).alloc _, hgl, by omega, hp, grown_trans' (grown_trans' hgr (World.grownBy_alloc _ _ none) (by simp)) (World.grownBy_alloc _ _ none) (by simp), (hb.alloc (by omega) _).alloc (by simp; omega) _⟩
end
end Go.Proofs.Ytaelaldgohppeaa
