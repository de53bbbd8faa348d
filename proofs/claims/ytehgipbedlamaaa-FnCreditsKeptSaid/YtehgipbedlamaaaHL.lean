/-
  What stands in memory while credits are drawn.
-/
import Derived.Test.YtehgipbedlamaaaHK
import Derived.Test.YtehgipbedlamaaaHJ
import Derived.Test.YtehgipbedlamaaaHG
namespace Go.Proofs.Ytehgipbedlamaaa
open Go.RowKit
set_option linter.unusedVariables false

theorem askC_cv {c : CX} {s g : Int} (h : Cv c) (hs0 : 0 ≤ s) (hs : s < c.holds.length) (hg0 : 0 ≤ g) (hg : g ≤ 4) : Cv (askC c s g) := by
  have hO : askOk c s g = true := by simp [askOk, cv_iff.2 h, inB]; omega
  cases hS : stopA c s g
  · have e := ask_go hO hS
    rw [e.1]; exact ask_cv e.2
  · rw [(ask_stop hO hS).1]; exact h
theorem giveC_cv {c : CX} {s : Int} (h : Cv c) (hs0 : 0 ≤ s) (hs : s < c.holds.length) : Cv (giveC c s) := by
  have hO : giveOk c s = true := by simp [giveOk, cv_iff.2 h, inB]; omega
  cases hS : stopG c s
  · have e := give_go hO hS
    rw [e.2.1]; exact give_cv e.1
  · rw [(give_stop hO hS).1]; exact h
theorem new_cv {free : List Int} {m : Nat} (hfr : frB free = true) (h1 : 1 ≤ m) (h6 : m ≤ 6) : Cv ⟨free, List.replicate m hz⟩ := by
  simp only [frB, Bool.and_eq_true, decide_eq_true_eq] at hfr
  refine ⟨hfr.1, (in5 hfr.1).1 hfr.2, by simpa using h1, by simpa using h6, fun h hh => ?_⟩
  have := List.eq_of_mem_replicate hh
  subst this
  exact ⟨by simp [hz], by simp [hz], .inl rfl⟩
/-- What drawing credits leaves. -/
def DrewC (p : Int) (B g : Nat) (w : World) (e : Ending) (w' : World) : Prop :=
  ∃ F nf cf A n c R cx p', e = .returned (.agg #[.slice F nf cf, .slice A n c]) ∧ OwnC w' w.heap.size F nf cf A n c R cx ∧ nf ≤ 5 ∧ n ≤ 6 ∧ Rdr w' B g p' ∧ p ≤ p' ∧ p' ≤ p + 200 ∧ w.grownBy w' (some g) ∧ Below g w w'
structure DC (w : World) (B g : Nat) (p : Int) (wr : World) (S : Nat) (F : Option Addr) (nf cf : Nat) (A : Option Addr) (n c : Nat) (R : List HR) (cx : CX) (p' : Int) : Prop where
  q : Blk wr S 26 #[.slice F nf cf, .slice A n c]
  r : Blk wr w.heap.size 26 #[.slice none 0 0, .slice none 0 0]
  o : OwnC wr (w.heap.size + 1) F nf cf A n c R cx
  rd : Rdr wr B g p'
  gl : g < w.heap.size
  p0 : p ≤ p'
  gr : w.grownBy wr (some g)
  bl : Below g w wr
  sz : S < wr.heap.size
  hS : w.heap.size < S
section
variable {w wr w1 : World} {B g S nf cf n c nf' cf' n' c' : Nat} {p p' : Int} {F A F' A' : Option Addr} {R R' : List HR} {cx cx' : CX}
theorem DC.picked (h : DC w B g p wr S F nf cf A n c R cx p') (hr : Rdr w1 B g (p' + 1)) (hg : wr.grownBy w1 (some g)) (hb : Below g wr w1) : DC w B g p w1 S F nf cf A n c R cx (p' + 1) := by
  have hgl := h.gl
  have hS := h.hS
  exact ⟨h.q.grown hg (fun e => by injection e with e; omega), h.r.grown hg (fun e => by injection e with e; omega), h.o.kept hg (fun k e => by injection e with e; omega), hr, hgl, by have := h.p0; omega, grown_trans' h.gr hg (fun k hk => .inl hk), h.bl.trans hb, Nat.lt_of_lt_of_le h.sz hg.size, hS⟩
theorem grownOfBelow {a b : World} (hb : Below a.heap.size a b) : a.grownBy b none := ⟨hb.os, hb.tape, hb.output, hb.size, fun k hk _ => hb.block k hk⟩
theorem DC.called (h : DC w B g p wr S F nf cf A n c R cx p') (hb : Below wr.heap.size wr w1) : DC w B g p w1 S F nf cf A n c R cx p' := by
  have hrd := h.rd.lt
  exact ⟨h.q.below hb h.q.lt, h.r.below hb h.r.lt, h.o.below hb, h.rd.keep (fun k hk => hb.block k (by omega)), h.gl, h.p0, grown_trans' h.gr (grownOfBelow hb) (by simp), h.bl.trans (hb.mono (by omega)), Nat.lt_of_lt_of_le h.sz hb.size, h.hS⟩
theorem DC.alloc (h : DC w B g p wr S F nf cf A n c R cx p') (o : Obj) : DC w B g p (wr.alloc o) S F nf cf A n c R cx p' := h.called ((Below.refl _ _).alloc (Nat.le_refl _) o)
theorem DC.drew (h : DC w B g p wr S F nf cf A n c R cx p') : DC w B g p wr.drew S F nf cf A n c R cx p' := h.called ((Below.refl _ _).drew)
theorem DC.wsz (h : DC w B g p wr S F nf cf A n c R cx p') : w.heap.size + 1 < wr.heap.size := by have := h.sz; have := h.hS; omega
/-- A further box of credits is written. -/
theorem DC.setX (h : DC w B g p wr S F nf cf A n c R cx p') {X : Nat} {cs : Array Value} (hX : Blk wr X 26 cs) (hXS : X ≠ S) (hXw : w.heap.size < X) (i : Nat) (u : Value) : DC w B g p (wr.setCell ⟨X, i, none⟩ u) S F nf cf A n c R cx p' := by
  have hgl := h.gl
  exact ⟨h.q.far (fun e => hXS e.symm) _, h.r.far (by simp; omega) _, h.o.setBox hX (by decide) (by decide) i u, h.rd.setCell (by simp; omega) _, hgl, h.p0, only_set h.gr (by simp; omega) _, h.bl.setCell (by simp; omega) _, by simpa using h.sz, h.hS⟩
/-- The box takes other credits. -/
theorem DC.setC (h : DC w B g p wr S F nf cf A n c R cx p') (o : OwnC wr (w.heap.size + 1) F' nf' cf' A' n' c' R' cx') : DC w B g p ((wr.setCell ⟨S, 0, none⟩ (.slice F' nf' cf')).setCell ⟨S, 1, none⟩ (.slice A' n' c')) S F' nf' cf' A' n' c' R' cx' p' := by
  have hgl := h.gl
  have hS := h.hS
  have q1 := h.q.set_ 0 (.slice F' nf' cf')
  have q2 := q1.set_ 1 (.slice A' n' c')
  exact ⟨q2, (h.r.far (by simp; omega) _).far (by simp; omega) _, (o.setBox h.q (by decide) (by decide) 0 _).setBox q1 (by decide) (by decide) 1 _, (h.rd.setCell (by simp; omega) _).setCell (by simp; omega) _, hgl, h.p0,
    only_set (only_set h.gr (by simp; omega) _) (by simp; omega) _, (h.bl.setCell (by simp; omega) _).setCell (by simp; omega) _, by simpa using h.sz, hS⟩
/-- A row is written: what the credits come to is told by o. -/
theorem DC.row (h : DC w B g p wr S F nf cf A n c R cx p') {x i : Nat} {u : Value} (hx : w.heap.size < x) (hb : Boxes wr (wr.setCell ⟨x, i, none⟩ u)) (o : OwnC (wr.setCell ⟨x, i, none⟩ u) (w.heap.size + 1) F nf cf A n c R' cx') : DC w B g p (wr.setCell ⟨x, i, none⟩ u) S F nf cf A n c R' cx' p' := by
  have hgl := h.gl
  exact ⟨hb _ _ _ (by decide) (by decide) h.q, hb _ _ _ (by decide) (by decide) h.r, o, h.rd.setCell (by simp; omega) _, hgl, h.p0, only_set h.gr (by simp; omega) _, h.bl.setCell (by simp; omega) _, by simpa using h.sz, h.hS⟩
theorem DC.finish (h : DC w B g p wr S F nf cf A n c R cx p') (hnf : nf ≤ 5) (hn : n ≤ 6) (hp : p' ≤ p + 200) :
    DrewC p B g w (.returned (.agg #[.slice F nf cf, .slice A n c])) ((wr.setCell ⟨w.heap.size, 0, none⟩ (.slice F nf cf)).setCell ⟨w.heap.size, 1, none⟩ (.slice A n c)) := by
  have hgl := h.gl
  exact ⟨F, nf, cf, A, n, c, R, cx, p', rfl, ((h.o.setBelow (p := ⟨w.heap.size, 0, none⟩) (by simp) _).setBelow (p := ⟨w.heap.size, 1, none⟩) (by simp) _).mono (by omega), hnf, hn, (h.rd.setCell (by simpa using hgl) _).setCell (by simpa using hgl) _, h.p0, hp,
    only_set (only_set h.gr (by simp) _) (by simp) _, (h.bl.setCell (by simp; omega) _).setCell (by simp; omega) _⟩
/-- A list has been drawn. -/
theorem DC.drewn {p2 : Int} (h : DC w B g p wr S F nf cf A n c R cx p') (hr : Rdr w1 B g p2) (hp : p' ≤ p2) (hg : wr.grownBy w1 (some g)) (hb : Below g wr w1) : DC w B g p w1 S F nf cf A n c R cx p2 := by
  have hgl := h.gl
  have hS := h.hS
  exact ⟨h.q.grown hg (fun e => by injection e with e; omega), h.r.grown hg (fun e => by injection e with e; omega), h.o.kept hg (fun k e => by injection e with e; omega), hr, hgl, by have := h.p0; omega, grown_trans' h.gr hg (fun k hk => .inl hk), h.bl.trans hb, Nat.lt_of_lt_of_le h.sz hg.size, hS⟩
theorem OwnC.hcap {base : Nat} (h : OwnC wr base F nf cf A n c R cx) : n ≤ c := by
  rcases h.o.2 with ⟨hv, hn⟩ | ⟨g, cap, cur, hv, _, _, hnc, _⟩
  · omega
  · injection hv with _ _ hc; omega
/-- No sender is left. -/
theorem OwnC.zero (h : OwnC wr nf' F nf cf A n c R cx) : OwnC wr nf' F nf cf A 0 c [] ⟨cx.free, []⟩ := by
  refine ⟨h.f, ?_, rfl, fun k r t hr => by simp at hr, fun i j r s x _ hr => by simp at hr, fun k r x hr => by simp at hr⟩
  obtain ⟨h1, h2⟩ := h.o
  refine ⟨by simp [hcv], ?_⟩
  rcases h2 with ⟨h3, h4⟩ | ⟨q, cap, cur, hv, hb, hh, hn, hm, hs, ht⟩
  · injection h3 with e1 e2 e3
    subst e1; subst e3
    exact .inl ⟨rfl, rfl⟩
  · injection hv with e1 e2 e3
    subst e1; subst e3
    exact .inr ⟨q, c, cur, rfl, hb, hh, Nat.zero_le _, hm, hs, by simp [hcv]⟩
theorem DC.setZero (h : DC w B g p wr S F nf cf A n c R cx p') : DC w B g p (wr.setCell ⟨S, 1, none⟩ (.slice A 0 c)) S F nf cf A 0 c [] ⟨cx.free, []⟩ p' := by
  have hgl := h.gl
  have hS := h.hS
  exact ⟨h.q.set_ 1 _, h.r.far (by simp; omega) _, (h.o.zero).setBox h.q (by decide) (by decide) 1 _, h.rd.setCell (by simp; omega) _, hgl, h.p0, only_set h.gr (by simp; omega) _, h.bl.setCell (by simp; omega) _, by simpa using h.sz, hS⟩
theorem DC.nf5 (h : DC w B g p wr S F nf cf A n c R cx p') (hc : Cv cx) : nf = 5 := by have := h.o.f.len; have := hc.f; omega
theorem DC.n16 (h : DC w B g p wr S F nf cf A n c R cx p') (hc : Cv cx) : 1 ≤ n ∧ n ≤ 6 := by have := h.o.l; have := hc.l1; have := hc.l6; omega
end
/-- A sender's row, for the walk. -/
theorem OwnC.rowAt {w : World} {base nf cf n c s : Nat} {F A : Option Addr} {R : List HR} {cx : CX} (h : OwnC w base F nf cf A n c R cx) (hs : s < n) : ∃ (A1 : Option Addr) (n1 c1 : Nat) (v : Int) (xs : List Int), (∃ gA, A = some ⟨gA, 0, none⟩ ∧ base ≤ gA ∧ gA < w.heap.size ∧ w.cell? ⟨gA, s * 2, none⟩ = some (.slice A1 n1 c1)) ∧ Own w base A1 n1 c1 xs ∧ n1 ≤ 1048576 ∧ True ∧
    Hid (R[s]? = some ⟨A1, n1, c1, v⟩) ∧ Hid (cx.holds[s]? = some ⟨xs, v⟩) := by
  obtain ⟨gA, rfl, h1, h2⟩ := h.form (by omega)
  obtain ⟨A1, n1, c1, v, xs, o1, hn, c0, _, _, _, hR, hk, _⟩ := h.cells hs
  exact ⟨A1, n1, c1, v, xs, ⟨gA, rfl, h1, h2, c0⟩, o1, hn, trivial, hR, hk⟩
theorem size_hold (w : World) : (sizeOf (Try.prog.elem 24)).run Try.prog w = .ok 2 w := by kernel_rfl
theorem cutHTo_run (A : Option Addr) (n c k : Nat) (hk : k ≤ n) (hc : n ≤ c) (w : World) :
    (Instr.slice 24 (.slice A n c) none (some (.int .i64 (k : Int))) none).run Try.prog w = .ok (.slice A k c) w := by
  rw [run_slice_h (P := Try.prog) (w := w) 24 A n c (by kernel_rfl) .i64 (k : Int) (by omega) (by omega), size_hold]
  simp [Result.andThen, sliced]
  intro _
  rcases A with _ | ad
  · rfl
  · simp [Addr.add]
end Go.Proofs.Ytehgipbedlamaaa
