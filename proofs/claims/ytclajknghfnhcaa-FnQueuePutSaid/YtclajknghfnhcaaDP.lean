/-
  The draw of a queue and an item.
-/
import Derived.Test.YtclajknghfnhcaaDL
import Derived.Deep.DrawnRows
namespace Go.Proofs.Ytclajknghfnhcaa
open Go.RowKit
set_option linter.unusedVariables false

attribute [local go_sem ↓] Go.wp_at_zero Go.wp_at_succ

/-- A pick of seven, behind which a row of seven ints is laid, or ahead of which it was. -/
theorem lit7 (wx : World) (gx m : Nat) (a b c d e f g : Int) (hm : m < 7) (hb : Blk wx gx 3 #[.int .i64 a, .int .i64 b, .int .i64 c, .int .i64 d, .int .i64 e, .int .i64 f, .int .i64 g]) : ∃ x : Int, wx.cell? ⟨gx, m, none⟩ = some (.int .i64 x) ∧ wx.frozen? ⟨gx, m, none⟩ = false ∧ [Value.int .i64 a, .int .i64 b, .int .i64 c, .int .i64 d, .int .i64 e, .int .i64 f, .int .i64 g][m]? = some (.int .i64 x) := by
  have : ∃ x : Int, (#[.int .i64 a, .int .i64 b, .int .i64 c, .int .i64 d, .int .i64 e, .int .i64 f, .int .i64 g] : Array Value)[m]? = some (.int .i64 x) := by
    rcases (by omega : m = 0 ∨ m = 1 ∨ m = 2 ∨ m = 3 ∨ m = 4 ∨ m = 5 ∨ m = 6) with rfl | rfl | rfl | rfl | rfl | rfl | rfl
    · exact ⟨a, rfl⟩
    · exact ⟨b, rfl⟩
    · exact ⟨c, rfl⟩
    · exact ⟨d, rfl⟩
    · exact ⟨e, rfl⟩
    · exact ⟨f, rfl⟩
    · exact ⟨g, rfl⟩
  obtain ⟨x, hx⟩ := this
  exact ⟨x, (hb.cell m).trans hx, hb.frozen m, by simpa using hx⟩

/-- What stands while an item is drawn. -/
structure DPut (w : World) (S B g : Nat) (A1 : Option Addr) (n1 c1 : Nat) (xs : List Int) (A2 : Option Addr) (n2 c2 : Nat) (ys : List Int) (p : Int) (wr : World) : Prop where
  q : Blk wr S 25 #[.slice A1 n1 c1, .slice A2 n2 c2]
  r : Blk wr w.heap.size 25 #[.slice none 0 0, .slice none 0 0]
  a : Own wr (w.heap.size + 1) A1 n1 c1 xs
  b : Own wr (w.heap.size + 1) A2 n2 c2 ys
  rd : Rdr wr B g p
  bl : Below w.heap.size w wr
  sz : S < wr.heap.size
  gS : w.heap.size < g ∧ g < S
  nA : blk A1 ≠ some g
  nB : blk A2 ≠ some g
section
variable {w wr w1 : World} {S B g n1 c1 n2 c2 : Nat} {A1 A2 : Option Addr} {xs ys : List Int} {p : Int}
theorem DPut.alloc (h : DPut w S B g A1 n1 c1 xs A2 n2 c2 ys p wr) (o : Obj) : DPut w S B g A1 n1 c1 xs A2 n2 c2 ys p (wr.alloc o) :=
  ⟨h.q.alloc _, h.r.alloc _, h.a.alloc _, h.b.alloc _, h.rd.alloc _, h.bl.alloc (by have := h.sz; have := h.gS; omega) _, by have := h.sz; simp; omega, h.gS, h.nA, h.nB⟩
theorem DPut.drew (h : DPut w S B g A1 n1 c1 xs A2 n2 c2 ys p wr) : DPut w S B g A1 n1 c1 xs A2 n2 c2 ys p wr.drew :=
  ⟨h.q.drew, h.r.drew, h.a.drew, h.b.drew, h.rd.drew, h.bl.drew, h.sz, h.gS, h.nA, h.nB⟩
theorem DPut.picked (h : DPut w S B g A1 n1 c1 xs A2 n2 c2 ys p wr) (hr : Rdr w1 B g (p + 1)) (hg : wr.grownBy w1 (some g)) (hb : Below g wr w1) : DPut w S B g A1 n1 c1 xs A2 n2 c2 ys (p + 1) w1 := by
  have hgS := h.gS
  exact ⟨h.q.grown hg (fun e => by injection e with e; omega), h.r.grown hg (fun e => by injection e with e; omega), h.a.kept hg (fun k hk e => h.nA (by rw [hk, e])), h.b.kept hg (fun k hk e => h.nB (by rw [hk, e])), hr,
    h.bl.trans (hb.mono (by omega)), Nat.lt_of_lt_of_le h.sz hg.size, h.gS, h.nA, h.nB⟩
/-- A pick, the state carried on. -/
def PickD (w : World) (S B g : Nat) (A1 : Option Addr) (n1 c1 : Nat) (xs : List Int) (A2 : Option Addr) (n2 c2 : Nat) (ys : List Int) (p n : Int) (w0 : World) (e : Ending) (w1 : World) : Prop :=
  ∃ m : Nat, e = .returned (.int .i64 m) ∧ (m : Int) < n ∧ DPut w S B g A1 n1 c1 xs A2 n2 c2 ys (p + 1) w1 ∧ w0.grownBy w1 (some g)
theorem pickD (h : DPut w S B g A1 n1 c1 xs A2 n2 c2 ys p wr) (n : Int) (hp0 : 0 ≤ p) (hp1 : p ≤ 1073741824) (hn1 : 1 ≤ n) (hn : n ≤ 1048576) :
    Calls Try.prog 13 #[.pointer (some ⟨g, 0, none⟩), .int .i64 n] wr (PickD w S B g A1 n1 c1 xs A2 n2 c2 ys p n wr) := by
  refine (pick_pos B g p n wr h.rd hp0 hp1 hn1 hn).mono ?_
  rintro e w1 ⟨v, rfl, h0, h1, hr, hg, _, hb⟩
  obtain ⟨m, rfl⟩ := Int.eq_ofNat_of_zero_le h0
  exact ⟨m, rfl, h1, h.picked hr hg hb, hg⟩
theorem DPut.finish (h : DPut w S B g A1 n1 c1 xs A2 n2 c2 ys p wr) (hn1 : n1 ≤ 21) (hn2 : n2 ≤ 21) (x : Int) :
    DrewQI w (.returned (.tuple #[.agg #[.slice A1 n1 c1, .slice A2 n2 c2], .int .i64 x])) ((wr.setCell ⟨w.heap.size, 0, none⟩ (.slice A1 n1 c1)).setCell ⟨w.heap.size, 1, none⟩ (.slice A2 n2 c2)) :=
  ⟨A1, n1, c1, A2, n2, c2, xs, ys, x, rfl, ((h.a.setBelow (by first | omega | (simp; done) | (simp; omega)) _).setBelow (by first | omega | (simp; done) | (simp; omega)) _).mono (by first | omega | (simp; done) | (simp; omega)), ((h.b.setBelow (by first | omega | (simp; done) | (simp; omega)) _).setBelow (by first | omega | (simp; done) | (simp; omega)) _).mono (by first | omega | (simp; done) | (simp; omega)), hn1, hn2, (h.bl.setCell (by first | omega | (simp; done) | (simp; omega)) _).setCell (by first | omega | (simp; done) | (simp; omega)) _⟩
theorem DPut.finishA (h : DPut w S B g A1 n1 c1 xs A2 n2 c2 ys p wr) (hn1 : n1 ≤ 21) (hn2 : n2 ≤ 21) (x : Int) (o : Obj) :
    DrewQI w (.returned (.tuple #[.agg #[.slice A1 n1 c1, .slice A2 n2 c2], .int .i64 x])) (((wr.setCell ⟨w.heap.size, 0, none⟩ (.slice A1 n1 c1)).setCell ⟨w.heap.size, 1, none⟩ (.slice A2 n2 c2)).alloc o) :=
  ⟨A1, n1, c1, A2, n2, c2, xs, ys, x, rfl, (((h.a.setBelow (by first | omega | (simp; done) | (simp; omega)) _).setBelow (by first | omega | (simp; done) | (simp; omega)) _).alloc _).mono (by first | omega | (simp; done) | (simp; omega)), (((h.b.setBelow (by first | omega | (simp; done) | (simp; omega)) _).setBelow (by first | omega | (simp; done) | (simp; omega)) _).alloc _).mono (by first | omega | (simp; done) | (simp; omega)), hn1, hn2, ((h.bl.setCell (by first | omega | (simp; done) | (simp; omega)) _).setCell (by first | omega | (simp; done) | (simp; omega)) _).alloc (by have := h.bl.size; simpa using this) _⟩
end

set_option maxHeartbeats 40000000 in
theorem drawQueuePut_any (A : Option Addr) (n c : Nat) (bs : List Int) (w : World) (hb : Bytes w w.heap.size A n bs) (hn : n ≤ 1048576) (hc : n ≤ c) (hc' : c ≤ 9223372036854775807) :
    Calls Try.prog 4 #[.slice A n c] w (DrewQI w) := by
  go_enter Try.func4, Try.ntmps4
  go_wp2_with fail
  refine (open_any _ _ _ _ _ (hb.up _) hn hc hc').mono ?_
  rintro e w0 ⟨g, rfl, hr0, hg0, hb0⟩
  go_wp2_with fail
  refine (l92Queue_any _ _ _ _ hr0 (by omega) (by omega)).mono ?_
  rintro e w1 ⟨A1, n1, c1, A2, n2, c2, xs, ys, p', rfl, ho1, ho2, hn1, hn2, hr1, hp1, hp2, hgr, hbl⟩
  have hge : w.heap.size + 1 ≤ g := by have := hr0.lt; simpa using this.2
  have hb0s := hb0.size
  simp at hb0s
  have hgl := hr1.lt.1
  have hD : DPut w w1.heap.size (w.alloc (.cells #[.slice none 0 0, .slice none 0 0] 25)).heap.size g A1 n1 c1 xs A2 n2 c2 ys p' (w1.alloc (.cells #[.slice A1 n1 c1, .slice A2 n2 c2] 25)) := by
    have hB1 : Below w.heap.size w w1 := (by repeat' (first | with_reducible exact Below.refl _ _ | with_reducible assumption | with_reducible refine Below.setCell ?_ (by first | omega | (simp; done) | (simp; omega)) _ | with_reducible refine Below.alloc ?_ (by first | omega | (simp; done) | (simp; omega)) _ | with_reducible refine below_drewN ?_ _ | with_reducible refine Below.drew ?_ | (with_reducible refine Below.trans ?_ (Below.mono (by with_reducible assumption) (by first | omega | (simp; done) | (simp; omega))))))
    have z1 := hB1.size
    exact ⟨Blk.new _ _ _, (((Blk.new w _ _).below hb0 (by simp)).below hbl (by omega)).alloc _, (ho1.mono (by omega)).alloc _, (ho2.mono (by omega)).alloc _, hr1.alloc _, hB1.alloc z1 _, by simp, ⟨by omega, hgl⟩,
      fun e => by have := ho1.lt e; omega, fun e => by have := ho2.lt e; omega⟩
  clear hb0 hbl hgr hr0 hg0 ho1 ho2 hr1
  have f0 := hD.q.two
  have z0 := hD.sz
  have hgS := hD.gS
  go_wp2_with fail
  clear hgl hge hb0s
  go_region_law (first
    | (refine step_calls 13 #[.pointer (some ⟨g, 0, none⟩), .int .i64 250] rfl (by simp [go_sem, Act.eval, Act.put]) ?_; refine (pickD hD.drew 250 (by omega) (by omega) (by omega) (by omega)).mono ?_; rintro e w2 ⟨v1, rfl, hv1, h1, hg1⟩; refine ⟨_, rfl, ?_⟩; have f1 := h1.q.two; have z1 := h1.sz; clear hg1)
    | (refine step_calls 13 #[.pointer (some ⟨g, 0, none⟩), .int .i64 250] rfl (by simp [go_sem, Act.eval]) ?_; refine (pickD h1 250 (by omega) (by omega) (by omega) (by omega)).mono ?_; rintro e w3 ⟨v2, rfl, hv2, h2, hg2⟩; refine ⟨_, rfl, ?_⟩; have f2 := h2.q.two; have z2 := h2.sz; clear hg2)
    | (refine step_calls 13 #[.pointer (some ⟨g, 0, none⟩), .int .i64 250] rfl (by simp [go_sem, Act.eval]) ?_; refine (pickD h2 250 (by omega) (by omega) (by omega) (by omega)).mono ?_; rintro e w4 ⟨v3, rfl, hv3, h3, hg3⟩; refine ⟨_, rfl, ?_⟩; have f3 := h3.q.two; have z3 := h3.sz; clear hg3)
    | (refine step_calls 13 #[.pointer (some ⟨g, 0, none⟩), .int .i64 250] rfl (by simp [go_sem, Act.eval]) ?_; refine (pickD h3 250 (by omega) (by omega) (by omega) (by omega)).mono ?_; rintro e w5 ⟨v4, rfl, hv4, h4, hg4⟩; refine ⟨_, rfl, ?_⟩; have f4 := h4.q.two; have z4 := h4.sz; clear hg4)
    | (refine step_calls 13 #[.pointer (some ⟨g, 0, none⟩), .int .i64 7] rfl (by simp [go_sem, Act.eval]) ?_; refine (pickD h4 7 (by omega) (by omega) (by omega) (by omega)).mono ?_; rintro e w6 ⟨m, rfl, hm, h5, hg5⟩; refine ⟨_, rfl, ?_⟩; have h6 := h5.alloc (.cells #[.int .i64 (-1), .int .i64 999, .int .i64 1000, .int .i64 v1, .int .i64 v2, .int .i64 v3, .int .i64 v4] 3); obtain ⟨x, hx1, hx2, hx3⟩ := lit7 _ _ m _ _ _ _ _ _ _ (by omega) (Blk.new w6 3 #[.int .i64 (-1), .int .i64 999, .int .i64 1000, .int .i64 v1, .int .i64 v2, .int .i64 v3, .int .i64 v4]); have f5 := h5.q.two; have f6 := h6.q.two; have r6 := h6.r.two; have l6 := h6.r.lt; have hr5 := h5.r.lt; have r5 := h5.r.two; have z5 := h5.sz; clear hg5)
    | (refine step_calls 13 #[.pointer (some ⟨g, 0, none⟩), .int .i64 7] rfl (by simp [go_sem, Act.eval]) ?_; refine (pickD (h4.alloc _) 7 (by omega) (by omega) (by omega) (by omega)).mono ?_; rintro e w6 ⟨m, rfl, hm, h6, hg5⟩; refine ⟨_, rfl, ?_⟩; obtain ⟨x, hx1, hx2, hx3⟩ := lit7 _ _ m _ _ _ _ _ _ _ (by omega) (Blk.grown (Blk.new w5 3 #[.int .i64 (-1), .int .i64 999, .int .i64 1000, .int .i64 v1, .int .i64 v2, .int .i64 v3, .int .i64 v4]) hg5 (fun e => by injection e with e; omega)); have f6 := h6.q.two; have r6 := h6.r.two; have l6 := h6.r.lt; have z6 := h6.sz; clear hg5))
  all_goals
    clear f0 f1 f2 f3 f4
    go_wp2_with fail
    exact bodyPost_ret (v := .tuple #[.agg #[.slice A1 n1 c1, .slice A2 n2 c2], .int .i64 x]) (by simp [results, Try.results4, go_sem, *]) rfl (by first | exact h6.finish hn1 hn2 x | exact h5.finishA hn1 hn2 x _)
end Go.Proofs.Ytclajknghfnhcaa
