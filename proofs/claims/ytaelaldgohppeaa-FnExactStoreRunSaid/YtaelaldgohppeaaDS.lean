/-
  The drawn state: whatever the code, a short list of ints in memory of its own.
-/
import Derived.Test.YtaelaldgohppeaaRd
import Derived.Test.YtaelaldgohppeaaK
import Derived.Deep.RegionHeld3
import Derived.IntWalk
namespace Go.Proofs.Ytaelaldgohppeaa
open Go.RowKit
set_option linter.unusedVariables false

theorem Own.take {w : World} {b n c : Nat} {A : Option Addr} {xs : List Int} (h : Own w b A n c xs) {k : Nat} (hk : k ≤ n) : Own w b A k c (xs.take k) := by
  obtain ⟨h1, h2⟩ := h
  have hl : xs.length = n := by simpa [iv] using h1
  refine ⟨by simp [iv]; omega, ?_⟩
  rcases h2 with ⟨hv, hn⟩ | ⟨g, cap, cur, hv, hg, hh, hnc, hcm, hsz, ht⟩
  · injection hv with hA hn' hc
    obtain rfl : k = 0 := by omega
    subst hA; subst hc
    exact .inl ⟨rfl, rfl⟩
  · injection hv with hA hn' hc
    subst hA; subst hc
    refine .inr ⟨g, _, cur, rfl, hg, hh, by omega, hcm, hsz, ?_⟩
    simp only [iv, Nat.mul_one] at ht ⊢
    rw [List.map_take, ← ht, List.take_take, Nat.min_eq_left hk]

/-- What stands in memory while a list is drawn. -/
structure DS (w : World) (B g : Nat) (p : Int) (wr : World) (A2 : Option Addr) (n2 c2 : Nat) (xs : List Int) (p' : Int) : Prop where
  a : Own wr w.heap.size A2 n2 c2 xs
  rd : Rdr wr B g p'
  gl : g < w.heap.size
  p0 : p ≤ p'
  gr : w.grownBy wr (some g)
  bl : Below g w wr
/-- What drawing a state leaves. -/
def DrewS (p : Int) (B g m : Nat) (w : World) (e : Ending) (w' : World) : Prop :=
  ∃ A n c xs p', e = .returned (.slice A n c) ∧ Own w' w.heap.size A n c xs ∧ n ≤ m ∧ Rdr w' B g p' ∧ p ≤ p' ∧ p' ≤ p + 100 ∧ w.grownBy w' (some g) ∧ Below g w w'
section
variable {w wr w1 w3 : World} {B g g' n2 c2 c3 : Nat} {p p' p'' : Int} {A2 A3 : Option Addr} {xs ys : List Int} {v : Int}
theorem DS.picked (h : DS w B g p wr A2 n2 c2 xs p') (hr : Rdr w1 B g (p' + 1)) (hg : wr.grownBy w1 (some g)) (hb : Below g wr w1) : DS w B g p w1 A2 n2 c2 xs (p' + 1) := by
  have hgl := h.gl
  exact ⟨h.a.kept hg (fun k hk e => by injection e with e; have := h.a.lt hk; omega), hr, hgl, by have := h.p0; omega, grown_trans' h.gr hg (fun k hk => .inl hk), h.bl.trans hb⟩
theorem DS.app (h : DS w B g p w1 A2 n2 c2 xs p') (hg : w1.grownBy w3 (blk A2)) (ho : Own w3 w.heap.size A3 (n2 + 1) c3 (xs ++ [v])) : DS w B g p w3 A3 (n2 + 1) c3 (xs ++ [v]) p' := by
  have hgl := h.gl
  have hrow : ∀ k, blk A2 = some k → w.heap.size ≤ k := fun k hk => (h.a.lt hk).1
  exact ⟨ho, h.rd.grown hg (fun k hk => by have := hrow k hk; omega), hgl, h.p0, grown_trans' h.gr hg (fun k hk => .inr (hrow k hk)), h.bl.grown hg (by have := h.rd.lt; omega) (fun k hk => by have := hrow k hk; omega)⟩
theorem DS.alloc (h : DS w B g p wr A2 n2 c2 xs p') (o : Obj) : DS w B g p (wr.alloc o) A2 n2 c2 xs p' :=
  ⟨h.a.alloc o, h.rd.alloc o, h.gl, h.p0, grown_trans' h.gr (World.grownBy_alloc wr o none) (by simp), h.bl.alloc (by have := h.rd.lt; omega) o⟩
theorem DS.drew (h : DS w B g p wr A2 n2 c2 xs p') : DS w B g p wr.drew A2 n2 c2 xs p' :=
  ⟨h.a, h.rd, h.gl, h.p0, ⟨h.gr.os, h.gr.tape, h.gr.output, h.gr.size, h.gr.block⟩, h.bl.drew⟩
theorem DS.drewN (h : DS w B g p wr A2 n2 c2 xs p') (d : Nat) : DS w B g p (wr.drewN d) A2 n2 c2 xs p' :=
  ⟨h.a, h.rd, h.gl, h.p0, ⟨h.gr.os, h.gr.tape, h.gr.output, h.gr.size, h.gr.block⟩, below_drewN h.bl d⟩
theorem DS.set (h : DS w B g p wr (some ⟨g', 0, none⟩) n2 c2 xs p') (k : Nat) (x : Int) : DS w B g p (wr.setCell ⟨g', k, none⟩ (.int .i64 x)) (some ⟨g', 0, none⟩) n2 c2 (xs.set k x) p' := by
  have hgl := h.gl
  have hb := (h.a.lt (k := g') rfl).1
  exact ⟨h.a.stored k x, h.rd.setCell (by simp; omega) _, hgl, h.p0, only_set h.gr (by simpa using hb) _, h.bl.setCell (by simp; omega) _⟩
theorem DS.start (hr : Rdr w B g p) : DS w B g p (w.alloc (.cells #[] 3)) (some ⟨w.heap.size, 0, none⟩) 0 0 [] p := by
  obtain ⟨hgl, hB⟩ := hr.lt
  exact ⟨by (refine Own.lit0 ?_ ?_ <;> first | omega | (simp; done) | (simp; omega)), hr.alloc _, hgl, by omega, World.grownBy_alloc w _ (some g), (Below.refl g w).alloc (by omega) _⟩
theorem DS.fin (h : DS w B g p wr A2 n2 c2 xs p') {m : Nat} (hn : n2 ≤ m) (hp : p' ≤ p + 100) : DrewS p B g m w (.returned (.slice A2 n2 c2)) wr :=
  ⟨A2, n2, c2, xs, p', rfl, h.a, hn, h.rd, h.p0, hp, h.gr, h.bl⟩
end
theorem lit3 (wx : World) (gx m : Nat) (a b c : Int) (hm : m < 3) (hb : Blk wx gx 3 #[.int .i64 a, .int .i64 b, .int .i64 c]) : ∃ x : Int, wx.cell? ⟨gx, m, none⟩ = some (.int .i64 x) ∧ wx.frozen? ⟨gx, m, none⟩ = false := by
  have : ∃ x : Int, (#[.int .i64 a, .int .i64 b, .int .i64 c] : Array Value)[m]? = some (.int .i64 x) := by
    rcases (by omega : m = 0 ∨ m = 1 ∨ m = 2) with rfl | rfl | rfl
    · exact ⟨a, rfl⟩
    · exact ⟨b, rfl⟩
    · exact ⟨c, rfl⟩
  obtain ⟨x, hx⟩ := this
  exact ⟨x, (hb.cell m).trans hx, hb.frozen m⟩
set_option maxHeartbeats 8000000 in
theorem l92State_any (B g : Nat) (p : Int) (w : World) (hr : Rdr w B g p) (hp0 : 0 ≤ p) (hp1 : p ≤ 1048576) :
    Calls Try.prog 73 #[.pointer (some ⟨g, 0, none⟩)] w (DrewS p B g 15 w) := by
  have h0 := DS.start hr
  go_enter Try.func73, Try.ntmps73
  go_wp2_with fail
  go_loopw [3, 4] (fun s i wr => ∃ (k : Nat) (A2 : Option Addr) (c2 : Nat) (xs : List Int), k ≤ 15 ∧ i = .int .i64 k ∧ s = .slice A2 k c2 ∧ DS w B g p wr A2 k c2 xs (p + 2 * (k : Int))) (fun _ i _ => 15 - (intOf i).toNat)
  case atStart => exact ⟨0, _, _, _, by omega, rfl, rfl, by simpa using h0⟩
  case round =>
    clear h0
    obtain ⟨k, A2, c2, xs, hk, rfl, rfl, h⟩ := hrel
    by_cases hlt : k < 15
    · go_wp2_with fail
      refine (pick_pos B g _ _ _ h.rd (by omega) (by omega) (by omega) (by omega)).mono ?_
      rintro e w3 ⟨u, rfl, hu0, hu1, hr3, hg3, hs3, hb3⟩
      have h3 := h.picked hr3 hg3 hb3
      clear h hr3 hg3 hb3 hs3
      go_wp2_with fail
      refine (pick_pos B g _ _ _ h3.rd (by omega) (by omega) (by omega) (by omega)).mono ?_
      rintro e w4 ⟨v, rfl, hv0, hv1, hr4, hg4, hs4, hb4⟩
      have h4 := h3.picked hr4 hg4 hb4
      clear h3 hr4 hg4 hb4 hs4
      go_wp2_with (at_builtin; refine app1 rfl _ _ rfl w.heap.size rfl (h4.alloc _).a _ _ _ _ [_] rfl (Ints.one' _ (by first | omega | (simp; done) | (simp; omega))) (by omega) (by have := h4.gr.size; simp; omega) ?_; intro A3 c3 w5 o5 hg5 at5; have h5 := (h4.alloc _).app hg5 o5)
      go_roundw
      case rel => exact ⟨k + 1, A3, c3, _, by omega, by go_num, rfl, by rw [show p + 2 * ((k + 1 : Nat) : Int) = p + 2 * (k : Int) + 1 + 1 by omega]; exact h5⟩
      case measure => simp [intOf]; omega
    · obtain rfl : k = 15 := by omega
      go_wp2_with fail
      refine (pick_pos B g _ _ _ h.rd (by omega) (by omega) (by omega) (by omega)).mono ?_
      rintro e w3 ⟨u, rfl, hu0, hu1, hr3, hg3, hs3, hb3⟩
      have h3 := h.picked hr3 hg3 hb3
      clear h hr3 hg3 hb3 hs3
      cases hu : (u == 0)
      · cases hu' : (u == 1)
        · go_wp2
          go_ret
          exact h3.fin (by omega) (by omega)
        · go_wp2_with fail
          refine (pick_pos B g _ _ _ h3.rd (by omega) (by omega) (by omega) (by omega)).mono ?_
          rintro e w4 ⟨v, rfl, hv0, hv1, hr4, hg4, hs4, hb4⟩
          obtain ⟨m, rfl⟩ := Int.eq_ofNat_of_zero_le hv0
          have h4 := h3.picked hr4 hg4 hb4
          have hcap := h4.a.cap
          clear h3 hr4 hg4 hb4 hs4
          go_wp2
          go_ret
          exact ⟨A2, m, c2, _, _, rfl, h4.a.take (by omega), by omega, h4.rd, h4.p0, by omega, h4.gr, h4.bl⟩
      · go_wp2_with fail
        refine (pick_pos B g _ _ _ h3.rd (by omega) (by omega) (by omega) (by omega)).mono ?_
        rintro e w4 ⟨i, rfl, hi0, hi1, hr4, hg4, hs4, hb4⟩
        obtain ⟨m, rfl⟩ := Int.eq_ofNat_of_zero_le hi0
        have h4 := (h3.picked hr4 hg4 hb4).alloc (.cells #[.int .i64 (-1), .int .i64 999, .int .i64 1000] 3)
        have l4 := Blk.new w4 3 #[.int .i64 (-1), .int .i64 999, .int .i64 1000]
        have hgw := hr4.lt.1
        clear h3 hr4 hg4 hb4 hs4
        go_wp2_with fail
        refine (pick_pos B g _ _ _ h4.rd (by omega) (by omega) (by omega) (by omega)).mono ?_
        rintro e w5 ⟨v, rfl, hv0, hv1, hr5, hg5, hs5, hb5⟩
        obtain ⟨j, rfl⟩ := Int.eq_ofNat_of_zero_le hv0
        have h5 := h4.picked hr5 hg5 hb5
        have l5 := Blk.grown l4 hg5 (fun e => by injection e with e; omega)
        obtain ⟨x, hx1, hx2⟩ := lit3 _ _ j _ _ _ (by omega) l5
        obtain ⟨g', rfl, hg1, hg2⟩ := h5.a.form (by omega)
        have hc := h5.a.cellAt (k := m) (by omega)
        have l5 := l5.lt
        clear h4 hr5 hg5 hb5 hs5 l4
        go_wp2
        go_ret
        exact (h5.set m x).fin (by omega) (by omega)
end Go.Proofs.Ytaelaldgohppeaa
