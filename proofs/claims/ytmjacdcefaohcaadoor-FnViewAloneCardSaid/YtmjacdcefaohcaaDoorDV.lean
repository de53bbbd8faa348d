/-
  The drawn view: whatever the code, a number and a short list of ints in memory of its own.
-/
import Derived.Test.YtmjacdcefaohcaaDoorRd
import Derived.Test.YtmjacdcefaohcaaDoorVK
namespace Go.Proofs.YtmjacdcefaohcaaDoor
open Go.RowKit
set_option linter.unusedVariables false

/-- What drawing a view leaves. -/
def DrewV (p : Int) (B g : Nat) (w : World) (e : Ending) (w' : World) : Prop :=
  ∃ q A n c xs p', e = .returned (.agg #[.int .i64 q, .slice A n c]) ∧ Own w' w.heap.size A n c xs ∧ n ≤ 9 ∧ Rdr w' B g p' ∧ p ≤ p' ∧ p' ≤ p + 20 ∧ w.grownBy w' (some g) ∧ Below g w w'

/-- What stands in memory while a view is drawn. -/
structure DV (w : World) (B g : Nat) (p : Int) (wr : World) (S : Nat) (q : Int) (A2 : Option Addr) (n2 c2 : Nat) (xs : List Int) (p' : Int) : Prop where
  q : Blk wr S 25 #[.int .i64 q, .slice A2 n2 c2]
  r : Blk wr w.heap.size 25 #[.int .i64 0, .slice none 0 0]
  a : Own wr (w.heap.size + 1) A2 n2 c2 xs
  rd : Rdr wr B g p'
  gl : g < w.heap.size
  p0 : p ≤ p'
  gr : w.grownBy wr (some g)
  bl : Below g w wr
  sz : S < wr.heap.size
  hS : w.heap.size < S

section
variable {w wr w1 w3 : World} {B g S n2 c2 c3 : Nat} {p p' q : Int} {A2 A3 : Option Addr} {xs : List Int} {v : Int}
theorem DV.picked (h : DV w B g p wr S q A2 n2 c2 xs p') (hr : Rdr w1 B g (p' + 1)) (hg : wr.grownBy w1 (some g)) (hb : Below g wr w1) : DV w B g p w1 S q A2 n2 c2 xs (p' + 1) := by
  have hgl := h.gl
  have hS := h.hS
  refine ⟨h.q.grown hg (fun e => by injection e with e; omega), h.r.grown hg (fun e => by injection e with e; omega), h.a.kept hg (fun k hk e => by injection e with e; have := h.a.lt hk; omega),
    hr, hgl, by have := h.p0; omega, grown_trans' h.gr hg (fun k hk => .inl hk), h.bl.trans hb, Nat.lt_of_lt_of_le h.sz hg.size, hS⟩
theorem DV.add (h : DV w B g p w1 S q A2 n2 c2 xs p') (hg : (w1.alloc (.cells #[.int .i64 v] 3)).grownBy w3 (blk A2)) (ho : Own w3 (w.heap.size + 1) A3 (n2 + 1) c3 (xs ++ [v])) :
    DV w B g p (w3.setCell ⟨S, 1, none⟩ (.slice A3 (n2 + 1) c3)) S q A3 (n2 + 1) c3 (xs ++ [v]) p' := by
  have hgl := h.gl
  have hsz := h.sz
  have hS := h.hS
  have hq3 : Blk w3 S 25 #[.int .i64 q, .slice A2 n2 c2] := Blk.grown (h.q.alloc _) hg (fun e => own_ne_blk h.a h.q (by decide) e.symm)
  have hr3 : Blk w3 w.heap.size 25 #[.int .i64 0, .slice none 0 0] := Blk.grown (h.r.alloc _) hg (fun e => own_ne_blk h.a h.r (by decide) e.symm)
  have hrow : ∀ k, blk A2 = some k → w.heap.size ≤ k := fun k hk => by have := h.a.lt hk; omega
  have hs3 := hg.size
  simp at hs3
  refine ⟨hq3.set_ 1 _, hr3.far (by simp; omega) _, ho.setCell (fun k hk e => own_ne_blk ho hq3 (by decide) (by rw [hk]; simp at e; rw [e])) _, ?_, hgl, h.p0, ?_, ?_, by simp; omega, hS⟩
  · exact ((h.rd.alloc _).grown hg (fun k hk => by have := hrow k hk; omega)).setCell (by simp; omega) _
  · exact only_set (grown_trans' (grown_trans' h.gr (World.grownBy_alloc w1 _ none) (by simp)) hg (fun k hk => .inr (hrow k hk))) (by simp; omega) _
  · exact ((h.bl.alloc (by have := h.rd.lt; omega) _).grown hg (by have := h.rd.lt; simp; omega) (fun k hk => by have := hrow k hk; omega)).setCell (by simp; omega) _
theorem DV.setQ (h : DV w B g p wr S q A2 n2 c2 xs p') (x : Int) : DV w B g p (wr.setCell ⟨S, 0, none⟩ (.int .i64 x)) S x A2 n2 c2 xs p' := by
  have hgl := h.gl
  have hS := h.hS
  exact ⟨h.q.set_ 0 _, h.r.far (by simp; omega) _, h.a.setCell (fun k hk e => own_ne_blk h.a h.q (by decide) (by rw [hk]; simp at e; rw [e])) _, h.rd.setCell (by simp; omega) _, hgl, h.p0, only_set h.gr (by simp; omega) _, h.bl.setCell (by simp; omega) _, by have := h.sz; simpa using this, hS⟩
theorem DV.alloc (h : DV w B g p wr S q A2 n2 c2 xs p') (o : Obj) : DV w B g p (wr.alloc o) S q A2 n2 c2 xs p' :=
  ⟨h.q.alloc o, h.r.alloc o, h.a.alloc o, h.rd.alloc o, h.gl, h.p0, grown_trans' h.gr (World.grownBy_alloc wr o none) (by simp), h.bl.alloc (by have := h.rd.lt; omega) o, by have := h.sz; simp; omega, h.hS⟩
theorem DV.drew (h : DV w B g p wr S q A2 n2 c2 xs p') : DV w B g p wr.drew S q A2 n2 c2 xs p' :=
  ⟨h.q, h.r, h.a, h.rd, h.gl, h.p0, ⟨h.gr.os, h.gr.tape, h.gr.output, h.gr.size, h.gr.block⟩, h.bl.drew, h.sz, h.hS⟩
theorem DV.start (hr : Rdr w B g p) (hr1 : Rdr w1 B g (p + 1)) (hg1 : (w.alloc (.cells #[.int .i64 0, .slice none 0 0] 25)).grownBy w1 (some g)) (hs1 : w1.heap.size = w.heap.size + 1)
    (hb1 : Below g (w.alloc (.cells #[.int .i64 0, .slice none 0 0] 25)) w1) :
    DV w B g p ((w1.alloc (.cells #[] 3)).alloc (.cells #[.int .i64 v, .slice (some ⟨w1.heap.size, 0, none⟩) 0 0] 25)) (w1.heap.size + 1) v (some ⟨w1.heap.size, 0, none⟩) 0 0 [] (p + 1) := by
  obtain ⟨hgl, hB⟩ := hr.lt
  have hq := Blk.new (w1.alloc (.cells #[] 3)) 25 #[.int .i64 v, .slice (some ⟨w1.heap.size, 0, none⟩) 0 0]
  simp only [World.size_alloc] at hq
  refine ⟨hq, (((Blk.new w _ _).grown hg1 (fun e => by injection e with e; omega)).alloc _).alloc _, Own.alloc (by (refine Own.lit0 ?_ ?_ <;> first | omega | (simp; done) | (simp; omega))) _, (hr1.alloc _).alloc _, hgl, by omega, ?_, ?_, by simp, by omega⟩
  · exact grown_trans' (grown_trans' (grown_trans' (World.grownBy_alloc w _ (some g)) hg1 (fun k hk => .inl hk)) (World.grownBy_alloc _ _ none) (by simp)) (World.grownBy_alloc _ _ none) (by simp)
  · have h1 : Below g w w1 := ((Below.refl g w).alloc (by omega) _).trans hb1
    exact (h1.alloc (by omega) _).alloc (by simp; omega) _
theorem DV.finish (h : DV w B g p wr S q A2 n2 c2 xs p') (hn : n2 ≤ 9) (hp : p' ≤ p + 20) :
    DrewV p B g w (.returned (.agg #[.int .i64 q, .slice A2 n2 c2])) ((wr.setCell ⟨w.heap.size, 0, none⟩ (.int .i64 q)).setCell ⟨w.heap.size, 1, none⟩ (.slice A2 n2 c2)) := by
  have hgl := h.gl
  exact ⟨q, A2, n2, c2, xs, p', rfl, ((h.a.setBelow (by first | omega | (simp; done) | (simp; omega)) _).setBelow (by first | omega | (simp; done) | (simp; omega)) _).mono (by first | omega | (simp; done) | (simp; omega)), hn, (h.rd.setCell (by simpa using hgl) _).setCell (by simpa using hgl) _, h.p0, hp,
    only_set (only_set h.gr (by first | omega | (simp; done) | (simp; omega)) _) (by first | omega | (simp; done) | (simp; omega)) _, (h.bl.setCell (by simp; omega) _).setCell (by simp; omega) _⟩
end
theorem lit4 (wx : World) (gx m : Nat) (a b c d : Int) (hm : m < 4) (hb : Blk wx gx 3 #[.int .i64 a, .int .i64 b, .int .i64 c, .int .i64 d]) : ∃ x : Int, wx.cell? ⟨gx, m, none⟩ = some (.int .i64 x) ∧ wx.frozen? ⟨gx, m, none⟩ = false := by
  have : ∃ x : Int, (#[.int .i64 a, .int .i64 b, .int .i64 c, .int .i64 d] : Array Value)[m]? = some (.int .i64 x) := by
    rcases (by omega : m = 0 ∨ m = 1 ∨ m = 2 ∨ m = 3) with rfl | rfl | rfl | rfl
    · exact ⟨a, rfl⟩
    · exact ⟨b, rfl⟩
    · exact ⟨c, rfl⟩
    · exact ⟨d, rfl⟩
  obtain ⟨x, hx⟩ := this
  exact ⟨x, (hb.cell m).trans hx, hb.frozen m⟩

set_option maxHeartbeats 8000000 in
theorem l92View_any (B g : Nat) (p : Int) (w : World) (hr : Rdr w B g p) (hp0 : 0 ≤ p) (hp1 : p ≤ 1048576) :
    Calls Tryd.prog 40 #[.pointer (some ⟨g, 0, none⟩)] w (DrewV p B g w) := by
  have hgl := hr.lt
  obtain ⟨hgl, hBg⟩ := hgl
  go_enter Tryd.func40, Tryd.ntmps40
  go_wp2_with fail
  refine (pick_pos B g p _ _ (hr.alloc _) (by omega) (by omega) (by omega) (by omega)).mono ?_
  rintro e w1 ⟨v1, rfl, hv1, hv1', hr1, hg1, hs1, hb1⟩
  simp at hs1
  have h1 := DV.start (v := v1) hr hr1 hg1 hs1 hb1
  rw [hs1] at h1
  clear hr1 hg1 hb1 hr
  go_wp2_with fail
  go_loopw [4] (fun i wr => ∃ (k : Nat) (A2 : Option Addr) (n2 c2 : Nat) (xs : List Int), k ≤ 8 ∧ i = .int .i64 k ∧ n2 ≤ k ∧ DV w B g p wr (w.heap.size + 1 + 1) v1 A2 n2 c2 xs (p + 1 + k)) (fun i _ => 8 - (intOf i).toNat)
  case atStart => exact ⟨0, _, 0, _, _, by omega, rfl, by omega, by simpa using h1⟩
  case round =>
    clear h1
    obtain ⟨k, A2, n2, c2, xs, hk, rfl, hn2, h⟩ := hrel
    by_cases hlt : k < 8
    · go_wp2_with fail
      refine (pick_pos B g _ _ _ h.rd (by omega) (by omega) (by omega) (by omega)).mono ?_
      rintro e w3 ⟨u, rfl, hu0, hu1, hr3, hg3, hs3, hb3⟩
      have h3 := h.picked hr3 hg3 hb3
      clear h hr3 hg3 hb3 hs3
      have f3 := h3.q.two
      have z3 := h3.sz
      cases hu : (u == 0)
      · go_wp2
        go_roundw
        case rel => exact ⟨k + 1, A2, n2, c2, xs, by omega, by go_num, by omega, by rw [show p + 1 + ((k + 1 : Nat) : Int) = p + 1 + (k : Int) + 1 by omega]; exact h3⟩
        case measure => simp [intOf]; omega
      · go_wp2_with (at_builtin; refine app1 rfl _ _ rfl (w.heap.size + 1) rfl (h3.a.alloc _) _ _ _ _ [_] rfl (Ints.one' _ (by first | omega | (simp; done) | (simp; omega))) (by omega) (by have := h3.sz; have := h3.hS; simp; omega) ?_; intro A3 c3 w4 o4 hg4 at4; have f4 := (Blk.grown (h3.q.alloc _) hg4 (fun e => own_ne_blk h3.a h3.q (by decide) e.symm)).two; have h4 := h3.add hg4 o4)
        go_roundw
        case rel => exact ⟨k + 1, A3, n2 + 1, c3, _, by omega, by go_num, by omega, by rw [show p + 1 + ((k + 1 : Nat) : Int) = p + 1 + (k : Int) + 1 by omega]; exact h4⟩
        case measure => simp [intOf]; omega
    · have hk8 : k = 8 := by omega
      subst hk8
      go_wp2_with fail
      refine (pick_pos B g _ _ _ h.rd (by omega) (by omega) (by omega) (by omega)).mono ?_
      rintro e w3 ⟨u, rfl, hu0, hu1, hr3, hg3, hs3, hb3⟩
      have h3 := h.picked hr3 hg3 hb3
      clear h hr3 hg3 hb3 hs3
      have f3 := h3.q.two
      have r3 := h3.r.two
      have z3 := h3.sz
      have hS := h3.hS
      cases hu : (u == 0)
      · cases hu1 : (u == 1)
        · go_wp2_with fail
          exact bodyPost_ret (v := .agg #[.int .i64 v1, .slice A2 n2 c2]) (by simp [results, Tryd.results40, go_sem, r3]) rfl (h3.finish (by omega) (by omega))
        · go_wp2_with fail
          go_region_law (first
            | (refine step_calls 50 #[.pointer (some ⟨g, 0, none⟩), .int .i64 10] rfl (by simp [go_sem, Act.eval, Act.put]) ?_; refine (pick_pos B g _ 10 _ (h3.rd.drew) (by omega) (by omega) (by omega) (by omega)).mono ?_; rintro e w5 ⟨v, rfl, hv0, hv1, hr5, hg5, hs5, hb5⟩; refine ⟨_, rfl, ?_⟩; have h5 := h3.drew.picked hr5 hg5 hb5; have f5 := h5.q.two; have z5 := h5.sz; clear hs5)
            | (refine step_app1 rfl (.tmp 35) (.tmp 39) rfl (w.heap.size + 1) (by rfl) (h5.a.alloc _) _ _ _ _ [_] (by rfl) (Ints.one' _ (by first | omega | (simp; done) | (simp; omega))) (by omega) (by have := h5.sz; have := h5.hS; simp; omega) ?_; intro A3 c3 w4 o4 hg4 at4; have h4 := h5.add hg4 o4; have f4 := (Blk.grown (h5.q.alloc _) hg4 (fun e => own_ne_blk h5.a h5.q (by decide) e.symm)).two))
          all_goals
            clear f3 r3 f5 f4
            generalize hw5 : World.setCell _ _ _ = w6 at h4 ⊢
            clear hw5
            have f5 := h4.q.two
            have r5 := h4.r.two
            go_wp2_with fail
            exact bodyPost_ret (v := .agg #[.int .i64 v1, .slice A3 (n2 + 1) c3]) (by simp [results, Tryd.results40, go_sem, r5]) rfl (h4.finish (by omega) (by omega))
      · have h4 := h3.alloc (.cells #[.int .i64 (-1), .int .i64 98, .int .i64 99, .int .i64 100] 3)
        go_wp2_with fail
        refine (pick_pos B g _ _ _ h4.rd (by omega) (by omega) (by omega) (by omega)).mono ?_
        rintro e w5 ⟨v, rfl, hv0, hv1, hr5, hg5, hs5, hb5⟩
        obtain ⟨m, rfl⟩ := Int.eq_ofNat_of_zero_le hv0
        have h5 := h4.picked hr5 hg5 hb5
        have l5 := Blk.grown (Blk.new w3 3 #[.int .i64 (-1), .int .i64 98, .int .i64 99, .int .i64 100]) hg5 (fun e => by injection e with e; have := h3.gl; omega)
        obtain ⟨x, hx1, hx2⟩ := lit4 _ _ m _ _ _ _ (by omega) l5
        have l5 := l5.lt
        clear h4 hr5 hg5 hb5 hs5 f3 r3
        have f5 := h5.q.two
        have r5 := h5.r.two
        have z5 := h5.sz
        have h6 := h5.setQ x
        have r6 := h6.r.two
        have f6 := h6.q.two
        go_wp2_with fail
        exact bodyPost_ret (v := .agg #[.int .i64 x, .slice A2 n2 c2]) (by simp [results, Tryd.results40, go_sem, r6]) rfl (h6.finish (by omega) (by omega))
end Go.Proofs.YtmjacdcefaohcaaDoor
