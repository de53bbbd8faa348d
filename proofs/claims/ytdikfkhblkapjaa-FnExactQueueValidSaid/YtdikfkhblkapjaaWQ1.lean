/-
  The walk of FnExactQueueValid: the law returns true and writes nothing that was there.
-/
import Derived.Test.YtdikfkhblkapjaaQ2
namespace Go.Proofs.Ytdikfkhblkapjaa
open Go.RowKit

theorem exQueueValid_walk (A : Option Addr) (n c : Nat) (xs : List Int) (B : Option Addr) (m d : Nat) (ys : List Int) (w : World) (hn : n ≤ 9223372036854775807) (hx : Ints w w.heap.size A n xs) (hm : m ≤ 9223372036854775807) (hy : Ints w w.heap.size B m ys) :
    Calls Try.prog 5 #[.agg #[.slice A n c, .slice B m d]] w fun e w' => e = .returned (.bool true) ∧ Below w.heap.size w w' := by
  have g0 := Blk.new w 31 #[.slice A n c, .slice B m d]
  by_cases hsz : 1048576 < n + m
  · go_enter Try.func5, Try.ntmps5
    go_wp2_with fail
    refine (szQueue_no _ _ _ _ _ _ _ _ (by omega) (by omega) hn hm (by omega)).mono ?_
    rintro e w1 ⟨rfl, hb1⟩
    go_wp2
    go_ret
    exact ⟨rfl, (by repeat' (first | exact Below.refl _ _ | assumption | refine Below.setCell ?_ (by first | omega | (simp; done) | (simp; omega)) _ | refine Below.alloc ?_ (by first | omega | (simp; done) | (simp; omega)) _ | refine below_drewN ?_ _ | refine Below.drew ?_ | (refine Below.trans ?_ (Below.mono (by assumption) (by first | omega | (simp; done) | (simp; omega))))))⟩
  · go_enter Try.func5, Try.ntmps5
    go_wp2_with fail
    refine (szQueue_yes _ _ _ _ _ _ _ _ (by omega) (by omega)).mono ?_
    rintro e w1 ⟨rfl, hb1⟩
    have hz1 := hb1.size
    simp at hz1
    have p1 := g0.below hb1 (by first | omega | (simp; done) | (simp; omega))
    have f1 := p1.two
    go_wp2_with fail
    refine (toQueue_any _ _ _ _ _ _ xs ys _ ((hx.below (by repeat' (first | exact Below.refl _ _ | assumption | refine Below.setCell ?_ (by first | omega | (simp; done) | (simp; omega)) _ | refine Below.alloc ?_ (by first | omega | (simp; done) | (simp; omega)) _ | refine below_drewN ?_ _ | refine Below.drew ?_ | (refine Below.trans ?_ (Below.mono (by assumption) (by first | omega | (simp; done) | (simp; omega))))))).more (by first | omega | (simp; done) | (simp; omega))) ((hy.below (by repeat' (first | exact Below.refl _ _ | assumption | refine Below.setCell ?_ (by first | omega | (simp; done) | (simp; omega)) _ | refine Below.alloc ?_ (by first | omega | (simp; done) | (simp; omega)) _ | refine below_drewN ?_ _ | refine Below.drew ?_ | (refine Below.trans ?_ (Below.mono (by assumption) (by first | omega | (simp; done) | (simp; omega))))))).more (by first | omega | (simp; done) | (simp; omega))) (by omega) (by omega)).mono ?_
    rintro e w2 ⟨A2, n2, c2, B2, m2, d2, rfl, o2, u2, ap2, hb2⟩
    have p2 := p1.below hb2 (by first | omega | (simp; done) | (simp; omega))
    have f2 := p2.two
    have hz2 := hb2.size
    clear f1
    go_wp2_with fail
    refine (specQueueValid_any _ _ _ _ _ _ xs ys _ o2.ints u2.ints (by have := (o2).len; have := (hx).len; omega) (by have := (u2).len; have := (hy).len; omega)).mono ?_
    rintro e w3 ⟨rfl, hb3⟩
    have p3 := p2.below hb3 (by first | omega | (simp; done) | (simp; omega))
    have f3 := p3.two
    have hz3 := hb3.size
    clear f2
    go_wp2_with fail
    refine (toQueue_any _ _ _ _ _ _ xs ys _ ((hx.below (by repeat' (first | exact Below.refl _ _ | assumption | refine Below.setCell ?_ (by first | omega | (simp; done) | (simp; omega)) _ | refine Below.alloc ?_ (by first | omega | (simp; done) | (simp; omega)) _ | refine below_drewN ?_ _ | refine Below.drew ?_ | (refine Below.trans ?_ (Below.mono (by assumption) (by first | omega | (simp; done) | (simp; omega))))))).more (by first | omega | (simp; done) | (simp; omega))) ((hy.below (by repeat' (first | exact Below.refl _ _ | assumption | refine Below.setCell ?_ (by first | omega | (simp; done) | (simp; omega)) _ | refine Below.alloc ?_ (by first | omega | (simp; done) | (simp; omega)) _ | refine below_drewN ?_ _ | refine Below.drew ?_ | (refine Below.trans ?_ (Below.mono (by assumption) (by first | omega | (simp; done) | (simp; omega))))))).more (by first | omega | (simp; done) | (simp; omega))) (by omega) (by omega)).mono ?_
    rintro e w4 ⟨A4, n4, c4, B4, m4, d4, rfl, o4, u4, ap4, hb4⟩
    have p4 := p3.below hb4 (by first | omega | (simp; done) | (simp; omega))
    have f4 := p4.two
    have hz4 := hb4.size
    clear f3
    go_wp2_with fail
    have q4 := Blk.new w4 34 #[.slice A4 n4 c4, .slice B4 m4 d4]
    refine (implQueueValid_any _ _ _ _ _ _ xs ys _ (o4.alloc _).ints (u4.alloc _).ints (by have := (o4).len; have := (hx).len; omega) (by have := (u4).len; have := (hy).len; omega)).mono ?_
    rintro e w5 ⟨rfl, hb5⟩
    have p5 := (p4.alloc _).below hb5 (by first | omega | (simp; done) | (simp; omega))
    have f5 := p5.two
    have q5 := q4.below hb5 (by first | omega | (simp; done) | (simp; omega))
    have g5 := q5.two
    have o5 := (o4.alloc _).below hb5
    have u5 := (u4.alloc _).below hb5
    have hz5 := hb5.size
    simp at hz5
    clear f4
    go_wp2_with fail
    go_region_held3 (fun w' => w'.cell? ⟨w4.heap.size, 0, none⟩ = some (.slice A4 n4 c4) ∧ w'.cell? ⟨w4.heap.size, 1, none⟩ = some (.slice B4 m4 d4) ∧ w'.cell? ⟨w.heap.size, 0, none⟩ = some (.slice A n c) ∧ w'.cell? ⟨w.heap.size, 1, none⟩ = some (.slice B m d))
      (first
        | (simp [go_sem, f5, g5]; done)
        | (refine ⟨?_, ?_, ?_, ?_⟩ <;> (rw [hb6.cell (by first | omega | (simp; done) | (simp; omega))]; simp [go_sem, f5, g5]; done))
        | (refine ⟨?_, ?_, ?_, ?_⟩ <;> (rw [hb7.cell (by first | omega | (simp; done) | (simp; omega)), hb6.cell (by first | omega | (simp; done) | (simp; omega))]; simp [go_sem, f5, g5]; done)))
      (first
        | (go_at_call 25; refine (toQueue_any _ _ _ _ _ _ xs ys _ ((hx.below (by repeat' (first | exact Below.refl _ _ | assumption | refine Below.setCell ?_ (by first | omega | (simp; done) | (simp; omega)) _ | refine Below.alloc ?_ (by first | omega | (simp; done) | (simp; omega)) _ | refine below_drewN ?_ _ | refine Below.drew ?_ | (refine Below.trans ?_ (Below.mono (by assumption) (by first | omega | (simp; done) | (simp; omega))))))).more (by first | omega | (simp; done) | (simp; omega))) ((hy.below (by repeat' (first | exact Below.refl _ _ | assumption | refine Below.setCell ?_ (by first | omega | (simp; done) | (simp; omega)) _ | refine Below.alloc ?_ (by first | omega | (simp; done) | (simp; omega)) _ | refine below_drewN ?_ _ | refine Below.drew ?_ | (refine Below.trans ?_ (Below.mono (by assumption) (by first | omega | (simp; done) | (simp; omega))))))).more (by first | omega | (simp; done) | (simp; omega))) (by omega) (by omega)).mono ?_; rintro e w6 ⟨A6, n6, c6, B6, m6, d6, rfl, o6, u6, ap6, hb6⟩; have hz6 : w5.heap.size ≤ w6.heap.size := hb6.size)
        | (go_at_call 27; refine (eqQueue_any _ _ _ _ _ _ xs ys _ _ _ _ _ _ xs ys _ (o5.drew.below hb6).ints (u5.drew.below hb6).ints o6.ints u6.ints (by have := (o5).len; have := (hx).len; omega) (by have := (u5).len; have := (hy).len; omega) (by have := (o6).len; have := (hx).len; omega) (by have := (u6).len; have := (hy).len; omega)).mono ?_; rintro e w7 ⟨rfl, hb7⟩))
    go_wp2
    go_ret
    exact ⟨rfl, (by repeat' (first | exact Below.refl _ _ | assumption | refine Below.setCell ?_ (by first | omega | (simp; done) | (simp; omega)) _ | refine Below.alloc ?_ (by first | omega | (simp; done) | (simp; omega)) _ | refine below_drewN ?_ _ | refine Below.drew ?_ | (refine Below.trans ?_ (Below.mono (by assumption) (by first | omega | (simp; done) | (simp; omega))))))⟩
end Go.Proofs.Ytdikfkhblkapjaa
