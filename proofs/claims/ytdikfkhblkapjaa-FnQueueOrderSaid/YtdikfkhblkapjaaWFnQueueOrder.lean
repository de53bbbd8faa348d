/-
  The walk of FnQueueOrder: the law returns true and writes nothing that was there.
-/
import Derived.Test.YtdikfkhblkapjaaDL
import Derived.Test.YtdikfkhblkapjaaQL
import Derived.Test.YtdikfkhblkapjaaQ5
import Derived.Test.YtdikfkhblkapjaaQK
import Derived.Deep.RegionHeld3
import Derived.IntWalk
namespace Go.Proofs.Ytdikfkhblkapjaa
open Go.RowKit
set_option linter.unusedVariables false

set_option maxHeartbeats 4000000 in
theorem fnQueueOrder_walk (A : Option Addr) (n c : Nat) (bs : List Int) (w : World) (hc : n ≤ c) (hcm : c ≤ 9223372036854775807) (hb : Bytes w w.heap.size A n bs) :
    Calls Try.prog 7 #[.slice A n c] w fun e w' => e = .returned (.bool true) ∧ Below w.heap.size w w' := by
  by_cases hn : 1048576 < n
  · go_enter Try.func7, Try.ntmps7
    go_wp2
    go_ret
    exact ⟨rfl, Below.refl _ _⟩
  go_enter Try.func7, Try.ntmps7
  have HB0 : Below w.heap.size w w := Below.refl _ _
  go_wp2_with fail
  refine (drawQueueOf_any _ _ _ _ _ hb (by omega) hc hcm).mono ?_
  rintro e w1 ⟨A1, n1, c1, B1, m1, d1, xs1, ys1, x1, rfl, o1, u1, hn1, hm1, hb1⟩
  have z1 : w.heap.size ≤ w1.heap.size := by have := hb1.size; simpa using this
  have st1 : Below w.heap.size w w1 := (by repeat' (first | with_reducible exact Below.refl _ _ | with_reducible refine Below.alloc ?_ (by first | omega | (simp; done) | (simp; omega)) _ | with_reducible refine below_drewN ?_ _ | with_reducible refine Below.drew ?_ | with_reducible refine Below.setCell ?_ (by first | omega | (simp; done) | (simp; omega)) _ | with_reducible refine Below.trans ?_ (Below.mono hb1 (by first | omega | (simp; done) | (simp; omega)))))
  have HB1 : Below w.heap.size w w1 := HB0.trans (st1.mono HB0.size)
  clear HB0
  clear st1
  replace o1 := (rowI o1).mono (b' := w.heap.size) (by first | omega | (simp; done) | (simp; omega)) (Nat.le_refl _)
  replace u1 := (rowI u1).mono (b' := w.heap.size) (by first | omega | (simp; done) | (simp; omega)) (Nat.le_refl _)
  have ln1 := Lib.hid o1.len; have lm1 := Lib.hid u1.len; have cp1 := o1.cap
  go_wp2_with fail
  refine (implQueueOf_any _ _ _ _ _ _ (xs1) (ys1) (x1) _ ((o1.ints (B := w1.heap.size) (by omega)).box _) ((u1.ints (B := w1.heap.size) (by omega)).box _) (by omega) (by omega)).mono ?_
  rintro e w2 ⟨Ag, ng, cg, rfl, og, hb2⟩
  have z2 : w1.heap.size + 1 ≤ w2.heap.size := by have := hb2.size; simpa using this
  have st2 : Below w1.heap.size w1 w2 := (by repeat' (first | with_reducible exact Below.refl _ _ | with_reducible refine Below.alloc ?_ (by first | omega | (simp; done) | (simp; omega)) _ | with_reducible refine below_drewN ?_ _ | with_reducible refine Below.drew ?_ | with_reducible refine Below.setCell ?_ (by first | omega | (simp; done) | (simp; omega)) _ | with_reducible refine Below.trans ?_ (Below.mono hb2 (by first | omega | (simp; done) | (simp; omega)))))
  have HB2 : Below w.heap.size w w2 := HB1.trans (st2.mono HB1.size)
  have p1 : Blk w2 (w1.heap.size) 34 #[.slice A1 n1 c1, .slice B1 m1 d1] := by simpa using (Blk.new w1 34 #[.slice A1 n1 c1, .slice B1 m1 d1]).below hb2 (by simp)
  replace o1 := o1.keep (same_of_below st2 (by omega))
  replace u1 := u1.keep (same_of_below st2 (by omega))
  clear HB1
  clear st2
  have fp1 := p1.two; have lp1 := p1.lt
  replace og := (rowI og).mono (b' := w1.heap.size + 1) (by first | omega | (simp; done) | (simp; omega)) (Nat.le_refl _)
  have ng20 : ng ≤ 21 := by have := og.len; have := qof_len xs1 ys1 x1; have := lm1.out; omega
  go_wp2_with fail
  refine (specQueueOf_any _ _ _ _ _ _ (xs1) (ys1) (x1) _ (o1.ints (B := w2.heap.size) (by omega)) (u1.ints (B := w2.heap.size) (by omega)) (by omega) (by omega)).mono ?_
  rintro e w3 ⟨Ah, nh, ch, rfl, oh, hb3⟩
  clear fp1 lp1
  have z3 : w2.heap.size ≤ w3.heap.size := by have := hb3.size; simpa using this
  have st3 : Below w2.heap.size w2 w3 := (by repeat' (first | with_reducible exact Below.refl _ _ | with_reducible refine Below.alloc ?_ (by first | omega | (simp; done) | (simp; omega)) _ | with_reducible refine below_drewN ?_ _ | with_reducible refine Below.drew ?_ | with_reducible refine Below.setCell ?_ (by first | omega | (simp; done) | (simp; omega)) _ | with_reducible refine Below.trans ?_ (Below.mono hb3 (by first | omega | (simp; done) | (simp; omega)))))
  have HB3 : Below w.heap.size w w3 := HB2.trans (st3.mono HB2.size)
  replace p1 := p1.below st3 (by omega)
  replace o1 := o1.keep (same_of_below st3 (by omega))
  replace u1 := u1.keep (same_of_below st3 (by omega))
  replace og := og.keep (same_of_below st3 (by omega))
  clear HB2
  clear st3
  have fp1 := p1.two; have lp1 := p1.lt
  replace oh := (rowI oh).mono (b' := w2.heap.size) (by first | omega | (simp; done) | (simp; omega)) (Nat.le_refl _)
  have nh20 : nh ≤ 21 := by have := oh.len; have := qof_len xs1 ys1 x1; have := lm1.out; omega
  go_wp2_with fail
  refine (sameInts_same _ _ _ _ _ _ (qof xs1 ys1 x1) _ (og.ints (B := w3.heap.size) (by omega)) (oh.ints (B := w3.heap.size) (by omega)) (by omega) (by omega)).mono ?_
  rintro e w4 ⟨rfl, hb4⟩
  clear fp1 lp1
  have z4 : w3.heap.size ≤ w4.heap.size := by have := hb4.size; simpa using this
  have st4 : Below w3.heap.size w3 w4 := (by repeat' (first | with_reducible exact Below.refl _ _ | with_reducible refine Below.alloc ?_ (by first | omega | (simp; done) | (simp; omega)) _ | with_reducible refine below_drewN ?_ _ | with_reducible refine Below.drew ?_ | with_reducible refine Below.setCell ?_ (by first | omega | (simp; done) | (simp; omega)) _ | with_reducible refine Below.trans ?_ (Below.mono hb4 (by first | omega | (simp; done) | (simp; omega)))))
  have HB4 : Below w.heap.size w w4 := HB3.trans (st4.mono HB3.size)
  replace p1 := p1.below st4 (by omega)
  replace o1 := o1.keep (same_of_below st4 (by omega))
  replace u1 := u1.keep (same_of_below st4 (by omega))
  replace og := og.keep (same_of_below st4 (by omega))
  replace oh := oh.keep (same_of_below st4 (by omega))
  clear HB3
  clear st4
  have fp1 := p1.two; have lp1 := p1.lt
  go_wp2_with fail
  refine (specQueueValid_any _ _ _ _ _ _ xs1 ys1 _ (o1.ints (B := w4.heap.size) (by omega)) (u1.ints (B := w4.heap.size) (by omega)) (by omega) (by omega)).mono ?_
  rintro e w5 ⟨rfl, hb5⟩
  clear fp1 lp1
  have z5 : w4.heap.size ≤ w5.heap.size := by have := hb5.size; simpa using this
  have st5 : Below w4.heap.size w4 w5 := (by repeat' (first | with_reducible exact Below.refl _ _ | with_reducible refine Below.alloc ?_ (by first | omega | (simp; done) | (simp; omega)) _ | with_reducible refine below_drewN ?_ _ | with_reducible refine Below.drew ?_ | with_reducible refine Below.setCell ?_ (by first | omega | (simp; done) | (simp; omega)) _ | with_reducible refine Below.trans ?_ (Below.mono hb5 (by first | omega | (simp; done) | (simp; omega)))))
  have HB5 : Below w.heap.size w w5 := HB4.trans (st5.mono HB4.size)
  replace p1 := p1.below st5 (by omega)
  replace o1 := o1.keep (same_of_below st5 (by omega))
  replace u1 := u1.keep (same_of_below st5 (by omega))
  replace og := og.keep (same_of_below st5 (by omega))
  replace oh := oh.keep (same_of_below st5 (by omega))
  clear HB4
  clear st5
  have fp1 := p1.two; have lp1 := p1.lt
  cases hv : qvB xs1 ys1
  · go_wp2_with fail
    refine (sameInts_same _ _ _ _ _ _ (qof xs1 ys1 x1) _ (og.ints (B := w5.heap.size) (by omega)) (oh.ints (B := w5.heap.size) (by omega)) (by omega) (by omega)).mono ?_
    rintro e w6 ⟨rfl, hb6⟩
    clear fp1 lp1
    have z6 : w5.heap.size ≤ w6.heap.size := by have := hb6.size; simpa using this
    have st6 : Below w5.heap.size w5 w6 := (by repeat' (first | with_reducible exact Below.refl _ _ | with_reducible refine Below.alloc ?_ (by first | omega | (simp; done) | (simp; omega)) _ | with_reducible refine below_drewN ?_ _ | with_reducible refine Below.drew ?_ | with_reducible refine Below.setCell ?_ (by first | omega | (simp; done) | (simp; omega)) _ | with_reducible refine Below.trans ?_ (Below.mono hb6 (by first | omega | (simp; done) | (simp; omega)))))
    have HB6 : Below w.heap.size w w6 := HB5.trans (st6.mono HB5.size)
    replace p1 := p1.below st6 (by omega)
    replace o1 := o1.keep (same_of_below st6 (by omega))
    replace u1 := u1.keep (same_of_below st6 (by omega))
    replace og := og.keep (same_of_below st6 (by omega))
    replace oh := oh.keep (same_of_below st6 (by omega))
    clear HB5
    clear st6
    have fp1 := p1.two; have lp1 := p1.lt
    go_wp2
    go_ret
    exact ⟨rfl, HB6⟩
  · clear oh
    obtain ⟨hl1, hl2⟩ := qv_len hv
    have hnm : m1 ≤ n1 := by have := ln1.out; have := lm1.out; omega
    clear hl1 hl2
    have eq1 : qof xs1 ys1 x1 = qofK xs1 ys1 x1 m1 := by simp [qof, hv, lm1.out]
    rw [eq1] at og
    clear eq1
    have lg := Lib.hid og.len
    go_wp2_with fail
    go_loopw [7, 8] (fun t i wr => ∃ (j s : Nat), j ≤ m1 ∧ i = .int .i64 j ∧ t = .int .i64 s ∧ Hid ((qofK xs1 ys1 x1 j).length = s) ∧ s ≤ j ∧ Below w.heap.size w wr ∧ w5.heap.size ≤ wr.heap.size ∧ Blk wr (w1.heap.size) 34 #[.slice A1 n1 c1, .slice B1 m1 d1] ∧ RowI wr (w.heap.size) (w1.heap.size) A1 n1 c1 (xs1) ∧ RowI wr (w.heap.size) (w1.heap.size) B1 m1 d1 (ys1) ∧ RowI wr (w1.heap.size + 1) (w2.heap.size) Ag ng cg (qofK xs1 ys1 x1 m1)) (fun _ i _ => m1 - (intOf i).toNat)
    case atStart => exact ⟨0, 0, by omega, rfl, rfl, Lib.hid (by rw [qofK_zero]; rfl), by omega, HB5, (by omega), p1, o1, u1, og⟩
    case round =>
      clear fp1 lp1
      clear HB5 p1 o1 u1 og
      obtain ⟨j, s, hj, rfl, rfl, hs, hsj, hbw, hzw, p1, o1, u1, og⟩ := hrel
      have fp1 := p1.two; have lp1 := p1.lt
      by_cases hlt : j < m1
      · obtain ⟨ad, y, rfl, _, hcy, hy1, _⟩ := (u1.ints (B := wr.heap.size) (by omega)).elem hlt
        cases hyw : (y == x1)
        · go_wp2
          go_roundw
          case rel => exact ⟨j + 1, s, by omega, by go_num, rfl, Lib.hid (by rw [qofK_no hy1.out hyw]; exact hs.out), by omega, hbw, (by omega), p1, o1, u1, og⟩
          case measure => simp [intOf]; omega
        · obtain ⟨ad2, x, rfl, _, hcx, hx1, _⟩ := (o1.ints (B := wr.heap.size) (by omega)).elem (k := j) (by omega)
          have hor := order_at hlt hy1.out hx1.out hyw
          rw [hs.out, lg.out] at hor
          obtain ⟨hs1, hs2⟩ := hor
          obtain ⟨gg, rfl, _, _⟩ := og.form (by omega)
          have fg := og.cellIs hs2
          have HS2 := Lib.hid hs2
          clear hs2
          have hxx : (x != x) = false := by simp
          have hdec : decide ((ng : Int) ≤ (s : Int)) = false := by simp; omega
          have hdec2 : decide (ng ≤ s) = false := by simp; omega
          go_wp2_with fail
          go_quiet (fail)
          go_wp2
          go_roundw
          case rel => exact ⟨j + 1, s + 1, by omega, by go_num, by go_num, Lib.hid (by rw [qofK_yes hy1.out hx1.out hyw, List.length_append, hs.out]; rfl), by omega, below_drewN hbw _, hzw, p1.drewN _, o1, u1, og⟩
          case measure => simp [intOf]; omega
      · obtain rfl : j = m1 := by omega
        have hsg : s = ng := by rw [← hs.out, ← lg.out]
        subst hsg
        have hd : ((s : Int) == (s : Int)) = true := by simp
        go_wp2
        go_ret
        exact ⟨rfl, hbw⟩
end Go.Proofs.Ytdikfkhblkapjaa
