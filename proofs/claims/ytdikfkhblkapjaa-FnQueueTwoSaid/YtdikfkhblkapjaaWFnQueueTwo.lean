/-
  The walk of FnQueueTwo: the law returns true and writes nothing that was there.
-/
import Derived.Test.YtdikfkhblkapjaaDP
import Derived.Test.YtdikfkhblkapjaaQL
import Derived.Test.YtdikfkhblkapjaaQ7
import Derived.Test.YtdikfkhblkapjaaQK
import Derived.Deep.RegionHeld3
import Derived.IntWalk
namespace Go.Proofs.Ytdikfkhblkapjaa
open Go.RowKit
set_option linter.unusedVariables false

set_option maxHeartbeats 4000000 in
theorem fnQueueTwo_walk (A : Option Addr) (n c : Nat) (bs : List Int) (B : Option Addr) (m d : Nat) (cs : List Int) (w : World) (hc : n ≤ c) (hcm : c ≤ 9223372036854775807) (hb : Bytes w w.heap.size A n bs) (hd : m ≤ d) (hdm : d ≤ 9223372036854775807) (hb' : Bytes w w.heap.size B m cs) :
    Calls Try.prog 15 #[.slice A n c, .slice B m d] w fun e w' => e = .returned (.bool true) ∧ Below w.heap.size w w' := by
  by_cases hn : 1048576 < n
  · go_enter Try.func15, Try.ntmps15
    go_wp2
    go_ret
    exact ⟨rfl, Below.refl _ _⟩
  by_cases hm : 1048576 < m
  · go_enter Try.func15, Try.ntmps15
    go_wp2
    go_ret
    exact ⟨rfl, Below.refl _ _⟩
  go_enter Try.func15, Try.ntmps15
  have HB0 : Below w.heap.size w w := Below.refl _ _
  go_wp2_with fail
  refine (drawQueuePut_any _ _ _ _ _ hb (by omega) hc hcm).mono ?_
  rintro e w1 ⟨A1, n1, c1, B1, m1, d1, xs1, ys1, x1, rfl, o1, u1, hn1, hm1, hb1⟩
  have z1 : w.heap.size ≤ w1.heap.size := by have := hb1.size; simpa using this
  have st1 : Below w.heap.size w w1 := (by repeat' (first | with_reducible exact Below.refl _ _ | with_reducible refine Below.alloc ?_ (by first | omega | (simp; done) | (simp; omega)) _ | with_reducible refine below_drewN ?_ _ | with_reducible refine Below.drew ?_ | with_reducible refine Below.setCell ?_ (by first | omega | (simp; done) | (simp; omega)) _ | with_reducible refine Below.trans ?_ (Below.mono hb1 (by first | omega | (simp; done) | (simp; omega)))))
  have HB1 : Below w.heap.size w w1 := HB0.trans (st1.mono HB0.size)
  clear HB0
  clear st1
  replace o1 := (rowI o1).mono (b' := w.heap.size) (by first | omega | (simp; done) | (simp; omega)) (Nat.le_refl _)
  replace u1 := (rowI u1).mono (b' := w.heap.size) (by first | omega | (simp; done) | (simp; omega)) (Nat.le_refl _)
  have ln1 := Lib.hid o1.len; have lm1 := Lib.hid u1.len; have cp1 := o1.cap
  have hne : (putB xs1 ys1 x1 != putB xs1 ys1 x1) = false := by simp
  have heq : (putB xs1 ys1 x1 == putB xs1 ys1 x1) = true := by simp
  go_wp2_with fail
  refine (implPut_any _ _ _ _ _ _ xs1 ys1 x1 _ ((o1.ints (B := w1.heap.size) (by omega)).box _) ((u1.ints (B := w1.heap.size) (by omega)).box _) (by omega) (by omega)).mono ?_
  rintro e w2 ⟨Ag, ng, cg, Bg, mg, dg, rfl, og, ug, apg, hb2⟩
  have z2 : w1.heap.size + 1 ≤ w2.heap.size := by have := hb2.size; simpa using this
  have st2 : Below w1.heap.size w1 w2 := (by repeat' (first | with_reducible exact Below.refl _ _ | with_reducible refine Below.alloc ?_ (by first | omega | (simp; done) | (simp; omega)) _ | with_reducible refine below_drewN ?_ _ | with_reducible refine Below.drew ?_ | with_reducible refine Below.setCell ?_ (by first | omega | (simp; done) | (simp; omega)) _ | with_reducible refine Below.trans ?_ (Below.mono hb2 (by first | omega | (simp; done) | (simp; omega)))))
  have HB2 : Below w.heap.size w w2 := HB1.trans (st2.mono HB1.size)
  have p1 : Blk w2 (w1.heap.size) 34 #[.slice A1 n1 c1, .slice B1 m1 d1] := by simpa using (Blk.new w1 34 #[.slice A1 n1 c1, .slice B1 m1 d1]).below hb2 (by simp)
  replace o1 := o1.keep (same_of_below st2 (by omega))
  replace u1 := u1.keep (same_of_below st2 (by omega))
  clear HB1
  clear st2
  have fp1 := p1.two; have lp1 := p1.lt
  replace og := (rowI og).mono (b' := w1.heap.size + 1) (by first | omega | (simp; done) | (simp; omega)) (Nat.le_refl _)
  replace ug := (rowI ug).mono (b' := w1.heap.size + 1) (by first | omega | (simp; done) | (simp; omega)) (Nat.le_refl _)
  have hng : ng ≤ 21 := by have := og.len; have := put_len xs1 ys1 x1; have := ln1.out; have := lm1.out; omega
  have hmg : mg ≤ 21 := by have := ug.len; have := put_len xs1 ys1 x1; have := ln1.out; have := lm1.out; omega
  have cpg := og.cap
  go_wp2_with fail
  refine (specPut_any _ _ _ _ _ _ xs1 ys1 x1 _ ((o1.ints (B := w2.heap.size) (by omega)).box _) ((u1.ints (B := w2.heap.size) (by omega)).box _) (by omega) (by omega)).mono ?_
  rintro e w3 ⟨Ah, nh, ch, Bh, mh, dh, rfl, oh, uh, aph, hb3⟩
  clear fp1 lp1
  have z3 : w2.heap.size + 1 ≤ w3.heap.size := by have := hb3.size; simpa using this
  have st3 : Below w2.heap.size w2 w3 := (by repeat' (first | with_reducible exact Below.refl _ _ | with_reducible refine Below.alloc ?_ (by first | omega | (simp; done) | (simp; omega)) _ | with_reducible refine below_drewN ?_ _ | with_reducible refine Below.drew ?_ | with_reducible refine Below.setCell ?_ (by first | omega | (simp; done) | (simp; omega)) _ | with_reducible refine Below.trans ?_ (Below.mono hb3 (by first | omega | (simp; done) | (simp; omega)))))
  have HB3 : Below w.heap.size w w3 := HB2.trans (st3.mono HB2.size)
  replace p1 := p1.below st3 (by omega)
  have pg : Blk w3 (w2.heap.size) 34 #[.slice Ag ng cg, .slice Bg mg dg] := by simpa using (Blk.new w2 34 #[.slice Ag ng cg, .slice Bg mg dg]).below hb3 (by simp)
  replace o1 := o1.keep (same_of_below st3 (by omega))
  replace u1 := u1.keep (same_of_below st3 (by omega))
  replace og := og.keep (same_of_below st3 (by omega))
  replace ug := ug.keep (same_of_below st3 (by omega))
  clear HB2
  clear st3
  have fp1 := p1.two; have lp1 := p1.lt
  have fpg := pg.two; have lpg := pg.lt
  replace oh := (rowI oh).mono (b' := w2.heap.size + 1) (by first | omega | (simp; done) | (simp; omega)) (Nat.le_refl _)
  replace uh := (rowI uh).mono (b' := w2.heap.size + 1) (by first | omega | (simp; done) | (simp; omega)) (Nat.le_refl _)
  have hnh : nh ≤ 21 := by have := oh.len; have := put_len xs1 ys1 x1; have := ln1.out; have := lm1.out; omega
  have hmh : mh ≤ 21 := by have := uh.len; have := put_len xs1 ys1 x1; have := ln1.out; have := lm1.out; omega
  have cph := oh.cap
  go_wp2_with fail
  refine (sameQueue_same _ _ _ _ _ _ (putItems xs1 ys1 x1) (putTaken xs1 ys1 x1) _ _ _ _ _ _ _ ((og.ints (B := w3.heap.size) (by omega)).box _) ((ug.ints (B := w3.heap.size) (by omega)).box _) ((oh.ints (B := w3.heap.size) (by omega)).box _) ((uh.ints (B := w3.heap.size) (by omega)).box _) (by omega) (by omega) (by omega) (by omega)).mono ?_
  rintro e w4 ⟨rfl, hb4⟩
  clear fp1 lp1 fpg lpg
  have z4 : w3.heap.size + 1 ≤ w4.heap.size := by have := hb4.size; simpa using this
  have st4 : Below w3.heap.size w3 w4 := (by repeat' (first | with_reducible exact Below.refl _ _ | with_reducible refine Below.alloc ?_ (by first | omega | (simp; done) | (simp; omega)) _ | with_reducible refine below_drewN ?_ _ | with_reducible refine Below.drew ?_ | with_reducible refine Below.setCell ?_ (by first | omega | (simp; done) | (simp; omega)) _ | with_reducible refine Below.trans ?_ (Below.mono hb4 (by first | omega | (simp; done) | (simp; omega)))))
  have HB4 : Below w.heap.size w w4 := HB3.trans (st4.mono HB3.size)
  replace p1 := p1.below st4 (by omega)
  replace pg := pg.below st4 (by omega)
  have ph : Blk w4 (w3.heap.size) 34 #[.slice Ah nh ch, .slice Bh mh dh] := by simpa using (Blk.new w3 34 #[.slice Ah nh ch, .slice Bh mh dh]).below hb4 (by simp)
  replace o1 := o1.keep (same_of_below st4 (by omega))
  replace u1 := u1.keep (same_of_below st4 (by omega))
  replace og := og.keep (same_of_below st4 (by omega))
  replace ug := ug.keep (same_of_below st4 (by omega))
  replace oh := oh.keep (same_of_below st4 (by omega))
  replace uh := uh.keep (same_of_below st4 (by omega))
  clear HB3
  clear st4
  have fp1 := p1.two; have lp1 := p1.lt
  have fpg := pg.two; have lpg := pg.lt
  have fph := ph.two; have lph := ph.lt
  cases hB : putB xs1 ys1 x1
  · go_wp2_with fail
    refine (sameQueue_same _ _ _ _ _ _ (putItems xs1 ys1 x1) (putTaken xs1 ys1 x1) _ _ _ _ _ _ _ (og.ints (B := w4.heap.size) (by omega)) (ug.ints (B := w4.heap.size) (by omega)) (oh.ints (B := w4.heap.size) (by omega)) (uh.ints (B := w4.heap.size) (by omega)) (by omega) (by omega) (by omega) (by omega)).mono ?_
    rintro e w5 ⟨rfl, hb5⟩
    clear fp1 lp1 fpg lpg fph lph
    have z5 : w4.heap.size ≤ w5.heap.size := by have := hb5.size; simpa using this
    have st5 : Below w4.heap.size w4 w5 := (by repeat' (first | with_reducible exact Below.refl _ _ | with_reducible refine Below.alloc ?_ (by first | omega | (simp; done) | (simp; omega)) _ | with_reducible refine below_drewN ?_ _ | with_reducible refine Below.drew ?_ | with_reducible refine Below.setCell ?_ (by first | omega | (simp; done) | (simp; omega)) _ | with_reducible refine Below.trans ?_ (Below.mono hb5 (by first | omega | (simp; done) | (simp; omega)))))
    have HB5 : Below w.heap.size w w5 := HB4.trans (st5.mono HB4.size)
    replace p1 := p1.below st5 (by omega)
    replace pg := pg.below st5 (by omega)
    replace ph := ph.below st5 (by omega)
    replace o1 := o1.keep (same_of_below st5 (by omega))
    replace u1 := u1.keep (same_of_below st5 (by omega))
    replace og := og.keep (same_of_below st5 (by omega))
    replace ug := ug.keep (same_of_below st5 (by omega))
    replace oh := oh.keep (same_of_below st5 (by omega))
    replace uh := uh.keep (same_of_below st5 (by omega))
    clear HB4
    clear st5
    have fp1 := p1.two; have lp1 := p1.lt
    have fpg := pg.two; have lpg := pg.lt
    have fph := ph.two; have lph := ph.lt
    go_wp2
    go_ret
    exact ⟨rfl, HB5⟩
  · obtain ⟨e1, e2, hok, hlt⟩ := put_true hB
    rw [e1] at og oh
    rw [e2] at ug uh
    have hv2 := Lib.hid (qv_put hB)
    clear e1 e2
    rcases (by omega : n1 ≠ m1 ∨ n1 = m1) with hnm | hnm
    · have hnm : ((n1 : Int) != (m1 : Int)) = true := by rw [bne_iff_ne]; omega
      go_wp2_with fail
      refine (sameQueue_same _ _ _ _ _ _ (xs1 ++ [x1]) (ys1) _ _ _ _ _ _ _ (og.ints (B := w4.heap.size) (by omega)) (ug.ints (B := w4.heap.size) (by omega)) (oh.ints (B := w4.heap.size) (by omega)) (uh.ints (B := w4.heap.size) (by omega)) (by omega) (by omega) (by omega) (by omega)).mono ?_
      rintro e w5 ⟨rfl, hb5⟩
      clear fp1 lp1 fpg lpg fph lph
      have z5 : w4.heap.size ≤ w5.heap.size := by have := hb5.size; simpa using this
      have st5 : Below w4.heap.size w4 w5 := (by repeat' (first | with_reducible exact Below.refl _ _ | with_reducible refine Below.alloc ?_ (by first | omega | (simp; done) | (simp; omega)) _ | with_reducible refine below_drewN ?_ _ | with_reducible refine Below.drew ?_ | with_reducible refine Below.setCell ?_ (by first | omega | (simp; done) | (simp; omega)) _ | with_reducible refine Below.trans ?_ (Below.mono hb5 (by first | omega | (simp; done) | (simp; omega)))))
      have HB5 : Below w.heap.size w w5 := HB4.trans (st5.mono HB4.size)
      replace p1 := p1.below st5 (by omega)
      replace pg := pg.below st5 (by omega)
      replace ph := ph.below st5 (by omega)
      replace o1 := o1.keep (same_of_below st5 (by omega))
      replace u1 := u1.keep (same_of_below st5 (by omega))
      replace og := og.keep (same_of_below st5 (by omega))
      replace ug := ug.keep (same_of_below st5 (by omega))
      replace oh := oh.keep (same_of_below st5 (by omega))
      replace uh := uh.keep (same_of_below st5 (by omega))
      clear HB4
      clear st5
      have fp1 := p1.two; have lp1 := p1.lt
      have fpg := pg.two; have lpg := pg.lt
      have fph := ph.two; have lph := ph.lt
      go_wp2
      go_ret
      exact ⟨rfl, HB5⟩
    · subst hnm
      have hnm : ((n1 : Int) != (n1 : Int)) = false := by simp
      rcases (by omega : 20 < n1 + 2 ∨ n1 + 2 ≤ 20) with hroom | hroom
      · go_wp2_with fail
        refine (sameQueue_same _ _ _ _ _ _ (xs1 ++ [x1]) (ys1) _ _ _ _ _ _ _ (og.ints (B := w4.heap.size) (by omega)) (ug.ints (B := w4.heap.size) (by omega)) (oh.ints (B := w4.heap.size) (by omega)) (uh.ints (B := w4.heap.size) (by omega)) (by omega) (by omega) (by omega) (by omega)).mono ?_
        rintro e w5 ⟨rfl, hb5⟩
        clear fp1 lp1 fpg lpg fph lph
        have z5 : w4.heap.size ≤ w5.heap.size := by have := hb5.size; simpa using this
        have st5 : Below w4.heap.size w4 w5 := (by repeat' (first | with_reducible exact Below.refl _ _ | with_reducible refine Below.alloc ?_ (by first | omega | (simp; done) | (simp; omega)) _ | with_reducible refine below_drewN ?_ _ | with_reducible refine Below.drew ?_ | with_reducible refine Below.setCell ?_ (by first | omega | (simp; done) | (simp; omega)) _ | with_reducible refine Below.trans ?_ (Below.mono hb5 (by first | omega | (simp; done) | (simp; omega)))))
        have HB5 : Below w.heap.size w w5 := HB4.trans (st5.mono HB4.size)
        replace p1 := p1.below st5 (by omega)
        replace pg := pg.below st5 (by omega)
        replace ph := ph.below st5 (by omega)
        replace o1 := o1.keep (same_of_below st5 (by omega))
        replace u1 := u1.keep (same_of_below st5 (by omega))
        replace og := og.keep (same_of_below st5 (by omega))
        replace ug := ug.keep (same_of_below st5 (by omega))
        replace oh := oh.keep (same_of_below st5 (by omega))
        replace uh := uh.keep (same_of_below st5 (by omega))
        clear HB4
        clear st5
        have fp1 := p1.two; have lp1 := p1.lt
        have fpg := pg.two; have lpg := pg.lt
        have fph := ph.two; have lph := ph.lt
        go_wp2
        go_ret
        exact ⟨rfl, HB5⟩
      · have hml : (0 : Int) ≤ (m : Int) % 900 := by omega
        have hmu : (m : Int) % 900 ≤ 900 := by omega
        have hB2 := put_again hv2.out hml (show (m : Int) % 900 ≤ 999 by omega) (show (xs1 ++ [x1]).length < 20 by have := ln1.out; simp; omega)
        have hv3 := Lib.hid (qv_put hB2)
        obtain ⟨e1, e2, _, _⟩ := put_true hB2
        have E1 := Lib.hid e1; have E2 := Lib.hid e2; have E3 := Lib.hid hB2
        clear e1 e2 hB2 hok hlt
        go_wp2_with fail
        refine (implPut_any _ _ _ _ _ _ (xs1 ++ [x1]) ys1 ((m : Int) % 900) _ (og.ints (B := w4.heap.size) (by omega)) (ug.ints (B := w4.heap.size) (by omega)) (by omega) (by omega)).mono ?_
        rintro e w5 ⟨Ax, nx, cx, Bx, mx, dx, rfl, ox, ux, apx, hb5⟩
        clear fp1 lp1 fpg lpg fph lph
        have z5 : w4.heap.size ≤ w5.heap.size := by have := hb5.size; simpa using this
        have st5 : Below w4.heap.size w4 w5 := (by repeat' (first | with_reducible exact Below.refl _ _ | with_reducible refine Below.alloc ?_ (by first | omega | (simp; done) | (simp; omega)) _ | with_reducible refine below_drewN ?_ _ | with_reducible refine Below.drew ?_ | with_reducible refine Below.setCell ?_ (by first | omega | (simp; done) | (simp; omega)) _ | with_reducible refine Below.trans ?_ (Below.mono hb5 (by first | omega | (simp; done) | (simp; omega)))))
        have HB5 : Below w.heap.size w w5 := HB4.trans (st5.mono HB4.size)
        replace p1 := p1.below st5 (by omega)
        replace pg := pg.below st5 (by omega)
        replace ph := ph.below st5 (by omega)
        replace o1 := o1.keep (same_of_below st5 (by omega))
        replace u1 := u1.keep (same_of_below st5 (by omega))
        replace og := og.keep (same_of_below st5 (by omega))
        replace ug := ug.keep (same_of_below st5 (by omega))
        replace oh := oh.keep (same_of_below st5 (by omega))
        replace uh := uh.keep (same_of_below st5 (by omega))
        clear HB4
        clear st5
        have fp1 := p1.two; have lp1 := p1.lt
        have fpg := pg.two; have lpg := pg.lt
        have fph := ph.two; have lph := ph.lt
        replace ox := (rowI ox).mono (b' := w4.heap.size) (by first | omega | (simp; done) | (simp; omega)) (Nat.le_refl _)
        replace ux := (rowI ux).mono (b' := w4.heap.size) (by first | omega | (simp; done) | (simp; omega)) (Nat.le_refl _)
        rw [E1.out] at ox
        rw [E2.out] at ux
        rw [E3.out]
        have lnx : nx ≤ 22 := by have h := ox.len; have := ln1.out; simp at h; omega
        have lmx : mx ≤ 22 := by have := ux.len; have := lm1.out; omega
        have cpx := ox.cap
        have hle : ys1.length = xs1.length := by rw [ln1.out, lm1.out]
        obtain ⟨t1, t2⟩ := two_items xs1 ys1 x1 ((m : Int) % 900) hle
        have hB3 := take_again (who := 0) hv3.out rfl (show ys1.length < (xs1 ++ [x1] ++ [(m : Int) % 900]).length by simp; omega)
        have hv4 := Lib.hid (qv_take hB3)
        obtain ⟨e1, e2, e3, _⟩ := take_true hB3
        rw [t1] at e3
        have F1 := Lib.hid e1; have F2 := Lib.hid e2; have F3 := Lib.hid e3; have F4 := Lib.hid hB3
        clear e1 e2 e3 hB3 t1
        have hB5 := take_again (who := 3) hv4.out rfl (show (ys1 ++ [0]).length < (xs1 ++ [x1] ++ [(m : Int) % 900]).length by simp; omega)
        obtain ⟨_, _, e3, _⟩ := take_true hB5
        rw [t2] at e3
        have G3 := Lib.hid e3; have G4 := Lib.hid hB5
        clear e3 hB5 t2 hle
        go_wp2_with fail
        refine (implTake_any _ _ _ _ _ _ (xs1 ++ [x1] ++ [(m : Int) % 900]) ys1 0 _ ((ox.ints (B := w5.heap.size) (by omega)).box _) ((ux.ints (B := w5.heap.size) (by omega)).box _) (by omega) (by omega) cpx).mono ?_
        rintro e w6 ⟨Ay, ny, cy, By, my, dy, rfl, oy, uy, apy, hb6⟩
        clear fp1 lp1 fpg lpg fph lph
        have z6 : w5.heap.size + 1 ≤ w6.heap.size := by have := hb6.size; simpa using this
        have st6 : Below w5.heap.size w5 w6 := (by repeat' (first | with_reducible exact Below.refl _ _ | with_reducible refine Below.alloc ?_ (by first | omega | (simp; done) | (simp; omega)) _ | with_reducible refine below_drewN ?_ _ | with_reducible refine Below.drew ?_ | with_reducible refine Below.setCell ?_ (by first | omega | (simp; done) | (simp; omega)) _ | with_reducible refine Below.trans ?_ (Below.mono hb6 (by first | omega | (simp; done) | (simp; omega)))))
        have HB6 : Below w.heap.size w w6 := HB5.trans (st6.mono HB5.size)
        replace p1 := p1.below st6 (by omega)
        replace pg := pg.below st6 (by omega)
        replace ph := ph.below st6 (by omega)
        have px : Blk w6 (w5.heap.size) 34 #[.slice Ax nx cx, .slice Bx mx dx] := by simpa using (Blk.new w5 34 #[.slice Ax nx cx, .slice Bx mx dx]).below hb6 (by simp)
        replace o1 := o1.keep (same_of_below st6 (by omega))
        replace u1 := u1.keep (same_of_below st6 (by omega))
        replace og := og.keep (same_of_below st6 (by omega))
        replace ug := ug.keep (same_of_below st6 (by omega))
        replace oh := oh.keep (same_of_below st6 (by omega))
        replace uh := uh.keep (same_of_below st6 (by omega))
        replace ox := ox.keep (same_of_below st6 (by omega))
        replace ux := ux.keep (same_of_below st6 (by omega))
        clear HB5
        clear st6
        have fp1 := p1.two; have lp1 := p1.lt
        have fpg := pg.two; have lpg := pg.lt
        have fph := ph.two; have lph := ph.lt
        have fpx := px.two; have lpx := px.lt
        replace oy := (rowI oy).mono (b' := w5.heap.size + 1) (by first | omega | (simp; done) | (simp; omega)) (Nat.le_refl _)
        replace uy := (rowI uy).mono (b' := w5.heap.size + 1) (by first | omega | (simp; done) | (simp; omega)) (Nat.le_refl _)
        rw [F1.out] at oy
        rw [F2.out] at uy
        rw [F3.out, F4.out]
        have lny : ny ≤ 30 := by have h1 := oy.len; have h2 := ox.len; omega
        have lmy : my ≤ 30 := by have h1 := uy.len; have h2 := ux.len; simp at h1; omega
        have cpy := oy.cap
        go_wp2_with fail
        refine (implTake_any _ _ _ _ _ _ (xs1 ++ [x1] ++ [(m : Int) % 900]) (ys1 ++ [0]) 3 _ ((oy.ints (B := w6.heap.size) (by omega)).box _) ((uy.ints (B := w6.heap.size) (by omega)).box _) (by omega) (by omega) cpy).mono ?_
        rintro e w7 ⟨Az, nz, cz, Bz, mz, dz, rfl, oz, uz, apz, hb7⟩
        clear fp1 lp1 fpg lpg fph lph fpx lpx
        have z7 : w6.heap.size + 1 ≤ w7.heap.size := by have := hb7.size; simpa using this
        have st7 : Below w6.heap.size w6 w7 := (by repeat' (first | with_reducible exact Below.refl _ _ | with_reducible refine Below.alloc ?_ (by first | omega | (simp; done) | (simp; omega)) _ | with_reducible refine below_drewN ?_ _ | with_reducible refine Below.drew ?_ | with_reducible refine Below.setCell ?_ (by first | omega | (simp; done) | (simp; omega)) _ | with_reducible refine Below.trans ?_ (Below.mono hb7 (by first | omega | (simp; done) | (simp; omega)))))
        have HB7 : Below w.heap.size w w7 := HB6.trans (st7.mono HB6.size)
        replace p1 := p1.below st7 (by omega)
        replace pg := pg.below st7 (by omega)
        replace ph := ph.below st7 (by omega)
        replace px := px.below st7 (by omega)
        have py : Blk w7 (w6.heap.size) 34 #[.slice Ay ny cy, .slice By my dy] := by simpa using (Blk.new w6 34 #[.slice Ay ny cy, .slice By my dy]).below hb7 (by simp)
        replace o1 := o1.keep (same_of_below st7 (by omega))
        replace u1 := u1.keep (same_of_below st7 (by omega))
        replace og := og.keep (same_of_below st7 (by omega))
        replace ug := ug.keep (same_of_below st7 (by omega))
        replace oh := oh.keep (same_of_below st7 (by omega))
        replace uh := uh.keep (same_of_below st7 (by omega))
        replace ox := ox.keep (same_of_below st7 (by omega))
        replace ux := ux.keep (same_of_below st7 (by omega))
        replace oy := oy.keep (same_of_below st7 (by omega))
        replace uy := uy.keep (same_of_below st7 (by omega))
        clear HB6
        clear st7
        have fp1 := p1.two; have lp1 := p1.lt
        have fpg := pg.two; have lpg := pg.lt
        have fph := ph.two; have lph := ph.lt
        have fpx := px.two; have lpx := px.lt
        have fpy := py.two; have lpy := py.lt
        rw [G3.out, G4.out]
        go_wp2
        go_ret
        exact ⟨rfl, (by repeat' (first | with_reducible exact Below.refl _ _ | with_reducible assumption | with_reducible refine Below.setCell ?_ (by first | omega | (simp; done) | (simp; omega)) _ | with_reducible refine Below.alloc ?_ (by first | omega | (simp; done) | (simp; omega)) _ | with_reducible refine below_drewN ?_ _ | with_reducible refine Below.drew ?_ | (with_reducible refine Below.trans ?_ (Below.mono (by with_reducible assumption) (by first | omega | (simp; done) | (simp; omega))))))⟩
end Go.Proofs.Ytdikfkhblkapjaa
