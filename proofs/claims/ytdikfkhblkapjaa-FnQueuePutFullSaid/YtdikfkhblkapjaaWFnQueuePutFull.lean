/-
  The walk of FnQueuePutFull: the law returns true and writes nothing that was there.
-/
import Derived.Test.YtdikfkhblkapjaaDP
import Derived.Test.YtdikfkhblkapjaaQL
import Derived.Test.YtdikfkhblkapjaaQK
import Derived.Deep.RegionHeld3
import Derived.IntWalk
namespace Go.Proofs.Ytdikfkhblkapjaa
open Go.RowKit
set_option linter.unusedVariables false

set_option maxHeartbeats 4000000 in
theorem fnQueuePutFull_walk (A : Option Addr) (n c : Nat) (bs : List Int) (w : World) (hc : n ≤ c) (hcm : c ≤ 9223372036854775807) (hb : Bytes w w.heap.size A n bs) :
    Calls Try.prog 8 #[.slice A n c] w fun e w' => e = .returned (.bool true) ∧ Below w.heap.size w w' := by
  by_cases hn : 1048576 < n
  · go_enter Try.func8, Try.ntmps8
    go_wp2
    go_ret
    exact ⟨rfl, Below.refl _ _⟩
  go_enter Try.func8, Try.ntmps8
  have HB0 : Below w.heap.size w w := Below.refl _ _
  go_wp2_with fail
  refine (drawQueuePut_any _ _ _ _ _ hb (by omega) hc hcm).mono ?_
  rintro e w1 ⟨A1, n1, c1, B1, m1, d1, xs1, ys1, x1, rfl, o1, u1, hn1, hm1, hb1⟩
  have z1 : w.heap.size ≤ w1.heap.size := by have := hb1.size; simpa using this
  have st1 : Below w.heap.size w w1 := (by repeat' (first | with_reducible exact Below.refl _ _ | with_reducible refine Below.alloc ?_ (by first | omega | (simp; done) | (simp; omega)) _ | with_reducible refine below_drewN ?_ _ | with_reducible refine Below.drew ?_ | with_reducible refine Below.setCell ?_ (by first | omega | (simp; done) | (simp; omega)) _ | with_reducible refine Below.trans ?_ (Below.mono hb1 (by first | omega | (simp; done) | (simp; omega)))))
  have HB1 : Below w.heap.size w w1 := HB0.trans (st1.mono HB0.size)
  clear HB0
  clear st1
  replace o1 := (rowI o1).mono (b' := w.heap.size) (by first | omega | (simp; done) | (simp; omega)) (Nat.le_refl _)
  replace u1 := (rowI u1).mono (b' := w.heap.size) (by first | omega | (simp; done) | (simp; omega)) (Nat.le_refl _)
  have ln1 := Lib.hid o1.len; have lm1 := Lib.hid u1.len; have cp1 := o1.cap
  have hne : (putB xs1 ys1 x1 != putB xs1 ys1 x1) = false := by simp
  have heq : (putB xs1 ys1 x1 == putB xs1 ys1 x1) = true := by simp
  go_wp2_with fail
  refine (implPut_any _ _ _ _ _ _ xs1 ys1 x1 _ ((o1.ints (B := w1.heap.size) (by omega)).box _) ((u1.ints (B := w1.heap.size) (by omega)).box _) (by omega) (by omega)).mono ?_
  rintro e w2 ⟨Ag, ng, cg, Bg, mg, dg, rfl, og, ug, apg, hb2⟩
  have z2 : w1.heap.size + 1 ≤ w2.heap.size := by have := hb2.size; simpa using this
  have st2 : Below w1.heap.size w1 w2 := (by repeat' (first | with_reducible exact Below.refl _ _ | with_reducible refine Below.alloc ?_ (by first | omega | (simp; done) | (simp; omega)) _ | with_reducible refine below_drewN ?_ _ | with_reducible refine Below.drew ?_ | with_reducible refine Below.setCell ?_ (by first | omega | (simp; done) | (simp; omega)) _ | with_reducible refine Below.trans ?_ (Below.mono hb2 (by first | omega | (simp; done) | (simp; omega)))))
  have HB2 : Below w.heap.size w w2 := HB1.trans (st2.mono HB1.size)
  have p1 : Blk w2 (w1.heap.size) 34 #[.slice A1 n1 c1, .slice B1 m1 d1] := by simpa using (Blk.new w1 34 #[.slice A1 n1 c1, .slice B1 m1 d1]).below hb2 (by simp)
  replace o1 := o1.keep (same_of_below st2 (by omega))
  replace u1 := u1.keep (same_of_below st2 (by omega))
  clear HB1
  clear st2
  have fp1 := p1.two; have lp1 := p1.lt
  replace og := (rowI og).mono (b' := w1.heap.size + 1) (by first | omega | (simp; done) | (simp; omega)) (Nat.le_refl _)
  replace ug := (rowI ug).mono (b' := w1.heap.size + 1) (by first | omega | (simp; done) | (simp; omega)) (Nat.le_refl _)
  have hng : ng ≤ 21 := by have := og.len; have := put_len xs1 ys1 x1; have := ln1.out; have := lm1.out; omega
  have hmg : mg ≤ 21 := by have := ug.len; have := put_len xs1 ys1 x1; have := ln1.out; have := lm1.out; omega
  have cpg := og.cap
  go_wp2_with fail
  refine (specPut_any _ _ _ _ _ _ xs1 ys1 x1 _ ((o1.ints (B := w2.heap.size) (by omega)).box _) ((u1.ints (B := w2.heap.size) (by omega)).box _) (by omega) (by omega)).mono ?_
  rintro e w3 ⟨Ah, nh, ch, Bh, mh, dh, rfl, oh, uh, aph, hb3⟩
  clear fp1 lp1
  have z3 : w2.heap.size + 1 ≤ w3.heap.size := by have := hb3.size; simpa using this
  have st3 : Below w2.heap.size w2 w3 := (by repeat' (first | with_reducible exact Below.refl _ _ | with_reducible refine Below.alloc ?_ (by first | omega | (simp; done) | (simp; omega)) _ | with_reducible refine below_drewN ?_ _ | with_reducible refine Below.drew ?_ | with_reducible refine Below.setCell ?_ (by first | omega | (simp; done) | (simp; omega)) _ | with_reducible refine Below.trans ?_ (Below.mono hb3 (by first | omega | (simp; done) | (simp; omega)))))
  have HB3 : Below w.heap.size w w3 := HB2.trans (st3.mono HB2.size)
  replace p1 := p1.below st3 (by omega)
  have pg : Blk w3 (w2.heap.size) 34 #[.slice Ag ng cg, .slice Bg mg dg] := by simpa using (Blk.new w2 34 #[.slice Ag ng cg, .slice Bg mg dg]).below hb3 (by simp)
  replace o1 := o1.keep (same_of_below st3 (by omega))
  replace u1 := u1.keep (same_of_below st3 (by omega))
  replace og := og.keep (same_of_below st3 (by omega))
  replace ug := ug.keep (same_of_below st3 (by omega))
  clear HB2
  clear st3
  have fp1 := p1.two; have lp1 := p1.lt
  have fpg := pg.two; have lpg := pg.lt
  replace oh := (rowI oh).mono (b' := w2.heap.size + 1) (by first | omega | (simp; done) | (simp; omega)) (Nat.le_refl _)
  replace uh := (rowI uh).mono (b' := w2.heap.size + 1) (by first | omega | (simp; done) | (simp; omega)) (Nat.le_refl _)
  have hnh : nh ≤ 21 := by have := oh.len; have := put_len xs1 ys1 x1; have := ln1.out; have := lm1.out; omega
  have hmh : mh ≤ 21 := by have := uh.len; have := put_len xs1 ys1 x1; have := ln1.out; have := lm1.out; omega
  have cph := oh.cap
  go_wp2_with fail
  refine (sameQueue_same _ _ _ _ _ _ (putItems xs1 ys1 x1) (putTaken xs1 ys1 x1) _ _ _ _ _ _ _ ((og.ints (B := w3.heap.size) (by omega)).box _) ((ug.ints (B := w3.heap.size) (by omega)).box _) ((oh.ints (B := w3.heap.size) (by omega)).box _) ((uh.ints (B := w3.heap.size) (by omega)).box _) (by omega) (by omega) (by omega) (by omega)).mono ?_
  rintro e w4 ⟨rfl, hb4⟩
  clear fp1 lp1 fpg lpg
  have z4 : w3.heap.size + 1 ≤ w4.heap.size := by have := hb4.size; simpa using this
  have st4 : Below w3.heap.size w3 w4 := (by repeat' (first | with_reducible exact Below.refl _ _ | with_reducible refine Below.alloc ?_ (by first | omega | (simp; done) | (simp; omega)) _ | with_reducible refine below_drewN ?_ _ | with_reducible refine Below.drew ?_ | with_reducible refine Below.setCell ?_ (by first | omega | (simp; done) | (simp; omega)) _ | with_reducible refine Below.trans ?_ (Below.mono hb4 (by first | omega | (simp; done) | (simp; omega)))))
  have HB4 : Below w.heap.size w w4 := HB3.trans (st4.mono HB3.size)
  replace p1 := p1.below st4 (by omega)
  replace pg := pg.below st4 (by omega)
  have ph : Blk w4 (w3.heap.size) 34 #[.slice Ah nh ch, .slice Bh mh dh] := by simpa using (Blk.new w3 34 #[.slice Ah nh ch, .slice Bh mh dh]).below hb4 (by simp)
  replace o1 := o1.keep (same_of_below st4 (by omega))
  replace u1 := u1.keep (same_of_below st4 (by omega))
  replace og := og.keep (same_of_below st4 (by omega))
  replace ug := ug.keep (same_of_below st4 (by omega))
  replace oh := oh.keep (same_of_below st4 (by omega))
  replace uh := uh.keep (same_of_below st4 (by omega))
  clear HB3
  clear st4
  have fp1 := p1.two; have lp1 := p1.lt
  have fpg := pg.two; have lpg := pg.lt
  have fph := ph.two; have lph := ph.lt
  go_wp2_with fail
  refine (specQueueValid_any _ _ _ _ _ _ xs1 ys1 _ (o1.ints (B := w4.heap.size) (by omega)) (u1.ints (B := w4.heap.size) (by omega)) (by omega) (by omega)).mono ?_
  rintro e w5 ⟨rfl, hb5⟩
  clear fp1 lp1 fpg lpg fph lph
  have z5 : w4.heap.size ≤ w5.heap.size := by have := hb5.size; simpa using this
  have st5 : Below w4.heap.size w4 w5 := (by repeat' (first | with_reducible exact Below.refl _ _ | with_reducible refine Below.alloc ?_ (by first | omega | (simp; done) | (simp; omega)) _ | with_reducible refine below_drewN ?_ _ | with_reducible refine Below.drew ?_ | with_reducible refine Below.setCell ?_ (by first | omega | (simp; done) | (simp; omega)) _ | with_reducible refine Below.trans ?_ (Below.mono hb5 (by first | omega | (simp; done) | (simp; omega)))))
  have HB5 : Below w.heap.size w w5 := HB4.trans (st5.mono HB4.size)
  replace p1 := p1.below st5 (by omega)
  replace pg := pg.below st5 (by omega)
  replace ph := ph.below st5 (by omega)
  replace o1 := o1.keep (same_of_below st5 (by omega))
  replace u1 := u1.keep (same_of_below st5 (by omega))
  replace og := og.keep (same_of_below st5 (by omega))
  replace ug := ug.keep (same_of_below st5 (by omega))
  replace oh := oh.keep (same_of_below st5 (by omega))
  replace uh := uh.keep (same_of_below st5 (by omega))
  clear HB4
  clear st5
  have fp1 := p1.two; have lp1 := p1.lt
  have fpg := pg.two; have lpg := pg.lt
  have fph := ph.two; have lph := ph.lt
  cases hv : qvB xs1 ys1
  · go_wp2_with fail
    refine (sameQueue_same _ _ _ _ _ _ (putItems xs1 ys1 x1) (putTaken xs1 ys1 x1) _ _ _ _ _ _ _ (og.ints (B := w5.heap.size) (by omega)) (ug.ints (B := w5.heap.size) (by omega)) (oh.ints (B := w5.heap.size) (by omega)) (uh.ints (B := w5.heap.size) (by omega)) (by omega) (by omega) (by omega) (by omega)).mono ?_
    rintro e w6 ⟨rfl, hb6⟩
    clear fp1 lp1 fpg lpg fph lph
    have z6 : w5.heap.size ≤ w6.heap.size := by have := hb6.size; simpa using this
    have st6 : Below w5.heap.size w5 w6 := (by repeat' (first | with_reducible exact Below.refl _ _ | with_reducible refine Below.alloc ?_ (by first | omega | (simp; done) | (simp; omega)) _ | with_reducible refine below_drewN ?_ _ | with_reducible refine Below.drew ?_ | with_reducible refine Below.setCell ?_ (by first | omega | (simp; done) | (simp; omega)) _ | with_reducible refine Below.trans ?_ (Below.mono hb6 (by first | omega | (simp; done) | (simp; omega)))))
    have HB6 : Below w.heap.size w w6 := HB5.trans (st6.mono HB5.size)
    replace p1 := p1.below st6 (by omega)
    replace pg := pg.below st6 (by omega)
    replace ph := ph.below st6 (by omega)
    replace o1 := o1.keep (same_of_below st6 (by omega))
    replace u1 := u1.keep (same_of_below st6 (by omega))
    replace og := og.keep (same_of_below st6 (by omega))
    replace ug := ug.keep (same_of_below st6 (by omega))
    replace oh := oh.keep (same_of_below st6 (by omega))
    replace uh := uh.keep (same_of_below st6 (by omega))
    clear HB5
    clear st6
    have fp1 := p1.two; have lp1 := p1.lt
    have fpg := pg.two; have lpg := pg.lt
    have fph := ph.two; have lph := ph.lt
    go_wp2
    go_ret
    exact ⟨rfl, HB6⟩
  · rcases (by omega : x1 < 0 ∨ 0 ≤ x1) with hlo | hlo
    · go_wp2_with fail
      refine (sameQueue_same _ _ _ _ _ _ (putItems xs1 ys1 x1) (putTaken xs1 ys1 x1) _ _ _ _ _ _ _ (og.ints (B := w5.heap.size) (by omega)) (ug.ints (B := w5.heap.size) (by omega)) (oh.ints (B := w5.heap.size) (by omega)) (uh.ints (B := w5.heap.size) (by omega)) (by omega) (by omega) (by omega) (by omega)).mono ?_
      rintro e w6 ⟨rfl, hb6⟩
      clear fp1 lp1 fpg lpg fph lph
      have z6 : w5.heap.size ≤ w6.heap.size := by have := hb6.size; simpa using this
      have st6 : Below w5.heap.size w5 w6 := (by repeat' (first | with_reducible exact Below.refl _ _ | with_reducible refine Below.alloc ?_ (by first | omega | (simp; done) | (simp; omega)) _ | with_reducible refine below_drewN ?_ _ | with_reducible refine Below.drew ?_ | with_reducible refine Below.setCell ?_ (by first | omega | (simp; done) | (simp; omega)) _ | with_reducible refine Below.trans ?_ (Below.mono hb6 (by first | omega | (simp; done) | (simp; omega)))))
      have HB6 : Below w.heap.size w w6 := HB5.trans (st6.mono HB5.size)
      replace p1 := p1.below st6 (by omega)
      replace pg := pg.below st6 (by omega)
      replace ph := ph.below st6 (by omega)
      replace o1 := o1.keep (same_of_below st6 (by omega))
      replace u1 := u1.keep (same_of_below st6 (by omega))
      replace og := og.keep (same_of_below st6 (by omega))
      replace ug := ug.keep (same_of_below st6 (by omega))
      replace oh := oh.keep (same_of_below st6 (by omega))
      replace uh := uh.keep (same_of_below st6 (by omega))
      clear HB5
      clear st6
      have fp1 := p1.two; have lp1 := p1.lt
      have fpg := pg.two; have lpg := pg.lt
      have fph := ph.two; have lph := ph.lt
      go_wp2
      go_ret
      exact ⟨rfl, HB6⟩
    · rcases (by omega : 999 < x1 ∨ x1 ≤ 999) with hhi | hhi
      · go_wp2_with fail
        refine (sameQueue_same _ _ _ _ _ _ (putItems xs1 ys1 x1) (putTaken xs1 ys1 x1) _ _ _ _ _ _ _ (og.ints (B := w5.heap.size) (by omega)) (ug.ints (B := w5.heap.size) (by omega)) (oh.ints (B := w5.heap.size) (by omega)) (uh.ints (B := w5.heap.size) (by omega)) (by omega) (by omega) (by omega) (by omega)).mono ?_
        rintro e w6 ⟨rfl, hb6⟩
        clear fp1 lp1 fpg lpg fph lph
        have z6 : w5.heap.size ≤ w6.heap.size := by have := hb6.size; simpa using this
        have st6 : Below w5.heap.size w5 w6 := (by repeat' (first | with_reducible exact Below.refl _ _ | with_reducible refine Below.alloc ?_ (by first | omega | (simp; done) | (simp; omega)) _ | with_reducible refine below_drewN ?_ _ | with_reducible refine Below.drew ?_ | with_reducible refine Below.setCell ?_ (by first | omega | (simp; done) | (simp; omega)) _ | with_reducible refine Below.trans ?_ (Below.mono hb6 (by first | omega | (simp; done) | (simp; omega)))))
        have HB6 : Below w.heap.size w w6 := HB5.trans (st6.mono HB5.size)
        replace p1 := p1.below st6 (by omega)
        replace pg := pg.below st6 (by omega)
        replace ph := ph.below st6 (by omega)
        replace o1 := o1.keep (same_of_below st6 (by omega))
        replace u1 := u1.keep (same_of_below st6 (by omega))
        replace og := og.keep (same_of_below st6 (by omega))
        replace ug := ug.keep (same_of_below st6 (by omega))
        replace oh := oh.keep (same_of_below st6 (by omega))
        replace uh := uh.keep (same_of_below st6 (by omega))
        clear HB5
        clear st6
        have fp1 := p1.two; have lp1 := p1.lt
        have fpg := pg.two; have lpg := pg.lt
        have fph := ph.two; have lph := ph.lt
        go_wp2
        go_ret
        exact ⟨rfl, HB6⟩
      · have hok : putOk xs1 ys1 x1 = true := by simp [putOk, hv, inB]; omega
        have hl20 := (qv_len4 hv).1
        have hn20 : n1 ≤ 20 := by have := ln1.out; omega
        clear hl20
        by_cases hful : n1 = 20
        · subst hful
          have e20 := ln1.out
          obtain ⟨e1, e2, e3⟩ := put_full hok e20
          rw [e1] at og
          rw [e2] at ug
          rw [e3]
          clear e1 e2 e3 e20 heq hne
          go_wp2_with fail
          refine (sameQueue_same _ _ _ _ _ _ xs1 ys1 _ _ _ _ _ _ _ (og.ints (B := w5.heap.size) (by omega)) (ug.ints (B := w5.heap.size) (by omega)) (o1.ints (B := w5.heap.size) (by omega)) (u1.ints (B := w5.heap.size) (by omega)) (by omega) (by omega) (by omega) (by omega)).mono ?_
          rintro e w6 ⟨rfl, hb6⟩
          clear fp1 lp1 fpg lpg fph lph
          have z6 : w5.heap.size ≤ w6.heap.size := by have := hb6.size; simpa using this
          have st6 : Below w5.heap.size w5 w6 := (by repeat' (first | with_reducible exact Below.refl _ _ | with_reducible refine Below.alloc ?_ (by first | omega | (simp; done) | (simp; omega)) _ | with_reducible refine below_drewN ?_ _ | with_reducible refine Below.drew ?_ | with_reducible refine Below.setCell ?_ (by first | omega | (simp; done) | (simp; omega)) _ | with_reducible refine Below.trans ?_ (Below.mono hb6 (by first | omega | (simp; done) | (simp; omega)))))
          have HB6 : Below w.heap.size w w6 := HB5.trans (st6.mono HB5.size)
          replace p1 := p1.below st6 (by omega)
          replace pg := pg.below st6 (by omega)
          replace ph := ph.below st6 (by omega)
          replace o1 := o1.keep (same_of_below st6 (by omega))
          replace u1 := u1.keep (same_of_below st6 (by omega))
          replace og := og.keep (same_of_below st6 (by omega))
          replace ug := ug.keep (same_of_below st6 (by omega))
          replace oh := oh.keep (same_of_below st6 (by omega))
          replace uh := uh.keep (same_of_below st6 (by omega))
          clear HB5
          clear st6
          have fp1 := p1.two; have lp1 := p1.lt
          have fpg := pg.two; have lpg := pg.lt
          have fph := ph.two; have lph := ph.lt
          go_wp2
          go_ret
          exact ⟨rfl, HB6⟩
        · have hlt : n1 < 20 := by omega
          have e3 : putB xs1 ys1 x1 = true := by have := ln1.out; simp [putB, hok]; omega
          rw [e3]
          clear e3 heq hne
          go_wp2
          go_ret
          exact ⟨rfl, HB5⟩
end Go.Proofs.Ytdikfkhblkapjaa
