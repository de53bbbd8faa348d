/-
  The walk of FnQueueTakeOthers: the law returns true and writes nothing that was there.
-/
import Derived.Test.YtdikfkhblkapjaaDL
import Derived.Test.YtdikfkhblkapjaaQL
import Derived.Test.YtdikfkhblkapjaaQ7
import Derived.Test.YtdikfkhblkapjaaQ8
import Derived.Test.YtdikfkhblkapjaaQK
import Derived.Deep.RegionHeld3
import Derived.IntWalk
namespace Go.Proofs.Ytdikfkhblkapjaa
open Go.RowKit
set_option linter.unusedVariables false

set_option maxHeartbeats 4000000 in
theorem fnQueueTakeOthers_walk (A : Option Addr) (n c : Nat) (bs : List Int) (B : Option Addr) (m d : Nat) (cs : List Int) (w : World) (hc : n ≤ c) (hcm : c ≤ 9223372036854775807) (hb : Bytes w w.heap.size A n bs) (hd : m ≤ d) (hdm : d ≤ 9223372036854775807) (hb' : Bytes w w.heap.size B m cs) :
    Calls Try.prog 16 #[.slice A n c, .slice B m d] w fun e w' => e = .returned (.bool true) ∧ Below w.heap.size w w' := by
  by_cases hn : 1048576 < n
  · go_enter Try.func16, Try.ntmps16
    go_wp2
    go_ret
    exact ⟨rfl, Below.refl _ _⟩
  by_cases hm : 1048576 < m
  · go_enter Try.func16, Try.ntmps16
    go_wp2
    go_ret
    exact ⟨rfl, Below.refl _ _⟩
  go_enter Try.func16, Try.ntmps16
  have HB0 : Below w.heap.size w w := Below.refl _ _
  go_wp2_with fail
  refine (drawQueueTake_any _ _ _ _ _ hb (by omega) hc hcm).mono ?_
  rintro e w1 ⟨A1, n1, c1, B1, m1, d1, xs1, ys1, x1, rfl, o1, u1, hn1, hm1, hb1⟩
  have z1 : w.heap.size ≤ w1.heap.size := by have := hb1.size; simpa using this
  have st1 : Below w.heap.size w w1 := (by repeat' (first | with_reducible exact Below.refl _ _ | with_reducible refine Below.alloc ?_ (by first | omega | (simp; done) | (simp; omega)) _ | with_reducible refine below_drewN ?_ _ | with_reducible refine Below.drew ?_ | with_reducible refine Below.setCell ?_ (by first | omega | (simp; done) | (simp; omega)) _ | with_reducible refine Below.trans ?_ (Below.mono hb1 (by first | omega | (simp; done) | (simp; omega)))))
  have HB1 : Below w.heap.size w w1 := HB0.trans (st1.mono HB0.size)
  clear HB0
  clear st1
  replace o1 := (rowI o1).mono (b' := w.heap.size) (by first | omega | (simp; done) | (simp; omega)) (Nat.le_refl _)
  replace u1 := (rowI u1).mono (b' := w.heap.size) (by first | omega | (simp; done) | (simp; omega)) (Nat.le_refl _)
  have ln1 := Lib.hid o1.len; have lm1 := Lib.hid u1.len; have cp1 := o1.cap
  have hne : (takeB xs1 ys1 x1 != takeB xs1 ys1 x1) = false := by simp
  have heq : (takeB xs1 ys1 x1 == takeB xs1 ys1 x1) = true := by simp
  have hnei : (takeItem xs1 ys1 x1 != takeItem xs1 ys1 x1) = false := by simp
  have heqi : (takeItem xs1 ys1 x1 == takeItem xs1 ys1 x1) = true := by simp
  go_wp2_with fail
  refine (implTake_any _ _ _ _ _ _ xs1 ys1 x1 _ ((o1.ints (B := w1.heap.size) (by omega)).box _) ((u1.ints (B := w1.heap.size) (by omega)).box _) (by omega) (by omega) cp1).mono ?_
  rintro e w2 ⟨Ag, ng, cg, Bg, mg, dg, rfl, og, ug, apg, hb2⟩
  have z2 : w1.heap.size + 1 ≤ w2.heap.size := by have := hb2.size; simpa using this
  have st2 : Below w1.heap.size w1 w2 := (by repeat' (first | with_reducible exact Below.refl _ _ | with_reducible refine Below.alloc ?_ (by first | omega | (simp; done) | (simp; omega)) _ | with_reducible refine below_drewN ?_ _ | with_reducible refine Below.drew ?_ | with_reducible refine Below.setCell ?_ (by first | omega | (simp; done) | (simp; omega)) _ | with_reducible refine Below.trans ?_ (Below.mono hb2 (by first | omega | (simp; done) | (simp; omega)))))
  have HB2 : Below w.heap.size w w2 := HB1.trans (st2.mono HB1.size)
  have p1 : Blk w2 (w1.heap.size) 34 #[.slice A1 n1 c1, .slice B1 m1 d1] := by simpa using (Blk.new w1 34 #[.slice A1 n1 c1, .slice B1 m1 d1]).below hb2 (by simp)
  replace o1 := o1.keep (same_of_below st2 (by omega))
  replace u1 := u1.keep (same_of_below st2 (by omega))
  clear HB1
  clear st2
  have fp1 := p1.two; have lp1 := p1.lt
  replace og := (rowI og).mono (b' := w1.heap.size + 1) (by first | omega | (simp; done) | (simp; omega)) (Nat.le_refl _)
  replace ug := (rowI ug).mono (b' := w1.heap.size + 1) (by first | omega | (simp; done) | (simp; omega)) (Nat.le_refl _)
  have hng : ng ≤ 21 := by have := og.len; have := take_len xs1 ys1 x1; have := ln1.out; have := lm1.out; omega
  have hmg : mg ≤ 21 := by have := ug.len; have := take_len xs1 ys1 x1; have := ln1.out; have := lm1.out; omega
  have cpg := og.cap
  go_wp2_with fail
  refine (specTake_any _ _ _ _ _ _ xs1 ys1 x1 _ ((o1.ints (B := w2.heap.size) (by omega)).box _) ((u1.ints (B := w2.heap.size) (by omega)).box _) (by omega) (by omega)).mono ?_
  rintro e w3 ⟨Ah, nh, ch, Bh, mh, dh, rfl, oh, uh, aph, hb3⟩
  clear fp1 lp1
  have z3 : w2.heap.size + 1 ≤ w3.heap.size := by have := hb3.size; simpa using this
  have st3 : Below w2.heap.size w2 w3 := (by repeat' (first | with_reducible exact Below.refl _ _ | with_reducible refine Below.alloc ?_ (by first | omega | (simp; done) | (simp; omega)) _ | with_reducible refine below_drewN ?_ _ | with_reducible refine Below.drew ?_ | with_reducible refine Below.setCell ?_ (by first | omega | (simp; done) | (simp; omega)) _ | with_reducible refine Below.trans ?_ (Below.mono hb3 (by first | omega | (simp; done) | (simp; omega)))))
  have HB3 : Below w.heap.size w w3 := HB2.trans (st3.mono HB2.size)
  replace p1 := p1.below st3 (by omega)
  have pg : Blk w3 (w2.heap.size) 34 #[.slice Ag ng cg, .slice Bg mg dg] := by simpa using (Blk.new w2 34 #[.slice Ag ng cg, .slice Bg mg dg]).below hb3 (by simp)
  replace o1 := o1.keep (same_of_below st3 (by omega))
  replace u1 := u1.keep (same_of_below st3 (by omega))
  replace og := og.keep (same_of_below st3 (by omega))
  replace ug := ug.keep (same_of_below st3 (by omega))
  clear HB2
  clear st3
  have fp1 := p1.two; have lp1 := p1.lt
  have fpg := pg.two; have lpg := pg.lt
  replace oh := (rowI oh).mono (b' := w2.heap.size + 1) (by first | omega | (simp; done) | (simp; omega)) (Nat.le_refl _)
  replace uh := (rowI uh).mono (b' := w2.heap.size + 1) (by first | omega | (simp; done) | (simp; omega)) (Nat.le_refl _)
  have hnh : nh ≤ 21 := by have := oh.len; have := take_len xs1 ys1 x1; have := ln1.out; have := lm1.out; omega
  have hmh : mh ≤ 21 := by have := uh.len; have := take_len xs1 ys1 x1; have := ln1.out; have := lm1.out; omega
  have cph := oh.cap
  go_wp2_with fail
  refine (sameQueue_same _ _ _ _ _ _ (takeItems xs1 ys1 x1) (takeTaken xs1 ys1 x1) _ _ _ _ _ _ _ ((og.ints (B := w3.heap.size) (by omega)).box _) ((ug.ints (B := w3.heap.size) (by omega)).box _) ((oh.ints (B := w3.heap.size) (by omega)).box _) ((uh.ints (B := w3.heap.size) (by omega)).box _) (by omega) (by omega) (by omega) (by omega)).mono ?_
  rintro e w4 ⟨rfl, hb4⟩
  clear fp1 lp1 fpg lpg
  have z4 : w3.heap.size + 1 ≤ w4.heap.size := by have := hb4.size; simpa using this
  have st4 : Below w3.heap.size w3 w4 := (by repeat' (first | with_reducible exact Below.refl _ _ | with_reducible refine Below.alloc ?_ (by first | omega | (simp; done) | (simp; omega)) _ | with_reducible refine below_drewN ?_ _ | with_reducible refine Below.drew ?_ | with_reducible refine Below.setCell ?_ (by first | omega | (simp; done) | (simp; omega)) _ | with_reducible refine Below.trans ?_ (Below.mono hb4 (by first | omega | (simp; done) | (simp; omega)))))
  have HB4 : Below w.heap.size w w4 := HB3.trans (st4.mono HB3.size)
  replace p1 := p1.below st4 (by omega)
  replace pg := pg.below st4 (by omega)
  have ph : Blk w4 (w3.heap.size) 34 #[.slice Ah nh ch, .slice Bh mh dh] := by simpa using (Blk.new w3 34 #[.slice Ah nh ch, .slice Bh mh dh]).below hb4 (by simp)
  replace o1 := o1.keep (same_of_below st4 (by omega))
  replace u1 := u1.keep (same_of_below st4 (by omega))
  replace og := og.keep (same_of_below st4 (by omega))
  replace ug := ug.keep (same_of_below st4 (by omega))
  replace oh := oh.keep (same_of_below st4 (by omega))
  replace uh := uh.keep (same_of_below st4 (by omega))
  clear HB3
  clear st4
  have fp1 := p1.two; have lp1 := p1.lt
  have fpg := pg.two; have lpg := pg.lt
  have fph := ph.two; have lph := ph.lt
  cases hB : takeB xs1 ys1 x1
  · go_wp2_with fail
    refine (sameQueue_same _ _ _ _ _ _ (takeItems xs1 ys1 x1) (takeTaken xs1 ys1 x1) _ _ _ _ _ _ _ (og.ints (B := w4.heap.size) (by omega)) (ug.ints (B := w4.heap.size) (by omega)) (oh.ints (B := w4.heap.size) (by omega)) (uh.ints (B := w4.heap.size) (by omega)) (by omega) (by omega) (by omega) (by omega)).mono ?_
    rintro e w5 ⟨rfl, hb5⟩
    clear fp1 lp1 fpg lpg fph lph
    have z5 : w4.heap.size ≤ w5.heap.size := by have := hb5.size; simpa using this
    have st5 : Below w4.heap.size w4 w5 := (by repeat' (first | with_reducible exact Below.refl _ _ | with_reducible refine Below.alloc ?_ (by first | omega | (simp; done) | (simp; omega)) _ | with_reducible refine below_drewN ?_ _ | with_reducible refine Below.drew ?_ | with_reducible refine Below.setCell ?_ (by first | omega | (simp; done) | (simp; omega)) _ | with_reducible refine Below.trans ?_ (Below.mono hb5 (by first | omega | (simp; done) | (simp; omega)))))
    have HB5 : Below w.heap.size w w5 := HB4.trans (st5.mono HB4.size)
    replace p1 := p1.below st5 (by omega)
    replace pg := pg.below st5 (by omega)
    replace ph := ph.below st5 (by omega)
    replace o1 := o1.keep (same_of_below st5 (by omega))
    replace u1 := u1.keep (same_of_below st5 (by omega))
    replace og := og.keep (same_of_below st5 (by omega))
    replace ug := ug.keep (same_of_below st5 (by omega))
    replace oh := oh.keep (same_of_below st5 (by omega))
    replace uh := uh.keep (same_of_below st5 (by omega))
    clear HB4
    clear st5
    have fp1 := p1.two; have lp1 := p1.lt
    have fpg := pg.two; have lpg := pg.lt
    have fph := ph.two; have lph := ph.lt
    go_wp2
    go_ret
    exact ⟨rfl, HB5⟩
  · obtain ⟨e1, e2, e3, hv, hin, hlt⟩ := take_true hB
    rw [e1] at og oh
    rw [e2] at ug uh
    rw [e3]
    have hv2 := Lib.hid (qv_take hB)
    have hx03 : 0 ≤ x1 ∧ x1 ≤ 3 := by simpa [inB] using hin
    obtain ⟨hx0, hx3⟩ := hx03
    have hmn : m1 < n1 := by have := ln1.out; have := lm1.out; omega
    clear e1 e2 e3 hnei heqi hin hlt
    have hoe : ((x1 + 1 + (m : Int) % 3) % 4 == x1) = false := by rw [beq_eq_false_iff_ne]; omega
    have hoe' : (x1 == (x1 + 1 + (m : Int) % 3) % 4) = false := by rw [beq_eq_false_iff_ne]; omega
    have hqo := Lib.hid (qof_other hB hoe')
    clear hoe'
    go_wp2_with fail
    go_region_held3 (fun w' => w'.cell? ⟨w2.heap.size, 0, none⟩ = some (.slice Ag ng cg) ∧ w'.cell? ⟨w2.heap.size, 1, none⟩ = some (.slice Bg mg dg) ∧ w'.cell? ⟨w1.heap.size, 0, none⟩ = some (.slice A1 n1 c1) ∧ w'.cell? ⟨w1.heap.size, 1, none⟩ = some (.slice B1 m1 d1))
      (first | exact ⟨fpg.1, fpg.2.1, fp1.1, fp1.2.1⟩ | exact ⟨gg.1, gg.2.1, g1.1, g1.2.1⟩ | exact ⟨kg.1, kg.2.1, k1.1, k1.2.1⟩ | exact ⟨jg.1, jg.2.1, j1.1, j1.2.1⟩)
      (first
        | (go_at_call 33; (with_reducible refine (implQueueOf_any _ _ _ _ _ _ xs1 (ys1 ++ [x1]) _ _ (og.intsD (by omega)) (ug.intsD (by omega)) (by omega) (by omega)).mono ?_); rintro e w5 ⟨Av, nv, cv, rfl, ov, hb5⟩; have z5 : w4.heap.size ≤ w5.heap.size := hb5.size; have st5 : Below w4.heap.size w4 w5 := (by repeat' (first | with_reducible exact Below.refl _ _ | with_reducible refine Below.alloc ?_ (by first | omega | (simp; done) | (simp; omega)) _ | with_reducible refine below_drewN ?_ _ | with_reducible refine Below.drew ?_ | with_reducible refine Below.setCell ?_ (by first | omega | (simp; done) | (simp; omega)) _ | with_reducible refine Below.trans ?_ (Below.mono hb5 (by first | omega | (simp; done) | (simp; omega))))); have g1 := (p1.below st5 lp1).two; have gg := (pg.below st5 lpg).two; have lnv := qof_len xs1 (ys1 ++ [x1]) ((x1 + 1 + (m : Int) % 3) % 4); have lnv2 : nv ≤ 22 := (by have := ov.len; have := lm1.out; simp at lnv; omega); clear lnv)
        | (go_at_call 33; (with_reducible refine (implQueueOf_any _ _ _ _ _ _ xs1 ys1 _ _ ((o1.keep (same_of_below st5 (by omega))).ints (by omega)) ((u1.keep (same_of_below st5 (by omega))).ints (by omega)) (by omega) (by omega)).mono ?_); rintro e w6 ⟨Ay, ny, cy, rfl, oy, hb6⟩; have z6 : w5.heap.size ≤ w6.heap.size := hb6.size; have st6 : Below w4.heap.size w4 w6 := st5.trans (((by repeat' (first | with_reducible exact Below.refl _ _ | with_reducible refine Below.alloc ?_ (by first | omega | (simp; done) | (simp; omega)) _ | with_reducible refine below_drewN ?_ _ | with_reducible refine Below.drew ?_ | with_reducible refine Below.setCell ?_ (by first | omega | (simp; done) | (simp; omega)) _ | with_reducible refine Below.trans ?_ (Below.mono hb6 (by first | omega | (simp; done) | (simp; omega))))) : Below w5.heap.size w5 w6).mono z5); have k1 := (p1.below st6 lp1).two; have kg := (pg.below st6 lpg).two; have lny := qof_len xs1 ys1 ((x1 + 1 + (m : Int) % 3) % 4); have lny2 : ny ≤ 22 := (by have := oy.len; have := lm1.out; omega); clear lny)
        | (go_at_call 31; (with_reducible refine (sameInts_same _ _ _ _ _ _ (qof xs1 ys1 ((x1 + 1 + (m : Int) % 3) % 4)) _ (hqo.out ▸ (ov.ints.up hb6 hb6.size)) oy.ints (by omega) (by omega)).mono ?_); rintro e w7 ⟨rfl, hb7⟩; have z7 : w6.heap.size ≤ w7.heap.size := hb7.size; have st7 : Below w4.heap.size w4 w7 := st6.trans (((by repeat' (first | with_reducible exact Below.refl _ _ | with_reducible refine Below.alloc ?_ (by first | omega | (simp; done) | (simp; omega)) _ | with_reducible refine below_drewN ?_ _ | with_reducible refine Below.drew ?_ | with_reducible refine Below.setCell ?_ (by first | omega | (simp; done) | (simp; omega)) _ | with_reducible refine Below.trans ?_ (Below.mono hb7 (by first | omega | (simp; done) | (simp; omega))))) : Below w6.heap.size w6 w7).mono (by omega)); have j1 := (p1.below st7 lp1).two; have jg := (pg.below st7 lpg).two))
    go_wp2
    go_ret
    exact ⟨rfl, HB4.trans (st7.mono HB4.size)⟩
end Go.Proofs.Ytdikfkhblkapjaa
