/-
  The walk of FnQueuePut: the law returns true and writes nothing that was there.
-/
import Derived.Test.YtclajknghfnhcaaDP
import Derived.Test.YtclajknghfnhcaaQL
import Derived.Test.YtclajknghfnhcaaQ8
import Derived.Test.YtclajknghfnhcaaQK
import Derived.Deep.RegionHeld3
import Derived.IntWalk
namespace Go.Proofs.Ytclajknghfnhcaa
open Go.RowKit
set_option linter.unusedVariables false

set_option maxHeartbeats 40000000 in
theorem fnQueuePut_walk (A : Option Addr) (n c : Nat) (bs : List Int) (w : World) (hc : n ≤ c) (hcm : c ≤ 9223372036854775807) (hb : Bytes w w.heap.size A n bs) :
    Calls Try.prog 3 #[.slice A n c] w fun e w' => e = .returned (.bool true) ∧ Below w.heap.size w w' := by
  by_cases hn : 1048576 < n
  · go_enter Try.func3, Try.ntmps3
    go_wp2
    go_ret
    exact ⟨rfl, Below.refl _ _⟩
  go_enter Try.func3, Try.ntmps3
  have HB0 : Below w.heap.size w w := Below.refl _ _
  go_wp2_with fail
  refine (drawQueuePut_any _ _ _ _ _ hb (by omega) hc hcm).mono ?_
  rintro e w1 ⟨A1, n1, c1, B1, m1, d1, xs1, ys1, x1, rfl, o1, u1, hn1, hm1, hb1⟩
  have z1 : w.heap.size ≤ w1.heap.size := by have := hb1.size; simpa using this
  have st1 : Below w.heap.size w w1 := (by repeat' (first | with_reducible exact Below.refl _ _ | with_reducible refine Below.alloc ?_ (by first | omega | (simp; done) | (simp; omega)) _ | with_reducible refine below_drewN ?_ _ | with_reducible refine Below.drew ?_ | with_reducible refine Below.setCell ?_ (by first | omega | (simp; done) | (simp; omega)) _ | with_reducible refine Below.trans ?_ (Below.mono hb1 (by first | omega | (simp; done) | (simp; omega)))))
  have HB1 : Below w.heap.size w w1 := HB0.trans (st1.mono HB0.size)
  clear HB0
  clear st1
  replace o1 := (rowI o1).mono (b' := w.heap.size) (by first | omega | (simp; done) | (simp; omega)) (Nat.le_refl _)
  replace u1 := (rowI u1).mono (b' := w.heap.size) (by first | omega | (simp; done) | (simp; omega)) (Nat.le_refl _)
  have ln1 := Lib.hid o1.len; have lm1 := Lib.hid u1.len; have cp1 := o1.cap
  have hne : (putB xs1 ys1 x1 != putB xs1 ys1 x1) = false := by simp
  have heq : (putB xs1 ys1 x1 == putB xs1 ys1 x1) = true := by simp
  go_wp2_with fail
  refine (implPut_any _ _ _ _ _ _ xs1 ys1 x1 _ ((o1.ints (B := w1.heap.size) (by omega)).box _) ((u1.ints (B := w1.heap.size) (by omega)).box _) (by omega) (by omega)).mono ?_
  rintro e w2 ⟨Ag, ng, cg, Bg, mg, dg, rfl, og, ug, apg, hb2⟩
  have z2 : w1.heap.size + 1 ≤ w2.heap.size := by have := hb2.size; simpa using this
  have st2 : Below w1.heap.size w1 w2 := (by repeat' (first | with_reducible exact Below.refl _ _ | with_reducible refine Below.alloc ?_ (by first | omega | (simp; done) | (simp; omega)) _ | with_reducible refine below_drewN ?_ _ | with_reducible refine Below.drew ?_ | with_reducible refine Below.setCell ?_ (by first | omega | (simp; done) | (simp; omega)) _ | with_reducible refine Below.trans ?_ (Below.mono hb2 (by first | omega | (simp; done) | (simp; omega)))))
  have HB2 : Below w.heap.size w w2 := HB1.trans (st2.mono HB1.size)
  have p1 : Blk w2 (w1.heap.size) 25 #[.slice A1 n1 c1, .slice B1 m1 d1] := by simpa using (Blk.new w1 25 #[.slice A1 n1 c1, .slice B1 m1 d1]).below hb2 (by first | (simp; done) | (simp; omega))
  replace o1 := o1.keep (same_of_below st2 (by omega))
  replace u1 := u1.keep (same_of_below st2 (by omega))
  clear HB1
  clear st2
  have fp1 := p1.two; have lp1 := p1.lt
  replace og := (rowI og).mono (b' := w1.heap.size + 1) (by first | omega | (simp; done) | (simp; omega)) (Nat.le_refl _)
  replace ug := (rowI ug).mono (b' := w1.heap.size + 1) (by first | omega | (simp; done) | (simp; omega)) (Nat.le_refl _)
  have hng : ng ≤ 21 := by have := og.len; have := put_len xs1 ys1 x1; have := ln1.out; have := lm1.out; omega
  have hmg : mg ≤ 21 := by have := ug.len; have := put_len xs1 ys1 x1; have := ln1.out; have := lm1.out; omega
  have cpg := og.cap
  go_wp2_with fail
  refine (specPut_any _ _ _ _ _ _ xs1 ys1 x1 _ ((o1.ints (B := w2.heap.size) (by omega)).box _) ((u1.ints (B := w2.heap.size) (by omega)).box _) (by omega) (by omega)).mono ?_
  rintro e w3 ⟨Ah, nh, ch, Bh, mh, dh, rfl, oh, uh, aph, hb3⟩
  clear fp1 lp1
  have z3 : w2.heap.size + 1 ≤ w3.heap.size := by have := hb3.size; simpa using this
  have st3 : Below w2.heap.size w2 w3 := (by repeat' (first | with_reducible exact Below.refl _ _ | with_reducible refine Below.alloc ?_ (by first | omega | (simp; done) | (simp; omega)) _ | with_reducible refine below_drewN ?_ _ | with_reducible refine Below.drew ?_ | with_reducible refine Below.setCell ?_ (by first | omega | (simp; done) | (simp; omega)) _ | with_reducible refine Below.trans ?_ (Below.mono hb3 (by first | omega | (simp; done) | (simp; omega)))))
  have HB3 : Below w.heap.size w w3 := HB2.trans (st3.mono HB2.size)
  replace p1 := p1.below st3 p1.lt
  have pg : Blk w3 (w2.heap.size) 25 #[.slice Ag ng cg, .slice Bg mg dg] := by simpa using (Blk.new w2 25 #[.slice Ag ng cg, .slice Bg mg dg]).below hb3 (by first | (simp; done) | (simp; omega))
  replace o1 := o1.keep (same_of_below st3 (by omega))
  replace u1 := u1.keep (same_of_below st3 (by omega))
  replace og := og.keep (same_of_below st3 (by omega))
  replace ug := ug.keep (same_of_below st3 (by omega))
  clear HB2
  clear st3
  have fp1 := p1.two; have lp1 := p1.lt
  have fpg := pg.two; have lpg := pg.lt
  replace oh := (rowI oh).mono (b' := w2.heap.size + 1) (by first | omega | (simp; done) | (simp; omega)) (Nat.le_refl _)
  replace uh := (rowI uh).mono (b' := w2.heap.size + 1) (by first | omega | (simp; done) | (simp; omega)) (Nat.le_refl _)
  have hnh : nh ≤ 21 := by have := oh.len; have := put_len xs1 ys1 x1; have := ln1.out; have := lm1.out; omega
  have hmh : mh ≤ 21 := by have := uh.len; have := put_len xs1 ys1 x1; have := ln1.out; have := lm1.out; omega
  have cph := oh.cap
  go_wp2_with fail
  refine (sameQueue_same _ _ _ _ _ _ (putItems xs1 ys1 x1) (putTaken xs1 ys1 x1) _ _ _ _ _ _ _ ((og.ints (B := w3.heap.size) (by omega)).box _) ((ug.ints (B := w3.heap.size) (by omega)).box _) ((oh.ints (B := w3.heap.size) (by omega)).box _) ((uh.ints (B := w3.heap.size) (by omega)).box _) (by omega) (by omega) (by omega) (by omega)).mono ?_
  rintro e w4 ⟨rfl, hb4⟩
  clear fp1 lp1 fpg lpg
  have z4 : w3.heap.size + 1 ≤ w4.heap.size := by have := hb4.size; simpa using this
  have st4 : Below w3.heap.size w3 w4 := (by repeat' (first | with_reducible exact Below.refl _ _ | with_reducible refine Below.alloc ?_ (by first | omega | (simp; done) | (simp; omega)) _ | with_reducible refine below_drewN ?_ _ | with_reducible refine Below.drew ?_ | with_reducible refine Below.setCell ?_ (by first | omega | (simp; done) | (simp; omega)) _ | with_reducible refine Below.trans ?_ (Below.mono hb4 (by first | omega | (simp; done) | (simp; omega)))))
  have HB4 : Below w.heap.size w w4 := HB3.trans (st4.mono HB3.size)
  replace p1 := p1.below st4 p1.lt
  replace pg := pg.below st4 pg.lt
  have ph : Blk w4 (w3.heap.size) 25 #[.slice Ah nh ch, .slice Bh mh dh] := by simpa using (Blk.new w3 25 #[.slice Ah nh ch, .slice Bh mh dh]).below hb4 (by first | (simp; done) | (simp; omega))
  replace o1 := o1.keep (same_of_below st4 (by omega))
  replace u1 := u1.keep (same_of_below st4 (by omega))
  replace og := og.keep (same_of_below st4 (by omega))
  replace ug := ug.keep (same_of_below st4 (by omega))
  replace oh := oh.keep (same_of_below st4 (by omega))
  replace uh := uh.keep (same_of_below st4 (by omega))
  clear HB3
  clear st4
  have fp1 := p1.two; have lp1 := p1.lt
  have fpg := pg.two; have lpg := pg.lt
  have fph := ph.two; have lph := ph.lt
  cases hB : putB xs1 ys1 x1
  · go_wp2_with fail
    refine (sameQueue_same _ _ _ _ _ _ (putItems xs1 ys1 x1) (putTaken xs1 ys1 x1) _ _ _ _ _ _ _ (og.ints (B := w4.heap.size) (by omega)) (ug.ints (B := w4.heap.size) (by omega)) (oh.ints (B := w4.heap.size) (by omega)) (uh.ints (B := w4.heap.size) (by omega)) (by omega) (by omega) (by omega) (by omega)).mono ?_
    rintro e w5 ⟨rfl, hb5⟩
    clear fp1 lp1 fpg lpg fph lph
    have z5 : w4.heap.size ≤ w5.heap.size := by have := hb5.size; simpa using this
    have st5 : Below w4.heap.size w4 w5 := (by repeat' (first | with_reducible exact Below.refl _ _ | with_reducible refine Below.alloc ?_ (by first | omega | (simp; done) | (simp; omega)) _ | with_reducible refine below_drewN ?_ _ | with_reducible refine Below.drew ?_ | with_reducible refine Below.setCell ?_ (by first | omega | (simp; done) | (simp; omega)) _ | with_reducible refine Below.trans ?_ (Below.mono hb5 (by first | omega | (simp; done) | (simp; omega)))))
    have HB5 : Below w.heap.size w w5 := HB4.trans (st5.mono HB4.size)
    replace p1 := p1.below st5 p1.lt
    replace pg := pg.below st5 pg.lt
    replace ph := ph.below st5 ph.lt
    replace o1 := o1.keep (same_of_below st5 (by omega))
    replace u1 := u1.keep (same_of_below st5 (by omega))
    replace og := og.keep (same_of_below st5 (by omega))
    replace ug := ug.keep (same_of_below st5 (by omega))
    replace oh := oh.keep (same_of_below st5 (by omega))
    replace uh := uh.keep (same_of_below st5 (by omega))
    clear HB4
    clear st5
    have fp1 := p1.two; have lp1 := p1.lt
    have fpg := pg.two; have lpg := pg.lt
    have fph := ph.two; have lph := ph.lt
    go_wp2
    go_ret
    exact ⟨rfl, HB5⟩
  · clear oh uh aph
    obtain ⟨e1, e2, hok, hlt⟩ := put_true hB
    rw [e1] at og
    rw [e2] at ug
    have hv2 := Lib.hid (qv_put hB)
    have hql := Lib.hid (qleft_put hB)
    have hl2 : n1 < 20 := by have := ln1.out; omega
    clear e1 e2 hok hlt hne heq
    have z0 : w4.heap.size ≤ w4.heap.size := Nat.le_refl _
    go_wp2_with fail
    have HB := HB4
    clear fpg fp1 fph ph lph lpg lp1 HB4
    go_region_held3? (fun w' => w'.cell? ⟨w2.heap.size, 0, none⟩ = some (.slice Ag ng cg) ∧ w'.cell? ⟨w2.heap.size, 1, none⟩ = some (.slice Bg mg dg) ∧ w'.cell? ⟨w1.heap.size, 0, none⟩ = some (.slice A1 n1 c1) ∧ w'.cell? ⟨w1.heap.size, 1, none⟩ = some (.slice B1 m1 d1))
      (exact ⟨(show Blk _ (w2.heap.size) 25 #[.slice Ag ng cg, .slice Bg mg dg] from (by repeat' (first | with_reducible exact pg | with_reducible refine Blk.alloc ?_ _ | with_reducible refine Blk.drew ?_ | with_reducible refine Blk.drewN ?_ _))).two.1, (show Blk _ (w2.heap.size) 25 #[.slice Ag ng cg, .slice Bg mg dg] from (by repeat' (first | with_reducible exact pg | with_reducible refine Blk.alloc ?_ _ | with_reducible refine Blk.drew ?_ | with_reducible refine Blk.drewN ?_ _))).two.2.1, (show Blk _ (w1.heap.size) 25 #[.slice A1 n1 c1, .slice B1 m1 d1] from (by repeat' (first | with_reducible exact p1 | with_reducible refine Blk.alloc ?_ _ | with_reducible refine Blk.drew ?_ | with_reducible refine Blk.drewN ?_ _))).two.1, (show Blk _ (w1.heap.size) 25 #[.slice A1 n1 c1, .slice B1 m1 d1] from (by repeat' (first | with_reducible exact p1 | with_reducible refine Blk.alloc ?_ _ | with_reducible refine Blk.drew ?_ | with_reducible refine Blk.drewN ?_ _))).two.2.1⟩)
      (first
        | (go_at_call 9
           with_reducible refine Calls.mono (implQueueLeft_any Ag Bg ng cg mg dg (xs1 ++ [x1]) ys1 _ ?_ ?_ (by omega) (by omega) cpg) ?_
           · exact RowI.ints' (show RowI _ (w1.heap.size + 1) (w2.heap.size) Ag ng cg (xs1 ++ [x1]) from (by repeat' (first | with_reducible exact og | with_reducible refine RowI.alloc1 ?_ (by first | omega | (simp; done) | (simp; omega)) _ | with_reducible refine RowI.drew1 ?_ | with_reducible refine RowI.drewN1 ?_ _))) (by first | omega | (simp; done) | (simp; omega))
           · exact RowI.ints' (show RowI _ (w1.heap.size + 1) (w2.heap.size) Bg mg dg (ys1) from (by repeat' (first | with_reducible exact ug | with_reducible refine RowI.alloc1 ?_ (by first | omega | (simp; done) | (simp; omega)) _ | with_reducible refine RowI.drew1 ?_ | with_reducible refine RowI.drewN1 ?_ _))) (by first | omega | (simp; done) | (simp; omega))
           rintro e w7 ⟨Av, nv, cv, rfl, ov, hb7⟩
           have hs7 : Step _ w7 := hb7
           have z7 : w4.heap.size ≤ w7.heap.size := by have := hb7.size; first | omega | (simp at this; omega)
           have zz7 := hb7.size
           try simp at zz7
           obtain ⟨bv, hbv, rov⟩ := rowI_ex ov
           try simp at hbv
           have lnv : nv ≤ 21 := by have := rov.len; have := qleft_len (xs1 ++ [x1]) ys1; have := ln1.out; simp at *; omega
           replace o1 : RowI w7 (w.heap.size) (w1.heap.size) A1 n1 c1 (xs1) := RowI.step (show RowI _ (w.heap.size) (w1.heap.size) A1 n1 c1 (xs1) from (by repeat' (first | with_reducible exact o1 | with_reducible refine RowI.alloc1 ?_ (by first | omega | (simp; done) | (simp; omega)) _ | with_reducible refine RowI.drew1 ?_ | with_reducible refine RowI.drewN1 ?_ _))) hs7 (by first | omega | (simp; done) | (simp; omega))
           replace u1 : RowI w7 (w.heap.size) (w1.heap.size) B1 m1 d1 (ys1) := RowI.step (show RowI _ (w.heap.size) (w1.heap.size) B1 m1 d1 (ys1) from (by repeat' (first | with_reducible exact u1 | with_reducible refine RowI.alloc1 ?_ (by first | omega | (simp; done) | (simp; omega)) _ | with_reducible refine RowI.drew1 ?_ | with_reducible refine RowI.drewN1 ?_ _))) hs7 (by first | omega | (simp; done) | (simp; omega))
           replace og : RowI w7 (w1.heap.size + 1) (w2.heap.size) Ag ng cg (xs1 ++ [x1]) := RowI.step (show RowI _ (w1.heap.size + 1) (w2.heap.size) Ag ng cg (xs1 ++ [x1]) from (by repeat' (first | with_reducible exact og | with_reducible refine RowI.alloc1 ?_ (by first | omega | (simp; done) | (simp; omega)) _ | with_reducible refine RowI.drew1 ?_ | with_reducible refine RowI.drewN1 ?_ _))) hs7 (by first | omega | (simp; done) | (simp; omega))
           replace ug : RowI w7 (w1.heap.size + 1) (w2.heap.size) Bg mg dg (ys1) := RowI.step (show RowI _ (w1.heap.size + 1) (w2.heap.size) Bg mg dg (ys1) from (by repeat' (first | with_reducible exact ug | with_reducible refine RowI.alloc1 ?_ (by first | omega | (simp; done) | (simp; omega)) _ | with_reducible refine RowI.drew1 ?_ | with_reducible refine RowI.drewN1 ?_ _))) hs7 (by first | omega | (simp; done) | (simp; omega))
           replace p1 : Blk w7 (w1.heap.size) 25 #[.slice A1 n1 c1, .slice B1 m1 d1] := Blk.step (show Blk _ (w1.heap.size) 25 #[.slice A1 n1 c1, .slice B1 m1 d1] from (by repeat' (first | with_reducible exact p1 | with_reducible refine Blk.alloc ?_ _ | with_reducible refine Blk.drew ?_ | with_reducible refine Blk.drewN ?_ _))) hs7
           replace pg : Blk w7 (w2.heap.size) 25 #[.slice Ag ng cg, .slice Bg mg dg] := Blk.step (show Blk _ (w2.heap.size) 25 #[.slice Ag ng cg, .slice Bg mg dg] from (by repeat' (first | with_reducible exact pg | with_reducible refine Blk.alloc ?_ _ | with_reducible refine Blk.drew ?_ | with_reducible refine Blk.drewN ?_ _))) hs7
           replace HB : Below w.heap.size w w7 := Below.step (show Below w.heap.size w _ from (by repeat' (first | with_reducible exact HB | with_reducible refine Below.alloc ?_ (by first | omega | (simp; done) | (simp; omega)) _ | with_reducible refine Below.drew ?_ | with_reducible refine below_drewN ?_ _))) hs7 (by first | omega | (simp; done) | (simp; omega))
           have f1' := p1.two; have fg' := pg.two)
        | (go_at_call 9
           with_reducible refine Calls.mono (implQueueLeft_any A1 B1 n1 c1 m1 d1 xs1 ys1 _ ?_ ?_ (by omega) (by omega) cp1) ?_
           · exact RowI.ints' (show RowI _ (w.heap.size) (w1.heap.size) A1 n1 c1 (xs1) from (by repeat' (first | with_reducible exact o1 | with_reducible refine RowI.alloc1 ?_ (by first | omega | (simp; done) | (simp; omega)) _ | with_reducible refine RowI.drew1 ?_ | with_reducible refine RowI.drewN1 ?_ _))) (by first | omega | (simp; done) | (simp; omega))
           · exact RowI.ints' (show RowI _ (w.heap.size) (w1.heap.size) B1 m1 d1 (ys1) from (by repeat' (first | with_reducible exact u1 | with_reducible refine RowI.alloc1 ?_ (by first | omega | (simp; done) | (simp; omega)) _ | with_reducible refine RowI.drew1 ?_ | with_reducible refine RowI.drewN1 ?_ _))) (by first | omega | (simp; done) | (simp; omega))
           rintro e w8 ⟨Ay, ny, cy, rfl, oy, hb8⟩
           have hs8 : Step _ w8 := hb8
           have z8 : w7.heap.size ≤ w8.heap.size := by have := hb8.size; first | omega | (simp at this; omega)
           have zz8 := hb8.size
           try simp at zz8
           have lny : ny ≤ 20 := by have := oy.len; have := qleft_len xs1 ys1; have := ln1.out; omega
           replace o1 : RowI w8 (w.heap.size) (w1.heap.size) A1 n1 c1 (xs1) := RowI.step (show RowI _ (w.heap.size) (w1.heap.size) A1 n1 c1 (xs1) from (by repeat' (first | with_reducible exact o1 | with_reducible refine RowI.alloc1 ?_ (by first | omega | (simp; done) | (simp; omega)) _ | with_reducible refine RowI.drew1 ?_ | with_reducible refine RowI.drewN1 ?_ _))) hs8 (by first | omega | (simp; done) | (simp; omega))
           replace u1 : RowI w8 (w.heap.size) (w1.heap.size) B1 m1 d1 (ys1) := RowI.step (show RowI _ (w.heap.size) (w1.heap.size) B1 m1 d1 (ys1) from (by repeat' (first | with_reducible exact u1 | with_reducible refine RowI.alloc1 ?_ (by first | omega | (simp; done) | (simp; omega)) _ | with_reducible refine RowI.drew1 ?_ | with_reducible refine RowI.drewN1 ?_ _))) hs8 (by first | omega | (simp; done) | (simp; omega))
           replace og : RowI w8 (w1.heap.size + 1) (w2.heap.size) Ag ng cg (xs1 ++ [x1]) := RowI.step (show RowI _ (w1.heap.size + 1) (w2.heap.size) Ag ng cg (xs1 ++ [x1]) from (by repeat' (first | with_reducible exact og | with_reducible refine RowI.alloc1 ?_ (by first | omega | (simp; done) | (simp; omega)) _ | with_reducible refine RowI.drew1 ?_ | with_reducible refine RowI.drewN1 ?_ _))) hs8 (by first | omega | (simp; done) | (simp; omega))
           replace ug : RowI w8 (w1.heap.size + 1) (w2.heap.size) Bg mg dg (ys1) := RowI.step (show RowI _ (w1.heap.size + 1) (w2.heap.size) Bg mg dg (ys1) from (by repeat' (first | with_reducible exact ug | with_reducible refine RowI.alloc1 ?_ (by first | omega | (simp; done) | (simp; omega)) _ | with_reducible refine RowI.drew1 ?_ | with_reducible refine RowI.drewN1 ?_ _))) hs8 (by first | omega | (simp; done) | (simp; omega))
           replace rov : RowI w8 bv w7.heap.size Av nv cv (qleft (xs1 ++ [x1]) ys1) := RowI.step (show RowI _ bv w7.heap.size Av nv cv (qleft (xs1 ++ [x1]) ys1) from (by repeat' (first | with_reducible exact rov | with_reducible refine RowI.alloc1 ?_ (by first | omega | (simp; done) | (simp; omega)) _ | with_reducible refine RowI.drew1 ?_ | with_reducible refine RowI.drewN1 ?_ _))) hs8 (by first | omega | (simp; done) | (simp; omega))
           replace p1 : Blk w8 (w1.heap.size) 25 #[.slice A1 n1 c1, .slice B1 m1 d1] := Blk.step (show Blk _ (w1.heap.size) 25 #[.slice A1 n1 c1, .slice B1 m1 d1] from (by repeat' (first | with_reducible exact p1 | with_reducible refine Blk.alloc ?_ _ | with_reducible refine Blk.drew ?_ | with_reducible refine Blk.drewN ?_ _))) hs8
           replace pg : Blk w8 (w2.heap.size) 25 #[.slice Ag ng cg, .slice Bg mg dg] := Blk.step (show Blk _ (w2.heap.size) 25 #[.slice Ag ng cg, .slice Bg mg dg] from (by repeat' (first | with_reducible exact pg | with_reducible refine Blk.alloc ?_ _ | with_reducible refine Blk.drew ?_ | with_reducible refine Blk.drewN ?_ _))) hs8
           replace HB : Below w.heap.size w w8 := Below.step (show Below w.heap.size w _ from (by repeat' (first | with_reducible exact HB | with_reducible refine Below.alloc ?_ (by first | omega | (simp; done) | (simp; omega)) _ | with_reducible refine Below.drew ?_ | with_reducible refine below_drewN ?_ _))) hs8 (by first | omega | (simp; done) | (simp; omega))
           have f1' := p1.two; have fg' := pg.two)
        | (refine step_app1 rfl (.tmp 52) (.tmp 54) rfl w4.heap.size (A := _) (n := _) (c := _) (xs := []) rfl ?_ w8.heap.size Ay ny cy (qleft xs1 ys1) rfl ?_ ?_ ?_ ?_
           · exact (show Own _ w4.heap.size _ 0 0 [] from (by repeat' (first | with_reducible exact o9 | (with_reducible refine Own.lit0 ?_ ?_ <;> first | omega | (simp; done) | (simp; omega)) | with_reducible refine Own.alloc ?_ _ | with_reducible refine Own.drew ?_ | with_reducible refine Own.step ?_ hs8 | with_reducible refine Own.step ?_ hs7)))
           · exact RowI.ints (show RowI _ 0 w8.heap.size Ay ny cy (qleft xs1 ys1) from (by repeat' (first | with_reducible exact (rowI oy).mono (Nat.zero_le _) (Nat.le_refl _) | with_reducible refine RowI.alloc1 ?_ (by first | omega | (simp; done) | (simp; omega)) _))) (Nat.le_refl _)
           · omega
           · first | omega | (simp; done) | (simp; omega)
           intro A3 c3 w9 o9 hg1 at9
           simp only [Nat.zero_add, List.nil_append] at o9 ⊢
           have z9 : w8.heap.size ≤ w9.heap.size := by have := hg1.size; first | omega | (simp at this; omega)
           have zz9 := hg1.size
           try simp at zz9
           have hA3 : ∀ k, blk A3 = some k → w4.heap.size ≤ k ∧ (k < bv ∨ w7.heap.size ≤ k) := by
             intro k hk
             rcases at9 with h | h <;> (rw [h] at hk; simp [blk] at hk; omega)
           obtain ⟨row1, hA0, hg1'⟩ := grown_row (P := fun k => w4.heap.size ≤ k ∧ (k < bv ∨ w7.heap.size ≤ k)) hg1 (by intro k hk; simp [blk] at hk; omega)
           replace o1 : RowI w9 (w.heap.size) (w1.heap.size) A1 n1 c1 (xs1) := RowI.grown1 (show RowI _ (w.heap.size) (w1.heap.size) A1 n1 c1 (xs1) from (by repeat' (first | with_reducible exact o1 | with_reducible refine RowI.alloc1 ?_ (by first | omega | (simp; done) | (simp; omega)) _ | with_reducible refine RowI.drew1 ?_ | with_reducible refine RowI.drewN1 ?_ _))) hg1' (by first | omega | (simp; done) | (simp; omega)) (fun k hk => by have := hA0 k hk; omega)
           replace u1 : RowI w9 (w.heap.size) (w1.heap.size) B1 m1 d1 (ys1) := RowI.grown1 (show RowI _ (w.heap.size) (w1.heap.size) B1 m1 d1 (ys1) from (by repeat' (first | with_reducible exact u1 | with_reducible refine RowI.alloc1 ?_ (by first | omega | (simp; done) | (simp; omega)) _ | with_reducible refine RowI.drew1 ?_ | with_reducible refine RowI.drewN1 ?_ _))) hg1' (by first | omega | (simp; done) | (simp; omega)) (fun k hk => by have := hA0 k hk; omega)
           replace og : RowI w9 (w1.heap.size + 1) (w2.heap.size) Ag ng cg (xs1 ++ [x1]) := RowI.grown1 (show RowI _ (w1.heap.size + 1) (w2.heap.size) Ag ng cg (xs1 ++ [x1]) from (by repeat' (first | with_reducible exact og | with_reducible refine RowI.alloc1 ?_ (by first | omega | (simp; done) | (simp; omega)) _ | with_reducible refine RowI.drew1 ?_ | with_reducible refine RowI.drewN1 ?_ _))) hg1' (by first | omega | (simp; done) | (simp; omega)) (fun k hk => by have := hA0 k hk; omega)
           replace ug : RowI w9 (w1.heap.size + 1) (w2.heap.size) Bg mg dg (ys1) := RowI.grown1 (show RowI _ (w1.heap.size + 1) (w2.heap.size) Bg mg dg (ys1) from (by repeat' (first | with_reducible exact ug | with_reducible refine RowI.alloc1 ?_ (by first | omega | (simp; done) | (simp; omega)) _ | with_reducible refine RowI.drew1 ?_ | with_reducible refine RowI.drewN1 ?_ _))) hg1' (by first | omega | (simp; done) | (simp; omega)) (fun k hk => by have := hA0 k hk; omega)
           replace rov : RowI w9 bv w7.heap.size Av nv cv (qleft (xs1 ++ [x1]) ys1) := RowI.grown1 (show RowI _ bv w7.heap.size Av nv cv (qleft (xs1 ++ [x1]) ys1) from (by repeat' (first | with_reducible exact rov | with_reducible refine RowI.alloc1 ?_ (by first | omega | (simp; done) | (simp; omega)) _ | with_reducible refine RowI.drew1 ?_ | with_reducible refine RowI.drewN1 ?_ _))) hg1' (by first | omega | (simp; done) | (simp; omega)) (fun k hk => by have := hA0 k hk; omega)
           replace p1 : Blk w9 (w1.heap.size) 25 #[.slice A1 n1 c1, .slice B1 m1 d1] := Blk.grown (show Blk _ (w1.heap.size) 25 #[.slice A1 n1 c1, .slice B1 m1 d1] from (by repeat' (first | with_reducible exact p1 | with_reducible refine Blk.alloc ?_ _ | with_reducible refine Blk.drew ?_ | with_reducible refine Blk.drewN ?_ _))) hg1' (fun e => by have := hA0 _ e.symm; omega)
           replace pg : Blk w9 (w2.heap.size) 25 #[.slice Ag ng cg, .slice Bg mg dg] := Blk.grown (show Blk _ (w2.heap.size) 25 #[.slice Ag ng cg, .slice Bg mg dg] from (by repeat' (first | with_reducible exact pg | with_reducible refine Blk.alloc ?_ _ | with_reducible refine Blk.drew ?_ | with_reducible refine Blk.drewN ?_ _))) hg1' (fun e => by have := hA0 _ e.symm; omega)
           replace HB : Below w.heap.size w w9 := Below.grown (show Below w.heap.size w _ from (by repeat' (first | with_reducible exact HB | with_reducible refine Below.alloc ?_ (by first | omega | (simp; done) | (simp; omega)) _ | with_reducible refine Below.drew ?_ | with_reducible refine below_drewN ?_ _))) hg1' (by first | omega | (simp; done) | (simp; omega)) (fun k hk => by have := hA0 k hk; omega)
           have f1' := p1.two; have fg' := pg.two)
        | (refine step_appone rfl (.tmp 55) (.tmp 57) rfl w4.heap.size (A := A3) (n := ny) (c := c3) (xs := qleft xs1 ys1) rfl ?_ _ _ x1 rfl ?_ ?_ ?_ ?_
           · exact (show Own _ w4.heap.size A3 ny c3 (qleft xs1 ys1) from (by repeat' (first | with_reducible exact o9 | with_reducible refine Own.alloc ?_ _)))
           · exact (by repeat' (first | (with_reducible refine Blk.newAt ?_; first | omega | (simp; done) | (simp; omega)) | with_reducible refine Blk.alloc ?_ _ | with_reducible refine Blk.drew ?_ | with_reducible refine Blk.grown ?_ hg1 (by first | (simp [blk]; done) | (simp [blk]; omega)) | with_reducible refine Blk.step ?_ hs8 | with_reducible refine Blk.step ?_ hs7))
           · omega
           · first | omega | (simp; done) | (simp; omega)
           intro A4 c4 w10 o10 hg2 at10
           have z10 : w9.heap.size ≤ w10.heap.size := by have := hg2.size; first | omega | (simp at this; omega)
           have zz10 := hg2.size
           try simp at zz10
           replace o1 : RowI w10 (w.heap.size) (w1.heap.size) A1 n1 c1 (xs1) := RowI.grown1 (show RowI _ (w.heap.size) (w1.heap.size) A1 n1 c1 (xs1) from (by repeat' (first | with_reducible exact o1 | with_reducible refine RowI.alloc1 ?_ (by first | omega | (simp; done) | (simp; omega)) _ | with_reducible refine RowI.drew1 ?_ | with_reducible refine RowI.drewN1 ?_ _))) hg2 (by first | omega | (simp; done) | (simp; omega)) (fun k hk => by have := hA3 k hk; omega)
           replace u1 : RowI w10 (w.heap.size) (w1.heap.size) B1 m1 d1 (ys1) := RowI.grown1 (show RowI _ (w.heap.size) (w1.heap.size) B1 m1 d1 (ys1) from (by repeat' (first | with_reducible exact u1 | with_reducible refine RowI.alloc1 ?_ (by first | omega | (simp; done) | (simp; omega)) _ | with_reducible refine RowI.drew1 ?_ | with_reducible refine RowI.drewN1 ?_ _))) hg2 (by first | omega | (simp; done) | (simp; omega)) (fun k hk => by have := hA3 k hk; omega)
           replace og : RowI w10 (w1.heap.size + 1) (w2.heap.size) Ag ng cg (xs1 ++ [x1]) := RowI.grown1 (show RowI _ (w1.heap.size + 1) (w2.heap.size) Ag ng cg (xs1 ++ [x1]) from (by repeat' (first | with_reducible exact og | with_reducible refine RowI.alloc1 ?_ (by first | omega | (simp; done) | (simp; omega)) _ | with_reducible refine RowI.drew1 ?_ | with_reducible refine RowI.drewN1 ?_ _))) hg2 (by first | omega | (simp; done) | (simp; omega)) (fun k hk => by have := hA3 k hk; omega)
           replace ug : RowI w10 (w1.heap.size + 1) (w2.heap.size) Bg mg dg (ys1) := RowI.grown1 (show RowI _ (w1.heap.size + 1) (w2.heap.size) Bg mg dg (ys1) from (by repeat' (first | with_reducible exact ug | with_reducible refine RowI.alloc1 ?_ (by first | omega | (simp; done) | (simp; omega)) _ | with_reducible refine RowI.drew1 ?_ | with_reducible refine RowI.drewN1 ?_ _))) hg2 (by first | omega | (simp; done) | (simp; omega)) (fun k hk => by have := hA3 k hk; omega)
           replace rov : RowI w10 bv w7.heap.size Av nv cv (qleft (xs1 ++ [x1]) ys1) := RowI.grown1 (show RowI _ bv w7.heap.size Av nv cv (qleft (xs1 ++ [x1]) ys1) from (by repeat' (first | with_reducible exact rov | with_reducible refine RowI.alloc1 ?_ (by first | omega | (simp; done) | (simp; omega)) _ | with_reducible refine RowI.drew1 ?_ | with_reducible refine RowI.drewN1 ?_ _))) hg2 (by first | omega | (simp; done) | (simp; omega)) (fun k hk => by have := hA3 k hk; omega)
           replace p1 : Blk w10 (w1.heap.size) 25 #[.slice A1 n1 c1, .slice B1 m1 d1] := Blk.grown (show Blk _ (w1.heap.size) 25 #[.slice A1 n1 c1, .slice B1 m1 d1] from (by repeat' (first | with_reducible exact p1 | with_reducible refine Blk.alloc ?_ _ | with_reducible refine Blk.drew ?_ | with_reducible refine Blk.drewN ?_ _))) hg2 (fun e => by have := hA3 _ e.symm; omega)
           replace pg : Blk w10 (w2.heap.size) 25 #[.slice Ag ng cg, .slice Bg mg dg] := Blk.grown (show Blk _ (w2.heap.size) 25 #[.slice Ag ng cg, .slice Bg mg dg] from (by repeat' (first | with_reducible exact pg | with_reducible refine Blk.alloc ?_ _ | with_reducible refine Blk.drew ?_ | with_reducible refine Blk.drewN ?_ _))) hg2 (fun e => by have := hA3 _ e.symm; omega)
           replace HB : Below w.heap.size w w10 := Below.grown (show Below w.heap.size w _ from (by repeat' (first | with_reducible exact HB | with_reducible refine Below.alloc ?_ (by first | omega | (simp; done) | (simp; omega)) _ | with_reducible refine Below.drew ?_ | with_reducible refine below_drewN ?_ _))) hg2 (by first | omega | (simp; done) | (simp; omega)) (fun k hk => by have := hA3 k hk; omega)
           have f1' := p1.two; have fg' := pg.two)
        | (go_at_call 8
           with_reducible refine Calls.mono (sameInts_same Av A4 nv cv (ny + 1) c4 (qleft xs1 ys1 ++ [x1]) _ ?_ o10.ints (by omega) (by omega)) ?_
           · rw [← hql.out]; exact RowI.ints' (show RowI _ bv w7.heap.size Av nv cv (qleft (xs1 ++ [x1]) ys1) from (by repeat' (first | with_reducible exact rov | with_reducible refine RowI.alloc1 ?_ (by first | omega | (simp; done) | (simp; omega)) _ | with_reducible refine RowI.drew1 ?_ | with_reducible refine RowI.drewN1 ?_ _))) (by first | omega | (simp; done) | (simp; omega))
           rintro e w11 ⟨rfl, hb11⟩
           have hs11 : Step _ w11 := hb11
           have z11 : w10.heap.size ≤ w11.heap.size := hb11.size
           replace o1 : RowI w11 (w.heap.size) (w1.heap.size) A1 n1 c1 (xs1) := RowI.step (show RowI _ (w.heap.size) (w1.heap.size) A1 n1 c1 (xs1) from (by repeat' (first | with_reducible exact o1 | with_reducible refine RowI.alloc1 ?_ (by first | omega | (simp; done) | (simp; omega)) _ | with_reducible refine RowI.drew1 ?_ | with_reducible refine RowI.drewN1 ?_ _))) hs11 (by first | omega | (simp; done) | (simp; omega))
           replace u1 : RowI w11 (w.heap.size) (w1.heap.size) B1 m1 d1 (ys1) := RowI.step (show RowI _ (w.heap.size) (w1.heap.size) B1 m1 d1 (ys1) from (by repeat' (first | with_reducible exact u1 | with_reducible refine RowI.alloc1 ?_ (by first | omega | (simp; done) | (simp; omega)) _ | with_reducible refine RowI.drew1 ?_ | with_reducible refine RowI.drewN1 ?_ _))) hs11 (by first | omega | (simp; done) | (simp; omega))
           replace og : RowI w11 (w1.heap.size + 1) (w2.heap.size) Ag ng cg (xs1 ++ [x1]) := RowI.step (show RowI _ (w1.heap.size + 1) (w2.heap.size) Ag ng cg (xs1 ++ [x1]) from (by repeat' (first | with_reducible exact og | with_reducible refine RowI.alloc1 ?_ (by first | omega | (simp; done) | (simp; omega)) _ | with_reducible refine RowI.drew1 ?_ | with_reducible refine RowI.drewN1 ?_ _))) hs11 (by first | omega | (simp; done) | (simp; omega))
           replace ug : RowI w11 (w1.heap.size + 1) (w2.heap.size) Bg mg dg (ys1) := RowI.step (show RowI _ (w1.heap.size + 1) (w2.heap.size) Bg mg dg (ys1) from (by repeat' (first | with_reducible exact ug | with_reducible refine RowI.alloc1 ?_ (by first | omega | (simp; done) | (simp; omega)) _ | with_reducible refine RowI.drew1 ?_ | with_reducible refine RowI.drewN1 ?_ _))) hs11 (by first | omega | (simp; done) | (simp; omega))
           replace p1 : Blk w11 (w1.heap.size) 25 #[.slice A1 n1 c1, .slice B1 m1 d1] := Blk.step (show Blk _ (w1.heap.size) 25 #[.slice A1 n1 c1, .slice B1 m1 d1] from (by repeat' (first | with_reducible exact p1 | with_reducible refine Blk.alloc ?_ _ | with_reducible refine Blk.drew ?_ | with_reducible refine Blk.drewN ?_ _))) hs11
           replace pg : Blk w11 (w2.heap.size) 25 #[.slice Ag ng cg, .slice Bg mg dg] := Blk.step (show Blk _ (w2.heap.size) 25 #[.slice Ag ng cg, .slice Bg mg dg] from (by repeat' (first | with_reducible exact pg | with_reducible refine Blk.alloc ?_ _ | with_reducible refine Blk.drew ?_ | with_reducible refine Blk.drewN ?_ _))) hs11
           replace HB : Below w.heap.size w w11 := Below.step (show Below w.heap.size w _ from (by repeat' (first | with_reducible exact HB | with_reducible refine Below.alloc ?_ (by first | omega | (simp; done) | (simp; omega)) _ | with_reducible refine Below.drew ?_ | with_reducible refine below_drewN ?_ _))) hs11 (by first | omega | (simp; done) | (simp; omega))
           have f1' := p1.two; have fg' := pg.two)
        | (go_at_call 8
           with_reducible refine Calls.mono (sameInts_same Bg B1 mg dg m1 d1 ys1 _ ?_ ?_ (by omega) (by omega)) ?_
           · exact RowI.ints' (show RowI _ (w1.heap.size + 1) (w2.heap.size) Bg mg dg (ys1) from (by repeat' (first | with_reducible exact ug | with_reducible refine RowI.alloc1 ?_ (by first | omega | (simp; done) | (simp; omega)) _ | with_reducible refine RowI.drew1 ?_ | with_reducible refine RowI.drewN1 ?_ _))) (by first | omega | (simp; done) | (simp; omega))
           · exact RowI.ints' (show RowI _ (w.heap.size) (w1.heap.size) B1 m1 d1 (ys1) from (by repeat' (first | with_reducible exact u1 | with_reducible refine RowI.alloc1 ?_ (by first | omega | (simp; done) | (simp; omega)) _ | with_reducible refine RowI.drew1 ?_ | with_reducible refine RowI.drewN1 ?_ _))) (by first | omega | (simp; done) | (simp; omega))
           rintro e w12 ⟨rfl, hb12⟩
           have hs12 : Step _ w12 := hb12
           have z12 : w11.heap.size ≤ w12.heap.size := hb12.size
           replace o1 : RowI w12 (w.heap.size) (w1.heap.size) A1 n1 c1 (xs1) := RowI.step (show RowI _ (w.heap.size) (w1.heap.size) A1 n1 c1 (xs1) from (by repeat' (first | with_reducible exact o1 | with_reducible refine RowI.alloc1 ?_ (by first | omega | (simp; done) | (simp; omega)) _ | with_reducible refine RowI.drew1 ?_ | with_reducible refine RowI.drewN1 ?_ _))) hs12 (by first | omega | (simp; done) | (simp; omega))
           replace u1 : RowI w12 (w.heap.size) (w1.heap.size) B1 m1 d1 (ys1) := RowI.step (show RowI _ (w.heap.size) (w1.heap.size) B1 m1 d1 (ys1) from (by repeat' (first | with_reducible exact u1 | with_reducible refine RowI.alloc1 ?_ (by first | omega | (simp; done) | (simp; omega)) _ | with_reducible refine RowI.drew1 ?_ | with_reducible refine RowI.drewN1 ?_ _))) hs12 (by first | omega | (simp; done) | (simp; omega))
           replace og : RowI w12 (w1.heap.size + 1) (w2.heap.size) Ag ng cg (xs1 ++ [x1]) := RowI.step (show RowI _ (w1.heap.size + 1) (w2.heap.size) Ag ng cg (xs1 ++ [x1]) from (by repeat' (first | with_reducible exact og | with_reducible refine RowI.alloc1 ?_ (by first | omega | (simp; done) | (simp; omega)) _ | with_reducible refine RowI.drew1 ?_ | with_reducible refine RowI.drewN1 ?_ _))) hs12 (by first | omega | (simp; done) | (simp; omega))
           replace ug : RowI w12 (w1.heap.size + 1) (w2.heap.size) Bg mg dg (ys1) := RowI.step (show RowI _ (w1.heap.size + 1) (w2.heap.size) Bg mg dg (ys1) from (by repeat' (first | with_reducible exact ug | with_reducible refine RowI.alloc1 ?_ (by first | omega | (simp; done) | (simp; omega)) _ | with_reducible refine RowI.drew1 ?_ | with_reducible refine RowI.drewN1 ?_ _))) hs12 (by first | omega | (simp; done) | (simp; omega))
           replace p1 : Blk w12 (w1.heap.size) 25 #[.slice A1 n1 c1, .slice B1 m1 d1] := Blk.step (show Blk _ (w1.heap.size) 25 #[.slice A1 n1 c1, .slice B1 m1 d1] from (by repeat' (first | with_reducible exact p1 | with_reducible refine Blk.alloc ?_ _ | with_reducible refine Blk.drew ?_ | with_reducible refine Blk.drewN ?_ _))) hs12
           replace pg : Blk w12 (w2.heap.size) 25 #[.slice Ag ng cg, .slice Bg mg dg] := Blk.step (show Blk _ (w2.heap.size) 25 #[.slice Ag ng cg, .slice Bg mg dg] from (by repeat' (first | with_reducible exact pg | with_reducible refine Blk.alloc ?_ _ | with_reducible refine Blk.drew ?_ | with_reducible refine Blk.drewN ?_ _))) hs12
           replace HB : Below w.heap.size w w12 := Below.step (show Below w.heap.size w _ from (by repeat' (first | with_reducible exact HB | with_reducible refine Below.alloc ?_ (by first | omega | (simp; done) | (simp; omega)) _ | with_reducible refine Below.drew ?_ | with_reducible refine below_drewN ?_ _))) hs12 (by first | omega | (simp; done) | (simp; omega))
           have f1' := p1.two; have fg' := pg.two)
        | (go_at_call 10
           with_reducible refine Calls.mono (implQueueValid_any Ag Bg ng cg mg dg (xs1 ++ [x1]) ys1 _ ?_ ?_ (by omega) (by omega)) ?_
           · exact RowI.ints' (show RowI _ (w1.heap.size + 1) (w2.heap.size) Ag ng cg (xs1 ++ [x1]) from (by repeat' (first | with_reducible exact og | with_reducible refine RowI.alloc1 ?_ (by first | omega | (simp; done) | (simp; omega)) _ | with_reducible refine RowI.drew1 ?_ | with_reducible refine RowI.drewN1 ?_ _))) (by first | omega | (simp; done) | (simp; omega))
           · exact RowI.ints' (show RowI _ (w1.heap.size + 1) (w2.heap.size) Bg mg dg (ys1) from (by repeat' (first | with_reducible exact ug | with_reducible refine RowI.alloc1 ?_ (by first | omega | (simp; done) | (simp; omega)) _ | with_reducible refine RowI.drew1 ?_ | with_reducible refine RowI.drewN1 ?_ _))) (by first | omega | (simp; done) | (simp; omega))
           rintro e w13 ⟨rfl, hb13⟩
           rw [hv2.out]
           have hs13 : Step _ w13 := hb13
           have z13 : w12.heap.size ≤ w13.heap.size := hb13.size
           replace o1 : RowI w13 (w.heap.size) (w1.heap.size) A1 n1 c1 (xs1) := RowI.step (show RowI _ (w.heap.size) (w1.heap.size) A1 n1 c1 (xs1) from (by repeat' (first | with_reducible exact o1 | with_reducible refine RowI.alloc1 ?_ (by first | omega | (simp; done) | (simp; omega)) _ | with_reducible refine RowI.drew1 ?_ | with_reducible refine RowI.drewN1 ?_ _))) hs13 (by first | omega | (simp; done) | (simp; omega))
           replace u1 : RowI w13 (w.heap.size) (w1.heap.size) B1 m1 d1 (ys1) := RowI.step (show RowI _ (w.heap.size) (w1.heap.size) B1 m1 d1 (ys1) from (by repeat' (first | with_reducible exact u1 | with_reducible refine RowI.alloc1 ?_ (by first | omega | (simp; done) | (simp; omega)) _ | with_reducible refine RowI.drew1 ?_ | with_reducible refine RowI.drewN1 ?_ _))) hs13 (by first | omega | (simp; done) | (simp; omega))
           replace og : RowI w13 (w1.heap.size + 1) (w2.heap.size) Ag ng cg (xs1 ++ [x1]) := RowI.step (show RowI _ (w1.heap.size + 1) (w2.heap.size) Ag ng cg (xs1 ++ [x1]) from (by repeat' (first | with_reducible exact og | with_reducible refine RowI.alloc1 ?_ (by first | omega | (simp; done) | (simp; omega)) _ | with_reducible refine RowI.drew1 ?_ | with_reducible refine RowI.drewN1 ?_ _))) hs13 (by first | omega | (simp; done) | (simp; omega))
           replace ug : RowI w13 (w1.heap.size + 1) (w2.heap.size) Bg mg dg (ys1) := RowI.step (show RowI _ (w1.heap.size + 1) (w2.heap.size) Bg mg dg (ys1) from (by repeat' (first | with_reducible exact ug | with_reducible refine RowI.alloc1 ?_ (by first | omega | (simp; done) | (simp; omega)) _ | with_reducible refine RowI.drew1 ?_ | with_reducible refine RowI.drewN1 ?_ _))) hs13 (by first | omega | (simp; done) | (simp; omega))
           replace p1 : Blk w13 (w1.heap.size) 25 #[.slice A1 n1 c1, .slice B1 m1 d1] := Blk.step (show Blk _ (w1.heap.size) 25 #[.slice A1 n1 c1, .slice B1 m1 d1] from (by repeat' (first | with_reducible exact p1 | with_reducible refine Blk.alloc ?_ _ | with_reducible refine Blk.drew ?_ | with_reducible refine Blk.drewN ?_ _))) hs13
           replace pg : Blk w13 (w2.heap.size) 25 #[.slice Ag ng cg, .slice Bg mg dg] := Blk.step (show Blk _ (w2.heap.size) 25 #[.slice Ag ng cg, .slice Bg mg dg] from (by repeat' (first | with_reducible exact pg | with_reducible refine Blk.alloc ?_ _ | with_reducible refine Blk.drew ?_ | with_reducible refine Blk.drewN ?_ _))) hs13
           replace HB : Below w.heap.size w w13 := Below.step (show Below w.heap.size w _ from (by repeat' (first | with_reducible exact HB | with_reducible refine Below.alloc ?_ (by first | omega | (simp; done) | (simp; omega)) _ | with_reducible refine Below.drew ?_ | with_reducible refine below_drewN ?_ _))) hs13 (by first | omega | (simp; done) | (simp; omega))
           have f1' := p1.two; have fg' := pg.two))
    all_goals
      go_wp2
      go_ret
      exact ⟨rfl, HB⟩
end Go.Proofs.Ytclajknghfnhcaa
