/-
  The walk of FnQueueTake: the law returns true and writes nothing that was there.
-/
import Derived.Test.YtdikfkhblkapjaaDL
import Derived.Test.YtdikfkhblkapjaaQL
import Derived.Test.YtdikfkhblkapjaaQ7
import Derived.Test.YtdikfkhblkapjaaQ8
import Derived.Test.YtdikfkhblkapjaaQK
import Derived.Deep.RegionHeld3
import Derived.IntWalk
namespace Go.Proofs.Ytdikfkhblkapjaa
open Go.RowKit
set_option linter.unusedVariables false

set_option maxHeartbeats 4000000 in
theorem fnQueueTake_walk (A : Option Addr) (n c : Nat) (bs : List Int) (w : World) (hc : n ≤ c) (hcm : c ≤ 9223372036854775807) (hb : Bytes w w.heap.size A n bs) :
    Calls Try.prog 18 #[.slice A n c] w fun e w' => e = .returned (.bool true) ∧ Below w.heap.size w w' := by
  by_cases hn : 1048576 < n
  · go_enter Try.func18, Try.ntmps18
    go_wp2
    go_ret
    exact ⟨rfl, Below.refl _ _⟩
  go_enter Try.func18, Try.ntmps18
  have HB0 : Below w.heap.size w w := Below.refl _ _
  go_wp2_with fail
  refine (drawQueueTake_any _ _ _ _ _ hb (by omega) hc hcm).mono ?_
  rintro e w1 ⟨A1, n1, c1, B1, m1, d1, xs1, ys1, x1, rfl, o1, u1, hn1, hm1, hb1⟩
  have z1 : w.heap.size ≤ w1.heap.size := by have := hb1.size; simpa using this
  have st1 : Below w.heap.size w w1 := (by repeat' (first | with_reducible exact Below.refl _ _ | with_reducible refine Below.alloc ?_ (by first | omega | (simp; done) | (simp; omega)) _ | with_reducible refine below_drewN ?_ _ | with_reducible refine Below.drew ?_ | with_reducible refine Below.setCell ?_ (by first | omega | (simp; done) | (simp; omega)) _ | with_reducible refine Below.trans ?_ (Below.mono hb1 (by first | omega | (simp; done) | (simp; omega)))))
  have HB1 : Below w.heap.size w w1 := HB0.trans (st1.mono HB0.size)
  clear HB0
  clear st1
  replace o1 := (rowI o1).mono (b' := w.heap.size) (by first | omega | (simp; done) | (simp; omega)) (Nat.le_refl _)
  replace u1 := (rowI u1).mono (b' := w.heap.size) (by first | omega | (simp; done) | (simp; omega)) (Nat.le_refl _)
  have ln1 := Lib.hid o1.len; have lm1 := Lib.hid u1.len; have cp1 := o1.cap
  have hne : (takeB xs1 ys1 x1 != takeB xs1 ys1 x1) = false := by simp
  have heq : (takeB xs1 ys1 x1 == takeB xs1 ys1 x1) = true := by simp
  have hnei : (takeItem xs1 ys1 x1 != takeItem xs1 ys1 x1) = false := by simp
  have heqi : (takeItem xs1 ys1 x1 == takeItem xs1 ys1 x1) = true := by simp
  go_wp2_with fail
  refine (implTake_any _ _ _ _ _ _ xs1 ys1 x1 _ ((o1.ints (B := w1.heap.size) (by omega)).box _) ((u1.ints (B := w1.heap.size) (by omega)).box _) (by omega) (by omega) cp1).mono ?_
  rintro e w2 ⟨Ag, ng, cg, Bg, mg, dg, rfl, og, ug, apg, hb2⟩
  have z2 : w1.heap.size + 1 ≤ w2.heap.size := by have := hb2.size; simpa using this
  have st2 : Below w1.heap.size w1 w2 := (by repeat' (first | with_reducible exact Below.refl _ _ | with_reducible refine Below.alloc ?_ (by first | omega | (simp; done) | (simp; omega)) _ | with_reducible refine below_drewN ?_ _ | with_reducible refine Below.drew ?_ | with_reducible refine Below.setCell ?_ (by first | omega | (simp; done) | (simp; omega)) _ | with_reducible refine Below.trans ?_ (Below.mono hb2 (by first | omega | (simp; done) | (simp; omega)))))
  have HB2 : Below w.heap.size w w2 := HB1.trans (st2.mono HB1.size)
  have p1 : Blk w2 (w1.heap.size) 34 #[.slice A1 n1 c1, .slice B1 m1 d1] := by simpa using (Blk.new w1 34 #[.slice A1 n1 c1, .slice B1 m1 d1]).below hb2 (by simp)
  replace o1 := o1.keep (same_of_below st2 (by omega))
  replace u1 := u1.keep (same_of_below st2 (by omega))
  clear HB1
  clear st2
  have fp1 := p1.two; have lp1 := p1.lt
  replace og := (rowI og).mono (b' := w1.heap.size + 1) (by first | omega | (simp; done) | (simp; omega)) (Nat.le_refl _)
  replace ug := (rowI ug).mono (b' := w1.heap.size + 1) (by first | omega | (simp; done) | (simp; omega)) (Nat.le_refl _)
  have hng : ng ≤ 21 := by have := og.len; have := take_len xs1 ys1 x1; have := ln1.out; have := lm1.out; omega
  have hmg : mg ≤ 21 := by have := ug.len; have := take_len xs1 ys1 x1; have := ln1.out; have := lm1.out; omega
  have cpg := og.cap
  go_wp2_with fail
  refine (specTake_any _ _ _ _ _ _ xs1 ys1 x1 _ ((o1.ints (B := w2.heap.size) (by omega)).box _) ((u1.ints (B := w2.heap.size) (by omega)).box _) (by omega) (by omega)).mono ?_
  rintro e w3 ⟨Ah, nh, ch, Bh, mh, dh, rfl, oh, uh, aph, hb3⟩
  clear fp1 lp1
  have z3 : w2.heap.size + 1 ≤ w3.heap.size := by have := hb3.size; simpa using this
  have st3 : Below w2.heap.size w2 w3 := (by repeat' (first | with_reducible exact Below.refl _ _ | with_reducible refine Below.alloc ?_ (by first | omega | (simp; done) | (simp; omega)) _ | with_reducible refine below_drewN ?_ _ | with_reducible refine Below.drew ?_ | with_reducible refine Below.setCell ?_ (by first | omega | (simp; done) | (simp; omega)) _ | with_reducible refine Below.trans ?_ (Below.mono hb3 (by first | omega | (simp; done) | (simp; omega)))))
  have HB3 : Below w.heap.size w w3 := HB2.trans (st3.mono HB2.size)
  replace p1 := p1.below st3 (by omega)
  have pg : Blk w3 (w2.heap.size) 34 #[.slice Ag ng cg, .slice Bg mg dg] := by simpa using (Blk.new w2 34 #[.slice Ag ng cg, .slice Bg mg dg]).below hb3 (by simp)
  replace o1 := o1.keep (same_of_below st3 (by omega))
  replace u1 := u1.keep (same_of_below st3 (by omega))
  replace og := og.keep (same_of_below st3 (by omega))
  replace ug := ug.keep (same_of_below st3 (by omega))
  clear HB2
  clear st3
  have fp1 := p1.two; have lp1 := p1.lt
  have fpg := pg.two; have lpg := pg.lt
  replace oh := (rowI oh).mono (b' := w2.heap.size + 1) (by first | omega | (simp; done) | (simp; omega)) (Nat.le_refl _)
  replace uh := (rowI uh).mono (b' := w2.heap.size + 1) (by first | omega | (simp; done) | (simp; omega)) (Nat.le_refl _)
  have hnh : nh ≤ 21 := by have := oh.len; have := take_len xs1 ys1 x1; have := ln1.out; have := lm1.out; omega
  have hmh : mh ≤ 21 := by have := uh.len; have := take_len xs1 ys1 x1; have := ln1.out; have := lm1.out; omega
  have cph := oh.cap
  go_wp2_with fail
  refine (sameQueue_same _ _ _ _ _ _ (takeItems xs1 ys1 x1) (takeTaken xs1 ys1 x1) _ _ _ _ _ _ _ ((og.ints (B := w3.heap.size) (by omega)).box _) ((ug.ints (B := w3.heap.size) (by omega)).box _) ((oh.ints (B := w3.heap.size) (by omega)).box _) ((uh.ints (B := w3.heap.size) (by omega)).box _) (by omega) (by omega) (by omega) (by omega)).mono ?_
  rintro e w4 ⟨rfl, hb4⟩
  clear fp1 lp1 fpg lpg
  have z4 : w3.heap.size + 1 ≤ w4.heap.size := by have := hb4.size; simpa using this
  have st4 : Below w3.heap.size w3 w4 := (by repeat' (first | with_reducible exact Below.refl _ _ | with_reducible refine Below.alloc ?_ (by first | omega | (simp; done) | (simp; omega)) _ | with_reducible refine below_drewN ?_ _ | with_reducible refine Below.drew ?_ | with_reducible refine Below.setCell ?_ (by first | omega | (simp; done) | (simp; omega)) _ | with_reducible refine Below.trans ?_ (Below.mono hb4 (by first | omega | (simp; done) | (simp; omega)))))
  have HB4 : Below w.heap.size w w4 := HB3.trans (st4.mono HB3.size)
  replace p1 := p1.below st4 (by omega)
  replace pg := pg.below st4 (by omega)
  have ph : Blk w4 (w3.heap.size) 34 #[.slice Ah nh ch, .slice Bh mh dh] := by simpa using (Blk.new w3 34 #[.slice Ah nh ch, .slice Bh mh dh]).below hb4 (by simp)
  replace o1 := o1.keep (same_of_below st4 (by omega))
  replace u1 := u1.keep (same_of_below st4 (by omega))
  replace og := og.keep (same_of_below st4 (by omega))
  replace ug := ug.keep (same_of_below st4 (by omega))
  replace oh := oh.keep (same_of_below st4 (by omega))
  replace uh := uh.keep (same_of_below st4 (by omega))
  clear HB3
  clear st4
  have fp1 := p1.two; have lp1 := p1.lt
  have fpg := pg.two; have lpg := pg.lt
  have fph := ph.two; have lph := ph.lt
  cases hB : takeB xs1 ys1 x1
  · go_wp2_with fail
    refine (sameQueue_same _ _ _ _ _ _ (takeItems xs1 ys1 x1) (takeTaken xs1 ys1 x1) _ _ _ _ _ _ _ (og.ints (B := w4.heap.size) (by omega)) (ug.ints (B := w4.heap.size) (by omega)) (oh.ints (B := w4.heap.size) (by omega)) (uh.ints (B := w4.heap.size) (by omega)) (by omega) (by omega) (by omega) (by omega)).mono ?_
    rintro e w5 ⟨rfl, hb5⟩
    clear fp1 lp1 fpg lpg fph lph
    have z5 : w4.heap.size ≤ w5.heap.size := by have := hb5.size; simpa using this
    have st5 : Below w4.heap.size w4 w5 := (by repeat' (first | with_reducible exact Below.refl _ _ | with_reducible refine Below.alloc ?_ (by first | omega | (simp; done) | (simp; omega)) _ | with_reducible refine below_drewN ?_ _ | with_reducible refine Below.drew ?_ | with_reducible refine Below.setCell ?_ (by first | omega | (simp; done) | (simp; omega)) _ | with_reducible refine Below.trans ?_ (Below.mono hb5 (by first | omega | (simp; done) | (simp; omega)))))
    have HB5 : Below w.heap.size w w5 := HB4.trans (st5.mono HB4.size)
    replace p1 := p1.below st5 (by omega)
    replace pg := pg.below st5 (by omega)
    replace ph := ph.below st5 (by omega)
    replace o1 := o1.keep (same_of_below st5 (by omega))
    replace u1 := u1.keep (same_of_below st5 (by omega))
    replace og := og.keep (same_of_below st5 (by omega))
    replace ug := ug.keep (same_of_below st5 (by omega))
    replace oh := oh.keep (same_of_below st5 (by omega))
    replace uh := uh.keep (same_of_below st5 (by omega))
    clear HB4
    clear st5
    have fp1 := p1.two; have lp1 := p1.lt
    have fpg := pg.two; have lpg := pg.lt
    have fph := ph.two; have lph := ph.lt
    go_wp2
    go_ret
    exact ⟨rfl, HB5⟩
  · obtain ⟨e1, e2, e3, hv, hin, hlt⟩ := take_true hB
    rw [e1] at og oh
    rw [e2] at ug uh
    rw [e3]
    have hv2 := Lib.hid (qv_take hB)
    have hx03 : 0 ≤ x1 ∧ x1 ≤ 3 := by simpa [inB] using hin
    obtain ⟨hx0, hx3⟩ := hx03
    have hmn : m1 < n1 := by have := ln1.out; have := lm1.out; omega
    clear e1 e2 e3 hnei heqi hin hlt
    have hxa : xs1[ys1.length]? = some (xs1.getD ys1.length 0) := by have := (take_true hB).2.2.2.2.2; simp [this]
    have hqt := qof_take hB
    have hql := qleft_take hB
    generalize xs1.getD ys1.length 0 = a at *
    have HXA := Lib.hid hxa
    have HQT := Lib.hid hqt
    have HQL := Lib.hid hql
    clear hxa hqt hql
    go_wp2_with fail
    refine (implQueueLeft_any _ _ _ _ _ _ xs1 ys1 _ (o1.ints (B := w4.heap.size) (by omega)) (u1.ints (B := w4.heap.size) (by omega)) (by omega) (by omega) cp1).mono ?_
    rintro e w5 ⟨Al, nl, cl, rfl, ol, hb5⟩
    clear fp1 lp1 fpg lpg fph lph
    have z5 : w4.heap.size ≤ w5.heap.size := by have := hb5.size; simpa using this
    have st5 : Below w4.heap.size w4 w5 := (by repeat' (first | with_reducible exact Below.refl _ _ | with_reducible refine Below.alloc ?_ (by first | omega | (simp; done) | (simp; omega)) _ | with_reducible refine below_drewN ?_ _ | with_reducible refine Below.drew ?_ | with_reducible refine Below.setCell ?_ (by first | omega | (simp; done) | (simp; omega)) _ | with_reducible refine Below.trans ?_ (Below.mono hb5 (by first | omega | (simp; done) | (simp; omega)))))
    have HB5 : Below w.heap.size w w5 := HB4.trans (st5.mono HB4.size)
    replace p1 := p1.below st5 (by omega)
    replace pg := pg.below st5 (by omega)
    replace ph := ph.below st5 (by omega)
    replace o1 := o1.keep (same_of_below st5 (by omega))
    replace u1 := u1.keep (same_of_below st5 (by omega))
    replace og := og.keep (same_of_below st5 (by omega))
    replace ug := ug.keep (same_of_below st5 (by omega))
    replace oh := oh.keep (same_of_below st5 (by omega))
    replace uh := uh.keep (same_of_below st5 (by omega))
    clear HB4
    clear st5
    have fp1 := p1.two; have lp1 := p1.lt
    have fpg := pg.two; have lpg := pg.lt
    have fph := ph.two; have lph := ph.lt
    replace ol := (rowI ol).mono (b' := w4.heap.size) (by first | omega | (simp; done) | (simp; omega)) (Nat.le_refl _)
    rw [HQL.out] at ol
    have nl22 : nl ≤ 22 := by have h := ol.len; have := qleft_len xs1 (ys1 ++ [x1]); have := ln1.out; simp at h; omega
    have nl1 : 1 ≤ nl := by have h := ol.len; simp at h; omega
    go_wp2_with fail
    refine (implQueueOf_any _ _ _ _ _ _ (xs1) ((ys1 ++ [x1])) (x1) _ (og.ints (B := w5.heap.size) (by omega)) (ug.ints (B := w5.heap.size) (by omega)) (by omega) (by omega)).mono ?_
    rintro e w6 ⟨Am, nm, cm, rfl, om, hb6⟩
    clear fp1 lp1 fpg lpg fph lph
    have z6 : w5.heap.size ≤ w6.heap.size := by have := hb6.size; simpa using this
    have st6 : Below w5.heap.size w5 w6 := (by repeat' (first | with_reducible exact Below.refl _ _ | with_reducible refine Below.alloc ?_ (by first | omega | (simp; done) | (simp; omega)) _ | with_reducible refine below_drewN ?_ _ | with_reducible refine Below.drew ?_ | with_reducible refine Below.setCell ?_ (by first | omega | (simp; done) | (simp; omega)) _ | with_reducible refine Below.trans ?_ (Below.mono hb6 (by first | omega | (simp; done) | (simp; omega)))))
    have HB6 : Below w.heap.size w w6 := HB5.trans (st6.mono HB5.size)
    replace p1 := p1.below st6 (by omega)
    replace pg := pg.below st6 (by omega)
    replace ph := ph.below st6 (by omega)
    replace o1 := o1.keep (same_of_below st6 (by omega))
    replace u1 := u1.keep (same_of_below st6 (by omega))
    replace og := og.keep (same_of_below st6 (by omega))
    replace ug := ug.keep (same_of_below st6 (by omega))
    replace oh := oh.keep (same_of_below st6 (by omega))
    replace uh := uh.keep (same_of_below st6 (by omega))
    replace ol := ol.keep (same_of_below st6 (by omega))
    clear HB5
    clear st6
    have fp1 := p1.two; have lp1 := p1.lt
    have fpg := pg.two; have lpg := pg.lt
    have fph := ph.two; have lph := ph.lt
    replace om := (rowI om).mono (b' := w5.heap.size) (by first | omega | (simp; done) | (simp; omega)) (Nat.le_refl _)
    rw [HQT.out] at om
    have nm22 : nm ≤ 23 := by have h := om.len; have := qof_len xs1 ys1 x1; have := lm1.out; simp at h; omega
    obtain ⟨k, rfl⟩ : ∃ k, nm = k + 1 := ⟨(qof xs1 ys1 x1).length, by have h := om.len; simp at h; omega⟩
    obtain ⟨gl, rfl, hgl1, hgl2⟩ := ol.form (by omega)
    obtain ⟨gm, rfl, hgm1, hgm2⟩ := om.form (by omega)
    have fl := ol.cellIs (k := 0) (x := a) (by simp)
    have fm := om.cellIs (k := k) (x := a) (by have h := om.len; simp at h; simp [h])
    have haa : (a == a) = true := by simp
    have k0 : (0 : Int) ≤ (k : Int) := by omega
    have k1 : (k : Int) ≤ 22 := by omega
    have hcut := (ol.ints (B := w6.heap.size) (by omega)).cut (k := 1) (cap := cl) nl1 (by have := ol.cap; omega)
    have hsl : ∀ w, (Instr.slice 29 (.slice (some ⟨gl, 0, none⟩) nl cl) (some (.int .i64 1)) none none).run Try.prog w = .ok (.slice (if cl = 1 then some ⟨gl, 0, none⟩ else (some (⟨gl, 0, none⟩ : Addr)).map (·.add 1)) (nl - 1) (cl - 1)) w := fun w => cut_run (some ⟨gl, 0, none⟩) nl cl 1 nl1 w
    generalize (if cl = 1 then some (⟨gl, 0, none⟩ : Addr) else (some (⟨gl, 0, none⟩ : Addr)).map (·.add 1)) = A0 at hcut hsl
    have nlI : (1 : Int) ≤ (nl : Int) := by omega
    have hcl := ol.cap
    have nlc : (nl : Int) ≤ (cl : Int) := by omega
    have hk11 : (((k + 1 : Nat) : Int) == (k : Int) + 1) = true := by rw [beq_iff_eq]; omega
    have hk12 : ((k : Int) + 1 == (k : Int) + 1) = true := by simp
    have nl0 : 0 < nl := by omega
    have nl0I : (0 : Int) < (nl : Int) := by omega
    have kk0 : (k : Int) < (k : Int) + 1 := by omega
    have hw1 : IntKind.i64.wrap ((k : Int) + 1 - 1) = (k : Int) := by rw [show (k : Int) + 1 - 1 = (k : Int) by omega]; exact IntWalk.i64_in _ (by omega)
    have hw3 : IntKind.i64.wrap (k : Int) = (k : Int) := IntWalk.i64_in _ (by omega)
    have kk1 : k < k + 1 := by omega
    have hw2 : IntKind.i64.wrap ((k : Int) + 1) = (k : Int) + 1 := IntWalk.i64_in _ (by omega)
    go_wp2_with fail
    go_region_held3 (fun w' => w'.cell? ⟨w2.heap.size, 0, none⟩ = some (.slice Ag ng cg) ∧ w'.cell? ⟨w2.heap.size, 1, none⟩ = some (.slice Bg mg dg) ∧ w'.cell? ⟨w1.heap.size, 0, none⟩ = some (.slice A1 n1 c1) ∧ w'.cell? ⟨w1.heap.size, 1, none⟩ = some (.slice B1 m1 d1) ∧ w'.cell? ⟨gl, 0, none⟩ = some (.int .i64 a) ∧ w'.cell? ⟨gm, k, none⟩ = some (.int .i64 a))
      (first | exact ⟨fpg.1, fpg.2.1, fp1.1, fp1.2.1, fl.1, fm.1⟩ | exact ⟨gg.1, gg.2.1, g1.1, g1.2.1, gfl.1, gfm.1⟩ | exact ⟨kg.1, kg.2.1, k1'.1, k1'.2.1, kfl.1, kfm.1⟩ | exact ⟨jg.1, jg.2.1, j1.1, j1.2.1, jfl.1, jfm.1⟩)
      (first
        | (go_at_call 29; (with_reducible refine (implQueueLeft_any _ _ _ _ _ _ xs1 (ys1 ++ [x1]) _ (og.intsD (by omega)) (ug.intsD (by omega)) (by omega) (by omega) cpg).mono ?_); rintro e w7 ⟨Av, nv, cv, rfl, ov, hb7⟩; have z7 : w6.heap.size ≤ w7.heap.size := hb7.size; have st7 : Below w6.heap.size w6 w7 := (by repeat' (first | with_reducible exact Below.refl _ _ | with_reducible refine Below.alloc ?_ (by first | omega | (simp; done) | (simp; omega)) _ | with_reducible refine below_drewN ?_ _ | with_reducible refine Below.drew ?_ | with_reducible refine Below.setCell ?_ (by first | omega | (simp; done) | (simp; omega)) _ | with_reducible refine Below.trans ?_ (Below.mono hb7 (by first | omega | (simp; done) | (simp; omega))))); have g1 := (p1.below st7 lp1).two; have gg := (pg.below st7 lpg).two; have gfl := (ol.keep (same_of_below st7 (by omega))).cellIs (k := 0) (x := a) (by simp); have gfm := (om.keep (same_of_below st7 (by omega))).cellIs (k := k) (x := a) (by have h := om.len; simp at h; simp [h]); have lnv2 : nv ≤ 22 := (by have h := ov.len; have := qleft_len xs1 (ys1 ++ [x1]); have := ln1.out; omega))
        | (go_at_call 31; (with_reducible refine (sameInts_same _ _ _ _ _ _ (qleft xs1 (ys1 ++ [x1])) _ ov.ints (hcut.up st7 (by omega)) (by omega) (by omega)).mono ?_); rintro e w8 ⟨rfl, hb8⟩; have z8 : w7.heap.size ≤ w8.heap.size := hb8.size; have st8 : Below w6.heap.size w6 w8 := st7.trans (((by repeat' (first | with_reducible exact Below.refl _ _ | with_reducible refine Below.alloc ?_ (by first | omega | (simp; done) | (simp; omega)) _ | with_reducible refine below_drewN ?_ _ | with_reducible refine Below.drew ?_ | with_reducible refine Below.setCell ?_ (by first | omega | (simp; done) | (simp; omega)) _ | with_reducible refine Below.trans ?_ (Below.mono hb8 (by first | omega | (simp; done) | (simp; omega))))) : Below w7.heap.size w7 w8).mono z7); have k1' := (p1.below st8 lp1).two; have kg := (pg.below st8 lpg).two; have kfl := (ol.keep (same_of_below st8 (by omega))).cellIs (k := 0) (x := a) (by simp); have kfm := (om.keep (same_of_below st8 (by omega))).cellIs (k := k) (x := a) (by have h := om.len; simp at h; simp [h]))
        | (go_at_call 33; (with_reducible refine (implQueueOf_any _ _ _ _ _ _ xs1 ys1 _ _ ((o1.keep (same_of_below st8 (by omega))).ints (by omega)) ((u1.keep (same_of_below st8 (by omega))).ints (by omega)) (by omega) (by omega)).mono ?_); rintro e w9 ⟨Ay, ny, cy, rfl, oy, hb9⟩; have z9 : w8.heap.size ≤ w9.heap.size := hb9.size; have hny : ny = k := (by have h1 := oy.len; have h2 := om.len; simp at h2; omega); subst hny; have st9 : Below w6.heap.size w6 w9 := st8.trans (((by repeat' (first | with_reducible exact Below.refl _ _ | with_reducible refine Below.alloc ?_ (by first | omega | (simp; done) | (simp; omega)) _ | with_reducible refine below_drewN ?_ _ | with_reducible refine Below.drew ?_ | with_reducible refine Below.setCell ?_ (by first | omega | (simp; done) | (simp; omega)) _ | with_reducible refine Below.trans ?_ (Below.mono hb9 (by first | omega | (simp; done) | (simp; omega))))) : Below w8.heap.size w8 w9).mono (by omega)); have j1 := (p1.below st9 lp1).two; have jg := (pg.below st9 lpg).two; have jfl := (ol.keep (same_of_below st9 (by omega))).cellIs (k := 0) (x := a) (by simp); have jfm := (om.keep (same_of_below st9 (by omega))).cellIs (k := ny) (x := a) (by have h := om.len; simp at h; simp [h])))
    go_wp2
    go_ret
    exact ⟨rfl, HB6.trans (st9.mono HB6.size)⟩
end Go.Proofs.Ytdikfkhblkapjaa
