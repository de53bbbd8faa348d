/-
  The walk of FnViewJoinOrder: the law returns true and writes nothing that was there.
-/
import Derived.Test.YtmjacdcefaohcaaDoorDW
import Derived.Test.YtmjacdcefaohcaaDoorFL
import Derived.Test.YtmjacdcefaohcaaDoorE6
import Derived.Deep.RegionHeld3
import Derived.IntWalk
namespace Go.Proofs.YtmjacdcefaohcaaDoor
open Go.RowKit
set_option linter.unusedVariables false

set_option maxHeartbeats 4000000 in
theorem fnViewJoinOrder_walk (A : Option Addr) (n c : Nat) (bs : List Int) (B : Option Addr) (m d : Nat) (cs : List Int) (ea : Addr) (w : World) (hc : n ≤ c) (hcm : c ≤ 9223372036854775807) (hb : Bytes w w.heap.size A n bs) (hd : m ≤ d) (hdm : d ≤ 9223372036854775807) (hb' : Bytes w w.heap.size B m cs) (hsE : Sent w ea) :
    Calls Tryd.prog 4 #[.slice A n c, .slice B m d] w fun e w' => e = .returned (.bool true) ∧ Below w.heap.size w w' := by
  by_cases hn : 1048576 < n
  · go_enter Tryd.func4, Tryd.ntmps4
    go_wp2
    go_ret
    exact ⟨rfl, Below.refl _ _⟩
  by_cases hm : 1048576 < m
  · go_enter Tryd.func4, Tryd.ntmps4
    go_wp2
    go_ret
    exact ⟨rfl, Below.refl _ _⟩
  go_enter Tryd.func4, Tryd.ntmps4
  have HB0 : Below w.heap.size w w := Below.refl _ _
  go_wp2_with fail
  refine (drawViewJoin_any _ _ _ _ _ hb (by omega) hc hcm).mono ?_
  rintro e w1 ⟨q1, A1, n1, c1, xs1, x1, rfl, o1, hn1, hx0, hx1, hb1⟩
  have z1 : w.heap.size ≤ w1.heap.size := by have := hb1.size; simpa using this
  have st1 : Below w.heap.size w w1 := (by repeat' (first | with_reducible exact Below.refl _ _ | with_reducible refine Below.alloc ?_ (by first | omega | (simp; done) | (simp; omega)) _ | with_reducible refine below_drewN ?_ _ | with_reducible refine Below.drew ?_ | with_reducible refine Below.setCell ?_ (by first | omega | (simp; done) | (simp; omega)) _ | with_reducible refine Below.trans ?_ (Below.mono hb1 (by first | omega | (simp; done) | (simp; omega)))))
  have HB1 : Below w.heap.size w w1 := HB0.trans (st1.mono HB0.size)
  clear HB0
  clear st1
  replace o1 := (rowI o1).mono (b' := w.heap.size) (by first | omega | (simp; done) | (simp; omega)) (Nat.le_refl _)
  have ln1 := Lib.hid o1.len; have cp1 := o1.cap
  go_wp2_with fail
  refine (implJoin_any _ _ _ q1 xs1 x1 ea _ ((hsE.below HB1 hsE.lt).alloc _) ((o1.ints (B := w1.heap.size) (by omega)).box _) (by omega)).mono ?_
  rintro e w2 ⟨Ag, ng, cg, rfl, og, hb2⟩
  have z2 : w1.heap.size + 1 ≤ w2.heap.size := by have := hb2.size; simpa using this
  have st2 : Below w1.heap.size w1 w2 := (by repeat' (first | with_reducible exact Below.refl _ _ | with_reducible refine Below.alloc ?_ (by first | omega | (simp; done) | (simp; omega)) _ | with_reducible refine below_drewN ?_ _ | with_reducible refine Below.drew ?_ | with_reducible refine Below.setCell ?_ (by first | omega | (simp; done) | (simp; omega)) _ | with_reducible refine Below.trans ?_ (Below.mono hb2 (by first | omega | (simp; done) | (simp; omega)))))
  have HB2 : Below w.heap.size w w2 := HB1.trans (st2.mono HB1.size)
  have p1 : Blk w2 (w1.heap.size) 25 #[.int .i64 (q1), .slice A1 n1 c1] := by simpa using (Blk.new w1 25 #[.int .i64 (q1), .slice A1 n1 c1]).below hb2 (by first | (simp; done) | (simp; omega))
  replace o1 := o1.keep (same_of_below st2 (by omega))
  clear HB1
  clear st2
  have fp1 := p1.two; have lp1 := p1.lt
  replace og := (rowI og).mono (b' := w1.heap.size + 1) (by first | omega | (simp; done) | (simp; omega)) (Nat.le_refl _)
  have ng8 : ng ≤ 8 := by have := og.len; have := gX_len (joinOk q1 xs1 x1) (q1 + 1) (joinL xs1 x1); omega
  go_wp2_with fail
  refine (specJoin_any _ _ _ q1 xs1 x1 _ ((o1.ints (B := w2.heap.size) (by omega)).box _) (by omega) cp1).mono ?_
  rintro e w3 ⟨Ah, nh, ch, rfl, oh, hb3⟩
  clear fp1 lp1
  have z3 : w2.heap.size + 1 ≤ w3.heap.size := by have := hb3.size; simpa using this
  have st3 : Below w2.heap.size w2 w3 := (by repeat' (first | with_reducible exact Below.refl _ _ | with_reducible refine Below.alloc ?_ (by first | omega | (simp; done) | (simp; omega)) _ | with_reducible refine below_drewN ?_ _ | with_reducible refine Below.drew ?_ | with_reducible refine Below.setCell ?_ (by first | omega | (simp; done) | (simp; omega)) _ | with_reducible refine Below.trans ?_ (Below.mono hb3 (by first | omega | (simp; done) | (simp; omega)))))
  have HB3 : Below w.heap.size w w3 := HB2.trans (st3.mono HB2.size)
  replace p1 := p1.below st3 p1.lt
  have pg : Blk w3 (w2.heap.size) 25 #[.int .i64 (gQ (joinOk q1 xs1 x1) (q1 + 1) (joinL xs1 x1)), .slice Ag ng cg] := by simpa using (Blk.new w2 25 #[.int .i64 (gQ (joinOk q1 xs1 x1) (q1 + 1) (joinL xs1 x1)), .slice Ag ng cg]).below hb3 (by first | (simp; done) | (simp; omega))
  replace o1 := o1.keep (same_of_below st3 (by omega))
  replace og := og.keep (same_of_below st3 (by omega))
  clear HB2
  clear st3
  have fp1 := p1.two; have lp1 := p1.lt
  have fpg := pg.two; have lpg := pg.lt
  replace oh := (rowI oh).mono (b' := w2.heap.size + 1) (by first | omega | (simp; done) | (simp; omega)) (Nat.le_refl _)
  have nh8 : nh ≤ 8 := by have := oh.len; have := gX_len (joinOk q1 xs1 x1) (q1 + 1) (joinL xs1 x1); omega
  have hne : (gB (joinOk q1 xs1 x1) (q1 + 1) (joinL xs1 x1) != gB (joinOk q1 xs1 x1) (q1 + 1) (joinL xs1 x1)) = false := by simp
  have heq : (gB (joinOk q1 xs1 x1) (q1 + 1) (joinL xs1 x1) == gB (joinOk q1 xs1 x1) (q1 + 1) (joinL xs1 x1)) = true := by simp
  go_wp2_with fail
  refine (sameView_same _ _ _ (gQ (joinOk q1 xs1 x1) (q1 + 1) (joinL xs1 x1)) (gX (joinOk q1 xs1 x1) (q1 + 1) (joinL xs1 x1)) _ _ _ _ ((og.ints (B := w3.heap.size) (by omega)).box _) ((oh.ints (B := w3.heap.size) (by omega)).box _) (by omega) (by omega)).mono ?_
  rintro e w4 ⟨rfl, hb4⟩
  clear fp1 lp1 fpg lpg
  have z4 : w3.heap.size + 1 ≤ w4.heap.size := by have := hb4.size; simpa using this
  have st4 : Below w3.heap.size w3 w4 := (by repeat' (first | with_reducible exact Below.refl _ _ | with_reducible refine Below.alloc ?_ (by first | omega | (simp; done) | (simp; omega)) _ | with_reducible refine below_drewN ?_ _ | with_reducible refine Below.drew ?_ | with_reducible refine Below.setCell ?_ (by first | omega | (simp; done) | (simp; omega)) _ | with_reducible refine Below.trans ?_ (Below.mono hb4 (by first | omega | (simp; done) | (simp; omega)))))
  have HB4 : Below w.heap.size w w4 := HB3.trans (st4.mono HB3.size)
  replace p1 := p1.below st4 p1.lt
  replace pg := pg.below st4 pg.lt
  have ph : Blk w4 (w3.heap.size) 25 #[.int .i64 (gQ (joinOk q1 xs1 x1) (q1 + 1) (joinL xs1 x1)), .slice Ah nh ch] := by simpa using (Blk.new w3 25 #[.int .i64 (gQ (joinOk q1 xs1 x1) (q1 + 1) (joinL xs1 x1)), .slice Ah nh ch]).below hb4 (by first | (simp; done) | (simp; omega))
  replace o1 := o1.keep (same_of_below st4 (by omega))
  replace og := og.keep (same_of_below st4 (by omega))
  replace oh := oh.keep (same_of_below st4 (by omega))
  clear HB3
  clear st4
  have fp1 := p1.two; have lp1 := p1.lt
  have fpg := pg.two; have lpg := pg.lt
  have fph := ph.two; have lph := ph.lt
  cases hB : gB (joinOk q1 xs1 x1) (q1 + 1) (joinL xs1 x1)
  · go_wp2_with fail
    refine (sameView_same _ _ _ (gQ (joinOk q1 xs1 x1) (q1 + 1) (joinL xs1 x1)) (gX (joinOk q1 xs1 x1) (q1 + 1) (joinL xs1 x1)) _ _ _ _ (og.ints (B := w4.heap.size) (by omega)) (oh.ints (B := w4.heap.size) (by omega)) (by omega) (by omega)).mono ?_
    rintro e w5 ⟨rfl, hb5⟩
    clear fp1 lp1 fpg lpg fph lph
    have z5 : w4.heap.size ≤ w5.heap.size := by have := hb5.size; simpa using this
    have st5 : Below w4.heap.size w4 w5 := (by repeat' (first | with_reducible exact Below.refl _ _ | with_reducible refine Below.alloc ?_ (by first | omega | (simp; done) | (simp; omega)) _ | with_reducible refine below_drewN ?_ _ | with_reducible refine Below.drew ?_ | with_reducible refine Below.setCell ?_ (by first | omega | (simp; done) | (simp; omega)) _ | with_reducible refine Below.trans ?_ (Below.mono hb5 (by first | omega | (simp; done) | (simp; omega)))))
    have HB5 : Below w.heap.size w w5 := HB4.trans (st5.mono HB4.size)
    replace p1 := p1.below st5 p1.lt
    replace pg := pg.below st5 pg.lt
    replace ph := ph.below st5 ph.lt
    replace o1 := o1.keep (same_of_below st5 (by omega))
    replace og := og.keep (same_of_below st5 (by omega))
    replace oh := oh.keep (same_of_below st5 (by omega))
    clear HB4
    clear st5
    have fp1 := p1.two; have lp1 := p1.lt
    have fpg := pg.two; have lpg := pg.lt
    have fph := ph.two; have lph := ph.lt
    go_wp2
    go_ret
    exact ⟨rfl, HB5⟩
  · have HB' := Lib.hid hB
    obtain ⟨hok, hvv, eQ, eX⟩ := g_true hB
    have HOK := Lib.hid hok; have HVV := Lib.hid hvv; have EQ := Lib.hid eQ; have EX := Lib.hid eX
    have hq19 := vv_q hvv
    clear hne heq hB hok hvv eQ eX
    clear oh
    rw [EX.out] at og
    clear fpg
    rw [EQ.out] at pg
    have fpg := pg.two
    have hm8 : 0 ≤ (m : Int) % 8 ∧ (m : Int) % 8 ≤ 7 := by omega
    go_wp2_with fail
    refine (implJoin_any _ _ _ (q1 + 1) (joinL xs1 x1) ((m : Int) % 8) ea _ (hsE.below HB4 hsE.lt) (og.ints (B := w4.heap.size) (by omega)) (by omega)).mono ?_
    rintro e w5 ⟨Aa, na, ca, rfl, oa, hb5⟩
    clear fp1 lp1 fpg lpg fph lph
    have z5 : w4.heap.size ≤ w5.heap.size := by have := hb5.size; simpa using this
    have st5 : Below w4.heap.size w4 w5 := (by repeat' (first | with_reducible exact Below.refl _ _ | with_reducible refine Below.alloc ?_ (by first | omega | (simp; done) | (simp; omega)) _ | with_reducible refine below_drewN ?_ _ | with_reducible refine Below.drew ?_ | with_reducible refine Below.setCell ?_ (by first | omega | (simp; done) | (simp; omega)) _ | with_reducible refine Below.trans ?_ (Below.mono hb5 (by first | omega | (simp; done) | (simp; omega)))))
    have HB5 : Below w.heap.size w w5 := HB4.trans (st5.mono HB4.size)
    replace p1 := p1.below st5 p1.lt
    replace pg := pg.below st5 pg.lt
    replace ph := ph.below st5 ph.lt
    replace o1 := o1.keep (same_of_below st5 (by omega))
    replace og := og.keep (same_of_below st5 (by omega))
    clear HB4
    clear st5
    have fp1 := p1.two; have lp1 := p1.lt
    have fpg := pg.two; have lpg := pg.lt
    have fph := ph.two; have lph := ph.lt
    replace oa := (rowI oa).mono (b' := w4.heap.size) (by first | omega | (simp; done) | (simp; omega)) (Nat.le_refl _)
    have na8 : na ≤ 8 := by have := oa.len; have := gX_len (joinOk (q1 + 1) (joinL xs1 x1) ((m : Int) % 8)) (q1 + 1 + 1) (joinL (joinL xs1 x1) ((m : Int) % 8)); omega
    go_wp2_with fail
    refine (implJoin_any _ _ _ (q1) (xs1) ((m : Int) % 8) ea _ ((hsE.below HB5 hsE.lt).alloc _) ((o1.ints (B := w5.heap.size) (by omega)).box _) (by omega)).mono ?_
    rintro e w6 ⟨Ab, nb, cb, rfl, ob, hb6⟩
    clear fp1 lp1 fpg lpg fph lph
    have z6 : w5.heap.size + 1 ≤ w6.heap.size := by have := hb6.size; simpa using this
    have st6 : Below w5.heap.size w5 w6 := (by repeat' (first | with_reducible exact Below.refl _ _ | with_reducible refine Below.alloc ?_ (by first | omega | (simp; done) | (simp; omega)) _ | with_reducible refine below_drewN ?_ _ | with_reducible refine Below.drew ?_ | with_reducible refine Below.setCell ?_ (by first | omega | (simp; done) | (simp; omega)) _ | with_reducible refine Below.trans ?_ (Below.mono hb6 (by first | omega | (simp; done) | (simp; omega)))))
    have HB6 : Below w.heap.size w w6 := HB5.trans (st6.mono HB5.size)
    replace p1 := p1.below st6 p1.lt
    replace pg := pg.below st6 pg.lt
    replace ph := ph.below st6 ph.lt
    have pa : Blk w6 (w5.heap.size) 25 #[.int .i64 (gQ (joinOk (q1 + 1) (joinL xs1 x1) ((m : Int) % 8)) (q1 + 1 + 1) (joinL (joinL xs1 x1) ((m : Int) % 8))), .slice Aa na ca] := by simpa using (Blk.new w5 25 #[.int .i64 (gQ (joinOk (q1 + 1) (joinL xs1 x1) ((m : Int) % 8)) (q1 + 1 + 1) (joinL (joinL xs1 x1) ((m : Int) % 8))), .slice Aa na ca]).below hb6 (by first | (simp; done) | (simp; omega))
    replace o1 := o1.keep (same_of_below st6 (by omega))
    replace og := og.keep (same_of_below st6 (by omega))
    replace oa := oa.keep (same_of_below st6 (by omega))
    clear HB5
    clear st6
    have fp1 := p1.two; have lp1 := p1.lt
    have fpg := pg.two; have lpg := pg.lt
    have fph := ph.two; have lph := ph.lt
    have fpa := pa.two; have lpa := pa.lt
    replace ob := (rowI ob).mono (b' := w5.heap.size + 1) (by first | omega | (simp; done) | (simp; omega)) (Nat.le_refl _)
    have nb8 : nb ≤ 8 := by have := ob.len; have := gX_len (joinOk (q1) (xs1) ((m : Int) % 8)) (q1 + 1) (joinL (xs1) ((m : Int) % 8)); omega
    cases hA1 : gB (joinOk (q1 + 1) (joinL xs1 x1) ((m : Int) % 8)) (q1 + 1 + 1) (joinL (joinL xs1 x1) ((m : Int) % 8))
    · go_wp2
      go_ret
      exact ⟨rfl, (by repeat' (first | with_reducible exact Below.refl _ _ | with_reducible assumption | with_reducible refine Below.setCell ?_ (by first | omega | (simp; done) | (simp; omega)) _ | with_reducible refine Below.alloc ?_ (by first | omega | (simp; done) | (simp; omega)) _ | with_reducible refine below_drewN ?_ _ | with_reducible refine Below.drew ?_ | (with_reducible refine Below.trans ?_ (Below.mono (by with_reducible assumption) (by first | omega | (simp; done) | (simp; omega))))))⟩
    · cases hB1' : gB (joinOk q1 xs1 ((m : Int) % 8)) (q1 + 1) (joinL xs1 ((m : Int) % 8))
      · go_wp2
        go_ret
        exact ⟨rfl, (by repeat' (first | with_reducible exact Below.refl _ _ | with_reducible assumption | with_reducible refine Below.setCell ?_ (by first | omega | (simp; done) | (simp; omega)) _ | with_reducible refine Below.alloc ?_ (by first | omega | (simp; done) | (simp; omega)) _ | with_reducible refine below_drewN ?_ _ | with_reducible refine Below.drew ?_ | (with_reducible refine Below.trans ?_ (Below.mono (by with_reducible assumption) (by first | omega | (simp; done) | (simp; omega))))))⟩
      · have HA1 := Lib.hid hA1; have HB1' := Lib.hid hB1'
        obtain ⟨_, _, ea1, ea2⟩ := g_true hA1
        obtain ⟨_, _, eb1, eb2⟩ := g_true hB1'
        have EA1 := Lib.hid ea1; have EA2 := Lib.hid ea2; have EB1 := Lib.hid eb1; have EB2 := Lib.hid eb2
        clear hA1 hB1' ea1 ea2 eb1 eb2
        rw [EA2.out] at oa
        clear fpa
        rw [EA1.out] at pa
        have fpa := pa.two
        rw [EB2.out] at ob
        rw [EB1.out]
        go_wp2_with fail
        refine (implJoin_any _ _ _ (q1 + 1) (joinL xs1 ((m : Int) % 8)) (x1) ea _ ((hsE.below HB6 hsE.lt).alloc _) ((ob.ints (B := w6.heap.size) (by omega)).box _) (by omega)).mono ?_
        rintro e w7 ⟨Ac, nc, cc, rfl, oc, hb7⟩
        clear fp1 lp1 fpg lpg fph lph fpa lpa
        have z7 : w6.heap.size + 1 ≤ w7.heap.size := by have := hb7.size; simpa using this
        have st7 : Below w6.heap.size w6 w7 := (by repeat' (first | with_reducible exact Below.refl _ _ | with_reducible refine Below.alloc ?_ (by first | omega | (simp; done) | (simp; omega)) _ | with_reducible refine below_drewN ?_ _ | with_reducible refine Below.drew ?_ | with_reducible refine Below.setCell ?_ (by first | omega | (simp; done) | (simp; omega)) _ | with_reducible refine Below.trans ?_ (Below.mono hb7 (by first | omega | (simp; done) | (simp; omega)))))
        have HB7 : Below w.heap.size w w7 := HB6.trans (st7.mono HB6.size)
        replace p1 := p1.below st7 p1.lt
        replace pg := pg.below st7 pg.lt
        replace ph := ph.below st7 ph.lt
        replace pa := pa.below st7 pa.lt
        have pb : Blk w7 (w6.heap.size) 25 #[.int .i64 (q1 + 1), .slice Ab nb cb] := by simpa using (Blk.new w6 25 #[.int .i64 (q1 + 1), .slice Ab nb cb]).below hb7 (by first | (simp; done) | (simp; omega))
        replace o1 := o1.keep (same_of_below st7 (by omega))
        replace og := og.keep (same_of_below st7 (by omega))
        replace oa := oa.keep (same_of_below st7 (by omega))
        replace ob := ob.keep (same_of_below st7 (by omega))
        clear HB6
        clear st7
        have fp1 := p1.two; have lp1 := p1.lt
        have fpg := pg.two; have lpg := pg.lt
        have fph := ph.two; have lph := ph.lt
        have fpa := pa.two; have lpa := pa.lt
        have fpb := pb.two; have lpb := pb.lt
        replace oc := (rowI oc).mono (b' := w6.heap.size + 1) (by first | omega | (simp; done) | (simp; omega)) (Nat.le_refl _)
        have nc8 : nc ≤ 8 := by have := oc.len; have := gX_len (joinOk (q1 + 1) (joinL xs1 ((m : Int) % 8)) (x1)) (q1 + 1 + 1) (joinL (joinL xs1 ((m : Int) % 8)) (x1)); omega
        obtain ⟨y1, y2, y3⟩ := jo_yes HB'.out HA1.out HB1'.out
        rw [y1, y2]
        rw [y3] at oc
        clear y1 y2 y3
        go_wp2_with fail
        refine (sameView_same _ _ _ (q1 + 1 + 1) (joinL (joinL xs1 x1) ((m : Int) % 8)) _ _ _ _ ((oc.ints (B := w7.heap.size) (by omega)).box _) ((oa.ints (B := w7.heap.size) (by omega)).box _) (by omega) (by omega)).mono ?_
        rintro e w8 ⟨rfl, hb8⟩
        clear fp1 lp1 fpg lpg fph lph fpa lpa fpb lpb
        have z8 : w7.heap.size + 1 ≤ w8.heap.size := by have := hb8.size; simpa using this
        have st8 : Below w7.heap.size w7 w8 := (by repeat' (first | with_reducible exact Below.refl _ _ | with_reducible refine Below.alloc ?_ (by first | omega | (simp; done) | (simp; omega)) _ | with_reducible refine below_drewN ?_ _ | with_reducible refine Below.drew ?_ | with_reducible refine Below.setCell ?_ (by first | omega | (simp; done) | (simp; omega)) _ | with_reducible refine Below.trans ?_ (Below.mono hb8 (by first | omega | (simp; done) | (simp; omega)))))
        have HB8 : Below w.heap.size w w8 := HB7.trans (st8.mono HB7.size)
        replace p1 := p1.below st8 p1.lt
        replace pg := pg.below st8 pg.lt
        replace ph := ph.below st8 ph.lt
        replace pa := pa.below st8 pa.lt
        replace pb := pb.below st8 pb.lt
        have pc : Blk w8 (w7.heap.size) 25 #[.int .i64 (q1 + 1 + 1), .slice Ac nc cc] := by simpa using (Blk.new w7 25 #[.int .i64 (q1 + 1 + 1), .slice Ac nc cc]).below hb8 (by first | (simp; done) | (simp; omega))
        replace o1 := o1.keep (same_of_below st8 (by omega))
        replace og := og.keep (same_of_below st8 (by omega))
        replace oa := oa.keep (same_of_below st8 (by omega))
        replace ob := ob.keep (same_of_below st8 (by omega))
        replace oc := oc.keep (same_of_below st8 (by omega))
        clear HB7
        clear st8
        have fp1 := p1.two; have lp1 := p1.lt
        have fpg := pg.two; have lpg := pg.lt
        have fph := ph.two; have lph := ph.lt
        have fpa := pa.two; have lpa := pa.lt
        have fpb := pb.two; have lpb := pb.lt
        have fpc := pc.two; have lpc := pc.lt
        go_wp2
        go_ret
        exact ⟨rfl, HB8⟩
end Go.Proofs.YtmjacdcefaohcaaDoor
