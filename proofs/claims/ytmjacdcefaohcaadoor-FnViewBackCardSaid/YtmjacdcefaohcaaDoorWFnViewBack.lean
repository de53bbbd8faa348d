/-
  The walk of FnViewBack: the law returns true and writes nothing that was there.
-/
import Derived.Test.YtmjacdcefaohcaaDoorDW
import Derived.Test.YtmjacdcefaohcaaDoorFL
import Derived.Test.YtmjacdcefaohcaaDoorE4
import Derived.Deep.RegionHeld3
import Derived.IntWalk
namespace Go.Proofs.YtmjacdcefaohcaaDoor
open Go.RowKit
set_option linter.unusedVariables false

set_option maxHeartbeats 4000000 in
theorem fnViewBack_walk (A : Option Addr) (n c : Nat) (bs : List Int) (ea : Addr) (w : World) (hc : n ≤ c) (hcm : c ≤ 9223372036854775807) (hb : Bytes w w.heap.size A n bs) (hsE : Sent w ea) :
    Calls Tryd.prog 6 #[.slice A n c] w fun e w' => e = .returned (.bool true) ∧ Below w.heap.size w w' := by
  by_cases hn : 1048576 < n
  · go_enter Tryd.func6, Tryd.ntmps6
    go_wp2
    go_ret
    exact ⟨rfl, Below.refl _ _⟩
  go_enter Tryd.func6, Tryd.ntmps6
  have HB0 : Below w.heap.size w w := Below.refl _ _
  go_wp2_with fail
  refine (drawViewLeave_any _ _ _ _ _ hb (by omega) hc hcm).mono ?_
  rintro e w1 ⟨q1, A1, n1, c1, xs1, x1, rfl, o1, hn1, hx0, hx1, hb1⟩
  have z1 : w.heap.size ≤ w1.heap.size := by have := hb1.size; simpa using this
  have st1 : Below w.heap.size w w1 := (by repeat' (first | with_reducible exact Below.refl _ _ | with_reducible refine Below.alloc ?_ (by first | omega | (simp; done) | (simp; omega)) _ | with_reducible refine below_drewN ?_ _ | with_reducible refine Below.drew ?_ | with_reducible refine Below.setCell ?_ (by first | omega | (simp; done) | (simp; omega)) _ | with_reducible refine Below.trans ?_ (Below.mono hb1 (by first | omega | (simp; done) | (simp; omega)))))
  have HB1 : Below w.heap.size w w1 := HB0.trans (st1.mono HB0.size)
  clear HB0
  clear st1
  replace o1 := (rowI o1).mono (b' := w.heap.size) (by first | omega | (simp; done) | (simp; omega)) (Nat.le_refl _)
  have ln1 := Lib.hid o1.len; have cp1 := o1.cap
  go_wp2_with fail
  refine (implLeave_any _ _ _ q1 xs1 x1 ea _ ((hsE.below HB1 hsE.lt).alloc _) ((o1.ints (B := w1.heap.size) (by omega)).box _) (by omega)).mono ?_
  rintro e w2 ⟨Ag, ng, cg, rfl, og, hb2⟩
  have z2 : w1.heap.size + 1 ≤ w2.heap.size := by have := hb2.size; simpa using this
  have st2 : Below w1.heap.size w1 w2 := (by repeat' (first | with_reducible exact Below.refl _ _ | with_reducible refine Below.alloc ?_ (by first | omega | (simp; done) | (simp; omega)) _ | with_reducible refine below_drewN ?_ _ | with_reducible refine Below.drew ?_ | with_reducible refine Below.setCell ?_ (by first | omega | (simp; done) | (simp; omega)) _ | with_reducible refine Below.trans ?_ (Below.mono hb2 (by first | omega | (simp; done) | (simp; omega)))))
  have HB2 : Below w.heap.size w w2 := HB1.trans (st2.mono HB1.size)
  have p1 : Blk w2 (w1.heap.size) 25 #[.int .i64 (q1), .slice A1 n1 c1] := by simpa using (Blk.new w1 25 #[.int .i64 (q1), .slice A1 n1 c1]).below hb2 (by first | (simp; done) | (simp; omega))
  replace o1 := o1.keep (same_of_below st2 (by omega))
  clear HB1
  clear st2
  have fp1 := p1.two; have lp1 := p1.lt
  replace og := (rowI og).mono (b' := w1.heap.size + 1) (by first | omega | (simp; done) | (simp; omega)) (Nat.le_refl _)
  have ng8 : ng ≤ 8 := by have := og.len; have := gX_len (leaveOk q1 xs1 x1) (q1 + 1) (leaveL xs1 x1); omega
  go_wp2_with fail
  refine (specLeave_any _ _ _ q1 xs1 x1 _ ((o1.ints (B := w2.heap.size) (by omega)).box _) (by omega)).mono ?_
  rintro e w3 ⟨Ah, nh, ch, rfl, oh, hb3⟩
  clear fp1 lp1
  have z3 : w2.heap.size + 1 ≤ w3.heap.size := by have := hb3.size; simpa using this
  have st3 : Below w2.heap.size w2 w3 := (by repeat' (first | with_reducible exact Below.refl _ _ | with_reducible refine Below.alloc ?_ (by first | omega | (simp; done) | (simp; omega)) _ | with_reducible refine below_drewN ?_ _ | with_reducible refine Below.drew ?_ | with_reducible refine Below.setCell ?_ (by first | omega | (simp; done) | (simp; omega)) _ | with_reducible refine Below.trans ?_ (Below.mono hb3 (by first | omega | (simp; done) | (simp; omega)))))
  have HB3 : Below w.heap.size w w3 := HB2.trans (st3.mono HB2.size)
  replace p1 := p1.below st3 p1.lt
  have pg : Blk w3 (w2.heap.size) 25 #[.int .i64 (gQ (leaveOk q1 xs1 x1) (q1 + 1) (leaveL xs1 x1)), .slice Ag ng cg] := by simpa using (Blk.new w2 25 #[.int .i64 (gQ (leaveOk q1 xs1 x1) (q1 + 1) (leaveL xs1 x1)), .slice Ag ng cg]).below hb3 (by first | (simp; done) | (simp; omega))
  replace o1 := o1.keep (same_of_below st3 (by omega))
  replace og := og.keep (same_of_below st3 (by omega))
  clear HB2
  clear st3
  have fp1 := p1.two; have lp1 := p1.lt
  have fpg := pg.two; have lpg := pg.lt
  replace oh := (rowI oh).mono (b' := w2.heap.size + 1) (by first | omega | (simp; done) | (simp; omega)) (Nat.le_refl _)
  have nh8 : nh ≤ 8 := by have := oh.len; have := gX_len (leaveOk q1 xs1 x1) (q1 + 1) (leaveL xs1 x1); omega
  have hne : (gB (leaveOk q1 xs1 x1) (q1 + 1) (leaveL xs1 x1) != gB (leaveOk q1 xs1 x1) (q1 + 1) (leaveL xs1 x1)) = false := by simp
  have heq : (gB (leaveOk q1 xs1 x1) (q1 + 1) (leaveL xs1 x1) == gB (leaveOk q1 xs1 x1) (q1 + 1) (leaveL xs1 x1)) = true := by simp
  go_wp2_with fail
  refine (sameView_same _ _ _ (gQ (leaveOk q1 xs1 x1) (q1 + 1) (leaveL xs1 x1)) (gX (leaveOk q1 xs1 x1) (q1 + 1) (leaveL xs1 x1)) _ _ _ _ ((og.ints (B := w3.heap.size) (by omega)).box _) ((oh.ints (B := w3.heap.size) (by omega)).box _) (by omega) (by omega)).mono ?_
  rintro e w4 ⟨rfl, hb4⟩
  clear fp1 lp1 fpg lpg
  have z4 : w3.heap.size + 1 ≤ w4.heap.size := by have := hb4.size; simpa using this
  have st4 : Below w3.heap.size w3 w4 := (by repeat' (first | with_reducible exact Below.refl _ _ | with_reducible refine Below.alloc ?_ (by first | omega | (simp; done) | (simp; omega)) _ | with_reducible refine below_drewN ?_ _ | with_reducible refine Below.drew ?_ | with_reducible refine Below.setCell ?_ (by first | omega | (simp; done) | (simp; omega)) _ | with_reducible refine Below.trans ?_ (Below.mono hb4 (by first | omega | (simp; done) | (simp; omega)))))
  have HB4 : Below w.heap.size w w4 := HB3.trans (st4.mono HB3.size)
  replace p1 := p1.below st4 p1.lt
  replace pg := pg.below st4 pg.lt
  have ph : Blk w4 (w3.heap.size) 25 #[.int .i64 (gQ (leaveOk q1 xs1 x1) (q1 + 1) (leaveL xs1 x1)), .slice Ah nh ch] := by simpa using (Blk.new w3 25 #[.int .i64 (gQ (leaveOk q1 xs1 x1) (q1 + 1) (leaveL xs1 x1)), .slice Ah nh ch]).below hb4 (by first | (simp; done) | (simp; omega))
  replace o1 := o1.keep (same_of_below st4 (by omega))
  replace og := og.keep (same_of_below st4 (by omega))
  replace oh := oh.keep (same_of_below st4 (by omega))
  clear HB3
  clear st4
  have fp1 := p1.two; have lp1 := p1.lt
  have fpg := pg.two; have lpg := pg.lt
  have fph := ph.two; have lph := ph.lt
  cases hB : gB (leaveOk q1 xs1 x1) (q1 + 1) (leaveL xs1 x1)
  · go_wp2_with fail
    refine (sameView_same _ _ _ (gQ (leaveOk q1 xs1 x1) (q1 + 1) (leaveL xs1 x1)) (gX (leaveOk q1 xs1 x1) (q1 + 1) (leaveL xs1 x1)) _ _ _ _ (og.ints (B := w4.heap.size) (by omega)) (oh.ints (B := w4.heap.size) (by omega)) (by omega) (by omega)).mono ?_
    rintro e w5 ⟨rfl, hb5⟩
    clear fp1 lp1 fpg lpg fph lph
    have z5 : w4.heap.size ≤ w5.heap.size := by have := hb5.size; simpa using this
    have st5 : Below w4.heap.size w4 w5 := (by repeat' (first | with_reducible exact Below.refl _ _ | with_reducible refine Below.alloc ?_ (by first | omega | (simp; done) | (simp; omega)) _ | with_reducible refine below_drewN ?_ _ | with_reducible refine Below.drew ?_ | with_reducible refine Below.setCell ?_ (by first | omega | (simp; done) | (simp; omega)) _ | with_reducible refine Below.trans ?_ (Below.mono hb5 (by first | omega | (simp; done) | (simp; omega)))))
    have HB5 : Below w.heap.size w w5 := HB4.trans (st5.mono HB4.size)
    replace p1 := p1.below st5 p1.lt
    replace pg := pg.below st5 pg.lt
    replace ph := ph.below st5 ph.lt
    replace o1 := o1.keep (same_of_below st5 (by omega))
    replace og := og.keep (same_of_below st5 (by omega))
    replace oh := oh.keep (same_of_below st5 (by omega))
    clear HB4
    clear st5
    have fp1 := p1.two; have lp1 := p1.lt
    have fpg := pg.two; have lpg := pg.lt
    have fph := ph.two; have lph := ph.lt
    go_wp2
    go_ret
    exact ⟨rfl, HB5⟩
  · have HB' := Lib.hid hB
    obtain ⟨hok, hvv, eQ, eX⟩ := g_true hB
    have HOK := Lib.hid hok; have HVV := Lib.hid hvv; have EQ := Lib.hid eQ; have EX := Lib.hid eX
    have hq19 := vv_q hvv
    clear hne heq hB hok hvv eQ eX
    clear oh
    rw [EX.out] at og
    clear fpg
    rw [EQ.out] at pg
    have fpg := pg.two
    go_wp2_with fail
    refine (implJoin_any _ _ _ (q1 + 1) (leaveL xs1 x1) (x1) ea _ (hsE.below HB4 hsE.lt) (og.ints (B := w4.heap.size) (by omega)) (by omega)).mono ?_
    rintro e w5 ⟨Az, nz, cz, rfl, oz, hb5⟩
    clear fp1 lp1 fpg lpg fph lph
    have z5 : w4.heap.size ≤ w5.heap.size := by have := hb5.size; simpa using this
    have st5 : Below w4.heap.size w4 w5 := (by repeat' (first | with_reducible exact Below.refl _ _ | with_reducible refine Below.alloc ?_ (by first | omega | (simp; done) | (simp; omega)) _ | with_reducible refine below_drewN ?_ _ | with_reducible refine Below.drew ?_ | with_reducible refine Below.setCell ?_ (by first | omega | (simp; done) | (simp; omega)) _ | with_reducible refine Below.trans ?_ (Below.mono hb5 (by first | omega | (simp; done) | (simp; omega)))))
    have HB5 : Below w.heap.size w w5 := HB4.trans (st5.mono HB4.size)
    replace p1 := p1.below st5 p1.lt
    replace pg := pg.below st5 pg.lt
    replace ph := ph.below st5 ph.lt
    replace o1 := o1.keep (same_of_below st5 (by omega))
    replace og := og.keep (same_of_below st5 (by omega))
    clear HB4
    clear st5
    have fp1 := p1.two; have lp1 := p1.lt
    have fpg := pg.two; have lpg := pg.lt
    have fph := ph.two; have lph := ph.lt
    replace oz := (rowI oz).mono (b' := w4.heap.size) (by first | omega | (simp; done) | (simp; omega)) (Nat.le_refl _)
    have nz8 : nz ≤ 8 := by have := oz.len; have := gX_len (joinOk (q1 + 1) (leaveL xs1 x1) (x1)) (q1 + 1 + 1) (joinL (leaveL xs1 x1) (x1)); omega
    rcases (by omega : q1 + 1 = 99 ∨ q1 + 1 < 99) with h9 | h9
    · have hz : gB (joinOk (q1 + 1) (leaveL xs1 x1) x1) (q1 + 1 + 1) (joinL (leaveL xs1 x1) x1) = false := g_late (by omega)
      have h99 : (q1 + 1 == 99) = true := by rw [beq_iff_eq]; omega
      rw [hz]
      clear hz
      go_wp2
      go_ret
      exact ⟨rfl, (by repeat' (first | with_reducible exact Below.refl _ _ | with_reducible assumption | with_reducible refine Below.setCell ?_ (by first | omega | (simp; done) | (simp; omega)) _ | with_reducible refine Below.alloc ?_ (by first | omega | (simp; done) | (simp; omega)) _ | with_reducible refine below_drewN ?_ _ | with_reducible refine Below.drew ?_ | (with_reducible refine Below.trans ?_ (Below.mono (by with_reducible assumption) (by first | omega | (simp; done) | (simp; omega))))))⟩
    · obtain ⟨y1, y2, y3⟩ := back_yes HOK.out HVV.out (by omega)
      have Y2 := Lib.hid y2; have Y3 := Lib.hid y3
      rw [y1, y2]
      rw [y3] at oz
      clear y1 y2 y3
      go_wp2_with fail
      refine (sameInts_same _ _ _ _ _ _ xs1 _ ((oz.ints (B := w5.heap.size) (by omega)).box _) ((o1.ints (B := w5.heap.size) (by omega)).box _) (by omega) (by omega)).mono ?_
      rintro e w6 ⟨rfl, hb6⟩
      clear fp1 lp1 fpg lpg fph lph
      have z6 : w5.heap.size + 1 ≤ w6.heap.size := by have := hb6.size; simpa using this
      have st6 : Below w5.heap.size w5 w6 := (by repeat' (first | with_reducible exact Below.refl _ _ | with_reducible refine Below.alloc ?_ (by first | omega | (simp; done) | (simp; omega)) _ | with_reducible refine below_drewN ?_ _ | with_reducible refine Below.drew ?_ | with_reducible refine Below.setCell ?_ (by first | omega | (simp; done) | (simp; omega)) _ | with_reducible refine Below.trans ?_ (Below.mono hb6 (by first | omega | (simp; done) | (simp; omega)))))
      have HB6 : Below w.heap.size w w6 := HB5.trans (st6.mono HB5.size)
      replace p1 := p1.below st6 p1.lt
      replace pg := pg.below st6 pg.lt
      replace ph := ph.below st6 ph.lt
      have pz : Blk w6 (w5.heap.size) 25 #[.int .i64 (q1 + 2), .slice Az nz cz] := by simpa using (Blk.new w5 25 #[.int .i64 (q1 + 2), .slice Az nz cz]).below hb6 (by first | (simp; done) | (simp; omega))
      replace o1 := o1.keep (same_of_below st6 (by omega))
      replace og := og.keep (same_of_below st6 (by omega))
      replace oz := oz.keep (same_of_below st6 (by omega))
      clear HB5
      clear st6
      have fp1 := p1.two; have lp1 := p1.lt
      have fpg := pg.two; have lpg := pg.lt
      have fph := ph.two; have lph := ph.lt
      have fpz := pz.two; have lpz := pz.lt
      have hqq : (q1 + 2 == q1 + 2) = true := by simp
      go_wp2
      go_ret
      exact ⟨rfl, HB6⟩
end Go.Proofs.YtmjacdcefaohcaaDoor
