/-
  The walk of FnViewSplit: the law returns true and writes nothing that was there.
-/
import Derived.Test.YtmjacdcefaohcaaDoorDW
import Derived.Test.YtmjacdcefaohcaaDoorFL
import Derived.Test.YtmjacdcefaohcaaDoorE5
import Derived.Deep.RegionHeld3
import Derived.Deep.RegionWith
import Derived.IntWalk
namespace Go.Proofs.YtmjacdcefaohcaaDoor
open Go.RowKit
set_option linter.unusedVariables false

set_option maxHeartbeats 4000000 in
theorem fnViewSplit_walk (A : Option Addr) (n c : Nat) (bs : List Int) (ea : Addr) (w : World) (hc : n ≤ c) (hcm : c ≤ 9223372036854775807) (hb : Bytes w w.heap.size A n bs) (hsE : Sent w ea) :
    Calls Tryd.prog 8 #[.slice A n c] w fun e w' => e = .returned (.bool true) ∧ Below w.heap.size w w' := by
  by_cases hn : 1048576 < n
  · go_enter Tryd.func8, Tryd.ntmps8
    go_wp2
    go_ret
    exact ⟨rfl, Below.refl _ _⟩
  go_enter Tryd.func8, Tryd.ntmps8
  have HB0 : Below w.heap.size w w := Below.refl _ _
  go_wp2_with fail
  refine (drawViewSplit_any _ _ _ _ _ hb (by omega) hc hcm).mono ?_
  rintro e w1 ⟨q1, A1, n1, c1, xs1, x1, rfl, o1, hn1, hx0, hx1, hb1⟩
  have z1 : w.heap.size ≤ w1.heap.size := by have := hb1.size; simpa using this
  have st1 : Below w.heap.size w w1 := (by repeat' (first | with_reducible exact Below.refl _ _ | with_reducible refine Below.alloc ?_ (by first | omega | (simp; done) | (simp; omega)) _ | with_reducible refine below_drewN ?_ _ | with_reducible refine Below.drew ?_ | with_reducible refine Below.setCell ?_ (by first | omega | (simp; done) | (simp; omega)) _ | with_reducible refine Below.trans ?_ (Below.mono hb1 (by first | omega | (simp; done) | (simp; omega)))))
  have HB1 : Below w.heap.size w w1 := HB0.trans (st1.mono HB0.size)
  clear HB0
  clear st1
  replace o1 := (rowI o1).mono (b' := w.heap.size) (by first | omega | (simp; done) | (simp; omega)) (Nat.le_refl _)
  have ln1 := Lib.hid o1.len; have cp1 := o1.cap
  go_wp2_with fail
  refine (implSplit_any _ _ _ q1 xs1 x1 ea _ ((hsE.below HB1 hsE.lt).alloc _) ((o1.ints (B := w1.heap.size) (by omega)).box _) (by omega)).mono ?_
  rintro e w2 ⟨Ag0, ng0, cg0, Ag1, ng1, cg1, midg, rfl, og0, og1, lmg, hmg, hb2⟩
  simp only [World.size_alloc] at lmg hmg
  have z2 : w1.heap.size + 1 ≤ w2.heap.size := by have := hb2.size; simpa using this
  have st2 : Below w1.heap.size w1 w2 := (by repeat' (first | with_reducible exact Below.refl _ _ | with_reducible refine Below.alloc ?_ (by first | omega | (simp; done) | (simp; omega)) _ | with_reducible refine below_drewN ?_ _ | with_reducible refine Below.drew ?_ | with_reducible refine Below.setCell ?_ (by first | omega | (simp; done) | (simp; omega)) _ | with_reducible refine Below.trans ?_ (Below.mono hb2 (by first | omega | (simp; done) | (simp; omega)))))
  have HB2 : Below w.heap.size w w2 := HB1.trans (st2.mono HB1.size)
  have p1 : Blk w2 (w1.heap.size) 25 #[.int .i64 (q1), .slice A1 n1 c1] := by simpa using (Blk.new w1 25 #[.int .i64 (q1), .slice A1 n1 c1]).below hb2 (by first | (simp; done) | (simp; omega))
  replace o1 := o1.keep (same_of_below st2 (by omega))
  clear HB1
  clear st2
  have fp1 := p1.two; have lp1 := p1.lt
  replace og0 := og0.mono (b' := w1.heap.size + 1) (by first | omega | (simp; done) | (simp; omega)) (Nat.le_refl _)
  have ng08 : ng0 ≤ 8 := by have := og0.len; have := sLow_len q1 xs1 x1; omega
  have ng18 : ng1 ≤ 8 := by have := og1.len; have := sHigh_len q1 xs1 x1; omega
  go_wp2_with fail
  refine (specSplit_any _ _ _ q1 xs1 x1 _ (((o1.ints (B := w2.heap.size) (by omega)).box _).box _) (by omega)).mono ?_
  rintro e w3 ⟨Ah0, nh0, ch0, Ah1, nh1, ch1, midh, rfl, oh0, oh1, lmh, hmh, hb3⟩
  simp only [World.size_alloc] at lmh hmh
  clear fp1 lp1
  have z3 : w2.heap.size + 2 ≤ w3.heap.size := by have := hb3.size; simpa using this
  have st3 : Below w2.heap.size w2 w3 := (by repeat' (first | with_reducible exact Below.refl _ _ | with_reducible refine Below.alloc ?_ (by first | omega | (simp; done) | (simp; omega)) _ | with_reducible refine below_drewN ?_ _ | with_reducible refine Below.drew ?_ | with_reducible refine Below.setCell ?_ (by first | omega | (simp; done) | (simp; omega)) _ | with_reducible refine Below.trans ?_ (Below.mono hb3 (by first | omega | (simp; done) | (simp; omega)))))
  have HB3 : Below w.heap.size w w3 := HB2.trans (st3.mono HB2.size)
  replace p1 := p1.below st3 p1.lt
  have pg0 : Blk w3 (w2.heap.size) 25 #[.int .i64 (sQ q1 xs1 x1), .slice Ag0 ng0 cg0] := by simpa using ((Blk.new w2 25 #[.int .i64 (sQ q1 xs1 x1), .slice Ag0 ng0 cg0]).alloc _).below hb3 (by first | (simp; done) | (simp; omega))
  have pg1 : Blk w3 (w2.heap.size + 1) 25 #[.int .i64 (sQ q1 xs1 x1), .slice Ag1 ng1 cg1] := by simpa using (Blk.new (w2.alloc (.cells #[.int .i64 (sQ q1 xs1 x1), .slice Ag0 ng0 cg0] 25)) 25 #[.int .i64 (sQ q1 xs1 x1), .slice Ag1 ng1 cg1]).below hb3 (by first | (simp; done) | (simp; omega))
  replace o1 := o1.keep (same_of_below st3 (by omega))
  replace og0 := og0.keep (same_of_below st3 (by omega))
  replace og1 := og1.keep (same_of_below st3 (by omega))
  clear HB2
  clear st3
  have fp1 := p1.two; have lp1 := p1.lt
  have fpg0 := pg0.two; have lpg0 := pg0.lt
  have fpg1 := pg1.two; have lpg1 := pg1.lt
  replace oh0 := oh0.mono (b' := w2.heap.size + 2) (by first | omega | (simp; done) | (simp; omega)) (Nat.le_refl _)
  have nh08 : nh0 ≤ 8 := by have := oh0.len; have := sLow_len q1 xs1 x1; omega
  have nh18 : nh1 ≤ 8 := by have := oh1.len; have := sHigh_len q1 xs1 x1; omega
  have hne : (splitOk q1 xs1 x1 != splitOk q1 xs1 x1) = false := by simp
  have heq : (splitOk q1 xs1 x1 == splitOk q1 xs1 x1) = true := by simp
  go_wp2_with fail
  refine (sameView_same _ _ _ (sQ q1 xs1 x1) (sLow q1 xs1 x1) _ _ _ _ (((og0.ints (B := w3.heap.size) (by omega)).box _).box _) (((oh0.ints (B := w3.heap.size) (by omega)).box _).box _) (by omega) (by omega)).mono ?_
  rintro e w4 ⟨rfl, hb4⟩
  clear fp1 lp1 fpg0 lpg0 fpg1 lpg1
  have z4 : w3.heap.size + 2 ≤ w4.heap.size := by have := hb4.size; simpa using this
  have st4 : Below w3.heap.size w3 w4 := (by repeat' (first | with_reducible exact Below.refl _ _ | with_reducible refine Below.alloc ?_ (by first | omega | (simp; done) | (simp; omega)) _ | with_reducible refine below_drewN ?_ _ | with_reducible refine Below.drew ?_ | with_reducible refine Below.setCell ?_ (by first | omega | (simp; done) | (simp; omega)) _ | with_reducible refine Below.trans ?_ (Below.mono hb4 (by first | omega | (simp; done) | (simp; omega)))))
  have HB4 : Below w.heap.size w w4 := HB3.trans (st4.mono HB3.size)
  replace p1 := p1.below st4 p1.lt
  replace pg0 := pg0.below st4 pg0.lt
  replace pg1 := pg1.below st4 pg1.lt
  have ph0 : Blk w4 (w3.heap.size) 25 #[.int .i64 (sQ q1 xs1 x1), .slice Ah0 nh0 ch0] := by simpa using ((Blk.new w3 25 #[.int .i64 (sQ q1 xs1 x1), .slice Ah0 nh0 ch0]).alloc _).below hb4 (by first | (simp; done) | (simp; omega))
  have ph1 : Blk w4 (w3.heap.size + 1) 25 #[.int .i64 (sQ q1 xs1 x1), .slice Ah1 nh1 ch1] := by simpa using (Blk.new (w3.alloc (.cells #[.int .i64 (sQ q1 xs1 x1), .slice Ah0 nh0 ch0] 25)) 25 #[.int .i64 (sQ q1 xs1 x1), .slice Ah1 nh1 ch1]).below hb4 (by first | (simp; done) | (simp; omega))
  replace o1 := o1.keep (same_of_below st4 (by omega))
  replace og0 := og0.keep (same_of_below st4 (by omega))
  replace og1 := og1.keep (same_of_below st4 (by omega))
  replace oh0 := oh0.keep (same_of_below st4 (by omega))
  replace oh1 := oh1.keep (same_of_below st4 (by omega))
  clear HB3
  clear st4
  have fp1 := p1.two; have lp1 := p1.lt
  have fpg0 := pg0.two; have lpg0 := pg0.lt
  have fpg1 := pg1.two; have lpg1 := pg1.lt
  have fph0 := ph0.two; have lph0 := ph0.lt
  have fph1 := ph1.two; have lph1 := ph1.lt
  go_wp2_with fail
  refine (sameView_same _ _ _ (sQ q1 xs1 x1) (sHigh q1 xs1 x1) _ _ _ _ (og1.ints (B := w4.heap.size) (by omega)) (oh1.ints (B := w4.heap.size) (by omega)) (by omega) (by omega)).mono ?_
  rintro e w5 ⟨rfl, hb5⟩
  clear fp1 lp1 fpg0 lpg0 fpg1 lpg1 fph0 lph0 fph1 lph1
  have z5 : w4.heap.size ≤ w5.heap.size := by have := hb5.size; simpa using this
  have st5 : Below w4.heap.size w4 w5 := (by repeat' (first | with_reducible exact Below.refl _ _ | with_reducible refine Below.alloc ?_ (by first | omega | (simp; done) | (simp; omega)) _ | with_reducible refine below_drewN ?_ _ | with_reducible refine Below.drew ?_ | with_reducible refine Below.setCell ?_ (by first | omega | (simp; done) | (simp; omega)) _ | with_reducible refine Below.trans ?_ (Below.mono hb5 (by first | omega | (simp; done) | (simp; omega)))))
  have HB5 : Below w.heap.size w w5 := HB4.trans (st5.mono HB4.size)
  replace p1 := p1.below st5 p1.lt
  replace pg0 := pg0.below st5 pg0.lt
  replace pg1 := pg1.below st5 pg1.lt
  replace ph0 := ph0.below st5 ph0.lt
  replace ph1 := ph1.below st5 ph1.lt
  replace o1 := o1.keep (same_of_below st5 (by omega))
  replace og0 := og0.keep (same_of_below st5 (by omega))
  replace og1 := og1.keep (same_of_below st5 (by omega))
  replace oh0 := oh0.keep (same_of_below st5 (by omega))
  replace oh1 := oh1.keep (same_of_below st5 (by omega))
  clear HB4
  clear st5
  have fp1 := p1.two; have lp1 := p1.lt
  have fpg0 := pg0.two; have lpg0 := pg0.lt
  have fpg1 := pg1.two; have lpg1 := pg1.lt
  have fph0 := ph0.two; have lph0 := ph0.lt
  have fph1 := ph1.two; have lph1 := ph1.lt
  cases hB : splitOk q1 xs1 x1
  · go_wp2_with fail
    refine (sameView_same _ _ _ (sQ q1 xs1 x1) (sLow q1 xs1 x1) _ _ _ _ (og0.ints (B := w5.heap.size) (by omega)) (oh0.ints (B := w5.heap.size) (by omega)) (by omega) (by omega)).mono ?_
    rintro e w6 ⟨rfl, hb6⟩
    clear fp1 lp1 fpg0 lpg0 fpg1 lpg1 fph0 lph0 fph1 lph1
    have z6 : w5.heap.size ≤ w6.heap.size := by have := hb6.size; simpa using this
    have st6 : Below w5.heap.size w5 w6 := (by repeat' (first | with_reducible exact Below.refl _ _ | with_reducible refine Below.alloc ?_ (by first | omega | (simp; done) | (simp; omega)) _ | with_reducible refine below_drewN ?_ _ | with_reducible refine Below.drew ?_ | with_reducible refine Below.setCell ?_ (by first | omega | (simp; done) | (simp; omega)) _ | with_reducible refine Below.trans ?_ (Below.mono hb6 (by first | omega | (simp; done) | (simp; omega)))))
    have HB6 : Below w.heap.size w w6 := HB5.trans (st6.mono HB5.size)
    replace p1 := p1.below st6 p1.lt
    replace pg0 := pg0.below st6 pg0.lt
    replace pg1 := pg1.below st6 pg1.lt
    replace ph0 := ph0.below st6 ph0.lt
    replace ph1 := ph1.below st6 ph1.lt
    replace o1 := o1.keep (same_of_below st6 (by omega))
    replace og0 := og0.keep (same_of_below st6 (by omega))
    replace og1 := og1.keep (same_of_below st6 (by omega))
    replace oh0 := oh0.keep (same_of_below st6 (by omega))
    replace oh1 := oh1.keep (same_of_below st6 (by omega))
    clear HB5
    clear st6
    have fp1 := p1.two; have lp1 := p1.lt
    have fpg0 := pg0.two; have lpg0 := pg0.lt
    have fpg1 := pg1.two; have lpg1 := pg1.lt
    have fph0 := ph0.two; have lph0 := ph0.lt
    have fph1 := ph1.two; have lph1 := ph1.lt
    go_wp2_with fail
    refine (sameView_same _ _ _ (sQ q1 xs1 x1) (sHigh q1 xs1 x1) _ _ _ _ (og1.ints (B := w6.heap.size) (by omega)) (oh1.ints (B := w6.heap.size) (by omega)) (by omega) (by omega)).mono ?_
    rintro e w7 ⟨rfl, hb7⟩
    clear fp1 lp1 fpg0 lpg0 fpg1 lpg1 fph0 lph0 fph1 lph1
    have z7 : w6.heap.size ≤ w7.heap.size := by have := hb7.size; simpa using this
    have st7 : Below w6.heap.size w6 w7 := (by repeat' (first | with_reducible exact Below.refl _ _ | with_reducible refine Below.alloc ?_ (by first | omega | (simp; done) | (simp; omega)) _ | with_reducible refine below_drewN ?_ _ | with_reducible refine Below.drew ?_ | with_reducible refine Below.setCell ?_ (by first | omega | (simp; done) | (simp; omega)) _ | with_reducible refine Below.trans ?_ (Below.mono hb7 (by first | omega | (simp; done) | (simp; omega)))))
    have HB7 : Below w.heap.size w w7 := HB6.trans (st7.mono HB6.size)
    replace p1 := p1.below st7 p1.lt
    replace pg0 := pg0.below st7 pg0.lt
    replace pg1 := pg1.below st7 pg1.lt
    replace ph0 := ph0.below st7 ph0.lt
    replace ph1 := ph1.below st7 ph1.lt
    replace o1 := o1.keep (same_of_below st7 (by omega))
    replace og0 := og0.keep (same_of_below st7 (by omega))
    replace og1 := og1.keep (same_of_below st7 (by omega))
    replace oh0 := oh0.keep (same_of_below st7 (by omega))
    replace oh1 := oh1.keep (same_of_below st7 (by omega))
    clear HB6
    clear st7
    have fp1 := p1.two; have lp1 := p1.lt
    have fpg0 := pg0.two; have lpg0 := pg0.lt
    have fpg1 := pg1.two; have lpg1 := pg1.lt
    have fph0 := ph0.two; have lph0 := ph0.lt
    have fph1 := ph1.two; have lph1 := ph1.lt
    go_wp2
    go_ret
    exact ⟨rfl, HB7⟩
  · have HB' := Lib.hid hB
    have hvv := split_ok hB
    have HV1 := Lib.hid hvv.1; have HV2 := Lib.hid hvv.2.1; have HV3 := Lib.hid hvv.2.2
    have hq19 := vv_q hvv.2.1
    have EQ := Lib.hid (show sQ q1 xs1 x1 = q1 + 1 by simp [sQ, hB])
    have EX0 := Lib.hid (show sLow q1 xs1 x1 = lowL xs1 x1 by simp [sLow, hB])
    have EX1 := Lib.hid (show sHigh q1 xs1 x1 = highL xs1 x1 by simp [sHigh, hB])
    clear hne heq hB hvv
    clear oh0
    clear oh1
    rw [EX0.out] at og0
    clear fpg0
    rw [EQ.out] at pg0
    have fpg0 := pg0.two
    rw [EX1.out] at og1
    clear fpg1
    rw [EQ.out] at pg1
    have fpg1 := pg1.two
    go_wp2_with fail
    go_loopw [11] (fun i wr => ∃ k : Nat, k ≤ 8 ∧ i = .int .i64 k ∧ Hid (∃ d, wr = w5.drewN d)) (fun i _ => 8 - (intOf i).toNat)
    case atStart => exact ⟨0, by omega, rfl, Lib.hid ⟨0, rfl⟩⟩
    case round =>
      obtain ⟨k, hk, rfl, hw⟩ := hrel
      clear fp1 lp1 fpg0 lpg0 fpg1 lpg1 fph0 lph0 fph1 lph1
      have HBr : Below w.heap.size w wr := by obtain ⟨d, h⟩ := hw.out; rw [h]; exact below_drewN HB5 d
      have zwr : w5.heap.size ≤ wr.heap.size := by obtain ⟨d, h⟩ := hw.out; rw [h]; exact Nat.le_refl _
      replace p1 : Blk wr (w1.heap.size) 25 #[.int .i64 (q1), .slice A1 n1 c1] := by obtain ⟨d, h⟩ := hw.out; rw [h]; exact p1.drewN d
      replace pg0 : Blk wr (w2.heap.size) 25 #[.int .i64 (q1 + 1), .slice Ag0 ng0 cg0] := by obtain ⟨d, h⟩ := hw.out; rw [h]; exact pg0.drewN d
      replace pg1 : Blk wr (w2.heap.size + 1) 25 #[.int .i64 (q1 + 1), .slice Ag1 ng1 cg1] := by obtain ⟨d, h⟩ := hw.out; rw [h]; exact pg1.drewN d
      replace ph0 : Blk wr (w3.heap.size) 25 #[.int .i64 (sQ q1 xs1 x1), .slice Ah0 nh0 ch0] := by obtain ⟨d, h⟩ := hw.out; rw [h]; exact ph0.drewN d
      replace ph1 : Blk wr (w3.heap.size + 1) 25 #[.int .i64 (sQ q1 xs1 x1), .slice Ah1 nh1 ch1] := by obtain ⟨d, h⟩ := hw.out; rw [h]; exact ph1.drewN d
      replace o1 : RowI wr (w.heap.size) (w1.heap.size) A1 n1 c1 (xs1) := by obtain ⟨d, h⟩ := hw.out; rw [h]; exact o1.drewN1 d
      replace og0 : RowI wr (w1.heap.size + 1) (midg) Ag0 ng0 cg0 (lowL xs1 x1) := by obtain ⟨d, h⟩ := hw.out; rw [h]; exact og0.drewN1 d
      replace og1 : RowI wr (midg) (w2.heap.size) Ag1 ng1 cg1 (highL xs1 x1) := by obtain ⟨d, h⟩ := hw.out; rw [h]; exact og1.drewN1 d
      have fp1 := p1.two; have lp1 := p1.lt
      have fpg0 := pg0.two; have lpg0 := pg0.lt
      have fpg1 := pg1.two; have lpg1 := pg1.lt
      have fph0 := ph0.two; have lph0 := ph0.lt
      have fph1 := ph1.two; have lph1 := ph1.lt
      by_cases hlt : k < 8
      · have RG := og0.ints (B := wr.heap.size) (by omega)
        have RH := og1.ints (B := wr.heap.size) (by omega)
        have RV := o1.ints (B := wr.heap.size) (by omega)
        have HL : hasB (lowL xs1 x1) (k : Int) = (decide ((k : Int) < x1) && hasB xs1 (k : Int)) := by unfold lowL; exact has_acc (p := fun x => decide (x < x1) && hasB xs1 x) (by omega) (by omega)
        have HH : hasB (highL xs1 x1) (k : Int) = (decide (x1 ≤ (k : Int)) && hasB xs1 (k : Int)) := by unfold highL; exact has_acc (p := fun x => decide (x1 ≤ x) && hasB xs1 x) (by omega) (by omega)
        cases hv1 : hasB xs1 (k : Int) <;> rcases Int.lt_or_le (k : Int) x1 with he | he
        all_goals
          have hd1 : decide ((k : Int) < x1) = decide ((k : Int) < x1) := rfl
          first | (have hd2 : decide ((k : Int) < x1) = true := (by simp [he]); have hd3 : decide (x1 ≤ (k : Int)) = false := (by simp; omega); rw [hv1, hd2] at HL; rw [hv1, hd3] at HH) | (have hd2 : decide ((k : Int) < x1) = false := (by simp; omega); have hd3 : decide (x1 ≤ (k : Int)) = true := (by simp [he]); rw [hv1, hd2] at HL; rw [hv1, hd3] at HH)
          clear hd1
          simp only [Bool.and_true, Bool.and_false, Bool.true_and, Bool.false_and] at HL HH
          go_wp2
          go_quiet (first | (go_at_call_of 25 Ag0; exact Calls.quiet_of_same ((hasInt_any Ag0 _ _ wr.heap.size (lowL xs1 x1) _ _ (RG.drewN _) (by omega)).mono fun e w' h => ⟨h.1, h.2.symm⟩)) | (go_at_call_of 25 A1; exact Calls.quiet_of_same ((hasInt_any A1 _ _ wr.heap.size (xs1) _ _ (RV.drewN _) (by omega)).mono fun e w' h => ⟨h.1, h.2.symm⟩)) | (go_at_call_of 25 Ag1; exact Calls.quiet_of_same ((hasInt_any Ag1 _ _ wr.heap.size (highL xs1 x1) _ _ (RH.drewN _) (by omega)).mono fun e w' h => ⟨h.1, h.2.symm⟩)))
          go_wp2
          go_roundw
          case rel => exact ⟨k + 1, by omega, by go_num, Lib.hid (drew_more hw.out _)⟩
          case measure => simp [intOf]; omega
      · have hk8 : k = 8 := by omega
        subst hk8
        have hqq : (q1 + 1 == q1 + 1) = true := by simp
        go_wp2_with fail
        refine (implViewValid_any _ _ _ (q1 + 1) (lowL xs1 x1) _ (og0.ints (B := wr.heap.size) (by omega)) (by omega)).mono ?_
        rintro e w6 ⟨rfl, hb6⟩
        clear fp1 lp1 fpg0 lpg0 fpg1 lpg1 fph0 lph0 fph1 lph1
        have z6 : wr.heap.size ≤ w6.heap.size := by have := hb6.size; simpa using this
        have st6 : Below wr.heap.size wr w6 := (by repeat' (first | with_reducible exact Below.refl _ _ | with_reducible refine Below.alloc ?_ (by first | omega | (simp; done) | (simp; omega)) _ | with_reducible refine below_drewN ?_ _ | with_reducible refine Below.drew ?_ | with_reducible refine Below.setCell ?_ (by first | omega | (simp; done) | (simp; omega)) _ | with_reducible refine Below.trans ?_ (Below.mono hb6 (by first | omega | (simp; done) | (simp; omega)))))
        have HB6 : Below w.heap.size w w6 := HBr.trans (st6.mono HBr.size)
        replace p1 := p1.below st6 p1.lt
        replace pg0 := pg0.below st6 pg0.lt
        replace pg1 := pg1.below st6 pg1.lt
        replace ph0 := ph0.below st6 ph0.lt
        replace ph1 := ph1.below st6 ph1.lt
        replace o1 := o1.keep (same_of_below st6 (by omega))
        replace og0 := og0.keep (same_of_below st6 (by omega))
        replace og1 := og1.keep (same_of_below st6 (by omega))
        clear HBr
        clear st6
        have fp1 := p1.two; have lp1 := p1.lt
        have fpg0 := pg0.two; have lpg0 := pg0.lt
        have fpg1 := pg1.two; have lpg1 := pg1.lt
        have fph0 := ph0.two; have lph0 := ph0.lt
        have fph1 := ph1.two; have lph1 := ph1.lt
        rw [HV2.out]
        go_wp2_with fail
        refine (implViewValid_any _ _ _ (q1 + 1) (highL xs1 x1) _ (og1.ints (B := w6.heap.size) (by omega)) (by omega)).mono ?_
        rintro e w7 ⟨rfl, hb7⟩
        clear fp1 lp1 fpg0 lpg0 fpg1 lpg1 fph0 lph0 fph1 lph1
        have z7 : w6.heap.size ≤ w7.heap.size := by have := hb7.size; simpa using this
        have st7 : Below w6.heap.size w6 w7 := (by repeat' (first | with_reducible exact Below.refl _ _ | with_reducible refine Below.alloc ?_ (by first | omega | (simp; done) | (simp; omega)) _ | with_reducible refine below_drewN ?_ _ | with_reducible refine Below.drew ?_ | with_reducible refine Below.setCell ?_ (by first | omega | (simp; done) | (simp; omega)) _ | with_reducible refine Below.trans ?_ (Below.mono hb7 (by first | omega | (simp; done) | (simp; omega)))))
        have HB7 : Below w.heap.size w w7 := HB6.trans (st7.mono HB6.size)
        replace p1 := p1.below st7 p1.lt
        replace pg0 := pg0.below st7 pg0.lt
        replace pg1 := pg1.below st7 pg1.lt
        replace ph0 := ph0.below st7 ph0.lt
        replace ph1 := ph1.below st7 ph1.lt
        replace o1 := o1.keep (same_of_below st7 (by omega))
        replace og0 := og0.keep (same_of_below st7 (by omega))
        replace og1 := og1.keep (same_of_below st7 (by omega))
        clear HB6
        clear st7
        have fp1 := p1.two; have lp1 := p1.lt
        have fpg0 := pg0.two; have lpg0 := pg0.lt
        have fpg1 := pg1.two; have lpg1 := pg1.lt
        have fph0 := ph0.two; have lph0 := ph0.lt
        have fph1 := ph1.two; have lph1 := ph1.lt
        rw [HV3.out]
        go_wp2
        go_ret
        exact ⟨rfl, HB7⟩
end Go.Proofs.YtmjacdcefaohcaaDoor
