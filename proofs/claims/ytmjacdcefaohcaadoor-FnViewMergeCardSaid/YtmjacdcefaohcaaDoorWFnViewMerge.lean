/-
  The walk of FnViewMerge: the law returns true and writes nothing that was there.
-/
import Derived.Test.YtmjacdcefaohcaaDoorDM
import Derived.Test.YtmjacdcefaohcaaDoorFL
import Derived.Test.YtmjacdcefaohcaaDoorE4M
import Derived.Test.YtmjacdcefaohcaaDoorE3M
import Derived.Deep.RegionHeld3
import Derived.Deep.RegionWith
import Derived.IntWalk
namespace Go.Proofs.YtmjacdcefaohcaaDoor
open Go.RowKit
set_option linter.unusedVariables false

set_option maxHeartbeats 4000000 in
theorem fnViewMerge_walk (A : Option Addr) (n c : Nat) (bs : List Int) (ea : Addr) (w : World) (hc : n ≤ c) (hcm : c ≤ 9223372036854775807) (hb : Bytes w w.heap.size A n bs) (hsE : Sent w ea) :
    Calls Tryd.prog 14 #[.slice A n c] w fun e w' => e = .returned (.bool true) ∧ Below w.heap.size w w' := by
  by_cases hn : 1048576 < n
  · go_enter Tryd.func14, Tryd.ntmps14
    go_wp2
    go_ret
    exact ⟨rfl, Below.refl _ _⟩
  go_enter Tryd.func14, Tryd.ntmps14
  have HB0 : Below w.heap.size w w := Below.refl _ _
  go_wp2_with fail
  refine (drawViewMerge_any _ _ _ _ _ hb (by omega) hc hcm).mono ?_
  rintro e w1 ⟨q1, A1, n1, c1, xs1, q2, A2, n2, c2, xs2, rfl, o1, o2, hn1, hn2, hb1⟩
  have z1 : w.heap.size ≤ w1.heap.size := by have := hb1.size; simpa using this
  have st1 : Below w.heap.size w w1 := (by repeat' (first | with_reducible exact Below.refl _ _ | with_reducible refine Below.alloc ?_ (by first | omega | (simp; done) | (simp; omega)) _ | with_reducible refine below_drewN ?_ _ | with_reducible refine Below.drew ?_ | with_reducible refine Below.setCell ?_ (by first | omega | (simp; done) | (simp; omega)) _ | with_reducible refine Below.trans ?_ (Below.mono hb1 (by first | omega | (simp; done) | (simp; omega)))))
  have HB1 : Below w.heap.size w w1 := HB0.trans (st1.mono HB0.size)
  clear HB0
  clear st1
  replace o1 := (rowI o1).mono (b' := w.heap.size) (by first | omega | (simp; done) | (simp; omega)) (Nat.le_refl _)
  replace o2 := (rowI o2).mono (b' := w.heap.size) (by first | omega | (simp; done) | (simp; omega)) (Nat.le_refl _)
  have ln1 := Lib.hid o1.len; have ln2 := Lib.hid o2.len
  go_wp2_with fail
  refine (implMerge_any _ _ _ _ _ _ q1 xs1 q2 xs2 ea _ (((hsE.below HB1 hsE.lt).alloc _).alloc _) (((o1.ints (B := w1.heap.size) (by omega)).box _).box _) (((o2.ints (B := w1.heap.size) (by omega)).box _).box _) (by omega) (by omega)).mono ?_
  rintro e w2 ⟨Ag, ng, cg, rfl, og, hb2⟩
  have z2 : w1.heap.size + 2 ≤ w2.heap.size := by have := hb2.size; simpa using this
  have st2 : Below w1.heap.size w1 w2 := (by repeat' (first | with_reducible exact Below.refl _ _ | with_reducible refine Below.alloc ?_ (by first | omega | (simp; done) | (simp; omega)) _ | with_reducible refine below_drewN ?_ _ | with_reducible refine Below.drew ?_ | with_reducible refine Below.setCell ?_ (by first | omega | (simp; done) | (simp; omega)) _ | with_reducible refine Below.trans ?_ (Below.mono hb2 (by first | omega | (simp; done) | (simp; omega)))))
  have HB2 : Below w.heap.size w w2 := HB1.trans (st2.mono HB1.size)
  have p1 : Blk w2 (w1.heap.size) 25 #[.int .i64 (q1), .slice A1 n1 c1] := by simpa using ((Blk.new w1 25 #[.int .i64 (q1), .slice A1 n1 c1]).alloc _).below hb2 (by first | (simp; done) | (simp; omega))
  have p2 : Blk w2 (w1.heap.size + 1) 25 #[.int .i64 (q2), .slice A2 n2 c2] := by simpa using (Blk.new (w1.alloc (.cells #[.int .i64 (q1), .slice A1 n1 c1] 25)) 25 #[.int .i64 (q2), .slice A2 n2 c2]).below hb2 (by first | (simp; done) | (simp; omega))
  replace o1 := o1.keep (same_of_below st2 (by omega))
  replace o2 := o2.keep (same_of_below st2 (by omega))
  clear HB1
  clear st2
  have fp1 := p1.two; have lp1 := p1.lt
  have fp2 := p2.two; have lp2 := p2.lt
  replace og := (rowI og).mono (b' := w1.heap.size + 2) (by first | omega | (simp; done) | (simp; omega)) (Nat.le_refl _)
  have ng8 : ng ≤ 8 := by have := og.len; have := gX_len (mergeOk q1 xs1 q2 xs2) (max q1 q2 + 1) (mergeL xs1 xs2); omega
  go_wp2_with fail
  refine (specMerge_any _ _ _ _ _ _ q1 xs1 q2 xs2 _ ((o1.ints (B := w2.heap.size) (by omega)).box _) ((o2.ints (B := w2.heap.size) (by omega)).box _) (by omega) (by omega)).mono ?_
  rintro e w3 ⟨Ah, nh, ch, rfl, oh, hb3⟩
  clear fp1 lp1 fp2 lp2
  have z3 : w2.heap.size + 1 ≤ w3.heap.size := by have := hb3.size; simpa using this
  have st3 : Below w2.heap.size w2 w3 := (by repeat' (first | with_reducible exact Below.refl _ _ | with_reducible refine Below.alloc ?_ (by first | omega | (simp; done) | (simp; omega)) _ | with_reducible refine below_drewN ?_ _ | with_reducible refine Below.drew ?_ | with_reducible refine Below.setCell ?_ (by first | omega | (simp; done) | (simp; omega)) _ | with_reducible refine Below.trans ?_ (Below.mono hb3 (by first | omega | (simp; done) | (simp; omega)))))
  have HB3 : Below w.heap.size w w3 := HB2.trans (st3.mono HB2.size)
  replace p1 := p1.below st3 p1.lt
  replace p2 := p2.below st3 p2.lt
  have pg : Blk w3 (w2.heap.size) 25 #[.int .i64 (gQ (mergeOk q1 xs1 q2 xs2) (max q1 q2 + 1) (mergeL xs1 xs2)), .slice Ag ng cg] := by simpa using (Blk.new w2 25 #[.int .i64 (gQ (mergeOk q1 xs1 q2 xs2) (max q1 q2 + 1) (mergeL xs1 xs2)), .slice Ag ng cg]).below hb3 (by first | (simp; done) | (simp; omega))
  replace o1 := o1.keep (same_of_below st3 (by omega))
  replace o2 := o2.keep (same_of_below st3 (by omega))
  replace og := og.keep (same_of_below st3 (by omega))
  clear HB2
  clear st3
  have fp1 := p1.two; have lp1 := p1.lt
  have fp2 := p2.two; have lp2 := p2.lt
  have fpg := pg.two; have lpg := pg.lt
  replace oh := (rowI oh).mono (b' := w2.heap.size + 1) (by first | omega | (simp; done) | (simp; omega)) (Nat.le_refl _)
  have nh8 : nh ≤ 8 := by have := oh.len; have := gX_len (mergeOk q1 xs1 q2 xs2) (max q1 q2 + 1) (mergeL xs1 xs2); omega
  have hne : (gB (mergeOk q1 xs1 q2 xs2) (max q1 q2 + 1) (mergeL xs1 xs2) != gB (mergeOk q1 xs1 q2 xs2) (max q1 q2 + 1) (mergeL xs1 xs2)) = false := by simp
  have heq : (gB (mergeOk q1 xs1 q2 xs2) (max q1 q2 + 1) (mergeL xs1 xs2) == gB (mergeOk q1 xs1 q2 xs2) (max q1 q2 + 1) (mergeL xs1 xs2)) = true := by simp
  go_wp2_with fail
  refine (sameView_same _ _ _ (gQ (mergeOk q1 xs1 q2 xs2) (max q1 q2 + 1) (mergeL xs1 xs2)) (gX (mergeOk q1 xs1 q2 xs2) (max q1 q2 + 1) (mergeL xs1 xs2)) _ _ _ _ ((og.ints (B := w3.heap.size) (by omega)).box _) ((oh.ints (B := w3.heap.size) (by omega)).box _) (by omega) (by omega)).mono ?_
  rintro e w4 ⟨rfl, hb4⟩
  clear fp1 lp1 fp2 lp2 fpg lpg
  have z4 : w3.heap.size + 1 ≤ w4.heap.size := by have := hb4.size; simpa using this
  have st4 : Below w3.heap.size w3 w4 := (by repeat' (first | with_reducible exact Below.refl _ _ | with_reducible refine Below.alloc ?_ (by first | omega | (simp; done) | (simp; omega)) _ | with_reducible refine below_drewN ?_ _ | with_reducible refine Below.drew ?_ | with_reducible refine Below.setCell ?_ (by first | omega | (simp; done) | (simp; omega)) _ | with_reducible refine Below.trans ?_ (Below.mono hb4 (by first | omega | (simp; done) | (simp; omega)))))
  have HB4 : Below w.heap.size w w4 := HB3.trans (st4.mono HB3.size)
  replace p1 := p1.below st4 p1.lt
  replace p2 := p2.below st4 p2.lt
  replace pg := pg.below st4 pg.lt
  have ph : Blk w4 (w3.heap.size) 25 #[.int .i64 (gQ (mergeOk q1 xs1 q2 xs2) (max q1 q2 + 1) (mergeL xs1 xs2)), .slice Ah nh ch] := by simpa using (Blk.new w3 25 #[.int .i64 (gQ (mergeOk q1 xs1 q2 xs2) (max q1 q2 + 1) (mergeL xs1 xs2)), .slice Ah nh ch]).below hb4 (by first | (simp; done) | (simp; omega))
  replace o1 := o1.keep (same_of_below st4 (by omega))
  replace o2 := o2.keep (same_of_below st4 (by omega))
  replace og := og.keep (same_of_below st4 (by omega))
  replace oh := oh.keep (same_of_below st4 (by omega))
  clear HB3
  clear st4
  have fp1 := p1.two; have lp1 := p1.lt
  have fp2 := p2.two; have lp2 := p2.lt
  have fpg := pg.two; have lpg := pg.lt
  have fph := ph.two; have lph := ph.lt
  cases hB : gB (mergeOk q1 xs1 q2 xs2) (max q1 q2 + 1) (mergeL xs1 xs2)
  · go_wp2_with fail
    refine (sameView_same _ _ _ (gQ (mergeOk q1 xs1 q2 xs2) (max q1 q2 + 1) (mergeL xs1 xs2)) (gX (mergeOk q1 xs1 q2 xs2) (max q1 q2 + 1) (mergeL xs1 xs2)) _ _ _ _ (og.ints (B := w4.heap.size) (by omega)) (oh.ints (B := w4.heap.size) (by omega)) (by omega) (by omega)).mono ?_
    rintro e w5 ⟨rfl, hb5⟩
    clear fp1 lp1 fp2 lp2 fpg lpg fph lph
    have z5 : w4.heap.size ≤ w5.heap.size := by have := hb5.size; simpa using this
    have st5 : Below w4.heap.size w4 w5 := (by repeat' (first | with_reducible exact Below.refl _ _ | with_reducible refine Below.alloc ?_ (by first | omega | (simp; done) | (simp; omega)) _ | with_reducible refine below_drewN ?_ _ | with_reducible refine Below.drew ?_ | with_reducible refine Below.setCell ?_ (by first | omega | (simp; done) | (simp; omega)) _ | with_reducible refine Below.trans ?_ (Below.mono hb5 (by first | omega | (simp; done) | (simp; omega)))))
    have HB5 : Below w.heap.size w w5 := HB4.trans (st5.mono HB4.size)
    replace p1 := p1.below st5 p1.lt
    replace p2 := p2.below st5 p2.lt
    replace pg := pg.below st5 pg.lt
    replace ph := ph.below st5 ph.lt
    replace o1 := o1.keep (same_of_below st5 (by omega))
    replace o2 := o2.keep (same_of_below st5 (by omega))
    replace og := og.keep (same_of_below st5 (by omega))
    replace oh := oh.keep (same_of_below st5 (by omega))
    clear HB4
    clear st5
    have fp1 := p1.two; have lp1 := p1.lt
    have fp2 := p2.two; have lp2 := p2.lt
    have fpg := pg.two; have lpg := pg.lt
    have fph := ph.two; have lph := ph.lt
    go_wp2
    go_ret
    exact ⟨rfl, HB5⟩
  · have hsw := Lib.hid (merge_swap hB)
    have hqs := merge_ok (g_true hB).1
    have hq1 := vv_q hqs.1; have hq2 := vv_q hqs.2.1
    clear hqs
    have HB' := Lib.hid hB
    obtain ⟨hok, hvv, eQ, eX⟩ := g_true hB
    have HOK := Lib.hid hok; have HVV := Lib.hid hvv; have EQ := Lib.hid eQ; have EX := Lib.hid eX
    have hq19 := vv_q hvv
    clear hne heq hB hok hvv eQ eX
    clear oh
    rw [EX.out] at og
    clear fpg
    rw [EQ.out] at pg
    have fpg := pg.two
    go_wp2_with fail
    go_loopw [9] (fun i wr => ∃ k : Nat, k ≤ 8 ∧ i = .int .i64 k ∧ Hid (∃ d, wr = w4.drewN d)) (fun i _ => 8 - (intOf i).toNat)
    case atStart => exact ⟨0, by omega, rfl, Lib.hid ⟨0, rfl⟩⟩
    case round =>
      obtain ⟨k, hk, rfl, hw⟩ := hrel
      clear fp1 lp1 fp2 lp2 fpg lpg fph lph
      have HBr : Below w.heap.size w wr := by obtain ⟨d, h⟩ := hw.out; rw [h]; exact below_drewN HB4 d
      have zwr : w4.heap.size ≤ wr.heap.size := by obtain ⟨d, h⟩ := hw.out; rw [h]; exact Nat.le_refl _
      replace p1 : Blk wr (w1.heap.size) 25 #[.int .i64 (q1), .slice A1 n1 c1] := by obtain ⟨d, h⟩ := hw.out; rw [h]; exact p1.drewN d
      replace p2 : Blk wr (w1.heap.size + 1) 25 #[.int .i64 (q2), .slice A2 n2 c2] := by obtain ⟨d, h⟩ := hw.out; rw [h]; exact p2.drewN d
      replace pg : Blk wr (w2.heap.size) 25 #[.int .i64 (max q1 q2 + 1), .slice Ag ng cg] := by obtain ⟨d, h⟩ := hw.out; rw [h]; exact pg.drewN d
      replace ph : Blk wr (w3.heap.size) 25 #[.int .i64 (gQ (mergeOk q1 xs1 q2 xs2) (max q1 q2 + 1) (mergeL xs1 xs2)), .slice Ah nh ch] := by obtain ⟨d, h⟩ := hw.out; rw [h]; exact ph.drewN d
      replace o1 : RowI wr (w.heap.size) (w1.heap.size) A1 n1 c1 (xs1) := by obtain ⟨d, h⟩ := hw.out; rw [h]; exact o1.drewN1 d
      replace o2 : RowI wr (w.heap.size) (w1.heap.size) A2 n2 c2 (xs2) := by obtain ⟨d, h⟩ := hw.out; rw [h]; exact o2.drewN1 d
      replace og : RowI wr (w1.heap.size + 2) (w2.heap.size) Ag ng cg (mergeL xs1 xs2) := by obtain ⟨d, h⟩ := hw.out; rw [h]; exact og.drewN1 d
      have fp1 := p1.two; have lp1 := p1.lt
      have fp2 := p2.two; have lp2 := p2.lt
      have fpg := pg.two; have lpg := pg.lt
      have fph := ph.two; have lph := ph.lt
      by_cases hlt : k < 8
      · have RG := og.ints (B := wr.heap.size) (by omega)
        have RV := o1.ints (B := wr.heap.size) (by omega)
        have RU := o2.ints (B := wr.heap.size) (by omega)
        have HL : hasB (mergeL xs1 xs2) (k : Int) = (hasB xs1 (k : Int) || hasB xs2 (k : Int)) := merge_has (by omega) (by omega)
        cases hv1 : hasB xs1 (k : Int) <;> cases hv2 : hasB xs2 (k : Int)
        all_goals
          rw [hv1, hv2] at HL
          simp only [Bool.or_false, Bool.or_true, Bool.true_or, Bool.false_or] at HL
          go_wp2
          go_quiet (first | (go_at_call_of 25 Ag; exact Calls.quiet_of_same ((hasInt_any Ag _ _ wr.heap.size (mergeL xs1 xs2) _ _ (RG.drewN _) (by omega)).mono fun e w' h => ⟨h.1, h.2.symm⟩)) | (go_at_call_of 25 A1; exact Calls.quiet_of_same ((hasInt_any A1 _ _ wr.heap.size (xs1) _ _ (RV.drewN _) (by omega)).mono fun e w' h => ⟨h.1, h.2.symm⟩)) | (go_at_call_of 25 A2; exact Calls.quiet_of_same ((hasInt_any A2 _ _ wr.heap.size (xs2) _ _ (RU.drewN _) (by omega)).mono fun e w' h => ⟨h.1, h.2.symm⟩)))
          go_wp2
          go_roundw
          case rel => exact ⟨k + 1, by omega, by go_num, Lib.hid (drew_more hw.out _)⟩
          case measure => simp [intOf]; omega
      · have hk8 : k = 8 := by omega
        subst hk8
        go_wp2_with fail
        refine (implMerge_any _ _ _ _ _ _ q2 xs2 q1 xs1 ea _ (hsE.below HBr hsE.lt) (o2.ints (B := wr.heap.size) (by omega)) (o1.ints (B := wr.heap.size) (by omega)) (by omega) (by omega)).mono ?_
        rintro e w5 ⟨Az, nz, cz, rfl, oz, hb5⟩
        clear fp1 lp1 fp2 lp2 fpg lpg fph lph
        have z5 : wr.heap.size ≤ w5.heap.size := by have := hb5.size; simpa using this
        have st5 : Below wr.heap.size wr w5 := (by repeat' (first | with_reducible exact Below.refl _ _ | with_reducible refine Below.alloc ?_ (by first | omega | (simp; done) | (simp; omega)) _ | with_reducible refine below_drewN ?_ _ | with_reducible refine Below.drew ?_ | with_reducible refine Below.setCell ?_ (by first | omega | (simp; done) | (simp; omega)) _ | with_reducible refine Below.trans ?_ (Below.mono hb5 (by first | omega | (simp; done) | (simp; omega)))))
        have HB5 : Below w.heap.size w w5 := HBr.trans (st5.mono HBr.size)
        replace p1 := p1.below st5 p1.lt
        replace p2 := p2.below st5 p2.lt
        replace pg := pg.below st5 pg.lt
        replace ph := ph.below st5 ph.lt
        replace o1 := o1.keep (same_of_below st5 (by omega))
        replace o2 := o2.keep (same_of_below st5 (by omega))
        replace og := og.keep (same_of_below st5 (by omega))
        clear HBr
        clear st5
        have fp1 := p1.two; have lp1 := p1.lt
        have fp2 := p2.two; have lp2 := p2.lt
        have fpg := pg.two; have lpg := pg.lt
        have fph := ph.two; have lph := ph.lt
        replace oz := (rowI oz).mono (b' := wr.heap.size) (by first | omega | (simp; done) | (simp; omega)) (Nat.le_refl _)
        have nz8 : nz ≤ 8 := by have := oz.len; have := gX_len (mergeOk q2 xs2 q1 xs1) (max q2 q1 + 1) (mergeL xs2 xs1); omega
        obtain ⟨y1, y2, y3⟩ := hsw.out
        rw [y1, y2]
        rw [y3] at oz
        clear y1 y2 y3
        go_wp2_with fail
        refine (sameView_same _ _ _ (max q1 q2 + 1) (mergeL xs1 xs2) _ _ _ _ ((oz.ints (B := w5.heap.size) (by omega)).box _) ((og.ints (B := w5.heap.size) (by omega)).box _) (by omega) (by omega)).mono ?_
        rintro e w6 ⟨rfl, hb6⟩
        clear fp1 lp1 fp2 lp2 fpg lpg fph lph
        have z6 : w5.heap.size + 1 ≤ w6.heap.size := by have := hb6.size; simpa using this
        have st6 : Below w5.heap.size w5 w6 := (by repeat' (first | with_reducible exact Below.refl _ _ | with_reducible refine Below.alloc ?_ (by first | omega | (simp; done) | (simp; omega)) _ | with_reducible refine below_drewN ?_ _ | with_reducible refine Below.drew ?_ | with_reducible refine Below.setCell ?_ (by first | omega | (simp; done) | (simp; omega)) _ | with_reducible refine Below.trans ?_ (Below.mono hb6 (by first | omega | (simp; done) | (simp; omega)))))
        have HB6 : Below w.heap.size w w6 := HB5.trans (st6.mono HB5.size)
        replace p1 := p1.below st6 p1.lt
        replace p2 := p2.below st6 p2.lt
        replace pg := pg.below st6 pg.lt
        replace ph := ph.below st6 ph.lt
        have pz : Blk w6 (w5.heap.size) 25 #[.int .i64 (max q1 q2 + 1), .slice Az nz cz] := by simpa using (Blk.new w5 25 #[.int .i64 (max q1 q2 + 1), .slice Az nz cz]).below hb6 (by first | (simp; done) | (simp; omega))
        replace o1 := o1.keep (same_of_below st6 (by omega))
        replace o2 := o2.keep (same_of_below st6 (by omega))
        replace og := og.keep (same_of_below st6 (by omega))
        replace oz := oz.keep (same_of_below st6 (by omega))
        clear HB5
        clear st6
        have fp1 := p1.two; have lp1 := p1.lt
        have fp2 := p2.two; have lp2 := p2.lt
        have fpg := pg.two; have lpg := pg.lt
        have fph := ph.two; have lph := ph.lt
        have fpz := pz.two; have lpz := pz.lt
        have hgt1 : q1 < max q1 q2 + 1 := by omega
        have hgt2 : q2 < max q1 q2 + 1 := by omega
        go_wp2_with fail
        refine (implViewValid_any _ _ _ (max q1 q2 + 1) (mergeL xs1 xs2) _ (og.ints (B := w6.heap.size) (by omega)) (by omega)).mono ?_
        rintro e w7 ⟨rfl, hb7⟩
        clear fp1 lp1 fp2 lp2 fpg lpg fph lph fpz lpz
        have z7 : w6.heap.size ≤ w7.heap.size := by have := hb7.size; simpa using this
        have st7 : Below w6.heap.size w6 w7 := (by repeat' (first | with_reducible exact Below.refl _ _ | with_reducible refine Below.alloc ?_ (by first | omega | (simp; done) | (simp; omega)) _ | with_reducible refine below_drewN ?_ _ | with_reducible refine Below.drew ?_ | with_reducible refine Below.setCell ?_ (by first | omega | (simp; done) | (simp; omega)) _ | with_reducible refine Below.trans ?_ (Below.mono hb7 (by first | omega | (simp; done) | (simp; omega)))))
        have HB7 : Below w.heap.size w w7 := HB6.trans (st7.mono HB6.size)
        replace p1 := p1.below st7 p1.lt
        replace p2 := p2.below st7 p2.lt
        replace pg := pg.below st7 pg.lt
        replace ph := ph.below st7 ph.lt
        replace pz := pz.below st7 pz.lt
        replace o1 := o1.keep (same_of_below st7 (by omega))
        replace o2 := o2.keep (same_of_below st7 (by omega))
        replace og := og.keep (same_of_below st7 (by omega))
        replace oz := oz.keep (same_of_below st7 (by omega))
        clear HB6
        clear st7
        have fp1 := p1.two; have lp1 := p1.lt
        have fp2 := p2.two; have lp2 := p2.lt
        have fpg := pg.two; have lpg := pg.lt
        have fph := ph.two; have lph := ph.lt
        have fpz := pz.two; have lpz := pz.lt
        rw [HVV.out]
        go_wp2
        go_ret
        exact ⟨rfl, HB7⟩
end Go.Proofs.YtmjacdcefaohcaaDoor
