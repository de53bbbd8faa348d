/-
  The walk of FnViewLeave: the law returns true and writes nothing that was there.
-/
import Derived.Test.YtmjacdcefaohcaaDoorDW
import Derived.Test.YtmjacdcefaohcaaDoorFL
import Derived.Test.YtmjacdcefaohcaaDoorE4
import Derived.Deep.RegionHeld3
import Derived.Deep.RegionWith
import Derived.IntWalk
namespace Go.Proofs.YtmjacdcefaohcaaDoor
open Go.RowKit
set_option linter.unusedVariables false

set_option maxHeartbeats 4000000 in
theorem fnViewLeave_walk (A : Option Addr) (n c : Nat) (bs : List Int) (ea : Addr) (w : World) (hc : n ≤ c) (hcm : c ≤ 9223372036854775807) (hb : Bytes w w.heap.size A n bs) (hsE : Sent w ea) :
    Calls Tryd.prog 7 #[.slice A n c] w fun e w' => e = .returned (.bool true) ∧ Below w.heap.size w w' := by
  by_cases hn : 1048576 < n
  · go_enter Tryd.func7, Tryd.ntmps7
    go_wp2
    go_ret
    exact ⟨rfl, Below.refl _ _⟩
  go_enter Tryd.func7, Tryd.ntmps7
  have HB0 : Below w.heap.size w w := Below.refl _ _
  go_wp2_with fail
  refine (drawViewLeave_any _ _ _ _ _ hb (by omega) hc hcm).mono ?_
  rintro e w1 ⟨q1, A1, n1, c1, xs1, x1, rfl, o1, hn1, hx0, hx1, hb1⟩
  have z1 : w.heap.size ≤ w1.heap.size := by have := hb1.size; simpa using this
  have st1 : Below w.heap.size w w1 := (by repeat' (first | with_reducible exact Below.refl _ _ | with_reducible refine Below.alloc ?_ (by first | omega | (simp; done) | (simp; omega)) _ | with_reducible refine below_drewN ?_ _ | with_reducible refine Below.drew ?_ | with_reducible refine Below.setCell ?_ (by first | omega | (simp; done) | (simp; omega)) _ | with_reducible refine Below.trans ?_ (Below.mono hb1 (by first | omega | (simp; done) | (simp; omega)))))
  have HB1 : Below w.heap.size w w1 := HB0.trans (st1.mono HB0.size)
  clear HB0
  clear st1
  replace o1 := (rowI o1).mono (b' := w.heap.size) (by first | omega | (simp; done) | (simp; omega)) (Nat.le_refl _)
  have ln1 := Lib.hid o1.len; have cp1 := o1.cap
  go_wp2_with fail
  refine (implLeave_any _ _ _ q1 xs1 x1 ea _ ((hsE.below HB1 hsE.lt).alloc _) ((o1.ints (B := w1.heap.size) (by omega)).box _) (by omega)).mono ?_
  rintro e w2 ⟨Ag, ng, cg, rfl, og, hb2⟩
  have z2 : w1.heap.size + 1 ≤ w2.heap.size := by have := hb2.size; simpa using this
  have st2 : Below w1.heap.size w1 w2 := (by repeat' (first | with_reducible exact Below.refl _ _ | with_reducible refine Below.alloc ?_ (by first | omega | (simp; done) | (simp; omega)) _ | with_reducible refine below_drewN ?_ _ | with_reducible refine Below.drew ?_ | with_reducible refine Below.setCell ?_ (by first | omega | (simp; done) | (simp; omega)) _ | with_reducible refine Below.trans ?_ (Below.mono hb2 (by first | omega | (simp; done) | (simp; omega)))))
  have HB2 : Below w.heap.size w w2 := HB1.trans (st2.mono HB1.size)
  have p1 : Blk w2 (w1.heap.size) 25 #[.int .i64 (q1), .slice A1 n1 c1] := by simpa using (Blk.new w1 25 #[.int .i64 (q1), .slice A1 n1 c1]).below hb2 (by first | (simp; done) | (simp; omega))
  replace o1 := o1.keep (same_of_below st2 (by omega))
  clear HB1
  clear st2
  have fp1 := p1.two; have lp1 := p1.lt
  replace og := (rowI og).mono (b' := w1.heap.size + 1) (by first | omega | (simp; done) | (simp; omega)) (Nat.le_refl _)
  have ng8 : ng ≤ 8 := by have := og.len; have := gX_len (leaveOk q1 xs1 x1) (q1 + 1) (leaveL xs1 x1); omega
  go_wp2_with fail
  refine (specLeave_any _ _ _ q1 xs1 x1 _ ((o1.ints (B := w2.heap.size) (by omega)).box _) (by omega)).mono ?_
  rintro e w3 ⟨Ah, nh, ch, rfl, oh, hb3⟩
  clear fp1 lp1
  have z3 : w2.heap.size + 1 ≤ w3.heap.size := by have := hb3.size; simpa using this
  have st3 : Below w2.heap.size w2 w3 := (by repeat' (first | with_reducible exact Below.refl _ _ | with_reducible refine Below.alloc ?_ (by first | omega | (simp; done) | (simp; omega)) _ | with_reducible refine below_drewN ?_ _ | with_reducible refine Below.drew ?_ | with_reducible refine Below.setCell ?_ (by first | omega | (simp; done) | (simp; omega)) _ | with_reducible refine Below.trans ?_ (Below.mono hb3 (by first | omega | (simp; done) | (simp; omega)))))
  have HB3 : Below w.heap.size w w3 := HB2.trans (st3.mono HB2.size)
  replace p1 := p1.below st3 p1.lt
  have pg : Blk w3 (w2.heap.size) 25 #[.int .i64 (gQ (leaveOk q1 xs1 x1) (q1 + 1) (leaveL xs1 x1)), .slice Ag ng cg] := by simpa using (Blk.new w2 25 #[.int .i64 (gQ (leaveOk q1 xs1 x1) (q1 + 1) (leaveL xs1 x1)), .slice Ag ng cg]).below hb3 (by first | (simp; done) | (simp; omega))
  replace o1 := o1.keep (same_of_below st3 (by omega))
  replace og := og.keep (same_of_below st3 (by omega))
  clear HB2
  clear st3
  have fp1 := p1.two; have lp1 := p1.lt
  have fpg := pg.two; have lpg := pg.lt
  replace oh := (rowI oh).mono (b' := w2.heap.size + 1) (by first | omega | (simp; done) | (simp; omega)) (Nat.le_refl _)
  have nh8 : nh ≤ 8 := by have := oh.len; have := gX_len (leaveOk q1 xs1 x1) (q1 + 1) (leaveL xs1 x1); omega
  have hne : (gB (leaveOk q1 xs1 x1) (q1 + 1) (leaveL xs1 x1) != gB (leaveOk q1 xs1 x1) (q1 + 1) (leaveL xs1 x1)) = false := by simp
  have heq : (gB (leaveOk q1 xs1 x1) (q1 + 1) (leaveL xs1 x1) == gB (leaveOk q1 xs1 x1) (q1 + 1) (leaveL xs1 x1)) = true := by simp
  go_wp2_with fail
  refine (sameView_same _ _ _ (gQ (leaveOk q1 xs1 x1) (q1 + 1) (leaveL xs1 x1)) (gX (leaveOk q1 xs1 x1) (q1 + 1) (leaveL xs1 x1)) _ _ _ _ ((og.ints (B := w3.heap.size) (by omega)).box _) ((oh.ints (B := w3.heap.size) (by omega)).box _) (by omega) (by omega)).mono ?_
  rintro e w4 ⟨rfl, hb4⟩
  clear fp1 lp1 fpg lpg
  have z4 : w3.heap.size + 1 ≤ w4.heap.size := by have := hb4.size; simpa using this
  have st4 : Below w3.heap.size w3 w4 := (by repeat' (first | with_reducible exact Below.refl _ _ | with_reducible refine Below.alloc ?_ (by first | omega | (simp; done) | (simp; omega)) _ | with_reducible refine below_drewN ?_ _ | with_reducible refine Below.drew ?_ | with_reducible refine Below.setCell ?_ (by first | omega | (simp; done) | (simp; omega)) _ | with_reducible refine Below.trans ?_ (Below.mono hb4 (by first | omega | (simp; done) | (simp; omega)))))
  have HB4 : Below w.heap.size w w4 := HB3.trans (st4.mono HB3.size)
  replace p1 := p1.below st4 p1.lt
  replace pg := pg.below st4 pg.lt
  have ph : Blk w4 (w3.heap.size) 25 #[.int .i64 (gQ (leaveOk q1 xs1 x1) (q1 + 1) (leaveL xs1 x1)), .slice Ah nh ch] := by simpa using (Blk.new w3 25 #[.int .i64 (gQ (leaveOk q1 xs1 x1) (q1 + 1) (leaveL xs1 x1)), .slice Ah nh ch]).below hb4 (by first | (simp; done) | (simp; omega))
  replace o1 := o1.keep (same_of_below st4 (by omega))
  replace og := og.keep (same_of_below st4 (by omega))
  replace oh := oh.keep (same_of_below st4 (by omega))
  clear HB3
  clear st4
  have fp1 := p1.two; have lp1 := p1.lt
  have fpg := pg.two; have lpg := pg.lt
  have fph := ph.two; have lph := ph.lt
  cases hB : gB (leaveOk q1 xs1 x1) (q1 + 1) (leaveL xs1 x1)
  · go_wp2_with fail
    refine (sameView_same _ _ _ (gQ (leaveOk q1 xs1 x1) (q1 + 1) (leaveL xs1 x1)) (gX (leaveOk q1 xs1 x1) (q1 + 1) (leaveL xs1 x1)) _ _ _ _ (og.ints (B := w4.heap.size) (by omega)) (oh.ints (B := w4.heap.size) (by omega)) (by omega) (by omega)).mono ?_
    rintro e w5 ⟨rfl, hb5⟩
    clear fp1 lp1 fpg lpg fph lph
    have z5 : w4.heap.size ≤ w5.heap.size := by have := hb5.size; simpa using this
    have st5 : Below w4.heap.size w4 w5 := (by repeat' (first | with_reducible exact Below.refl _ _ | with_reducible refine Below.alloc ?_ (by first | omega | (simp; done) | (simp; omega)) _ | with_reducible refine below_drewN ?_ _ | with_reducible refine Below.drew ?_ | with_reducible refine Below.setCell ?_ (by first | omega | (simp; done) | (simp; omega)) _ | with_reducible refine Below.trans ?_ (Below.mono hb5 (by first | omega | (simp; done) | (simp; omega)))))
    have HB5 : Below w.heap.size w w5 := HB4.trans (st5.mono HB4.size)
    replace p1 := p1.below st5 p1.lt
    replace pg := pg.below st5 pg.lt
    replace ph := ph.below st5 ph.lt
    replace o1 := o1.keep (same_of_below st5 (by omega))
    replace og := og.keep (same_of_below st5 (by omega))
    replace oh := oh.keep (same_of_below st5 (by omega))
    clear HB4
    clear st5
    have fp1 := p1.two; have lp1 := p1.lt
    have fpg := pg.two; have lpg := pg.lt
    have fph := ph.two; have lph := ph.lt
    go_wp2
    go_ret
    exact ⟨rfl, HB5⟩
  · have hhas := Lib.hid (leave_ok (g_true hB).1).2
    have HB' := Lib.hid hB
    obtain ⟨hok, hvv, eQ, eX⟩ := g_true hB
    have HOK := Lib.hid hok; have HVV := Lib.hid hvv; have EQ := Lib.hid eQ; have EX := Lib.hid eX
    have hq19 := vv_q hvv
    clear hne heq hB hok hvv eQ eX
    clear oh
    rw [EX.out] at og
    clear fpg
    rw [EQ.out] at pg
    have fpg := pg.two
    go_wp2_with fail
    go_loopw [9] (fun i wr => ∃ k : Nat, k ≤ 8 ∧ i = .int .i64 k ∧ Hid (∃ d, wr = w4.drewN d)) (fun i _ => 8 - (intOf i).toNat)
    case atStart => exact ⟨0, by omega, rfl, Lib.hid ⟨0, rfl⟩⟩
    case round =>
      obtain ⟨k, hk, rfl, hw⟩ := hrel
      clear fp1 lp1 fpg lpg fph lph
      have HBr : Below w.heap.size w wr := by obtain ⟨d, h⟩ := hw.out; rw [h]; exact below_drewN HB4 d
      have zwr : w4.heap.size ≤ wr.heap.size := by obtain ⟨d, h⟩ := hw.out; rw [h]; exact Nat.le_refl _
      replace p1 : Blk wr (w1.heap.size) 25 #[.int .i64 (q1), .slice A1 n1 c1] := by obtain ⟨d, h⟩ := hw.out; rw [h]; exact p1.drewN d
      replace pg : Blk wr (w2.heap.size) 25 #[.int .i64 (q1 + 1), .slice Ag ng cg] := by obtain ⟨d, h⟩ := hw.out; rw [h]; exact pg.drewN d
      replace ph : Blk wr (w3.heap.size) 25 #[.int .i64 (gQ (leaveOk q1 xs1 x1) (q1 + 1) (leaveL xs1 x1)), .slice Ah nh ch] := by obtain ⟨d, h⟩ := hw.out; rw [h]; exact ph.drewN d
      replace o1 : RowI wr (w.heap.size) (w1.heap.size) A1 n1 c1 (xs1) := by obtain ⟨d, h⟩ := hw.out; rw [h]; exact o1.drewN1 d
      replace og : RowI wr (w1.heap.size + 1) (w2.heap.size) Ag ng cg (leaveL xs1 x1) := by obtain ⟨d, h⟩ := hw.out; rw [h]; exact og.drewN1 d
      have fp1 := p1.two; have lp1 := p1.lt
      have fpg := pg.two; have lpg := pg.lt
      have fph := ph.two; have lph := ph.lt
      by_cases hlt : k < 8
      · have RG := og.ints (B := wr.heap.size) (by omega)
        have RV := o1.ints (B := wr.heap.size) (by omega)
        have HL : hasB (leaveL xs1 x1) (k : Int) = ((k : Int) != x1 && hasB xs1 (k : Int)) := by unfold leaveL; exact has_acc (p := fun x => x != x1 && hasB xs1 x) (by omega) (by omega)
        cases hv1 : hasB xs1 (k : Int) <;> cases he : ((k : Int) != x1)
        all_goals
          rw [hv1, he] at HL
          simp only [Bool.or_false, Bool.or_true, Bool.and_true, Bool.and_false, Bool.true_and, Bool.false_and, Bool.true_or, Bool.false_or] at HL
          go_wp2
          go_quiet (first | (go_at_call_of 25 Ag; exact Calls.quiet_of_same ((hasInt_any Ag _ _ wr.heap.size (leaveL xs1 x1) _ _ (RG.drewN _) (by omega)).mono fun e w' h => ⟨h.1, h.2.symm⟩)) | (go_at_call_of 25 A1; exact Calls.quiet_of_same ((hasInt_any A1 _ _ wr.heap.size (xs1) _ _ (RV.drewN _) (by omega)).mono fun e w' h => ⟨h.1, h.2.symm⟩)))
          go_wp2
          go_roundw
          case rel => exact ⟨k + 1, by omega, by go_num, Lib.hid (drew_more hw.out _)⟩
          case measure => simp [intOf]; omega
      · have hk8 : k = 8 := by omega
        subst hk8
        have hqq : (q1 + 1 == q1 + 1) = true := by simp
        go_wp2_with fail
        refine (implViewValid_any _ _ _ (q1 + 1) (leaveL xs1 x1) _ (og.ints (B := wr.heap.size) (by omega)) (by omega)).mono ?_
        rintro e w5 ⟨rfl, hb5⟩
        clear fp1 lp1 fpg lpg fph lph
        have z5 : wr.heap.size ≤ w5.heap.size := by have := hb5.size; simpa using this
        have st5 : Below wr.heap.size wr w5 := (by repeat' (first | with_reducible exact Below.refl _ _ | with_reducible refine Below.alloc ?_ (by first | omega | (simp; done) | (simp; omega)) _ | with_reducible refine below_drewN ?_ _ | with_reducible refine Below.drew ?_ | with_reducible refine Below.setCell ?_ (by first | omega | (simp; done) | (simp; omega)) _ | with_reducible refine Below.trans ?_ (Below.mono hb5 (by first | omega | (simp; done) | (simp; omega)))))
        have HB5 : Below w.heap.size w w5 := HBr.trans (st5.mono HBr.size)
        replace p1 := p1.below st5 p1.lt
        replace pg := pg.below st5 pg.lt
        replace ph := ph.below st5 ph.lt
        replace o1 := o1.keep (same_of_below st5 (by omega))
        replace og := og.keep (same_of_below st5 (by omega))
        clear HBr
        clear st5
        have fp1 := p1.two; have lp1 := p1.lt
        have fpg := pg.two; have lpg := pg.lt
        have fph := ph.two; have lph := ph.lt
        rw [HVV.out]
        have RV := o1.ints (B := w5.heap.size) (by omega)
        go_wp2_with fail
        refine (hasInt_any _ _ _ w5.heap.size xs1 _ _ RV (by omega)).mono ?_
        rintro e w9 ⟨rfl, rfl⟩
        rw [hhas.out]
        go_wp2
        go_ret
        exact ⟨rfl, HB5⟩
end Go.Proofs.YtmjacdcefaohcaaDoor
