/-
  The walk of FnViewMajorityNext: the law returns true and writes nothing that was there.
-/
import Derived.Test.YtmjacdcefaohcaaDoorDW
import Derived.Test.YtmjacdcefaohcaaDoorFL
import Derived.Test.YtmjacdcefaohcaaDoorE6
import Derived.Test.YtmjacdcefaohcaaDoorV4
import Derived.Test.YtmjacdcefaohcaaDoorCut
import Derived.Deep.RegionHeld3
import Derived.Deep.RegionWith
import Derived.IntWalk
namespace Go.Proofs.YtmjacdcefaohcaaDoor
open Go.RowKit
set_option linter.unusedVariables false

set_option maxHeartbeats 4000000 in
theorem fnViewMajorityNext_walk (A : Option Addr) (n c : Nat) (bs : List Int) (B : Option Addr) (m d : Nat) (cs : List Int) (ea : Addr) (w : World) (hc : n ≤ c) (hcm : c ≤ 9223372036854775807) (hb : Bytes w w.heap.size A n bs) (hd : m ≤ d) (hdm : d ≤ 9223372036854775807) (hb' : Bytes w w.heap.size B m cs) (hsE : Sent w ea) :
    Calls Tryd.prog 10 #[.slice A n c, .slice B m d] w fun e w' => e = .returned (.bool true) ∧ Below w.heap.size w w' := by
  by_cases hn : 1048576 < n
  · go_enter Tryd.func10, Tryd.ntmps10
    go_wp2
    go_ret
    exact ⟨rfl, Below.refl _ _⟩
  by_cases hm : 1048576 < m
  · go_enter Tryd.func10, Tryd.ntmps10
    go_wp2
    go_ret
    exact ⟨rfl, Below.refl _ _⟩
  go_enter Tryd.func10, Tryd.ntmps10
  have HB0 : Below w.heap.size w w := Below.refl _ _
  go_wp2_with fail
  refine (drawViewJoin_any _ _ _ _ _ hb (by omega) hc hcm).mono ?_
  rintro e w1 ⟨q1, A1, n1, c1, xs1, x1, rfl, o1, hn1, hx0, hx1, hb1⟩
  have z1 : w.heap.size ≤ w1.heap.size := by have := hb1.size; simpa using this
  have st1 : Below w.heap.size w w1 := (by repeat' (first | with_reducible exact Below.refl _ _ | with_reducible refine Below.alloc ?_ (by first | omega | (simp; done) | (simp; omega)) _ | with_reducible refine below_drewN ?_ _ | with_reducible refine Below.drew ?_ | with_reducible refine Below.setCell ?_ (by first | omega | (simp; done) | (simp; omega)) _ | with_reducible refine Below.trans ?_ (Below.mono hb1 (by first | omega | (simp; done) | (simp; omega)))))
  have HB1 : Below w.heap.size w w1 := HB0.trans (st1.mono HB0.size)
  clear HB0
  clear st1
  replace o1 := (rowI o1).mono (b' := w.heap.size) (by first | omega | (simp; done) | (simp; omega)) (Nat.le_refl _)
  have ln1 := Lib.hid o1.len; have cp1 := o1.cap
  go_wp2_with fail
  refine (implJoin_any _ _ _ q1 xs1 x1 ea _ ((hsE.below HB1 hsE.lt).alloc _) ((o1.ints (B := w1.heap.size) (by omega)).box _) (by omega)).mono ?_
  rintro e w2 ⟨Ag, ng, cg, rfl, og, hb2⟩
  have z2 : w1.heap.size + 1 ≤ w2.heap.size := by have := hb2.size; simpa using this
  have st2 : Below w1.heap.size w1 w2 := (by repeat' (first | with_reducible exact Below.refl _ _ | with_reducible refine Below.alloc ?_ (by first | omega | (simp; done) | (simp; omega)) _ | with_reducible refine below_drewN ?_ _ | with_reducible refine Below.drew ?_ | with_reducible refine Below.setCell ?_ (by first | omega | (simp; done) | (simp; omega)) _ | with_reducible refine Below.trans ?_ (Below.mono hb2 (by first | omega | (simp; done) | (simp; omega)))))
  have HB2 : Below w.heap.size w w2 := HB1.trans (st2.mono HB1.size)
  have p1 : Blk w2 (w1.heap.size) 25 #[.int .i64 (q1), .slice A1 n1 c1] := by simpa using (Blk.new w1 25 #[.int .i64 (q1), .slice A1 n1 c1]).below hb2 (by first | (simp; done) | (simp; omega))
  replace o1 := o1.keep (same_of_below st2 (by omega))
  clear HB1
  clear st2
  have fp1 := p1.two; have lp1 := p1.lt
  replace og := (rowI og).mono (b' := w1.heap.size + 1) (by first | omega | (simp; done) | (simp; omega)) (Nat.le_refl _)
  have ng8 : ng ≤ 8 := by have := og.len; have := gX_len (joinOk q1 xs1 x1) (q1 + 1) (joinL xs1 x1); omega
  go_wp2_with fail
  refine (specJoin_any _ _ _ q1 xs1 x1 _ ((o1.ints (B := w2.heap.size) (by omega)).box _) (by omega) cp1).mono ?_
  rintro e w3 ⟨Ah, nh, ch, rfl, oh, hb3⟩
  clear fp1 lp1
  have z3 : w2.heap.size + 1 ≤ w3.heap.size := by have := hb3.size; simpa using this
  have st3 : Below w2.heap.size w2 w3 := (by repeat' (first | with_reducible exact Below.refl _ _ | with_reducible refine Below.alloc ?_ (by first | omega | (simp; done) | (simp; omega)) _ | with_reducible refine below_drewN ?_ _ | with_reducible refine Below.drew ?_ | with_reducible refine Below.setCell ?_ (by first | omega | (simp; done) | (simp; omega)) _ | with_reducible refine Below.trans ?_ (Below.mono hb3 (by first | omega | (simp; done) | (simp; omega)))))
  have HB3 : Below w.heap.size w w3 := HB2.trans (st3.mono HB2.size)
  replace p1 := p1.below st3 p1.lt
  have pg : Blk w3 (w2.heap.size) 25 #[.int .i64 (gQ (joinOk q1 xs1 x1) (q1 + 1) (joinL xs1 x1)), .slice Ag ng cg] := by simpa using (Blk.new w2 25 #[.int .i64 (gQ (joinOk q1 xs1 x1) (q1 + 1) (joinL xs1 x1)), .slice Ag ng cg]).below hb3 (by first | (simp; done) | (simp; omega))
  replace o1 := o1.keep (same_of_below st3 (by omega))
  replace og := og.keep (same_of_below st3 (by omega))
  clear HB2
  clear st3
  have fp1 := p1.two; have lp1 := p1.lt
  have fpg := pg.two; have lpg := pg.lt
  replace oh := (rowI oh).mono (b' := w2.heap.size + 1) (by first | omega | (simp; done) | (simp; omega)) (Nat.le_refl _)
  have nh8 : nh ≤ 8 := by have := oh.len; have := gX_len (joinOk q1 xs1 x1) (q1 + 1) (joinL xs1 x1); omega
  have hne : (gB (joinOk q1 xs1 x1) (q1 + 1) (joinL xs1 x1) != gB (joinOk q1 xs1 x1) (q1 + 1) (joinL xs1 x1)) = false := by simp
  have heq : (gB (joinOk q1 xs1 x1) (q1 + 1) (joinL xs1 x1) == gB (joinOk q1 xs1 x1) (q1 + 1) (joinL xs1 x1)) = true := by simp
  go_wp2_with fail
  refine (sameView_same _ _ _ (gQ (joinOk q1 xs1 x1) (q1 + 1) (joinL xs1 x1)) (gX (joinOk q1 xs1 x1) (q1 + 1) (joinL xs1 x1)) _ _ _ _ ((og.ints (B := w3.heap.size) (by omega)).box _) ((oh.ints (B := w3.heap.size) (by omega)).box _) (by omega) (by omega)).mono ?_
  rintro e w4 ⟨rfl, hb4⟩
  clear fp1 lp1 fpg lpg
  have z4 : w3.heap.size + 1 ≤ w4.heap.size := by have := hb4.size; simpa using this
  have st4 : Below w3.heap.size w3 w4 := (by repeat' (first | with_reducible exact Below.refl _ _ | with_reducible refine Below.alloc ?_ (by first | omega | (simp; done) | (simp; omega)) _ | with_reducible refine below_drewN ?_ _ | with_reducible refine Below.drew ?_ | with_reducible refine Below.setCell ?_ (by first | omega | (simp; done) | (simp; omega)) _ | with_reducible refine Below.trans ?_ (Below.mono hb4 (by first | omega | (simp; done) | (simp; omega)))))
  have HB4 : Below w.heap.size w w4 := HB3.trans (st4.mono HB3.size)
  replace p1 := p1.below st4 p1.lt
  replace pg := pg.below st4 pg.lt
  have ph : Blk w4 (w3.heap.size) 25 #[.int .i64 (gQ (joinOk q1 xs1 x1) (q1 + 1) (joinL xs1 x1)), .slice Ah nh ch] := by simpa using (Blk.new w3 25 #[.int .i64 (gQ (joinOk q1 xs1 x1) (q1 + 1) (joinL xs1 x1)), .slice Ah nh ch]).below hb4 (by first | (simp; done) | (simp; omega))
  replace o1 := o1.keep (same_of_below st4 (by omega))
  replace og := og.keep (same_of_below st4 (by omega))
  replace oh := oh.keep (same_of_below st4 (by omega))
  clear HB3
  clear st4
  have fp1 := p1.two; have lp1 := p1.lt
  have fpg := pg.two; have lpg := pg.lt
  have fph := ph.two; have lph := ph.lt
  cases hB : gB (joinOk q1 xs1 x1) (q1 + 1) (joinL xs1 x1)
  · go_wp2_with fail
    refine (sameView_same _ _ _ (gQ (joinOk q1 xs1 x1) (q1 + 1) (joinL xs1 x1)) (gX (joinOk q1 xs1 x1) (q1 + 1) (joinL xs1 x1)) _ _ _ _ (og.ints (B := w4.heap.size) (by omega)) (oh.ints (B := w4.heap.size) (by omega)) (by omega) (by omega)).mono ?_
    rintro e w5 ⟨rfl, hb5⟩
    clear fp1 lp1 fpg lpg fph lph
    have z5 : w4.heap.size ≤ w5.heap.size := by have := hb5.size; simpa using this
    have st5 : Below w4.heap.size w4 w5 := (by repeat' (first | with_reducible exact Below.refl _ _ | with_reducible refine Below.alloc ?_ (by first | omega | (simp; done) | (simp; omega)) _ | with_reducible refine below_drewN ?_ _ | with_reducible refine Below.drew ?_ | with_reducible refine Below.setCell ?_ (by first | omega | (simp; done) | (simp; omega)) _ | with_reducible refine Below.trans ?_ (Below.mono hb5 (by first | omega | (simp; done) | (simp; omega)))))
    have HB5 : Below w.heap.size w w5 := HB4.trans (st5.mono HB4.size)
    replace p1 := p1.below st5 p1.lt
    replace pg := pg.below st5 pg.lt
    replace ph := ph.below st5 ph.lt
    replace o1 := o1.keep (same_of_below st5 (by omega))
    replace og := og.keep (same_of_below st5 (by omega))
    replace oh := oh.keep (same_of_below st5 (by omega))
    clear HB4
    clear st5
    have fp1 := p1.two; have lp1 := p1.lt
    have fpg := pg.two; have lpg := pg.lt
    have fph := ph.two; have lph := ph.lt
    go_wp2
    go_ret
    exact ⟨rfl, HB5⟩
  · have lng := Lib.hid (join_len (g_true hB).1)
    have hv1 := (join_ok (g_true hB).1).1
    have hp1 := vv_pos hv1
    have hp2 : 0 < n1 := by have := ln1.out; omega
    have HV1 := Lib.hid hv1
    clear hv1 hp1
    have HB' := Lib.hid hB
    obtain ⟨hok, hvv, eQ, eX⟩ := g_true hB
    have HOK := Lib.hid hok; have HVV := Lib.hid hvv; have EQ := Lib.hid eQ; have EX := Lib.hid eX
    have hq19 := vv_q hvv
    clear hne heq hB hok hvv eQ eX
    clear oh
    rw [EX.out] at og
    clear fpg
    rw [EQ.out] at pg
    have fpg := pg.two
    have lng2 := Lib.hid og.len
    have cpg := og.cap
    have hgn : ng = n1 + 1 := by have h1 := lng.out; rw [lng2.out, ln1.out] at h1; exact h1
    have HGN := Lib.hid hgn
    obtain ⟨kk, hkk⟩ : ∃ kk, kk = n1 / 2 := ⟨_, rfl⟩
    obtain ⟨jj, hjj⟩ : ∃ jj, jj = ng / 2 := ⟨_, rfl⟩
    obtain ⟨lo, hlo⟩ : ∃ lo, lo = ng - (jj + 1) := ⟨_, rfl⟩
    have hlo2 : lo ≤ ng := by omega
    have hkk2 : kk + 1 ≤ n1 := by omega
    have hjj2 : jj + 1 ≤ ng := by omega
    have hmjA : n1 < 2 * (kk + 1) := by omega
    have hmjB : ng < 2 * (ng - lo) := by omega
    have hmeet : ng < kk + 1 + (ng - lo) := by omega
    have hd1 : (n1 : Int).tdiv 2 = (kk : Int) := by rw [Int.tdiv_eq_ediv_of_nonneg (by omega)]; omega
    have hd2 : (n1 : Int) / 2 = (kk : Int) := by omega
    have hd3 : (ng : Int).tdiv 2 = (jj : Int) := by rw [Int.tdiv_eq_ediv_of_nonneg (by omega)]; omega
    have hd4 : (ng : Int) / 2 = (jj : Int) := by omega
    have hd5 : (ng : Int) - ((jj : Int) + 1) = (lo : Int) := by omega
    have hm1 : ¬ ((n1 : Int) + 1 = 0) := by omega
    have hm2 : ((n1 : Int) + 1 == 0) = false := by rw [beq_eq_false_iff_ne]; omega
    have hloI : (lo : Int) ≤ (ng : Int) := by omega
    have hng9 : ng ≤ 9 := by omega
    have hcutB := (og.ints (B := w4.heap.size) (by omega)).cut (k := lo) (cap := cg) hlo2 cpg
    have hslB := fun w => cut_run Ag ng cg lo hlo2 w
    generalize (if cg = lo then Ag else Ag.map (·.add lo)) = A0 at hcutB hslB
    have HN1 := Lib.hid hmjA; have HN2 := Lib.hid hmjB; have HN3 := Lib.hid hmeet
    clear hgn hlo hjj hmjA hmjB hmeet
    rcases (by omega : kk + 1 < n1 ∨ kk + 1 = n1) with hke | hke
    · have hkI : (kk : Int) + 1 < (n1 : Int) := by omega
      have HKE := Lib.hid (rfl : kk + 1 = kk + 1)
      clear hkk
      have hcutA := (o1.ints (B := w4.heap.size) (by omega)).takeI (k := (kk + 1)) (by omega)
      have hslA : ∀ w, (Instr.slice 23 (.slice A1 n1 c1) none (some (.int .i64 ((kk : Int) + 1))) none).run Tryd.prog w = .ok (.slice A1 (kk + 1) c1) w := fun w => by have h := cutTo_run A1 n1 c1 (kk + 1) (by omega) cp1 w; simpa using h
      have hkc : ((kk : Int) + 1 : Int) ≤ (c1 : Int) := by omega
      have hkn : ((kk : Int) + 1 : Int) ≤ (n1 : Int) := by omega
      go_wp2_with fail
      go_loop [14] (fun i => ∃ j : Nat, j ≤ (kk + 1) ∧ i = .int .i64 j ∧ Hid (∀ y ∈ (xs1.take (kk + 1)).take j, hasB ((joinL xs1 x1).drop lo) y = false)) (fun i => (kk + 1) - (intOf i).toNat)
      case atStart => exact ⟨0, Nat.zero_le _, rfl, Lib.hid (by simp)⟩
      case round =>
        obtain ⟨j, hj, rfl, hno⟩ := hrel
        by_cases hlt2 : j < (kk + 1)
        · obtain ⟨ad, y, rfl, _, hcy, hy1, hys⟩ := hcutA.elem hlt2
          have hjn : j < n1 := by omega
          cases hh : hasB ((joinL xs1 x1).drop lo) y
          · go_wp2_with (go_at_call 25; refine (hasInt_any _ _ _ w4.heap.size ((joinL xs1 x1).drop lo) _ _ hcutB (by omega)).mono ?_; rintro e w9 ⟨rfl, rfl⟩)
            go_round
            case rel => exact ⟨j + 1, by omega, by go_num, Lib.hid (none_snoc hys.out hno.out hh)⟩
            case measure => simp [intOf]; omega
          · have MA := Lib.hid (next_maj_a HV1.out (show (kk + 1) ≤ xs1.length by rw [ln1.out]; omega) (by rw [ln1.out]; have := HN1.out; have := HKE.out; omega))
            have MB := Lib.hid (next_maj_b (k := lo) HVV.out (by rw [lng2.out]; exact HN2.out))
            go_wp2_with fail
            refine (hasInt_any _ _ _ w4.heap.size ((joinL xs1 x1).drop lo) _ _ hcutB (by omega)).mono ?_
            rintro e w9 ⟨rfl, rfl⟩
            rw [hh]
            go_wp2_with fail
            refine (implMajority_any _ _ _ _ _ _ q1 xs1 (xs1.take (kk + 1)) _ (o1.ints (by omega)) hcutA (by omega) (by omega)).mono ?_
            rintro e w10 ⟨rfl, hb10⟩
            rw [MA.out]
            have st10 : Below w4.heap.size w4 w10 := (by repeat' (first | with_reducible exact Below.refl _ _ | with_reducible refine Below.alloc ?_ (by first | omega | (simp; done) | (simp; omega)) _ | with_reducible refine below_drewN ?_ _ | with_reducible refine Below.drew ?_ | with_reducible refine Below.setCell ?_ (by first | omega | (simp; done) | (simp; omega)) _ | with_reducible refine Below.trans ?_ (Below.mono hb10 (by first | omega | (simp; done) | (simp; omega)))))
            have z10 := st10.size
            have pg2 := pg.below st10 lpg
            have fpg2 := pg2.two; have lpg2 := pg2.lt
            go_wp2_with fail
            refine (implMajority_any _ _ _ _ _ _ (q1 + 1) (joinL xs1 x1) ((joinL xs1 x1).drop lo) _ ((og.keep (same_of_below st10 (by omega))).ints (by omega)) (hcutB.up st10 st10.size) (by omega) (by omega)).mono ?_
            rintro e w11 ⟨rfl, hb11⟩
            rw [MB.out]
            have st11 : Below w10.heap.size w10 w11 := (by repeat' (first | with_reducible exact Below.refl _ _ | with_reducible refine Below.alloc ?_ (by first | omega | (simp; done) | (simp; omega)) _ | with_reducible refine below_drewN ?_ _ | with_reducible refine Below.drew ?_ | with_reducible refine Below.setCell ?_ (by first | omega | (simp; done) | (simp; omega)) _ | with_reducible refine Below.trans ?_ (Below.mono hb11 (by first | omega | (simp; done) | (simp; omega)))))
            go_wp2
            go_ret
            exact ⟨rfl, (HB4.trans (st10.mono HB4.size)).trans (st11.mono (by have := HB4.size; omega))⟩
        · obtain rfl : j = (kk + 1) := by omega
          exact (next_meet (k := (kk + 1)) (j := lo) (g_true HB'.out).1 HVV.out (by rw [ln1.out]; omega) (by rw [lng2.out]; have := HN3.out; have := HKE.out; omega) (by have h := hno.out; rwa [List.take_of_length_le (by rw [List.length_take]; omega)] at h)).elim
    · have hkI : (kk : Int) + 1 = (n1 : Int) := by omega
      have HKE := Lib.hid hke
      clear hke hkk
      have hcutA := (o1.ints (B := w4.heap.size) (by omega)).takeI (k := n1) (by omega)
      have hslA : ∀ w, (Instr.slice 23 (.slice A1 n1 c1) none (some (.int .i64 ((n1 : Int)))) none).run Tryd.prog w = .ok (.slice A1 n1 c1) w := fun w => by have h := cutTo_run A1 n1 c1 n1 (by omega) cp1 w; simpa using h
      have hkc : (n1 : Int) ≤ (c1 : Int) := by omega
      have hkn : (n1 : Int) ≤ (n1 : Int) := by omega
      go_wp2_with fail
      go_loop [14] (fun i => ∃ j : Nat, j ≤ n1 ∧ i = .int .i64 j ∧ Hid (∀ y ∈ (xs1.take n1).take j, hasB ((joinL xs1 x1).drop lo) y = false)) (fun i => n1 - (intOf i).toNat)
      case atStart => exact ⟨0, Nat.zero_le _, rfl, Lib.hid (by simp)⟩
      case round =>
        obtain ⟨j, hj, rfl, hno⟩ := hrel
        by_cases hlt2 : j < n1
        · obtain ⟨ad, y, rfl, _, hcy, hy1, hys⟩ := hcutA.elem hlt2
          have hjn : j < n1 := by omega
          cases hh : hasB ((joinL xs1 x1).drop lo) y
          · go_wp2_with (go_at_call 25; refine (hasInt_any _ _ _ w4.heap.size ((joinL xs1 x1).drop lo) _ _ hcutB (by omega)).mono ?_; rintro e w9 ⟨rfl, rfl⟩)
            go_round
            case rel => exact ⟨j + 1, by omega, by go_num, Lib.hid (none_snoc hys.out hno.out hh)⟩
            case measure => simp [intOf]; omega
          · have MA := Lib.hid (next_maj_a HV1.out (show n1 ≤ xs1.length by rw [ln1.out]; omega) (by rw [ln1.out]; have := HN1.out; have := HKE.out; omega))
            have MB := Lib.hid (next_maj_b (k := lo) HVV.out (by rw [lng2.out]; exact HN2.out))
            go_wp2_with fail
            refine (hasInt_any _ _ _ w4.heap.size ((joinL xs1 x1).drop lo) _ _ hcutB (by omega)).mono ?_
            rintro e w9 ⟨rfl, rfl⟩
            rw [hh]
            go_wp2_with fail
            refine (implMajority_any _ _ _ _ _ _ q1 xs1 (xs1.take n1) _ (o1.ints (by omega)) hcutA (by omega) (by omega)).mono ?_
            rintro e w10 ⟨rfl, hb10⟩
            rw [MA.out]
            have st10 : Below w4.heap.size w4 w10 := (by repeat' (first | with_reducible exact Below.refl _ _ | with_reducible refine Below.alloc ?_ (by first | omega | (simp; done) | (simp; omega)) _ | with_reducible refine below_drewN ?_ _ | with_reducible refine Below.drew ?_ | with_reducible refine Below.setCell ?_ (by first | omega | (simp; done) | (simp; omega)) _ | with_reducible refine Below.trans ?_ (Below.mono hb10 (by first | omega | (simp; done) | (simp; omega)))))
            have z10 := st10.size
            have pg2 := pg.below st10 lpg
            have fpg2 := pg2.two; have lpg2 := pg2.lt
            go_wp2_with fail
            refine (implMajority_any _ _ _ _ _ _ (q1 + 1) (joinL xs1 x1) ((joinL xs1 x1).drop lo) _ ((og.keep (same_of_below st10 (by omega))).ints (by omega)) (hcutB.up st10 st10.size) (by omega) (by omega)).mono ?_
            rintro e w11 ⟨rfl, hb11⟩
            rw [MB.out]
            have st11 : Below w10.heap.size w10 w11 := (by repeat' (first | with_reducible exact Below.refl _ _ | with_reducible refine Below.alloc ?_ (by first | omega | (simp; done) | (simp; omega)) _ | with_reducible refine below_drewN ?_ _ | with_reducible refine Below.drew ?_ | with_reducible refine Below.setCell ?_ (by first | omega | (simp; done) | (simp; omega)) _ | with_reducible refine Below.trans ?_ (Below.mono hb11 (by first | omega | (simp; done) | (simp; omega)))))
            go_wp2
            go_ret
            exact ⟨rfl, (HB4.trans (st10.mono HB4.size)).trans (st11.mono (by have := HB4.size; omega))⟩
        · obtain rfl : j = n1 := by omega
          exact (next_meet (k := j) (j := lo) (g_true HB'.out).1 HVV.out (by rw [ln1.out]; omega) (by rw [lng2.out]; have := HN3.out; have := HKE.out; omega) (by have h := hno.out; rwa [List.take_of_length_le (by rw [List.length_take]; omega)] at h)).elim
end Go.Proofs.YtmjacdcefaohcaaDoor
