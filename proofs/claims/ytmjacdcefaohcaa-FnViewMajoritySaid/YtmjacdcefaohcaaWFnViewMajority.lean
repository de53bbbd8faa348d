/-
  The walk of FnViewMajority: the law returns true and writes nothing that was there.
-/
import Derived.Test.YtmjacdcefaohcaaDVM
import Derived.Test.YtmjacdcefaohcaaV4
import Derived.Deep.RegionHeld3
import Derived.IntWalk
namespace Go.Proofs.Ytmjacdcefaohcaa
open Go.RowKit
set_option linter.unusedVariables false

set_option maxHeartbeats 4000000 in
theorem fnViewMajority_walk (A : Option Addr) (n c : Nat) (bs : List Int) (B : Option Addr) (m d : Nat) (cs : List Int) (w : World) (hc : n ≤ c) (hcm : c ≤ 9223372036854775807) (hb : Bytes w w.heap.size A n bs) (hd : m ≤ d) (hdm : d ≤ 9223372036854775807) (hb' : Bytes w w.heap.size B m cs) :
    Calls Try.prog 5 #[.slice A n c, .slice B m d] w fun e w' => e = .returned (.bool true) ∧ Below w.heap.size w w' := by
  by_cases hn : 1048576 < n
  · go_enter Try.func5, Try.ntmps5
    go_wp2
    go_ret
    exact ⟨rfl, Below.refl _ _⟩
  by_cases hm : 1048576 < m
  · go_enter Try.func5, Try.ntmps5
    go_wp2
    go_ret
    exact ⟨rfl, Below.refl _ _⟩
  go_enter Try.func5, Try.ntmps5
  have HB0 : Below w.heap.size w w := Below.refl _ _
  go_wp2_with fail
  refine (drawViewMajority_any _ _ _ _ _ hb (by omega) hc hcm).mono ?_
  rintro e w1 ⟨q1, A1, n1, c1, xs1, As, ns, cs, xss, rfl, o1, os, hn1, hns, hb1⟩
  have z1 : w.heap.size ≤ w1.heap.size := by have := hb1.size; simpa using this
  have st1 : Below w.heap.size w w1 := (by repeat' (first | with_reducible exact Below.refl _ _ | with_reducible refine Below.alloc ?_ (by first | omega | (simp; done) | (simp; omega)) _ | with_reducible refine below_drewN ?_ _ | with_reducible refine Below.drew ?_ | with_reducible refine Below.setCell ?_ (by first | omega | (simp; done) | (simp; omega)) _ | with_reducible refine Below.trans ?_ (Below.mono hb1 (by first | omega | (simp; done) | (simp; omega)))))
  have HB1 : Below w.heap.size w w1 := HB0.trans (st1.mono HB0.size)
  clear HB0
  clear st1
  replace o1 := (rowI o1).mono (b' := w.heap.size) (by first | omega | (simp; done) | (simp; omega)) (Nat.le_refl _)
  replace os := (rowI os).mono (b' := w.heap.size) (by first | omega | (simp; done) | (simp; omega)) (Nat.le_refl _)
  have ln1 := Lib.hid o1.len; have lns := Lib.hid os.len
  have hne : (majB q1 xs1 xss != majB q1 xs1 xss) = false := by simp
  have heq : (majB q1 xs1 xss == majB q1 xs1 xss) = true := by simp
  go_wp2_with fail
  refine (implMajority_any _ _ _ _ _ _ q1 xs1 xss _ ((o1.ints (B := w1.heap.size) (by omega)).box _) ((os.ints (B := w1.heap.size) (by omega)).box _) (by omega) (by omega)).mono ?_
  rintro e w2 ⟨rfl, hb2⟩
  have z2 : w1.heap.size + 1 ≤ w2.heap.size := by have := hb2.size; simpa using this
  have st2 : Below w1.heap.size w1 w2 := (by repeat' (first | with_reducible exact Below.refl _ _ | with_reducible refine Below.alloc ?_ (by first | omega | (simp; done) | (simp; omega)) _ | with_reducible refine below_drewN ?_ _ | with_reducible refine Below.drew ?_ | with_reducible refine Below.setCell ?_ (by first | omega | (simp; done) | (simp; omega)) _ | with_reducible refine Below.trans ?_ (Below.mono hb2 (by first | omega | (simp; done) | (simp; omega)))))
  have HB2 : Below w.heap.size w w2 := HB1.trans (st2.mono HB1.size)
  have p1 : Blk w2 (w1.heap.size) 27 #[.int .i64 (q1), .slice A1 n1 c1] := by simpa using (Blk.new w1 27 #[.int .i64 (q1), .slice A1 n1 c1]).below hb2 (by simp)
  replace o1 := o1.keep (same_of_below st2 (by omega))
  replace os := os.keep (same_of_below st2 (by omega))
  clear HB1
  clear st2
  have fp1 := p1.two; have lp1 := p1.lt
  go_wp2_with fail
  refine (specMajority_any _ _ _ _ _ _ q1 xs1 xss _ (o1.ints (B := w2.heap.size) (by omega)) (os.ints (B := w2.heap.size) (by omega)) (by omega) (by omega)).mono ?_
  rintro e w3 ⟨rfl, hb3⟩
  clear fp1 lp1
  have z3 : w2.heap.size ≤ w3.heap.size := by have := hb3.size; simpa using this
  have st3 : Below w2.heap.size w2 w3 := (by repeat' (first | with_reducible exact Below.refl _ _ | with_reducible refine Below.alloc ?_ (by first | omega | (simp; done) | (simp; omega)) _ | with_reducible refine below_drewN ?_ _ | with_reducible refine Below.drew ?_ | with_reducible refine Below.setCell ?_ (by first | omega | (simp; done) | (simp; omega)) _ | with_reducible refine Below.trans ?_ (Below.mono hb3 (by first | omega | (simp; done) | (simp; omega)))))
  have HB3 : Below w.heap.size w w3 := HB2.trans (st3.mono HB2.size)
  replace p1 := p1.below st3 p1.lt
  replace o1 := o1.keep (same_of_below st3 (by omega))
  replace os := os.keep (same_of_below st3 (by omega))
  clear HB2
  clear st3
  have fp1 := p1.two; have lp1 := p1.lt
  cases hM : majB q1 xs1 xss
  · go_wp2
    go_ret
    exact ⟨rfl, HB3⟩
  · have HM := Lib.hid hM
    have hv := (maj_true hM).1
    have hn8 : n1 ≤ 8 := by have := vv_len hv; have := ln1.out; omega
    have HV := Lib.hid hv
    clear hM hv hne heq
    go_wp2_with fail
    go_loopw [9, 10, 11] (fun s b i wr => ∃ (k : Nat) (bi : Int) (A2 : Option Addr) (n2 c2 : Nat) (xs2 : List Int), k ≤ n1 ∧ i = .int .i64 k ∧ b = .int .i64 bi ∧ 0 ≤ bi ∧ bi ≤ 100000000 ∧ s = .slice A2 n2 c2 ∧ n2 ≤ k ∧ Hid (xs2.Sublist (xs1.take k)) ∧ Own wr (w3.heap.size) A2 n2 c2 xs2 ∧ Below w.heap.size w wr ∧ w3.heap.size ≤ wr.heap.size ∧ Blk wr (w1.heap.size) 27 #[.int .i64 (q1), .slice A1 n1 c1] ∧ RowI wr (w.heap.size) (w1.heap.size) A1 n1 c1 (xs1) ∧ RowI wr (w.heap.size) (w1.heap.size) As ns cs (xss)) (fun _ _ i _ => n1 - (intOf i).toNat)
    case atStart => exact ⟨0, (m : Int) * 37 + (ns : Int), _, 0, _, [], by omega, rfl, rfl, by omega, by omega, rfl, by omega, Lib.hid (by simp), by (refine Own.lit0 ?_ ?_ <;> first | omega | (simp; done) | (simp; omega)), HB3.alloc HB3.size _, by simp, p1.alloc _, o1.keep (Same.alloc (by omega) _), os.keep (Same.alloc (by omega) _)⟩
    case round =>
      clear fp1 lp1
      clear HB3 p1 o1 os
      obtain ⟨k, bi, A2, n2, c2, xs2, hk, rfl, rfl, hb0, hb9, rfl, hn2, hsub, o2, hbw, hzw, p1, o1, os⟩ := hrel
      have fp1 := p1.two; have lp1 := p1.lt
      by_cases hlt : k < n1
      · obtain ⟨ad, x, rfl, _, hcx, hx1, hs⟩ := (o1.ints (B := wr.heap.size) (by omega)).elem hlt
        have hr0 : 0 ≤ (bi * 29 + 7) % 1009 := by omega
        have hr9 : (bi * 29 + 7) % 1009 ≤ 1008 := by omega
        by_cases hbit : 0 < (bi * 29 + 7) % 1009 % 3
        · go_wp2_with (at_builtin; refine app1 rfl _ _ rfl (w3.heap.size) rfl (o2.alloc _) _ _ _ _ [x] rfl (Ints.one' _ (by first | omega | (simp; done) | (simp; omega))) (by omega) (by simp; omega) ?_; intro A3 c3 w7 o3 hg3 at3)
          have hrow : ∀ j, blk A2 = some j → w3.heap.size ≤ j := fun j hj => (o2.lt hj).1
          have hg3s := hg3.size
          simp at hg3s
          go_roundw
          case rel => exact ⟨k + 1, (bi * 29 + 7) % 1009, A3, n2 + 1, c3, _, by omega, by go_num, by first | rfl | go_num, by omega, by omega, rfl, by omega, Lib.hid (sub_yes hsub.out hs.out), o3, Below.grown (hbw.alloc hbw.size _) hg3 (by simp; omega) (fun j hj => by have := hrow j hj; omega), by omega, Blk.grown (p1.alloc _) hg3 (fun e => by have := hrow _ e.symm; omega), (o1.alloc1 (by omega) _).grown1 hg3 (by simp; omega) (fun j hj => by have := hrow j hj; omega), (os.alloc1 (by omega) _).grown1 hg3 (by simp; omega) (fun j hj => by have := hrow j hj; omega)⟩
          case measure => simp [intOf]; omega
        · go_wp2
          go_roundw
          case rel => exact ⟨k + 1, (bi * 29 + 7) % 1009, A2, n2, c2, xs2, by omega, by go_num, by first | rfl | go_num, by omega, by omega, rfl, by omega, Lib.hid (sub_no hsub.out hs.out), o2, hbw, hzw, p1, o1, os⟩
          case measure => simp [intOf]; omega
      · obtain rfl : k = n1 := by omega
        have l2 := Lib.hid o2.len
        have hsub' : xs2.Sublist xs1 := by have h := hsub.out; rwa [List.take_of_length_le (by rw [ln1.out]; exact Nat.le_refl _)] at h
        have hmj := maj_sub HV.out hsub'
        rw [ln1.out, l2.out] at hmj
        clear hsub hsub'
        replace o2 := rowI o2
        go_wp2_with fail
        refine (implMajority_any _ _ _ _ _ _ q1 xs1 xs2 _ (o1.ints (B := wr.heap.size) (by omega)) (o2.ints (B := wr.heap.size) (by omega)) (by omega) (by omega)).mono ?_
        rintro e w4 ⟨rfl, hb4⟩
        clear fp1 lp1
        have z4 : wr.heap.size ≤ w4.heap.size := by have := hb4.size; simpa using this
        have st4 : Below wr.heap.size wr w4 := (by repeat' (first | with_reducible exact Below.refl _ _ | with_reducible refine Below.alloc ?_ (by first | omega | (simp; done) | (simp; omega)) _ | with_reducible refine below_drewN ?_ _ | with_reducible refine Below.drew ?_ | with_reducible refine Below.setCell ?_ (by first | omega | (simp; done) | (simp; omega)) _ | with_reducible refine Below.trans ?_ (Below.mono hb4 (by first | omega | (simp; done) | (simp; omega)))))
        have HB4 : Below w.heap.size w w4 := hbw.trans (st4.mono hbw.size)
        replace p1 := p1.below st4 p1.lt
        replace o1 := o1.keep (same_of_below st4 (by omega))
        replace os := os.keep (same_of_below st4 (by omega))
        replace o2 := o2.keep (same_of_below st4 (by omega))
        clear hbw
        clear st4
        have fp1 := p1.two; have lp1 := p1.lt
        rcases (by omega : 2 * n2 ≤ k ∨ k < 2 * n2) with h2 | h2
        · have h2' : (2 : Int) * (n2 : Int) ≤ (k : Int) := by omega
          have hmj' : majB q1 xs1 xs2 = false := by rw [hmj]; simp; omega
          clear hmj
          rw [hmj']
          clear hmj'
          go_wp2
          go_ret
          exact ⟨rfl, HB4⟩
        · have hmj' : majB q1 xs1 xs2 = true := by rw [hmj]; simp; omega
          have HM2 := Lib.hid hmj'
          clear hmj
          rw [hmj']
          clear hmj'
          have RS := os.ints (B := w4.heap.size) (by omega)
          have R2 := o2.ints (B := w4.heap.size) (by omega)
          go_wp2_with fail
          go_loop [12] (fun i => ∃ j : Nat, j ≤ ns ∧ i = .int .i64 j ∧ Hid (∀ y ∈ xss.take j, hasB xs2 y = false)) (fun i => ns - (intOf i).toNat)
          case atStart => exact ⟨0, Nat.zero_le _, rfl, Lib.hid (by simp)⟩
          case round =>
            obtain ⟨j, hj, rfl, hno⟩ := hrel
            by_cases hlt2 : j < ns
            · obtain ⟨ad, y, rfl, _, hcy, hy1, hys⟩ := RS.elem hlt2
              cases hh : hasB xs2 y
              all_goals
                go_wp2_with (go_at_call 16; refine (hasInt_any _ _ _ w4.heap.size xs2 _ _ R2 (by omega)).mono ?_; rintro e w9 ⟨rfl, rfl⟩)
                first
                  | (go_ret; exact ⟨rfl, HB4⟩)
                  | (go_round
                     case rel => exact ⟨j + 1, by omega, by go_num, Lib.hid (none_snoc hys.out hno.out hh)⟩
                     case measure => simp [intOf]; omega)
            · obtain rfl : j = ns := by omega
              exact (maj_meet HM.out HM2.out (by have h := hno.out; rwa [List.take_of_length_le (by rw [lns.out]; exact Nat.le_refl _)] at h)).elim
end Go.Proofs.Ytmjacdcefaohcaa
