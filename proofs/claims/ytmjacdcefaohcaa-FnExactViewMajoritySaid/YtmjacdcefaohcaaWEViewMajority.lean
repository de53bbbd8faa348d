/-
  The walk of FnExactViewMajority: the law returns true and writes nothing that was there.
-/
import Derived.Test.YtmjacdcefaohcaaVK
import Derived.Test.YtmjacdcefaohcaaV4
import Derived.Deep.RegionHeld3
namespace Go.Proofs.Ytmjacdcefaohcaa
open Go.RowKit
set_option linter.unusedVariables false

set_option maxHeartbeats 4000000 in
theorem exViewMajority_walk (q0 : Int) (A0 : Option Addr) (n0 c0 : Nat) (xs0 : List Int) (A1 : Option Addr) (n1 c1 : Nat) (xs1 : List Int) (w : World) (wf0 : (Lit.int .i64 q0).wf = true) (hn0 : n0 ≤ 9223372036854775807) (hx0 : Ints w w.heap.size A0 n0 xs0) (hn1 : n1 ≤ 9223372036854775807) (hx1 : Ints w w.heap.size A1 n1 xs1) :
    Calls Try.prog 4 #[.agg #[.int .i64 q0, .slice A0 n0 c0], .slice A1 n1 c1] w fun e w' => e = .returned (.bool true) ∧ Below w.heap.size w w' := by
  have p0 := Blk.new w 24 #[.int .i64 (q0), .slice A0 n0 c0]
  by_cases hln1 : 1048576 < n1
  · go_enter Try.func4, Try.ntmps4
    go_wp2
    go_ret
    exact ⟨rfl, (by repeat' (first | with_reducible exact Below.refl _ _ | with_reducible assumption | with_reducible refine Below.setCell ?_ (by first | omega | (simp; done) | (simp; omega)) _ | with_reducible refine Below.alloc ?_ (by first | omega | (simp; done) | (simp; omega)) _ | with_reducible refine below_drewN ?_ _ | with_reducible refine Below.drew ?_ | (with_reducible refine Below.trans ?_ (Below.mono (by with_reducible assumption) (by first | omega | (simp; done) | (simp; omega))))))⟩
  by_cases hsz0 : 1048576 < n0
  · go_enter Try.func4, Try.ntmps4
    go_wp2_with fail
    refine (szView_no _ _ _ _ _ _ (by omega) (by omega) hn0 (by omega)).mono ?_
    rintro e w1 ⟨rfl, hb1⟩
    have hs1 := hb1.size
    try simp at hs1
    go_wp2
    go_ret
    exact ⟨rfl, (by repeat' (first | with_reducible exact Below.refl _ _ | with_reducible assumption | with_reducible refine Below.setCell ?_ (by first | omega | (simp; done) | (simp; omega)) _ | with_reducible refine Below.alloc ?_ (by first | omega | (simp; done) | (simp; omega)) _ | with_reducible refine below_drewN ?_ _ | with_reducible refine Below.drew ?_ | (with_reducible refine Below.trans ?_ (Below.mono (by with_reducible assumption) (by first | omega | (simp; done) | (simp; omega))))))⟩
  have hsz' : n0 ≤ 1048576 := by omega
  have hne : (majB q0 xs0 xs1 != majB q0 xs0 xs1) = false := by simp
  go_enter Try.func4, Try.ntmps4
  go_wp2_with fail
  refine (szView_yes _ _ _ _ _ _ (by omega) (by omega)).mono ?_
  rintro e w1 ⟨rfl, hb1⟩
  have z1 : w.heap.size + 1 ≤ w1.heap.size := by have := hb1.size; simpa using this
  have HB1 : Below w.heap.size w w1 := (by repeat' (first | with_reducible exact Below.refl _ _ | with_reducible refine Below.alloc ?_ (by first | omega | (simp; done) | (simp; omega)) _ | with_reducible refine below_drewN ?_ _ | with_reducible refine Below.drew ?_ | with_reducible refine Below.setCell ?_ (by first | omega | (simp; done) | (simp; omega)) _ | with_reducible refine Below.trans ?_ (Below.mono hb1 (by first | omega | (simp; done) | (simp; omega)))))
  replace p0 := p0.below hb1 (by simp)
  have fp0 := p0.two; have lp0 := p0.lt
  go_wp2_with fail
  refine (toView_any _ _ _ q0 xs0 _ (hx0.up HB1 HB1.size) (by omega)).mono ?_
  rintro e w2 ⟨Aa0, na0, ca0, rfl, oa0, hb2⟩
  clear fp0 lp0
  have z2 : w1.heap.size ≤ w2.heap.size := by have := hb2.size; simpa using this
  have st2 : Below w1.heap.size w1 w2 := (by repeat' (first | with_reducible exact Below.refl _ _ | with_reducible refine Below.alloc ?_ (by first | omega | (simp; done) | (simp; omega)) _ | with_reducible refine below_drewN ?_ _ | with_reducible refine Below.drew ?_ | with_reducible refine Below.setCell ?_ (by first | omega | (simp; done) | (simp; omega)) _ | with_reducible refine Below.trans ?_ (Below.mono hb2 (by first | omega | (simp; done) | (simp; omega)))))
  have HB2 : Below w.heap.size w w2 := HB1.trans (st2.mono HB1.size)
  replace p0 := p0.below st2 p0.lt
  clear HB1
  clear st2
  have fp0 := p0.two; have lp0 := p0.lt
  replace oa0 := (rowI oa0).mono (b' := w1.heap.size) (by first | omega | (simp; done) | (simp; omega)) (Nat.le_refl _)
  go_wp2_with fail
  refine (toIntS_r _ _ _ xs1 _ (hx1.up HB2 HB2.size) (by omega)).mono ?_
  rintro e w3 ⟨Aa1, na1, ca1, rfl, oa1, hb3⟩
  clear fp0 lp0
  have z3 : w2.heap.size ≤ w3.heap.size := by have := hb3.size; simpa using this
  have st3 : Below w2.heap.size w2 w3 := (by repeat' (first | with_reducible exact Below.refl _ _ | with_reducible refine Below.alloc ?_ (by first | omega | (simp; done) | (simp; omega)) _ | with_reducible refine below_drewN ?_ _ | with_reducible refine Below.drew ?_ | with_reducible refine Below.setCell ?_ (by first | omega | (simp; done) | (simp; omega)) _ | with_reducible refine Below.trans ?_ (Below.mono hb3 (by first | omega | (simp; done) | (simp; omega)))))
  have HB3 : Below w.heap.size w w3 := HB2.trans (st3.mono HB2.size)
  replace p0 := p0.below st3 p0.lt
  replace oa0 := oa0.keep (same_of_below st3 (by omega))
  clear HB2
  clear st3
  have fp0 := p0.two; have lp0 := p0.lt
  replace oa1 := (rowI oa1).mono (b' := w2.heap.size) (by first | omega | (simp; done) | (simp; omega)) (Nat.le_refl _)
  go_wp2_with fail
  refine (specMajority_any _ _ _ _ _ _ q0 xs0 xs1 _ (oa0.ints (B := w3.heap.size) (by omega)) (oa1.ints (B := w3.heap.size) (by omega)) (by have := (oa0).len; have := (hx0).len; omega) (by have := (oa1).len; have := (hx1).len; omega)).mono ?_
  rintro e w4 ⟨rfl, hb4⟩
  clear fp0 lp0
  have z4 : w3.heap.size ≤ w4.heap.size := by have := hb4.size; simpa using this
  have st4 : Below w3.heap.size w3 w4 := (by repeat' (first | with_reducible exact Below.refl _ _ | with_reducible refine Below.alloc ?_ (by first | omega | (simp; done) | (simp; omega)) _ | with_reducible refine below_drewN ?_ _ | with_reducible refine Below.drew ?_ | with_reducible refine Below.setCell ?_ (by first | omega | (simp; done) | (simp; omega)) _ | with_reducible refine Below.trans ?_ (Below.mono hb4 (by first | omega | (simp; done) | (simp; omega)))))
  have HB4 : Below w.heap.size w w4 := HB3.trans (st4.mono HB3.size)
  replace p0 := p0.below st4 p0.lt
  replace oa0 := oa0.keep (same_of_below st4 (by omega))
  replace oa1 := oa1.keep (same_of_below st4 (by omega))
  clear HB3
  clear st4
  have fp0 := p0.two; have lp0 := p0.lt
  clear oa0
  clear oa1
  go_wp2_with fail
  refine (toView_any _ _ _ q0 xs0 _ (hx0.up HB4 HB4.size) (by omega)).mono ?_
  rintro e w5 ⟨Ax0, nx0, cx0, rfl, ox0, hb5⟩
  clear fp0 lp0
  have z5 : w4.heap.size ≤ w5.heap.size := by have := hb5.size; simpa using this
  have st5 : Below w4.heap.size w4 w5 := (by repeat' (first | with_reducible exact Below.refl _ _ | with_reducible refine Below.alloc ?_ (by first | omega | (simp; done) | (simp; omega)) _ | with_reducible refine below_drewN ?_ _ | with_reducible refine Below.drew ?_ | with_reducible refine Below.setCell ?_ (by first | omega | (simp; done) | (simp; omega)) _ | with_reducible refine Below.trans ?_ (Below.mono hb5 (by first | omega | (simp; done) | (simp; omega)))))
  have HB5 : Below w.heap.size w w5 := HB4.trans (st5.mono HB4.size)
  replace p0 := p0.below st5 p0.lt
  clear HB4
  clear st5
  have fp0 := p0.two; have lp0 := p0.lt
  replace ox0 := (rowI ox0).mono (b' := w4.heap.size) (by first | omega | (simp; done) | (simp; omega)) (Nat.le_refl _)
  go_wp2_with fail
  refine (toIntS_r _ _ _ xs1 _ ((hx1.up HB5 HB5.size).box _) (by omega)).mono ?_
  rintro e w6 ⟨Ax1, nx1, cx1, rfl, ox1, hb6⟩
  clear fp0 lp0
  have z6 : w5.heap.size + 1 ≤ w6.heap.size := by have := hb6.size; simpa using this
  have st6 : Below w5.heap.size w5 w6 := (by repeat' (first | with_reducible exact Below.refl _ _ | with_reducible refine Below.alloc ?_ (by first | omega | (simp; done) | (simp; omega)) _ | with_reducible refine below_drewN ?_ _ | with_reducible refine Below.drew ?_ | with_reducible refine Below.setCell ?_ (by first | omega | (simp; done) | (simp; omega)) _ | with_reducible refine Below.trans ?_ (Below.mono hb6 (by first | omega | (simp; done) | (simp; omega)))))
  have HB6 : Below w.heap.size w w6 := HB5.trans (st6.mono HB5.size)
  replace p0 := p0.below st6 p0.lt
  have px0 : Blk w6 (w5.heap.size) 27 #[.int .i64 (q0), .slice Ax0 nx0 cx0] := by simpa using (Blk.new w5 27 #[.int .i64 (q0), .slice Ax0 nx0 cx0]).below hb6 (by simp)
  replace ox0 := ox0.keep (same_of_below st6 (by omega))
  clear HB5
  clear st6
  have fp0 := p0.two; have lp0 := p0.lt
  have fpx0 := px0.two; have lpx0 := px0.lt
  replace ox1 := (rowI ox1).mono (b' := w5.heap.size + 1) (by first | omega | (simp; done) | (simp; omega)) (Nat.le_refl _)
  go_wp2_with fail
  refine (implMajority_any _ _ _ _ _ _ q0 xs0 xs1 _ (ox0.ints (B := w6.heap.size) (by omega)) (ox1.ints (B := w6.heap.size) (by omega)) (by have := (ox0).len; have := (hx0).len; omega) (by have := (ox1).len; have := (hx1).len; omega)).mono ?_
  rintro e w7 ⟨rfl, hb7⟩
  clear fp0 lp0 fpx0 lpx0
  have z7 : w6.heap.size ≤ w7.heap.size := by have := hb7.size; simpa using this
  have st7 : Below w6.heap.size w6 w7 := (by repeat' (first | with_reducible exact Below.refl _ _ | with_reducible refine Below.alloc ?_ (by first | omega | (simp; done) | (simp; omega)) _ | with_reducible refine below_drewN ?_ _ | with_reducible refine Below.drew ?_ | with_reducible refine Below.setCell ?_ (by first | omega | (simp; done) | (simp; omega)) _ | with_reducible refine Below.trans ?_ (Below.mono hb7 (by first | omega | (simp; done) | (simp; omega)))))
  have HB7 : Below w.heap.size w w7 := HB6.trans (st7.mono HB6.size)
  replace p0 := p0.below st7 p0.lt
  replace px0 := px0.below st7 px0.lt
  replace ox0 := ox0.keep (same_of_below st7 (by omega))
  replace ox1 := ox1.keep (same_of_below st7 (by omega))
  clear HB6
  clear st7
  have fp0 := p0.two; have lp0 := p0.lt
  have fpx0 := px0.two; have lpx0 := px0.lt
  go_wp2_with fail
  go_region_held3 (fun w' => w'.cell? ⟨w5.heap.size, 0, none⟩ = some (.int .i64 (q0)) ∧ w'.cell? ⟨w5.heap.size, 1, none⟩ = some (.slice Ax0 nx0 cx0) ∧ w'.cell? ⟨w.heap.size, 0, none⟩ = some (.int .i64 (q0)) ∧ w'.cell? ⟨w.heap.size, 1, none⟩ = some (.slice A0 n0 c0))
    (first
      | exact ⟨fpx0.1, fpx0.2.1, fp0.1, fp0.2.1⟩
      | exact ⟨gpx0.1, gpx0.2.1, gp0.1, gp0.2.1⟩
      | exact ⟨kpx0.1, kpx0.2.1, kp0.1, kp0.2.1⟩)
    (first
      | (go_at_call 8; refine (toView_any _ _ _ q0 xs0 _ (hx0.up (by repeat' (first | with_reducible exact Below.refl _ _ | with_reducible assumption | with_reducible refine Below.setCell ?_ (by first | omega | (simp; done) | (simp; omega)) _ | with_reducible refine Below.alloc ?_ (by first | omega | (simp; done) | (simp; omega)) _ | with_reducible refine below_drewN ?_ _ | with_reducible refine Below.drew ?_ | (with_reducible refine Below.trans ?_ (Below.mono (by with_reducible assumption) (by first | omega | (simp; done) | (simp; omega)))))) (by first | omega | (simp; done) | (simp; omega))) (by omega)).mono ?_; rintro e w8 ⟨Ay0, ny0, cy0, rfl, oy0, hb8⟩; have z8 : w7.heap.size ≤ w8.heap.size := hb8.size; have st8 : Below w7.heap.size w7 w8 := (by repeat' (first | with_reducible exact Below.refl _ _ | with_reducible refine Below.alloc ?_ (by first | omega | (simp; done) | (simp; omega)) _ | with_reducible refine below_drewN ?_ _ | with_reducible refine Below.drew ?_ | with_reducible refine Below.setCell ?_ (by first | omega | (simp; done) | (simp; omega)) _ | with_reducible refine Below.trans ?_ (Below.mono hb8 (by first | omega | (simp; done) | (simp; omega))))); have gpx0 := (px0.below st8 (by omega)).two; have gp0 := (p0.below st8 (by omega)).two)
      | (go_at_call 10; refine (eqView_same _ _ _ q0 xs0 _ _ _ _ ((ox0.keep (same_of_below st8 (by omega))).ints (by omega)) oy0.ints (by have := (ox0).len; have := (hx0).len; omega) (by have := (oy0).len; have := (hx0).len; omega)).mono ?_; rintro e w9 ⟨rfl, hb9⟩; have z9 : w8.heap.size ≤ w9.heap.size := hb9.size; have st9 : Below w7.heap.size w7 w9 := st8.trans (((by repeat' (first | with_reducible exact Below.refl _ _ | with_reducible refine Below.alloc ?_ (by first | omega | (simp; done) | (simp; omega)) _ | with_reducible refine below_drewN ?_ _ | with_reducible refine Below.drew ?_ | with_reducible refine Below.setCell ?_ (by first | omega | (simp; done) | (simp; omega)) _ | with_reducible refine Below.trans ?_ (Below.mono hb9 (by first | omega | (simp; done) | (simp; omega))))) : Below w8.heap.size w8 w9).mono z8); have kpx0 := (px0.below st9 (by omega)).two; have kp0 := (p0.below st9 (by omega)).two))
  clear fp0 lp0 fpx0 lpx0
  clear gpx0 gp0 kpx0 kp0 oy0 hb8 hb9 st8
  have HB9 : Below w.heap.size w w9 := HB7.trans (st9.mono HB7.size)
  replace p0 := p0.below st9 p0.lt
  replace px0 := px0.below st9 px0.lt
  replace ox0 := ox0.keep (same_of_below st9 (by omega))
  replace ox1 := ox1.keep (same_of_below st9 (by omega))
  clear HB7
  clear st9
  have fp0 := p0.two; have lp0 := p0.lt
  have fpx0 := px0.two; have lpx0 := px0.lt
  go_wp2_with fail
  refine (toIntS_r _ _ _ xs1 _ (hx1.up HB9 HB9.size) (by omega)).mono ?_
  rintro e w10 ⟨Ay1, ny1, cy1, rfl, oy1, hb10⟩
  clear fp0 lp0 fpx0 lpx0
  have z10 : w9.heap.size ≤ w10.heap.size := by have := hb10.size; simpa using this
  have st10 : Below w9.heap.size w9 w10 := (by repeat' (first | with_reducible exact Below.refl _ _ | with_reducible refine Below.alloc ?_ (by first | omega | (simp; done) | (simp; omega)) _ | with_reducible refine below_drewN ?_ _ | with_reducible refine Below.drew ?_ | with_reducible refine Below.setCell ?_ (by first | omega | (simp; done) | (simp; omega)) _ | with_reducible refine Below.trans ?_ (Below.mono hb10 (by first | omega | (simp; done) | (simp; omega)))))
  have HB10 : Below w.heap.size w w10 := HB9.trans (st10.mono HB9.size)
  replace p0 := p0.below st10 p0.lt
  replace px0 := px0.below st10 px0.lt
  replace ox0 := ox0.keep (same_of_below st10 (by omega))
  replace ox1 := ox1.keep (same_of_below st10 (by omega))
  clear HB9
  clear st10
  have fp0 := p0.two; have lp0 := p0.lt
  have fpx0 := px0.two; have lpx0 := px0.lt
  replace oy1 := (rowI oy1).mono (b' := w9.heap.size) (by first | omega | (simp; done) | (simp; omega)) (Nat.le_refl _)
  go_wp2_with fail
  refine (eqIntS_same _ _ _ _ _ _ (xs1)  _ (ox1.ints (B := w10.heap.size) (by omega)) (oy1.ints (B := w10.heap.size) (by omega)) (by have := (ox1).len; have := (hx1).len; omega) (by have := (oy1).len; have := (hx1).len; omega)).mono ?_
  rintro e w11 ⟨rfl, hb11⟩
  clear fp0 lp0 fpx0 lpx0
  have z11 : w10.heap.size ≤ w11.heap.size := by have := hb11.size; simpa using this
  have st11 : Below w10.heap.size w10 w11 := (by repeat' (first | with_reducible exact Below.refl _ _ | with_reducible refine Below.alloc ?_ (by first | omega | (simp; done) | (simp; omega)) _ | with_reducible refine below_drewN ?_ _ | with_reducible refine Below.drew ?_ | with_reducible refine Below.setCell ?_ (by first | omega | (simp; done) | (simp; omega)) _ | with_reducible refine Below.trans ?_ (Below.mono hb11 (by first | omega | (simp; done) | (simp; omega)))))
  have HB11 : Below w.heap.size w w11 := HB10.trans (st11.mono HB10.size)
  replace p0 := p0.below st11 p0.lt
  replace px0 := px0.below st11 px0.lt
  replace ox0 := ox0.keep (same_of_below st11 (by omega))
  replace ox1 := ox1.keep (same_of_below st11 (by omega))
  replace oy1 := oy1.keep (same_of_below st11 (by omega))
  clear HB10
  clear st11
  have fp0 := p0.two; have lp0 := p0.lt
  have fpx0 := px0.two; have lpx0 := px0.lt
  clear oy1
  go_wp2
  go_ret
  exact ⟨rfl, HB11⟩
end Go.Proofs.Ytmjacdcefaohcaa
