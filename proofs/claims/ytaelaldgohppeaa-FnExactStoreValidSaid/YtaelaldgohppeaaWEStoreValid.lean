/-
  The walk of FnExactStoreValid: the law returns true and writes nothing that was there.
-/
import Derived.Test.YtaelaldgohppeaaS1
import Derived.Deep.RegionHeld3
namespace Go.Proofs.Ytaelaldgohppeaa
open Go.RowKit
set_option linter.unusedVariables false

set_option maxHeartbeats 4000000 in
theorem exStoreValid_walk (A0 : Option Addr) (n0 c0 : Nat) (xs0 : List Int) (w : World) (hn0 : n0 ≤ 9223372036854775807) (hx0 : Ints w w.heap.size A0 n0 xs0) :
    Calls Try.prog 3 #[.slice A0 n0 c0] w fun e w' => e = .returned (.bool true) ∧ Below w.heap.size w w' := by
  by_cases hln0 : 1048576 < n0
  · go_enter Try.func3, Try.ntmps3
    go_wp2
    go_ret
    exact ⟨rfl, (by repeat' (first | with_reducible exact Below.refl _ _ | with_reducible assumption | with_reducible refine Below.setCell ?_ (by first | omega | (simp; done) | (simp; omega)) _ | with_reducible refine Below.alloc ?_ (by first | omega | (simp; done) | (simp; omega)) _ | with_reducible refine below_drewN ?_ _ | with_reducible refine Below.drew ?_ | (with_reducible refine Below.trans ?_ (Below.mono (by with_reducible assumption) (by first | omega | (simp; done) | (simp; omega))))))⟩
  have hne : (svB xs0 != svB xs0) = false := by simp
  go_enter Try.func3, Try.ntmps3
  have HB0 : Below w.heap.size w w := Below.refl _ _
  go_wp2_with fail
  refine (toIntS_r _ _ _ xs0 _ (hx0.up HB0 HB0.size) (by omega)).mono ?_
  rintro e w1 ⟨Aa0, na0, ca0, rfl, oa0, hb1⟩
  have z1 : w.heap.size ≤ w1.heap.size := by have := hb1.size; simpa using this
  have st1 : Below w.heap.size w w1 := (by repeat' (first | with_reducible exact Below.refl _ _ | with_reducible refine Below.alloc ?_ (by first | omega | (simp; done) | (simp; omega)) _ | with_reducible refine below_drewN ?_ _ | with_reducible refine Below.drew ?_ | with_reducible refine Below.setCell ?_ (by first | omega | (simp; done) | (simp; omega)) _ | with_reducible refine Below.trans ?_ (Below.mono hb1 (by first | omega | (simp; done) | (simp; omega)))))
  have HB1 : Below w.heap.size w w1 := HB0.trans (st1.mono HB0.size)
  clear HB0
  clear st1
  replace oa0 := (rowI oa0).mono (b' := w.heap.size) (by first | omega | (simp; done) | (simp; omega)) (Nat.le_refl _)
  go_wp2_with fail
  refine (specSV_any _ _ _ xs0 _ (oa0.ints (B := w1.heap.size) (by omega)) (by have := (oa0).len; have := (hx0).len; omega)).mono ?_
  rintro e w2 ⟨rfl, hb2⟩
  have z2 : w1.heap.size ≤ w2.heap.size := by have := hb2.size; simpa using this
  have st2 : Below w1.heap.size w1 w2 := (by repeat' (first | with_reducible exact Below.refl _ _ | with_reducible refine Below.alloc ?_ (by first | omega | (simp; done) | (simp; omega)) _ | with_reducible refine below_drewN ?_ _ | with_reducible refine Below.drew ?_ | with_reducible refine Below.setCell ?_ (by first | omega | (simp; done) | (simp; omega)) _ | with_reducible refine Below.trans ?_ (Below.mono hb2 (by first | omega | (simp; done) | (simp; omega)))))
  have HB2 : Below w.heap.size w w2 := HB1.trans (st2.mono HB1.size)
  replace oa0 := oa0.keep (same_of_below st2 (by omega))
  clear HB1
  clear st2
  clear oa0
  go_wp2_with fail
  refine (toIntS_r _ _ _ xs0 _ (hx0.up HB2 HB2.size) (by omega)).mono ?_
  rintro e w3 ⟨Ax0, nx0, cx0, rfl, ox0, hb3⟩
  have z3 : w2.heap.size ≤ w3.heap.size := by have := hb3.size; simpa using this
  have st3 : Below w2.heap.size w2 w3 := (by repeat' (first | with_reducible exact Below.refl _ _ | with_reducible refine Below.alloc ?_ (by first | omega | (simp; done) | (simp; omega)) _ | with_reducible refine below_drewN ?_ _ | with_reducible refine Below.drew ?_ | with_reducible refine Below.setCell ?_ (by first | omega | (simp; done) | (simp; omega)) _ | with_reducible refine Below.trans ?_ (Below.mono hb3 (by first | omega | (simp; done) | (simp; omega)))))
  have HB3 : Below w.heap.size w w3 := HB2.trans (st3.mono HB2.size)
  clear HB2
  clear st3
  replace ox0 := (rowI ox0).mono (b' := w2.heap.size) (by first | omega | (simp; done) | (simp; omega)) (Nat.le_refl _)
  go_wp2_with fail
  refine (implSV_any _ _ _ xs0 _ (ox0.ints (B := w3.heap.size) (by omega)) (by have := (ox0).len; have := (hx0).len; omega)).mono ?_
  rintro e w4 ⟨rfl, hb4⟩
  have z4 : w3.heap.size ≤ w4.heap.size := by have := hb4.size; simpa using this
  have st4 : Below w3.heap.size w3 w4 := (by repeat' (first | with_reducible exact Below.refl _ _ | with_reducible refine Below.alloc ?_ (by first | omega | (simp; done) | (simp; omega)) _ | with_reducible refine below_drewN ?_ _ | with_reducible refine Below.drew ?_ | with_reducible refine Below.setCell ?_ (by first | omega | (simp; done) | (simp; omega)) _ | with_reducible refine Below.trans ?_ (Below.mono hb4 (by first | omega | (simp; done) | (simp; omega)))))
  have HB4 : Below w.heap.size w w4 := HB3.trans (st4.mono HB3.size)
  replace ox0 := ox0.keep (same_of_below st4 (by omega))
  clear HB3
  clear st4
  go_wp2_with fail
  refine (toIntS_r _ _ _ xs0 _ (hx0.up HB4 HB4.size) (by omega)).mono ?_
  rintro e w5 ⟨Ay0, ny0, cy0, rfl, oy0, hb5⟩
  have z5 : w4.heap.size ≤ w5.heap.size := by have := hb5.size; simpa using this
  have st5 : Below w4.heap.size w4 w5 := (by repeat' (first | with_reducible exact Below.refl _ _ | with_reducible refine Below.alloc ?_ (by first | omega | (simp; done) | (simp; omega)) _ | with_reducible refine below_drewN ?_ _ | with_reducible refine Below.drew ?_ | with_reducible refine Below.setCell ?_ (by first | omega | (simp; done) | (simp; omega)) _ | with_reducible refine Below.trans ?_ (Below.mono hb5 (by first | omega | (simp; done) | (simp; omega)))))
  have HB5 : Below w.heap.size w w5 := HB4.trans (st5.mono HB4.size)
  replace ox0 := ox0.keep (same_of_below st5 (by omega))
  clear HB4
  clear st5
  replace oy0 := (rowI oy0).mono (b' := w4.heap.size) (by first | omega | (simp; done) | (simp; omega)) (Nat.le_refl _)
  go_wp2_with fail
  refine (eqIntS_same _ _ _ _ _ _ (xs0)  _ (ox0.ints (B := w5.heap.size) (by omega)) (oy0.ints (B := w5.heap.size) (by omega)) (by have := (ox0).len; have := (hx0).len; omega) (by have := (oy0).len; have := (hx0).len; omega)).mono ?_
  rintro e w6 ⟨rfl, hb6⟩
  have z6 : w5.heap.size ≤ w6.heap.size := by have := hb6.size; simpa using this
  have st6 : Below w5.heap.size w5 w6 := (by repeat' (first | with_reducible exact Below.refl _ _ | with_reducible refine Below.alloc ?_ (by first | omega | (simp; done) | (simp; omega)) _ | with_reducible refine below_drewN ?_ _ | with_reducible refine Below.drew ?_ | with_reducible refine Below.setCell ?_ (by first | omega | (simp; done) | (simp; omega)) _ | with_reducible refine Below.trans ?_ (Below.mono hb6 (by first | omega | (simp; done) | (simp; omega)))))
  have HB6 : Below w.heap.size w w6 := HB5.trans (st6.mono HB5.size)
  replace ox0 := ox0.keep (same_of_below st6 (by omega))
  replace oy0 := oy0.keep (same_of_below st6 (by omega))
  clear HB5
  clear st6
  clear oy0
  go_wp2
  go_ret
  exact ⟨rfl, HB6⟩
end Go.Proofs.Ytaelaldgohppeaa
