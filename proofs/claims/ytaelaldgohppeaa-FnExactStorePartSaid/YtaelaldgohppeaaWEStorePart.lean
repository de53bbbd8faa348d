/-
  The walk of FnExactStorePart: the law returns true and writes nothing that was there.
-/
import Derived.Test.YtaelaldgohppeaaS1
import Derived.Deep.RegionHeld3
namespace Go.Proofs.Ytaelaldgohppeaa
open Go.RowKit
set_option linter.unusedVariables false

set_option maxHeartbeats 4000000 in
theorem exStorePart_walk (A0 : Option Addr) (n0 c0 : Nat) (xs0 : List Int) (a1 : Int) (w : World) (hn0 : n0 ≤ 9223372036854775807) (hx0 : Ints w w.heap.size A0 n0 xs0) (wf1 : (Lit.int .i64 a1).wf = true) :
    Calls Try.prog 4 #[.slice A0 n0 c0, .int .i64 a1] w fun e w' => e = .returned (.bool true) ∧ Below w.heap.size w w' := by
  by_cases hln0 : 1048576 < n0
  · go_enter Try.func4, Try.ntmps4
    go_wp2
    go_ret
    exact ⟨rfl, (by repeat' (first | with_reducible exact Below.refl _ _ | with_reducible assumption | with_reducible refine Below.setCell ?_ (by first | omega | (simp; done) | (simp; omega)) _ | with_reducible refine Below.alloc ?_ (by first | omega | (simp; done) | (simp; omega)) _ | with_reducible refine below_drewN ?_ _ | with_reducible refine Below.drew ?_ | (with_reducible refine Below.trans ?_ (Below.mono (by with_reducible assumption) (by first | omega | (simp; done) | (simp; omega))))))⟩
  have HL1 : (spart xs0 a1).length ≤ 1048576 := by have := spart_len xs0 a1; omega
  go_enter Try.func4, Try.ntmps4
  have HB0 : Below w.heap.size w w := Below.refl _ _
  go_wp2_with fail
  refine (toIntS_r _ _ _ xs0 _ (hx0.up HB0 HB0.size) (by omega)).mono ?_
  rintro e w1 ⟨Aa0, na0, ca0, rfl, oa0, hb1⟩
  have z1 : w.heap.size ≤ w1.heap.size := by have := hb1.size; simpa using this
  have st1 : Below w.heap.size w w1 := (by repeat' (first | with_reducible exact Below.refl _ _ | with_reducible refine Below.alloc ?_ (by first | omega | (simp; done) | (simp; omega)) _ | with_reducible refine below_drewN ?_ _ | with_reducible refine Below.drew ?_ | with_reducible refine Below.setCell ?_ (by first | omega | (simp; done) | (simp; omega)) _ | with_reducible refine Below.trans ?_ (Below.mono hb1 (by first | omega | (simp; done) | (simp; omega)))))
  have HB1 : Below w.heap.size w w1 := HB0.trans (st1.mono HB0.size)
  clear HB0
  clear st1
  replace oa0 := (rowI oa0).mono (b' := w.heap.size) (by first | omega | (simp; done) | (simp; omega)) (Nat.le_refl _)
  go_wp2_with fail
  refine (specPart_any _ _ _ xs0 a1 _ (oa0.ints (B := w1.heap.size) (by omega)) (by have := (oa0).len; have := (hx0).len; omega)).mono ?_
  rintro e w2 ⟨Aw0, nw0, cw0, rfl, ow0, hb2⟩
  have z2 : w1.heap.size ≤ w2.heap.size := by have := hb2.size; simpa using this
  have st2 : Below w1.heap.size w1 w2 := (by repeat' (first | with_reducible exact Below.refl _ _ | with_reducible refine Below.alloc ?_ (by first | omega | (simp; done) | (simp; omega)) _ | with_reducible refine below_drewN ?_ _ | with_reducible refine Below.drew ?_ | with_reducible refine Below.setCell ?_ (by first | omega | (simp; done) | (simp; omega)) _ | with_reducible refine Below.trans ?_ (Below.mono hb2 (by first | omega | (simp; done) | (simp; omega)))))
  have HB2 : Below w.heap.size w w2 := HB1.trans (st2.mono HB1.size)
  replace oa0 := oa0.keep (same_of_below st2 (by omega))
  clear HB1
  clear st2
  replace ow0 := (rowI ow0).mono (b' := w1.heap.size) (by first | omega | (simp; done) | (simp; omega)) (Nat.le_refl _)
  clear oa0
  go_wp2_with fail
  refine (toIntS_r _ _ _ xs0 _ (hx0.up HB2 HB2.size) (by omega)).mono ?_
  rintro e w3 ⟨Ax0, nx0, cx0, rfl, ox0, hb3⟩
  have z3 : w2.heap.size ≤ w3.heap.size := by have := hb3.size; simpa using this
  have st3 : Below w2.heap.size w2 w3 := (by repeat' (first | with_reducible exact Below.refl _ _ | with_reducible refine Below.alloc ?_ (by first | omega | (simp; done) | (simp; omega)) _ | with_reducible refine below_drewN ?_ _ | with_reducible refine Below.drew ?_ | with_reducible refine Below.setCell ?_ (by first | omega | (simp; done) | (simp; omega)) _ | with_reducible refine Below.trans ?_ (Below.mono hb3 (by first | omega | (simp; done) | (simp; omega)))))
  have HB3 : Below w.heap.size w w3 := HB2.trans (st3.mono HB2.size)
  replace ow0 := ow0.keep (same_of_below st3 (by omega))
  clear HB2
  clear st3
  replace ox0 := (rowI ox0).mono (b' := w2.heap.size) (by first | omega | (simp; done) | (simp; omega)) (Nat.le_refl _)
  go_wp2_with fail
  refine (implPart_any _ _ _ xs0 a1 _ (ox0.ints (B := w3.heap.size) (by omega)) (by have := (ox0).len; have := (hx0).len; omega)).mono ?_
  rintro e w4 ⟨Ag0, ng0, cg0, rfl, og0, hb4⟩
  have z4 : w3.heap.size ≤ w4.heap.size := by have := hb4.size; simpa using this
  have st4 : Below w3.heap.size w3 w4 := (by repeat' (first | with_reducible exact Below.refl _ _ | with_reducible refine Below.alloc ?_ (by first | omega | (simp; done) | (simp; omega)) _ | with_reducible refine below_drewN ?_ _ | with_reducible refine Below.drew ?_ | with_reducible refine Below.setCell ?_ (by first | omega | (simp; done) | (simp; omega)) _ | with_reducible refine Below.trans ?_ (Below.mono hb4 (by first | omega | (simp; done) | (simp; omega)))))
  have HB4 : Below w.heap.size w w4 := HB3.trans (st4.mono HB3.size)
  replace ow0 := ow0.keep (same_of_below st4 (by omega))
  replace ox0 := ox0.keep (same_of_below st4 (by omega))
  clear HB3
  clear st4
  replace og0 := (rowI og0).mono (b' := w3.heap.size) (by first | omega | (simp; done) | (simp; omega)) (Nat.le_refl _)
  have qng0 : ng0 ≤ 1048576 := (by have := og0.len; omega)
  go_wp2_with fail
  refine (eqIntS_same _ _ _ _ _ _ (spart xs0 a1)  _ (og0.ints (B := w4.heap.size) (by omega)) (ow0.ints (B := w4.heap.size) (by omega)) (by have := og0.len; omega) (by have := ow0.len; omega)).mono ?_
  rintro e w5 ⟨rfl, hb5⟩
  have z5 : w4.heap.size ≤ w5.heap.size := by have := hb5.size; simpa using this
  have st5 : Below w4.heap.size w4 w5 := (by repeat' (first | with_reducible exact Below.refl _ _ | with_reducible refine Below.alloc ?_ (by first | omega | (simp; done) | (simp; omega)) _ | with_reducible refine below_drewN ?_ _ | with_reducible refine Below.drew ?_ | with_reducible refine Below.setCell ?_ (by first | omega | (simp; done) | (simp; omega)) _ | with_reducible refine Below.trans ?_ (Below.mono hb5 (by first | omega | (simp; done) | (simp; omega)))))
  have HB5 : Below w.heap.size w w5 := HB4.trans (st5.mono HB4.size)
  replace ow0 := ow0.keep (same_of_below st5 (by omega))
  replace ox0 := ox0.keep (same_of_below st5 (by omega))
  replace og0 := og0.keep (same_of_below st5 (by omega))
  clear HB4
  clear st5
  go_wp2_with fail
  refine (toIntS_r _ _ _ xs0 _ (hx0.up HB5 HB5.size) (by omega)).mono ?_
  rintro e w6 ⟨Ay0, ny0, cy0, rfl, oy0, hb6⟩
  have z6 : w5.heap.size ≤ w6.heap.size := by have := hb6.size; simpa using this
  have st6 : Below w5.heap.size w5 w6 := (by repeat' (first | with_reducible exact Below.refl _ _ | with_reducible refine Below.alloc ?_ (by first | omega | (simp; done) | (simp; omega)) _ | with_reducible refine below_drewN ?_ _ | with_reducible refine Below.drew ?_ | with_reducible refine Below.setCell ?_ (by first | omega | (simp; done) | (simp; omega)) _ | with_reducible refine Below.trans ?_ (Below.mono hb6 (by first | omega | (simp; done) | (simp; omega)))))
  have HB6 : Below w.heap.size w w6 := HB5.trans (st6.mono HB5.size)
  replace ow0 := ow0.keep (same_of_below st6 (by omega))
  replace ox0 := ox0.keep (same_of_below st6 (by omega))
  replace og0 := og0.keep (same_of_below st6 (by omega))
  clear HB5
  clear st6
  replace oy0 := (rowI oy0).mono (b' := w5.heap.size) (by first | omega | (simp; done) | (simp; omega)) (Nat.le_refl _)
  go_wp2_with fail
  refine (eqIntS_same _ _ _ _ _ _ (xs0)  _ (ox0.ints (B := w6.heap.size) (by omega)) (oy0.ints (B := w6.heap.size) (by omega)) (by have := (ox0).len; have := (hx0).len; omega) (by have := (oy0).len; have := (hx0).len; omega)).mono ?_
  rintro e w7 ⟨rfl, hb7⟩
  have z7 : w6.heap.size ≤ w7.heap.size := by have := hb7.size; simpa using this
  have st7 : Below w6.heap.size w6 w7 := (by repeat' (first | with_reducible exact Below.refl _ _ | with_reducible refine Below.alloc ?_ (by first | omega | (simp; done) | (simp; omega)) _ | with_reducible refine below_drewN ?_ _ | with_reducible refine Below.drew ?_ | with_reducible refine Below.setCell ?_ (by first | omega | (simp; done) | (simp; omega)) _ | with_reducible refine Below.trans ?_ (Below.mono hb7 (by first | omega | (simp; done) | (simp; omega)))))
  have HB7 : Below w.heap.size w w7 := HB6.trans (st7.mono HB6.size)
  replace ow0 := ow0.keep (same_of_below st7 (by omega))
  replace ox0 := ox0.keep (same_of_below st7 (by omega))
  replace og0 := og0.keep (same_of_below st7 (by omega))
  replace oy0 := oy0.keep (same_of_below st7 (by omega))
  clear HB6
  clear st7
  clear oy0
  go_wp2_with fail
  refine (markIntS_t _ _ _ _ _ _ 1 _ ox0 (by omega) (by omega) (by have := (ox0).len; have := (hx0).len; omega)).mono ?_
  clear ox0
  rintro e w8 ⟨rfl, ox0, hb8⟩
  have z8 : w7.heap.size ≤ w8.heap.size := by have := hb8.size; simpa using this
  have HB8 : Below w.heap.size w w8 := HB7.trans (hb8.below (by omega) (by omega))
  replace ow0 := ow0.keep (hb8.same (by omega) (by omega))
  replace og0 := og0.keep (hb8.same (by omega) (by omega))
  clear HB7
  clear hb8
  go_wp2_with fail
  refine (eqIntS_same _ _ _ _ _ _ (spart xs0 a1)  _ (og0.ints (B := w8.heap.size) (by omega)) (ow0.ints (B := w8.heap.size) (by omega)) (by have := og0.len; omega) (by have := ow0.len; omega)).mono ?_
  rintro e w9 ⟨rfl, hb9⟩
  have z9 : w8.heap.size ≤ w9.heap.size := by have := hb9.size; simpa using this
  have st9 : Below w8.heap.size w8 w9 := (by repeat' (first | with_reducible exact Below.refl _ _ | with_reducible refine Below.alloc ?_ (by first | omega | (simp; done) | (simp; omega)) _ | with_reducible refine below_drewN ?_ _ | with_reducible refine Below.drew ?_ | with_reducible refine Below.setCell ?_ (by first | omega | (simp; done) | (simp; omega)) _ | with_reducible refine Below.trans ?_ (Below.mono hb9 (by first | omega | (simp; done) | (simp; omega)))))
  have HB9 : Below w.heap.size w w9 := HB8.trans (st9.mono HB8.size)
  replace ow0 := ow0.keep (same_of_below st9 (by omega))
  replace ox0 := ox0.keep (same_of_below st9 (by omega))
  replace og0 := og0.keep (same_of_below st9 (by omega))
  clear HB8
  clear st9
  go_wp2_with fail
  refine (markIntS_t _ _ _ _ _ _ 1 _ og0 (by omega) (by omega) (by have := og0.len; omega)).mono ?_
  clear og0
  rintro e w10 ⟨rfl, og0, hb10⟩
  have z10 : w9.heap.size ≤ w10.heap.size := by have := hb10.size; simpa using this
  have HB10 : Below w.heap.size w w10 := HB9.trans (hb10.below (by omega) (by omega))
  replace ow0 := ow0.keep (hb10.same (by omega) (by omega))
  replace ox0 := ox0.keep (hb10.same (by omega) (by omega))
  clear HB9
  clear hb10
  go_wp2_with fail
  refine (heldIntS_v _ _ _ (1) _ (og0.ints (B := w10.heap.size) (by omega)) (by omega) (by omega) (by omega)).mono ?_
  rintro e w11 ⟨rfl, hb11⟩
  have z11 : w10.heap.size ≤ w11.heap.size := by have := hb11.size; simpa using this
  have st11 : Below w10.heap.size w10 w11 := (by repeat' (first | with_reducible exact Below.refl _ _ | with_reducible refine Below.alloc ?_ (by first | omega | (simp; done) | (simp; omega)) _ | with_reducible refine below_drewN ?_ _ | with_reducible refine Below.drew ?_ | with_reducible refine Below.setCell ?_ (by first | omega | (simp; done) | (simp; omega)) _ | with_reducible refine Below.trans ?_ (Below.mono hb11 (by first | omega | (simp; done) | (simp; omega)))))
  have HB11 : Below w.heap.size w w11 := HB10.trans (st11.mono HB10.size)
  replace ow0 := ow0.keep (same_of_below st11 (by omega))
  replace ox0 := ox0.keep (same_of_below st11 (by omega))
  replace og0 := og0.keep (same_of_below st11 (by omega))
  clear HB10
  clear st11
  go_wp2_with fail
  refine (toIntS_r _ _ _ xs0 _ (hx0.up HB11 HB11.size) (by omega)).mono ?_
  rintro e w12 ⟨Ab0, nb0, cb0, rfl, ob0, hb12⟩
  have z12 : w11.heap.size ≤ w12.heap.size := by have := hb12.size; simpa using this
  have st12 : Below w11.heap.size w11 w12 := (by repeat' (first | with_reducible exact Below.refl _ _ | with_reducible refine Below.alloc ?_ (by first | omega | (simp; done) | (simp; omega)) _ | with_reducible refine below_drewN ?_ _ | with_reducible refine Below.drew ?_ | with_reducible refine Below.setCell ?_ (by first | omega | (simp; done) | (simp; omega)) _ | with_reducible refine Below.trans ?_ (Below.mono hb12 (by first | omega | (simp; done) | (simp; omega)))))
  have HB12 : Below w.heap.size w w12 := HB11.trans (st12.mono HB11.size)
  replace ow0 := ow0.keep (same_of_below st12 (by omega))
  replace ox0 := ox0.keep (same_of_below st12 (by omega))
  replace og0 := og0.keep (same_of_below st12 (by omega))
  clear HB11
  clear st12
  replace ob0 := (rowI ob0).mono (b' := w11.heap.size) (by first | omega | (simp; done) | (simp; omega)) (Nat.le_refl _)
  go_wp2_with fail
  refine (implPart_any _ _ _ xs0 a1 _ (ob0.ints (B := w12.heap.size) (by omega)) (by have := (ob0).len; have := (hx0).len; omega)).mono ?_
  rintro e w13 ⟨Ah0, nh0, ch0, rfl, oh0, hb13⟩
  have z13 : w12.heap.size ≤ w13.heap.size := by have := hb13.size; simpa using this
  have st13 : Below w12.heap.size w12 w13 := (by repeat' (first | with_reducible exact Below.refl _ _ | with_reducible refine Below.alloc ?_ (by first | omega | (simp; done) | (simp; omega)) _ | with_reducible refine below_drewN ?_ _ | with_reducible refine Below.drew ?_ | with_reducible refine Below.setCell ?_ (by first | omega | (simp; done) | (simp; omega)) _ | with_reducible refine Below.trans ?_ (Below.mono hb13 (by first | omega | (simp; done) | (simp; omega)))))
  have HB13 : Below w.heap.size w w13 := HB12.trans (st13.mono HB12.size)
  replace ow0 := ow0.keep (same_of_below st13 (by omega))
  replace ox0 := ox0.keep (same_of_below st13 (by omega))
  replace og0 := og0.keep (same_of_below st13 (by omega))
  replace ob0 := ob0.keep (same_of_below st13 (by omega))
  clear HB12
  clear st13
  replace oh0 := (rowI oh0).mono (b' := w12.heap.size) (by first | omega | (simp; done) | (simp; omega)) (Nat.le_refl _)
  clear ob0
  go_wp2_with fail
  refine (eqIntS_same _ _ _ _ _ _ (spart xs0 a1)  _ (oh0.ints (B := w13.heap.size) (by omega)) (ow0.ints (B := w13.heap.size) (by omega)) (by have := oh0.len; omega) (by have := ow0.len; omega)).mono ?_
  rintro e w14 ⟨rfl, hb14⟩
  have z14 : w13.heap.size ≤ w14.heap.size := by have := hb14.size; simpa using this
  have st14 : Below w13.heap.size w13 w14 := (by repeat' (first | with_reducible exact Below.refl _ _ | with_reducible refine Below.alloc ?_ (by first | omega | (simp; done) | (simp; omega)) _ | with_reducible refine below_drewN ?_ _ | with_reducible refine Below.drew ?_ | with_reducible refine Below.setCell ?_ (by first | omega | (simp; done) | (simp; omega)) _ | with_reducible refine Below.trans ?_ (Below.mono hb14 (by first | omega | (simp; done) | (simp; omega)))))
  have HB14 : Below w.heap.size w w14 := HB13.trans (st14.mono HB13.size)
  replace ow0 := ow0.keep (same_of_below st14 (by omega))
  replace ox0 := ox0.keep (same_of_below st14 (by omega))
  replace og0 := og0.keep (same_of_below st14 (by omega))
  replace oh0 := oh0.keep (same_of_below st14 (by omega))
  clear HB13
  clear st14
  go_wp2_with fail
  refine (heldIntS_v _ _ _ (1) _ (og0.ints (B := w14.heap.size) (by omega)) (by omega) (by omega) (by omega)).mono ?_
  rintro e w15 ⟨rfl, hb15⟩
  have z15 : w14.heap.size ≤ w15.heap.size := by have := hb15.size; simpa using this
  have st15 : Below w14.heap.size w14 w15 := (by repeat' (first | with_reducible exact Below.refl _ _ | with_reducible refine Below.alloc ?_ (by first | omega | (simp; done) | (simp; omega)) _ | with_reducible refine below_drewN ?_ _ | with_reducible refine Below.drew ?_ | with_reducible refine Below.setCell ?_ (by first | omega | (simp; done) | (simp; omega)) _ | with_reducible refine Below.trans ?_ (Below.mono hb15 (by first | omega | (simp; done) | (simp; omega)))))
  have HB15 : Below w.heap.size w w15 := HB14.trans (st15.mono HB14.size)
  replace ow0 := ow0.keep (same_of_below st15 (by omega))
  replace ox0 := ox0.keep (same_of_below st15 (by omega))
  replace og0 := og0.keep (same_of_below st15 (by omega))
  replace oh0 := oh0.keep (same_of_below st15 (by omega))
  clear HB14
  clear st15
  go_wp2
  go_ret
  exact ⟨rfl, HB15⟩
end Go.Proofs.Ytaelaldgohppeaa
