/-
  The walk of FnExactViewJoin: the law returns true and writes nothing that was there.
-/
import Derived.Test.YtmjacdcefaohcaaDoorVK
import Derived.Test.YtmjacdcefaohcaaDoorE6
import Derived.Deep.RegionHeld3
namespace Go.Proofs.YtmjacdcefaohcaaDoor
open Go.RowKit
set_option linter.unusedVariables false

set_option maxHeartbeats 4000000 in
theorem exViewJoin_walk (q0 : Int) (A0 : Option Addr) (n0 c0 : Nat) (xs0 : List Int) (a1 : Int) (ea : Addr) (w : World) (wf0 : (Lit.int .i64 q0).wf = true) (hn0 : n0 ≤ 9223372036854775807) (hx0 : Ints w w.heap.size A0 n0 xs0) (wf1 : (Lit.int .i64 a1).wf = true) (hsE : Sent w ea) :
    Calls Tryd.prog 11 #[.agg #[.int .i64 q0, .slice A0 n0 c0], .int .i64 a1] w fun e w' => e = .returned (.bool true) ∧ Below w.heap.size w w' := by
  have p0 := Blk.new w 41 #[.int .i64 (q0), .slice A0 n0 c0]
  by_cases hsz0 : 1048576 < n0
  · go_enter Tryd.func11, Tryd.ntmps11
    go_wp2_with fail
    refine (szView_no _ _ _ _ _ _ (by omega) (by omega) hn0 (by omega)).mono ?_
    rintro e w1 ⟨rfl, hb1⟩
    have hs1 := hb1.size
    try simp at hs1
    go_wp2
    go_ret
    exact ⟨rfl, (by repeat' (first | with_reducible exact Below.refl _ _ | with_reducible assumption | with_reducible refine Below.setCell ?_ (by first | omega | (simp; done) | (simp; omega)) _ | with_reducible refine Below.alloc ?_ (by first | omega | (simp; done) | (simp; omega)) _ | with_reducible refine below_drewN ?_ _ | with_reducible refine Below.drew ?_ | (with_reducible refine Below.trans ?_ (Below.mono (by with_reducible assumption) (by first | omega | (simp; done) | (simp; omega))))))⟩
  have hsz' : n0 ≤ 1048576 := by omega
  have HL1 : (gX (joinOk q0 xs0 a1) (q0 + 1) (joinL xs0 a1)).length ≤ 1048576 := by have := gX_len (joinOk q0 xs0 a1) (q0 + 1) (joinL xs0 a1); omega
  have hne : (gB (joinOk q0 xs0 a1) (q0 + 1) (joinL xs0 a1) != gB (joinOk q0 xs0 a1) (q0 + 1) (joinL xs0 a1)) = false := by simp
  go_enter Tryd.func11, Tryd.ntmps11
  go_wp2_with fail
  refine (szView_yes _ _ _ _ _ _ (by omega) (by omega)).mono ?_
  rintro e w1 ⟨rfl, hb1⟩
  have z1 : w.heap.size + 1 ≤ w1.heap.size := by have := hb1.size; simpa using this
  have HB1 : Below w.heap.size w w1 := (by repeat' (first | with_reducible exact Below.refl _ _ | with_reducible refine Below.alloc ?_ (by first | omega | (simp; done) | (simp; omega)) _ | with_reducible refine below_drewN ?_ _ | with_reducible refine Below.drew ?_ | with_reducible refine Below.setCell ?_ (by first | omega | (simp; done) | (simp; omega)) _ | with_reducible refine Below.trans ?_ (Below.mono hb1 (by first | omega | (simp; done) | (simp; omega)))))
  replace p0 := p0.below hb1 (by simp)
  have fp0 := p0.two; have lp0 := p0.lt
  go_wp2_with fail
  refine (toView_any _ _ _ q0 xs0 _ (hx0.up HB1 HB1.size) (by omega)).mono ?_
  rintro e w2 ⟨Aa0, na0, ca0, rfl, oa0, hb2⟩
  clear fp0 lp0
  have z2 : w1.heap.size ≤ w2.heap.size := by have := hb2.size; simpa using this
  have st2 : Below w1.heap.size w1 w2 := (by repeat' (first | with_reducible exact Below.refl _ _ | with_reducible refine Below.alloc ?_ (by first | omega | (simp; done) | (simp; omega)) _ | with_reducible refine below_drewN ?_ _ | with_reducible refine Below.drew ?_ | with_reducible refine Below.setCell ?_ (by first | omega | (simp; done) | (simp; omega)) _ | with_reducible refine Below.trans ?_ (Below.mono hb2 (by first | omega | (simp; done) | (simp; omega)))))
  have HB2 : Below w.heap.size w w2 := HB1.trans (st2.mono HB1.size)
  replace p0 := p0.below st2 p0.lt
  clear HB1
  clear st2
  have fp0 := p0.two; have lp0 := p0.lt
  replace oa0 := (rowI oa0).mono (b' := w1.heap.size) (by first | omega | (simp; done) | (simp; omega)) (Nat.le_refl _)
  go_wp2_with fail
  refine (specJoin_any _ _ _ q0 xs0 a1 _ (oa0.ints (B := w2.heap.size) (by omega)) (by have := (oa0).len; have := (hx0).len; omega) oa0.cap).mono ?_
  rintro e w3 ⟨Aw0, nw0, cw0, rfl, ow0, hb3⟩
  clear fp0 lp0
  have z3 : w2.heap.size ≤ w3.heap.size := by have := hb3.size; simpa using this
  have st3 : Below w2.heap.size w2 w3 := (by repeat' (first | with_reducible exact Below.refl _ _ | with_reducible refine Below.alloc ?_ (by first | omega | (simp; done) | (simp; omega)) _ | with_reducible refine below_drewN ?_ _ | with_reducible refine Below.drew ?_ | with_reducible refine Below.setCell ?_ (by first | omega | (simp; done) | (simp; omega)) _ | with_reducible refine Below.trans ?_ (Below.mono hb3 (by first | omega | (simp; done) | (simp; omega)))))
  have HB3 : Below w.heap.size w w3 := HB2.trans (st3.mono HB2.size)
  replace p0 := p0.below st3 p0.lt
  replace oa0 := oa0.keep (same_of_below st3 (by omega))
  clear HB2
  clear st3
  have fp0 := p0.two; have lp0 := p0.lt
  replace ow0 := (rowI ow0).mono (b' := w2.heap.size) (by first | omega | (simp; done) | (simp; omega)) (Nat.le_refl _)
  clear oa0
  go_wp2_with fail
  refine (toView_any _ _ _ q0 xs0 _ ((hx0.up HB3 HB3.size).box _) (by omega)).mono ?_
  rintro e w4 ⟨Ax0, nx0, cx0, rfl, ox0, hb4⟩
  clear fp0 lp0
  have z4 : w3.heap.size + 1 ≤ w4.heap.size := by have := hb4.size; simpa using this
  have st4 : Below w3.heap.size w3 w4 := (by repeat' (first | with_reducible exact Below.refl _ _ | with_reducible refine Below.alloc ?_ (by first | omega | (simp; done) | (simp; omega)) _ | with_reducible refine below_drewN ?_ _ | with_reducible refine Below.drew ?_ | with_reducible refine Below.setCell ?_ (by first | omega | (simp; done) | (simp; omega)) _ | with_reducible refine Below.trans ?_ (Below.mono hb4 (by first | omega | (simp; done) | (simp; omega)))))
  have HB4 : Below w.heap.size w w4 := HB3.trans (st4.mono HB3.size)
  replace p0 := p0.below st4 p0.lt
  have pw0 : Blk w4 (w3.heap.size) 25 #[.int .i64 (gQ (joinOk q0 xs0 a1) (q0 + 1) (joinL xs0 a1)), .slice Aw0 nw0 cw0] := by simpa using (Blk.new w3 25 #[.int .i64 (gQ (joinOk q0 xs0 a1) (q0 + 1) (joinL xs0 a1)), .slice Aw0 nw0 cw0]).below hb4 (by simp)
  replace ow0 := ow0.keep (same_of_below st4 (by omega))
  clear HB3
  clear st4
  have fp0 := p0.two; have lp0 := p0.lt
  have fpw0 := pw0.two; have lpw0 := pw0.lt
  replace ox0 := (rowI ox0).mono (b' := w3.heap.size + 1) (by first | omega | (simp; done) | (simp; omega)) (Nat.le_refl _)
  go_wp2_with fail
  refine (implJoin_any _ _ _ q0 xs0 a1 ea _ ((hsE.below HB4 hsE.lt).alloc _) ((ox0.ints (B := w4.heap.size) (by omega)).box _) (by have := (ox0).len; have := (hx0).len; omega)).mono ?_
  rintro e w5 ⟨Ag0, ng0, cg0, rfl, og0, hb5⟩
  clear fp0 lp0 fpw0 lpw0
  have z5 : w4.heap.size + 1 ≤ w5.heap.size := by have := hb5.size; simpa using this
  have st5 : Below w4.heap.size w4 w5 := (by repeat' (first | with_reducible exact Below.refl _ _ | with_reducible refine Below.alloc ?_ (by first | omega | (simp; done) | (simp; omega)) _ | with_reducible refine below_drewN ?_ _ | with_reducible refine Below.drew ?_ | with_reducible refine Below.setCell ?_ (by first | omega | (simp; done) | (simp; omega)) _ | with_reducible refine Below.trans ?_ (Below.mono hb5 (by first | omega | (simp; done) | (simp; omega)))))
  have HB5 : Below w.heap.size w w5 := HB4.trans (st5.mono HB4.size)
  replace p0 := p0.below st5 p0.lt
  replace pw0 := pw0.below st5 pw0.lt
  have px0 : Blk w5 (w4.heap.size) 25 #[.int .i64 (q0), .slice Ax0 nx0 cx0] := by simpa using (Blk.new w4 25 #[.int .i64 (q0), .slice Ax0 nx0 cx0]).below hb5 (by simp)
  replace ow0 := ow0.keep (same_of_below st5 (by omega))
  replace ox0 := ox0.keep (same_of_below st5 (by omega))
  clear HB4
  clear st5
  have fp0 := p0.two; have lp0 := p0.lt
  have fpw0 := pw0.two; have lpw0 := pw0.lt
  have fpx0 := px0.two; have lpx0 := px0.lt
  replace og0 := (rowI og0).mono (b' := w4.heap.size + 1) (by first | omega | (simp; done) | (simp; omega)) (Nat.le_refl _)
  have qng0 : ng0 ≤ 1048576 := (by have := og0.len; omega)
  go_wp2_with fail
  refine (eqView_same _ _ _ (gQ (joinOk q0 xs0 a1) (q0 + 1) (joinL xs0 a1)) (gX (joinOk q0 xs0 a1) (q0 + 1) (joinL xs0 a1)) _ _ _ _ ((og0.ints (B := w5.heap.size) (by omega)).box _) ((ow0.ints (B := w5.heap.size) (by omega)).box _) (by have := og0.len; omega) (by have := ow0.len; omega)).mono ?_
  rintro e w6 ⟨rfl, hb6⟩
  clear fp0 lp0 fpw0 lpw0 fpx0 lpx0
  have z6 : w5.heap.size + 1 ≤ w6.heap.size := by have := hb6.size; simpa using this
  have st6 : Below w5.heap.size w5 w6 := (by repeat' (first | with_reducible exact Below.refl _ _ | with_reducible refine Below.alloc ?_ (by first | omega | (simp; done) | (simp; omega)) _ | with_reducible refine below_drewN ?_ _ | with_reducible refine Below.drew ?_ | with_reducible refine Below.setCell ?_ (by first | omega | (simp; done) | (simp; omega)) _ | with_reducible refine Below.trans ?_ (Below.mono hb6 (by first | omega | (simp; done) | (simp; omega)))))
  have HB6 : Below w.heap.size w w6 := HB5.trans (st6.mono HB5.size)
  replace p0 := p0.below st6 p0.lt
  replace pw0 := pw0.below st6 pw0.lt
  replace px0 := px0.below st6 px0.lt
  have pg0 : Blk w6 (w5.heap.size) 25 #[.int .i64 (gQ (joinOk q0 xs0 a1) (q0 + 1) (joinL xs0 a1)), .slice Ag0 ng0 cg0] := by simpa using (Blk.new w5 25 #[.int .i64 (gQ (joinOk q0 xs0 a1) (q0 + 1) (joinL xs0 a1)), .slice Ag0 ng0 cg0]).below hb6 (by simp)
  replace ow0 := ow0.keep (same_of_below st6 (by omega))
  replace ox0 := ox0.keep (same_of_below st6 (by omega))
  replace og0 := og0.keep (same_of_below st6 (by omega))
  clear HB5
  clear st6
  have fp0 := p0.two; have lp0 := p0.lt
  have fpw0 := pw0.two; have lpw0 := pw0.lt
  have fpx0 := px0.two; have lpx0 := px0.lt
  have fpg0 := pg0.two; have lpg0 := pg0.lt
  go_wp2_with fail
  go_region_held3 (fun w' => w'.cell? ⟨w4.heap.size, 0, none⟩ = some (.int .i64 (q0)) ∧ w'.cell? ⟨w4.heap.size, 1, none⟩ = some (.slice Ax0 nx0 cx0) ∧ w'.cell? ⟨w.heap.size, 0, none⟩ = some (.int .i64 (q0)) ∧ w'.cell? ⟨w.heap.size, 1, none⟩ = some (.slice A0 n0 c0))
    (first
      | exact ⟨fpx0.1, fpx0.2.1, fp0.1, fp0.2.1⟩
      | exact ⟨gpx0.1, gpx0.2.1, gp0.1, gp0.2.1⟩
      | exact ⟨kpx0.1, kpx0.2.1, kp0.1, kp0.2.1⟩)
    (first
      | (go_at_call 34; refine (toView_any _ _ _ q0 xs0 _ (hx0.up (by repeat' (first | with_reducible exact Below.refl _ _ | with_reducible assumption | with_reducible refine Below.setCell ?_ (by first | omega | (simp; done) | (simp; omega)) _ | with_reducible refine Below.alloc ?_ (by first | omega | (simp; done) | (simp; omega)) _ | with_reducible refine below_drewN ?_ _ | with_reducible refine Below.drew ?_ | (with_reducible refine Below.trans ?_ (Below.mono (by with_reducible assumption) (by first | omega | (simp; done) | (simp; omega)))))) (by first | omega | (simp; done) | (simp; omega))) (by omega)).mono ?_; rintro e w7 ⟨Ay0, ny0, cy0, rfl, oy0, hb7⟩; have z7 : w6.heap.size ≤ w7.heap.size := hb7.size; have st7 : Below w6.heap.size w6 w7 := (by repeat' (first | with_reducible exact Below.refl _ _ | with_reducible refine Below.alloc ?_ (by first | omega | (simp; done) | (simp; omega)) _ | with_reducible refine below_drewN ?_ _ | with_reducible refine Below.drew ?_ | with_reducible refine Below.setCell ?_ (by first | omega | (simp; done) | (simp; omega)) _ | with_reducible refine Below.trans ?_ (Below.mono hb7 (by first | omega | (simp; done) | (simp; omega))))); have gpx0 := (px0.below st7 (by omega)).two; have gp0 := (p0.below st7 (by omega)).two)
      | (go_at_call 35; refine (eqView_same _ _ _ q0 xs0 _ _ _ _ ((ox0.keep (same_of_below st7 (by omega))).ints (by omega)) oy0.ints (by have := (ox0).len; have := (hx0).len; omega) (by have := (oy0).len; have := (hx0).len; omega)).mono ?_; rintro e w8 ⟨rfl, hb8⟩; have z8 : w7.heap.size ≤ w8.heap.size := hb8.size; have st8 : Below w6.heap.size w6 w8 := st7.trans (((by repeat' (first | with_reducible exact Below.refl _ _ | with_reducible refine Below.alloc ?_ (by first | omega | (simp; done) | (simp; omega)) _ | with_reducible refine below_drewN ?_ _ | with_reducible refine Below.drew ?_ | with_reducible refine Below.setCell ?_ (by first | omega | (simp; done) | (simp; omega)) _ | with_reducible refine Below.trans ?_ (Below.mono hb8 (by first | omega | (simp; done) | (simp; omega))))) : Below w7.heap.size w7 w8).mono z7); have kpx0 := (px0.below st8 (by omega)).two; have kp0 := (p0.below st8 (by omega)).two))
  clear fp0 lp0 fpw0 lpw0 fpx0 lpx0 fpg0 lpg0
  clear gpx0 gp0 kpx0 kp0 oy0 hb7 hb8 st7
  have HB8 : Below w.heap.size w w8 := HB6.trans (st8.mono HB6.size)
  replace p0 := p0.below st8 p0.lt
  replace pw0 := pw0.below st8 pw0.lt
  replace px0 := px0.below st8 px0.lt
  replace pg0 := pg0.below st8 pg0.lt
  replace ow0 := ow0.keep (same_of_below st8 (by omega))
  replace ox0 := ox0.keep (same_of_below st8 (by omega))
  replace og0 := og0.keep (same_of_below st8 (by omega))
  clear HB6
  clear st8
  have fp0 := p0.two; have lp0 := p0.lt
  have fpw0 := pw0.two; have lpw0 := pw0.lt
  have fpx0 := px0.two; have lpx0 := px0.lt
  have fpg0 := pg0.two; have lpg0 := pg0.lt
  go_wp2_with fail
  refine (markView_t _ _ _ _ _ _ _ 1 _ ox0 (by omega) (by omega) (by have := (ox0).len; have := (hx0).len; omega)).mono ?_
  clear ox0
  rintro e w9 ⟨rfl, ox0, hb9⟩
  clear fp0 lp0 fpw0 lpw0 fpx0 lpx0 fpg0 lpg0
  have z9 : w8.heap.size ≤ w9.heap.size := by have := hb9.size; simpa using this
  have HB9 : Below w.heap.size w w9 := HB8.trans (hb9.below (by omega) (by omega))
  replace p0 := hb9.blk p0 (by omega)
  replace pw0 := hb9.blk pw0 (by omega)
  replace px0 := hb9.blk px0 (by omega)
  replace pg0 := hb9.blk pg0 (by omega)
  replace ow0 := ow0.keep (hb9.same (by omega) (by omega))
  replace og0 := og0.keep (hb9.same (by omega) (by omega))
  clear HB8
  clear hb9
  have fp0 := p0.two; have lp0 := p0.lt
  have fpw0 := pw0.two; have lpw0 := pw0.lt
  have fpx0 := px0.two; have lpx0 := px0.lt
  have fpg0 := pg0.two; have lpg0 := pg0.lt
  go_wp2_with fail
  refine (eqView_same _ _ _ (gQ (joinOk q0 xs0 a1) (q0 + 1) (joinL xs0 a1)) (gX (joinOk q0 xs0 a1) (q0 + 1) (joinL xs0 a1)) _ _ _ _ (og0.ints (B := w9.heap.size) (by omega)) (ow0.ints (B := w9.heap.size) (by omega)) (by have := og0.len; omega) (by have := ow0.len; omega)).mono ?_
  rintro e w10 ⟨rfl, hb10⟩
  clear fp0 lp0 fpw0 lpw0 fpx0 lpx0 fpg0 lpg0
  have z10 : w9.heap.size ≤ w10.heap.size := by have := hb10.size; simpa using this
  have st10 : Below w9.heap.size w9 w10 := (by repeat' (first | with_reducible exact Below.refl _ _ | with_reducible refine Below.alloc ?_ (by first | omega | (simp; done) | (simp; omega)) _ | with_reducible refine below_drewN ?_ _ | with_reducible refine Below.drew ?_ | with_reducible refine Below.setCell ?_ (by first | omega | (simp; done) | (simp; omega)) _ | with_reducible refine Below.trans ?_ (Below.mono hb10 (by first | omega | (simp; done) | (simp; omega)))))
  have HB10 : Below w.heap.size w w10 := HB9.trans (st10.mono HB9.size)
  replace p0 := p0.below st10 p0.lt
  replace pw0 := pw0.below st10 pw0.lt
  replace px0 := px0.below st10 px0.lt
  replace pg0 := pg0.below st10 pg0.lt
  replace ow0 := ow0.keep (same_of_below st10 (by omega))
  replace ox0 := ox0.keep (same_of_below st10 (by omega))
  replace og0 := og0.keep (same_of_below st10 (by omega))
  clear HB9
  clear st10
  have fp0 := p0.two; have lp0 := p0.lt
  have fpw0 := pw0.two; have lpw0 := pw0.lt
  have fpx0 := px0.two; have lpx0 := px0.lt
  have fpg0 := pg0.two; have lpg0 := pg0.lt
  go_wp2_with fail
  refine (markView_t _ _ _ _ _ _ _ 1 _ og0 (by omega) (by omega) (by have := og0.len; omega)).mono ?_
  clear og0
  rintro e w11 ⟨rfl, og0, hb11⟩
  clear fp0 lp0 fpw0 lpw0 fpx0 lpx0 fpg0 lpg0
  have z11 : w10.heap.size ≤ w11.heap.size := by have := hb11.size; simpa using this
  have HB11 : Below w.heap.size w w11 := HB10.trans (hb11.below (by omega) (by omega))
  replace p0 := hb11.blk p0 (by omega)
  replace pw0 := hb11.blk pw0 (by omega)
  replace px0 := hb11.blk px0 (by omega)
  replace pg0 := hb11.blk pg0 (by omega)
  replace ow0 := ow0.keep (hb11.same (by omega) (by omega))
  replace ox0 := ox0.keep (hb11.same (by omega) (by omega))
  clear HB10
  clear hb11
  have fp0 := p0.two; have lp0 := p0.lt
  have fpw0 := pw0.two; have lpw0 := pw0.lt
  have fpx0 := px0.two; have lpx0 := px0.lt
  have fpg0 := pg0.two; have lpg0 := pg0.lt
  go_wp2_with fail
  refine (heldView_v _ _ _ (1) _ (og0.ints (B := w11.heap.size) (by omega)) (by omega) (by omega) (by omega)).mono ?_
  rintro e w12 ⟨rfl, hb12⟩
  clear fp0 lp0 fpw0 lpw0 fpx0 lpx0 fpg0 lpg0
  have z12 : w11.heap.size ≤ w12.heap.size := by have := hb12.size; simpa using this
  have st12 : Below w11.heap.size w11 w12 := (by repeat' (first | with_reducible exact Below.refl _ _ | with_reducible refine Below.alloc ?_ (by first | omega | (simp; done) | (simp; omega)) _ | with_reducible refine below_drewN ?_ _ | with_reducible refine Below.drew ?_ | with_reducible refine Below.setCell ?_ (by first | omega | (simp; done) | (simp; omega)) _ | with_reducible refine Below.trans ?_ (Below.mono hb12 (by first | omega | (simp; done) | (simp; omega)))))
  have HB12 : Below w.heap.size w w12 := HB11.trans (st12.mono HB11.size)
  replace p0 := p0.below st12 p0.lt
  replace pw0 := pw0.below st12 pw0.lt
  replace px0 := px0.below st12 px0.lt
  replace pg0 := pg0.below st12 pg0.lt
  replace ow0 := ow0.keep (same_of_below st12 (by omega))
  replace ox0 := ox0.keep (same_of_below st12 (by omega))
  replace og0 := og0.keep (same_of_below st12 (by omega))
  clear HB11
  clear st12
  have fp0 := p0.two; have lp0 := p0.lt
  have fpw0 := pw0.two; have lpw0 := pw0.lt
  have fpx0 := px0.two; have lpx0 := px0.lt
  have fpg0 := pg0.two; have lpg0 := pg0.lt
  go_wp2_with fail
  refine (toView_any _ _ _ q0 xs0 _ (hx0.up HB12 HB12.size) (by omega)).mono ?_
  rintro e w13 ⟨Ab0, nb0, cb0, rfl, ob0, hb13⟩
  clear fp0 lp0 fpw0 lpw0 fpx0 lpx0 fpg0 lpg0
  have z13 : w12.heap.size ≤ w13.heap.size := by have := hb13.size; simpa using this
  have st13 : Below w12.heap.size w12 w13 := (by repeat' (first | with_reducible exact Below.refl _ _ | with_reducible refine Below.alloc ?_ (by first | omega | (simp; done) | (simp; omega)) _ | with_reducible refine below_drewN ?_ _ | with_reducible refine Below.drew ?_ | with_reducible refine Below.setCell ?_ (by first | omega | (simp; done) | (simp; omega)) _ | with_reducible refine Below.trans ?_ (Below.mono hb13 (by first | omega | (simp; done) | (simp; omega)))))
  have HB13 : Below w.heap.size w w13 := HB12.trans (st13.mono HB12.size)
  replace p0 := p0.below st13 p0.lt
  replace pw0 := pw0.below st13 pw0.lt
  replace px0 := px0.below st13 px0.lt
  replace pg0 := pg0.below st13 pg0.lt
  replace ow0 := ow0.keep (same_of_below st13 (by omega))
  replace ox0 := ox0.keep (same_of_below st13 (by omega))
  replace og0 := og0.keep (same_of_below st13 (by omega))
  clear HB12
  clear st13
  have fp0 := p0.two; have lp0 := p0.lt
  have fpw0 := pw0.two; have lpw0 := pw0.lt
  have fpx0 := px0.two; have lpx0 := px0.lt
  have fpg0 := pg0.two; have lpg0 := pg0.lt
  replace ob0 := (rowI ob0).mono (b' := w12.heap.size) (by first | omega | (simp; done) | (simp; omega)) (Nat.le_refl _)
  go_wp2_with fail
  refine (implJoin_any _ _ _ q0 xs0 a1 ea _ (hsE.below HB13 hsE.lt) (ob0.ints (B := w13.heap.size) (by omega)) (by have := (ob0).len; have := (hx0).len; omega)).mono ?_
  rintro e w14 ⟨Ah0, nh0, ch0, rfl, oh0, hb14⟩
  clear fp0 lp0 fpw0 lpw0 fpx0 lpx0 fpg0 lpg0
  have z14 : w13.heap.size ≤ w14.heap.size := by have := hb14.size; simpa using this
  have st14 : Below w13.heap.size w13 w14 := (by repeat' (first | with_reducible exact Below.refl _ _ | with_reducible refine Below.alloc ?_ (by first | omega | (simp; done) | (simp; omega)) _ | with_reducible refine below_drewN ?_ _ | with_reducible refine Below.drew ?_ | with_reducible refine Below.setCell ?_ (by first | omega | (simp; done) | (simp; omega)) _ | with_reducible refine Below.trans ?_ (Below.mono hb14 (by first | omega | (simp; done) | (simp; omega)))))
  have HB14 : Below w.heap.size w w14 := HB13.trans (st14.mono HB13.size)
  replace p0 := p0.below st14 p0.lt
  replace pw0 := pw0.below st14 pw0.lt
  replace px0 := px0.below st14 px0.lt
  replace pg0 := pg0.below st14 pg0.lt
  replace ow0 := ow0.keep (same_of_below st14 (by omega))
  replace ox0 := ox0.keep (same_of_below st14 (by omega))
  replace og0 := og0.keep (same_of_below st14 (by omega))
  replace ob0 := ob0.keep (same_of_below st14 (by omega))
  clear HB13
  clear st14
  have fp0 := p0.two; have lp0 := p0.lt
  have fpw0 := pw0.two; have lpw0 := pw0.lt
  have fpx0 := px0.two; have lpx0 := px0.lt
  have fpg0 := pg0.two; have lpg0 := pg0.lt
  replace oh0 := (rowI oh0).mono (b' := w13.heap.size) (by first | omega | (simp; done) | (simp; omega)) (Nat.le_refl _)
  clear ob0
  go_wp2_with fail
  refine (eqView_same _ _ _ (gQ (joinOk q0 xs0 a1) (q0 + 1) (joinL xs0 a1)) (gX (joinOk q0 xs0 a1) (q0 + 1) (joinL xs0 a1)) _ _ _ _ ((oh0.ints (B := w14.heap.size) (by omega)).box _) ((ow0.ints (B := w14.heap.size) (by omega)).box _) (by have := oh0.len; omega) (by have := ow0.len; omega)).mono ?_
  rintro e w15 ⟨rfl, hb15⟩
  clear fp0 lp0 fpw0 lpw0 fpx0 lpx0 fpg0 lpg0
  have z15 : w14.heap.size + 1 ≤ w15.heap.size := by have := hb15.size; simpa using this
  have st15 : Below w14.heap.size w14 w15 := (by repeat' (first | with_reducible exact Below.refl _ _ | with_reducible refine Below.alloc ?_ (by first | omega | (simp; done) | (simp; omega)) _ | with_reducible refine below_drewN ?_ _ | with_reducible refine Below.drew ?_ | with_reducible refine Below.setCell ?_ (by first | omega | (simp; done) | (simp; omega)) _ | with_reducible refine Below.trans ?_ (Below.mono hb15 (by first | omega | (simp; done) | (simp; omega)))))
  have HB15 : Below w.heap.size w w15 := HB14.trans (st15.mono HB14.size)
  replace p0 := p0.below st15 p0.lt
  replace pw0 := pw0.below st15 pw0.lt
  replace px0 := px0.below st15 px0.lt
  replace pg0 := pg0.below st15 pg0.lt
  have ph0 : Blk w15 (w14.heap.size) 25 #[.int .i64 (gQ (joinOk q0 xs0 a1) (q0 + 1) (joinL xs0 a1)), .slice Ah0 nh0 ch0] := by simpa using (Blk.new w14 25 #[.int .i64 (gQ (joinOk q0 xs0 a1) (q0 + 1) (joinL xs0 a1)), .slice Ah0 nh0 ch0]).below hb15 (by simp)
  replace ow0 := ow0.keep (same_of_below st15 (by omega))
  replace ox0 := ox0.keep (same_of_below st15 (by omega))
  replace og0 := og0.keep (same_of_below st15 (by omega))
  replace oh0 := oh0.keep (same_of_below st15 (by omega))
  clear HB14
  clear st15
  have fp0 := p0.two; have lp0 := p0.lt
  have fpw0 := pw0.two; have lpw0 := pw0.lt
  have fpx0 := px0.two; have lpx0 := px0.lt
  have fpg0 := pg0.two; have lpg0 := pg0.lt
  have fph0 := ph0.two; have lph0 := ph0.lt
  go_wp2_with fail
  refine (heldView_v _ _ _ (1) _ (og0.ints (B := w15.heap.size) (by omega)) (by omega) (by omega) (by omega)).mono ?_
  rintro e w16 ⟨rfl, hb16⟩
  clear fp0 lp0 fpw0 lpw0 fpx0 lpx0 fpg0 lpg0 fph0 lph0
  have z16 : w15.heap.size ≤ w16.heap.size := by have := hb16.size; simpa using this
  have st16 : Below w15.heap.size w15 w16 := (by repeat' (first | with_reducible exact Below.refl _ _ | with_reducible refine Below.alloc ?_ (by first | omega | (simp; done) | (simp; omega)) _ | with_reducible refine below_drewN ?_ _ | with_reducible refine Below.drew ?_ | with_reducible refine Below.setCell ?_ (by first | omega | (simp; done) | (simp; omega)) _ | with_reducible refine Below.trans ?_ (Below.mono hb16 (by first | omega | (simp; done) | (simp; omega)))))
  have HB16 : Below w.heap.size w w16 := HB15.trans (st16.mono HB15.size)
  replace p0 := p0.below st16 p0.lt
  replace pw0 := pw0.below st16 pw0.lt
  replace px0 := px0.below st16 px0.lt
  replace pg0 := pg0.below st16 pg0.lt
  replace ph0 := ph0.below st16 ph0.lt
  replace ow0 := ow0.keep (same_of_below st16 (by omega))
  replace ox0 := ox0.keep (same_of_below st16 (by omega))
  replace og0 := og0.keep (same_of_below st16 (by omega))
  replace oh0 := oh0.keep (same_of_below st16 (by omega))
  clear HB15
  clear st16
  have fp0 := p0.two; have lp0 := p0.lt
  have fpw0 := pw0.two; have lpw0 := pw0.lt
  have fpx0 := px0.two; have lpx0 := px0.lt
  have fpg0 := pg0.two; have lpg0 := pg0.lt
  have fph0 := ph0.two; have lph0 := ph0.lt
  go_wp2
  go_ret
  exact ⟨rfl, HB16⟩
end Go.Proofs.YtmjacdcefaohcaaDoor
