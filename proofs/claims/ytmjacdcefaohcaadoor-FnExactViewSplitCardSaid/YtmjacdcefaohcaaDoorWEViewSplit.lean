/-
  The walk of FnExactViewSplit: the law returns true and writes nothing that was there.
-/
import Derived.Test.YtmjacdcefaohcaaDoorVK
import Derived.Test.YtmjacdcefaohcaaDoorE5
import Derived.Deep.RegionHeld3
namespace Go.Proofs.YtmjacdcefaohcaaDoor
open Go.RowKit
set_option linter.unusedVariables false

set_option maxHeartbeats 4000000 in
theorem exViewSplit_walk (q0 : Int) (A0 : Option Addr) (n0 c0 : Nat) (xs0 : List Int) (a1 : Int) (ea : Addr) (w : World) (wf0 : (Lit.int .i64 q0).wf = true) (hn0 : n0 ≤ 9223372036854775807) (hx0 : Ints w w.heap.size A0 n0 xs0) (wf1 : (Lit.int .i64 a1).wf = true) (hsE : Sent w ea) :
    Calls Tryd.prog 13 #[.agg #[.int .i64 q0, .slice A0 n0 c0], .int .i64 a1] w fun e w' => e = .returned (.bool true) ∧ Below w.heap.size w w' := by
  have p0 := Blk.new w 41 #[.int .i64 (q0), .slice A0 n0 c0]
  by_cases hsz0 : 1048576 < n0
  · go_enter Tryd.func13, Tryd.ntmps13
    go_wp2_with fail
    refine (szView_no _ _ _ _ _ _ (by omega) (by omega) hn0 (by omega)).mono ?_
    rintro e w1 ⟨rfl, hb1⟩
    have hs1 := hb1.size
    try simp at hs1
    go_wp2
    go_ret
    exact ⟨rfl, (by repeat' (first | with_reducible exact Below.refl _ _ | with_reducible assumption | with_reducible refine Below.setCell ?_ (by first | omega | (simp; done) | (simp; omega)) _ | with_reducible refine Below.alloc ?_ (by first | omega | (simp; done) | (simp; omega)) _ | with_reducible refine below_drewN ?_ _ | with_reducible refine Below.drew ?_ | (with_reducible refine Below.trans ?_ (Below.mono (by with_reducible assumption) (by first | omega | (simp; done) | (simp; omega))))))⟩
  have hsz' : n0 ≤ 1048576 := by omega
  have HL1 : (sLow q0 xs0 a1).length ≤ 8 := sLow_len q0 xs0 a1
  have HL2 : (sHigh q0 xs0 a1).length ≤ 8 := sHigh_len q0 xs0 a1
  have hne : (splitOk q0 xs0 a1 != splitOk q0 xs0 a1) = false := by simp
  go_enter Tryd.func13, Tryd.ntmps13
  go_wp2_with fail
  refine (szView_yes _ _ _ _ _ _ (by omega) (by omega)).mono ?_
  rintro e w1 ⟨rfl, hb1⟩
  have z1 : w.heap.size + 1 ≤ w1.heap.size := by have := hb1.size; simpa using this
  have HB1 : Below w.heap.size w w1 := (by repeat' (first | with_reducible exact Below.refl _ _ | with_reducible refine Below.alloc ?_ (by first | omega | (simp; done) | (simp; omega)) _ | with_reducible refine below_drewN ?_ _ | with_reducible refine Below.drew ?_ | with_reducible refine Below.setCell ?_ (by first | omega | (simp; done) | (simp; omega)) _ | with_reducible refine Below.trans ?_ (Below.mono hb1 (by first | omega | (simp; done) | (simp; omega)))))
  replace p0 := p0.below hb1 (by simp)
  have fp0 := p0.two; have lp0 := p0.lt
  go_wp2_with fail
  refine (toView_any _ _ _ q0 xs0 _ (hx0.up HB1 HB1.size) (by omega)).mono ?_
  rintro e w2 ⟨Aa0, na0, ca0, rfl, oa0, hb2⟩
  clear fp0 lp0
  have z2 : w1.heap.size ≤ w2.heap.size := by have := hb2.size; simpa using this
  have st2 : Below w1.heap.size w1 w2 := (by repeat' (first | with_reducible exact Below.refl _ _ | with_reducible refine Below.alloc ?_ (by first | omega | (simp; done) | (simp; omega)) _ | with_reducible refine below_drewN ?_ _ | with_reducible refine Below.drew ?_ | with_reducible refine Below.setCell ?_ (by first | omega | (simp; done) | (simp; omega)) _ | with_reducible refine Below.trans ?_ (Below.mono hb2 (by first | omega | (simp; done) | (simp; omega)))))
  have HB2 : Below w.heap.size w w2 := HB1.trans (st2.mono HB1.size)
  replace p0 := p0.below st2 p0.lt
  clear HB1
  clear st2
  have fp0 := p0.two; have lp0 := p0.lt
  replace oa0 := (rowI oa0).mono (b' := w1.heap.size) (by first | omega | (simp; done) | (simp; omega)) (Nat.le_refl _)
  go_wp2_with fail
  refine (specSplit_any _ _ _ q0 xs0 a1 _ (oa0.ints (B := w2.heap.size) (by omega)) (by have := (oa0).len; have := (hx0).len; omega)).mono ?_
  rintro e w3 ⟨Aw0, nw0, cw0, Aw1, nw1, cw1, midw, rfl, ow0, ow1, lmw, hmw, hb3⟩
  clear fp0 lp0
  have z3 : w2.heap.size ≤ w3.heap.size := by have := hb3.size; simpa using this
  have st3 : Below w2.heap.size w2 w3 := (by repeat' (first | with_reducible exact Below.refl _ _ | with_reducible refine Below.alloc ?_ (by first | omega | (simp; done) | (simp; omega)) _ | with_reducible refine below_drewN ?_ _ | with_reducible refine Below.drew ?_ | with_reducible refine Below.setCell ?_ (by first | omega | (simp; done) | (simp; omega)) _ | with_reducible refine Below.trans ?_ (Below.mono hb3 (by first | omega | (simp; done) | (simp; omega)))))
  have HB3 : Below w.heap.size w w3 := HB2.trans (st3.mono HB2.size)
  replace p0 := p0.below st3 p0.lt
  replace oa0 := oa0.keep (same_of_below st3 (by omega))
  clear HB2
  clear st3
  have fp0 := p0.two; have lp0 := p0.lt
  replace ow0 := ow0.mono (b' := w2.heap.size) (by first | omega | (simp; done) | (simp; omega)) (Nat.le_refl _)
  clear oa0
  go_wp2_with fail
  refine (toView_any _ _ _ q0 xs0 _ (((hx0.up HB3 HB3.size).box _).box _) (by omega)).mono ?_
  rintro e w4 ⟨Ax0, nx0, cx0, rfl, ox0, hb4⟩
  clear fp0 lp0
  have z4 : w3.heap.size + 2 ≤ w4.heap.size := by have := hb4.size; simpa using this
  have st4 : Below w3.heap.size w3 w4 := (by repeat' (first | with_reducible exact Below.refl _ _ | with_reducible refine Below.alloc ?_ (by first | omega | (simp; done) | (simp; omega)) _ | with_reducible refine below_drewN ?_ _ | with_reducible refine Below.drew ?_ | with_reducible refine Below.setCell ?_ (by first | omega | (simp; done) | (simp; omega)) _ | with_reducible refine Below.trans ?_ (Below.mono hb4 (by first | omega | (simp; done) | (simp; omega)))))
  have HB4 : Below w.heap.size w w4 := HB3.trans (st4.mono HB3.size)
  replace p0 := p0.below st4 p0.lt
  have pw0 : Blk w4 (w3.heap.size) 25 #[.int .i64 (sQ q0 xs0 a1), .slice Aw0 nw0 cw0] := by simpa using ((Blk.new w3 25 #[.int .i64 (sQ q0 xs0 a1), .slice Aw0 nw0 cw0]).alloc _).below hb4 (by first | (simp; done) | (simp; omega))
  have pw1 : Blk w4 (w3.heap.size + 1) 25 #[.int .i64 (sQ q0 xs0 a1), .slice Aw1 nw1 cw1] := by simpa using (Blk.new (w3.alloc (.cells #[.int .i64 (sQ q0 xs0 a1), .slice Aw0 nw0 cw0] 25)) 25 #[.int .i64 (sQ q0 xs0 a1), .slice Aw1 nw1 cw1]).below hb4 (by first | (simp; done) | (simp; omega))
  replace ow0 := ow0.keep (same_of_below st4 (by omega))
  replace ow1 := ow1.keep (same_of_below st4 (by omega))
  clear HB3
  clear st4
  have fp0 := p0.two; have lp0 := p0.lt
  have fpw0 := pw0.two; have lpw0 := pw0.lt
  have fpw1 := pw1.two; have lpw1 := pw1.lt
  replace ox0 := (rowI ox0).mono (b' := w3.heap.size + 2) (by first | omega | (simp; done) | (simp; omega)) (Nat.le_refl _)
  go_wp2_with fail
  refine (implSplit_any _ _ _ q0 xs0 a1 ea _ ((hsE.below HB4 hsE.lt).alloc _) ((ox0.ints (B := w4.heap.size) (by omega)).box _) (by have := (ox0).len; have := (hx0).len; omega)).mono ?_
  rintro e w5 ⟨Ag0, ng0, cg0, Ag1, ng1, cg1, midg, rfl, og0, og1, lmg, hmg, hb5⟩
  simp only [World.size_alloc] at lmg hmg
  clear fp0 lp0 fpw0 lpw0 fpw1 lpw1
  have z5 : w4.heap.size + 1 ≤ w5.heap.size := by have := hb5.size; simpa using this
  have st5 : Below w4.heap.size w4 w5 := (by repeat' (first | with_reducible exact Below.refl _ _ | with_reducible refine Below.alloc ?_ (by first | omega | (simp; done) | (simp; omega)) _ | with_reducible refine below_drewN ?_ _ | with_reducible refine Below.drew ?_ | with_reducible refine Below.setCell ?_ (by first | omega | (simp; done) | (simp; omega)) _ | with_reducible refine Below.trans ?_ (Below.mono hb5 (by first | omega | (simp; done) | (simp; omega)))))
  have HB5 : Below w.heap.size w w5 := HB4.trans (st5.mono HB4.size)
  replace p0 := p0.below st5 p0.lt
  replace pw0 := pw0.below st5 pw0.lt
  replace pw1 := pw1.below st5 pw1.lt
  have px0 : Blk w5 (w4.heap.size) 25 #[.int .i64 (q0), .slice Ax0 nx0 cx0] := by simpa using (Blk.new w4 25 #[.int .i64 (q0), .slice Ax0 nx0 cx0]).below hb5 (by first | (simp; done) | (simp; omega))
  replace ow0 := ow0.keep (same_of_below st5 (by omega))
  replace ow1 := ow1.keep (same_of_below st5 (by omega))
  replace ox0 := ox0.keep (same_of_below st5 (by omega))
  clear HB4
  clear st5
  have fp0 := p0.two; have lp0 := p0.lt
  have fpw0 := pw0.two; have lpw0 := pw0.lt
  have fpw1 := pw1.two; have lpw1 := pw1.lt
  have fpx0 := px0.two; have lpx0 := px0.lt
  replace og0 := og0.mono (b' := w4.heap.size + 1) (by first | omega | (simp; done) | (simp; omega)) (Nat.le_refl _)
  have qng0 : ng0 ≤ 8 := (by have := og0.len; omega)
  have qng1 : ng1 ≤ 8 := (by have := og1.len; omega)
  go_wp2_with fail
  refine (eqView_same _ _ _ (sQ q0 xs0 a1) (sLow q0 xs0 a1) _ _ _ _ (((og0.ints (B := w5.heap.size) (by omega)).box _).box _) (((ow0.ints (B := w5.heap.size) (by omega)).box _).box _) (by have := og0.len; omega) (by have := ow0.len; omega)).mono ?_
  rintro e w6 ⟨rfl, hb6⟩
  clear fp0 lp0 fpw0 lpw0 fpw1 lpw1 fpx0 lpx0
  have z6 : w5.heap.size + 2 ≤ w6.heap.size := by have := hb6.size; simpa using this
  have st6 : Below w5.heap.size w5 w6 := (by repeat' (first | with_reducible exact Below.refl _ _ | with_reducible refine Below.alloc ?_ (by first | omega | (simp; done) | (simp; omega)) _ | with_reducible refine below_drewN ?_ _ | with_reducible refine Below.drew ?_ | with_reducible refine Below.setCell ?_ (by first | omega | (simp; done) | (simp; omega)) _ | with_reducible refine Below.trans ?_ (Below.mono hb6 (by first | omega | (simp; done) | (simp; omega)))))
  have HB6 : Below w.heap.size w w6 := HB5.trans (st6.mono HB5.size)
  replace p0 := p0.below st6 p0.lt
  replace pw0 := pw0.below st6 pw0.lt
  replace pw1 := pw1.below st6 pw1.lt
  replace px0 := px0.below st6 px0.lt
  have pg0 : Blk w6 (w5.heap.size) 25 #[.int .i64 (sQ q0 xs0 a1), .slice Ag0 ng0 cg0] := by simpa using ((Blk.new w5 25 #[.int .i64 (sQ q0 xs0 a1), .slice Ag0 ng0 cg0]).alloc _).below hb6 (by first | (simp; done) | (simp; omega))
  have pg1 : Blk w6 (w5.heap.size + 1) 25 #[.int .i64 (sQ q0 xs0 a1), .slice Ag1 ng1 cg1] := by simpa using (Blk.new (w5.alloc (.cells #[.int .i64 (sQ q0 xs0 a1), .slice Ag0 ng0 cg0] 25)) 25 #[.int .i64 (sQ q0 xs0 a1), .slice Ag1 ng1 cg1]).below hb6 (by first | (simp; done) | (simp; omega))
  replace ow0 := ow0.keep (same_of_below st6 (by omega))
  replace ow1 := ow1.keep (same_of_below st6 (by omega))
  replace ox0 := ox0.keep (same_of_below st6 (by omega))
  replace og0 := og0.keep (same_of_below st6 (by omega))
  replace og1 := og1.keep (same_of_below st6 (by omega))
  clear HB5
  clear st6
  have fp0 := p0.two; have lp0 := p0.lt
  have fpw0 := pw0.two; have lpw0 := pw0.lt
  have fpw1 := pw1.two; have lpw1 := pw1.lt
  have fpx0 := px0.two; have lpx0 := px0.lt
  have fpg0 := pg0.two; have lpg0 := pg0.lt
  have fpg1 := pg1.two; have lpg1 := pg1.lt
  go_wp2_with fail
  refine (eqView_same _ _ _ (sQ q0 xs0 a1) (sHigh q0 xs0 a1) _ _ _ _ (og1.ints (B := w6.heap.size) (by omega)) (ow1.ints (B := w6.heap.size) (by omega)) (by have := og1.len; omega) (by have := ow1.len; omega)).mono ?_
  rintro e w7 ⟨rfl, hb7⟩
  clear fp0 lp0 fpw0 lpw0 fpw1 lpw1 fpx0 lpx0 fpg0 lpg0 fpg1 lpg1
  have z7 : w6.heap.size ≤ w7.heap.size := by have := hb7.size; simpa using this
  have st7 : Below w6.heap.size w6 w7 := (by repeat' (first | with_reducible exact Below.refl _ _ | with_reducible refine Below.alloc ?_ (by first | omega | (simp; done) | (simp; omega)) _ | with_reducible refine below_drewN ?_ _ | with_reducible refine Below.drew ?_ | with_reducible refine Below.setCell ?_ (by first | omega | (simp; done) | (simp; omega)) _ | with_reducible refine Below.trans ?_ (Below.mono hb7 (by first | omega | (simp; done) | (simp; omega)))))
  have HB7 : Below w.heap.size w w7 := HB6.trans (st7.mono HB6.size)
  replace p0 := p0.below st7 p0.lt
  replace pw0 := pw0.below st7 pw0.lt
  replace pw1 := pw1.below st7 pw1.lt
  replace px0 := px0.below st7 px0.lt
  replace pg0 := pg0.below st7 pg0.lt
  replace pg1 := pg1.below st7 pg1.lt
  replace ow0 := ow0.keep (same_of_below st7 (by omega))
  replace ow1 := ow1.keep (same_of_below st7 (by omega))
  replace ox0 := ox0.keep (same_of_below st7 (by omega))
  replace og0 := og0.keep (same_of_below st7 (by omega))
  replace og1 := og1.keep (same_of_below st7 (by omega))
  clear HB6
  clear st7
  have fp0 := p0.two; have lp0 := p0.lt
  have fpw0 := pw0.two; have lpw0 := pw0.lt
  have fpw1 := pw1.two; have lpw1 := pw1.lt
  have fpx0 := px0.two; have lpx0 := px0.lt
  have fpg0 := pg0.two; have lpg0 := pg0.lt
  have fpg1 := pg1.two; have lpg1 := pg1.lt
  go_wp2_with fail
  go_region_held3 (fun w' => w'.cell? ⟨w4.heap.size, 0, none⟩ = some (.int .i64 (q0)) ∧ w'.cell? ⟨w4.heap.size, 1, none⟩ = some (.slice Ax0 nx0 cx0) ∧ w'.cell? ⟨w.heap.size, 0, none⟩ = some (.int .i64 (q0)) ∧ w'.cell? ⟨w.heap.size, 1, none⟩ = some (.slice A0 n0 c0))
    (first
      | exact ⟨fpx0.1, fpx0.2.1, fp0.1, fp0.2.1⟩
      | exact ⟨gpx0.1, gpx0.2.1, gp0.1, gp0.2.1⟩
      | exact ⟨kpx0.1, kpx0.2.1, kp0.1, kp0.2.1⟩)
    (first
      | (go_at_call 34; refine (toView_any _ _ _ q0 xs0 _ (hx0.up (by repeat' (first | with_reducible exact Below.refl _ _ | with_reducible assumption | with_reducible refine Below.setCell ?_ (by first | omega | (simp; done) | (simp; omega)) _ | with_reducible refine Below.alloc ?_ (by first | omega | (simp; done) | (simp; omega)) _ | with_reducible refine below_drewN ?_ _ | with_reducible refine Below.drew ?_ | (with_reducible refine Below.trans ?_ (Below.mono (by with_reducible assumption) (by first | omega | (simp; done) | (simp; omega)))))) (by first | omega | (simp; done) | (simp; omega))) (by omega)).mono ?_; rintro e w8 ⟨Ay0, ny0, cy0, rfl, oy0, hb8⟩; have z8 : w7.heap.size ≤ w8.heap.size := hb8.size; have st8 : Below w7.heap.size w7 w8 := (by repeat' (first | with_reducible exact Below.refl _ _ | with_reducible refine Below.alloc ?_ (by first | omega | (simp; done) | (simp; omega)) _ | with_reducible refine below_drewN ?_ _ | with_reducible refine Below.drew ?_ | with_reducible refine Below.setCell ?_ (by first | omega | (simp; done) | (simp; omega)) _ | with_reducible refine Below.trans ?_ (Below.mono hb8 (by first | omega | (simp; done) | (simp; omega))))); have gpx0 := (px0.below st8 (by omega)).two; have gp0 := (p0.below st8 (by omega)).two)
      | (go_at_call 35; refine (eqView_same _ _ _ q0 xs0 _ _ _ _ ((ox0.keep (same_of_below st8 (by omega))).ints (by omega)) oy0.ints (by have := (ox0).len; have := (hx0).len; omega) (by have := (oy0).len; have := (hx0).len; omega)).mono ?_; rintro e w9 ⟨rfl, hb9⟩; have z9 : w8.heap.size ≤ w9.heap.size := hb9.size; have st9 : Below w7.heap.size w7 w9 := st8.trans (((by repeat' (first | with_reducible exact Below.refl _ _ | with_reducible refine Below.alloc ?_ (by first | omega | (simp; done) | (simp; omega)) _ | with_reducible refine below_drewN ?_ _ | with_reducible refine Below.drew ?_ | with_reducible refine Below.setCell ?_ (by first | omega | (simp; done) | (simp; omega)) _ | with_reducible refine Below.trans ?_ (Below.mono hb9 (by first | omega | (simp; done) | (simp; omega))))) : Below w8.heap.size w8 w9).mono z8); have kpx0 := (px0.below st9 (by omega)).two; have kp0 := (p0.below st9 (by omega)).two))
  clear fp0 lp0 fpw0 lpw0 fpw1 lpw1 fpx0 lpx0 fpg0 lpg0 fpg1 lpg1
  clear gpx0 gp0 kpx0 kp0 oy0 hb8 hb9 st8
  have HB9 : Below w.heap.size w w9 := HB7.trans (st9.mono HB7.size)
  replace p0 := p0.below st9 p0.lt
  replace pw0 := pw0.below st9 pw0.lt
  replace pw1 := pw1.below st9 pw1.lt
  replace px0 := px0.below st9 px0.lt
  replace pg0 := pg0.below st9 pg0.lt
  replace pg1 := pg1.below st9 pg1.lt
  replace ow0 := ow0.keep (same_of_below st9 (by omega))
  replace ow1 := ow1.keep (same_of_below st9 (by omega))
  replace ox0 := ox0.keep (same_of_below st9 (by omega))
  replace og0 := og0.keep (same_of_below st9 (by omega))
  replace og1 := og1.keep (same_of_below st9 (by omega))
  clear HB7
  clear st9
  have fp0 := p0.two; have lp0 := p0.lt
  have fpw0 := pw0.two; have lpw0 := pw0.lt
  have fpw1 := pw1.two; have lpw1 := pw1.lt
  have fpx0 := px0.two; have lpx0 := px0.lt
  have fpg0 := pg0.two; have lpg0 := pg0.lt
  have fpg1 := pg1.two; have lpg1 := pg1.lt
  go_wp2_with fail
  refine (markView_t _ _ _ _ _ _ _ (1) _ ox0 (by omega) (by omega) (by have := (ox0).len; have := (hx0).len; omega)).mono ?_
  clear ox0
  rintro e w10 ⟨rfl, ox0, hb10⟩
  clear fp0 lp0 fpw0 lpw0 fpw1 lpw1 fpx0 lpx0 fpg0 lpg0 fpg1 lpg1
  have z10 : w9.heap.size ≤ w10.heap.size := by have := hb10.size; simpa using this
  have HB10 : Below w.heap.size w w10 := HB9.trans (hb10.below (by omega) (by omega))
  replace p0 := hb10.blk p0 (by omega)
  replace pw0 := hb10.blk pw0 (by omega)
  replace pw1 := hb10.blk pw1 (by omega)
  replace px0 := hb10.blk px0 (by omega)
  replace pg0 := hb10.blk pg0 (by omega)
  replace pg1 := hb10.blk pg1 (by omega)
  replace ow0 := ow0.keep (hb10.same (by omega) (by omega))
  replace ow1 := ow1.keep (hb10.same (by omega) (by omega))
  replace og0 := og0.keep (hb10.same (by omega) (by omega))
  replace og1 := og1.keep (hb10.same (by omega) (by omega))
  clear HB9
  clear hb10
  have fp0 := p0.two; have lp0 := p0.lt
  have fpw0 := pw0.two; have lpw0 := pw0.lt
  have fpw1 := pw1.two; have lpw1 := pw1.lt
  have fpx0 := px0.two; have lpx0 := px0.lt
  have fpg0 := pg0.two; have lpg0 := pg0.lt
  have fpg1 := pg1.two; have lpg1 := pg1.lt
  go_wp2_with fail
  refine (eqView_same _ _ _ (sQ q0 xs0 a1) (sLow q0 xs0 a1) _ _ _ _ (og0.ints (B := w10.heap.size) (by omega)) (ow0.ints (B := w10.heap.size) (by omega)) (by have := og0.len; omega) (by have := ow0.len; omega)).mono ?_
  rintro e w11 ⟨rfl, hb11⟩
  clear fp0 lp0 fpw0 lpw0 fpw1 lpw1 fpx0 lpx0 fpg0 lpg0 fpg1 lpg1
  have z11 : w10.heap.size ≤ w11.heap.size := by have := hb11.size; simpa using this
  have st11 : Below w10.heap.size w10 w11 := (by repeat' (first | with_reducible exact Below.refl _ _ | with_reducible refine Below.alloc ?_ (by first | omega | (simp; done) | (simp; omega)) _ | with_reducible refine below_drewN ?_ _ | with_reducible refine Below.drew ?_ | with_reducible refine Below.setCell ?_ (by first | omega | (simp; done) | (simp; omega)) _ | with_reducible refine Below.trans ?_ (Below.mono hb11 (by first | omega | (simp; done) | (simp; omega)))))
  have HB11 : Below w.heap.size w w11 := HB10.trans (st11.mono HB10.size)
  replace p0 := p0.below st11 p0.lt
  replace pw0 := pw0.below st11 pw0.lt
  replace pw1 := pw1.below st11 pw1.lt
  replace px0 := px0.below st11 px0.lt
  replace pg0 := pg0.below st11 pg0.lt
  replace pg1 := pg1.below st11 pg1.lt
  replace ow0 := ow0.keep (same_of_below st11 (by omega))
  replace ow1 := ow1.keep (same_of_below st11 (by omega))
  replace ox0 := ox0.keep (same_of_below st11 (by omega))
  replace og0 := og0.keep (same_of_below st11 (by omega))
  replace og1 := og1.keep (same_of_below st11 (by omega))
  clear HB10
  clear st11
  have fp0 := p0.two; have lp0 := p0.lt
  have fpw0 := pw0.two; have lpw0 := pw0.lt
  have fpw1 := pw1.two; have lpw1 := pw1.lt
  have fpx0 := px0.two; have lpx0 := px0.lt
  have fpg0 := pg0.two; have lpg0 := pg0.lt
  have fpg1 := pg1.two; have lpg1 := pg1.lt
  go_wp2_with fail
  refine (eqView_same _ _ _ (sQ q0 xs0 a1) (sHigh q0 xs0 a1) _ _ _ _ (og1.ints (B := w11.heap.size) (by omega)) (ow1.ints (B := w11.heap.size) (by omega)) (by have := og1.len; omega) (by have := ow1.len; omega)).mono ?_
  rintro e w12 ⟨rfl, hb12⟩
  clear fp0 lp0 fpw0 lpw0 fpw1 lpw1 fpx0 lpx0 fpg0 lpg0 fpg1 lpg1
  have z12 : w11.heap.size ≤ w12.heap.size := by have := hb12.size; simpa using this
  have st12 : Below w11.heap.size w11 w12 := (by repeat' (first | with_reducible exact Below.refl _ _ | with_reducible refine Below.alloc ?_ (by first | omega | (simp; done) | (simp; omega)) _ | with_reducible refine below_drewN ?_ _ | with_reducible refine Below.drew ?_ | with_reducible refine Below.setCell ?_ (by first | omega | (simp; done) | (simp; omega)) _ | with_reducible refine Below.trans ?_ (Below.mono hb12 (by first | omega | (simp; done) | (simp; omega)))))
  have HB12 : Below w.heap.size w w12 := HB11.trans (st12.mono HB11.size)
  replace p0 := p0.below st12 p0.lt
  replace pw0 := pw0.below st12 pw0.lt
  replace pw1 := pw1.below st12 pw1.lt
  replace px0 := px0.below st12 px0.lt
  replace pg0 := pg0.below st12 pg0.lt
  replace pg1 := pg1.below st12 pg1.lt
  replace ow0 := ow0.keep (same_of_below st12 (by omega))
  replace ow1 := ow1.keep (same_of_below st12 (by omega))
  replace ox0 := ox0.keep (same_of_below st12 (by omega))
  replace og0 := og0.keep (same_of_below st12 (by omega))
  replace og1 := og1.keep (same_of_below st12 (by omega))
  clear HB11
  clear st12
  have fp0 := p0.two; have lp0 := p0.lt
  have fpw0 := pw0.two; have lpw0 := pw0.lt
  have fpw1 := pw1.two; have lpw1 := pw1.lt
  have fpx0 := px0.two; have lpx0 := px0.lt
  have fpg0 := pg0.two; have lpg0 := pg0.lt
  have fpg1 := pg1.two; have lpg1 := pg1.lt
  go_wp2_with fail
  refine (markView_t _ _ _ _ _ _ _ (1) _ og0 (by omega) (by omega) (by have := og0.len; omega)).mono ?_
  clear og0
  rintro e w13 ⟨rfl, og0, hb13⟩
  clear fp0 lp0 fpw0 lpw0 fpw1 lpw1 fpx0 lpx0 fpg0 lpg0 fpg1 lpg1
  have z13 : w12.heap.size ≤ w13.heap.size := by have := hb13.size; simpa using this
  have HB13 : Below w.heap.size w w13 := HB12.trans (hb13.below (by omega) (by omega))
  replace p0 := hb13.blk p0 (by omega)
  replace pw0 := hb13.blk pw0 (by omega)
  replace pw1 := hb13.blk pw1 (by omega)
  replace px0 := hb13.blk px0 (by omega)
  replace pg0 := hb13.blk pg0 (by omega)
  replace pg1 := hb13.blk pg1 (by omega)
  replace ow0 := ow0.keep (hb13.same (by omega) (by omega))
  replace ow1 := ow1.keep (hb13.same (by omega) (by omega))
  replace ox0 := ox0.keep (hb13.same (by omega) (by omega))
  replace og1 := og1.keep (hb13.same (by omega) (by omega))
  clear HB12
  clear hb13
  have fp0 := p0.two; have lp0 := p0.lt
  have fpw0 := pw0.two; have lpw0 := pw0.lt
  have fpw1 := pw1.two; have lpw1 := pw1.lt
  have fpx0 := px0.two; have lpx0 := px0.lt
  have fpg0 := pg0.two; have lpg0 := pg0.lt
  have fpg1 := pg1.two; have lpg1 := pg1.lt
  go_wp2_with fail
  refine (markView_t _ _ _ _ _ _ _ (1 + (ng0 : Int)) _ og1 (by omega) (by omega) (by have := og1.len; omega)).mono ?_
  clear og1
  rintro e w14 ⟨rfl, og1, hb14⟩
  clear fp0 lp0 fpw0 lpw0 fpw1 lpw1 fpx0 lpx0 fpg0 lpg0 fpg1 lpg1
  have z14 : w13.heap.size ≤ w14.heap.size := by have := hb14.size; simpa using this
  have HB14 : Below w.heap.size w w14 := HB13.trans (hb14.below (by omega) (by omega))
  replace p0 := hb14.blk p0 (by omega)
  replace pw0 := hb14.blk pw0 (by omega)
  replace pw1 := hb14.blk pw1 (by omega)
  replace px0 := hb14.blk px0 (by omega)
  replace pg0 := hb14.blk pg0 (by omega)
  replace pg1 := hb14.blk pg1 (by omega)
  replace ow0 := ow0.keep (hb14.same (by omega) (by omega))
  replace ow1 := ow1.keep (hb14.same (by omega) (by omega))
  replace ox0 := ox0.keep (hb14.same (by omega) (by omega))
  replace og0 := og0.keep (hb14.same (by omega) (by omega))
  clear HB13
  clear hb14
  have fp0 := p0.two; have lp0 := p0.lt
  have fpw0 := pw0.two; have lpw0 := pw0.lt
  have fpw1 := pw1.two; have lpw1 := pw1.lt
  have fpx0 := px0.two; have lpx0 := px0.lt
  have fpg0 := pg0.two; have lpg0 := pg0.lt
  have fpg1 := pg1.two; have lpg1 := pg1.lt
  go_wp2_with fail
  refine (heldView_v _ _ _ (1) _ (og0.ints (B := w14.heap.size) (by omega)) (by omega) (by omega) (by omega)).mono ?_
  rintro e w15 ⟨rfl, hb15⟩
  clear fp0 lp0 fpw0 lpw0 fpw1 lpw1 fpx0 lpx0 fpg0 lpg0 fpg1 lpg1
  have z15 : w14.heap.size ≤ w15.heap.size := by have := hb15.size; simpa using this
  have st15 : Below w14.heap.size w14 w15 := (by repeat' (first | with_reducible exact Below.refl _ _ | with_reducible refine Below.alloc ?_ (by first | omega | (simp; done) | (simp; omega)) _ | with_reducible refine below_drewN ?_ _ | with_reducible refine Below.drew ?_ | with_reducible refine Below.setCell ?_ (by first | omega | (simp; done) | (simp; omega)) _ | with_reducible refine Below.trans ?_ (Below.mono hb15 (by first | omega | (simp; done) | (simp; omega)))))
  have HB15 : Below w.heap.size w w15 := HB14.trans (st15.mono HB14.size)
  replace p0 := p0.below st15 p0.lt
  replace pw0 := pw0.below st15 pw0.lt
  replace pw1 := pw1.below st15 pw1.lt
  replace px0 := px0.below st15 px0.lt
  replace pg0 := pg0.below st15 pg0.lt
  replace pg1 := pg1.below st15 pg1.lt
  replace ow0 := ow0.keep (same_of_below st15 (by omega))
  replace ow1 := ow1.keep (same_of_below st15 (by omega))
  replace ox0 := ox0.keep (same_of_below st15 (by omega))
  replace og0 := og0.keep (same_of_below st15 (by omega))
  replace og1 := og1.keep (same_of_below st15 (by omega))
  clear HB14
  clear st15
  have fp0 := p0.two; have lp0 := p0.lt
  have fpw0 := pw0.two; have lpw0 := pw0.lt
  have fpw1 := pw1.two; have lpw1 := pw1.lt
  have fpx0 := px0.two; have lpx0 := px0.lt
  have fpg0 := pg0.two; have lpg0 := pg0.lt
  have fpg1 := pg1.two; have lpg1 := pg1.lt
  go_wp2_with fail
  refine (heldView_v _ _ _ (1 + (ng0 : Int)) _ (og1.ints (B := w15.heap.size) (by omega)) (by omega) (by omega) (by omega)).mono ?_
  rintro e w16 ⟨rfl, hb16⟩
  clear fp0 lp0 fpw0 lpw0 fpw1 lpw1 fpx0 lpx0 fpg0 lpg0 fpg1 lpg1
  have z16 : w15.heap.size ≤ w16.heap.size := by have := hb16.size; simpa using this
  have st16 : Below w15.heap.size w15 w16 := (by repeat' (first | with_reducible exact Below.refl _ _ | with_reducible refine Below.alloc ?_ (by first | omega | (simp; done) | (simp; omega)) _ | with_reducible refine below_drewN ?_ _ | with_reducible refine Below.drew ?_ | with_reducible refine Below.setCell ?_ (by first | omega | (simp; done) | (simp; omega)) _ | with_reducible refine Below.trans ?_ (Below.mono hb16 (by first | omega | (simp; done) | (simp; omega)))))
  have HB16 : Below w.heap.size w w16 := HB15.trans (st16.mono HB15.size)
  replace p0 := p0.below st16 p0.lt
  replace pw0 := pw0.below st16 pw0.lt
  replace pw1 := pw1.below st16 pw1.lt
  replace px0 := px0.below st16 px0.lt
  replace pg0 := pg0.below st16 pg0.lt
  replace pg1 := pg1.below st16 pg1.lt
  replace ow0 := ow0.keep (same_of_below st16 (by omega))
  replace ow1 := ow1.keep (same_of_below st16 (by omega))
  replace ox0 := ox0.keep (same_of_below st16 (by omega))
  replace og0 := og0.keep (same_of_below st16 (by omega))
  replace og1 := og1.keep (same_of_below st16 (by omega))
  clear HB15
  clear st16
  have fp0 := p0.two; have lp0 := p0.lt
  have fpw0 := pw0.two; have lpw0 := pw0.lt
  have fpw1 := pw1.two; have lpw1 := pw1.lt
  have fpx0 := px0.two; have lpx0 := px0.lt
  have fpg0 := pg0.two; have lpg0 := pg0.lt
  have fpg1 := pg1.two; have lpg1 := pg1.lt
  go_wp2_with fail
  refine (toView_any _ _ _ q0 xs0 _ (hx0.up HB16 HB16.size) (by omega)).mono ?_
  rintro e w17 ⟨Ab0, nb0, cb0, rfl, ob0, hb17⟩
  clear fp0 lp0 fpw0 lpw0 fpw1 lpw1 fpx0 lpx0 fpg0 lpg0 fpg1 lpg1
  have z17 : w16.heap.size ≤ w17.heap.size := by have := hb17.size; simpa using this
  have st17 : Below w16.heap.size w16 w17 := (by repeat' (first | with_reducible exact Below.refl _ _ | with_reducible refine Below.alloc ?_ (by first | omega | (simp; done) | (simp; omega)) _ | with_reducible refine below_drewN ?_ _ | with_reducible refine Below.drew ?_ | with_reducible refine Below.setCell ?_ (by first | omega | (simp; done) | (simp; omega)) _ | with_reducible refine Below.trans ?_ (Below.mono hb17 (by first | omega | (simp; done) | (simp; omega)))))
  have HB17 : Below w.heap.size w w17 := HB16.trans (st17.mono HB16.size)
  replace p0 := p0.below st17 p0.lt
  replace pw0 := pw0.below st17 pw0.lt
  replace pw1 := pw1.below st17 pw1.lt
  replace px0 := px0.below st17 px0.lt
  replace pg0 := pg0.below st17 pg0.lt
  replace pg1 := pg1.below st17 pg1.lt
  replace ow0 := ow0.keep (same_of_below st17 (by omega))
  replace ow1 := ow1.keep (same_of_below st17 (by omega))
  replace ox0 := ox0.keep (same_of_below st17 (by omega))
  replace og0 := og0.keep (same_of_below st17 (by omega))
  replace og1 := og1.keep (same_of_below st17 (by omega))
  clear HB16
  clear st17
  have fp0 := p0.two; have lp0 := p0.lt
  have fpw0 := pw0.two; have lpw0 := pw0.lt
  have fpw1 := pw1.two; have lpw1 := pw1.lt
  have fpx0 := px0.two; have lpx0 := px0.lt
  have fpg0 := pg0.two; have lpg0 := pg0.lt
  have fpg1 := pg1.two; have lpg1 := pg1.lt
  replace ob0 := (rowI ob0).mono (b' := w16.heap.size) (by first | omega | (simp; done) | (simp; omega)) (Nat.le_refl _)
  go_wp2_with fail
  refine (implSplit_any _ _ _ q0 xs0 a1 ea _ (hsE.below HB17 hsE.lt) (ob0.ints (B := w17.heap.size) (by omega)) (by have := (ob0).len; have := (hx0).len; omega)).mono ?_
  rintro e w18 ⟨Ah0, nh0, ch0, Ah1, nh1, ch1, midh, rfl, oh0, oh1, lmh, hmh, hb18⟩
  clear fp0 lp0 fpw0 lpw0 fpw1 lpw1 fpx0 lpx0 fpg0 lpg0 fpg1 lpg1
  have z18 : w17.heap.size ≤ w18.heap.size := by have := hb18.size; simpa using this
  have st18 : Below w17.heap.size w17 w18 := (by repeat' (first | with_reducible exact Below.refl _ _ | with_reducible refine Below.alloc ?_ (by first | omega | (simp; done) | (simp; omega)) _ | with_reducible refine below_drewN ?_ _ | with_reducible refine Below.drew ?_ | with_reducible refine Below.setCell ?_ (by first | omega | (simp; done) | (simp; omega)) _ | with_reducible refine Below.trans ?_ (Below.mono hb18 (by first | omega | (simp; done) | (simp; omega)))))
  have HB18 : Below w.heap.size w w18 := HB17.trans (st18.mono HB17.size)
  replace p0 := p0.below st18 p0.lt
  replace pw0 := pw0.below st18 pw0.lt
  replace pw1 := pw1.below st18 pw1.lt
  replace px0 := px0.below st18 px0.lt
  replace pg0 := pg0.below st18 pg0.lt
  replace pg1 := pg1.below st18 pg1.lt
  replace ow0 := ow0.keep (same_of_below st18 (by omega))
  replace ow1 := ow1.keep (same_of_below st18 (by omega))
  replace ox0 := ox0.keep (same_of_below st18 (by omega))
  replace og0 := og0.keep (same_of_below st18 (by omega))
  replace og1 := og1.keep (same_of_below st18 (by omega))
  replace ob0 := ob0.keep (same_of_below st18 (by omega))
  clear HB17
  clear st18
  have fp0 := p0.two; have lp0 := p0.lt
  have fpw0 := pw0.two; have lpw0 := pw0.lt
  have fpw1 := pw1.two; have lpw1 := pw1.lt
  have fpx0 := px0.two; have lpx0 := px0.lt
  have fpg0 := pg0.two; have lpg0 := pg0.lt
  have fpg1 := pg1.two; have lpg1 := pg1.lt
  replace oh0 := oh0.mono (b' := w17.heap.size) (by first | omega | (simp; done) | (simp; omega)) (Nat.le_refl _)
  clear ob0
  go_wp2_with fail
  refine (eqView_same _ _ _ (sQ q0 xs0 a1) (sLow q0 xs0 a1) _ _ _ _ (((oh0.ints (B := w18.heap.size) (by omega)).box _).box _) (((ow0.ints (B := w18.heap.size) (by omega)).box _).box _) (by have := oh0.len; omega) (by have := ow0.len; omega)).mono ?_
  rintro e w19 ⟨rfl, hb19⟩
  clear fp0 lp0 fpw0 lpw0 fpw1 lpw1 fpx0 lpx0 fpg0 lpg0 fpg1 lpg1
  have z19 : w18.heap.size + 2 ≤ w19.heap.size := by have := hb19.size; simpa using this
  have st19 : Below w18.heap.size w18 w19 := (by repeat' (first | with_reducible exact Below.refl _ _ | with_reducible refine Below.alloc ?_ (by first | omega | (simp; done) | (simp; omega)) _ | with_reducible refine below_drewN ?_ _ | with_reducible refine Below.drew ?_ | with_reducible refine Below.setCell ?_ (by first | omega | (simp; done) | (simp; omega)) _ | with_reducible refine Below.trans ?_ (Below.mono hb19 (by first | omega | (simp; done) | (simp; omega)))))
  have HB19 : Below w.heap.size w w19 := HB18.trans (st19.mono HB18.size)
  replace p0 := p0.below st19 p0.lt
  replace pw0 := pw0.below st19 pw0.lt
  replace pw1 := pw1.below st19 pw1.lt
  replace px0 := px0.below st19 px0.lt
  replace pg0 := pg0.below st19 pg0.lt
  replace pg1 := pg1.below st19 pg1.lt
  have ph0 : Blk w19 (w18.heap.size) 25 #[.int .i64 (sQ q0 xs0 a1), .slice Ah0 nh0 ch0] := by simpa using ((Blk.new w18 25 #[.int .i64 (sQ q0 xs0 a1), .slice Ah0 nh0 ch0]).alloc _).below hb19 (by first | (simp; done) | (simp; omega))
  have ph1 : Blk w19 (w18.heap.size + 1) 25 #[.int .i64 (sQ q0 xs0 a1), .slice Ah1 nh1 ch1] := by simpa using (Blk.new (w18.alloc (.cells #[.int .i64 (sQ q0 xs0 a1), .slice Ah0 nh0 ch0] 25)) 25 #[.int .i64 (sQ q0 xs0 a1), .slice Ah1 nh1 ch1]).below hb19 (by first | (simp; done) | (simp; omega))
  replace ow0 := ow0.keep (same_of_below st19 (by omega))
  replace ow1 := ow1.keep (same_of_below st19 (by omega))
  replace ox0 := ox0.keep (same_of_below st19 (by omega))
  replace og0 := og0.keep (same_of_below st19 (by omega))
  replace og1 := og1.keep (same_of_below st19 (by omega))
  replace oh0 := oh0.keep (same_of_below st19 (by omega))
  replace oh1 := oh1.keep (same_of_below st19 (by omega))
  clear HB18
  clear st19
  have fp0 := p0.two; have lp0 := p0.lt
  have fpw0 := pw0.two; have lpw0 := pw0.lt
  have fpw1 := pw1.two; have lpw1 := pw1.lt
  have fpx0 := px0.two; have lpx0 := px0.lt
  have fpg0 := pg0.two; have lpg0 := pg0.lt
  have fpg1 := pg1.two; have lpg1 := pg1.lt
  have fph0 := ph0.two; have lph0 := ph0.lt
  have fph1 := ph1.two; have lph1 := ph1.lt
  go_wp2_with fail
  refine (eqView_same _ _ _ (sQ q0 xs0 a1) (sHigh q0 xs0 a1) _ _ _ _ (oh1.ints (B := w19.heap.size) (by omega)) (ow1.ints (B := w19.heap.size) (by omega)) (by have := oh1.len; omega) (by have := ow1.len; omega)).mono ?_
  rintro e w20 ⟨rfl, hb20⟩
  clear fp0 lp0 fpw0 lpw0 fpw1 lpw1 fpx0 lpx0 fpg0 lpg0 fpg1 lpg1 fph0 lph0 fph1 lph1
  have z20 : w19.heap.size ≤ w20.heap.size := by have := hb20.size; simpa using this
  have st20 : Below w19.heap.size w19 w20 := (by repeat' (first | with_reducible exact Below.refl _ _ | with_reducible refine Below.alloc ?_ (by first | omega | (simp; done) | (simp; omega)) _ | with_reducible refine below_drewN ?_ _ | with_reducible refine Below.drew ?_ | with_reducible refine Below.setCell ?_ (by first | omega | (simp; done) | (simp; omega)) _ | with_reducible refine Below.trans ?_ (Below.mono hb20 (by first | omega | (simp; done) | (simp; omega)))))
  have HB20 : Below w.heap.size w w20 := HB19.trans (st20.mono HB19.size)
  replace p0 := p0.below st20 p0.lt
  replace pw0 := pw0.below st20 pw0.lt
  replace pw1 := pw1.below st20 pw1.lt
  replace px0 := px0.below st20 px0.lt
  replace pg0 := pg0.below st20 pg0.lt
  replace pg1 := pg1.below st20 pg1.lt
  replace ph0 := ph0.below st20 ph0.lt
  replace ph1 := ph1.below st20 ph1.lt
  replace ow0 := ow0.keep (same_of_below st20 (by omega))
  replace ow1 := ow1.keep (same_of_below st20 (by omega))
  replace ox0 := ox0.keep (same_of_below st20 (by omega))
  replace og0 := og0.keep (same_of_below st20 (by omega))
  replace og1 := og1.keep (same_of_below st20 (by omega))
  replace oh0 := oh0.keep (same_of_below st20 (by omega))
  replace oh1 := oh1.keep (same_of_below st20 (by omega))
  clear HB19
  clear st20
  have fp0 := p0.two; have lp0 := p0.lt
  have fpw0 := pw0.two; have lpw0 := pw0.lt
  have fpw1 := pw1.two; have lpw1 := pw1.lt
  have fpx0 := px0.two; have lpx0 := px0.lt
  have fpg0 := pg0.two; have lpg0 := pg0.lt
  have fpg1 := pg1.two; have lpg1 := pg1.lt
  have fph0 := ph0.two; have lph0 := ph0.lt
  have fph1 := ph1.two; have lph1 := ph1.lt
  go_wp2_with fail
  refine (heldView_v _ _ _ (1) _ (og0.ints (B := w20.heap.size) (by omega)) (by omega) (by omega) (by omega)).mono ?_
  rintro e w21 ⟨rfl, hb21⟩
  clear fp0 lp0 fpw0 lpw0 fpw1 lpw1 fpx0 lpx0 fpg0 lpg0 fpg1 lpg1 fph0 lph0 fph1 lph1
  have z21 : w20.heap.size ≤ w21.heap.size := by have := hb21.size; simpa using this
  have st21 : Below w20.heap.size w20 w21 := (by repeat' (first | with_reducible exact Below.refl _ _ | with_reducible refine Below.alloc ?_ (by first | omega | (simp; done) | (simp; omega)) _ | with_reducible refine below_drewN ?_ _ | with_reducible refine Below.drew ?_ | with_reducible refine Below.setCell ?_ (by first | omega | (simp; done) | (simp; omega)) _ | with_reducible refine Below.trans ?_ (Below.mono hb21 (by first | omega | (simp; done) | (simp; omega)))))
  have HB21 : Below w.heap.size w w21 := HB20.trans (st21.mono HB20.size)
  replace p0 := p0.below st21 p0.lt
  replace pw0 := pw0.below st21 pw0.lt
  replace pw1 := pw1.below st21 pw1.lt
  replace px0 := px0.below st21 px0.lt
  replace pg0 := pg0.below st21 pg0.lt
  replace pg1 := pg1.below st21 pg1.lt
  replace ph0 := ph0.below st21 ph0.lt
  replace ph1 := ph1.below st21 ph1.lt
  replace ow0 := ow0.keep (same_of_below st21 (by omega))
  replace ow1 := ow1.keep (same_of_below st21 (by omega))
  replace ox0 := ox0.keep (same_of_below st21 (by omega))
  replace og0 := og0.keep (same_of_below st21 (by omega))
  replace og1 := og1.keep (same_of_below st21 (by omega))
  replace oh0 := oh0.keep (same_of_below st21 (by omega))
  replace oh1 := oh1.keep (same_of_below st21 (by omega))
  clear HB20
  clear st21
  have fp0 := p0.two; have lp0 := p0.lt
  have fpw0 := pw0.two; have lpw0 := pw0.lt
  have fpw1 := pw1.two; have lpw1 := pw1.lt
  have fpx0 := px0.two; have lpx0 := px0.lt
  have fpg0 := pg0.two; have lpg0 := pg0.lt
  have fpg1 := pg1.two; have lpg1 := pg1.lt
  have fph0 := ph0.two; have lph0 := ph0.lt
  have fph1 := ph1.two; have lph1 := ph1.lt
  go_wp2_with fail
  refine (heldView_v _ _ _ (1 + (ng0 : Int)) _ (og1.ints (B := w21.heap.size) (by omega)) (by omega) (by omega) (by omega)).mono ?_
  rintro e w22 ⟨rfl, hb22⟩
  clear fp0 lp0 fpw0 lpw0 fpw1 lpw1 fpx0 lpx0 fpg0 lpg0 fpg1 lpg1 fph0 lph0 fph1 lph1
  have z22 : w21.heap.size ≤ w22.heap.size := by have := hb22.size; simpa using this
  have st22 : Below w21.heap.size w21 w22 := (by repeat' (first | with_reducible exact Below.refl _ _ | with_reducible refine Below.alloc ?_ (by first | omega | (simp; done) | (simp; omega)) _ | with_reducible refine below_drewN ?_ _ | with_reducible refine Below.drew ?_ | with_reducible refine Below.setCell ?_ (by first | omega | (simp; done) | (simp; omega)) _ | with_reducible refine Below.trans ?_ (Below.mono hb22 (by first | omega | (simp; done) | (simp; omega)))))
  have HB22 : Below w.heap.size w w22 := HB21.trans (st22.mono HB21.size)
  replace p0 := p0.below st22 p0.lt
  replace pw0 := pw0.below st22 pw0.lt
  replace pw1 := pw1.below st22 pw1.lt
  replace px0 := px0.below st22 px0.lt
  replace pg0 := pg0.below st22 pg0.lt
  replace pg1 := pg1.below st22 pg1.lt
  replace ph0 := ph0.below st22 ph0.lt
  replace ph1 := ph1.below st22 ph1.lt
  replace ow0 := ow0.keep (same_of_below st22 (by omega))
  replace ow1 := ow1.keep (same_of_below st22 (by omega))
  replace ox0 := ox0.keep (same_of_below st22 (by omega))
  replace og0 := og0.keep (same_of_below st22 (by omega))
  replace og1 := og1.keep (same_of_below st22 (by omega))
  replace oh0 := oh0.keep (same_of_below st22 (by omega))
  replace oh1 := oh1.keep (same_of_below st22 (by omega))
  clear HB21
  clear st22
  have fp0 := p0.two; have lp0 := p0.lt
  have fpw0 := pw0.two; have lpw0 := pw0.lt
  have fpw1 := pw1.two; have lpw1 := pw1.lt
  have fpx0 := px0.two; have lpx0 := px0.lt
  have fpg0 := pg0.two; have lpg0 := pg0.lt
  have fpg1 := pg1.two; have lpg1 := pg1.lt
  have fph0 := ph0.two; have lph0 := ph0.lt
  have fph1 := ph1.two; have lph1 := ph1.lt
  go_wp2
  go_ret
  exact ⟨rfl, HB22⟩
end Go.Proofs.YtmjacdcefaohcaaDoor
