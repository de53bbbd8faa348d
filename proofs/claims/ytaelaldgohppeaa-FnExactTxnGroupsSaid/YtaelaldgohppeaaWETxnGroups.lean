/-
  The walk of FnExactTxnGroups: the law returns true and writes nothing that was there.
-/
import Derived.Test.YtaelaldgohppeaaXX
import Derived.Deep.RegionHeld3
namespace Go.Proofs.Ytaelaldgohppeaa
open Go.RowKit
set_option linter.unusedVariables false

set_option maxRecDepth 100000 in
set_option maxHeartbeats 8000000 in
theorem exTxnGroups_walk (A : Option Addr) (n c : Nat) (xs : List Int) (q : Int) (B : Option Addr) (m d : Nat) (ps : List (Int × Int)) (w : World) (hn : n ≤ 9223372036854775807) (hx : Ints w w.heap.size A n xs) (hm : m ≤ 9223372036854775807) (hp : Puts w w.heap.size B m ps) :
    Calls Try.prog 21 #[.agg #[.slice A n c, .int .i64 q, .slice B m d]] w fun e w' => e = .returned (.bool true) ∧ Below w.heap.size w w' := by
  have hX := hx.box (.cells #[.slice A n c, .int .i64 q, .slice B m d] 42)
  have hP := hp.box (.cells #[.slice A n c, .int .i64 q, .slice B m d] 42)
  have pa := Blk.new w 42 #[.slice A n c, .int .i64 q, .slice B m d]
  have HBx : Below w.heap.size w (w.alloc (.cells #[.slice A n c, .int .i64 q, .slice B m d] 42)) := (Below.refl _ _).alloc (Nat.le_refl _) _
  have zx : (w.alloc (.cells #[.slice A n c, .int .i64 q, .slice B m d] 42)).heap.size = w.heap.size + 1 := by simp
  generalize hWx : w.alloc (.cells #[.slice A n c, .int .i64 q, .slice B m d] 42) = wx at hX hP pa HBx zx
  have fpa := pa.three
  rcases Int.lt_or_le 1048576 ((n : Int) + (m : Int)) with hsz | hsz
  · go_enter Try.func21, Try.ntmps21
    go_wp2_with fail
    refine (szTxn_no_x A n c B m d q _ _ (by omega) (by omega) hn hm hsz).mono ?_
    rintro e w1 ⟨rfl, hb1⟩
    go_wp2
    go_ret
    exact ⟨rfl, HBx.trans (hb1.mono HBx.size)⟩
  go_enter Try.func21, Try.ntmps21
  go_wp2_with fail
  refine (szTxn_yes_x A n c B m d q _ _ (by omega) (by omega)).mono ?_
  rintro e w0 ⟨rfl, hb0⟩
  have HB0 : Below w.heap.size w w0 := HBx.trans (hb0.mono HBx.size)
  have z0 := hb0.size
  replace pa := pa.below hb0 pa.lt
  clear hb0 hWx hX hP HBx fpa
  have UR0 := Ints.up hx HB0 HB0.size
  have UP0 := Puts.up hp HB0 HB0.size
  have fpa := pa.three
  have lpa := pa.lt
  go_wp2_with fail
  refine (toTxn_x A n c B m d q xs ps _ UR0 UP0 (by omega) (by omega)).mono ?_
  rintro e w1 ⟨Aa, na, ca, Ba, ma, da, rfl, oa, ua, hb1⟩
  clear fpa lpa
  have z1 : w0.heap.size ≤ w1.heap.size := hb1.size
  have HB1 : Below w.heap.size w w1 := HB0.trans (hb1.mono HB0.size)
  replace pa := pa.below hb1 pa.lt
  have UR1 := Ints.up hx HB1 HB1.size
  have UP1 := Puts.up hp HB1 HB1.size
  clear UR0 UP0
  have fpa := pa.three
  have lpa := pa.lt
  clear hb1
  replace oa := (rowI oa).mono (b' := w0.heap.size) (by omega) (Nat.le_refl _)
  replace ua := (rowP ua).mono (b' := w0.heap.size) (by omega) (Nat.le_refl _)
  have lna : na ≤ 1048576 := by have := oa.len; have := hx.len; omega
  have lma : ma ≤ 1048576 := by have := ua.len; have := hp.len; omega
  go_wp2_with fail
  refine (specTG_x _ _ _ _ _ _ q xs ps _ (oa.ints (B := w1.heap.size) (by omega)) (ua.ints (B := w1.heap.size) (by omega)) lna lma).mono ?_
  rintro e w2 ⟨Av, nv, cv, rfl, ov, hb2⟩
  clear fpa lpa
  have z2 : w1.heap.size ≤ w2.heap.size := hb2.size
  have HB2 : Below w.heap.size w w2 := HB1.trans (hb2.mono HB1.size)
  replace oa := oa.keep (same_of_below hb2 (by omega))
  replace ua := ua.keep (same_of_below hb2 (by omega))
  replace pa := pa.below hb2 pa.lt
  have UR2 := Ints.up hx HB2 HB2.size
  have UP2 := Puts.up hp HB2 HB2.size
  clear HB1 UR1 UP1
  have fpa := pa.three
  have lpa := pa.lt
  clear hb2
  replace ov := (rowI ov).mono (b' := w1.heap.size) (by omega) (Nat.le_refl _)
  have lnv : nv ≤ 1048576 := by have := ov.len; have := tgL_len ⟨xs, q, ps⟩; omega
  clear oa
  clear ua
  go_wp2_with fail
  refine (toTxn_x A n c B m d q xs ps _ UR2 UP2 (by omega) (by omega)).mono ?_
  rintro e w3 ⟨Ax, nx, cx, Bx, mx, dx, rfl, ox, ux, hb3⟩
  clear fpa lpa
  have z3 : w2.heap.size ≤ w3.heap.size := hb3.size
  have HB3 : Below w.heap.size w w3 := HB2.trans (hb3.mono HB2.size)
  replace ov := ov.keep (same_of_below hb3 (by omega))
  replace pa := pa.below hb3 pa.lt
  have UR3 := Ints.up hx HB3 HB3.size
  have UP3 := Puts.up hp HB3 HB3.size
  clear HB2 UR2 UP2
  have fpa := pa.three
  have lpa := pa.lt
  clear hb3
  replace ox := (rowI ox).mono (b' := w2.heap.size) (by omega) (Nat.le_refl _)
  replace ux := (rowP ux).mono (b' := w2.heap.size) (by omega) (Nat.le_refl _)
  have lnx : nx ≤ 1048576 := by have := ox.len; have := hx.len; omega
  have lmx : mx ≤ 1048576 := by have := ux.len; have := hp.len; omega
  go_wp2_with fail
  clear fpa lpa
  have px := Blk.new w3 47 #[.slice Ax nx cx, .int .i64 q, .slice Bx mx dx]
  have hb4 : Below w3.heap.size w3 (w3.alloc (.cells #[.slice Ax nx cx, .int .i64 q, .slice Bx mx dx] 47)) := (Below.refl _ _).alloc (Nat.le_refl _) _
  have zz4 : (w3.alloc (.cells #[.slice Ax nx cx, .int .i64 q, .slice Bx mx dx] 47)).heap.size = w3.heap.size + 1 := by simp
  generalize hW4 : w3.alloc (.cells #[.slice Ax nx cx, .int .i64 q, .slice Bx mx dx] 47) = w4 at px hb4 zz4 ⊢
  clear hW4
  have z4 : w3.heap.size ≤ w4.heap.size := hb4.size
  have HB4 : Below w.heap.size w w4 := HB3.trans (hb4.mono HB3.size)
  replace ov := ov.keep (same_of_below hb4 (by omega))
  replace ox := ox.keep (same_of_below hb4 (by omega))
  replace ux := ux.keep (same_of_below hb4 (by omega))
  replace pa := pa.below hb4 pa.lt
  have UR4 := Ints.up hx HB4 HB4.size
  have UP4 := Puts.up hp HB4 HB4.size
  clear HB3 UR3 UP3
  clear hb4
  have fpa := pa.three
  have fpx := px.three
  have lpa := pa.lt
  have lpx := px.lt
  go_wp2_with fail
  refine (implTG_x _ _ _ _ _ _ q xs ps _ (ox.ints (B := w4.heap.size) (by omega)) (ux.ints (B := w4.heap.size) (by omega)) lnx lmx).mono ?_
  rintro e w5 ⟨Ag, ng, cg, rfl, og, hb5⟩
  clear fpa lpa fpx lpx
  have z5 : w4.heap.size ≤ w5.heap.size := hb5.size
  have HB5 : Below w.heap.size w w5 := HB4.trans (hb5.mono HB4.size)
  replace ov := ov.keep (same_of_below hb5 (by omega))
  replace ox := ox.keep (same_of_below hb5 (by omega))
  replace ux := ux.keep (same_of_below hb5 (by omega))
  replace pa := pa.below hb5 pa.lt
  replace px := px.below hb5 px.lt
  have UR5 := Ints.up hx HB5 HB5.size
  have UP5 := Puts.up hp HB5 HB5.size
  clear HB4 UR4 UP4
  have fpa := pa.three
  have fpx := px.three
  have lpa := pa.lt
  have lpx := px.lt
  clear hb5
  replace og := (rowI og).mono (b' := w4.heap.size) (by omega) (Nat.le_refl _)
  have lng : ng ≤ 1048576 := by have := og.len; have := tgL_len ⟨xs, q, ps⟩; omega
  go_wp2_with fail
  refine (eqIntS_same _ _ _ _ _ _ (tgL ⟨xs, q, ps⟩) _ (og.ints (B := w5.heap.size) (by omega)) (ov.ints (B := w5.heap.size) (by omega)) lng lnv).mono ?_
  rintro e w6 ⟨rfl, hb6⟩
  clear fpa lpa fpx lpx
  have z6 : w5.heap.size ≤ w6.heap.size := hb6.size
  have HB6 : Below w.heap.size w w6 := HB5.trans (hb6.mono HB5.size)
  replace ov := ov.keep (same_of_below hb6 (by omega))
  replace ox := ox.keep (same_of_below hb6 (by omega))
  replace ux := ux.keep (same_of_below hb6 (by omega))
  replace og := og.keep (same_of_below hb6 (by omega))
  replace pa := pa.below hb6 pa.lt
  replace px := px.below hb6 px.lt
  have UR6 := Ints.up hx HB6 HB6.size
  have UP6 := Puts.up hp HB6 HB6.size
  clear HB5 UR5 UP5
  have fpa := pa.three
  have fpx := px.three
  have lpa := pa.lt
  have lpx := px.lt
  clear hb6
  go_wp2_with fail
  have six : ∀ {W : World}, Blk W (w3.heap.size) 47 #[.slice Ax nx cx, .int .i64 q, .slice Bx mx dx] → Blk W w.heap.size 42 #[.slice A n c, .int .i64 q, .slice B m d] → W.cell? ⟨w3.heap.size, 0, none⟩ = some (.slice Ax nx cx) ∧ W.cell? ⟨w3.heap.size, 1, none⟩ = some (.int .i64 q) ∧ W.cell? ⟨w3.heap.size, 2, none⟩ = some (.slice Bx mx dx) ∧ W.cell? ⟨w.heap.size, 0, none⟩ = some (.slice A n c) ∧ W.cell? ⟨w.heap.size, 1, none⟩ = some (.int .i64 q) ∧ W.cell? ⟨w.heap.size, 2, none⟩ = some (.slice B m d) := fun h h' => ⟨h.tri.1, h.tri.2.1, h.tri.2.2, h'.tri.1, h'.tri.2.1, h'.tri.2.2⟩
  go_region_held3 (fun w' => w'.cell? ⟨w3.heap.size, 0, none⟩ = some (.slice Ax nx cx) ∧ w'.cell? ⟨w3.heap.size, 1, none⟩ = some (.int .i64 q) ∧ w'.cell? ⟨w3.heap.size, 2, none⟩ = some (.slice Bx mx dx) ∧ w'.cell? ⟨w.heap.size, 0, none⟩ = some (.slice A n c) ∧ w'.cell? ⟨w.heap.size, 1, none⟩ = some (.int .i64 q) ∧ w'.cell? ⟨w.heap.size, 2, none⟩ = some (.slice B m d))
    (exact six (by repeat' (first | with_reducible exact (px.below st8 px.lt) | with_reducible exact (px.below st7 px.lt) | with_reducible exact px | with_reducible refine Blk.drew ?_)) (by repeat' (first | with_reducible exact (pa.below st8 pa.lt) | with_reducible exact (pa.below st7 pa.lt) | with_reducible exact pa | with_reducible refine Blk.drew ?_)))
    (first
      | (go_at_call 44; (with_reducible refine Calls.mono (toTxn_x A n c B m d q xs ps _ ?_ ?_ (by omega) (by omega)) ?_)
         · exact UR6
         · exact UP6
         rintro e w7 ⟨Ay, ny, cy, By, my, dy, rfl, oy, uy, hb7⟩
         have z7 : w6.heap.size ≤ w7.heap.size := hb7.size
         have st7 : Below w6.heap.size w6 w7 := (by repeat' (first | with_reducible exact Below.refl _ _ | with_reducible refine Below.alloc ?_ (by first | omega | (simp; done) | (simp; omega)) _ | with_reducible refine below_drewN ?_ _ | with_reducible refine Below.drew ?_ | with_reducible refine Below.setCell ?_ (by first | omega | (simp; done) | (simp; omega)) _ | with_reducible refine Below.trans ?_ (Below.mono hb7 (by first | omega | (simp; done) | (simp; omega)))))
         have lny : ny ≤ 1048576 := (by have := oy.len; have := hx.len; omega)
         have lmy : my ≤ 1048576 := (by have := OwnP.len uy; have := hp.len; omega))
      | (go_at_call 46; (with_reducible refine Calls.mono (eqTxn_x _ _ _ _ _ _ q xs ps _ _ _ _ _ _ _ ?_ ?_ ?_ ?_ lnx lmx lny lmy) ?_)
         · exact (ox.keep (same_of_below st7 (by omega))).ints (by omega)
         · exact (ux.keep (same_of_below st7 (by omega))).puts (by omega)
         · exact oy.ints
         · exact OwnP.puts uy
         rintro e w8 ⟨rfl, hb8⟩
         have zb8 : w7.heap.size ≤ w8.heap.size := hb8.size
         have st8 : Below w6.heap.size w6 w8 := st7.trans (((by repeat' (first | with_reducible exact Below.refl _ _ | with_reducible refine Below.alloc ?_ (by first | omega | (simp; done) | (simp; omega)) _ | with_reducible refine below_drewN ?_ _ | with_reducible refine Below.drew ?_ | with_reducible refine Below.setCell ?_ (by first | omega | (simp; done) | (simp; omega)) _ | with_reducible refine Below.trans ?_ (Below.mono hb8 (by first | omega | (simp; done) | (simp; omega))))) : Below w7.heap.size w7 w8).mono z7)))
  clear oy uy hb7 hb8 z7 zb8
  clear fpa lpa fpx lpx
  have z8 : w6.heap.size ≤ w8.heap.size := st8.size
  have HB8 : Below w.heap.size w w8 := HB6.trans (st8.mono HB6.size)
  replace ov := ov.keep (same_of_below st8 (by omega))
  replace ox := ox.keep (same_of_below st8 (by omega))
  replace ux := ux.keep (same_of_below st8 (by omega))
  replace og := og.keep (same_of_below st8 (by omega))
  replace pa := pa.below st8 pa.lt
  replace px := px.below st8 px.lt
  have UR8 := Ints.up hx HB8 HB8.size
  have UP8 := Puts.up hp HB8 HB8.size
  clear HB6 UR6 UP6
  have fpa := pa.three
  have fpx := px.three
  have lpa := pa.lt
  have lpx := px.lt
  clear st7 st8
  go_wp2_with fail
  refine (markTxn_t _ _ _ q _ _ _ _ _ xs ps _ _ ox ux (by omega) (by omega) lnx lmx (by omega)).mono ?_
  rintro e w9 ⟨rfl, hb9⟩
  clear ox
  clear ux
  clear fpx lpx px
  clear fpa lpa
  have z9 : w8.heap.size ≤ w9.heap.size := hb9.size
  have HB9 : Below w.heap.size w w9 := HB8.trans (hb9.below (by omega) (by omega))
  replace ov := ov.keep (hb9.same (by omega) (by omega))
  replace og := og.keep (hb9.same (by omega) (by omega))
  replace pa := hb9.blk pa (by omega)
  have UR9 := Ints.up hx HB9 HB9.size
  have UP9 := Puts.up hp HB9 HB9.size
  clear HB8 UR8 UP8
  have fpa := pa.three
  have lpa := pa.lt
  clear hb9
  go_wp2_with fail
  refine (eqIntS_same _ _ _ _ _ _ (tgL ⟨xs, q, ps⟩) _ (og.ints (B := w9.heap.size) (by omega)) (ov.ints (B := w9.heap.size) (by omega)) lng lnv).mono ?_
  rintro e w10 ⟨rfl, hb10⟩
  clear fpa lpa
  have z10 : w9.heap.size ≤ w10.heap.size := hb10.size
  have HB10 : Below w.heap.size w w10 := HB9.trans (hb10.mono HB9.size)
  replace ov := ov.keep (same_of_below hb10 (by omega))
  replace og := og.keep (same_of_below hb10 (by omega))
  replace pa := pa.below hb10 pa.lt
  have UR10 := Ints.up hx HB10 HB10.size
  have UP10 := Puts.up hp HB10 HB10.size
  clear HB9 UR9 UP9
  have fpa := pa.three
  have lpa := pa.lt
  clear hb10
  go_wp2_with fail
  refine (markIntS_t _ _ _ _ _ (tgL ⟨xs, q, ps⟩) 1 _ og (by omega) (by omega) lng).mono ?_
  clear og
  rintro e w11 ⟨rfl, og, hb11⟩
  clear fpa lpa
  have z11 : w10.heap.size ≤ w11.heap.size := hb11.size
  have HB11 : Below w.heap.size w w11 := HB10.trans (hb11.below (by omega) (by omega))
  replace ov := ov.keep (hb11.same (by omega) (by omega))
  replace pa := hb11.blk pa (by omega)
  have UR11 := Ints.up hx HB11 HB11.size
  have UP11 := Puts.up hp HB11 HB11.size
  clear HB10 UR10 UP10
  have fpa := pa.three
  have lpa := pa.lt
  clear hb11
  go_wp2_with fail
  refine (heldIntS_v _ _ _ 1 _ (og.ints (B := w11.heap.size) (by omega)) (by omega) (by omega) lng).mono ?_
  rintro e w12 ⟨rfl, hb12⟩
  clear fpa lpa
  have z12 : w11.heap.size ≤ w12.heap.size := hb12.size
  have HB12 : Below w.heap.size w w12 := HB11.trans (hb12.mono HB11.size)
  replace ov := ov.keep (same_of_below hb12 (by omega))
  replace og := og.keep (same_of_below hb12 (by omega))
  replace pa := pa.below hb12 pa.lt
  have UR12 := Ints.up hx HB12 HB12.size
  have UP12 := Puts.up hp HB12 HB12.size
  clear HB11 UR11 UP11
  have fpa := pa.three
  have lpa := pa.lt
  clear hb12
  go_wp2_with fail
  refine (toTxn_x A n c B m d q xs ps _ UR12 UP12 (by omega) (by omega)).mono ?_
  rintro e w13 ⟨Ab, nb, cb, Bb, mb, db, rfl, ob, ub, hb13⟩
  clear fpa lpa
  have z13 : w12.heap.size ≤ w13.heap.size := hb13.size
  have HB13 : Below w.heap.size w w13 := HB12.trans (hb13.mono HB12.size)
  replace ov := ov.keep (same_of_below hb13 (by omega))
  replace og := og.keep (same_of_below hb13 (by omega))
  replace pa := pa.below hb13 pa.lt
  have UR13 := Ints.up hx HB13 HB13.size
  have UP13 := Puts.up hp HB13 HB13.size
  clear HB12 UR12 UP12
  have fpa := pa.three
  have lpa := pa.lt
  clear hb13
  replace ob := (rowI ob).mono (b' := w12.heap.size) (by omega) (Nat.le_refl _)
  replace ub := (rowP ub).mono (b' := w12.heap.size) (by omega) (Nat.le_refl _)
  have lnb : nb ≤ 1048576 := by have := ob.len; have := hx.len; omega
  have lmb : mb ≤ 1048576 := by have := ub.len; have := hp.len; omega
  go_wp2_with fail
  refine (implTG_x _ _ _ _ _ _ q xs ps _ (ob.ints (B := w13.heap.size) (by omega)) (ub.ints (B := w13.heap.size) (by omega)) lnb lmb).mono ?_
  rintro e w14 ⟨Ah, nh, ch, rfl, oh, hb14⟩
  clear fpa lpa
  have z14 : w13.heap.size ≤ w14.heap.size := hb14.size
  have HB14 : Below w.heap.size w w14 := HB13.trans (hb14.mono HB13.size)
  replace ov := ov.keep (same_of_below hb14 (by omega))
  replace og := og.keep (same_of_below hb14 (by omega))
  replace ob := ob.keep (same_of_below hb14 (by omega))
  replace ub := ub.keep (same_of_below hb14 (by omega))
  replace pa := pa.below hb14 pa.lt
  have UR14 := Ints.up hx HB14 HB14.size
  have UP14 := Puts.up hp HB14 HB14.size
  clear HB13 UR13 UP13
  have fpa := pa.three
  have lpa := pa.lt
  clear hb14
  replace oh := (rowI oh).mono (b' := w13.heap.size) (by omega) (Nat.le_refl _)
  have lnh : nh ≤ 1048576 := by have := oh.len; have := tgL_len ⟨xs, q, ps⟩; omega
  clear ob
  clear ub
  go_wp2_with fail
  refine (eqIntS_same _ _ _ _ _ _ (tgL ⟨xs, q, ps⟩) _ (oh.ints (B := w14.heap.size) (by omega)) (ov.ints (B := w14.heap.size) (by omega)) lnh lnv).mono ?_
  rintro e w15 ⟨rfl, hb15⟩
  clear fpa lpa
  have z15 : w14.heap.size ≤ w15.heap.size := hb15.size
  have HB15 : Below w.heap.size w w15 := HB14.trans (hb15.mono HB14.size)
  replace ov := ov.keep (same_of_below hb15 (by omega))
  replace og := og.keep (same_of_below hb15 (by omega))
  replace oh := oh.keep (same_of_below hb15 (by omega))
  replace pa := pa.below hb15 pa.lt
  have UR15 := Ints.up hx HB15 HB15.size
  have UP15 := Puts.up hp HB15 HB15.size
  clear HB14 UR14 UP14
  have fpa := pa.three
  have lpa := pa.lt
  clear hb15
  go_wp2_with fail
  refine (heldIntS_v _ _ _ 1 _ (og.ints (B := w15.heap.size) (by omega)) (by omega) (by omega) lng).mono ?_
  rintro e w16 ⟨rfl, hb16⟩
  clear fpa lpa
  have z16 : w15.heap.size ≤ w16.heap.size := hb16.size
  have HB16 : Below w.heap.size w w16 := HB15.trans (hb16.mono HB15.size)
  replace ov := ov.keep (same_of_below hb16 (by omega))
  replace og := og.keep (same_of_below hb16 (by omega))
  replace oh := oh.keep (same_of_below hb16 (by omega))
  replace pa := pa.below hb16 pa.lt
  have UR16 := Ints.up hx HB16 HB16.size
  have UP16 := Puts.up hp HB16 HB16.size
  clear HB15 UR15 UP15
  have fpa := pa.three
  have lpa := pa.lt
  clear hb16
  go_wp2
  go_ret
  exact ⟨rfl, HB16⟩
end Go.Proofs.Ytaelaldgohppeaa
