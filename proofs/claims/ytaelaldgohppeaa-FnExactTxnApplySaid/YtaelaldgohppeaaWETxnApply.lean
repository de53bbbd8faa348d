/-
  The walk of FnExactTxnApply: the law returns true and writes nothing that was there.
-/
import Derived.Test.YtaelaldgohppeaaXX
import Derived.Deep.RegionHeld3
namespace Go.Proofs.Ytaelaldgohppeaa
open Go.RowKit
set_option linter.unusedVariables false

set_option maxRecDepth 100000 in
set_option maxHeartbeats 8000000 in
theorem exTxnApply_walk (As : Option Addr) (ns cs : Nat) (ss : List Int) (A : Option Addr) (n c : Nat) (xs : List Int) (q : Int) (B : Option Addr) (m d : Nat) (ps : List (Int × Int)) (w : World) (hsn : ns ≤ 9223372036854775807) (hs : Ints w w.heap.size As ns ss) (hn : n ≤ 9223372036854775807) (hx : Ints w w.heap.size A n xs) (hm : m ≤ 9223372036854775807) (hp : Puts w w.heap.size B m ps) :
    Calls Try.prog 22 #[.slice As ns cs, .agg #[.slice A n c, .int .i64 q, .slice B m d]] w fun e w' => e = .returned (.bool true) ∧ Below w.heap.size w w' := by
  by_cases hbig : 1048576 < ns
  · have hX := hx.box (.cells #[.slice A n c, .int .i64 q, .slice B m d] 42)
    go_enter Try.func22, Try.ntmps22
    go_wp2
    go_ret
    exact ⟨rfl, (by repeat' (first | with_reducible exact Below.refl _ _ | with_reducible assumption | with_reducible refine Below.setCell ?_ (by first | omega | (simp; done) | (simp; omega)) _ | with_reducible refine Below.alloc ?_ (by first | omega | (simp; done) | (simp; omega)) _ | with_reducible refine below_drewN ?_ _ | with_reducible refine Below.drew ?_ | (with_reducible refine Below.trans ?_ (Below.mono (by with_reducible assumption) (by first | omega | (simp; done) | (simp; omega))))))⟩
  have hns : ns ≤ 1048576 := by omega
  have hX := hx.box (.cells #[.slice A n c, .int .i64 q, .slice B m d] 42)
  have hP := hp.box (.cells #[.slice A n c, .int .i64 q, .slice B m d] 42)
  have pa := Blk.new w 42 #[.slice A n c, .int .i64 q, .slice B m d]
  have HBx : Below w.heap.size w (w.alloc (.cells #[.slice A n c, .int .i64 q, .slice B m d] 42)) := (Below.refl _ _).alloc (Nat.le_refl _) _
  have zx : (w.alloc (.cells #[.slice A n c, .int .i64 q, .slice B m d] 42)).heap.size = w.heap.size + 1 := by simp
  generalize hWx : w.alloc (.cells #[.slice A n c, .int .i64 q, .slice B m d] 42) = wx at hX hP pa HBx zx
  have fpa := pa.three
  rcases Int.lt_or_le 1048576 ((n : Int) + (m : Int)) with hsz | hsz
  · go_enter Try.func22, Try.ntmps22
    go_wp2_with fail
    refine (szTxn_no_x A n c B m d q _ _ (by omega) (by omega) hn hm hsz).mono ?_
    rintro e w1 ⟨rfl, hb1⟩
    go_wp2
    go_ret
    exact ⟨rfl, HBx.trans (hb1.mono HBx.size)⟩
  clear hbig
  go_enter Try.func22, Try.ntmps22
  go_wp2_with fail
  refine (szTxn_yes_x A n c B m d q _ _ (by omega) (by omega)).mono ?_
  rintro e w0 ⟨rfl, hb0⟩
  have HB0 : Below w.heap.size w w0 := HBx.trans (hb0.mono HBx.size)
  have z0 := hb0.size
  replace pa := pa.below hb0 pa.lt
  clear hb0 hWx hX hP HBx fpa
  have UR0 := Ints.up hx HB0 HB0.size
  have UP0 := Puts.up hp HB0 HB0.size
  have fpa := pa.three
  have lpa := pa.lt
  have hne : (taB ss ⟨xs, q, ps⟩ != taB ss ⟨xs, q, ps⟩) = false := by simp
  go_wp2_with fail
  have six : ∀ {W : World}, Blk W w.heap.size 42 #[.slice A n c, .int .i64 q, .slice B m d] → W.cell? ⟨w.heap.size, 0, none⟩ = some (.slice A n c) ∧ W.cell? ⟨w.heap.size, 1, none⟩ = some (.int .i64 q) ∧ W.cell? ⟨w.heap.size, 2, none⟩ = some (.slice B m d) := fun h => ⟨h.tri.1, h.tri.2.1, h.tri.2.2⟩
  have US0 := hs.up HB0 HB0.size
  go_region_held3 (fun w' => w'.cell? ⟨w.heap.size, 0, none⟩ = some (.slice A n c) ∧ w'.cell? ⟨w.heap.size, 1, none⟩ = some (.int .i64 q) ∧ w'.cell? ⟨w.heap.size, 2, none⟩ = some (.slice B m d))
    (exact six (by repeat' (first | with_reducible exact (pa.below st3 pa.lt) | with_reducible exact (pa.below st2 pa.lt) | with_reducible exact (pa.below st1 pa.lt) | with_reducible exact pa | with_reducible refine Blk.drew ?_)))
    (first
      | (go_at_call 26; (with_reducible refine Calls.mono (toIntS_r As ns cs ss _ ?_ (by omega)) ?_)
         · exact US0
         rintro e w1 ⟨Aq, nq, cq, rfl, oq, hb1⟩
         have z1 : w0.heap.size ≤ w1.heap.size := hb1.size
         have st1 : Below w0.heap.size w0 w1 := (by repeat' (first | with_reducible exact Below.refl _ _ | with_reducible refine Below.alloc ?_ (by first | omega | (simp; done) | (simp; omega)) _ | with_reducible refine below_drewN ?_ _ | with_reducible refine Below.drew ?_ | with_reducible refine Below.setCell ?_ (by first | omega | (simp; done) | (simp; omega)) _ | with_reducible refine Below.trans ?_ (Below.mono hb1 (by first | omega | (simp; done) | (simp; omega)))))
         have lnq : nq ≤ 1048576 := (by have := oq.len; have := hs.len; omega)
         have VR1 := Ints.up hx (HB0.trans (st1.mono HB0.size)) (HB0.trans (st1.mono HB0.size)).size
         have VP1 := Puts.up hp (HB0.trans (st1.mono HB0.size)) (HB0.trans (st1.mono HB0.size)).size)
      | (go_at_call 44; (with_reducible refine Calls.mono (toTxn_x A n c B m d q xs ps _ ?_ ?_ (by omega) (by omega)) ?_)
         · exact VR1
         · exact VP1
         rintro e w2 ⟨Ay, ny, cy, By, my, dy, rfl, oy, uy, hb2⟩
         have zb2 : w1.heap.size ≤ w2.heap.size := hb2.size
         have sb2 : Below w1.heap.size w1 w2 := (by repeat' (first | with_reducible exact Below.refl _ _ | with_reducible refine Below.alloc ?_ (by first | omega | (simp; done) | (simp; omega)) _ | with_reducible refine below_drewN ?_ _ | with_reducible refine Below.drew ?_ | with_reducible refine Below.setCell ?_ (by first | omega | (simp; done) | (simp; omega)) _ | with_reducible refine Below.trans ?_ (Below.mono hb2 (by first | omega | (simp; done) | (simp; omega)))))
         have st2 : Below w0.heap.size w0 w2 := st1.trans (sb2.mono z1)
         have lny : ny ≤ 1048576 := (by have := oy.len; have := hx.len; omega)
         have lmy : my ≤ 1048576 := (by have := OwnP.len uy; have := hp.len; omega)
         have VQ2 := oq.ints.up sb2 sb2.size)
      | (go_at_call 54; (with_reducible refine Calls.mono (specTA_any _ _ _ _ _ _ q _ _ _ ss xs ps _ ?_ ?_ ?_ lnq lny lmy) ?_)
         · exact VQ2
         · exact oy.ints
         · exact OwnP.puts uy
         rintro e w3 ⟨Av, nv, cv, rfl, ov, hb3⟩
         have zb3 : w2.heap.size ≤ w3.heap.size := hb3.size
         have st3 : Below w0.heap.size w0 w3 := st2.trans (((by repeat' (first | with_reducible exact Below.refl _ _ | with_reducible refine Below.alloc ?_ (by first | omega | (simp; done) | (simp; omega)) _ | with_reducible refine below_drewN ?_ _ | with_reducible refine Below.drew ?_ | with_reducible refine Below.setCell ?_ (by first | omega | (simp; done) | (simp; omega)) _ | with_reducible refine Below.trans ?_ (Below.mono hb3 (by first | omega | (simp; done) | (simp; omega))))) : Below w2.heap.size w2 w3).mono (by omega))))
  clear oq oy uy hb1 hb2 hb3 US0 VR1 VP1 VQ2
  have zf2 : w0.heap.size ≤ w2.heap.size := by omega
  replace ov := (rowI ov).mono (b' := w0.heap.size) zf2 (Nat.le_refl _)
  clear z1 zb2 zb3 zf2
  clear fpa lpa
  have z3 : w0.heap.size ≤ w3.heap.size := st3.size
  have HB3 : Below w.heap.size w w3 := HB0.trans (st3.mono HB0.size)
  replace pa := pa.below st3 pa.lt
  have UR3 := Ints.up hx HB3 HB3.size
  have UP3 := Puts.up hp HB3 HB3.size
  clear HB0 UR0 UP0
  have fpa := pa.three
  have lpa := pa.lt
  have lnv : nv ≤ 1048576 := by have := ov.len; have := taL_len ss ⟨xs, q, ps⟩; omega
  clear st1 st2 st3 sb2
  go_wp2_with fail
  refine (toIntS_r As ns cs ss _ (hs.up HB3 HB3.size) (by omega)).mono ?_
  rintro e w4 ⟨Az, nz, cz, rfl, oz, hb4⟩
  clear fpa lpa
  have z4 : w3.heap.size ≤ w4.heap.size := hb4.size
  have HB4 : Below w.heap.size w w4 := HB3.trans (hb4.mono HB3.size)
  replace ov := ov.keep (same_of_below hb4 (by omega))
  replace pa := pa.below hb4 pa.lt
  have UR4 := Ints.up hx HB4 HB4.size
  have UP4 := Puts.up hp HB4 HB4.size
  clear HB3 UR3 UP3
  have fpa := pa.three
  have lpa := pa.lt
  clear hb4
  replace oz := (rowI oz).mono (b' := w3.heap.size) (by omega) (Nat.le_refl _)
  have lnz : nz ≤ 1048576 := by have := oz.len; have := hs.len; omega
  go_wp2_with fail
  refine (toTxn_x A n c B m d q xs ps _ UR4 UP4 (by omega) (by omega)).mono ?_
  rintro e w5 ⟨Ax, nx, cx, Bx, mx, dx, rfl, ox, ux, hb5⟩
  clear fpa lpa
  have z5 : w4.heap.size ≤ w5.heap.size := hb5.size
  have HB5 : Below w.heap.size w w5 := HB4.trans (hb5.mono HB4.size)
  replace ov := ov.keep (same_of_below hb5 (by omega))
  replace oz := oz.keep (same_of_below hb5 (by omega))
  replace pa := pa.below hb5 pa.lt
  have UR5 := Ints.up hx HB5 HB5.size
  have UP5 := Puts.up hp HB5 HB5.size
  clear HB4 UR4 UP4
  have fpa := pa.three
  have lpa := pa.lt
  clear hb5
  replace ox := (rowI ox).mono (b' := w4.heap.size) (by omega) (Nat.le_refl _)
  replace ux := (rowP ux).mono (b' := w4.heap.size) (by omega) (Nat.le_refl _)
  have lnx : nx ≤ 1048576 := by have := ox.len; have := hx.len; omega
  have lmx : mx ≤ 1048576 := by have := ux.len; have := hp.len; omega
  go_wp2_with fail
  clear fpa lpa
  have px := Blk.new w5 47 #[.slice Ax nx cx, .int .i64 q, .slice Bx mx dx]
  have hb6 : Below w5.heap.size w5 (w5.alloc (.cells #[.slice Ax nx cx, .int .i64 q, .slice Bx mx dx] 47)) := (Below.refl _ _).alloc (Nat.le_refl _) _
  have zz6 : (w5.alloc (.cells #[.slice Ax nx cx, .int .i64 q, .slice Bx mx dx] 47)).heap.size = w5.heap.size + 1 := by simp
  generalize hW6 : w5.alloc (.cells #[.slice Ax nx cx, .int .i64 q, .slice Bx mx dx] 47) = w6 at px hb6 zz6 ⊢
  clear hW6
  have z6 : w5.heap.size ≤ w6.heap.size := hb6.size
  have HB6 : Below w.heap.size w w6 := HB5.trans (hb6.mono HB5.size)
  replace ov := ov.keep (same_of_below hb6 (by omega))
  replace oz := oz.keep (same_of_below hb6 (by omega))
  replace ox := ox.keep (same_of_below hb6 (by omega))
  replace ux := ux.keep (same_of_below hb6 (by omega))
  replace pa := pa.below hb6 pa.lt
  have UR6 := Ints.up hx HB6 HB6.size
  have UP6 := Puts.up hp HB6 HB6.size
  clear HB5 UR5 UP5
  clear hb6
  have fpa := pa.three
  have fpx := px.three
  have lpa := pa.lt
  have lpx := px.lt
  go_wp2_with fail
  refine (implTA_any _ _ _ _ _ _ q _ _ _ ss xs ps _ (oz.ints (B := w6.heap.size) (by omega)) (ox.ints (B := w6.heap.size) (by omega)) (ux.ints (B := w6.heap.size) (by omega)) lnz lnx lmx).mono ?_
  rintro e w7 ⟨Ag, ng, cg, rfl, og, hb7⟩
  clear fpa lpa fpx lpx
  have z7 : w6.heap.size ≤ w7.heap.size := hb7.size
  have HB7 : Below w.heap.size w w7 := HB6.trans (hb7.mono HB6.size)
  replace ov := ov.keep (same_of_below hb7 (by omega))
  replace oz := oz.keep (same_of_below hb7 (by omega))
  replace ox := ox.keep (same_of_below hb7 (by omega))
  replace ux := ux.keep (same_of_below hb7 (by omega))
  replace pa := pa.below hb7 pa.lt
  replace px := px.below hb7 px.lt
  have UR7 := Ints.up hx HB7 HB7.size
  have UP7 := Puts.up hp HB7 HB7.size
  clear HB6 UR6 UP6
  have fpa := pa.three
  have fpx := px.three
  have lpa := pa.lt
  have lpx := px.lt
  clear hb7
  replace og := (rowI og).mono (b' := w6.heap.size) (by omega) (Nat.le_refl _)
  have lng : ng ≤ 1048576 := by have := og.len; have := taL_len ss ⟨xs, q, ps⟩; omega
  go_wp2_with fail
  refine (eqIntS_same _ _ _ _ _ _ (taL ss ⟨xs, q, ps⟩) _ (og.ints (B := w7.heap.size) (by omega)) (ov.ints (B := w7.heap.size) (by omega)) lng lnv).mono ?_
  rintro e w8 ⟨rfl, hb8⟩
  clear fpa lpa fpx lpx
  have z8 : w7.heap.size ≤ w8.heap.size := hb8.size
  have HB8 : Below w.heap.size w w8 := HB7.trans (hb8.mono HB7.size)
  replace ov := ov.keep (same_of_below hb8 (by omega))
  replace oz := oz.keep (same_of_below hb8 (by omega))
  replace ox := ox.keep (same_of_below hb8 (by omega))
  replace ux := ux.keep (same_of_below hb8 (by omega))
  replace og := og.keep (same_of_below hb8 (by omega))
  replace pa := pa.below hb8 pa.lt
  replace px := px.below hb8 px.lt
  have UR8 := Ints.up hx HB8 HB8.size
  have UP8 := Puts.up hp HB8 HB8.size
  clear HB7 UR7 UP7
  have fpa := pa.three
  have fpx := px.three
  have lpa := pa.lt
  have lpx := px.lt
  clear hb8
  go_wp2_with fail
  refine (toIntS_r As ns cs ss _ (hs.up HB8 HB8.size) (by omega)).mono ?_
  rintro e w9 ⟨Ay, ny, cy, rfl, oy, hb9⟩
  clear fpa lpa fpx lpx
  have z9 : w8.heap.size ≤ w9.heap.size := hb9.size
  have HB9 : Below w.heap.size w w9 := HB8.trans (hb9.mono HB8.size)
  replace ov := ov.keep (same_of_below hb9 (by omega))
  replace oz := oz.keep (same_of_below hb9 (by omega))
  replace ox := ox.keep (same_of_below hb9 (by omega))
  replace ux := ux.keep (same_of_below hb9 (by omega))
  replace og := og.keep (same_of_below hb9 (by omega))
  replace pa := pa.below hb9 pa.lt
  replace px := px.below hb9 px.lt
  have UR9 := Ints.up hx HB9 HB9.size
  have UP9 := Puts.up hp HB9 HB9.size
  clear HB8 UR8 UP8
  have fpa := pa.three
  have fpx := px.three
  have lpa := pa.lt
  have lpx := px.lt
  clear hb9
  replace oy := (rowI oy).mono (b' := w8.heap.size) (by omega) (Nat.le_refl _)
  have lny : ny ≤ 1048576 := by have := oy.len; have := hs.len; omega
  go_wp2_with fail
  refine (eqIntS_same _ _ _ _ _ _ ss _ (oz.ints (B := w9.heap.size) (by omega)) (oy.ints (B := w9.heap.size) (by omega)) lnz lny).mono ?_
  rintro e w10 ⟨rfl, hb10⟩
  clear fpa lpa fpx lpx
  have z10 : w9.heap.size ≤ w10.heap.size := hb10.size
  have HB10 : Below w.heap.size w w10 := HB9.trans (hb10.mono HB9.size)
  replace ov := ov.keep (same_of_below hb10 (by omega))
  replace oz := oz.keep (same_of_below hb10 (by omega))
  replace ox := ox.keep (same_of_below hb10 (by omega))
  replace ux := ux.keep (same_of_below hb10 (by omega))
  replace og := og.keep (same_of_below hb10 (by omega))
  replace oy := oy.keep (same_of_below hb10 (by omega))
  replace pa := pa.below hb10 pa.lt
  replace px := px.below hb10 px.lt
  have UR10 := Ints.up hx HB10 HB10.size
  have UP10 := Puts.up hp HB10 HB10.size
  clear HB9 UR9 UP9
  have fpa := pa.three
  have fpx := px.three
  have lpa := pa.lt
  have lpx := px.lt
  clear hb10
  clear oy
  clear lny
  go_wp2_with fail
  have six : ∀ {W : World}, Blk W (w5.heap.size) 47 #[.slice Ax nx cx, .int .i64 q, .slice Bx mx dx] → Blk W w.heap.size 42 #[.slice A n c, .int .i64 q, .slice B m d] → W.cell? ⟨w5.heap.size, 0, none⟩ = some (.slice Ax nx cx) ∧ W.cell? ⟨w5.heap.size, 1, none⟩ = some (.int .i64 q) ∧ W.cell? ⟨w5.heap.size, 2, none⟩ = some (.slice Bx mx dx) ∧ W.cell? ⟨w.heap.size, 0, none⟩ = some (.slice A n c) ∧ W.cell? ⟨w.heap.size, 1, none⟩ = some (.int .i64 q) ∧ W.cell? ⟨w.heap.size, 2, none⟩ = some (.slice B m d) := fun h h' => ⟨h.tri.1, h.tri.2.1, h.tri.2.2, h'.tri.1, h'.tri.2.1, h'.tri.2.2⟩
  go_region_held3 (fun w' => w'.cell? ⟨w5.heap.size, 0, none⟩ = some (.slice Ax nx cx) ∧ w'.cell? ⟨w5.heap.size, 1, none⟩ = some (.int .i64 q) ∧ w'.cell? ⟨w5.heap.size, 2, none⟩ = some (.slice Bx mx dx) ∧ w'.cell? ⟨w.heap.size, 0, none⟩ = some (.slice A n c) ∧ w'.cell? ⟨w.heap.size, 1, none⟩ = some (.int .i64 q) ∧ w'.cell? ⟨w.heap.size, 2, none⟩ = some (.slice B m d))
    (exact six (by repeat' (first | with_reducible exact (px.below st12 px.lt) | with_reducible exact (px.below st11 px.lt) | with_reducible exact px | with_reducible refine Blk.drew ?_)) (by repeat' (first | with_reducible exact (pa.below st12 pa.lt) | with_reducible exact (pa.below st11 pa.lt) | with_reducible exact pa | with_reducible refine Blk.drew ?_)))
    (first
      | (go_at_call 44; (with_reducible refine Calls.mono (toTxn_x A n c B m d q xs ps _ ?_ ?_ (by omega) (by omega)) ?_)
         · exact UR10
         · exact UP10
         rintro e w11 ⟨Ay, ny, cy, By, my, dy, rfl, oy, uy, hb11⟩
         have z11 : w10.heap.size ≤ w11.heap.size := hb11.size
         have st11 : Below w10.heap.size w10 w11 := (by repeat' (first | with_reducible exact Below.refl _ _ | with_reducible refine Below.alloc ?_ (by first | omega | (simp; done) | (simp; omega)) _ | with_reducible refine below_drewN ?_ _ | with_reducible refine Below.drew ?_ | with_reducible refine Below.setCell ?_ (by first | omega | (simp; done) | (simp; omega)) _ | with_reducible refine Below.trans ?_ (Below.mono hb11 (by first | omega | (simp; done) | (simp; omega)))))
         have lny : ny ≤ 1048576 := (by have := oy.len; have := hx.len; omega)
         have lmy : my ≤ 1048576 := (by have := OwnP.len uy; have := hp.len; omega))
      | (go_at_call 46; (with_reducible refine Calls.mono (eqTxn_x _ _ _ _ _ _ q xs ps _ _ _ _ _ _ _ ?_ ?_ ?_ ?_ lnx lmx lny lmy) ?_)
         · exact (ox.keep (same_of_below st11 (by omega))).ints (by omega)
         · exact (ux.keep (same_of_below st11 (by omega))).puts (by omega)
         · exact oy.ints
         · exact OwnP.puts uy
         rintro e w12 ⟨rfl, hb12⟩
         have zb12 : w11.heap.size ≤ w12.heap.size := hb12.size
         have st12 : Below w10.heap.size w10 w12 := st11.trans (((by repeat' (first | with_reducible exact Below.refl _ _ | with_reducible refine Below.alloc ?_ (by first | omega | (simp; done) | (simp; omega)) _ | with_reducible refine below_drewN ?_ _ | with_reducible refine Below.drew ?_ | with_reducible refine Below.setCell ?_ (by first | omega | (simp; done) | (simp; omega)) _ | with_reducible refine Below.trans ?_ (Below.mono hb12 (by first | omega | (simp; done) | (simp; omega))))) : Below w11.heap.size w11 w12).mono z11)))
  clear oy uy hb11 hb12 z11 zb12
  clear fpa lpa fpx lpx
  have z12 : w10.heap.size ≤ w12.heap.size := st12.size
  have HB12 : Below w.heap.size w w12 := HB10.trans (st12.mono HB10.size)
  replace ov := ov.keep (same_of_below st12 (by omega))
  replace oz := oz.keep (same_of_below st12 (by omega))
  replace ox := ox.keep (same_of_below st12 (by omega))
  replace ux := ux.keep (same_of_below st12 (by omega))
  replace og := og.keep (same_of_below st12 (by omega))
  replace pa := pa.below st12 pa.lt
  replace px := px.below st12 px.lt
  have UR12 := Ints.up hx HB12 HB12.size
  have UP12 := Puts.up hp HB12 HB12.size
  clear HB10 UR10 UP10
  have fpa := pa.three
  have fpx := px.three
  have lpa := pa.lt
  have lpx := px.lt
  clear st11 st12
  go_wp2_with fail
  refine (markIntS_t _ _ _ _ _ ss 1 _ oz (by omega) (by omega) lnz).mono ?_
  clear oz
  rintro e w13 ⟨rfl, oz, hb13⟩
  clear fpa lpa fpx lpx
  have z13 : w12.heap.size ≤ w13.heap.size := hb13.size
  have HB13 : Below w.heap.size w w13 := HB12.trans (hb13.below (by omega) (by omega))
  replace ov := ov.keep (hb13.same (by omega) (by omega))
  replace ox := ox.keep (hb13.same (by omega) (by omega))
  replace ux := ux.keep (hb13.same (by omega) (by omega))
  replace og := og.keep (hb13.same (by omega) (by omega))
  replace pa := hb13.blk pa (by omega)
  replace px := hb13.blk px (by omega)
  have UR13 := Ints.up hx HB13 HB13.size
  have UP13 := Puts.up hp HB13 HB13.size
  clear HB12 UR12 UP12
  have fpa := pa.three
  have fpx := px.three
  have lpa := pa.lt
  have lpx := px.lt
  clear hb13
  clear oz
  go_wp2_with fail
  refine (markTxn_t _ _ _ q _ _ _ _ _ xs ps _ _ ox ux (by omega) (by omega) lnx lmx (by omega)).mono ?_
  rintro e w14 ⟨rfl, hb14⟩
  clear ox
  clear ux
  clear fpx lpx px
  clear fpa lpa
  have z14 : w13.heap.size ≤ w14.heap.size := hb14.size
  have HB14 : Below w.heap.size w w14 := HB13.trans (hb14.below (by omega) (by omega))
  replace ov := ov.keep (hb14.same (by omega) (by omega))
  replace og := og.keep (hb14.same (by omega) (by omega))
  replace pa := hb14.blk pa (by omega)
  have UR14 := Ints.up hx HB14 HB14.size
  have UP14 := Puts.up hp HB14 HB14.size
  clear HB13 UR13 UP13
  have fpa := pa.three
  have lpa := pa.lt
  clear hb14
  go_wp2_with fail
  refine (eqIntS_same _ _ _ _ _ _ (taL ss ⟨xs, q, ps⟩) _ (og.ints (B := w14.heap.size) (by omega)) (ov.ints (B := w14.heap.size) (by omega)) lng lnv).mono ?_
  rintro e w15 ⟨rfl, hb15⟩
  clear fpa lpa
  have z15 : w14.heap.size ≤ w15.heap.size := hb15.size
  have HB15 : Below w.heap.size w w15 := HB14.trans (hb15.mono HB14.size)
  replace ov := ov.keep (same_of_below hb15 (by omega))
  replace og := og.keep (same_of_below hb15 (by omega))
  replace pa := pa.below hb15 pa.lt
  have UR15 := Ints.up hx HB15 HB15.size
  have UP15 := Puts.up hp HB15 HB15.size
  clear HB14 UR14 UP14
  have fpa := pa.three
  have lpa := pa.lt
  clear hb15
  go_wp2_with fail
  refine (markIntS_t _ _ _ _ _ (taL ss ⟨xs, q, ps⟩) 1 _ og (by omega) (by omega) lng).mono ?_
  clear og
  rintro e w16 ⟨rfl, og, hb16⟩
  clear fpa lpa
  have z16 : w15.heap.size ≤ w16.heap.size := hb16.size
  have HB16 : Below w.heap.size w w16 := HB15.trans (hb16.below (by omega) (by omega))
  replace ov := ov.keep (hb16.same (by omega) (by omega))
  replace pa := hb16.blk pa (by omega)
  have UR16 := Ints.up hx HB16 HB16.size
  have UP16 := Puts.up hp HB16 HB16.size
  clear HB15 UR15 UP15
  have fpa := pa.three
  have lpa := pa.lt
  clear hb16
  go_wp2_with fail
  refine (heldIntS_v _ _ _ 1 _ (og.ints (B := w16.heap.size) (by omega)) (by omega) (by omega) lng).mono ?_
  rintro e w17 ⟨rfl, hb17⟩
  clear fpa lpa
  have z17 : w16.heap.size ≤ w17.heap.size := hb17.size
  have HB17 : Below w.heap.size w w17 := HB16.trans (hb17.mono HB16.size)
  replace ov := ov.keep (same_of_below hb17 (by omega))
  replace og := og.keep (same_of_below hb17 (by omega))
  replace pa := pa.below hb17 pa.lt
  have UR17 := Ints.up hx HB17 HB17.size
  have UP17 := Puts.up hp HB17 HB17.size
  clear HB16 UR16 UP16
  have fpa := pa.three
  have lpa := pa.lt
  clear hb17
  go_wp2_with fail
  have six : ∀ {W : World}, Blk W w.heap.size 42 #[.slice A n c, .int .i64 q, .slice B m d] → W.cell? ⟨w.heap.size, 0, none⟩ = some (.slice A n c) ∧ W.cell? ⟨w.heap.size, 1, none⟩ = some (.int .i64 q) ∧ W.cell? ⟨w.heap.size, 2, none⟩ = some (.slice B m d) := fun h => ⟨h.tri.1, h.tri.2.1, h.tri.2.2⟩
  have US17 := hs.up HB17 HB17.size
  go_region_held3 (fun w' => w'.cell? ⟨w.heap.size, 0, none⟩ = some (.slice A n c) ∧ w'.cell? ⟨w.heap.size, 1, none⟩ = some (.int .i64 q) ∧ w'.cell? ⟨w.heap.size, 2, none⟩ = some (.slice B m d))
    (exact six (by repeat' (first | with_reducible exact (pa.below st20 pa.lt) | with_reducible exact (pa.below st19 pa.lt) | with_reducible exact (pa.below st18 pa.lt) | with_reducible exact pa | with_reducible refine Blk.drew ?_)))
    (first
      | (go_at_call 26; (with_reducible refine Calls.mono (toIntS_r As ns cs ss _ ?_ (by omega)) ?_)
         · exact US17
         rintro e w18 ⟨Aq, nq, cq, rfl, oq, hb18⟩
         have z18 : w17.heap.size ≤ w18.heap.size := hb18.size
         have st18 : Below w17.heap.size w17 w18 := (by repeat' (first | with_reducible exact Below.refl _ _ | with_reducible refine Below.alloc ?_ (by first | omega | (simp; done) | (simp; omega)) _ | with_reducible refine below_drewN ?_ _ | with_reducible refine Below.drew ?_ | with_reducible refine Below.setCell ?_ (by first | omega | (simp; done) | (simp; omega)) _ | with_reducible refine Below.trans ?_ (Below.mono hb18 (by first | omega | (simp; done) | (simp; omega)))))
         have lnq : nq ≤ 1048576 := (by have := oq.len; have := hs.len; omega)
         have VR18 := Ints.up hx (HB17.trans (st18.mono HB17.size)) (HB17.trans (st18.mono HB17.size)).size
         have VP18 := Puts.up hp (HB17.trans (st18.mono HB17.size)) (HB17.trans (st18.mono HB17.size)).size)
      | (go_at_call 44; (with_reducible refine Calls.mono (toTxn_x A n c B m d q xs ps _ ?_ ?_ (by omega) (by omega)) ?_)
         · exact VR18
         · exact VP18
         rintro e w19 ⟨Ay, ny, cy, By, my, dy, rfl, oy, uy, hb19⟩
         have zb19 : w18.heap.size ≤ w19.heap.size := hb19.size
         have sb19 : Below w18.heap.size w18 w19 := (by repeat' (first | with_reducible exact Below.refl _ _ | with_reducible refine Below.alloc ?_ (by first | omega | (simp; done) | (simp; omega)) _ | with_reducible refine below_drewN ?_ _ | with_reducible refine Below.drew ?_ | with_reducible refine Below.setCell ?_ (by first | omega | (simp; done) | (simp; omega)) _ | with_reducible refine Below.trans ?_ (Below.mono hb19 (by first | omega | (simp; done) | (simp; omega)))))
         have st19 : Below w17.heap.size w17 w19 := st18.trans (sb19.mono z18)
         have lny : ny ≤ 1048576 := (by have := oy.len; have := hx.len; omega)
         have lmy : my ≤ 1048576 := (by have := OwnP.len uy; have := hp.len; omega)
         have VQ19 := oq.ints.up sb19 sb19.size)
      | (go_at_call 53; (with_reducible refine Calls.mono (implTA_any _ _ _ _ _ _ q _ _ _ ss xs ps _ ?_ ?_ ?_ lnq lny lmy) ?_)
         · exact VQ19
         · exact oy.ints
         · exact OwnP.puts uy
         rintro e w20 ⟨Ah, nh, ch, rfl, oh, hb20⟩
         have zb20 : w19.heap.size ≤ w20.heap.size := hb20.size
         have st20 : Below w17.heap.size w17 w20 := st19.trans (((by repeat' (first | with_reducible exact Below.refl _ _ | with_reducible refine Below.alloc ?_ (by first | omega | (simp; done) | (simp; omega)) _ | with_reducible refine below_drewN ?_ _ | with_reducible refine Below.drew ?_ | with_reducible refine Below.setCell ?_ (by first | omega | (simp; done) | (simp; omega)) _ | with_reducible refine Below.trans ?_ (Below.mono hb20 (by first | omega | (simp; done) | (simp; omega))))) : Below w19.heap.size w19 w20).mono (by omega))))
  clear oq oy uy hb18 hb19 hb20 US17 VR18 VP18 VQ19
  have zf19 : w17.heap.size ≤ w19.heap.size := by omega
  replace oh := (rowI oh).mono (b' := w17.heap.size) zf19 (Nat.le_refl _)
  clear z18 zb19 zb20 zf19
  clear fpa lpa
  have z20 : w17.heap.size ≤ w20.heap.size := st20.size
  have HB20 : Below w.heap.size w w20 := HB17.trans (st20.mono HB17.size)
  replace ov := ov.keep (same_of_below st20 (by omega))
  replace og := og.keep (same_of_below st20 (by omega))
  replace pa := pa.below st20 pa.lt
  have UR20 := Ints.up hx HB20 HB20.size
  have UP20 := Puts.up hp HB20 HB20.size
  clear HB17 UR17 UP17
  have fpa := pa.three
  have lpa := pa.lt
  have lnh : nh ≤ 1048576 := by have := oh.len; have := taL_len ss ⟨xs, q, ps⟩; omega
  clear st18 st19 st20 sb19
  go_wp2_with fail
  refine (eqIntS_same _ _ _ _ _ _ (taL ss ⟨xs, q, ps⟩) _ (oh.ints (B := w20.heap.size) (by omega)) (ov.ints (B := w20.heap.size) (by omega)) lnh lnv).mono ?_
  rintro e w21 ⟨rfl, hb21⟩
  clear fpa lpa
  have z21 : w20.heap.size ≤ w21.heap.size := hb21.size
  have HB21 : Below w.heap.size w w21 := HB20.trans (hb21.mono HB20.size)
  replace ov := ov.keep (same_of_below hb21 (by omega))
  replace og := og.keep (same_of_below hb21 (by omega))
  replace oh := oh.keep (same_of_below hb21 (by omega))
  replace pa := pa.below hb21 pa.lt
  have UR21 := Ints.up hx HB21 HB21.size
  have UP21 := Puts.up hp HB21 HB21.size
  clear HB20 UR20 UP20
  have fpa := pa.three
  have lpa := pa.lt
  clear hb21
  go_wp2_with fail
  refine (heldIntS_v _ _ _ 1 _ (og.ints (B := w21.heap.size) (by omega)) (by omega) (by omega) lng).mono ?_
  rintro e w22 ⟨rfl, hb22⟩
  clear fpa lpa
  have z22 : w21.heap.size ≤ w22.heap.size := hb22.size
  have HB22 : Below w.heap.size w w22 := HB21.trans (hb22.mono HB21.size)
  replace ov := ov.keep (same_of_below hb22 (by omega))
  replace og := og.keep (same_of_below hb22 (by omega))
  replace oh := oh.keep (same_of_below hb22 (by omega))
  replace pa := pa.below hb22 pa.lt
  have UR22 := Ints.up hx HB22 HB22.size
  have UP22 := Puts.up hp HB22 HB22.size
  clear HB21 UR21 UP21
  have fpa := pa.three
  have lpa := pa.lt
  clear hb22
  go_wp2
  go_ret
  exact ⟨rfl, HB22⟩
end Go.Proofs.Ytaelaldgohppeaa
