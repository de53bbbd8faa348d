/-
  The walk of FnExactTxnValid: the law returns true and writes nothing that was there.
-/
import Derived.Test.YtaelaldgohppeaaXX
import Derived.Deep.RegionHeld3
namespace Go.Proofs.Ytaelaldgohppeaa
open Go.RowKit
set_option linter.unusedVariables false

set_option maxRecDepth 100000 in
set_option maxHeartbeats 8000000 in
theorem exTxnValid_walk (A : Option Addr) (n c : Nat) (xs : List Int) (q : Int) (B : Option Addr) (m d : Nat) (ps : List (Int × Int)) (w : World) (hn : n ≤ 9223372036854775807) (hx : Ints w w.heap.size A n xs) (hm : m ≤ 9223372036854775807) (hp : Puts w w.heap.size B m ps) :
    Calls Try.prog 8 #[.agg #[.slice A n c, .int .i64 q, .slice B m d]] w fun e w' => e = .returned (.bool true) ∧ Below w.heap.size w w' := by
  have hX := hx.box (.cells #[.slice A n c, .int .i64 q, .slice B m d] 42)
  have hP := hp.box (.cells #[.slice A n c, .int .i64 q, .slice B m d] 42)
  have pa := Blk.new w 42 #[.slice A n c, .int .i64 q, .slice B m d]
  have HBx : Below w.heap.size w (w.alloc (.cells #[.slice A n c, .int .i64 q, .slice B m d] 42)) := (Below.refl _ _).alloc (Nat.le_refl _) _
  have zx : (w.alloc (.cells #[.slice A n c, .int .i64 q, .slice B m d] 42)).heap.size = w.heap.size + 1 := by simp
  generalize hWx : w.alloc (.cells #[.slice A n c, .int .i64 q, .slice B m d] 42) = wx at hX hP pa HBx zx
  have fpa := pa.three
  rcases Int.lt_or_le 1048576 ((n : Int) + (m : Int)) with hsz | hsz
  · go_enter Try.func8, Try.ntmps8
    go_wp2_with fail
    refine (szTxn_no_x A n c B m d q _ _ (by omega) (by omega) hn hm hsz).mono ?_
    rintro e w1 ⟨rfl, hb1⟩
    go_wp2
    go_ret
    exact ⟨rfl, HBx.trans (hb1.mono HBx.size)⟩
  go_enter Try.func8, Try.ntmps8
  go_wp2_with fail
  refine (szTxn_yes_x A n c B m d q _ _ (by omega) (by omega)).mono ?_
  rintro e w0 ⟨rfl, hb0⟩
  have HB0 : Below w.heap.size w w0 := HBx.trans (hb0.mono HBx.size)
  have z0 := hb0.size
  replace pa := pa.below hb0 pa.lt
  clear hb0 hWx hX hP HBx fpa
  have UR0 := Ints.up hx HB0 HB0.size
  have UP0 := Puts.up hp HB0 HB0.size
  have fpa := pa.three
  have lpa := pa.lt
  have hne : (tvB ⟨xs, q, ps⟩ != tvB ⟨xs, q, ps⟩) = false := by simp
  go_wp2_with fail
  refine (toTxn_x A n c B m d q xs ps _ UR0 UP0 (by omega) (by omega)).mono ?_
  rintro e w1 ⟨Aa, na, ca, Ba, ma, da, rfl, oa, ua, hb1⟩
  clear fpa lpa
  have z1 : w0.heap.size ≤ w1.heap.size := hb1.size
  have HB1 : Below w.heap.size w w1 := HB0.trans (hb1.mono HB0.size)
  replace pa := pa.below hb1 pa.lt
  have UR1 := Ints.up hx HB1 HB1.size
  have UP1 := Puts.up hp HB1 HB1.size
  clear UR0 UP0
  have fpa := pa.three
  have lpa := pa.lt
  clear hb1
  replace oa := (rowI oa).mono (b' := w0.heap.size) (by omega) (Nat.le_refl _)
  replace ua := (rowP ua).mono (b' := w0.heap.size) (by omega) (Nat.le_refl _)
  have lna : na ≤ 1048576 := by have := oa.len; have := hx.len; omega
  have lma : ma ≤ 1048576 := by have := ua.len; have := hp.len; omega
  go_wp2_with fail
  refine (specTV_x _ _ _ _ _ _ q xs ps _ (oa.ints (B := w1.heap.size) (by omega)) (ua.ints (B := w1.heap.size) (by omega)) lna lma).mono ?_
  rintro e w2 ⟨rfl, hb2⟩
  clear fpa lpa
  have z2 : w1.heap.size ≤ w2.heap.size := hb2.size
  have HB2 : Below w.heap.size w w2 := HB1.trans (hb2.mono HB1.size)
  replace oa := oa.keep (same_of_below hb2 (by omega))
  replace ua := ua.keep (same_of_below hb2 (by omega))
  replace pa := pa.below hb2 pa.lt
  have UR2 := Ints.up hx HB2 HB2.size
  have UP2 := Puts.up hp HB2 HB2.size
  clear HB1 UR1 UP1
  have fpa := pa.three
  have lpa := pa.lt
  clear hb2
  clear oa
  clear ua
  go_wp2_with fail
  refine (toTxn_x A n c B m d q xs ps _ UR2 UP2 (by omega) (by omega)).mono ?_
  rintro e w3 ⟨Ax, nx, cx, Bx, mx, dx, rfl, ox, ux, hb3⟩
  clear fpa lpa
  have z3 : w2.heap.size ≤ w3.heap.size := hb3.size
  have HB3 : Below w.heap.size w w3 := HB2.trans (hb3.mono HB2.size)
  replace pa := pa.below hb3 pa.lt
  have UR3 := Ints.up hx HB3 HB3.size
  have UP3 := Puts.up hp HB3 HB3.size
  clear HB2 UR2 UP2
  have fpa := pa.three
  have lpa := pa.lt
  clear hb3
  replace ox := (rowI ox).mono (b' := w2.heap.size) (by omega) (Nat.le_refl _)
  replace ux := (rowP ux).mono (b' := w2.heap.size) (by omega) (Nat.le_refl _)
  have lnx : nx ≤ 1048576 := by have := ox.len; have := hx.len; omega
  have lmx : mx ≤ 1048576 := by have := ux.len; have := hp.len; omega
  go_wp2_with fail
  clear fpa lpa
  have px := Blk.new w3 47 #[.slice Ax nx cx, .int .i64 q, .slice Bx mx dx]
  have hb4 : Below w3.heap.size w3 (w3.alloc (.cells #[.slice Ax nx cx, .int .i64 q, .slice Bx mx dx] 47)) := (Below.refl _ _).alloc (Nat.le_refl _) _
  have zz4 : (w3.alloc (.cells #[.slice Ax nx cx, .int .i64 q, .slice Bx mx dx] 47)).heap.size = w3.heap.size + 1 := by simp
  generalize hW4 : w3.alloc (.cells #[.slice Ax nx cx, .int .i64 q, .slice Bx mx dx] 47) = w4 at px hb4 zz4 ⊢
  clear hW4
  have z4 : w3.heap.size ≤ w4.heap.size := hb4.size
  have HB4 : Below w.heap.size w w4 := HB3.trans (hb4.mono HB3.size)
  replace ox := ox.keep (same_of_below hb4 (by omega))
  replace ux := ux.keep (same_of_below hb4 (by omega))
  replace pa := pa.below hb4 pa.lt
  have UR4 := Ints.up hx HB4 HB4.size
  have UP4 := Puts.up hp HB4 HB4.size
  clear HB3 UR3 UP3
  clear hb4
  have fpa := pa.three
  have fpx := px.three
  have lpa := pa.lt
  have lpx := px.lt
  go_wp2_with fail
  refine (implTV_x _ _ _ _ _ _ q xs ps _ (ox.ints (B := w4.heap.size) (by omega)) (ux.ints (B := w4.heap.size) (by omega)) lnx lmx).mono ?_
  rintro e w5 ⟨rfl, hb5⟩
  clear fpa lpa fpx lpx
  have z5 : w4.heap.size ≤ w5.heap.size := hb5.size
  have HB5 : Below w.heap.size w w5 := HB4.trans (hb5.mono HB4.size)
  replace ox := ox.keep (same_of_below hb5 (by omega))
  replace ux := ux.keep (same_of_below hb5 (by omega))
  replace pa := pa.below hb5 pa.lt
  replace px := px.below hb5 px.lt
  have UR5 := Ints.up hx HB5 HB5.size
  have UP5 := Puts.up hp HB5 HB5.size
  clear HB4 UR4 UP4
  have fpa := pa.three
  have fpx := px.three
  have lpa := pa.lt
  have lpx := px.lt
  clear hb5
  go_wp2_with fail
  have six : ∀ {W : World}, Blk W (w3.heap.size) 47 #[.slice Ax nx cx, .int .i64 q, .slice Bx mx dx] → Blk W w.heap.size 42 #[.slice A n c, .int .i64 q, .slice B m d] → W.cell? ⟨w3.heap.size, 0, none⟩ = some (.slice Ax nx cx) ∧ W.cell? ⟨w3.heap.size, 1, none⟩ = some (.int .i64 q) ∧ W.cell? ⟨w3.heap.size, 2, none⟩ = some (.slice Bx mx dx) ∧ W.cell? ⟨w.heap.size, 0, none⟩ = some (.slice A n c) ∧ W.cell? ⟨w.heap.size, 1, none⟩ = some (.int .i64 q) ∧ W.cell? ⟨w.heap.size, 2, none⟩ = some (.slice B m d) := fun h h' => ⟨h.tri.1, h.tri.2.1, h.tri.2.2, h'.tri.1, h'.tri.2.1, h'.tri.2.2⟩
  go_region_held3 (fun w' => w'.cell? ⟨w3.heap.size, 0, none⟩ = some (.slice Ax nx cx) ∧ w'.cell? ⟨w3.heap.size, 1, none⟩ = some (.int .i64 q) ∧ w'.cell? ⟨w3.heap.size, 2, none⟩ = some (.slice Bx mx dx) ∧ w'.cell? ⟨w.heap.size, 0, none⟩ = some (.slice A n c) ∧ w'.cell? ⟨w.heap.size, 1, none⟩ = some (.int .i64 q) ∧ w'.cell? ⟨w.heap.size, 2, none⟩ = some (.slice B m d))
    (exact six (by repeat' (first | with_reducible exact (px.below st7 px.lt) | with_reducible exact (px.below st6 px.lt) | with_reducible exact px | with_reducible refine Blk.drew ?_)) (by repeat' (first | with_reducible exact (pa.below st7 pa.lt) | with_reducible exact (pa.below st6 pa.lt) | with_reducible exact pa | with_reducible refine Blk.drew ?_)))
    (first
      | (go_at_call 44; (with_reducible refine Calls.mono (toTxn_x A n c B m d q xs ps _ ?_ ?_ (by omega) (by omega)) ?_)
         · exact UR5
         · exact UP5
         rintro e w6 ⟨Ay, ny, cy, By, my, dy, rfl, oy, uy, hb6⟩
         have z6 : w5.heap.size ≤ w6.heap.size := hb6.size
         have st6 : Below w5.heap.size w5 w6 := (by repeat' (first | with_reducible exact Below.refl _ _ | with_reducible refine Below.alloc ?_ (by first | omega | (simp; done) | (simp; omega)) _ | with_reducible refine below_drewN ?_ _ | with_reducible refine Below.drew ?_ | with_reducible refine Below.setCell ?_ (by first | omega | (simp; done) | (simp; omega)) _ | with_reducible refine Below.trans ?_ (Below.mono hb6 (by first | omega | (simp; done) | (simp; omega)))))
         have lny : ny ≤ 1048576 := (by have := oy.len; have := hx.len; omega)
         have lmy : my ≤ 1048576 := (by have := OwnP.len uy; have := hp.len; omega))
      | (go_at_call 46; (with_reducible refine Calls.mono (eqTxn_x _ _ _ _ _ _ q xs ps _ _ _ _ _ _ _ ?_ ?_ ?_ ?_ lnx lmx lny lmy) ?_)
         · exact (ox.keep (same_of_below st6 (by omega))).ints (by omega)
         · exact (ux.keep (same_of_below st6 (by omega))).puts (by omega)
         · exact oy.ints
         · exact OwnP.puts uy
         rintro e w7 ⟨rfl, hb7⟩
         have zb7 : w6.heap.size ≤ w7.heap.size := hb7.size
         have st7 : Below w5.heap.size w5 w7 := st6.trans (((by repeat' (first | with_reducible exact Below.refl _ _ | with_reducible refine Below.alloc ?_ (by first | omega | (simp; done) | (simp; omega)) _ | with_reducible refine below_drewN ?_ _ | with_reducible refine Below.drew ?_ | with_reducible refine Below.setCell ?_ (by first | omega | (simp; done) | (simp; omega)) _ | with_reducible refine Below.trans ?_ (Below.mono hb7 (by first | omega | (simp; done) | (simp; omega))))) : Below w6.heap.size w6 w7).mono z6)))
  clear oy uy hb6 hb7 z6 zb7
  clear fpa lpa fpx lpx
  have z7 : w5.heap.size ≤ w7.heap.size := st7.size
  have HB7 : Below w.heap.size w w7 := HB5.trans (st7.mono HB5.size)
  replace ox := ox.keep (same_of_below st7 (by omega))
  replace ux := ux.keep (same_of_below st7 (by omega))
  replace pa := pa.below st7 pa.lt
  replace px := px.below st7 px.lt
  have UR7 := Ints.up hx HB7 HB7.size
  have UP7 := Puts.up hp HB7 HB7.size
  clear HB5 UR5 UP5
  have fpa := pa.three
  have fpx := px.three
  have lpa := pa.lt
  have lpx := px.lt
  clear st6 st7
  go_wp2
  go_ret
  exact ⟨rfl, HB7⟩
end Go.Proofs.Ytaelaldgohppeaa
