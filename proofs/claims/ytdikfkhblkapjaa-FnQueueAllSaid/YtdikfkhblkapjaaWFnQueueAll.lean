/-
  The walk of FnQueueAll: the law returns true and writes nothing that was there.
-/
import Derived.Test.YtdikfkhblkapjaaDL
import Derived.Test.YtdikfkhblkapjaaQL
import Derived.Test.YtdikfkhblkapjaaQ7
import Derived.Test.YtdikfkhblkapjaaQ8
import Derived.Test.YtdikfkhblkapjaaQK
import Derived.Deep.RegionHeld3
import Derived.IntWalk
namespace Go.Proofs.Ytdikfkhblkapjaa
open Go.RowKit
set_option linter.unusedVariables false

set_option maxHeartbeats 4000000 in
theorem fnQueueAll_walk (A : Option Addr) (n c : Nat) (bs : List Int) (B : Option Addr) (m d : Nat) (cs : List Int) (w : World) (hc : n ≤ c) (hcm : c ≤ 9223372036854775807) (hb : Bytes w w.heap.size A n bs) (hd : m ≤ d) (hdm : d ≤ 9223372036854775807) (hb' : Bytes w w.heap.size B m cs) :
    Calls Try.prog 10 #[.slice A n c, .slice B m d] w fun e w' => e = .returned (.bool true) ∧ Below w.heap.size w w' := by
  by_cases hn : 1048576 < n
  · go_enter Try.func10, Try.ntmps10
    go_wp2
    go_ret
    exact ⟨rfl, Below.refl _ _⟩
  by_cases hm : 1048576 < m
  · go_enter Try.func10, Try.ntmps10
    go_wp2
    go_ret
    exact ⟨rfl, Below.refl _ _⟩
  go_enter Try.func10, Try.ntmps10
  have HB0 : Below w.heap.size w w := Below.refl _ _
  go_wp2_with fail
  refine (drawQueueLeft_any _ _ _ _ _ hb (by omega) hc hcm).mono ?_
  rintro e w1 ⟨A1, n1, c1, B1, m1, d1, xs1, ys1, rfl, o1, u1, hn1, hm1, hb1⟩
  have z1 : w.heap.size ≤ w1.heap.size := by have := hb1.size; simpa using this
  have st1 : Below w.heap.size w w1 := (by repeat' (first | with_reducible exact Below.refl _ _ | with_reducible refine Below.alloc ?_ (by first | omega | (simp; done) | (simp; omega)) _ | with_reducible refine below_drewN ?_ _ | with_reducible refine Below.drew ?_ | with_reducible refine Below.setCell ?_ (by first | omega | (simp; done) | (simp; omega)) _ | with_reducible refine Below.trans ?_ (Below.mono hb1 (by first | omega | (simp; done) | (simp; omega)))))
  have HB1 : Below w.heap.size w w1 := HB0.trans (st1.mono HB0.size)
  clear HB0
  clear st1
  replace o1 := (rowI o1).mono (b' := w.heap.size) (by first | omega | (simp; done) | (simp; omega)) (Nat.le_refl _)
  replace u1 := (rowI u1).mono (b' := w.heap.size) (by first | omega | (simp; done) | (simp; omega)) (Nat.le_refl _)
  have ln1 := Lib.hid o1.len; have lm1 := Lib.hid u1.len; have cp1 := o1.cap
  go_wp2_with fail
  refine (implQueueLeft_any _ _ _ _ _ _ xs1 ys1 _ ((o1.ints (B := w1.heap.size) (by omega)).box _) ((u1.ints (B := w1.heap.size) (by omega)).box _) (by omega) (by omega) cp1).mono ?_
  rintro e w2 ⟨Ag, ng, cg, rfl, og, hb2⟩
  have z2 : w1.heap.size + 1 ≤ w2.heap.size := by have := hb2.size; simpa using this
  have st2 : Below w1.heap.size w1 w2 := (by repeat' (first | with_reducible exact Below.refl _ _ | with_reducible refine Below.alloc ?_ (by first | omega | (simp; done) | (simp; omega)) _ | with_reducible refine below_drewN ?_ _ | with_reducible refine Below.drew ?_ | with_reducible refine Below.setCell ?_ (by first | omega | (simp; done) | (simp; omega)) _ | with_reducible refine Below.trans ?_ (Below.mono hb2 (by first | omega | (simp; done) | (simp; omega)))))
  have HB2 : Below w.heap.size w w2 := HB1.trans (st2.mono HB1.size)
  have p1 : Blk w2 (w1.heap.size) 34 #[.slice A1 n1 c1, .slice B1 m1 d1] := by simpa using (Blk.new w1 34 #[.slice A1 n1 c1, .slice B1 m1 d1]).below hb2 (by simp)
  replace o1 := o1.keep (same_of_below st2 (by omega))
  replace u1 := u1.keep (same_of_below st2 (by omega))
  clear HB1
  clear st2
  have fp1 := p1.two; have lp1 := p1.lt
  replace og := (rowI og).mono (b' := w1.heap.size + 1) (by first | omega | (simp; done) | (simp; omega)) (Nat.le_refl _)
  have ng20 : ng ≤ 21 := by have := og.len; have := qleft_len xs1 ys1; have := ln1.out; omega
  go_wp2_with fail
  refine (specQueueLeft_any _ _ _ _ _ _ xs1 ys1 _ (o1.ints (B := w2.heap.size) (by omega)) (u1.ints (B := w2.heap.size) (by omega)) (by omega) (by omega) cp1).mono ?_
  rintro e w3 ⟨Ah, nh, ch, rfl, oh, hb3⟩
  clear fp1 lp1
  have z3 : w2.heap.size ≤ w3.heap.size := by have := hb3.size; simpa using this
  have st3 : Below w2.heap.size w2 w3 := (by repeat' (first | with_reducible exact Below.refl _ _ | with_reducible refine Below.alloc ?_ (by first | omega | (simp; done) | (simp; omega)) _ | with_reducible refine below_drewN ?_ _ | with_reducible refine Below.drew ?_ | with_reducible refine Below.setCell ?_ (by first | omega | (simp; done) | (simp; omega)) _ | with_reducible refine Below.trans ?_ (Below.mono hb3 (by first | omega | (simp; done) | (simp; omega)))))
  have HB3 : Below w.heap.size w w3 := HB2.trans (st3.mono HB2.size)
  replace p1 := p1.below st3 p1.lt
  replace o1 := o1.keep (same_of_below st3 (by omega))
  replace u1 := u1.keep (same_of_below st3 (by omega))
  replace og := og.keep (same_of_below st3 (by omega))
  clear HB2
  clear st3
  have fp1 := p1.two; have lp1 := p1.lt
  replace oh := (rowI oh).mono (b' := w2.heap.size) (by first | omega | (simp; done) | (simp; omega)) (Nat.le_refl _)
  have nh20 : nh ≤ 21 := by have := oh.len; have := qleft_len xs1 ys1; have := ln1.out; omega
  go_wp2_with fail
  refine (sameInts_same _ _ _ _ _ _ (qleft xs1 ys1) _ (og.ints (B := w3.heap.size) (by omega)) (oh.ints (B := w3.heap.size) (by omega)) (by omega) (by omega)).mono ?_
  rintro e w4 ⟨rfl, hb4⟩
  clear fp1 lp1
  have z4 : w3.heap.size ≤ w4.heap.size := by have := hb4.size; simpa using this
  have st4 : Below w3.heap.size w3 w4 := (by repeat' (first | with_reducible exact Below.refl _ _ | with_reducible refine Below.alloc ?_ (by first | omega | (simp; done) | (simp; omega)) _ | with_reducible refine below_drewN ?_ _ | with_reducible refine Below.drew ?_ | with_reducible refine Below.setCell ?_ (by first | omega | (simp; done) | (simp; omega)) _ | with_reducible refine Below.trans ?_ (Below.mono hb4 (by first | omega | (simp; done) | (simp; omega)))))
  have HB4 : Below w.heap.size w w4 := HB3.trans (st4.mono HB3.size)
  replace p1 := p1.below st4 p1.lt
  replace o1 := o1.keep (same_of_below st4 (by omega))
  replace u1 := u1.keep (same_of_below st4 (by omega))
  replace og := og.keep (same_of_below st4 (by omega))
  replace oh := oh.keep (same_of_below st4 (by omega))
  clear HB3
  clear st4
  have fp1 := p1.two; have lp1 := p1.lt
  go_wp2_with fail
  refine (specQueueValid_any _ _ _ _ _ _ xs1 ys1 _ (o1.ints (B := w4.heap.size) (by omega)) (u1.ints (B := w4.heap.size) (by omega)) (by omega) (by omega)).mono ?_
  rintro e w5 ⟨rfl, hb5⟩
  clear fp1 lp1
  have z5 : w4.heap.size ≤ w5.heap.size := by have := hb5.size; simpa using this
  have st5 : Below w4.heap.size w4 w5 := (by repeat' (first | with_reducible exact Below.refl _ _ | with_reducible refine Below.alloc ?_ (by first | omega | (simp; done) | (simp; omega)) _ | with_reducible refine below_drewN ?_ _ | with_reducible refine Below.drew ?_ | with_reducible refine Below.setCell ?_ (by first | omega | (simp; done) | (simp; omega)) _ | with_reducible refine Below.trans ?_ (Below.mono hb5 (by first | omega | (simp; done) | (simp; omega)))))
  have HB5 : Below w.heap.size w w5 := HB4.trans (st5.mono HB4.size)
  replace p1 := p1.below st5 p1.lt
  replace o1 := o1.keep (same_of_below st5 (by omega))
  replace u1 := u1.keep (same_of_below st5 (by omega))
  replace og := og.keep (same_of_below st5 (by omega))
  replace oh := oh.keep (same_of_below st5 (by omega))
  clear HB4
  clear st5
  have fp1 := p1.two; have lp1 := p1.lt
  cases hv : qvB xs1 ys1
  · go_wp2_with fail
    refine (sameInts_same _ _ _ _ _ _ (qleft xs1 ys1) _ (og.ints (B := w5.heap.size) (by omega)) (oh.ints (B := w5.heap.size) (by omega)) (by omega) (by omega)).mono ?_
    rintro e w6 ⟨rfl, hb6⟩
    clear fp1 lp1
    have z6 : w5.heap.size ≤ w6.heap.size := by have := hb6.size; simpa using this
    have st6 : Below w5.heap.size w5 w6 := (by repeat' (first | with_reducible exact Below.refl _ _ | with_reducible refine Below.alloc ?_ (by first | omega | (simp; done) | (simp; omega)) _ | with_reducible refine below_drewN ?_ _ | with_reducible refine Below.drew ?_ | with_reducible refine Below.setCell ?_ (by first | omega | (simp; done) | (simp; omega)) _ | with_reducible refine Below.trans ?_ (Below.mono hb6 (by first | omega | (simp; done) | (simp; omega)))))
    have HB6 : Below w.heap.size w w6 := HB5.trans (st6.mono HB5.size)
    replace p1 := p1.below st6 p1.lt
    replace o1 := o1.keep (same_of_below st6 (by omega))
    replace u1 := u1.keep (same_of_below st6 (by omega))
    replace og := og.keep (same_of_below st6 (by omega))
    replace oh := oh.keep (same_of_below st6 (by omega))
    clear HB5
    clear st6
    have fp1 := p1.two; have lp1 := p1.lt
    go_wp2
    go_ret
    exact ⟨rfl, HB6⟩
  · obtain ⟨hl1, hl2⟩ := qv_len hv
    have hnm : m1 ≤ n1 := by have := ln1.out; have := lm1.out; omega
    have hn20 : n1 ≤ 20 := by have := ln1.out; omega
    clear hl1 hl2
    have eq1 : qleft xs1 ys1 = xs1.drop m1 := by simp [qleft, hv, lm1.out]
    rw [eq1] at og oh
    clear eq1
    have hgn : ng = n1 - m1 := by have h := og.len; simp at h; have := ln1.out; omega
    subst hgn
    clear oh
    go_wp2_with fail
    go_loopw [9] (fun i wr => ∃ (k : Nat) (Ax : Option Addr) (nx cx : Nat) (Bx : Option Addr) (mx dx b0 e0 : Nat), k ≤ n1 - m1 ∧ i = .int .i64 k ∧ Hid (qvB xs1 (ys1 ++ tk m k) = true) ∧ Blk wr (w5.heap.size) 34 #[.slice Ax nx cx, .slice Bx mx dx] ∧ RowI wr b0 e0 Ax nx cx xs1 ∧ RowI wr b0 e0 Bx mx dx (ys1 ++ tk m k) ∧ e0 ≤ wr.heap.size ∧ (w5.heap.size < b0 ∨ e0 ≤ w5.heap.size) ∧ Below w.heap.size w wr ∧ w5.heap.size ≤ wr.heap.size ∧ Blk wr (w1.heap.size) 34 #[.slice A1 n1 c1, .slice B1 m1 d1] ∧ RowI wr (w.heap.size) (w1.heap.size) A1 n1 c1 (xs1) ∧ RowI wr (w.heap.size) (w1.heap.size) B1 m1 d1 (ys1) ∧ RowI wr (w1.heap.size + 1) (w2.heap.size) Ag (n1 - m1) cg (xs1.drop m1)) (fun i _ => (n1 - m1) - (intOf i).toNat)
    case atStart => exact ⟨0, A1, n1, c1, B1, m1, d1, _, _, by omega, rfl, Lib.hid (by rw [tk_zero, List.append_nil]; exact hv), Blk.new _ _ _, o1.keep (Same.alloc (by omega) _), by rw [tk_zero, List.append_nil]; exact u1.keep (Same.alloc (by omega) _), by simp; omega, .inr (by omega), HB5.alloc HB5.size _, by simp, p1.alloc _, o1.keep (Same.alloc (by omega) _), u1.keep (Same.alloc (by omega) _), og.keep (Same.alloc (by omega) _)⟩
    case round =>
      clear fp1 lp1
      clear hv HB5 p1 o1 u1 og
      obtain ⟨k, Ax, nx, cx, Bx, mx, dx, b0, e0, hk, rfl, hvk, px, ox, ux, hew, hSb, hbw, hzw, p1, o1, u1, og⟩ := hrel
      have fp1 := p1.two; have lp1 := p1.lt
      have fpx := px.two; have lpx := px.lt
      have lnx : nx = n1 := by have := ox.len; have := ln1.out; omega
      have lmx : mx = m1 + k := by have h := ux.len; have := lm1.out; rw [List.length_append, tk_length] at h; omega
      have LNX := Lib.hid lnx
      have hSl := px.lt
      have LMX := Lib.hid lmx
      have hnx : nx ≤ 20 := by omega
      have hmx : mx ≤ 20 := by omega
      have cpx := ox.cap
      have hmlen : m ≤ 1048576 := by omega
      clear lnx lmx
      by_cases hlt : k < n1 - m1
      · obtain ⟨a, ha⟩ : ∃ a, xs1[m1 + k]? = some a := ⟨_, List.getElem?_eq_getElem (by have := ln1.out; omega)⟩
        obtain ⟨hT1, hT2, hT3, hT4⟩ := take_law (who := ((k : Int) + (m : Int)) % 4) hvk.out (by simp [inB]; omega) (show (ys1 ++ tk m k).length = m1 + k by rw [List.length_append, tk_length, lm1.out]) ha
        have hvn := Lib.hid (qv_take hT1)
        have T1 := Lib.hid hT1; have T2 := Lib.hid hT2; have T3 := Lib.hid hT3; have T4 := Lib.hid hT4
        clear hT1 hT2 hT3 hT4
        obtain ⟨gg, rfl, hgg1, hgg2⟩ := og.form (by omega)
        have hdrop : (xs1.drop m1)[k]? = some a := by rw [List.getElem?_drop]; exact ha
        have HA := Lib.hid ha; have HD := Lib.hid hdrop
        clear ha hdrop
        go_wp2_with fail
        refine (implTake_any _ _ _ _ _ _ xs1 (ys1 ++ tk m k) (((k : Int) + (m : Int)) % 4) _ (ox.ints (B := wr.heap.size) (by omega)) (ux.ints (B := wr.heap.size) (by omega)) (by omega) (by omega) cpx).mono ?_
        rintro e w6 ⟨Ay, ny, cy, By, my, dy, rfl, oy, uy, apy, hb6⟩
        clear fp1 lp1 fpx lpx
        have z6 : wr.heap.size ≤ w6.heap.size := by have := hb6.size; simpa using this
        have st6 : Below wr.heap.size wr w6 := (by repeat' (first | with_reducible exact Below.refl _ _ | with_reducible refine Below.alloc ?_ (by first | omega | (simp; done) | (simp; omega)) _ | with_reducible refine below_drewN ?_ _ | with_reducible refine Below.drew ?_ | with_reducible refine Below.setCell ?_ (by first | omega | (simp; done) | (simp; omega)) _ | with_reducible refine Below.trans ?_ (Below.mono hb6 (by first | omega | (simp; done) | (simp; omega)))))
        have HB6 : Below w.heap.size w w6 := hbw.trans (st6.mono hbw.size)
        replace p1 := p1.below st6 p1.lt
        replace px := px.below st6 px.lt
        replace o1 := o1.keep (same_of_below st6 (by omega))
        replace u1 := u1.keep (same_of_below st6 (by omega))
        replace og := og.keep (same_of_below st6 (by omega))
        replace ox := ox.keep (same_of_below st6 (by omega))
        replace ux := ux.keep (same_of_below st6 (by omega))
        clear hbw
        clear st6
        have fp1 := p1.two; have lp1 := p1.lt
        have fpx := px.two; have lpx := px.lt
        replace oy := (rowI oy).mono (b' := wr.heap.size) (by first | omega | (simp; done) | (simp; omega)) (Nat.le_refl _)
        replace uy := (rowI uy).mono (b' := wr.heap.size) (by first | omega | (simp; done) | (simp; omega)) (Nat.le_refl _)
        rw [T2.out] at oy
        rw [T3.out] at uy
        rw [T1.out, T4.out]
        have fg := og.cellIs HD.out
        have haa : (a != a) = false := by simp
        have lgg : gg < w6.heap.size := by omega
        go_wp2_with fail
        go_roundw
        case rel => exact ⟨k + 1, Ay, ny, cy, By, my, dy, _, _, by omega, by go_num, Lib.hid (by rw [tk_succ, ← List.append_assoc]; exact hvn.out), px.ys' _ _ _, oy.keep (Same.ys (S := w5.heap.size) (Nat.le_refl _) (.inl (by omega)) _ _ _), by rw [tk_succ, ← List.append_assoc]; exact uy.keep (Same.ys (S := w5.heap.size) (Nat.le_refl _) (.inl (by omega)) _ _ _), by simp, .inl (by omega), below_ys (S := w5.heap.size) HB6 HB6.size (by omega) _ _ _, by simp; omega, p1.ys (S := w5.heap.size) (by omega) _ _ _, o1.keep (Same.ys (S := w5.heap.size) (by omega) (.inr (by omega)) _ _ _), u1.keep (Same.ys (S := w5.heap.size) (by omega) (.inr (by omega)) _ _ _), og.keep (Same.ys (S := w5.heap.size) (by omega) (.inr (by omega)) _ _ _)⟩
        case measure => simp [intOf]; omega
      · obtain rfl : k = n1 - m1 := by omega
        have hlen : xs1.length ≤ (ys1 ++ tk m (n1 - m1)).length := by rw [List.length_append, tk_length, ln1.out, lm1.out]; omega
        have hok : takeOk xs1 (ys1 ++ tk m (n1 - m1)) 0 = true := by simp [takeOk, hvk.out, inB]
        obtain ⟨e1, e2, e3, e4⟩ := take_none hok hlen
        have E3 := Lib.hid e3; have E4 := Lib.hid e4
        have eq1 : qleft xs1 (ys1 ++ tk m (n1 - m1)) = [] := by simp only [qleft, hvk.out, if_true]; exact List.drop_eq_nil_of_le hlen
        have EQ := Lib.hid eq1
        clear hlen hok e1 e2 e3 e4 eq1
        go_wp2_with fail
        refine (implTake_any _ _ _ _ _ _ xs1 (ys1 ++ tk m (n1 - m1)) 0 _ (ox.ints (B := wr.heap.size) (by omega)) (ux.ints (B := wr.heap.size) (by omega)) (by omega) (by omega) cpx).mono ?_
        rintro e w6 ⟨Az, nz, cz, Bz, mz, dz, rfl, oz, uz, apz, hb6⟩
        clear fp1 lp1 fpx lpx
        have z6 : wr.heap.size ≤ w6.heap.size := by have := hb6.size; simpa using this
        have st6 : Below wr.heap.size wr w6 := (by repeat' (first | with_reducible exact Below.refl _ _ | with_reducible refine Below.alloc ?_ (by first | omega | (simp; done) | (simp; omega)) _ | with_reducible refine below_drewN ?_ _ | with_reducible refine Below.drew ?_ | with_reducible refine Below.setCell ?_ (by first | omega | (simp; done) | (simp; omega)) _ | with_reducible refine Below.trans ?_ (Below.mono hb6 (by first | omega | (simp; done) | (simp; omega)))))
        have HB6 : Below w.heap.size w w6 := hbw.trans (st6.mono hbw.size)
        replace p1 := p1.below st6 p1.lt
        replace px := px.below st6 px.lt
        replace o1 := o1.keep (same_of_below st6 (by omega))
        replace u1 := u1.keep (same_of_below st6 (by omega))
        replace og := og.keep (same_of_below st6 (by omega))
        replace ox := ox.keep (same_of_below st6 (by omega))
        replace ux := ux.keep (same_of_below st6 (by omega))
        clear hbw
        clear st6
        have fp1 := p1.two; have lp1 := p1.lt
        have fpx := px.two; have lpx := px.lt
        rw [E3.out, E4.out]
        go_wp2_with fail
        refine (implQueueLeft_any _ _ _ _ _ _ xs1 (ys1 ++ tk m (n1 - m1)) _ ((ox.ints (B := w6.heap.size) (by omega)).box _) ((ux.ints (B := w6.heap.size) (by omega)).box _) (by omega) (by omega) cpx).mono ?_
        rintro e w7 ⟨Av, nv, cv, rfl, ov, hb7⟩
        clear fp1 lp1 fpx lpx
        have z7 : w6.heap.size + 1 ≤ w7.heap.size := by have := hb7.size; simpa using this
        have st7 : Below w6.heap.size w6 w7 := (by repeat' (first | with_reducible exact Below.refl _ _ | with_reducible refine Below.alloc ?_ (by first | omega | (simp; done) | (simp; omega)) _ | with_reducible refine below_drewN ?_ _ | with_reducible refine Below.drew ?_ | with_reducible refine Below.setCell ?_ (by first | omega | (simp; done) | (simp; omega)) _ | with_reducible refine Below.trans ?_ (Below.mono hb7 (by first | omega | (simp; done) | (simp; omega)))))
        have HB7 : Below w.heap.size w w7 := HB6.trans (st7.mono HB6.size)
        replace p1 := p1.below st7 p1.lt
        replace px := px.below st7 px.lt
        have pz : Blk w7 (w6.heap.size) 34 #[.slice Az nz cz, .slice Bz mz dz] := by simpa using (Blk.new w6 34 #[.slice Az nz cz, .slice Bz mz dz]).below hb7 (by simp)
        replace o1 := o1.keep (same_of_below st7 (by omega))
        replace u1 := u1.keep (same_of_below st7 (by omega))
        replace og := og.keep (same_of_below st7 (by omega))
        replace ox := ox.keep (same_of_below st7 (by omega))
        replace ux := ux.keep (same_of_below st7 (by omega))
        clear HB6
        clear st7
        have fp1 := p1.two; have lp1 := p1.lt
        have fpx := px.two; have lpx := px.lt
        have fpz := pz.two; have lpz := pz.lt
        replace ov := (rowI ov).mono (b' := w6.heap.size + 1) (by first | omega | (simp; done) | (simp; omega)) (Nat.le_refl _)
        have hnv : nv = 0 := by have h := ov.len; rw [EQ.out] at h; simpa using h.symm
        subst hnv
        go_wp2
        go_ret
        exact ⟨rfl, HB7⟩
end Go.Proofs.Ytdikfkhblkapjaa
