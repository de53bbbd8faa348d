/-
  The walk of FnTxnCommute: the law returns true and writes nothing that was there.
-/
import Derived.Test.YtaelaldgohppeaaSc2
import Derived.Deep.RegionHeld3
namespace Go.Proofs.Ytaelaldgohppeaa
open Go.RowKit
set_option linter.unusedVariables false

set_option maxRecDepth 100000 in
set_option maxHeartbeats 8000000 in
theorem fnTxnCommute_walk (A : Option Addr) (n c : Nat) (bs : List Int) (A' : Option Addr) (n' c' : Nat) (bs' : List Int) (w : World) (hc : n ≤ c) (hcm : c ≤ 9223372036854775807) (hb : Bytes w w.heap.size A n bs) (hc' : n' ≤ c') (hcm' : c' ≤ 9223372036854775807) (hb' : Bytes w w.heap.size A' n' bs') :
    Calls Try.prog 16 #[.slice A n c, .slice A' n' c'] w fun e w' => e = .returned (.bool true) ∧ Below w.heap.size w w' := by
  by_cases hbig : 1048576 < n
  · go_enter Try.func16, Try.ntmps16
    go_wp2
    go_ret
    exact ⟨rfl, Below.refl _ _⟩
  by_cases hbig' : 1048576 < n'
  · go_enter Try.func16, Try.ntmps16
    go_wp2
    go_ret
    exact ⟨rfl, Below.refl _ _⟩
  go_enter Try.func16, Try.ntmps16
  go_wp2_with fail
  refine (drawTA_any _ _ _ _ _ hb (by omega) hc hcm).mono ?_
  rintro e w1 ⟨A1, n1, c1, xs, A2, n2, c2, nd, A3, n3, c3, rs, ps, rfl, q1, hq1, q2, q3, hq2, hq3, hb1⟩
  have b2 := Blk.new w1 47 #[.slice A2 n2 c2, .int .i64 nd, .slice A3 n3 c3]
  have x2 := q1.ints.box (.cells #[.slice A2 n2 c2, .int .i64 nd, .slice A3 n3 c3] 47)
  have r2 := q2.ints.box (.cells #[.slice A2 n2 c2, .int .i64 nd, .slice A3 n3 c3] 47)
  have p2 := q3.puts.box (.cells #[.slice A2 n2 c2, .int .i64 nd, .slice A3 n3 c3] 47)
  have B2 := hb1.alloc hb1.size (.cells #[.slice A2 n2 c2, .int .i64 nd, .slice A3 n3 c3] 47)
  have gl := hb1.size
  have HX := Lib.hid q1.len
  have HR := Lib.hid q2.len
  have HP := Lib.hid q3.len
  clear q1 q2 q3 hb1
  go_wp2_with fail
  generalize hW2 : w1.alloc (.cells #[.slice A2 n2 c2, .int .i64 nd, .slice A3 n3 c3] 47) = w2 at b2 x2 r2 p2 B2 ⊢
  clear hW2
  have f2 := b2.three
  go_wp2_with fail
  refine (implTA_any _ _ _ _ _ _ nd _ _ _ xs rs ps _ x2 r2 p2 (by omega) (by omega) (by omega)).mono ?_
  rintro e w3 ⟨Ao, no, co, rfl, oo, hb3⟩
  have b3 := b2.below hb3 b2.lt
  have x3 := x2.up hb3 hb3.size
  have r3 := r2.up hb3 hb3.size
  have p3 := p2.up hb3 hb3.size
  have B3 := B2.trans (hb3.mono B2.size)
  have o3 := oo.ints
  have lo : no ≤ 15 := by have := oo.len; have := taL_len xs ⟨rs, nd, ps⟩; omega
  have HO := Lib.hid oo.len
  clear f2 b2 x2 r2 p2 B2 hb3 oo
  have f3 := b3.three
  go_wp2_with fail
  refine (specTA_any _ _ _ _ _ _ nd _ _ _ xs rs ps _ x3 r3 p3 (by omega) (by omega) (by omega)).mono ?_
  rintro e w4 ⟨Aw, nw, cw, rfl, ov, hb4⟩
  have S : Sc w w1.heap.size A1 n1 xs A2 n2 c2 nd A3 n3 c3 rs ps Ao no Aw nw w4 :=
    ⟨b3.below hb4 b3.lt, x3.up hb4 hb4.size, r3.up hb4 hb4.size, p3.up hb4 hb4.size, o3.up hb4 hb4.size, ov.ints, B3.trans (hb4.mono B3.size), gl, hq1, hq2, hq3, lo, by have := ov.len; have := taL_len xs ⟨rs, nd, ps⟩; omega⟩
  have HW := Lib.hid ov.len
  have lw : nw ≤ 15 := S.hw
  clear f3 b3 x3 r3 p3 B3 o3 hb4 ov gl
  have f4 := S.b.three
  have hne : (taB xs ⟨rs, nd, ps⟩ != taB xs ⟨rs, nd, ps⟩) = false := by simp
  go_wp2_with fail
  refine (sameInts_same _ _ _ _ _ _ (taL xs ⟨rs, nd, ps⟩) _ S.o S.v (by omega) (by omega)).mono ?_
  rintro e w5 ⟨rfl, hb5⟩
  replace S := S.step hb5
  clear hb5 f4
  have f5 := S.b.three
  by_cases hz : nw = 0
  · have hz' : ((nw : Int) == 0) = true := by rw [hz]; rfl
    subst hz
    go_wp2_with fail
    refine (sameInts_same _ _ _ _ _ _ (taL xs ⟨rs, nd, ps⟩) _ S.o S.v (by omega) (by omega)).mono ?_
    rintro e w6 ⟨rfl, hb6⟩
    go_wp2
    go_ret
    exact ⟨rfl, S.fin hb6⟩
  · have hz' : ((nw : Int) == 0) = false := by rw [beq_eq_false_iff_ne]; omega
    have HPos := Lib.hid (show (taL xs ⟨rs, nd, ps⟩).length ≠ 0 by rw [HW.out]; exact hz)
    clear hz
    go_wp2_with fail
    refine (drawTA_any _ _ _ _ _ (hb'.step S.bl) (by omega) hc' hcm').mono ?_
    rintro e w6 ⟨A4, n4, c4, xs4, A5, n5, c5, nd5, A6, n6, c6, rs5, ps5, rfl, q4, hq4, q5, q6, hq5, hq6, hb6⟩
    replace S := S.step hb6
    have U := Tb.new (c1 := c5) (c2 := c6) (nd := nd5) q5.ints q6.puts
    have S7 := S.alloc (.cells #[.slice A5 n5 c5, .int .i64 nd5, .slice A6 n6 c6] 47)
    clear q4 q5 q6 hb6 f5 S
    go_wp2_with fail
    generalize hW7 : w6.alloc (.cells #[.slice A5 n5 c5, .int .i64 nd5, .slice A6 n6 c6] 47) = w7 at U S7 ⊢
    have S := S7
    clear hW7 S7
    have f7 := S.b.three
    have u7 := U.b.three
    cases hv : tvB ⟨rs5, nd5, ps5⟩
    · have HL0 : Hid (tgL ⟨rs5, nd5, ps5⟩ = []) := Lib.hid (tgL_no hv)
      clear hv
      go_wp2_with fail
      go_region_with (first
          | (go_at_call_of 48 (Value.agg #[.slice A5 n5 c5, .int .i64 nd5, .slice A6 n6 c6]); (with_reducible refine Calls.mono (implTG_any A5 n5 c5 nd5 A6 n6 c6 rs5 ps5 _ ?_ ?_ (by omega) (by omega)) ?_)
             · exact Tb.r (show Tb _ w6.heap.size A5 n5 c5 nd5 A6 n6 c6 rs5 ps5 by repeat' (first | with_reducible exact U | with_reducible refine Tb.drew ?_ | with_reducible refine Tb.alloc ?_ _))
             · exact Tb.p (show Tb _ w6.heap.size A5 n5 c5 nd5 A6 n6 c6 rs5 ps5 by repeat' (first | with_reducible exact U | with_reducible refine Tb.drew ?_ | with_reducible refine Tb.alloc ?_ _))
             rintro e w8 ⟨A8, n8, c8, rfl, o8, hb8⟩
             have S := Sc.step (show Sc w w1.heap.size A1 n1 xs A2 n2 c2 nd A3 n3 c3 rs ps Ao no Aw nw _ by repeat' (first | with_reducible exact S | with_reducible refine Sc.drew ?_ | with_reducible refine Sc.alloc ?_ _)) hb8
             have U := Tb.step (show Tb _ w6.heap.size A5 n5 c5 nd5 A6 n6 c6 rs5 ps5 by repeat' (first | with_reducible exact U | with_reducible refine Tb.drew ?_ | with_reducible refine Tb.alloc ?_ _)) hb8
             have hz8 : ((n8 : Int) == 0) = true := (by have h1 := o8.len; rw [HL0.out] at h1; rw [← h1]; rfl)))
      all_goals
        go_wp2
        go_ret
        exact ⟨rfl, S.bl⟩
    · have HV5 := Lib.hid hv
      have HP5 := Lib.hid (tg_pos hv)
      clear hv
      go_wp2_with fail
      go_region_with (first
          | (go_at_call_of 48 (Value.agg #[.slice A5 n5 c5, .int .i64 nd5, .slice A6 n6 c6]); (with_reducible refine Calls.mono (implTG_any A5 n5 c5 nd5 A6 n6 c6 rs5 ps5 _ ?_ ?_ (by omega) (by omega)) ?_)
             · exact Tb.r (show Tb _ w6.heap.size A5 n5 c5 nd5 A6 n6 c6 rs5 ps5 by repeat' (first | with_reducible exact U | with_reducible refine Tb.drew ?_ | with_reducible refine Tb.alloc ?_ _))
             · exact Tb.p (show Tb _ w6.heap.size A5 n5 c5 nd5 A6 n6 c6 rs5 ps5 by repeat' (first | with_reducible exact U | with_reducible refine Tb.drew ?_ | with_reducible refine Tb.alloc ?_ _))
             rintro e w8 ⟨A8, n8, c8, rfl, o8, hb8⟩
             have S := Sc.step (show Sc w w1.heap.size A1 n1 xs A2 n2 c2 nd A3 n3 c3 rs ps Ao no Aw nw _ by repeat' (first | with_reducible exact S | with_reducible refine Sc.drew ?_ | with_reducible refine Sc.alloc ?_ _)) hb8
             have U := Tb.step (show Tb _ w6.heap.size A5 n5 c5 nd5 A6 n6 c6 rs5 ps5 by repeat' (first | with_reducible exact U | with_reducible refine Tb.drew ?_ | with_reducible refine Tb.alloc ?_ _)) hb8
             have fS := S.b.three
             have fU := U.b.three
             have l8 : n8 ≤ 5 := (by have h1 := o8.len; have := tgL_len ⟨rs5, nd5, ps5⟩; omega)
             have hz8 : ((n8 : Int) == 0) = false := (by have h1 := o8.len; have := HP5.out; rw [beq_eq_false_iff_ne]; omega)
             have i8 := o8.ints
             first
               | (have i9' := i9.up hb8 hb8.size)
               | skip)
          | (go_at_call_of 48 (Value.agg #[.slice A2 n2 c2, .int .i64 nd, .slice A3 n3 c3]); (with_reducible refine Calls.mono (implTG_any A2 n2 c2 nd A3 n3 c3 rs ps _ ?_ ?_ (by omega) (by omega)) ?_)
             · exact Sc.r (show Sc w w1.heap.size A1 n1 xs A2 n2 c2 nd A3 n3 c3 rs ps Ao no Aw nw _ by repeat' (first | with_reducible exact S | with_reducible refine Sc.drew ?_ | with_reducible refine Sc.alloc ?_ _))
             · exact Sc.p (show Sc w w1.heap.size A1 n1 xs A2 n2 c2 nd A3 n3 c3 rs ps Ao no Aw nw _ by repeat' (first | with_reducible exact S | with_reducible refine Sc.drew ?_ | with_reducible refine Sc.alloc ?_ _))
             rintro e w9 ⟨A9, n9, c9, rfl, o9, hb9⟩
             have S := Sc.step (show Sc w w1.heap.size A1 n1 xs A2 n2 c2 nd A3 n3 c3 rs ps Ao no Aw nw _ by repeat' (first | with_reducible exact S | with_reducible refine Sc.drew ?_ | with_reducible refine Sc.alloc ?_ _)) hb9
             have U := Tb.step (show Tb _ w6.heap.size A5 n5 c5 nd5 A6 n6 c6 rs5 ps5 by repeat' (first | with_reducible exact U | with_reducible refine Tb.drew ?_ | with_reducible refine Tb.alloc ?_ _)) hb9
             have fS := S.b.three
             have fU := U.b.three
             have l9 : n9 ≤ 5 := (by have h1 := o9.len; have := tgL_len ⟨rs, nd, ps⟩; omega)
             have i9 := o9.ints)
          | (go_at_call 55; (with_reducible refine Calls.mono (implGC_any A9 A8 n9 c9 n8 c8 (tgL ⟨rs, nd, ps⟩) (tgL ⟨rs5, nd5, ps5⟩) _ i9' i8 (by omega) (by omega)) ?_)
             rintro e w10 ⟨A10, n10, c10, rfl, o10, hb10⟩
             have S := Sc.step (show Sc w w1.heap.size A1 n1 xs A2 n2 c2 nd A3 n3 c3 rs ps Ao no Aw nw _ by repeat' (first | with_reducible exact S | with_reducible refine Sc.drew ?_ | with_reducible refine Sc.alloc ?_ _)) hb10
             have U := Tb.step (show Tb _ w6.heap.size A5 n5 c5 nd5 A6 n6 c6 rs5 ps5 by repeat' (first | with_reducible exact U | with_reducible refine Tb.drew ?_ | with_reducible refine Tb.alloc ?_ _)) hb10
             have HG := Lib.hid o10.len
             have fS := S.b.three
             have fU := U.b.three))
      all_goals
        by_cases hz10 : n10 = 0
        · have HG0 : Hid ((gcL (tgL ⟨rs, nd, ps⟩) (tgL ⟨rs5, nd5, ps5⟩)).length = 0) := Lib.hid (by rw [HG.out]; exact hz10)
          have hz10' : ¬ ((0 : Int) < (n10 : Int)) := by omega
          have hz10'' : ¬ (0 < n10) := by omega
          clear hz10
          obtain ⟨e1, e2, e3⟩ := com_all (ta_pos HPos.out).1 (ta_pos HPos.out).2 HV5.out HG0.out
          have HE1 := Lib.hid e1
          have HE2 := Lib.hid e2
          have HE3 := Lib.hid e3
          clear e1 e2 e3 f7 u7
          have f := S.b.three
          have u := U.b.three
          go_wp2_with fail
          refine (implTA_any _ _ _ _ _ _ nd5 _ _ _ (taL xs ⟨rs, nd, ps⟩) rs5 ps5 _ S.o U.r U.p (by omega) (by omega) (by omega)).mono ?_
          rintro e w11 ⟨A11, n11, c11, rfl, o11, hb11⟩
          replace S := S.step hb11
          replace U := U.step hb11
          have i11 := o11.ints
          have l11 : n11 ≤ 15 := by have h1 := o11.len; have := taL_len (taL xs ⟨rs, nd, ps⟩) ⟨rs5, nd5, ps5⟩; omega
          clear f u o11 hb11
          have f := S.b.three
          have u := U.b.three
          go_wp2_with fail
          refine (implTA_any _ _ _ _ _ _ nd5 _ _ _ xs rs5 ps5 _ S.x U.r U.p (by omega) (by omega) (by omega)).mono ?_
          rintro e w12 ⟨A12, n12, c12, rfl, o12, hb12⟩
          replace S := S.step hb12
          replace U := U.step hb12
          replace i11 := i11.up hb12 hb12.size
          have i12 := o12.ints
          have l12 : n12 ≤ 15 := by have h1 := o12.len; have := taL_len xs ⟨rs5, nd5, ps5⟩; omega
          clear f u o12 hb12
          have f := S.b.three
          have u := U.b.three
          go_wp2_with fail
          refine (implTA_any _ _ _ _ _ _ nd _ _ _ (taL xs ⟨rs5, nd5, ps5⟩) rs ps _ i12 S.r S.p (by omega) (by omega) (by omega)).mono ?_
          rintro e w13 ⟨A13, n13, c13, rfl, o13, hb13⟩
          replace S := S.step hb13
          replace i11 := i11.up hb13 hb13.size
          have i13 := o13.ints
          have l13 : n13 ≤ 15 := by have h1 := o13.len; have := taL_len (taL xs ⟨rs5, nd5, ps5⟩) ⟨rs, nd, ps⟩; omega
          rw [← HE3.out] at i13
          rw [HE1.out, HE2.out]
          have hq1 : (taB xs ⟨rs5, nd5, ps5⟩ == taB xs ⟨rs5, nd5, ps5⟩) = true := by simp
          have hq2 : (taB xs ⟨rs, nd, ps⟩ == taB xs ⟨rs, nd, ps⟩) = true := by simp
          clear f u o13 hb13
          have f := S.b.three
          go_wp2_with fail
          refine (sameInts_same _ _ _ _ _ _ _ _ i11 i13 (by omega) (by omega)).mono ?_
          rintro e w14 ⟨rfl, hb14⟩
          go_wp2
          go_ret
          exact ⟨rfl, S.fin hb14⟩
        · have hz10' : (0 : Int) < (n10 : Int) := by omega
          have hz10'' : 0 < n10 := by omega
          clear hz10
          go_wp2
          go_ret
          exact ⟨rfl, S.bl⟩
end Go.Proofs.Ytaelaldgohppeaa
