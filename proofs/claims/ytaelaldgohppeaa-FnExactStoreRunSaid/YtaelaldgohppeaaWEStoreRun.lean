/-
  The walk of FnExactStoreRun: the law returns true and writes nothing that was there.
-/
import Derived.Test.YtaelaldgohppeaaXV
namespace Go.Proofs.Ytaelaldgohppeaa
open Go.RowKit
set_option linter.unusedVariables false

set_option maxRecDepth 100000 in
set_option maxHeartbeats 8000000 in
theorem exStoreRun_walk (As : Option Addr) (ns cs : Nat) (ss : List Int) (A : Option Addr) (n c : Nat) (R : List TR) (ts : List TX) (w : World) (hsn : ns ≤ 9223372036854775807) (hs : Ints w w.heap.size As ns ss) (hn : n ≤ 9223372036854775807) (hx : TxnS w w.heap.size A n R ts) (hl : ∀ r ∈ R, r.n1 ≤ 9223372036854775807 ∧ r.n2 ≤ 9223372036854775807) :
    Calls Try.prog 24 #[.slice As ns cs, .slice A n c] w fun e w' => e = .returned (.bool true) ∧ Below w.heap.size w w' := by
  by_cases hbig : 1048576 < ns
  · go_enter Try.func24, Try.ntmps24
    go_wp2
    go_ret
    exact ⟨rfl, Below.refl _ _⟩
  have hns : ns ≤ 1048576 := by omega
  clear hbig
  rcases Int.lt_or_le 1048576 ((n : Int) + totT R) with hsz | hsz
  · go_enter Try.func24, Try.ntmps24
    go_wp2_with fail
    refine (szTxnS_no A n c R ts _ _ hx (by omega) (by omega) hn hl hsz).mono ?_
    rintro e w1 ⟨rfl, hb1⟩
    go_wp2
    go_ret
    exact ⟨rfl, hb1⟩
  have tt0 := totT_nonneg R
  have HL := Lib.hid (small_of_tot (R := R) (by omega))
  have HLt := Lib.hid (hx.lens HL.out)
  have ln : n ≤ 1048576 := by omega
  clear hl
  go_enter Try.func24, Try.ntmps24
  go_wp2_with fail
  refine (szTxnS_yes A n c R ts _ _ hx (by omega) (by omega)).mono ?_
  rintro e w0 ⟨rfl, hb0⟩
  have HB0 : Below w.heap.size w w0 := hb0
  have z0 := hb0.size
  clear hb0
  have US0 := hs.up HB0 HB0.size
  have UT0 := hx.up HB0 HB0.size
  go_wp2_with fail
  refine (toIntS_r As ns cs ss _ US0 (by omega)).mono ?_
  rintro e w1 ⟨Aa, na, ca, rfl, oa, hb1⟩
  have z1 : w0.heap.size ≤ w1.heap.size := hb1.size
  have HB1 : Below w.heap.size w w1 := HB0.trans (hb1.mono HB0.size)
  have US1 := hs.up HB1 HB1.size
  have UT1 := hx.up HB1 HB1.size
  clear HB0 US0 UT0
  clear hb1
  replace oa := (rowI oa).mono (b' := w0.heap.size) (by omega) (Nat.le_refl _)
  have lna : na ≤ 1048576 := by have := oa.len; have := hs.len; omega
  go_wp2_with fail
  refine (toTxnS_r A n c R ts _ UT1 (by omega) HL.out).mono ?_
  rintro e w2 ⟨Ap, np, cp, Rp, rfl, tp, hb2⟩
  have z2 : w1.heap.size ≤ w2.heap.size := hb2.size
  have HB2 : Below w.heap.size w w2 := HB1.trans (hb2.mono HB1.size)
  replace oa := oa.keep (same_of_below hb2 (by omega))
  have US2 := hs.up HB2 HB2.size
  have UT2 := hx.up HB2 HB2.size
  clear HB1 US1 UT1
  clear hb2
  have HLp := Lib.hid (tp.small HLt.out)
  have lnp : np ≤ 1048576 := by have := tp.len; have := hx.l; omega
  go_wp2_with fail
  refine (specSR_any _ _ _ _ _ _ ss Rp ts _ (oa.ints (B := w2.heap.size) (by omega)) (tp.reads (B := w2.heap.size) (by omega)) lna HLp.out).mono ?_
  rintro e w3 ⟨Av, nv, cv, Bv, mv, dv, rfl, ov, bv, hb3⟩
  have z3 : w2.heap.size ≤ w3.heap.size := hb3.size
  have HB3 : Below w.heap.size w w3 := HB2.trans (hb3.mono HB2.size)
  replace oa := oa.keep (same_of_below hb3 (by omega))
  replace tp := tp.keep (same_of_below hb3 (by omega))
  have US3 := hs.up HB3 HB3.size
  have UT3 := hx.up HB3 HB3.size
  clear HB2 US2 UT2
  clear hb3
  replace ov := (rowI ov).mono (b' := w2.heap.size) (by omega) (Nat.le_refl _)
  have lnv : nv ≤ 1048576 := by have := ov.len; have := srL_len ss ts; omega
  replace bv := (rowB bv).mono (b' := w2.heap.size) (by omega) (Nat.le_refl _)
  have lmv : mv ≤ 1048576 := by have := bv.len; have := srB_len ss ts; omega
  clear oa
  clear tp
  go_wp2_with fail
  refine (toIntS_r As ns cs ss _ US3 (by omega)).mono ?_
  rintro e w4 ⟨Az, nz, cz, rfl, oz, hb4⟩
  have z4 : w3.heap.size ≤ w4.heap.size := hb4.size
  have HB4 : Below w.heap.size w w4 := HB3.trans (hb4.mono HB3.size)
  replace ov := ov.keep (same_of_below hb4 (by omega))
  replace bv := bv.keep (same_of_below hb4 (by omega))
  have US4 := hs.up HB4 HB4.size
  have UT4 := hx.up HB4 HB4.size
  clear HB3 US3 UT3
  clear hb4
  replace oz := (rowI oz).mono (b' := w3.heap.size) (by omega) (Nat.le_refl _)
  have lnz : nz ≤ 1048576 := by have := oz.len; have := hs.len; omega
  go_wp2_with fail
  refine (toTxnS_r A n c R ts _ UT4 (by omega) HL.out).mono ?_
  rintro e w5 ⟨Ax, nx, cx, Rx, rfl, tx, hb5⟩
  have z5 : w4.heap.size ≤ w5.heap.size := hb5.size
  have HB5 : Below w.heap.size w w5 := HB4.trans (hb5.mono HB4.size)
  replace ov := ov.keep (same_of_below hb5 (by omega))
  replace bv := bv.keep (same_of_below hb5 (by omega))
  replace oz := oz.keep (same_of_below hb5 (by omega))
  have US5 := hs.up HB5 HB5.size
  have UT5 := hx.up HB5 HB5.size
  clear HB4 US4 UT4
  clear hb5
  have HLx := Lib.hid (tx.small HLt.out)
  have lnx : nx ≤ 1048576 := by have := tx.len; have := hx.l; omega
  go_wp2_with fail
  refine (implSR_any _ _ _ _ _ _ ss Rx ts _ (oz.ints (B := w5.heap.size) (by omega)) (tx.reads (B := w5.heap.size) (by omega)) lnz HLx.out).mono ?_
  rintro e w6 ⟨Ag, ng, cg, Bg, mg, dg, rfl, og, bg, hb6⟩
  have z6 : w5.heap.size ≤ w6.heap.size := hb6.size
  have HB6 : Below w.heap.size w w6 := HB5.trans (hb6.mono HB5.size)
  replace ov := ov.keep (same_of_below hb6 (by omega))
  replace bv := bv.keep (same_of_below hb6 (by omega))
  replace oz := oz.keep (same_of_below hb6 (by omega))
  replace tx := tx.keep (same_of_below hb6 (by omega))
  have US6 := hs.up HB6 HB6.size
  have UT6 := hx.up HB6 HB6.size
  clear HB5 US5 UT5
  clear hb6
  replace og := (rowI og).mono (b' := w5.heap.size) (by omega) (Nat.le_refl _)
  have lng : ng ≤ 1048576 := by have := og.len; have := srL_len ss ts; omega
  replace bg := (rowB bg).mono (b' := w5.heap.size) (by omega) (Nat.le_refl _)
  have lmg : mg ≤ 1048576 := by have := bg.len; have := srB_len ss ts; omega
  go_wp2_with fail
  refine (eqIntS_same _ _ _ _ _ _ (srL ss ts) _ (og.ints (B := w6.heap.size) (by omega)) (ov.ints (B := w6.heap.size) (by omega)) lng lnv).mono ?_
  rintro e w7 ⟨rfl, hb7⟩
  have z7 : w6.heap.size ≤ w7.heap.size := hb7.size
  have HB7 : Below w.heap.size w w7 := HB6.trans (hb7.mono HB6.size)
  replace ov := ov.keep (same_of_below hb7 (by omega))
  replace bv := bv.keep (same_of_below hb7 (by omega))
  replace oz := oz.keep (same_of_below hb7 (by omega))
  replace tx := tx.keep (same_of_below hb7 (by omega))
  replace og := og.keep (same_of_below hb7 (by omega))
  replace bg := bg.keep (same_of_below hb7 (by omega))
  have US7 := hs.up HB7 HB7.size
  have UT7 := hx.up HB7 HB7.size
  clear HB6 US6 UT6
  clear hb7
  go_wp2_with fail
  refine (eqBoolS_same _ _ _ _ _ _ (srB ss ts) _ (bg.bools (B := w7.heap.size) (by omega)) (bv.bools (B := w7.heap.size) (by omega)) lmg).mono ?_
  rintro e w8 ⟨rfl, hb8⟩
  have z8 : w7.heap.size ≤ w8.heap.size := hb8.size
  have HB8 : Below w.heap.size w w8 := HB7.trans (hb8.mono HB7.size)
  replace ov := ov.keep (same_of_below hb8 (by omega))
  replace bv := bv.keep (same_of_below hb8 (by omega))
  replace oz := oz.keep (same_of_below hb8 (by omega))
  replace tx := tx.keep (same_of_below hb8 (by omega))
  replace og := og.keep (same_of_below hb8 (by omega))
  replace bg := bg.keep (same_of_below hb8 (by omega))
  have US8 := hs.up HB8 HB8.size
  have UT8 := hx.up HB8 HB8.size
  clear HB7 US7 UT7
  clear hb8
  go_wp2_with fail
  refine (toIntS_r As ns cs ss _ US8 (by omega)).mono ?_
  rintro e w9 ⟨Ay, ny, cy, rfl, oy, hb9⟩
  have z9 : w8.heap.size ≤ w9.heap.size := hb9.size
  have HB9 : Below w.heap.size w w9 := HB8.trans (hb9.mono HB8.size)
  replace ov := ov.keep (same_of_below hb9 (by omega))
  replace bv := bv.keep (same_of_below hb9 (by omega))
  replace oz := oz.keep (same_of_below hb9 (by omega))
  replace tx := tx.keep (same_of_below hb9 (by omega))
  replace og := og.keep (same_of_below hb9 (by omega))
  replace bg := bg.keep (same_of_below hb9 (by omega))
  have US9 := hs.up HB9 HB9.size
  have UT9 := hx.up HB9 HB9.size
  clear HB8 US8 UT8
  clear hb9
  replace oy := (rowI oy).mono (b' := w8.heap.size) (by omega) (Nat.le_refl _)
  have lny : ny ≤ 1048576 := by have := oy.len; have := hs.len; omega
  go_wp2_with fail
  refine (eqIntS_same _ _ _ _ _ _ ss _ (oz.ints (B := w9.heap.size) (by omega)) (oy.ints (B := w9.heap.size) (by omega)) lnz lny).mono ?_
  rintro e w10 ⟨rfl, hb10⟩
  have z10 : w9.heap.size ≤ w10.heap.size := hb10.size
  have HB10 : Below w.heap.size w w10 := HB9.trans (hb10.mono HB9.size)
  replace ov := ov.keep (same_of_below hb10 (by omega))
  replace bv := bv.keep (same_of_below hb10 (by omega))
  replace oz := oz.keep (same_of_below hb10 (by omega))
  replace tx := tx.keep (same_of_below hb10 (by omega))
  replace og := og.keep (same_of_below hb10 (by omega))
  replace bg := bg.keep (same_of_below hb10 (by omega))
  replace oy := oy.keep (same_of_below hb10 (by omega))
  have US10 := hs.up HB10 HB10.size
  have UT10 := hx.up HB10 HB10.size
  clear HB9 US9 UT9
  clear hb10
  clear oy
  go_wp2_with fail
  refine (toTxnS_r A n c R ts _ UT10 (by omega) HL.out).mono ?_
  rintro e w11 ⟨Au, nu, cu, Ru, rfl, tu, hb11⟩
  have z11 : w10.heap.size ≤ w11.heap.size := hb11.size
  have HB11 : Below w.heap.size w w11 := HB10.trans (hb11.mono HB10.size)
  replace ov := ov.keep (same_of_below hb11 (by omega))
  replace bv := bv.keep (same_of_below hb11 (by omega))
  replace oz := oz.keep (same_of_below hb11 (by omega))
  replace tx := tx.keep (same_of_below hb11 (by omega))
  replace og := og.keep (same_of_below hb11 (by omega))
  replace bg := bg.keep (same_of_below hb11 (by omega))
  have US11 := hs.up HB11 HB11.size
  have UT11 := hx.up HB11 HB11.size
  clear HB10 US10 UT10
  clear hb11
  have HLu := Lib.hid (tu.small HLt.out)
  have lnu : nu ≤ 1048576 := by have := tu.len; have := hx.l; omega
  go_wp2_with fail
  refine (eqTxnS_same _ _ _ _ _ _ Rx Ru ts _ (tx.reads (B := w11.heap.size) (by omega)) (tu.reads (B := w11.heap.size) (by omega)) HLx.out lnx).mono ?_
  rintro e w12 ⟨rfl, hb12⟩
  have z12 : w11.heap.size ≤ w12.heap.size := hb12.size
  have HB12 : Below w.heap.size w w12 := HB11.trans (hb12.mono HB11.size)
  replace ov := ov.keep (same_of_below hb12 (by omega))
  replace bv := bv.keep (same_of_below hb12 (by omega))
  replace oz := oz.keep (same_of_below hb12 (by omega))
  replace tx := tx.keep (same_of_below hb12 (by omega))
  replace og := og.keep (same_of_below hb12 (by omega))
  replace bg := bg.keep (same_of_below hb12 (by omega))
  replace tu := tu.keep (same_of_below hb12 (by omega))
  have US12 := hs.up HB12 HB12.size
  have UT12 := hx.up HB12 HB12.size
  clear HB11 US11 UT11
  clear hb12
  clear tu
  go_wp2_with fail
  refine (markIntS_t _ _ _ _ _ ss 1 _ oz (by omega) (by omega) lnz).mono ?_
  clear oz
  rintro e w13 ⟨rfl, -, hb13⟩
  have z13 : w12.heap.size ≤ w13.heap.size := hb13.size
  have HB13 : Below w.heap.size w w13 := HB12.trans (hb13.below (by omega) (by omega))
  replace ov := ov.keep (hb13.same (by omega) (by omega))
  replace bv := bv.keep (hb13.same (by omega) (by omega))
  replace tx := tx.keep (hb13.same (by omega) (by omega))
  replace og := og.keep (hb13.same (by omega) (by omega))
  replace bg := bg.keep (hb13.same (by omega) (by omega))
  have US13 := hs.up HB13 HB13.size
  have UT13 := hx.up HB13 HB13.size
  clear HB12 US12 UT12
  clear hb13
  have mk0 := mkT_nonneg Rx
  have mk1 : mkT Rx ≤ 2097152 := mkT_small hx (tx.reads (B := w13.heap.size) (by omega)) hsz
  go_wp2_with fail
  refine (markTxnS_t _ _ _ _ _ Rx ts _ _ tx (by omega) (by omega) (by omega) mk1 HLx.out lnx).mono ?_
  clear tx
  rintro e w14 ⟨rfl, hb14⟩
  have z14 : w13.heap.size ≤ w14.heap.size := hb14.size
  have HB14 : Below w.heap.size w w14 := HB13.trans (hb14.below (by omega) (by omega))
  replace ov := ov.keep (hb14.same (by omega) (by omega))
  replace bv := bv.keep (hb14.same (by omega) (by omega))
  replace og := og.keep (hb14.same (by omega) (by omega))
  replace bg := bg.keep (hb14.same (by omega) (by omega))
  have US14 := hs.up HB14 HB14.size
  have UT14 := hx.up HB14 HB14.size
  clear HB13 US13 UT13
  clear hb14
  go_wp2_with fail
  refine (eqIntS_same _ _ _ _ _ _ (srL ss ts) _ (og.ints (B := w14.heap.size) (by omega)) (ov.ints (B := w14.heap.size) (by omega)) lng lnv).mono ?_
  rintro e w15 ⟨rfl, hb15⟩
  have z15 : w14.heap.size ≤ w15.heap.size := hb15.size
  have HB15 : Below w.heap.size w w15 := HB14.trans (hb15.mono HB14.size)
  replace ov := ov.keep (same_of_below hb15 (by omega))
  replace bv := bv.keep (same_of_below hb15 (by omega))
  replace og := og.keep (same_of_below hb15 (by omega))
  replace bg := bg.keep (same_of_below hb15 (by omega))
  have US15 := hs.up HB15 HB15.size
  have UT15 := hx.up HB15 HB15.size
  clear HB14 US14 UT14
  clear hb15
  go_wp2_with fail
  refine (eqBoolS_same _ _ _ _ _ _ (srB ss ts) _ (bg.bools (B := w15.heap.size) (by omega)) (bv.bools (B := w15.heap.size) (by omega)) lmg).mono ?_
  rintro e w16 ⟨rfl, hb16⟩
  have z16 : w15.heap.size ≤ w16.heap.size := hb16.size
  have HB16 : Below w.heap.size w w16 := HB15.trans (hb16.mono HB15.size)
  replace ov := ov.keep (same_of_below hb16 (by omega))
  replace bv := bv.keep (same_of_below hb16 (by omega))
  replace og := og.keep (same_of_below hb16 (by omega))
  replace bg := bg.keep (same_of_below hb16 (by omega))
  have US16 := hs.up HB16 HB16.size
  have UT16 := hx.up HB16 HB16.size
  clear HB15 US15 UT15
  clear hb16
  go_wp2_with fail
  refine (markIntS_any _ _ _ _ (srL ss ts) 1 _ og.own (by omega) (by omega) lng).mono ?_
  rintro e w17 ⟨rfl, og', gg⟩
  have hb17 : Touch (w5.heap.size) (w6.heap.size) w16 w17 := Touch.of_grown gg (fun j hj => ⟨(og.own.lt hj).1, og.2 j hj⟩)
  have bg' : OwnB w17 (w5.heap.size) Bg mg dg (srB ss ts) := OwnB.kept (show OwnB w16 (w5.heap.size) Bg mg dg (srB ss ts) from bg.1) gg (fun j hj e' => by have h1 := OwnB.ne (show OwnB w16 (w5.heap.size) Bg mg dg (srB ss ts) from bg.1) og.own (by decide) hj; rw [blk_own] at h1; exact h1 e')
  replace og : RowI w17 (w5.heap.size) (w6.heap.size) Ag ng cg (marks 1 ng) := ⟨og', og.2⟩
  replace bg : RowB w17 (w5.heap.size) (w6.heap.size) Bg mg dg (srB ss ts) := ⟨bg', bg.2⟩
  clear og' bg' gg
  have z17 : w16.heap.size ≤ w17.heap.size := hb17.size
  have HB17 : Below w.heap.size w w17 := HB16.trans (hb17.below (by omega) (by omega))
  replace ov := ov.keep (hb17.same (by omega) (by omega))
  replace bv := bv.keep (hb17.same (by omega) (by omega))
  have US17 := hs.up HB17 HB17.size
  have UT17 := hx.up HB17 HB17.size
  clear HB16 US16 UT16
  clear hb17
  go_wp2_with fail
  refine (markBoolS_any _ _ _ _ (srB ss ts) (1 + (ng : Int)) _ (show OwnB w17 (w5.heap.size) Bg mg dg (srB ss ts) from bg.1) (by omega) (by omega) lmg).mono ?_
  rintro e w18 ⟨rfl, bg', gg⟩
  have hb18 : Touch (w5.heap.size) (w6.heap.size) w17 w18 := Touch.of_grown gg (fun j hj => ⟨((show OwnB w17 (w5.heap.size) Bg mg dg (srB ss ts) from bg.1).lt hj).1, bg.2 j hj⟩)
  have og' : Own w18 (w5.heap.size) Ag ng cg (marks 1 ng) := Own.kept og.own gg (fun j hj e' => by have h1 := rows_ne og.own bg.1 (by decide) (k := j) (by rw [blk_own]; exact hj); rw [blk_own] at h1; exact h1 e')
  replace og : RowI w18 (w5.heap.size) (w6.heap.size) Ag ng cg (marks 1 ng) := ⟨og', og.2⟩
  replace bg : RowB w18 (w5.heap.size) (w6.heap.size) Bg mg dg (marksB (1 + (ng : Int)) mg) := ⟨bg', bg.2⟩
  clear og' bg' gg
  have z18 : w17.heap.size ≤ w18.heap.size := hb18.size
  have HB18 : Below w.heap.size w w18 := HB17.trans (hb18.below (by omega) (by omega))
  replace ov := ov.keep (hb18.same (by omega) (by omega))
  replace bv := bv.keep (hb18.same (by omega) (by omega))
  have US18 := hs.up HB18 HB18.size
  have UT18 := hx.up HB18 HB18.size
  clear HB17 US17 UT17
  clear hb18
  go_wp2_with fail
  refine (heldIntS_v _ _ _ 1 _ (og.ints (B := w18.heap.size) (by omega)) (by omega) (by omega) lng).mono ?_
  rintro e w19 ⟨rfl, hb19⟩
  have z19 : w18.heap.size ≤ w19.heap.size := hb19.size
  have HB19 : Below w.heap.size w w19 := HB18.trans (hb19.mono HB18.size)
  replace ov := ov.keep (same_of_below hb19 (by omega))
  replace bv := bv.keep (same_of_below hb19 (by omega))
  replace og := og.keep (same_of_below hb19 (by omega))
  replace bg := bg.keep (same_of_below hb19 (by omega))
  have US19 := hs.up HB19 HB19.size
  have UT19 := hx.up HB19 HB19.size
  clear HB18 US18 UT18
  clear hb19
  go_wp2_with fail
  refine (heldBoolS_v _ _ _ (1 + (ng : Int)) _ (bg.bools (B := w19.heap.size) (by omega)) (by omega) (by omega) lmg).mono ?_
  rintro e w20 ⟨rfl, hb20⟩
  have z20 : w19.heap.size ≤ w20.heap.size := hb20.size
  have HB20 : Below w.heap.size w w20 := HB19.trans (hb20.mono HB19.size)
  replace ov := ov.keep (same_of_below hb20 (by omega))
  replace bv := bv.keep (same_of_below hb20 (by omega))
  replace og := og.keep (same_of_below hb20 (by omega))
  replace bg := bg.keep (same_of_below hb20 (by omega))
  have US20 := hs.up HB20 HB20.size
  have UT20 := hx.up HB20 HB20.size
  clear HB19 US19 UT19
  clear hb20
  go_wp2_with fail
  refine (toIntS_r As ns cs ss _ US20 (by omega)).mono ?_
  rintro e w21 ⟨Ai, ni, ci, rfl, oi, hb21⟩
  have z21 : w20.heap.size ≤ w21.heap.size := hb21.size
  have HB21 : Below w.heap.size w w21 := HB20.trans (hb21.mono HB20.size)
  replace ov := ov.keep (same_of_below hb21 (by omega))
  replace bv := bv.keep (same_of_below hb21 (by omega))
  replace og := og.keep (same_of_below hb21 (by omega))
  replace bg := bg.keep (same_of_below hb21 (by omega))
  have US21 := hs.up HB21 HB21.size
  have UT21 := hx.up HB21 HB21.size
  clear HB20 US20 UT20
  clear hb21
  replace oi := (rowI oi).mono (b' := w20.heap.size) (by omega) (Nat.le_refl _)
  have lni : ni ≤ 1048576 := by have := oi.len; have := hs.len; omega
  go_wp2_with fail
  refine (toTxnS_r A n c R ts _ UT21 (by omega) HL.out).mono ?_
  rintro e w22 ⟨Aj, nj, cj, Rj, rfl, tj, hb22⟩
  have z22 : w21.heap.size ≤ w22.heap.size := hb22.size
  have HB22 : Below w.heap.size w w22 := HB21.trans (hb22.mono HB21.size)
  replace ov := ov.keep (same_of_below hb22 (by omega))
  replace bv := bv.keep (same_of_below hb22 (by omega))
  replace og := og.keep (same_of_below hb22 (by omega))
  replace bg := bg.keep (same_of_below hb22 (by omega))
  replace oi := oi.keep (same_of_below hb22 (by omega))
  have US22 := hs.up HB22 HB22.size
  have UT22 := hx.up HB22 HB22.size
  clear HB21 US21 UT21
  clear hb22
  have HLj := Lib.hid (tj.small HLt.out)
  have lnj : nj ≤ 1048576 := by have := tj.len; have := hx.l; omega
  go_wp2_with fail
  refine (implSR_any _ _ _ _ _ _ ss Rj ts _ (oi.ints (B := w22.heap.size) (by omega)) (tj.reads (B := w22.heap.size) (by omega)) lni HLj.out).mono ?_
  rintro e w23 ⟨Ah, nh, ch, Bh, mh, dh, rfl, oh, bh, hb23⟩
  have z23 : w22.heap.size ≤ w23.heap.size := hb23.size
  have HB23 : Below w.heap.size w w23 := HB22.trans (hb23.mono HB22.size)
  replace ov := ov.keep (same_of_below hb23 (by omega))
  replace bv := bv.keep (same_of_below hb23 (by omega))
  replace og := og.keep (same_of_below hb23 (by omega))
  replace bg := bg.keep (same_of_below hb23 (by omega))
  replace oi := oi.keep (same_of_below hb23 (by omega))
  replace tj := tj.keep (same_of_below hb23 (by omega))
  have US23 := hs.up HB23 HB23.size
  have UT23 := hx.up HB23 HB23.size
  clear HB22 US22 UT22
  clear hb23
  replace oh := (rowI oh).mono (b' := w22.heap.size) (by omega) (Nat.le_refl _)
  have lnh : nh ≤ 1048576 := by have := oh.len; have := srL_len ss ts; omega
  replace bh := (rowB bh).mono (b' := w22.heap.size) (by omega) (Nat.le_refl _)
  have lmh : mh ≤ 1048576 := by have := bh.len; have := srB_len ss ts; omega
  clear oi
  clear tj
  go_wp2_with fail
  refine (eqIntS_same _ _ _ _ _ _ (srL ss ts) _ (oh.ints (B := w23.heap.size) (by omega)) (ov.ints (B := w23.heap.size) (by omega)) lnh lnv).mono ?_
  rintro e w24 ⟨rfl, hb24⟩
  have z24 : w23.heap.size ≤ w24.heap.size := hb24.size
  have HB24 : Below w.heap.size w w24 := HB23.trans (hb24.mono HB23.size)
  replace ov := ov.keep (same_of_below hb24 (by omega))
  replace bv := bv.keep (same_of_below hb24 (by omega))
  replace og := og.keep (same_of_below hb24 (by omega))
  replace bg := bg.keep (same_of_below hb24 (by omega))
  replace oh := oh.keep (same_of_below hb24 (by omega))
  replace bh := bh.keep (same_of_below hb24 (by omega))
  have US24 := hs.up HB24 HB24.size
  have UT24 := hx.up HB24 HB24.size
  clear HB23 US23 UT23
  clear hb24
  go_wp2_with fail
  refine (eqBoolS_same _ _ _ _ _ _ (srB ss ts) _ (bh.bools (B := w24.heap.size) (by omega)) (bv.bools (B := w24.heap.size) (by omega)) lmh).mono ?_
  rintro e w25 ⟨rfl, hb25⟩
  have z25 : w24.heap.size ≤ w25.heap.size := hb25.size
  have HB25 : Below w.heap.size w w25 := HB24.trans (hb25.mono HB24.size)
  replace ov := ov.keep (same_of_below hb25 (by omega))
  replace bv := bv.keep (same_of_below hb25 (by omega))
  replace og := og.keep (same_of_below hb25 (by omega))
  replace bg := bg.keep (same_of_below hb25 (by omega))
  replace oh := oh.keep (same_of_below hb25 (by omega))
  replace bh := bh.keep (same_of_below hb25 (by omega))
  have US25 := hs.up HB25 HB25.size
  have UT25 := hx.up HB25 HB25.size
  clear HB24 US24 UT24
  clear hb25
  go_wp2_with fail
  refine (heldIntS_v _ _ _ 1 _ (og.ints (B := w25.heap.size) (by omega)) (by omega) (by omega) lng).mono ?_
  rintro e w26 ⟨rfl, hb26⟩
  have z26 : w25.heap.size ≤ w26.heap.size := hb26.size
  have HB26 : Below w.heap.size w w26 := HB25.trans (hb26.mono HB25.size)
  replace ov := ov.keep (same_of_below hb26 (by omega))
  replace bv := bv.keep (same_of_below hb26 (by omega))
  replace og := og.keep (same_of_below hb26 (by omega))
  replace bg := bg.keep (same_of_below hb26 (by omega))
  replace oh := oh.keep (same_of_below hb26 (by omega))
  replace bh := bh.keep (same_of_below hb26 (by omega))
  have US26 := hs.up HB26 HB26.size
  have UT26 := hx.up HB26 HB26.size
  clear HB25 US25 UT25
  clear hb26
  go_wp2_with fail
  refine (heldBoolS_v _ _ _ (1 + (ng : Int)) _ (bg.bools (B := w26.heap.size) (by omega)) (by omega) (by omega) lmg).mono ?_
  rintro e w27 ⟨rfl, hb27⟩
  have z27 : w26.heap.size ≤ w27.heap.size := hb27.size
  have HB27 : Below w.heap.size w w27 := HB26.trans (hb27.mono HB26.size)
  replace ov := ov.keep (same_of_below hb27 (by omega))
  replace bv := bv.keep (same_of_below hb27 (by omega))
  replace og := og.keep (same_of_below hb27 (by omega))
  replace bg := bg.keep (same_of_below hb27 (by omega))
  replace oh := oh.keep (same_of_below hb27 (by omega))
  replace bh := bh.keep (same_of_below hb27 (by omega))
  have US27 := hs.up HB27 HB27.size
  have UT27 := hx.up HB27 HB27.size
  clear HB26 US26 UT26
  clear hb27
  go_wp2
  go_ret
  exact ⟨rfl, HB27⟩
end Go.Proofs.Ytaelaldgohppeaa
