/-
  The walk of FnTxnLocal: the law returns true and writes nothing that was there.
-/
import Derived.Test.YtaelaldgohppeaaSc
import Derived.Test.YtaelaldgohppeaaT3
import Derived.Deep.RegionHeld3
namespace Go.Proofs.Ytaelaldgohppeaa
open Go.RowKit
set_option linter.unusedVariables false

set_option maxRecDepth 100000 in
set_option maxHeartbeats 8000000 in
theorem fnTxnLocal_walk (A : Option Addr) (n c : Nat) (bs : List Int) (w : World) (hc : n ≤ c) (hcm : c ≤ 9223372036854775807) (hb : Bytes w w.heap.size A n bs) :
    Calls Try.prog 17 #[.slice A n c] w fun e w' => e = .returned (.bool true) ∧ Below w.heap.size w w' := by
  by_cases hbig : 1048576 < n
  · go_enter Try.func17, Try.ntmps17
    go_wp2
    go_ret
    exact ⟨rfl, Below.refl _ _⟩
  go_enter Try.func17, Try.ntmps17
  go_wp2_with fail
  refine (drawTA_any _ _ _ _ _ hb (by omega) hc hcm).mono ?_
  rintro e w1 ⟨A1, n1, c1, xs, A2, n2, c2, nd, A3, n3, c3, rs, ps, rfl, q1, hq1, q2, q3, hq2, hq3, hb1⟩
  have b2 := Blk.new w1 47 #[.slice A2 n2 c2, .int .i64 nd, .slice A3 n3 c3]
  have x2 := q1.ints.box (.cells #[.slice A2 n2 c2, .int .i64 nd, .slice A3 n3 c3] 47)
  have r2 := q2.ints.box (.cells #[.slice A2 n2 c2, .int .i64 nd, .slice A3 n3 c3] 47)
  have p2 := q3.puts.box (.cells #[.slice A2 n2 c2, .int .i64 nd, .slice A3 n3 c3] 47)
  have B2 := hb1.alloc hb1.size (.cells #[.slice A2 n2 c2, .int .i64 nd, .slice A3 n3 c3] 47)
  have gl := hb1.size
  have HX := Lib.hid q1.len
  have HR := Lib.hid q2.len
  have HP := Lib.hid q3.len
  clear q1 q2 q3 hb1
  go_wp2_with fail
  generalize hW2 : w1.alloc (.cells #[.slice A2 n2 c2, .int .i64 nd, .slice A3 n3 c3] 47) = w2 at b2 x2 r2 p2 B2 ⊢
  clear hW2
  have f2 := b2.three
  go_wp2_with fail
  refine (implTA_any _ _ _ _ _ _ nd _ _ _ xs rs ps _ x2 r2 p2 (by omega) (by omega) (by omega)).mono ?_
  rintro e w3 ⟨Ao, no, co, rfl, oo, hb3⟩
  have b3 := b2.below hb3 b2.lt
  have x3 := x2.up hb3 hb3.size
  have r3 := r2.up hb3 hb3.size
  have p3 := p2.up hb3 hb3.size
  have B3 := B2.trans (hb3.mono B2.size)
  have o3 := oo.ints
  have lo : no ≤ 15 := by have := oo.len; have := taL_len xs ⟨rs, nd, ps⟩; omega
  have HO := Lib.hid oo.len
  clear f2 b2 x2 r2 p2 B2 hb3 oo
  have f3 := b3.three
  go_wp2_with fail
  refine (specTA_any _ _ _ _ _ _ nd _ _ _ xs rs ps _ x3 r3 p3 (by omega) (by omega) (by omega)).mono ?_
  rintro e w4 ⟨Aw, nw, cw, rfl, ov, hb4⟩
  have S : Sc w w1.heap.size A1 n1 xs A2 n2 c2 nd A3 n3 c3 rs ps Ao no Aw nw w4 :=
    ⟨b3.below hb4 b3.lt, x3.up hb4 hb4.size, r3.up hb4 hb4.size, p3.up hb4 hb4.size, o3.up hb4 hb4.size, ov.ints, B3.trans (hb4.mono B3.size), gl, hq1, hq2, hq3, lo, by have := ov.len; have := taL_len xs ⟨rs, nd, ps⟩; omega⟩
  have HW := Lib.hid ov.len
  have lw : nw ≤ 15 := S.hw
  clear f3 b3 x3 r3 p3 B3 o3 hb4 ov gl
  have f4 := S.b.three
  have hne : (taB xs ⟨rs, nd, ps⟩ != taB xs ⟨rs, nd, ps⟩) = false := by simp
  go_wp2_with fail
  refine (sameInts_same _ _ _ _ _ _ (taL xs ⟨rs, nd, ps⟩) _ S.o S.v (by omega) (by omega)).mono ?_
  rintro e w5 ⟨rfl, hb5⟩
  replace S := S.step hb5
  clear hb5 f4
  have f5 := S.b.three
  by_cases hz : nw = 0
  · have hz' : ((nw : Int) == 0) = true := by rw [hz]; rfl
    subst hz
    go_wp2_with fail
    refine (sameInts_same _ _ _ _ _ _ (taL xs ⟨rs, nd, ps⟩) _ S.o S.v (by omega) (by omega)).mono ?_
    rintro e w6 ⟨rfl, hb6⟩
    go_wp2
    go_ret
    exact ⟨rfl, S.fin hb6⟩
  · have hz' : ((nw : Int) == 0) = false := by rw [beq_eq_false_iff_ne]; omega
    have HPos := Lib.hid (show (taL xs ⟨rs, nd, ps⟩).length ≠ 0 by rw [HW.out]; exact hz)
    clear hz
    have HS := Lib.hid (ta_pos HPos.out).1
    have HT := Lib.hid (ta_pos HPos.out).2
    have HE := Lib.hid (taL_step HS.out HT.out).1
    clear f5
    go_wp2_with fail
    go_loopw [9] (fun i wr => ∃ k : Nat, k ≤ 5 ∧ i = .int .i64 k ∧ Sc w w1.heap.size A1 n1 xs A2 n2 c2 nd A3 n3 c3 rs ps Ao no Aw nw wr) (fun i _ => 5 - (intOf i).toNat)
    case atStart => exact ⟨0, Nat.zero_le _, rfl, S⟩
    case round =>
      clear S
      obtain ⟨k, hk, rfl, S⟩ := hrel
      have f := S.b.three
      by_cases hlt : k < 5
      · go_wp2_with fail
        refine (implTG_any _ _ _ nd _ _ _ rs ps _ S.r S.p (by omega) (by omega)).mono ?_
        rintro e w6 ⟨A6, n6, c6, rfl, o6, hb6⟩
        replace S := S.step hb6
        have l6 : n6 ≤ 5 := by have := o6.len; have := tgL_len ⟨rs, nd, ps⟩; omega
        have i6 := o6.ints
        clear f hb6
        go_wp2_with fail
        refine (hasInt_any _ _ _ _ _ _ _ i6 (by omega)).mono ?_
        rintro e w' ⟨rfl, rfl⟩
        cases hg : hasB (tgL ⟨rs, nd, ps⟩) (k : Int)
        · have HG := Lib.hid (local_yes (st := xs) (t := ⟨rs, nd, ps⟩) (g := (k : Int)) HS.out HT.out (by omega) (by omega) hg)
          clear hg
          go_wp2_with fail
          refine (implPart_any _ _ _ (taL xs ⟨rs, nd, ps⟩) k _ S.o (by omega)).mono ?_
          rintro e w7 ⟨A7, n7, c7, rfl, o7, hb7⟩
          replace S := S.step hb7
          have i7 := o7.ints
          have l7 : n7 ≤ 3 := by have := o7.len; have := spart_len (taL xs ⟨rs, nd, ps⟩) (k : Int); omega
          go_wp2_with fail
          refine (implPart_any _ _ _ xs k _ S.x (by omega)).mono ?_
          rintro e w8 ⟨A8, n8, c8, rfl, o8, hb8⟩
          replace S := S.step hb8
          have i7' := i7.up hb8 hb8.size
          have i8 := o8.ints
          have l8 : n8 ≤ 3 := by have := o8.len; have := spart_len xs (k : Int); omega
          rw [HE.out, HG.out] at i7'
          go_wp2_with fail
          refine (sameInts_same _ _ _ _ _ _ (spart xs (k : Int)) _ i7' i8 (by omega) (by omega)).mono ?_
          rintro e w9 ⟨rfl, hb9⟩
          replace S := S.step hb9
          go_wp2_with fail
          go_roundw
          case rel => exact ⟨k + 1, by omega, by go_num, S⟩
          case measure => simp [intOf]; omega
        · clear hg
          go_wp2_with fail
          go_roundw
          case rel => exact ⟨k + 1, by omega, by go_num, S⟩
          case measure => simp [intOf]; omega
      · obtain rfl : k = 5 := by omega
        go_wp2
        go_ret
        exact ⟨rfl, S.bl⟩
end Go.Proofs.Ytaelaldgohppeaa
