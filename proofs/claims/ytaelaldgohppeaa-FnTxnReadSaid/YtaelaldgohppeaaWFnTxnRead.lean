/-
  The walk of FnTxnRead: the law returns true and writes nothing that was there.
-/
import Derived.Test.YtaelaldgohppeaaSc
import Derived.Deep.RegionHeld3
namespace Go.Proofs.Ytaelaldgohppeaa
open Go.RowKit
set_option linter.unusedVariables false

set_option maxRecDepth 100000 in
set_option maxHeartbeats 8000000 in
theorem fnTxnRead_walk (A : Option Addr) (n c : Nat) (bs : List Int) (w : World) (hc : n ≤ c) (hcm : c ≤ 9223372036854775807) (hb : Bytes w w.heap.size A n bs) :
    Calls Try.prog 15 #[.slice A n c] w fun e w' => e = .returned (.bool true) ∧ Below w.heap.size w w' := by
  by_cases hbig : 1048576 < n
  · go_enter Try.func15, Try.ntmps15
    go_wp2
    go_ret
    exact ⟨rfl, Below.refl _ _⟩
  go_enter Try.func15, Try.ntmps15
  go_wp2_with fail
  refine (drawTA_any _ _ _ _ _ hb (by omega) hc hcm).mono ?_
  rintro e w1 ⟨A1, n1, c1, xs, A2, n2, c2, nd, A3, n3, c3, rs, ps, rfl, q1, hq1, q2, q3, hq2, hq3, hb1⟩
  have b2 := Blk.new w1 47 #[.slice A2 n2 c2, .int .i64 nd, .slice A3 n3 c3]
  have x2 := q1.ints.box (.cells #[.slice A2 n2 c2, .int .i64 nd, .slice A3 n3 c3] 47)
  have r2 := q2.ints.box (.cells #[.slice A2 n2 c2, .int .i64 nd, .slice A3 n3 c3] 47)
  have p2 := q3.puts.box (.cells #[.slice A2 n2 c2, .int .i64 nd, .slice A3 n3 c3] 47)
  have B2 := hb1.alloc hb1.size (.cells #[.slice A2 n2 c2, .int .i64 nd, .slice A3 n3 c3] 47)
  have gl := hb1.size
  have HX := Lib.hid q1.len
  have HR := Lib.hid q2.len
  have HP := Lib.hid q3.len
  clear q1 q2 q3 hb1
  go_wp2_with fail
  generalize hW2 : w1.alloc (.cells #[.slice A2 n2 c2, .int .i64 nd, .slice A3 n3 c3] 47) = w2 at b2 x2 r2 p2 B2 ⊢
  clear hW2
  have f2 := b2.three
  go_wp2_with fail
  refine (implTA_any _ _ _ _ _ _ nd _ _ _ xs rs ps _ x2 r2 p2 (by omega) (by omega) (by omega)).mono ?_
  rintro e w3 ⟨Ao, no, co, rfl, oo, hb3⟩
  have b3 := b2.below hb3 b2.lt
  have x3 := x2.up hb3 hb3.size
  have r3 := r2.up hb3 hb3.size
  have p3 := p2.up hb3 hb3.size
  have B3 := B2.trans (hb3.mono B2.size)
  have o3 := oo.ints
  have lo : no ≤ 15 := by have := oo.len; have := taL_len xs ⟨rs, nd, ps⟩; omega
  have HO := Lib.hid oo.len
  clear f2 b2 x2 r2 p2 B2 hb3 oo
  have f3 := b3.three
  go_wp2_with fail
  refine (specTA_any _ _ _ _ _ _ nd _ _ _ xs rs ps _ x3 r3 p3 (by omega) (by omega) (by omega)).mono ?_
  rintro e w4 ⟨Aw, nw, cw, rfl, ov, hb4⟩
  have S : Sc w w1.heap.size A1 n1 xs A2 n2 c2 nd A3 n3 c3 rs ps Ao no Aw nw w4 :=
    ⟨b3.below hb4 b3.lt, x3.up hb4 hb4.size, r3.up hb4 hb4.size, p3.up hb4 hb4.size, o3.up hb4 hb4.size, ov.ints, B3.trans (hb4.mono B3.size), gl, hq1, hq2, hq3, lo, by have := ov.len; have := taL_len xs ⟨rs, nd, ps⟩; omega⟩
  have HW := Lib.hid ov.len
  have lw : nw ≤ 15 := S.hw
  clear f3 b3 x3 r3 p3 B3 o3 hb4 ov gl
  have f4 := S.b.three
  have hne : (taB xs ⟨rs, nd, ps⟩ != taB xs ⟨rs, nd, ps⟩) = false := by simp
  go_wp2_with fail
  refine (sameInts_same _ _ _ _ _ _ (taL xs ⟨rs, nd, ps⟩) _ S.o S.v (by omega) (by omega)).mono ?_
  rintro e w5 ⟨rfl, hb5⟩
  replace S := S.step hb5
  clear hb5 f4
  have f5 := S.b.three
  by_cases hz : nw = 0
  · have hz' : ((nw : Int) == 0) = true := by rw [hz]; rfl
    subst hz
    go_wp2_with fail
    refine (sameInts_same _ _ _ _ _ _ (taL xs ⟨rs, nd, ps⟩) _ S.o S.v (by omega) (by omega)).mono ?_
    rintro e w6 ⟨rfl, hb6⟩
    go_wp2
    go_ret
    exact ⟨rfl, S.fin hb6⟩
  · have hz' : ((nw : Int) == 0) = false := by rw [beq_eq_false_iff_ne]; omega
    have HPos := Lib.hid (show (taL xs ⟨rs, nd, ps⟩).length ≠ 0 by rw [HW.out]; exact hz)
    clear hz
    by_cases hz : n2 = 0
    · have hz' : ((n2 : Int) == 0) = true := by rw [hz]; rfl
      have H2 := Lib.hid hz
      clear hz
      go_wp2_with fail
      refine (sameInts_same _ _ _ _ _ _ (taL xs ⟨rs, nd, ps⟩) _ S.o S.v (by omega) (by omega)).mono ?_
      rintro e w6 ⟨rfl, hb6⟩
      go_wp2
      go_ret
      exact ⟨rfl, S.fin hb6⟩
    · have hz' : ((n2 : Int) == 0) = false := by rw [beq_eq_false_iff_ne]; omega
      have h20 : 0 < rs.length := by rw [HR.out]; omega
      obtain ⟨e1, e2⟩ := read_yes (t := ⟨rs, nd, ps⟩) (ta_pos HPos.out).1 (ta_pos HPos.out).2 h20
      have HE1 := Lib.hid e1
      have HE2 := Lib.hid e2
      clear hz e1 e2 h20
      go_wp2_with fail
      have S6 := S.alloc (.cells #[.slice A2 n2 c2, .int .i64 nd, .slice none 0 0] 47)
      generalize hW6 : w5.alloc (.cells #[.slice A2 n2 c2, .int .i64 nd, .slice none 0 0] 47) = w6 at S6 ⊢
      clear S hW6 f5
      refine (implTA_any _ _ _ _ _ _ nd none 0 0 xs rs [] _ S6.x S6.r (Puts.none0 _ _ _) (by omega) (by omega) (by omega)).mono ?_
      rintro e w7 ⟨A7, n7, c7, rfl, o7, hb7⟩
      have S := S6.step hb7
      have i7 := o7.ints
      rw [show (⟨rs, nd, []⟩ : TX) = readT ⟨rs, nd, ps⟩ from rfl, HE1.out] at i7
      have l7 : n7 ≤ 15 := by have h1 := i7.len; rw [HX.out] at h1; omega
      rw [show (⟨rs, nd, []⟩ : TX) = readT ⟨rs, nd, ps⟩ from rfl, HE2.out]
      have f7 := S.b.three
      clear o7 hb7 S6
      have TV := Lib.hid (tv_iff.1 (ta_pos HPos.out).2)
      have HS := Lib.hid (ta_pos HPos.out).1
      obtain rfl : n1 = 15 := by rw [← HX.out]; exact sv_len HS.out
      have l1 : n2 ≤ 15 := by have := HR.out; have := TV.out.rl; simp at this; omega
      obtain ⟨ad0, x0, rfl, hb00, -⟩ := S.x.elem (k := 0) (by omega)
      go_wp2_with fail
      obtain ⟨W5, rfl⟩ : ∃ W5, W5 = w7 := ⟨_, rfl⟩
      go_loopw [12, 13] (fun s i wv => ∃ k : Nat, k ≤ n2 ∧ i = .int .i64 k ∧ s = .int .i64 (sumR xs (rs.take k)) ∧ wv = W5) (fun _ i _ => n2 - (intOf i).toNat)
      case atStart => exact ⟨0, Nat.zero_le _, rfl, by simp [sumR], rfl⟩
      case round =>
        obtain ⟨k, hk, rfl, rfl, rfl⟩ := hrel
        have hsb := sumR_bound HS.out (rs.take k)
        have hsl : (rs.take k).length ≤ 15 := by simp; omega
        generalize hS : sumR xs (rs.take k) = Sm at *
        have HSS := Lib.hid hS
        have s0 : 0 ≤ Sm := hsb.1
        have s9 : Sm ≤ 14985 := by omega
        clear hS hsb hsl
        by_cases hlt : k < n2
        · obtain ⟨ad, x, rfl, hbx, hcx, hx1, hs1⟩ := S.r.elem hlt
          have hxr := TV.out.rk x (List.mem_of_getElem? hx1.out)
          obtain ⟨hx0, hx14⟩ := hxr
          obtain ⟨X, rfl⟩ := Int.eq_ofNat_of_zero_le hx0
          have X15 : X < 15 := by omega
          obtain ⟨hcX, hbX⟩ := S.x.atD X15
          have hv9 := sv_getD HS.out X
          generalize hV : xs.getD X 0 = v at hcX hv9
          obtain ⟨v0, v9⟩ := hv9
          have HV := Lib.hid hV
          clear hV
          go_wp2
          go_roundw
          case rel => exact ⟨k + 1, by omega, by go_num, by rw [hs1.out, sumR_snoc, HSS.out, Int.toNat_natCast, HV.out], by simp⟩
          case measure => simp [intOf]; omega
        · obtain rfl : n2 = k := by omega
          have HQ : Hid (sumR xs rs = Sm) := by
            rw [List.take_of_length_le (by rw [HR.out]; exact Nat.le_refl _)] at HSS
            exact HSS
          clear HSS hlt hk
          go_wp2_with fail
          refine (sameInts_same _ _ _ _ _ _ xs _ i7 S.x (by omega) (by omega)).mono ?_
          rintro e w9 ⟨rfl, hb9⟩
          have S9 := S.step hb9
          have f9 := S9.b.three
          rw [show sumR xs (⟨rs, nd, ps⟩ : TX).reads = Sm from HQ.out]
          by_cases hl2 : nd ≤ Sm
          all_goals
            go_wp2
            go_ret
            exact ⟨rfl, S9.bl⟩
end Go.Proofs.Ytaelaldgohppeaa
