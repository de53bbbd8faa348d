/-
  The walk of FnTxnApply: the law returns true and writes nothing that was there.
-/
import Derived.Test.YtaelaldgohppeaaSc
import Derived.Deep.RegionHeld3
namespace Go.Proofs.Ytaelaldgohppeaa
open Go.RowKit
set_option linter.unusedVariables false

set_option maxRecDepth 100000 in
set_option maxHeartbeats 8000000 in
theorem fnTxnApply_walk (A : Option Addr) (n c : Nat) (bs : List Int) (w : World) (hc : n ≤ c) (hcm : c ≤ 9223372036854775807) (hb : Bytes w w.heap.size A n bs) :
    Calls Try.prog 10 #[.slice A n c] w fun e w' => e = .returned (.bool true) ∧ Below w.heap.size w w' := by
  by_cases hbig : 1048576 < n
  · go_enter Try.func10, Try.ntmps10
    go_wp2
    go_ret
    exact ⟨rfl, Below.refl _ _⟩
  go_enter Try.func10, Try.ntmps10
  go_wp2_with fail
  refine (drawTA_any _ _ _ _ _ hb (by omega) hc hcm).mono ?_
  rintro e w1 ⟨A1, n1, c1, xs, A2, n2, c2, nd, A3, n3, c3, rs, ps, rfl, q1, hq1, q2, q3, hq2, hq3, hb1⟩
  have b2 := Blk.new w1 47 #[.slice A2 n2 c2, .int .i64 nd, .slice A3 n3 c3]
  have x2 := q1.ints.box (.cells #[.slice A2 n2 c2, .int .i64 nd, .slice A3 n3 c3] 47)
  have r2 := q2.ints.box (.cells #[.slice A2 n2 c2, .int .i64 nd, .slice A3 n3 c3] 47)
  have p2 := q3.puts.box (.cells #[.slice A2 n2 c2, .int .i64 nd, .slice A3 n3 c3] 47)
  have B2 := hb1.alloc hb1.size (.cells #[.slice A2 n2 c2, .int .i64 nd, .slice A3 n3 c3] 47)
  have gl := hb1.size
  have HX := Lib.hid q1.len
  have HR := Lib.hid q2.len
  have HP := Lib.hid q3.len
  clear q1 q2 q3 hb1
  go_wp2_with fail
  generalize hW2 : w1.alloc (.cells #[.slice A2 n2 c2, .int .i64 nd, .slice A3 n3 c3] 47) = w2 at b2 x2 r2 p2 B2 ⊢
  clear hW2
  have f2 := b2.three
  go_wp2_with fail
  refine (implTA_any _ _ _ _ _ _ nd _ _ _ xs rs ps _ x2 r2 p2 (by omega) (by omega) (by omega)).mono ?_
  rintro e w3 ⟨Ao, no, co, rfl, oo, hb3⟩
  have b3 := b2.below hb3 b2.lt
  have x3 := x2.up hb3 hb3.size
  have r3 := r2.up hb3 hb3.size
  have p3 := p2.up hb3 hb3.size
  have B3 := B2.trans (hb3.mono B2.size)
  have o3 := oo.ints
  have lo : no ≤ 15 := by have := oo.len; have := taL_len xs ⟨rs, nd, ps⟩; omega
  have HO := Lib.hid oo.len
  clear f2 b2 x2 r2 p2 B2 hb3 oo
  have f3 := b3.three
  go_wp2_with fail
  refine (specTA_any _ _ _ _ _ _ nd _ _ _ xs rs ps _ x3 r3 p3 (by omega) (by omega) (by omega)).mono ?_
  rintro e w4 ⟨Aw, nw, cw, rfl, ov, hb4⟩
  have S : Sc w w1.heap.size A1 n1 xs A2 n2 c2 nd A3 n3 c3 rs ps Ao no Aw nw w4 :=
    ⟨b3.below hb4 b3.lt, x3.up hb4 hb4.size, r3.up hb4 hb4.size, p3.up hb4 hb4.size, o3.up hb4 hb4.size, ov.ints, B3.trans (hb4.mono B3.size), gl, hq1, hq2, hq3, lo, by have := ov.len; have := taL_len xs ⟨rs, nd, ps⟩; omega⟩
  have HW := Lib.hid ov.len
  have lw : nw ≤ 15 := S.hw
  clear f3 b3 x3 r3 p3 B3 o3 hb4 ov gl
  have f4 := S.b.three
  cases hB : taB xs ⟨rs, nd, ps⟩
  · have HB := Lib.hid hB
    clear hB
    go_wp2_with fail
    refine (sameInts_same _ _ _ _ _ _ (taL xs ⟨rs, nd, ps⟩) _ S.o S.v (by omega) (by omega)).mono ?_
    rintro e w5 ⟨rfl, hb5⟩
    replace S := S.step hb5
    clear hb5 f4
    have f5 := S.b.three
    go_wp2_with fail
    refine (sameInts_same _ _ _ _ _ _ (taL xs ⟨rs, nd, ps⟩) _ S.o S.v (by omega) (by omega)).mono ?_
    rintro e w6 ⟨rfl, hb6⟩
    go_wp2
    go_ret
    exact ⟨rfl, S.fin hb6⟩
  · have HB := Lib.hid hB
    clear hB
    go_wp2_with fail
    refine (sameInts_same _ _ _ _ _ _ (taL xs ⟨rs, nd, ps⟩) _ S.o S.v (by omega) (by omega)).mono ?_
    rintro e w5 ⟨rfl, hb5⟩
    replace S := S.step hb5
    clear hb5 f4
    have f5 := S.b.three
    obtain ⟨HSv, HTv, HOk, HEq⟩ := taL_yes HB.out
    have TV := Lib.hid (tv_iff.1 HTv)
    have HS := Lib.hid HSv
    have HE := Lib.hid HEq
    have HV := Lib.hid (show svB (taL xs ⟨rs, nd, ps⟩) = true by rw [(taL_step HSv HTv).1]; exact tstep_sv HSv)
    clear HSv HTv HOk HEq f5
    obtain rfl : n1 = 15 := by rw [← HX.out]; exact sv_len HS.out
    obtain rfl : no = 15 := by rw [← HO.out, HE.out]; exact addL_len _ _
    obtain ⟨ad0, x0, rfl, -, -⟩ := S.x.elem (k := 0) (by omega)
    obtain ⟨ad1, x1, rfl, -, -⟩ := S.o.elem (k := 0) (by omega)
    go_wp2_with fail
    go_loopw [9] (fun i wr => ∃ k : Nat, k ≤ 15 ∧ i = .int .i64 k ∧ Sc w w1.heap.size (some ad0) 15 xs A2 n2 c2 nd A3 n3 c3 rs ps (some ad1) 15 Aw nw wr) (fun i _ => 15 - (intOf i).toNat)
    case atStart => exact ⟨0, Nat.zero_le _, rfl, S⟩
    case round =>
      clear S
      obtain ⟨k, hk, rfl, S⟩ := hrel
      have f := S.b.three
      by_cases hlt : k < 15
      · have hkI : (k : Int) < 15 := by omega
        have kI0 : (0 : Int) ≤ (k : Int) := by omega
        go_wp2_with fail
        obtain ⟨V, rfl⟩ : ∃ V, V = wr := ⟨_, rfl⟩
        go_loopw [10, 11] (fun d i wv => ∃ j : Nat, j ≤ n3 ∧ i = .int .i64 j ∧ d = .int .i64 (dOf (ps.take j) (k : Int)) ∧ wv = V) (fun _ i _ => n3 - (intOf i).toNat)
        case atStart => exact ⟨0, Nat.zero_le _, rfl, by simp [dOf, dFold], rfl⟩
        case round =>
          obtain ⟨j, hj, rfl, rfl, rfl⟩ := hrel
          generalize hD : dOf (ps.take j) (k : Int) = D at *
          have HD := Lib.hid hD
          clear hD
          by_cases hlj : j < n3
          · obtain ⟨ad, x, y, rfl, hbb, hc0, hc1, hc2, hc3, hc4, hx1, hs1⟩ := S.p.el hlj
            cases hxk : (x == (k : Int))
            · have HN : Hid (dOf (ps.take (j + 1)) (k : Int) = D) := Lib.hid (by rw [hs1.out, dOf_snoc, if_neg (by simpa using hxk)]; exact HD.out)
              go_wp2
              go_roundw
              case rel => exact ⟨j + 1, by omega, by go_num, by rw [HN.out], by simp⟩
              case measure => simp [intOf]; omega
            · have HN : Hid (dOf (ps.take (j + 1)) (k : Int) = y) := Lib.hid (by rw [hs1.out, dOf_snoc, if_pos (by simpa using hxk)])
              go_wp2
              go_roundw
              case rel => exact ⟨j + 1, by omega, by go_num, by rw [HN.out], by simp⟩
              case measure => simp [intOf]; omega
          · obtain rfl : n3 = j := by omega
            have HQ : Hid (dOf ps (k : Int) = D) := by
              rw [List.take_of_length_le (by rw [HP.out]; exact Nat.le_refl _)] at HD
              exact HD
            have hDb : -999 ≤ D ∧ D ≤ 999 := by
              rw [← HQ.out]
              rcases dOf_cases (keys_iff TV.out.p).2 (k : Int) with ⟨_, e⟩ | ⟨p, hp, _, e⟩
              · rw [e]; omega
              · rw [e]; exact TV.out.a p hp
            obtain ⟨D0, D9⟩ := hDb
            have hcX := (S.x.atD hlt).1
            have hcO := (S.o.atD hlt).1
            rw [HE.out, addL_get _ _ hlt, HQ.out] at hcO
            have ha := sv_getD HS.out k
            generalize xs.getD k 0 = a at hcX hcO ha
            obtain ⟨a0, a9⟩ := ha
            have hw1 : IntKind.i64.wrap (a + D) = a + D := IntWalk.i64_in _ (by omega)
            clear HD
            go_wp2_with fail
            go_quiet (fail)
            go_wp2
            go_roundw
            case rel => exact ⟨k + 1, by omega, by go_num, S.drewN _⟩
            case measure => simp [intOf]; omega
      · obtain rfl : k = 15 := by omega
        go_wp2_with fail
        refine (implStoreValid_any _ _ _ _ (taL xs ⟨rs, nd, ps⟩) _ S.o (by omega)).mono ?_
        rintro e w' ⟨rfl, rfl⟩
        rw [HV.out]
        go_wp2
        go_ret
        exact ⟨rfl, S.bl⟩
end Go.Proofs.Ytaelaldgohppeaa
