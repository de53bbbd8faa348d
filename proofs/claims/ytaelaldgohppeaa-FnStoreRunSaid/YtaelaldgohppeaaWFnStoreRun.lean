/-
  The walk of FnStoreRun: the law returns true and writes nothing that was there.
-/
import Derived.Test.YtaelaldgohppeaaR4
import Derived.Deep.RegionHeld3
namespace Go.Proofs.Ytaelaldgohppeaa
open Go.RowKit
set_option linter.unusedVariables false

set_option maxRecDepth 100000 in
set_option maxHeartbeats 8000000 in
theorem fnStoreRun_walk (A : Option Addr) (n c : Nat) (bs : List Int) (w : World) (hc : n ≤ c) (hcm : c ≤ 9223372036854775807) (hb : Bytes w w.heap.size A n bs) :
    Calls Try.prog 20 #[.slice A n c] w fun e w' => e = .returned (.bool true) ∧ Below w.heap.size w w' := by
  by_cases hbig : 1048576 < n
  · go_enter Try.func20, Try.ntmps20
    go_wp2
    go_ret
    exact ⟨rfl, Below.refl _ _⟩
  go_enter Try.func20, Try.ntmps20
  go_wp2_with fail
  refine (drawSR_any _ _ _ _ _ hb (by omega) hc hcm).mono ?_
  rintro e w1 ⟨A1, n1, c1, xs, A2, m2, d2, R, ts, rfl, q1, hq1, q2, hq2, HRl, hb1⟩
  have x1 := q1.ints
  have t1 := q2.reads
  have hcap := q2.cap
  have HRL : ∀ r ∈ R, r.n1 ≤ 1048576 ∧ r.n2 ≤ 1048576 := fun r hr => by have := HRl.out r hr; omega
  have HLL := Lib.hid HRL
  clear HRL
  have HX := Lib.hid q1.len
  have HM := Lib.hid q2.l
  clear q1 q2
  go_wp2_with fail
  refine (implSR_any _ _ _ _ _ _ xs R ts _ x1 t1 (by omega) HLL.out).mono ?_
  rintro e w3 ⟨Ao, no, co, Bo, mo, eo, rfl, oo, pp, hb3⟩
  have x3 := x1.up hb3 hb3.size
  have t3 := t1.up hb3 hb3.size
  have B3 := hb1.trans (hb3.mono hb1.size)
  have o3 := oo.ints
  have p3 := pp.bools
  have lo : no ≤ 15 := by have := oo.len; have := srL_len xs ts; omega
  have lm : mo ≤ 10 := by have := pp.len; have := srB_len xs ts; omega
  have HO := Lib.hid oo.len
  have HB := Lib.hid pp.len
  clear x1 t1 hb1 hb3 oo pp
  go_wp2_with fail
  refine (specSR_any _ _ _ _ _ _ xs R ts _ x3 t3 (by omega) HLL.out).mono ?_
  rintro e w4 ⟨Aw, nw, cw, Bw, mw, ew, rfl, ov, qv, hb4⟩
  have S : Sr w A1 n1 xs A2 m2 d2 R ts Ao no Bo mo Aw nw Bw mw w4 := ⟨x3.up hb4 hb4.size, t3.up hb4 hb4.size, o3.up hb4 hb4.size, p3.up hb4 hb4.size, ov.ints, qv.bools, B3.trans (hb4.mono B3.size)⟩
  have lw : nw ≤ 15 := by have := ov.len; have := srL_len xs ts; omega
  have HW := Lib.hid ov.len
  clear x3 t3 B3 o3 p3 hb4 ov qv
  go_wp2_with fail
  refine (sameInts_same _ _ _ _ _ _ (srL xs ts) _ S.o S.v (by omega) (by omega)).mono ?_
  rintro e w5 ⟨rfl, hb5⟩
  replace S := S.step hb5
  clear hb5
  go_wp2_with fail
  refine (sameBools_same _ _ _ _ _ _ (srB xs ts) _ S.p S.q (by omega)).mono ?_
  rintro e w6 ⟨rfl, hb6⟩
  replace S := S.step hb6
  clear hb6
  by_cases hz : nw = 0
  · have hz' : ((nw : Int) == 0) = true := by rw [hz]; rfl
    subst hz
    go_wp2_with fail
    refine (sameInts_same _ _ _ _ _ _ (srL xs ts) _ S.o S.v (by omega) (by omega)).mono ?_
    rintro e w7 ⟨rfl, hb7⟩
    replace S := S.step hb7
    go_wp2_with fail
    refine (sameBools_same _ _ _ _ _ _ (srB xs ts) _ S.p S.q (by omega)).mono ?_
    rintro e w8 ⟨rfl, hb8⟩
    go_wp2
    go_ret
    exact ⟨rfl, S.fin hb8⟩
  · have hz' : ((nw : Int) == 0) = false := by rw [beq_eq_false_iff_ne]; omega
    have HRv := Lib.hid (rv_of_pos (show (srL xs ts).length ≠ 0 by rw [HW.out]; exact hz))
    clear hz
    have HS := Lib.hid (rv_iff.1 HRv.out).1
    have HT : Hid (∀ t ∈ ts, tvB t = true) := Lib.hid (rv_iff.1 HRv.out).2.2
    obtain ⟨e1, e2⟩ := sr_yes HRv.out
    have HE1 := Lib.hid e1
    have HE2 := Lib.hid e2
    clear e1 e2
    obtain rfl : n1 = 15 := by rw [← HX.out]; exact sv_len HS.out
    have hmo : mo = m2 := by rw [← HB.out, ← HM.out, HE2.out]; exact runB_len _ _
    have HMO := Lib.hid hmo
    have hmo' : m2 ≤ mo := by omega
    clear hmo
    go_wp2_with fail
    go_loopw [9, 10] (fun s i wr => ∃ (k : Nat) (A8 : Option Addr) (c8 : Nat), k ≤ m2 ∧ i = .int .i64 k ∧ s = .slice A8 15 c8 ∧ Ints wr wr.heap.size A8 15 (runL xs (ts.take k)) ∧ Sr w A1 15 xs A2 m2 d2 R ts Ao no Bo mo Aw nw Bw mw wr) (fun _ i _ => m2 - (intOf i).toNat)
    case atStart => exact ⟨0, _, _, Nat.zero_le _, rfl, rfl, S.x, S⟩
    case round =>
      clear S
      obtain ⟨k, A8, c8, hk, rfl, rfl, i8, S⟩ := hrel
      by_cases hlt : k < m2
      · obtain ⟨ad, B1, k1, d1, nd, B2, k2, e2, rs, ps, rfl, hbb, g0, g1, g2, g3, g4, g5, j1, j2, ht1, hts, hR⟩ := S.t.el hlt
        obtain ⟨l1, l2⟩ := HLL.out _ (List.mem_of_getElem? hR.out)
        simp only at l1 l2
        obtain ⟨ab, b, rfl, -, -, -, -⟩ := S.p.el (k := k) (by omega)
        have HT1 := Lib.hid (HT.out _ (List.mem_of_getElem? ht1.out))
        have HSk := Lib.hid (runL_sv HS.out (ts.take k))
        have HN := Lib.hid (runB_take_succ (st := xs) hts.out)
        have HG := Lib.hid (runB_get xs ts ht1.out)
        go_wp2_with fail
        refine (implTA_any _ _ _ _ _ _ nd _ _ _ (runL xs (ts.take k)) rs ps _ i8 j1 j2 (by omega) l1 l2).mono ?_
        rintro e w9 ⟨A9, n9, c9, rfl, o9, hb9⟩
        obtain ⟨e1, e2⟩ := taL_step HSk.out HT1.out
        rw [e1, ← HN.out.1] at o9
        rw [e2]
        replace S := S.step hb9
        have i9 := o9.ints
        obtain rfl : n9 = 15 := by rw [← i9.len]; exact sv_len (runL_sv HS.out _)
        obtain ⟨ab', b', hab, -, hcb, hb1, -⟩ := S.p.el (k := k) (by omega)
        obtain rfl : ab = ab' := by injection hab
        obtain rfl : b' = tOk (runL xs (ts.take k)) ⟨rs, nd, ps⟩ := by
          have h1 := hb1.out
          rw [HE2.out, HG.out] at h1
          injection h1 with h1; exact h1.symm
        have hne : (tOk (runL xs (ts.take k)) ⟨rs, nd, ps⟩ != tOk (runL xs (ts.take k)) ⟨rs, nd, ps⟩) = false := by simp
        clear e1 e2 o9 hb9 i8 g0 g1 g2 g3 g4 g5 hab hb1
        go_wp2_with fail
        go_roundw
        case rel => exact ⟨k + 1, A9, c9, by omega, by go_num, rfl, i9, S⟩
        case measure => simp [intOf]; omega
      · obtain rfl : m2 = k := by omega
        rw [List.take_of_length_le (by rw [HM.out]; exact Nat.le_refl _), ← HE1.out] at i8
        have hq : ((mo : Int) == (m2 : Int)) = true := by rw [HMO.out]; simp
        go_wp2_with fail
        refine (sameInts_same _ _ _ _ _ _ (srL xs ts) _ i8 S.o (by omega) (by omega)).mono ?_
        rintro e w9 ⟨rfl, hb9⟩
        go_wp2
        go_ret
        exact ⟨rfl, S.fin hb9⟩
end Go.Proofs.Ytaelaldgohppeaa
