/-
  The walk of FnStoreFailed: the law returns true and writes nothing that was there.
-/
import Derived.Test.YtaelaldgohppeaaR4
import Derived.Deep.RegionHeld3
import Derived.StillTailTactics
namespace Go.Proofs.Ytaelaldgohppeaa
open Go.RowKit
set_option linter.unusedVariables false

set_option maxRecDepth 100000 in
set_option maxHeartbeats 8000000 in
theorem fnStoreFailed_walk (A : Option Addr) (n c : Nat) (bs : List Int) (w : World) (hc : n ≤ c) (hcm : c ≤ 9223372036854775807) (hb : Bytes w w.heap.size A n bs) :
    Calls Try.prog 18 #[.slice A n c] w fun e w' => e = .returned (.bool true) ∧ Below w.heap.size w w' := by
  by_cases hbig : 1048576 < n
  · go_enter Try.func18, Try.ntmps18
    go_wp2
    go_ret
    exact ⟨rfl, Below.refl _ _⟩
  go_enter Try.func18, Try.ntmps18
  go_wp2_with fail
  refine (drawSR_any _ _ _ _ _ hb (by omega) hc hcm).mono ?_
  rintro e w1 ⟨A1, n1, c1, xs, A2, m2, d2, R, ts, rfl, q1, hq1, q2, hq2, HRl, hb1⟩
  have x1 := q1.ints
  have t1 := q2.reads
  have hcap := q2.cap
  have HRL : ∀ r ∈ R, r.n1 ≤ 1048576 ∧ r.n2 ≤ 1048576 := fun r hr => by have := HRl.out r hr; omega
  have HLL := Lib.hid HRL
  clear HRL
  have HX := Lib.hid q1.len
  have HM := Lib.hid q2.l
  clear q1 q2
  go_wp2_with fail
  refine (implSR_any _ _ _ _ _ _ xs R ts _ x1 t1 (by omega) HLL.out).mono ?_
  rintro e w3 ⟨Ao, no, co, Bo, mo, eo, rfl, oo, pp, hb3⟩
  have x3 := x1.up hb3 hb3.size
  have t3 := t1.up hb3 hb3.size
  have B3 := hb1.trans (hb3.mono hb1.size)
  have o3 := oo.ints
  have p3 := pp.bools
  have lo : no ≤ 15 := by have := oo.len; have := srL_len xs ts; omega
  have lm : mo ≤ 10 := by have := pp.len; have := srB_len xs ts; omega
  have HO := Lib.hid oo.len
  have HB := Lib.hid pp.len
  clear x1 t1 hb1 hb3 oo pp
  go_wp2_with fail
  refine (specSR_any _ _ _ _ _ _ xs R ts _ x3 t3 (by omega) HLL.out).mono ?_
  rintro e w4 ⟨Aw, nw, cw, Bw, mw, ew, rfl, ov, qv, hb4⟩
  have S : Sr w A1 n1 xs A2 m2 d2 R ts Ao no Bo mo Aw nw Bw mw w4 := ⟨x3.up hb4 hb4.size, t3.up hb4 hb4.size, o3.up hb4 hb4.size, p3.up hb4 hb4.size, ov.ints, qv.bools, B3.trans (hb4.mono B3.size)⟩
  have lw : nw ≤ 15 := by have := ov.len; have := srL_len xs ts; omega
  have HW := Lib.hid ov.len
  clear x3 t3 B3 o3 p3 hb4 ov qv
  go_wp2_with fail
  refine (sameInts_same _ _ _ _ _ _ (srL xs ts) _ S.o S.v (by omega) (by omega)).mono ?_
  rintro e w5 ⟨rfl, hb5⟩
  replace S := S.step hb5
  clear hb5
  go_wp2_with fail
  refine (sameBools_same _ _ _ _ _ _ (srB xs ts) _ S.p S.q (by omega)).mono ?_
  rintro e w6 ⟨rfl, hb6⟩
  replace S := S.step hb6
  clear hb6
  by_cases hz : nw = 0
  · have hz' : ((nw : Int) == 0) = true := by rw [hz]; rfl
    subst hz
    go_wp2_with fail
    refine (sameInts_same _ _ _ _ _ _ (srL xs ts) _ S.o S.v (by omega) (by omega)).mono ?_
    rintro e w7 ⟨rfl, hb7⟩
    replace S := S.step hb7
    go_wp2_with fail
    refine (sameBools_same _ _ _ _ _ _ (srB xs ts) _ S.p S.q (by omega)).mono ?_
    rintro e w8 ⟨rfl, hb8⟩
    go_wp2
    go_ret
    exact ⟨rfl, S.fin hb8⟩
  · have hz' : ((nw : Int) == 0) = false := by rw [beq_eq_false_iff_ne]; omega
    have HRv := Lib.hid (rv_of_pos (show (srL xs ts).length ≠ 0 by rw [HW.out]; exact hz))
    clear hz
    have HS := Lib.hid (rv_iff.1 HRv.out).1
    have HT : Hid (∀ t ∈ ts, tvB t = true) := Lib.hid (rv_iff.1 HRv.out).2.2
    obtain ⟨e1, e2⟩ := sr_yes HRv.out
    have HE1 := Lib.hid e1
    have HE2 := Lib.hid e2
    clear e1 e2
    obtain rfl : n1 = 15 := by rw [← HX.out]; exact sv_len HS.out
    have hmo : mo = m2 := by rw [← HB.out, ← HM.out, HE2.out]; exact runB_len _ _
    have HMO := Lib.hid hmo
    have hmo' : m2 ≤ mo := by omega
    clear hmo
    have S0 := S
    clear S
    have S := S0
    go_wp2_with fail
    go_loopw [9, 10] (fun s i wr => ∃ (k : Nat) (A8 : Option Addr) (n8 c8 : Nat) (R8 : List TR) (ts8 : List TX), k ≤ m2 ∧ n8 ≤ k ∧ i = .int .i64 k ∧ s = .slice A8 n8 c8 ∧ wr.ownsRow w6.heap.size 47 3 (.slice A8 n8 c8) n8 (tcv R8) ∧ SubR R ts R8 ts8 ∧ Hid (ts8 = keepL (ts.take k) ((srB xs ts).take k)) ∧ Below w6.heap.size w6 wr) (fun _ i _ => m2 - (intOf i).toNat)
    case atStart => exact ⟨0, _, 0, 0, [], [], Nat.zero_le _, Nat.le_refl _, rfl, rfl, World.ownsRow_lit w6 #[] 0 (Nat.le_refl _) (Nat.zero_le _) (by simp), SubR.nil _ _, Lib.hid rfl, (Below.refl _ _).alloc (Nat.le_refl _) _⟩
    case round =>
      clear S
      obtain ⟨k, A8, n8, c8, R8, ts8, hk, hn8, rfl, rfl, o8, hsub, hts8, hbw⟩ := hrel
      have S := S0.step hbw
      have z6 := hbw.size
      by_cases hlt : k < m2
      · obtain ⟨ab, b, rfl, hbb, hcb, hb1, hbs⟩ := S.p.el (k := k) (by omega)
        obtain ⟨ad, B1, k1, d1, nd, B2, k2, e2, rs, ps, rfl, hba, g0, g1, g2, g3, g4, g5, j1, j2, ht1, hts, hR⟩ := S.t.el hlt
        have HK := Lib.hid (fail_step (xs := xs) hts.out hbs.out (by rw [HM.out]; exact hlt) (by rw [HB.out]; omega))
        cases b
        · go_wp2
          go_roundw
          case rel => exact ⟨k + 1, A8, n8, c8, R8, ts8, by omega, by omega, by go_num, rfl, o8, hsub, Lib.hid (by rw [HK.out, hts8.out]; simp), hbw⟩
          case measure => simp [intOf]; omega
        · go_wp2_with (at_builtin; refine appT rfl _ _ rfl w6.heap.size rfl (World.ownsRow.alloc o8 _) _ _ _ _ [⟨B1, k1, d1, nd, B2, k2, e2⟩] rfl (Reads.txn1 ⟨B1, k1, d1, nd, B2, k2, e2⟩ rfl) (by omega) (by simp; omega) ?_; intro A9 c9 w9 o9 hg9 at9)
          have hb9 : Below w6.heap.size w6 w9 := Below.grown (hbw.alloc z6 _) hg9 (by simp; omega) (fun j hj => (World.ownsRow.lt o8 j (by rw [blk_own]; exact hj)).1)
          go_roundw
          case rel => exact ⟨k + 1, A9, n8 + 1, c9, _, _, by omega, by omega, by go_num, rfl, o9, hsub.snoc hR.out ht1.out, Lib.hid (by rw [HK.out, hts8.out]; simp), hb9⟩
          case measure => simp [intOf]; omega
      · obtain rfl : m2 = k := by omega
        have HF : Hid (ts8 = keepL ts (srB xs ts)) := by
          rw [List.take_of_length_le (by rw [HM.out]; exact Nat.le_refl _), List.take_of_length_le (by rw [HB.out, HMO.out]; exact Nat.le_refl _)] at hts8
          exact hts8
        obtain ⟨f1, f2⟩ := failed_yes HRv.out
        rw [← HF.out] at f1 f2
        have HF1 := Lib.hid f1
        have HF2 := Lib.hid f2
        have t8 := S.t.sub o8 hsub
        have HL8 : Hid (∀ r ∈ R8, r.n1 ≤ 1048576 ∧ r.n2 ≤ 1048576) := Lib.hid (fun r hr => HLL.out r (hsub.mem r hr))
        clear f1 f2 hts8 HF hsub o8
        go_wp2_with fail
        refine (implSR_any _ _ _ _ _ _ xs R8 ts8 _ S.x t8 (by omega) HL8.out).mono ?_
        rintro e w9 ⟨A9, n9, c9, B9, m9, d9, rfl, o9, p9, hb9⟩
        replace S := S.step hb9
        rw [HF1.out] at o9
        have i9 := o9.ints
        have q9 := p9.bools
        have lm9 : m9 ≤ 10 := by have := p9.len; have := srB_len xs ts8; omega
        have l9 : n9 ≤ 15 := by have := o9.len; have := srL_len xs ts; omega
        clear hb9 o9 p9 t8
        obtain ⟨W9, hW9⟩ : ∃ W9, W9 = w9 := ⟨_, rfl⟩
        go_wp2_with fail
        go_loopw [13] (fun i wr => ∃ k : Nat, k ≤ m9 ∧ i = .int .i64 k ∧ wr = w9) (fun i _ => m9 - (intOf i).toNat)
        case atStart => exact ⟨0, Nat.zero_le _, rfl, rfl⟩
        case round =>
          obtain ⟨k, hk, rfl, rfl⟩ := hrel
          by_cases hlt : k < m9
          · obtain ⟨ab, b, rfl, hbb, hcb, hb1, hbs⟩ := q9.el hlt
            obtain rfl : b = true := HF2.out b (List.mem_of_getElem? hb1.out)
            go_wp2
            go_roundw
            case rel => exact ⟨k + 1, by omega, by go_num, by simp⟩
            case measure => simp [intOf]; omega
          · have hlt' : ¬ ((k : Int) < (m9 : Int)) := by omega
            go_wp2_with fail
            refine (sameInts_same _ _ _ _ _ _ (srL xs ts) _ i9 S.o (by omega) (by omega)).mono ?_
            rintro e w10 ⟨rfl, hb10⟩
            go_wp2
            go_ret
            exact ⟨rfl, S.fin hb10⟩
end Go.Proofs.Ytaelaldgohppeaa
