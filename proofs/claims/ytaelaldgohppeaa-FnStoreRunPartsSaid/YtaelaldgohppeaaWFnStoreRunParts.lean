/-
  The walk of FnStoreRunParts: the law returns true and writes nothing that was there.
-/
import Derived.Test.YtaelaldgohppeaaR5
import Derived.Deep.RegionHeld3
import Derived.StillTailTactics
namespace Go.Proofs.Ytaelaldgohppeaa
open Go.RowKit
set_option linter.unusedVariables false

set_option maxRecDepth 100000 in
set_option maxHeartbeats 8000000 in
theorem fnStoreRunParts_walk (A : Option Addr) (n c : Nat) (bs : List Int) (A' : Option Addr) (n' c' : Nat) (bs' : List Int) (w : World) (hc : n ≤ c) (hcm : c ≤ 9223372036854775807) (hb : Bytes w w.heap.size A n bs) (hc' : n' ≤ c') (hcm' : c' ≤ 9223372036854775807) (hb' : Bytes w w.heap.size A' n' bs') :
    Calls Try.prog 19 #[.slice A n c, .slice A' n' c'] w fun e w' => e = .returned (.bool true) ∧ Below w.heap.size w w' := by
  by_cases hbig : 1048576 < n
  · go_enter Try.func19, Try.ntmps19
    go_wp2
    go_ret
    exact ⟨rfl, Below.refl _ _⟩
  by_cases hbig' : 1048576 < n'
  · go_enter Try.func19, Try.ntmps19
    go_wp2
    go_ret
    exact ⟨rfl, Below.refl _ _⟩
  go_enter Try.func19, Try.ntmps19
  go_wp2_with fail
  refine (drawSR_any _ _ _ _ _ hb (by omega) hc hcm).mono ?_
  rintro e w1 ⟨A1, n1, c1, xs, A2, m2, d2, R, ts, rfl, q1, hq1, q2, hq2, HRl, hb1⟩
  have x1 := q1.ints
  have t1 := q2.reads
  have hcap := q2.cap
  have HRL : ∀ r ∈ R, r.n1 ≤ 1048576 ∧ r.n2 ≤ 1048576 := fun r hr => by have := HRl.out r hr; omega
  have HLL := Lib.hid HRL
  clear HRL
  have HX := Lib.hid q1.len
  have HM := Lib.hid q2.l
  clear q1 q2
  go_wp2_with fail
  refine (implSR_any _ _ _ _ _ _ xs R ts _ x1 t1 (by omega) HLL.out).mono ?_
  rintro e w3 ⟨Ao, no, co, Bo, mo, eo, rfl, oo, pp, hb3⟩
  have x3 := x1.up hb3 hb3.size
  have t3 := t1.up hb3 hb3.size
  have B3 := hb1.trans (hb3.mono hb1.size)
  have o3 := oo.ints
  have p3 := pp.bools
  have lo : no ≤ 15 := by have := oo.len; have := srL_len xs ts; omega
  have lm : mo ≤ 10 := by have := pp.len; have := srB_len xs ts; omega
  have HO := Lib.hid oo.len
  have HB := Lib.hid pp.len
  clear x1 t1 hb1 hb3 oo pp
  go_wp2_with fail
  refine (specSR_any _ _ _ _ _ _ xs R ts _ x3 t3 (by omega) HLL.out).mono ?_
  rintro e w4 ⟨Aw, nw, cw, Bw, mw, ew, rfl, ov, qv, hb4⟩
  have S : Sr w A1 n1 xs A2 m2 d2 R ts Ao no Bo mo Aw nw Bw mw w4 := ⟨x3.up hb4 hb4.size, t3.up hb4 hb4.size, o3.up hb4 hb4.size, p3.up hb4 hb4.size, ov.ints, qv.bools, B3.trans (hb4.mono B3.size)⟩
  have lw : nw ≤ 15 := by have := ov.len; have := srL_len xs ts; omega
  have HW := Lib.hid ov.len
  clear x3 t3 B3 o3 p3 hb4 ov qv
  go_wp2_with fail
  refine (sameInts_same _ _ _ _ _ _ (srL xs ts) _ S.o S.v (by omega) (by omega)).mono ?_
  rintro e w5 ⟨rfl, hb5⟩
  replace S := S.step hb5
  clear hb5
  go_wp2_with fail
  refine (sameBools_same _ _ _ _ _ _ (srB xs ts) _ S.p S.q (by omega)).mono ?_
  rintro e w6 ⟨rfl, hb6⟩
  replace S := S.step hb6
  clear hb6
  by_cases hz : nw = 0
  · have hz' : ((nw : Int) == 0) = true := by rw [hz]; rfl
    subst hz
    go_wp2_with fail
    refine (sameInts_same _ _ _ _ _ _ (srL xs ts) _ S.o S.v (by omega) (by omega)).mono ?_
    rintro e w7 ⟨rfl, hb7⟩
    replace S := S.step hb7
    go_wp2_with fail
    refine (sameBools_same _ _ _ _ _ _ (srB xs ts) _ S.p S.q (by omega)).mono ?_
    rintro e w8 ⟨rfl, hb8⟩
    go_wp2
    go_ret
    exact ⟨rfl, S.fin hb8⟩
  · have hz' : ((nw : Int) == 0) = false := by rw [beq_eq_false_iff_ne]; omega
    have HRv := Lib.hid (rv_of_pos (show (srL xs ts).length ≠ 0 by rw [HW.out]; exact hz))
    clear hz
    have HS := Lib.hid (rv_iff.1 HRv.out).1
    have HT : Hid (∀ t ∈ ts, tvB t = true) := Lib.hid (rv_iff.1 HRv.out).2.2
    obtain ⟨e1, e2⟩ := sr_yes HRv.out
    have HE1 := Lib.hid e1
    have HE2 := Lib.hid e2
    clear e1 e2
    obtain rfl : n1 = 15 := by rw [← HX.out]; exact sv_len HS.out
    have hmo : mo = m2 := by rw [← HB.out, ← HM.out, HE2.out]; exact runB_len _ _
    obtain ⟨K, hK, hKe⟩ : ∃ K : Nat, K ≤ m2 ∧ (n' : Int) % ((m2 : Int) + 1) = (K : Int) := ⟨n' % (m2 + 1), by have := Nat.mod_lt n' (show 0 < m2 + 1 by omega); omega, by simp⟩
    have k0 : (0 : Int) ≤ (K : Int) := by omega
    have km : (K : Int) ≤ (m2 : Int) := by omega
    have kd : (K : Int) ≤ (d2 : Int) := by omega
    have kd' : K ≤ d2 := by omega
    have hm1 : (0 : Int) < (m2 : Int) + 1 := by omega
    have HMO := Lib.hid hmo
    clear hmo
    have hslT := fun w => cutTTo_run A2 m2 d2 K hK hcap w
    have hslD := fun w => cutT_run A2 m2 d2 K hK w
    generalize hA0 : (if d2 = K then A2 else A2.map (·.add (K * 3))) = A0 at hslD
    have HA0 := Lib.hid hA0
    clear hA0
    have HPY := Lib.hid (parts_yes HRv.out K)
    have tT := S.t.take hK
    have HLT : Hid (∀ r ∈ R.take K, r.n1 ≤ 1048576 ∧ r.n2 ≤ 1048576) := Lib.hid (fun r hr => HLL.out r (List.mem_of_mem_take hr))
    have HLD : Hid (∀ r ∈ R.drop K, r.n1 ≤ 1048576 ∧ r.n2 ≤ 1048576) := Lib.hid (fun r hr => HLL.out r (List.mem_of_mem_drop hr))
    go_wp2_with fail
    refine (implSR_any _ _ _ _ _ _ xs (R.take K) (ts.take K) _ S.x tT (by omega) HLT.out).mono ?_
    rintro e w7 ⟨A7, n7, c7, B7, m7, d7, rfl, o7, p7, hb7⟩
    replace S := S.step hb7
    have i7 := o7.ints
    have q7 := p7.bools
    have l7 : n7 ≤ 15 := by have := o7.len; have := srL_len xs (ts.take K); omega
    have lm7 : m7 ≤ 10 := by have := p7.len; have := srB_len xs (ts.take K); omega
    have tD := S.t.cut (d := d2) hK hcap
    rw [HA0.out] at tD
    clear o7 p7 hb7 tT
    go_wp2_with fail
    refine (implSR_any _ _ _ _ _ _ (srL xs (ts.take K)) (R.drop K) (ts.drop K) _ i7 tD (by omega) HLD.out).mono ?_
    rintro e w8 ⟨A8, n8, c8, B8, m8, d8, rfl, o8, p8, hb8⟩
    replace S := S.step hb8
    have q7' := q7.up hb8 hb8.size
    rw [HPY.out.1] at o8
    have i8 := o8.ints
    have q8 := p8.bools
    have l8 : n8 ≤ 15 := by have := o8.len; have := srL_len xs ts; omega
    have lm8 : m8 ≤ 10 := by have := p8.len; have := srB_len (srL xs (ts.take K)) (ts.drop K); omega
    clear o8 p8 hb8 tD i7 q7
    go_wp2_with fail
    refine (sameInts_same _ _ _ _ _ _ (srL xs ts) _ i8 S.o (by omega) (by omega)).mono ?_
    rintro e w9 ⟨rfl, hb9⟩
    replace S := S.step hb9
    have q7 := q7'.up hb9 hb9.size
    have q8' := q8.up hb9 hb9.size
    clear hb9 q7' q8 i8
    go_wp2_with (first
      | (at_builtin; refine appBg (n := 0) (c := 0) (bs := []) (by rfl) _ _ rfl w9.heap.size rfl (OwnB.lit0 rfl (Nat.le_refl _)) w9.heap.size _ _ _ _ rfl (q7.below ((Below.refl _ _).alloc (Nat.le_refl _) _)) (by omega) (by simp) ?_; intro A10 c10 w10 o10 hg10 at10; simp only [Nat.zero_add, List.nil_append] at o10 ⊢; have B10 : Below w9.heap.size w9 w10 := Below.grown ((Below.refl _ _).alloc (Nat.le_refl _) _) hg10 (by simp) (by intro j hj; simp [blk] at hj; omega))
      | (at_builtin; refine appBg (by rfl) _ _ rfl w9.heap.size rfl o10 w9.heap.size _ _ _ _ rfl (q8'.below B10) (by omega) B10.size ?_; intro A11 c11 w11 o11 hg11 at11))
    have B11 : Below w9.heap.size w9 w11 := Below.grown B10 hg11 B10.size (fun j hj => (o10.lt hj).1)
    have S11 := S.step B11
    rw [HPY.out.2] at o11
    have i11 := o11.bools
    refine (sameBools_same _ _ _ _ _ _ (srB xs ts) _ i11 S11.p (by omega)).mono ?_
    rintro e w12 ⟨rfl, hb12⟩
    go_wp2
    go_ret
    exact ⟨rfl, S11.fin hb12⟩
end Go.Proofs.Ytaelaldgohppeaa
