/-
  The walk of FnStoreMerge: the law returns true and writes nothing that was there.
-/
import Derived.Test.YtaelaldgohppeaaR4
import Derived.Deep.RegionHeld3
namespace Go.Proofs.Ytaelaldgohppeaa
open Go.RowKit
set_option linter.unusedVariables false

set_option maxRecDepth 100000 in
set_option maxHeartbeats 8000000 in
theorem fnStoreMerge_walk (A : Option Addr) (n c : Nat) (bs : List Int) (A' : Option Addr) (n' c' : Nat) (bs' : List Int) (w : World) (hc : n ≤ c) (hcm : c ≤ 9223372036854775807) (hb : Bytes w w.heap.size A n bs) (hc' : n' ≤ c') (hcm' : c' ≤ 9223372036854775807) (hb' : Bytes w w.heap.size A' n' bs') :
    Calls Try.prog 23 #[.slice A n c, .slice A' n' c'] w fun e w' => e = .returned (.bool true) ∧ Below w.heap.size w w' := by
  by_cases hbig : 1048576 < n
  · go_enter Try.func23, Try.ntmps23
    go_wp2
    go_ret
    exact ⟨rfl, Below.refl _ _⟩
  by_cases hbig' : 1048576 < n'
  · go_enter Try.func23, Try.ntmps23
    go_wp2
    go_ret
    exact ⟨rfl, Below.refl _ _⟩
  go_enter Try.func23, Try.ntmps23
  go_wp2_with fail
  refine (drawSR_any _ _ _ _ _ hb (by omega) hc hcm).mono ?_
  rintro e w1 ⟨A1, n1, c1, xs, A2, m2, d2, R, ts, rfl, q1, hq1, q2, hq2, HRl, hb1⟩
  have x1 := q1.ints
  have t1 := q2.reads
  have hcap := q2.cap
  have HRL : ∀ r ∈ R, r.n1 ≤ 1048576 ∧ r.n2 ≤ 1048576 := fun r hr => by have := HRl.out r hr; omega
  have HLL := Lib.hid HRL
  clear HRL
  have HX := Lib.hid q1.len
  have HM := Lib.hid q2.l
  clear q1 q2
  go_wp2_with fail
  refine (implSR_any _ _ _ _ _ _ xs R ts _ x1 t1 (by omega) HLL.out).mono ?_
  rintro e w3 ⟨Ao, no, co, Bo, mo, eo, rfl, oo, pp, hb3⟩
  have x3 := x1.up hb3 hb3.size
  have t3 := t1.up hb3 hb3.size
  have B3 := hb1.trans (hb3.mono hb1.size)
  have o3 := oo.ints
  have p3 := pp.bools
  have lo : no ≤ 15 := by have := oo.len; have := srL_len xs ts; omega
  have lm : mo ≤ 10 := by have := pp.len; have := srB_len xs ts; omega
  have HO := Lib.hid oo.len
  have HB := Lib.hid pp.len
  clear x1 t1 hb1 hb3 oo pp
  go_wp2_with fail
  refine (specSR_any _ _ _ _ _ _ xs R ts _ x3 t3 (by omega) HLL.out).mono ?_
  rintro e w4 ⟨Aw, nw, cw, Bw, mw, ew, rfl, ov, qv, hb4⟩
  have S : Sr w A1 n1 xs A2 m2 d2 R ts Ao no Bo mo Aw nw Bw mw w4 := ⟨x3.up hb4 hb4.size, t3.up hb4 hb4.size, o3.up hb4 hb4.size, p3.up hb4 hb4.size, ov.ints, qv.bools, B3.trans (hb4.mono B3.size)⟩
  have lw : nw ≤ 15 := by have := ov.len; have := srL_len xs ts; omega
  have HW := Lib.hid ov.len
  clear x3 t3 B3 o3 p3 hb4 ov qv
  go_wp2_with fail
  refine (sameInts_same _ _ _ _ _ _ (srL xs ts) _ S.o S.v (by omega) (by omega)).mono ?_
  rintro e w5 ⟨rfl, hb5⟩
  replace S := S.step hb5
  clear hb5
  go_wp2_with fail
  refine (sameBools_same _ _ _ _ _ _ (srB xs ts) _ S.p S.q (by omega)).mono ?_
  rintro e w6 ⟨rfl, hb6⟩
  replace S := S.step hb6
  clear hb6
  by_cases hz : nw = 0
  · have hz' : ((nw : Int) == 0) = true := by rw [hz]; rfl
    subst hz
    go_wp2_with fail
    refine (sameInts_same _ _ _ _ _ _ (srL xs ts) _ S.o S.v (by omega) (by omega)).mono ?_
    rintro e w7 ⟨rfl, hb7⟩
    replace S := S.step hb7
    go_wp2_with fail
    refine (sameBools_same _ _ _ _ _ _ (srB xs ts) _ S.p S.q (by omega)).mono ?_
    rintro e w8 ⟨rfl, hb8⟩
    go_wp2
    go_ret
    exact ⟨rfl, S.fin hb8⟩
  · have hz' : ((nw : Int) == 0) = false := by rw [beq_eq_false_iff_ne]; omega
    have HRv := Lib.hid (rv_of_pos (show (srL xs ts).length ≠ 0 by rw [HW.out]; exact hz))
    clear hz
    have HS := Lib.hid (rv_iff.1 HRv.out).1
    have HT : Hid (∀ t ∈ ts, tvB t = true) := Lib.hid (rv_iff.1 HRv.out).2.2
    obtain ⟨e1, e2⟩ := sr_yes HRv.out
    have HE1 := Lib.hid e1
    have HE2 := Lib.hid e2
    clear e1 e2
    obtain rfl : n1 = 15 := by rw [← HX.out]; exact sv_len HS.out
    have hmo : mo = m2 := by rw [← HB.out, ← HM.out, HE2.out]; exact runB_len _ _
    have S0 := S
    clear S hmo
    have S := S0
    go_wp2_with fail
    obtain ⟨G, hG5, hG⟩ : ∃ G : Nat, G < 5 ∧ (n' : Int) % 5 = (G : Int) := ⟨n' % 5, Nat.mod_lt _ (by omega), rfl⟩
    generalize hGI : (n' : Int) % 5 = GI at hG ⊢
    subst hG
    clear hGI
    go_loopw [12, 13] (fun s i wr => ∃ (k : Nat) (A8 : Option Addr) (n8 c8 : Nat) (R8 : List TR) (ts8 : List TX), k ≤ m2 ∧ n8 ≤ k ∧ i = .int .i64 k ∧ s = .slice A8 n8 c8 ∧ wr.ownsRow w6.heap.size 47 3 (.slice A8 n8 c8) n8 (tcv R8) ∧ SubR R ts R8 ts8 ∧ Hid (ts8 = (ts.take k).filter fun t => !hasB (tgL t) (G : Int)) ∧ Below w6.heap.size w6 wr) (fun _ i _ => m2 - (intOf i).toNat)
    case atStart => exact ⟨0, _, 0, 0, [], [], Nat.zero_le _, Nat.le_refl _, rfl, rfl, World.ownsRow_lit w6 #[] 0 (Nat.le_refl _) (Nat.zero_le _) (by simp), SubR.nil _ _, Lib.hid rfl, (Below.refl _ _).alloc (Nat.le_refl _) _⟩
    case round =>
      clear S
      obtain ⟨k, A8, n8, c8, R8, ts8, hk, hn8, rfl, rfl, o8, hsub, hts8, hbw⟩ := hrel
      have S := S0.step hbw
      have z6 := hbw.size
      by_cases hlt : k < m2
      · obtain ⟨ad, B1, k1, d1, nd, B2, k2, e2, rs, ps, rfl, hba, g0, g1, g2, g3, g4, g5, j1, j2, ht1, hts, hR⟩ := S.t.el hlt
        obtain ⟨l1, l2⟩ := HLL.out _ (List.mem_of_getElem? hR.out)
        simp only at l1 l2
        go_wp2_with fail
        refine (implTG_any _ _ _ nd _ _ _ rs ps _ j1 j2 l1 l2).mono ?_
        rintro e w7 ⟨A7, n7, c7, rfl, o7, hb7⟩
        have hbw7 := hbw.trans (hb7.mono z6)
        have S7 := S0.step hbw7
        have z7 := hbw7.size
        have l7 : n7 ≤ 5 := by have := o7.len; have := tgL_len ⟨rs, nd, ps⟩; omega
        have i7 := o7.ints
        have o8' : w7.ownsRow w6.heap.size 47 3 (.slice A8 n8 c8) n8 (tcv R8) := World.ownsRow.kept o8 (row := none) ⟨hb7.os, hb7.tape, hb7.output, hb7.size, fun k hk _ => hb7.block k hk⟩ (by
          cases hA : (Value.slice A8 n8 c8).ownBlock with
          | none => exact .inl rfl
          | some k => exact .inr (fun e => by cases e))
        clear S o8 o7 g0 g1 g2 g3 g4 g5
        obtain ⟨ad', B1', k1', d1', nd', B2', k2', e2', rs', ps', hAe, hba', g0, g1, g2, g3, g4, g5, j1', j2', ht1', hts', hR'⟩ := S7.t.el hlt
        obtain rfl : ad = ad' := by injection hAe
        obtain ⟨rfl, rfl, rfl, rfl, rfl, rfl, rfl⟩ : B1 = B1' ∧ k1 = k1' ∧ d1 = d1' ∧ nd = nd' ∧ B2 = B2' ∧ k2 = k2' ∧ e2 = e2' := by
          have h1 := hR.out
          rw [hR'.out] at h1
          injection h1 with h1
          injection h1 with h1 h2 h3 h4 h5 h6 h7
          exact ⟨h1.symm, h2.symm, h3.symm, h4.symm, h5.symm, h6.symm, h7.symm⟩
        clear hAe j1' j2' ht1' hts' hR' j1 j2 hba
        go_wp2_with fail
        refine (hasInt_any _ _ _ _ _ _ _ i7 (by omega)).mono ?_
        rintro e w' ⟨rfl, rfl⟩
        cases hg : hasB (tgL ⟨rs, nd, ps⟩) (G : Int)
        · have HK : Hid (((ts.take (k + 1)).filter fun t => !hasB (tgL t) (G : Int)) = ((ts.take k).filter fun t => !hasB (tgL t) (G : Int)) ++ [⟨rs, nd, ps⟩]) := Lib.hid (by rw [hts.out, List.filter_append]; simp [hg])
          clear hg
          go_wp2_with (at_builtin; refine appT rfl _ _ rfl w6.heap.size rfl (World.ownsRow.alloc o8' _) _ _ _ _ [⟨B1, k1, d1, nd, B2, k2, e2⟩] rfl (Reads.txn1 ⟨B1, k1, d1, nd, B2, k2, e2⟩ rfl) (by omega) (by simp; omega) ?_; intro A9 c9 w9 o9 hg9 at9)
          have hb9 : Below w6.heap.size w6 w9 := Below.grown (hbw7.alloc z7 _) hg9 (by simp; omega) (fun j hj => (World.ownsRow.lt o8' j (by rw [blk_own]; exact hj)).1)
          go_roundw
          case rel => exact ⟨k + 1, A9, n8 + 1, c9, _, _, by omega, by omega, by go_num, rfl, o9, hsub.snoc hR.out ht1.out, Lib.hid (by rw [HK.out, hts8.out]), hb9⟩
          case measure => simp [intOf]; omega
        · have HK : Hid (((ts.take (k + 1)).filter fun t => !hasB (tgL t) (G : Int)) = ((ts.take k).filter fun t => !hasB (tgL t) (G : Int))) := Lib.hid (by rw [hts.out, List.filter_append]; simp [hg])
          clear hg
          go_wp2_with fail
          go_roundw
          case rel => exact ⟨k + 1, A8, n8, c8, R8, ts8, by omega, by omega, by go_num, rfl, o8', hsub, Lib.hid (by rw [HK.out, hts8.out]), hbw7⟩
          case measure => simp [intOf]; omega
      · obtain rfl : m2 = k := by omega
        have HF : Hid (spart (srL xs ts8) (G : Int) = spart xs (G : Int)) := Lib.hid (by
          have h1 := hts8.out
          rw [List.take_of_length_le (by rw [HM.out]; exact Nat.le_refl _)] at h1
          subst h1
          exact merge_yes (by omega) (by omega) HRv.out List.filter_sublist (fun t ht => by simpa using (List.mem_filter.1 ht).2))
        have t8 := S.t.sub o8 hsub
        have HL8 : Hid (∀ r ∈ R8, r.n1 ≤ 1048576 ∧ r.n2 ≤ 1048576) := Lib.hid (fun r hr => HLL.out r (hsub.mem r hr))
        clear hts8 hsub o8
        go_wp2_with fail
        refine (implSR_any _ _ _ _ _ _ xs R8 ts8 _ S.x t8 (by omega) HL8.out).mono ?_
        rintro e w9 ⟨A9, n9, c9, B9, m9, d9, rfl, o9, p9, hb9⟩
        replace S := S.step hb9
        have i9 := o9.ints
        have l9 : n9 ≤ 15 := by have := o9.len; have := srL_len xs ts8; omega
        clear hb9 o9 p9 t8
        go_wp2_with fail
        refine (implPart_any _ _ _ (srL xs ts8) G _ i9 (by omega)).mono ?_
        rintro e w10 ⟨A10, n10, c10, rfl, o10, hb10⟩
        replace S := S.step hb10
        have i10 := o10.ints
        have l10 : n10 ≤ 3 := by have := o10.len; have := spart_len (srL xs ts8) (G : Int); omega
        rw [HF.out] at i10
        clear o10 hb10 i9
        go_wp2_with fail
        refine (implPart_any _ _ _ xs G _ S.x (by omega)).mono ?_
        rintro e w11 ⟨A11, n11, c11, rfl, o11, hb11⟩
        replace S := S.step hb11
        have i11 := o11.ints
        have i10' := i10.up hb11 hb11.size
        have l11 : n11 ≤ 3 := by have := o11.len; have := spart_len xs (G : Int); omega
        clear o11 hb11
        go_wp2_with fail
        refine (sameInts_same _ _ _ _ _ _ (spart xs (G : Int)) _ i10' i11 (by omega) (by omega)).mono ?_
        rintro e w12 ⟨rfl, hb12⟩
        go_wp2
        go_ret
        exact ⟨rfl, S.fin hb12⟩
end Go.Proofs.Ytaelaldgohppeaa
