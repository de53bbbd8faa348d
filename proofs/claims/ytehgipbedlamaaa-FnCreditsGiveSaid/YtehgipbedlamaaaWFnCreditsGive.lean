/-
  The walk of FnCreditsGive: the law returns true and writes nothing that was there. Printed by gen_cl.py.
-/
import Derived.Test.YtehgipbedlamaaaHP
import Derived.Test.YtehgipbedlamaaaHE
namespace Go.Proofs.Ytehgipbedlamaaa
open Go.RowKit
set_option linter.unusedVariables false

set_option maxRecDepth 100000 in
set_option maxHeartbeats 8000000 in
theorem fnCreditsGive_walk (A : Option Addr) (n c : Nat) (bs : List Int) (w : World) (hc : n ≤ c) (hcm : c ≤ 9223372036854775807) (hb : Bytes w w.heap.size A n bs) :
    Calls Try.prog 8 #[.slice A n c] w fun e w' => e = .returned (.bool true) ∧ Below w.heap.size w w' := by
  by_cases hn : 1048576 < n
  · go_enter Try.func8, Try.ntmps8
    go_wp2
    go_ret
    exact ⟨rfl, Below.refl _ _⟩
  go_enter Try.func8, Try.ntmps8
  go_wp2_with fail
  refine (drawCG_any A n c bs w hb (by omega) hc hcm).mono ?_
  rintro e w1 ⟨F, nf, cf, A1, n1, c1, R, cx, s, rfl, X1, hnf, hn1, HB1⟩
  have C := Bc.start (cf := cf) (c := c1) X1 HB1 hnf hn1
  clear X1 hb
  have fC := C.b.two
  go_wp2_with fail
  refine (implGive_any F nf cf A1 n1 c1 R cx s _ C.x (by omega) (by omega)).mono ?_
  rintro e w2 ⟨F2, nf2, cf2, A2, n2, c2, R2, rfl, o2, hb2⟩
  have HL := Lib.hid (giveC_len s C.lens.1 C.lens.2)
  have C2 := C.step hb2
  have O := Bc.own o2 C2.bl HL.out.1 HL.out.2
  have C := C2.alloc (.cells #[.slice F2 nf2 cf2, .slice A2 n2 c2] 26)
  clear hb2 C2 o2 fC
  have fC := C.b.two
  have fO := O.b.two
  go_wp2_with fail
  refine (specGive_any F nf cf A1 n1 c1 R cx s _ C.x (by omega) (by omega)).mono ?_
  rintro e w3 ⟨F3, nf3, cf3, A3, n3, c3, R3, rfl, o3, hb3⟩
  have C2 := C.step hb3
  have O2 := O.step hb3
  have V := Bc.own o3 C2.bl HL.out.1 HL.out.2
  have C := C2.alloc (.cells #[.slice F3 nf3 cf3, .slice A3 n3 c3] 26)
  have O := O2.alloc (.cells #[.slice F3 nf3 cf3, .slice A3 n3 c3] 26)
  clear hb3 C2 O2 o3 fC fO
  have fC := C.b.two
  have fO := O.b.two
  have fV := V.b.two
  go_upto_region 6 with (fail)
  generalize w3.alloc (.cells #[.slice F3 nf3 cf3, .slice A3 n3 c3] 26) = w4 at C O V fC fO fV ⊢
  have hnf2 := O.f5
  have hn2 := O.n6
  have hnf3 := V.f5
  cases hB : giveB cx s
  · skip
    go_wp2_with fail
    refine (sameC_same F2 F3 nf2 cf2 nf3 cf3 A2 A3 n2 c2 n3 c3 R2 R3 (giveC cx s) _ O.x V.x (by omega) (by omega) (by omega)).mono ?_
    rintro e w5 ⟨rfl, hs1⟩
    have C1 := C.step hs1
    have O1 := O.step hs1
    have V1 := V.step hs1
    have fC1 := C1.b.two
    have fO1 := O1.b.two
    have fV1 := V1.b.two
    clear hs1 fC fO fV
    go_wp2_with fail
    refine (sameC_same F2 F3 nf2 cf2 nf3 cf3 A2 A3 n2 c2 n3 c3 R2 R3 (giveC cx s) _ O1.x V1.x (by omega) (by omega) (by omega)).mono ?_
    rintro e w6 ⟨rfl, hs2⟩
    have C2 := C1.step hs2
    have O2 := O1.step hs2
    have V2 := V1.step hs2
    have fC2 := C2.b.two
    have fO2 := O2.b.two
    have fV2 := V2.b.two
    clear hs2 fC1 fO1 fV1
    go_wp2_with fail
    go_ret
    exact ⟨rfl, C2.bl⟩
  go_wp2_with fail
  refine (sameC_same F2 F3 nf2 cf2 nf3 cf3 A2 A3 n2 c2 n3 c3 R2 R3 (giveC cx s) _ O.x V.x (by omega) (by omega) (by omega)).mono ?_
  rintro e w5 ⟨rfl, hs1⟩
  have C1 := C.step hs1
  have O1 := O.step hs1
  have V1 := V.step hs1
  have fC1 := C1.b.two
  have fO1 := O1.b.two
  have fV1 := V1.b.two
  clear hs1 fC fO fV
  have HG := Lib.hid (give_yes hB)
  obtain ⟨S, hS⟩ := Int.eq_ofNat_of_zero_le HG.out.s0
  subst hS
  have hn12 : n1 = n2 := by have h1 := C1.x.h.l; have h2 := O1.x.h.l; have h3 := (give_len HG.out).1; rw [← HG.out.e] at h3; omega
  subst hn12
  have HF5 := Lib.hid (show nf = 5 by have h1 := C1.x.f.len; have h2 := HG.out.cv.f; omega)
  have HF52 := Lib.hid (show nf2 = 5 by have h1 := O1.x.f.len; have h3 := (give_len HG.out).2; rw [← HG.out.e] at h3; omega)
  have hS1 : S < n1 := by have h1 := C1.x.h.l; have h2 := HG.out.sl; rw [Int.toNat_natCast] at h2; omega
  have HNL := Lib.hid C1.x.h.l
  obtain ⟨ad, A9, n9, c9, v9, xs, rfl, hbb, hc0, hc1, hc2, hc3, hi, hn9, hk1, hs1, hR1⟩ := C1.x.h.el hS1
  have HT := Lib.hid (hAt_of hk1.out)
  have HXS := Lib.hid (show hasS cx (S : Int) = xs by unfold hasS; rw [Int.toNat_natCast, HT.out])
  have HHv := Lib.hid (show Hv cx.free ⟨xs, v9⟩ from HG.out.cv.h _ (List.mem_of_getElem? hk1.out))
  have HXL := Lib.hid hi.len
  have hn95 : n9 ≤ 5 := by have h1 := hv_len HHv.out; have h2 := HXL.out; simp only at h1; omega
  have gS : (S : Int) < (n1 : Int) := by omega
  obtain ⟨gA2, hgA2⟩ : ∃ gA2, A2 = some gA2 := by obtain ⟨ad2, h, _⟩ := O1.x.h.o.2 (show 0 < n1 by omega); exact ⟨ad2, h⟩
  subst hgA2
  obtain ⟨adF, rfl, -, -⟩ := C1.x.f.at_ (k := 0) (by have := HF5.out; omega)
  obtain ⟨adO, rfl, -, -⟩ := O1.x.f.at_ (k := 0) (by have := HF52.out; omega)
  have oL : Own (w5.alloc (.cells #[] 3)) w5.heap.size (some ⟨w5.heap.size, 0, none⟩) 0 0 [] := Own.lit0 rfl (Nat.le_refl _)
  have bL : Below w5.heap.size w5 (w5.alloc (.cells #[] 3)) := (Below.refl _ _).alloc (Nat.le_refl _) _
  have zL := C1.bl.size
  have hnw : IntKind.i64.wrap ((n1 : Int) - 1) = (n1 : Int) - 1 := IntWalk.i64_in _ (by omega)
  have lC := C1.b.lt
  have lO := O1.b.lt
  clear hB V1 V C O fV1
  go_wp2_with fail
  clear fC1 fO1 hc0 hc1 hc2 hc3
  go_loopw [10, 11] (fun sv_ i wr => ∃ (k : Nat) (A3 : Option Addr) (n3 c3 : Nat) (sv : List Int), k ≤ n9 ∧ i = .int .i64 k ∧ sv_ = .slice A3 n3 c3 ∧ n3 ≤ k ∧ Below w5.heap.size w5 wr ∧ Own wr w5.heap.size A3 n3 c3 sv ∧ Hid (∀ g ∈ xs.take k, ∀ m, firstW cx.holds g = some m → (m : Int) ∈ sv)) (fun _ i _ => n9 - (intOf i).toNat)
  case atStart => exact ⟨0, _, 0, 0, _, Nat.zero_le _, rfl, rfl, Nat.le_refl _, bL, oL, Lib.hid (by simp)⟩
  case round =>
    clear oL bL
    obtain ⟨k, A3, n3, c3, sv, hk, rfl, rfl, hn3, hbw, o, HSV⟩ := hrel
    have zz := hbw.size
    have fC := (C1.b.below hbw lC).two
    by_cases hlt : k < n9
    · obtain ⟨adx, x, rfl, hbx, hcx, hkx, hsx⟩ := (hi.below hbw).elem hlt
      have hxr := HHv.out.m x (List.mem_of_getElem? hkx.out)
      obtain ⟨X, hX⟩ := Int.eq_ofNat_of_zero_le hxr.1
      subst hX
      have hX5 : X < 5 := by omega
      have gk : (k : Int) < (n9 : Int) := by omega
      have HXM := Lib.hid (show (X : Int) ∈ hasS cx (S : Int) by rw [HXS.out]; exact List.mem_of_getElem? hkx.out)
      clear hxr
      go_wp2_with fail
      go_loopw [12, 13] (fun f_ i wz => ∃ (j : Nat) (i' f : Int), j ≤ n1 ∧ i = .int .i64 i' ∧ i' + 1 = (j : Int) ∧ f_ = .int .i64 f ∧ Below w5.heap.size w5 wz ∧ Own wz w5.heap.size A3 n3 c3 sv ∧
        Hid ((f = -1 ∧ ∀ m, j ≤ m → m < n1 → (hAt cx.holds m).wait ≠ (X : Int)) ∨ (∃ m : Nat, f = (m : Int) ∧ j ≤ m ∧ m < n1 ∧ (hAt cx.holds m).wait = (X : Int) ∧ ∀ q, j ≤ q → q < m → (hAt cx.holds q).wait ≠ (X : Int)))) (fun _ i _ => (intOf i + 1).toNat)
      case atStart => exact ⟨n1, (n1 : Int) - 1, -1, Nat.le_refl _, rfl, by omega, rfl, hbw, o, Lib.hid (.inl ⟨rfl, fun m h1 h2 => by omega⟩)⟩
      case round =>
        clear hbw o fC hcx zz
        obtain ⟨j, i', f, hj, rfl, hij, rfl, hbw, o, HFW⟩ := hrel
        have zz := hbw.size
        have fC := (C1.b.below hbw lC).two
        have fO := (O1.b.below hbw lO).two
        obtain ⟨adx', x', hA', -, hcx, hkx', -⟩ := (hi.below hbw).elem (k := k) hlt
        injection hA' with hA'
        subst hA'
        obtain rfl : x' = (X : Int) := by have := hkx'.out; rw [hkx.out] at this; injection this with this; exact this.symm
        obtain _ | j := j
        · have hi1 : i' = -1 := by omega
          subst hi1
          clear hij
          by_cases hf : f = -1
          · subst hf
            have HFN := Lib.hid (show firstW cx.holds (X : Int) = none from firstW_none.2 fun q hq => by
              rcases HFW.out with ⟨_, h⟩ | ⟨m, h, _⟩
              · exact h q (Nat.zero_le _) (by rw [← HNL.out]; exact hq)
              · omega)
            obtain ⟨adF', hF', -, hcF⟩ := (C1.x.f.below hbw).at_ (k := X) (by have := HF5.out; omega)
            injection hF' with hF'
            subst hF'
            obtain ⟨adO', hO', -, hcO⟩ := (O1.x.f.below hbw).at_ (k := X) (by have := HF52.out; omega)
            injection hO' with hO'
            subst hO'
            have hgf := give_free HG.out hX5
            rw [← HG.out.e, hasB_iff.2 HXM.out, HFN.out] at hgf
            simp only [Option.isNone_none, Bool.and_self, if_true] at hgf
            rw [hgf] at hcO
            have hfr := HG.out.cv.fr X hX5
            have gX1 : (X : Int) < (nf : Int) := by have := HF5.out; omega
            have gX2 : (X : Int) < (nf2 : Int) := by have := HF52.out; omega
            have hvw : IntKind.i64.wrap (cx.free.getD X 0 + 1) = cx.free.getD X 0 + 1 := IntWalk.i64_in _ (by omega)
            have HSV2 := Lib.hid (show ∀ g ∈ xs.take (k + 1), ∀ m, firstW cx.holds g = some m → (m : Int) ∈ sv by
              intro g hg m hm
              rw [hsx.out, List.mem_append] at hg
              rcases hg with hg | hg
              · exact HSV.out g hg m hm
              · simp only [List.mem_singleton] at hg
                subst hg
                rw [HFN.out] at hm; cases hm)
            clear hgf hfr
            generalize cx.free.getD X 0 = vX at hcF hcO hvw
            have hvv : (vX + 1 != vX + 1) = false := by simp
            go_wp2_with fail
            go_quiet (fail)
            have hb2 : Below w5.heap.size w5 (wr.drewN nq) := below_drewN hbw _
            go_wp2_with fail
            go_roundw
            case rel => exact ⟨k + 1, A3, n3, c3, sv, by omega, by go_num, rfl, by omega, hb2, o, HSV2⟩
            case measure => first | (simp [intOf]; done) | (simp [intOf]; omega)
          · obtain ⟨m, hm0, hm1, hmw, hmf⟩ : ∃ m : Nat, f = (m : Int) ∧ m < n1 ∧ (hAt cx.holds m).wait = (X : Int) ∧ ∀ q, q < m → (hAt cx.holds q).wait ≠ (X : Int) := by
              rcases HFW.out with ⟨h, _⟩ | ⟨m, h, _, h2, h3, h4⟩
              · exact absurd h hf
              · exact ⟨m, h, h2, h3, fun q hq => h4 q (Nat.zero_le _) hq⟩
            subst hm0
            have HFS := Lib.hid (show firstW cx.holds (X : Int) = some m from firstW_mk (by rw [HNL.out]; exact hm1) hmw hmf)
            have HSE := Lib.hid (give_served HG.out HXM.out HFS.out)
            have gm : (m : Int) < (n1 : Int) := by omega
            have gm0 : (0 : Int) ≤ (m : Int) := by omega
            have hmg : decide ((0 : Int) ≤ (m : Int)) = true := decide_eq_true gm0
            clear hmw hmf hf HFW
            go_wp2_with (at_builtin; refine app1 rfl _ _ rfl w5.heap.size rfl (o.alloc _) _ _ _ _ [_] rfl (Ints.one' _ (by first | omega | (simp; done) | (simp; omega))) (by omega) (by simp; omega) ?_; intro A4 c4 w4' o4 hg4 at4; have hb4 : Below w5.heap.size w5 w4' := Below.grown (hbw.alloc zz _) hg4 (by simp; omega) (fun j hj => (o.lt hj).1))
            clear fC fO hcx o hg4 at4 hbw
            have fO := (O1.b.below hb4 lO).two
            obtain ⟨adx', x', hA', -, hcx, hkx', -⟩ := (hi.below hb4).elem (k := k) hlt
            injection hA' with hA'
            subst hA'
            obtain rfl : x' = (X : Int) := by have := hkx'.out; rw [hkx.out] at this; injection this with this; exact this.symm
            obtain ⟨ad2, A7, n7, c7, v7, xs7, hA7, hbb7, hd0, hd1, hd2, hd3, hi7, hn7, hk7, hs7, hR7⟩ := (O1.x.h.below hb4).el hm1
            injection hA7 with hA7
            subst hA7
            have HT7 := hAt_of hk7.out
            rw [HG.out.e, HSE.out.2.2] at HT7
            injection HT7 with e1 e2
            subst e2
            have HHX := Lib.hid (show hasB xs7 (X : Int) = true by
              rw [← e1, hasB_iff, mem_wi (HG.out.cv.at_ HSE.out.2.1).m (by omega) (by omega)]; exact .inl rfl)
            have HSV2 := Lib.hid (show ∀ g ∈ xs.take (k + 1), ∀ q, firstW cx.holds g = some q → (q : Int) ∈ sv ++ [(m : Int)] by
              intro g hg q hq
              rw [hsx.out, List.mem_append] at hg
              rcases hg with hg | hg
              · exact List.mem_append_left _ (HSV.out g hg q hq)
              · simp only [List.mem_singleton] at hg
                subst hg
                rw [HFS.out] at hq
                injection hq with hq
                subst hq
                simp)
            clear e1
            have hvv : ((-1 : Int) != -1) = false := by simp
            have hH7 := fun W (h : Ints W w5.heap.size A7 n7 xs7) => hasInt_any A7 n7 c7 w5.heap.size xs7 (X : Int) W h hn7
            rw [HHX.out] at hH7
            go_quiet ((go_at_call 16; exact Calls.quiet_of_same ((hH7 _ (hi7.drewN _)).mono fun e w' h => ⟨h.1, h.2.symm⟩)))
            have hb2 : Below w5.heap.size w5 (w4'.drewN nq) := below_drewN hb4 _
            go_wp2_with fail
            go_roundw
            case rel => exact ⟨k + 1, A4, n3 + 1, c4, _, by omega, by go_num, rfl, by omega, hb2, o4, HSV2⟩
            case measure => first | (simp [intOf]; done) | (simp [intOf]; omega)
        · obtain rfl : i' = (j : Int) := by omega
          obtain ⟨ad', A7, n7, c7, v7, xs7, hA7, hbb7, hd0, hd1, hd2, hd3, hi7, hn7, hk7, hs7, hR7⟩ := (C1.x.h.below hbw).el (k := j) (by omega)
          injection hA7 with hA7
          subst hA7
          have HT7 := Lib.hid (hAt_of hk7.out)
          have gj : (j : Int) < (n1 : Int) := by omega
          have hw2 : IntKind.i64.wrap ((j : Int) - 1) = (j : Int) - 1 := IntWalk.i64_in _ (by omega)
          by_cases hv : v7 = (X : Int)
          · have hv' : (v7 == (X : Int)) = true := by simp [hv]
            have HF2 := Lib.hid (show ((j : Int) = -1 ∧ ∀ m, j ≤ m → m < n1 → (hAt cx.holds m).wait ≠ (X : Int)) ∨ (∃ m : Nat, (j : Int) = (m : Int) ∧ j ≤ m ∧ m < n1 ∧ (hAt cx.holds m).wait = (X : Int) ∧ ∀ q, j ≤ q → q < m → (hAt cx.holds q).wait ≠ (X : Int)) from .inr ⟨j, rfl, Nat.le_refl _, by omega, by rw [HT7.out]; exact hv, fun q h1 h2 => by omega⟩)
            clear hv
            go_wp2_with fail
            go_quiet (fail)
            have hb2 : Below w5.heap.size w5 (wr.drewN nq) := below_drewN hbw _
            go_wp2_with fail
            go_roundw
            case rel => exact ⟨j, (j : Int) - 1, (j : Int), by omega, rfl, by omega, rfl, hb2, o, HF2⟩
            case measure => first | (simp [intOf]; done) | (simp [intOf]; omega)
          · have hv' : (v7 == (X : Int)) = false := by simp [hv]
            have HF2 := Lib.hid (show (f = -1 ∧ ∀ m, j ≤ m → m < n1 → (hAt cx.holds m).wait ≠ (X : Int)) ∨ (∃ m : Nat, f = (m : Int) ∧ j ≤ m ∧ m < n1 ∧ (hAt cx.holds m).wait = (X : Int) ∧ ∀ q, j ≤ q → q < m → (hAt cx.holds q).wait ≠ (X : Int)) by
              have key : ∀ q, j ≤ q → (j + 1 ≤ q → (hAt cx.holds q).wait ≠ (X : Int)) → (hAt cx.holds q).wait ≠ (X : Int) := fun q h1 h2 => by
                rcases Nat.eq_or_lt_of_le h1 with rfl | e
                · rw [HT7.out]; exact hv
                · exact h2 e
              rcases HFW.out with ⟨h1, h2⟩ | ⟨m, h1, h2, h3, h4, h5⟩
              · exact .inl ⟨h1, fun m h3 h4 => key m h3 (fun e => h2 m e h4)⟩
              · exact .inr ⟨m, h1, by omega, h3, h4, fun q h6 h7 => key q h6 (fun e => h5 q e h7)⟩)
            clear hv
            go_wp2_with fail
            go_quiet (fail)
            have hb2 : Below w5.heap.size w5 (wr.drewN nq) := below_drewN hbw _
            go_wp2_with fail
            go_roundw
            case rel => exact ⟨j, (j : Int) - 1, f, by omega, rfl, by omega, rfl, hb2, o, HF2⟩
            case measure => first | (simp [intOf]; done) | (simp [intOf]; omega)
    · obtain rfl : n9 = k := by omega
      have HSW := Lib.hid (show ∀ g ∈ hasS cx (S : Int), ∀ m, firstW cx.holds g = some m → (m : Int) ∈ sv by
        rw [HXS.out]
        have h1 := HSV.out
        rw [List.take_of_length_le (by rw [HXL.out]; exact Nat.le_refl _)] at h1
        exact h1)
      have hgS := give_giver HG.out
      rw [Int.toNat_natCast, ← HG.out.e] at hgS
      have HGS := Lib.hid hgS
      clear hgS HSV fC
      go_wp2_with fail
      go_loopw [14] (fun i wz => ∃ q : Nat, q ≤ n1 ∧ i = .int .i64 q ∧ Below w5.heap.size w5 wz ∧ Own wz w5.heap.size A3 n3 c3 sv) (fun i _ => n1 - (intOf i).toNat)
      case atStart => exact ⟨0, Nat.zero_le _, rfl, hbw, o⟩
      case round =>
        clear hbw o zz
        obtain ⟨q, hq, rfl, hbw, o⟩ := hrel
        have zz := hbw.size
        have fC := (C1.b.below hbw lC).two
        have fO := (O1.b.below hbw lO).two
        by_cases hltq : q < n1
        · have gq : (q : Int) < (n1 : Int) := by omega
          by_cases hqS : q = S
          · have hqs : ((q : Int) != (S : Int)) = false := by simp [hqS]
            clear hqS
            go_wp2_with fail
            go_quiet (fail)
            have hb2 : Below w5.heap.size w5 (wr.drewN nq) := below_drewN hbw _
            go_wp2_with fail
            go_roundw
            case rel => exact ⟨q + 1, by omega, by go_num, hb2, o⟩
            case measure => first | (simp [intOf]; done) | (simp [intOf]; omega)
          · have hqs : ((q : Int) != (S : Int)) = true := by simp; omega
            have HQS := Lib.hid hqS
            clear hqS
            have ho3 := o.ints
            have hHs := fun W (h : Ints W wr.heap.size A3 n3 sv) => hasInt_any A3 n3 c3 wr.heap.size sv (q : Int) W h (by omega)
            cases hhs : hasB sv (q : Int)
            case true =>
              rw [hhs] at hHs
              clear hhs
              go_wp2_with fail
              go_quiet ((go_at_call 16; exact Calls.quiet_of_same ((hHs _ (ho3.drewN _)).mono fun e w' h => ⟨h.1, h.2.symm⟩)))
              have hb2 : Below w5.heap.size w5 (wr.drewN nq) := below_drewN hbw _
              go_wp2_with fail
              go_roundw
              case rel => exact ⟨q + 1, by omega, by go_num, hb2, o⟩
              case measure => first | (simp [intOf]; done) | (simp [intOf]; omega)
            rw [hhs] at hHs
            have HOT := Lib.hid (show hAt (giveC cx (S : Int)).holds q = hAt cx.holds q by
              rw [HG.out.e]
              exact give_other HG.out (by rw [HNL.out]; exact hltq) (by rw [Int.toNat_natCast]; exact HQS.out) (fun g hg hf => hasB_no.1 hhs (HSW.out g hg q hf)))
            clear hhs
            obtain ⟨ad7, A7, n7, c7, v7, xs7, hA7, hbb7, hd0, hd1, hd2, hd3, hi7, hn7, hk7, hs7, hR7⟩ := (C1.x.h.below hbw).el hltq
            injection hA7 with hA7
            subst hA7
            obtain ⟨ad8, A8, n8, c8, v8, xs8, hA8, hbb8, he0, he1, he2, he3, hi8, hn8, hk8, hs8, hR8⟩ := (O1.x.h.below hbw).el hltq
            injection hA8 with hA8
            subst hA8
            obtain ⟨rfl, rfl⟩ : xs8 = xs7 ∧ v8 = v7 := by
              have h1 := hAt_of hk8.out
              rw [HOT.out, hAt_of hk7.out] at h1
              injection h1 with h1 h2
              exact ⟨h1.symm, h2.symm⟩
            have hvv : (v8 != v8) = false := by simp
            have hSs := fun W (h1 : Ints W w5.heap.size A8 n8 xs8) (h2 : Ints W w5.heap.size A7 n7 xs8) => (sameInts_any A8 A7 n8 c8 n7 c7 w5.heap.size xs8 xs8 W h1 h2 hn8 hn7)
            go_wp2_with fail
            go_quiet (first
              | (go_at_call 16; exact Calls.quiet_of_same ((hHs _ (ho3.drewN _)).mono fun e w' h => ⟨h.1, h.2.symm⟩))
              | (go_at_call 29; exact Calls.quiet_of ((hSs _ (hi8.drewN _) (hi7.drewN _)).mono fun e w' h => by obtain ⟨h1, d, h2⟩ := h; exact ⟨by simpa using h1, d, h2⟩)))
            have hb2 : Below w5.heap.size w5 (wr.drewN nq) := below_drewN hbw _
            go_wp2_with fail
            go_roundw
            case rel => exact ⟨q + 1, by omega, by go_num, hb2, o⟩
            case measure => first | (simp [intOf]; done) | (simp [intOf]; omega)
        · obtain rfl : n1 = q := by omega
          obtain ⟨ad8, A8, n8, c8, v8, xs8, hA8, hbb8, he0, he1, he2, he3, hi8, hn8, hk8, hs8, hR8⟩ := (O1.x.h.below hbw).el hS1
          injection hA8 with hA8
          subst hA8
          have h1 := hAt_of hk8.out
          rw [HGS.out] at h1
          injection h1 with h1 h2
          have hz8 : n8 = 0 := by have h3 := hi8.len; rw [← h1] at h3; simpa using h3.symm
          subst hz8
          go_wp2_with fail
          go_ret
          exact ⟨rfl, C1.bl.trans (hbw.mono zL)⟩
end Go.Proofs.Ytehgipbedlamaaa
