/-
  CreditsGive, the reference's.
-/
import Derived.Test.YtehgipbedlamaaaHF
namespace Go.Proofs.Ytehgipbedlamaaa
open Go.RowKit
set_option linter.unusedVariables false

/-- The credits while the first waiter for the k-th group is sought. -/
def GiSt (c : CX) (s : Int) (k X j : Nat) (cy : CX) : Prop :=
  (cy = ⟨(gK c s k).free.set X ((gK c s k).free.getD X 0 + 1), (gK c s k).holds⟩ ∧ ∀ i, i < j → (hAt (gK c s k).holds i).wait ≠ (X : Int)) ∨ (cy = gK c s (k + 1) ∧ cy.free.getD X 0 = 0)
theorem GiSt.flen {c : CX} {s : Int} {k X j : Nat} {cy : CX} (h : GiSt c s k X j cy) : cy.free.length = 5 := by
  rcases h with ⟨rfl, _⟩ | ⟨rfl, _⟩
  · simp [gK_flen]
  · exact gK_flen _ _ _
theorem GiSt.bound {c : CX} {s : Int} {k X j : Nat} {cy : CX} (h : GiSt c s k X j cy) (hc : Cv c) (hs : s.toNat < c.holds.length) (hk : (hasS c s)[k]? = some (X : Int)) : 0 ≤ cy.free.getD X 0 ∧ cy.free.getD X 0 ≤ 10 := by
  have hcu := gK_cur hc hs hk
  have hX := (gK_new hc hs hk).1
  rw [Int.toNat_natCast] at hcu
  have hfr := hc.fr X (by omega)
  rcases h with ⟨rfl, _⟩ | ⟨rfl, h⟩
  · simp only
    rw [getD_set5 (by rw [gK_flen]; omega), if_pos rfl]; omega
  · omega
theorem gi_take {c : CX} {s : Int} {k X m : Nat} (h : Cv c) (hs : s.toNat < c.holds.length) (hk : (hasS c s)[k]? = some (X : Int)) (hm : m < (gK c s k).holds.length) (hw : (hAt (gK c s k).holds m).wait = (X : Int)) (hn : ∀ i, i < m → (hAt (gK c s k).holds i).wait ≠ (X : Int)) :
    (⟨((gK c s k).free.set X ((gK c s k).free.getD X 0 + 1)).set X (((gK c s k).free.set X ((gK c s k).free.getD X 0 + 1)).getD X 0 - 1), (gK c s k).holds.set m ⟨wiL (hAt (gK c s k).holds m).has (X : Int), -1⟩⟩ : CX) = gK c s (k + 1) ∧ (gK c s (k + 1)).free.getD X 0 = 0 := by
  have hf := firstW_mk hm hw hn
  have h0 := gK_first h hs hk hf
  have hcu := gK_cur h hs hk
  rw [Int.toNat_natCast] at h0 hcu
  have hX := (gK_new h hs hk).1
  have hl : X < (gK c s k).free.length := by rw [gK_flen]; omega
  have e : (gK c s k).free.getD X 0 = 0 := by omega
  rw [← gK_succ h hs hk, giveStep_some hf]
  refine ⟨?_, e⟩
  rw [List.set_set, getD_set5 hl, if_pos rfl, e, show (0 : Int) + 1 - 1 = 0 by omega, set_same]
  rw [List.getElem?_eq_getElem hl]
  rw [List.getD_eq_getElem?_getD, List.getElem?_eq_getElem hl] at e
  simpa using e
theorem GiSt.done {c : CX} {s : Int} {k X j : Nat} {cy : CX} (h : GiSt c s k X j cy) (hc : Cv c) (hs : s.toNat < c.holds.length) (hk : (hasS c s)[k]? = some (X : Int)) (hj : c.holds.length ≤ j ∨ cy.free.getD X 0 ≤ 0) : cy = gK c s (k + 1) := by
  have hX := (gK_new hc hs hk).1
  rcases h with ⟨rfl, h⟩ | ⟨rfl, _⟩
  · rcases hj with hj | hj
    · have hn : firstW (gK c s k).holds (X : Int) = none := firstW_none.2 fun i hi => h i (by rw [gK_hlen] at hi; omega)
      rw [← gK_succ hc hs hk, giveStep_none hn, Int.toNat_natCast]
    · have hcu := gK_cur hc hs hk
      rw [Int.toNat_natCast] at hcu
      have hfr := hc.fr X (by omega)
      simp only at hj
      rw [getD_set5 (by rw [gK_flen]; omega), if_pos rfl] at hj
      omega
  · rfl
set_option maxRecDepth 100000 in
set_option maxHeartbeats 8000000 in
theorem specGive_any (F : Option Addr) (nf cf : Nat) (A : Option Addr) (n c : Nat) (R : List HR) (cx : CX) (s : Int) (w : World) (hc : Cr w w.heap.size F nf A n R cx) (hnf : nf ≤ 1048576) (hn : n ≤ 1048576) :
    Calls Try.prog 13 #[.agg #[.slice F nf cf, .slice A n c], .int .i64 s] w (RetCB (giveC cx s) (giveB cx s) w) := by
  generalize hW : (w.alloc (.cells #[.slice F nf cf, .slice A n c] 26)).alloc (.cells #[.slice none 0 0, .slice none 0 0] 26) = W
  obtain ⟨b0, b1, X0, B0, z0⟩ := askHead hc hW
  have f0 := b0.two
  have l0 := b0.lt
  have l1 := b1.lt
  have hnl := Lib.hid hc.h.l
  cases hv : cvB cx
  · have HN := Lib.hid (give_no (c := cx) (s := s) (by simp [giveOk, hv]))
    go_enter Try.func13, Try.ntmps13
    go_wp2_with fail
    refine (specCV_any F nf cf A n c R cx W X0 hnf hn).mono ?_
    rintro e w1 ⟨rfl, hb1⟩
    have r1 := b1.below hb1 l1
    have f1 := (b0.below hb1 l0).two
    have g1 := r1.two
    rw [hv]
    go_wp2_with fail
    exact bodyPost_ret (v := .tuple #[.agg #[.slice none 0 0, .slice none 0 0], .bool false]) (by simp [results, Try.results13, go_sem, g1]) rfl (RetCB.zero (by repeat' (first | with_reducible exact Below.refl _ _ | with_reducible assumption | with_reducible refine Below.setCell ?_ (by first | omega | (simp; done) | (simp; omega)) _ | with_reducible refine Below.alloc ?_ (by first | omega | (simp; done) | (simp; omega)) _ | with_reducible refine below_drewN ?_ _ | with_reducible refine Below.drew ?_ | (with_reducible refine Below.trans ?_ (Below.mono (by with_reducible assumption) (by first | omega | (simp; done) | (simp; omega)))))) HN.out.1 HN.out.2)
  have HV := Lib.hid hv
  cases hs : inB s 0 ((n : Int) - 1)
  · have HN := Lib.hid (give_no (c := cx) (s := s) (by simp [giveOk, hnl.out, hs]))
    have HS := Lib.hid hs
    clear hs
    go_enter Try.func13, Try.ntmps13
    go_wp2_with fail
    refine (specCV_any F nf cf A n c R cx W X0 hnf hn).mono ?_
    rintro e w1 ⟨rfl, hb1⟩
    have r1 := b1.below hb1 l1
    have f1 := (b0.below hb1 l0).two
    rw [hv]
    clear hv
    have g1 := r1.two
    have hw : IntKind.i64.wrap ((n : Int) - 1) = (n : Int) - 1 := IntWalk.i64_in _ (by omega)
    go_wp2_with (go_at_call 38; refine (l6In_any _ _ _ _).mono ?_; rintro e w' ⟨rfl, rfl⟩; rw [HS.out])
    exact bodyPost_ret (v := .tuple #[.agg #[.slice none 0 0, .slice none 0 0], .bool false]) (by simp [results, Try.results13, go_sem, g1]) rfl (RetCB.zero (by repeat' (first | with_reducible exact Below.refl _ _ | with_reducible assumption | with_reducible refine Below.setCell ?_ (by first | omega | (simp; done) | (simp; omega)) _ | with_reducible refine Below.alloc ?_ (by first | omega | (simp; done) | (simp; omega)) _ | with_reducible refine below_drewN ?_ _ | with_reducible refine Below.drew ?_ | (with_reducible refine Below.trans ?_ (Below.mono (by with_reducible assumption) (by first | omega | (simp; done) | (simp; omega)))))) HN.out.1 HN.out.2)
  have HS := Lib.hid hs
  have HO := Lib.hid (show giveOk cx s = true by simp [giveOk, hv, hnl.out, hs])
  have HC := Lib.hid (cv_iff.1 hv)
  obtain ⟨S, rfl⟩ : ∃ S : Nat, s = (S : Int) := ⟨s.toNat, by have : 0 ≤ s ∧ s ≤ (n : Int) - 1 := by simpa [inB] using hs
                                                             omega⟩
  have hS : S < n := by have : (0 : Int) ≤ (S : Int) ∧ (S : Int) ≤ (n : Int) - 1 := by simpa [inB] using hs
                        omega
  clear hs
  go_enter Try.func13, Try.ntmps13
  go_wp2_with fail
  refine (specCV_any F nf cf A n c R cx W X0 hnf hn).mono ?_
  rintro e w1 ⟨rfl, hb1⟩
  have p1 := b0.below hb1 l0
  have X1 := X0.up hb1 hb1.size
  have s1 := hb1.size
  have f1 := p1.two
  rw [hv]
  clear hv hW f0
  have hw : IntKind.i64.wrap ((n : Int) - 1) = (n : Int) - 1 := IntWalk.i64_in _ (by omega)
  go_wp2_with (go_at_call 38; refine (l6In_any _ _ _ _).mono ?_; rintro e w' ⟨rfl, rfl⟩; rw [HS.out])
  refine (l22Copy_any F nf cf A n c R cx w1 X1 hnf hn).mono ?_
  rintro e w3 ⟨F3, n5, cf3, A3, n3, c3, R3, rfl, o3, hb3⟩
  have s3 := hb3.size
  obtain rfl : n5 = 5 := by have := o3.f.len; have := HC.out.f; omega
  obtain rfl : n3 = n := by have h1 := o3.l; have h2 := hnl.out; omega
  obtain ⟨gF, rfl, hF1, hF2⟩ := o3.f.form (by omega)
  obtain ⟨gA, rfl, hA1, hA2⟩ := o3.form (by omega)
  have u4 := Blk.new w3 26 #[.slice (some ⟨gF, 0, none⟩) 5 cf3, .slice (some ⟨gA, 0, none⟩) n3 c3]
  have o4 := o3.alloc (.cells #[.slice (some ⟨gF, 0, none⟩) 5 cf3, .slice (some ⟨gA, 0, none⟩) n3 c3] 26)
  have B4 : Below W.heap.size W (w3.alloc (.cells #[.slice (some ⟨gF, 0, none⟩) 5 cf3, .slice (some ⟨gA, 0, none⟩) n3 c3] 26)) := (hb1.trans (hb3.mono (by omega))).alloc (by omega) _
  have z4 : w3.heap.size < (w3.alloc (.cells #[.slice (some ⟨gF, 0, none⟩) 5 cf3, .slice (some ⟨gA, 0, none⟩) n3 c3] 26)).heap.size := by simp
  clear f1 o3 hb3 p1 X1
  go_upto_region 4 with (fail)
  generalize w3.alloc (.cells #[.slice (some ⟨gF, 0, none⟩) 5 cf3, .slice (some ⟨gA, 0, none⟩) n3 c3] 26) = w4 at u4 o4 B4 z4 ⊢
  have p4 := b0.below B4 l0
  have r4 := b1.below B4 l1
  have X4 := hc.below (B0.trans (B4.mono (by omega)))
  have HB4 : Below w.heap.size w w4 := B0.trans (B4.mono (by omega))
  obtain ⟨ad, A1, n1, c1, v, xs, rfl, hbb, hc0, hc1, hc2, hc3, hi, hn1, hk1, hs1, hR1⟩ := X4.h.el hS
  obtain rfl : nf = 5 := by have h1 := X4.f.len; have h2 := HC.out.f; omega
  obtain ⟨adF, rfl, -, -⟩ := X4.f.at_ (k := 0) (by omega)
  have f4 := p4.two
  have fu := u4.two
  have fr := r4.two
  have q4 := ((r4.set_ 0 (.slice (some ⟨gF, 0, none⟩) 5 cf3)).set_ 1 (.slice (some ⟨gA, 0, none⟩) n3 c3)).two
  have HT := Lib.hid (hAt_of hk1.out)
  have HL := Lib.hid hi.len
  have gS1 : (S : Int) < (n3 : Int) := by omega
  have HWt := Lib.hid (wait_neg HC.out hk1.out)
  by_cases hv0 : 0 ≤ v
  · have HE := Lib.hid (give_stop HO.out (by simp only [stopG, Int.toNat_natCast, HT.out]; simp; left; omega))
    have hv1 : (decide (0 ≤ v)) = true := by simpa using hv0
    go_wp2_with fail
    exact bodyPost_ret (v := .tuple #[.agg #[.slice (some ⟨gF, 0, none⟩) 5 cf3, .slice (some ⟨gA, 0, none⟩) n3 c3], .bool false]) (by simp [results, Try.results13, go_sem, q4]) rfl
      (RetCB.mk (OwnC.setBelow (OwnC.setBelow o4 (by first | omega | (simp; done) | (simp; omega)) _) (by first | omega | (simp; done) | (simp; omega)) _) (by repeat' (first | with_reducible exact Below.refl _ _ | with_reducible assumption | with_reducible refine Below.setCell ?_ (by first | omega | (simp; done) | (simp; omega)) _ | with_reducible refine Below.alloc ?_ (by first | omega | (simp; done) | (simp; omega)) _ | with_reducible refine below_drewN ?_ _ | with_reducible refine Below.drew ?_ | (with_reducible refine Below.trans ?_ (Below.mono (by with_reducible assumption) (by first | omega | (simp; done) | (simp; omega)))))) (by omega) HE.out.1 HE.out.2)
  obtain rfl : v = -1 := by have := HWt.out; omega
  by_cases hn0 : n1 = 0
  · have HE := Lib.hid (give_stop HO.out (by simp only [stopG, Int.toNat_natCast, HT.out]; simp; left; exact List.eq_nil_of_length_eq_zero (by rw [HL.out]; exact hn0)))
    subst hn0
    go_wp2_with fail
    exact bodyPost_ret (v := .tuple #[.agg #[.slice (some ⟨gF, 0, none⟩) 5 cf3, .slice (some ⟨gA, 0, none⟩) n3 c3], .bool false]) (by simp [results, Try.results13, go_sem, q4]) rfl
      (RetCB.mk (OwnC.setBelow (OwnC.setBelow o4 (by first | omega | (simp; done) | (simp; omega)) _) (by first | omega | (simp; done) | (simp; omega)) _) (by repeat' (first | with_reducible exact Below.refl _ _ | with_reducible assumption | with_reducible refine Below.setCell ?_ (by first | omega | (simp; done) | (simp; omega)) _ | with_reducible refine Below.alloc ?_ (by first | omega | (simp; done) | (simp; omega)) _ | with_reducible refine below_drewN ?_ _ | with_reducible refine Below.drew ?_ | (with_reducible refine Below.trans ?_ (Below.mono (by with_reducible assumption) (by first | omega | (simp; done) | (simp; omega)))))) (by omega) HE.out.1 HE.out.2)
  have hn2 : ((n1 : Int) == 0) = false := by rw [beq_eq_false_iff_ne]; omega
  have HM := Lib.hid (HC.out.at_ (k := S) (by rw [hnl.out]; exact hS))
  rw [HT.out] at HM
  have lu4 := u4.lt
  go_wp2_with fail
  clear hc0 hc1 hc2 hc3 q4 fr fu f4
  go_loopw [8] (fun i wr => ∃ k : Nat, k ≤ n1 ∧ i = .int .i64 k ∧ Below w4.heap.size w4 wr ∧ ∀ y ∈ xs.take k, cx.free.getD y.toNat 0 ≠ 9) (fun i _ => n1 - (intOf i).toNat)
  case atStart => exact ⟨0, Nat.zero_le _, rfl, Below.refl _ _, by simp⟩
  case round =>
    obtain ⟨k, hk, rfl, hbw, h9⟩ := hrel
    have H9 := Lib.hid h9
    clear h9
    have zz := hbw.size
    have HBw : Below W.heap.size W wr := B4.trans (hbw.mono (by omega))
    have HBx : Below w.heap.size w4 wr := hbw.mono (by omega)
    have f := (b0.below HBw l0).two
    by_cases hlt : k < n1
    · obtain ⟨adx, x, rfl, hbx, hcx, hkx, hsx⟩ := (hi.below HBx).elem hlt
      obtain ⟨X, hX⟩ : ∃ X : Nat, x = (X : Int) := ⟨x.toNat, by have := HM.out.m x (List.mem_of_getElem? hkx.out); omega⟩
      subst hX
      have hX5 : X < 5 := by have := HM.out.m _ (List.mem_of_getElem? hkx.out); omega
      have gX : (X : Int) < 5 := by omega
      have gk : (k : Int) < (n1 : Int) := by omega
      obtain ⟨adF', hF', -, hcF⟩ := (X4.f.below HBx).at_ (k := X) hX5
      injection hF' with hF'
      subst hF'
      have hfr := HC.out.fr X hX5
      have hfr2 := Lib.hid hfr.2
      clear hfr
      by_cases h9 : 9 ≤ cx.free.getD X 0
      · have HE := Lib.hid (give_stop HO.out (by simp only [stopG, Int.toNat_natCast, HT.out, Bool.or_eq_true, List.any_eq_true]; exact .inr (.inr ⟨_, List.mem_of_getElem? hkx.out, by rw [beq_iff_eq, Int.toNat_natCast]; have := hfr2.out; omega⟩)))
        have hd : decide (9 ≤ cx.free.getD X 0) = true := decide_eq_true h9
        clear h9
        generalize cx.free.getD X 0 = vX at hcF hd
        go_wp2_with fail
        go_quiet (fail)
        have hbd : Below w4.heap.size w4 (wr.drewN nq) := below_drewN hbw _
        clear hcx hcF f hbw HBw HBx zz
        generalize wr.drewN nq = wd at hbd ⊢
        have u := u4.below hbd lu4
        have r := r4.below hbd r4.lt
        have o := o4.below hbd
        have HBd : Below w.heap.size w wd := HB4.trans (hbd.mono (by omega))
        have fu := u.two
        have fr := r.two
        have q := ((r.set_ 0 (.slice (some ⟨gF, 0, none⟩) 5 cf3)).set_ 1 (.slice (some ⟨gA, 0, none⟩) n3 c3)).two
        go_wp2_with fail
        exact bodyPost_ret (v := .tuple #[.agg #[.slice (some ⟨gF, 0, none⟩) 5 cf3, .slice (some ⟨gA, 0, none⟩) n3 c3], .bool false]) (by simp [results, Try.results13, go_sem, q]) rfl
          (RetCB.mk (OwnC.setBelow (OwnC.setBelow o (by first | omega | (simp; done) | (simp; omega)) _) (by first | omega | (simp; done) | (simp; omega)) _) ((HBd.setCell (by simp) _).setCell (by simp) _) (by omega) HE.out.1 HE.out.2)
      · have hd : decide (9 ≤ cx.free.getD X 0) = false := decide_eq_false h9
        have H9' := Lib.hid (show cx.free.getD X 0 ≠ 9 by omega)
        clear h9
        generalize hvX : cx.free.getD X 0 = vX at hcF hd H9'
        go_wp2_with fail
        go_quiet (fail)
        have hbd : Below w4.heap.size w4 (wr.drewN nq) := below_drewN hbw _
        go_wp2_with fail
        go_roundw
        case rel => exact ⟨k + 1, by omega, by go_num, hbd, fun y hy => by
          rw [hsx.out, List.mem_append] at hy
          rcases hy with hy | hy
          · exact H9.out y hy
          · simp only [List.mem_singleton] at hy
            subst hy
            rw [Int.toNat_natCast, hvX]; exact H9'.out⟩
        case measure => first | (simp [intOf]; done) | (simp [intOf]; omega)
    · obtain rfl : n1 = k := by omega
      clear hlt hk
      have HE := Lib.hid (give_go HO.out (by
        simp only [stopG, Int.toNat_natCast, HT.out]
        simp only [bne_self_eq_false, Bool.false_or, Bool.or_eq_false_iff, decide_eq_false_iff_not, List.any_eq_false, beq_iff_eq]
        refine ⟨by rw [HL.out]; exact hn0, fun y hy => H9.out y (by rw [List.take_of_length_le (by rw [HL.out]; exact Nat.le_refl _)]; exact hy)⟩))
      have HXS := Lib.hid (show hasS cx (S : Int) = xs by unfold hasS; rw [Int.toNat_natCast, HT.out])
      have hSl : (S : Int).toNat < cx.holds.length := by rw [Int.toNat_natCast, hnl.out]; exact hS
      have HSl := Lib.hid hSl
      have hu := u4.below hbw lu4
      have ho := o4.below hbw
      have hi5 := hi.below HBx
      have uA := hu.alloc (.cells #[] 3)
      have oA := ho.alloc (.cells #[] 3)
      have fu := hu.two
      have fuA := uA.two
      obtain ⟨A5, n5, c5, v5, xs5, o5, hn5, g0, g1, y0, y1, hR5, hk5, hA5⟩ := oA.cells hS
      obtain rfl : v5 = -1 := by have := hk5.out; rw [hk1.out] at this; injection this with this; injection this with h1 h2; exact h2.symm
      have oL : Own (wr.alloc (.cells #[] 3)) wr.heap.size (some ⟨wr.heap.size, 0, none⟩) 0 0 [] := Own.lit0 rfl (Nat.le_refl _)
      obtain ⟨X5, bx5, Bx5⟩ := OwnC.put (v := -1) ho oA hR5.out hk5.out oL (by omega) (by simp)
      have hG0 := gK_zero HC.out (S : Int)
      unfold give0 at hG0
      rw [Int.toNat_natCast, show (hz : HX) = ⟨[], -1⟩ from rfl] at hG0
      rw [← hG0] at X5
      clear hG0 hn2 hSl H9
      have u5 := bx5 _ _ _ (by decide) (by decide) uA
      have fu5 := u5.two
      have B5 := ((hbw.mono (show W.heap.size ≤ _ by omega)).alloc (show W.heap.size ≤ _ by omega) (.cells #[] 3)).trans (Bx5.mono (show W.heap.size ≤ _ by omega))
      have z5 : w3.heap.size < (((wr.alloc (.cells #[] 3)).setCell ⟨gA, S * 2, none⟩ (.slice (some ⟨wr.heap.size, 0, none⟩) 0 0)).setCell ⟨gA, S * 2 + 1, none⟩ (.int .i64 (-1))).heap.size := by simp; omega
      go_wp2_with fail
      go_loopw [9] (fun i wr => ∃ (k : Nat) (R6 : List HR), k ≤ n1 ∧ i = .int .i64 k ∧ Below W.heap.size w4 wr ∧ Blk wr w3.heap.size 26 #[.slice (some ⟨gF, 0, none⟩) 5 cf3, .slice (some ⟨gA, 0, none⟩) n3 c3] ∧ w3.heap.size < wr.heap.size ∧ OwnC wr w1.heap.size (some ⟨gF, 0, none⟩) 5 cf3 (some ⟨gA, 0, none⟩) n3 c3 R6 (gK cx (S : Int) k)) (fun i _ => n1 - (intOf i).toNat)
      case atStart => exact ⟨0, _, Nat.zero_le _, rfl, B5, u5, z5, X5⟩
      case round =>
        clear X5 u5 fu5 B5 z5 g0 g1 y0 y1 o4 u4 fu f uA oA fuA hu ho hi5 oL o5 HBw HBx hbw zz Bx5 bx5 lu4
        obtain ⟨k, R6, hk, rfl, hbw, u, zu, o⟩ := hrel
        have zz := hbw.size
        have fu := u.two
        by_cases hlt : k < n1
        · obtain ⟨adx, x, rfl, hbx, hcx, hkx, hsx⟩ := (hi.below (hbw.mono (by omega))).elem hlt
          have HK := Lib.hid (show (hasS cx (S : Int))[k]? = some x by rw [HXS.out]; exact hkx.out)
          obtain ⟨X, hX⟩ : ∃ X : Nat, x = (X : Int) := ⟨x.toNat, by have := (gK_new HC.out HSl.out HK.out).1; omega⟩
          subst hX
          have hX5 : X < 5 := by have := (gK_new HC.out HSl.out HK.out).1; omega
          have gX : (X : Int) < 5 := by omega
          have hcu := gK_cur HC.out HSl.out HK.out
          rw [Int.toNat_natCast] at hcu
          have hfr := HC.out.fr X hX5
          have gk : (k : Int) < (n1 : Int) := by omega
          have hF7 := o.f.cellAt (k := X) hX5
          have o8 := OwnC.drew (o.setFree X ((gK cx (S : Int) k).free.getD X 0 + 1))
          have bx8 := Boxes.trans (Boxes.row (i := X) o.f (.int .i64 ((gK cx (S : Int) k).free.getD X 0 + 1)) (.inl rfl)) (Boxes.below ((Below.refl _ _).drew))
          have B8 := (hbw.setCell (p := ⟨gF, X, none⟩) (show W.heap.size ≤ gF by omega) (.int .i64 ((gK cx (S : Int) k).free.getD X 0 + 1))).drew
          have z8 : w3.heap.size < (wr.setCell ⟨gF, X, none⟩ (.int .i64 ((gK cx (S : Int) k).free.getD X 0 + 1))).drew.heap.size := by simp; omega
          have HG := Lib.hid (show GiSt cx (S : Int) k X 0 ⟨(gK cx (S : Int) k).free.set X ((gK cx (S : Int) k).free.getD X 0 + 1), (gK cx (S : Int) k).holds⟩ from .inl ⟨rfl, fun i hi => by omega⟩)
          have u8 := bx8 _ _ _ (by decide) (by decide) u
          have hvw : IntKind.i64.wrap ((gK cx (S : Int) k).free.getD X 0 + 1) = (gK cx (S : Int) k).free.getD X 0 + 1 := IntWalk.i64_in _ (by omega)
          clear hcu hfr bx8
          generalize hvv : (gK cx (S : Int) k).free.getD X 0 = vX at hF7 o8 B8 z8 u8 hvw HG
          clear hvv
          go_wp2_with fail
          go_region
          generalize (wr.setCell ⟨gF, X, none⟩ (.int .i64 (vX + 1))).drew = wy at o8 B8 z8 u8 ⊢
          clear hF7 fu hcx hvw u o hbw zz zu
          go_wp2_with fail
          go_loopw [10] (fun i wz => ∃ (j : Nat) (cy : CX) (R7 : List HR), j ≤ n3 ∧ i = .int .i64 j ∧ Below W.heap.size w4 wz ∧ Blk wz w3.heap.size 26 #[.slice (some ⟨gF, 0, none⟩) 5 cf3, .slice (some ⟨gA, 0, none⟩) n3 c3] ∧ w3.heap.size < wz.heap.size ∧ OwnC wz w1.heap.size (some ⟨gF, 0, none⟩) 5 cf3 (some ⟨gA, 0, none⟩) n3 c3 R7 cy ∧ Hid (GiSt cx (S : Int) k X j cy)) (fun i _ => n3 - (intOf i).toNat)
          case atStart => exact ⟨0, _, _, Nat.zero_le _, rfl, B8, u8, z8, o8, HG⟩
          case round =>
            clear B8 u8 z8 o8 HG
            obtain ⟨j, cy, R7, hj, rfl, hbw, u, zu, o, HG⟩ := hrel
            have zz := hbw.size
            have fu := u.two
            obtain ⟨adx', x', hA', -, hcx, hkx', -⟩ := (hi.below (hbw.mono (by omega))).elem (k := k) hlt
            injection hA' with hA'
            subst hA'
            obtain rfl : x' = (X : Int) := by have := hkx'.out; rw [hkx.out] at this; injection this with this; exact this.symm
            have hF7 := o.f.cellAt (k := X) hX5
            have hbd := HG.out.bound HC.out HSl.out HK.out
            by_cases hlt2 : j < n3
            · have gj : (j : Int) < (n3 : Int) := by omega
              have gd : decide ((j : Int) < (n3 : Int)) = true := decide_eq_true gj
              by_cases hf : 0 < cy.free.getD X 0
              · have HG2 := Lib.hid (show cy = ⟨(gK cx (S : Int) k).free.set X ((gK cx (S : Int) k).free.getD X 0 + 1), (gK cx (S : Int) k).holds⟩ ∧ ∀ i, i < j → (hAt (gK cx (S : Int) k).holds i).wait ≠ (X : Int) from by
                  rcases HG.out with h | ⟨_, h⟩
                  · exact h
                  · omega)
                obtain ⟨A9, n9, c9, v9, xs9, o9, hn9, g0, g1, y0, y1, hR9, hk9, hA9⟩ := o.cells hlt2
                have hd : decide (0 < cy.free.getD X 0) = true := decide_eq_true hf
                have hlj : j < (gK cx (S : Int) k).holds.length := by rw [gK_hlen, hnl.out]; exact hlt2
                by_cases hv : v9 = (X : Int)
                · have HT2 := Lib.hid (gi_take HC.out HSl.out HK.out hlj (by
                    have h1 := hA9.out
                    rw [HG2.out.1] at h1
                    rw [h1]; exact hv) HG2.out.2)
                  have hd2 : (v9 == (X : Int)) = true := by rw [beq_iff_eq]; exact hv
                  have HHF := Lib.hid hf
                  have HBD := Lib.hid hbd
                  clear hv hf hbd hlj
                  generalize cy.free.getD X 0 = vF at hF7 hd
                  go_wp2_with fail
                  go_quiet (fail)
                  rename Nat => nq1
                  go_wp2_with fail
                  go_quiet (fail)
                  clear hF7 hd hd2 g0 g1 y0 y1
                  go_upto_region 21 with (fail)
                  have eb : (adx.add k).block = adx.block := by unfold Addr.add; split <;> rfl
                  have KS : ∀ W', Below W.heap.size wr W' → Blk W' w3.heap.size 26 #[.slice (some ⟨gF, 0, none⟩) 5 cf3, .slice (some ⟨gA, 0, none⟩) n3 c3] → W'.cell? ⟨w3.heap.size, 0, none⟩ = some (.slice (some ⟨gF, 0, none⟩) 5 cf3) ∧ W'.cell? ⟨w3.heap.size, 1, none⟩ = some (.slice (some ⟨gA, 0, none⟩) n3 c3) ∧ W'.cell? (adx.add k) = some (.int .i64 (X : Int)) := fun W' h1 h2 =>
                    ⟨h2.two.1, h2.two.2.1, by rw [h1.cell (by rw [eb]; omega)]; exact hcx⟩
                  have zqd : w1.heap.size ≤ (wr.drewN (nq1 + nq + 1)).heap.size := (show w1.heap.size ≤ wr.heap.size by omega)
                  have hcall := l22Take_any gF 5 cf3 gA n3 c3 R7 cy j X w1.heap.size (wr.drewN (nq1 + nq + 1)) (OwnC.drewN o _) zqd hlt2 hX5 (by omega) (by omega) HHF.out HBD.out.2
                  have hbd2 : Below W.heap.size wr (wr.drewN (nq1 + nq + 1)) := below_drewN (Below.refl _ _) _
                  have uqd := u.drewN (nq1 + nq + 1)
                  have hW3 : W.heap.size ≤ w3.heap.size := by omega
                  go_region_held3 (fun W' => W'.cell? ⟨w3.heap.size, 0, none⟩ = some (.slice (some ⟨gF, 0, none⟩) 5 cf3) ∧ W'.cell? ⟨w3.heap.size, 1, none⟩ = some (.slice (some ⟨gA, 0, none⟩) n3 c3) ∧ W'.cell? (adx.add k) = some (.int .i64 (X : Int)))
                    (first | exact KS _ (below_drewN (Below.refl _ _) _) (u.drewN _) | exact KS _ (Below.drew (below_drewN (below_drewN (Below.refl _ _) _) _)) (Blk.drew (Blk.drewN (Blk.drewN u _) _)) | exact KS _ HB9 u9 | exact KS _ (Below.setCell (Below.setCell HB9 hW3 _) hW3 _) (Blk.set_ (Blk.set_ u9 0 _) 1 _))
                    (first
                      | (go_at_call 40; (with_reducible refine Calls.mono hcall ?_)
                         rintro e w5 ⟨R5, rfl, o5, hb5, z5, bx5⟩
                         have HB9 : Below W.heap.size wr w5 := hbd2.trans (hb5.mono (by omega))
                         have u9 := bx5 _ _ _ (by decide) (by decide) uqd
                         have f9 := u9.two
                         have l9 := u9.lt))
                  have o6 : OwnC w5 w1.heap.size (some ⟨gF, 0, none⟩) 5 cf3 (some ⟨gA, 0, none⟩) n3 c3 R5 (gK cx (S : Int) (k + 1)) := by
                    have h1 := o5
                    rw [HG2.out.1] at h1
                    rw [← HT2.out.1]
                    exact h1
                  clear hcall KS o5
                  go_wp2_with fail
                  go_roundw
                  case rel => exact ⟨j + 1, _, _, by omega, by go_num, Below.setCell (Below.setCell (hbw.trans HB9) hW3 _) hW3 _, Blk.set_ (Blk.set_ u9 0 _) 1 _, by simp; omega, OwnC.setBox (OwnC.setBox o6 u9 (by decide) (by decide) 0 _) (u9.set_ 0 _) (by decide) (by decide) 1 _, Lib.hid (.inr ⟨rfl, HT2.out.2⟩)⟩
                  case measure => first | (simp [intOf]; done) | (simp [intOf]; omega)
                · have HG3 := Lib.hid (show GiSt cx (S : Int) k X (j + 1) cy from .inl ⟨HG2.out.1, fun i hi => by
                    by_cases e : i = j
                    · subst e
                      have h1 := hA9.out
                      rw [HG2.out.1] at h1
                      rw [h1]; exact hv
                    · exact HG2.out.2 i (by omega)⟩)
                  have hd2 : (v9 == (X : Int)) = false := by rw [beq_eq_false_iff_ne]; exact hv
                  clear hv hf hbd hlj
                  generalize cy.free.getD X 0 = vF at hF7 hd
                  go_wp2_with fail
                  go_quiet (fail)
                  go_wp2_with fail
                  go_quiet (fail)
                  go_wp2_with fail
                  go_roundw
                  case rel => exact ⟨j + 1, _, _, by omega, by go_num, below_drewN hbw _, u, zu, OwnC.drewN o _, HG3⟩
                  case measure => first | (simp [intOf]; done) | (simp [intOf]; omega)
              · have HD := Lib.hid (HG.out.done HC.out HSl.out HK.out (.inr (by omega)))
                have hd : decide (0 < cy.free.getD X 0) = false := decide_eq_false hf
                clear hf hbd
                generalize cy.free.getD X 0 = vF at hF7 hd
                go_wp2_with fail
                go_quiet (fail)
                have hb2 : Below W.heap.size w4 (wr.drewN nq) := below_drewN hbw _
                have u2 := u.drewN nq
                have o2 := o.drewN nq
                rw [HD.out] at o2
                go_wp2_with fail
                go_roundw
                case rel => exact ⟨k + 1, _, by omega, by go_num, hb2, u2, zu, o2⟩
                case measure => first | (simp [intOf]; done) | (simp [intOf]; omega)
            · have HD := Lib.hid (HG.out.done HC.out HSl.out HK.out (.inl (by rw [hnl.out]; omega)))
              have gj : ¬ ((j : Int) < (n3 : Int)) := by omega
              have gd : decide ((j : Int) < (n3 : Int)) = false := decide_eq_false gj
              go_wp2_with fail
              go_quiet (fail)
              have hb2 : Below W.heap.size w4 (wr.drewN nq) := below_drewN hbw _
              have u2 := u.drewN nq
              have o2 := o.drewN nq
              rw [HD.out] at o2
              go_wp2_with fail
              go_roundw
              case rel => exact ⟨k + 1, _, by omega, by go_num, hb2, u2, zu, o2⟩
              case measure => first | (simp [intOf]; done) | (simp [intOf]; omega)
        · obtain rfl : n1 = k := by omega
          have HLL := HL.out
          rw [← HLL, ← HXS.out, gK_end HE.out.1] at o
          have r := r4.below hbw (by omega)
          have fr := r.two
          have q := ((r.set_ 0 (.slice (some ⟨gF, 0, none⟩) 5 cf3)).set_ 1 (.slice (some ⟨gA, 0, none⟩) n3 c3)).two
          have HBr : Below w.heap.size w wr := HB4.trans (hbw.mono (by omega))
          go_wp2_with fail
          exact bodyPost_ret (v := .tuple #[.agg #[.slice (some ⟨gF, 0, none⟩) 5 cf3, .slice (some ⟨gA, 0, none⟩) n3 c3], .bool true]) (by simp [results, Try.results13, go_sem, q]) rfl
            (RetCB.mk (OwnC.setBelow (OwnC.setBelow o (by first | omega | (simp; done) | (simp; omega)) _) (by first | omega | (simp; done) | (simp; omega)) _) ((HBr.setCell (by simp) _).setCell (by simp) _) (by omega) HE.out.2.1 HE.out.2.2)
end Go.Proofs.Ytehgipbedlamaaa
