/-
  CreditsAsk, the program's.
-/
import Derived.Test.YtehgipbedlamaaaHC
namespace Go.Proofs.Ytehgipbedlamaaa
open Go.RowKit
set_option linter.unusedVariables false

set_option maxHeartbeats 8000000 in
theorem implAsk_any (F : Option Addr) (nf cf : Nat) (A : Option Addr) (n c : Nat) (R : List HR) (cx : CX) (s g : Int) (w : World) (hc : Cr w w.heap.size F nf A n R cx) (hnf : nf ≤ 1048576) (hn : n ≤ 1048576) :
    Calls Try.prog 18 #[.agg #[.slice F nf cf, .slice A n c], .int .i64 s, .int .i64 g] w (RetCB (askC cx s g) (askB cx s g) w) := by
  generalize hW : (w.alloc (.cells #[.slice F nf cf, .slice A n c] 26)).alloc (.cells #[.slice none 0 0, .slice none 0 0] 26) = W
  obtain ⟨b0, b1, X0, B0, z0⟩ := askHead hc hW
  have f0 := b0.two
  have l0 := b0.lt
  have l1 := b1.lt
  have hnl := Lib.hid hc.h.l
  cases hv : cvB cx
  · have HN := Lib.hid (ask_no (cx := cx) (s := s) (g := g) (by simp [askOk, hv]))
    go_enter Try.func18, Try.ntmps18
    go_wp2_with fail
    refine (implCV_any F nf cf A n c R cx W X0 hnf hn).mono ?_
    rintro e w1 ⟨rfl, hb1⟩
    have r1 := b1.below hb1 l1
    have f1 := (b0.below hb1 l0).two
    have g1 := r1.two
    rw [hv]
    go_wp2_with fail
    exact bodyPost_ret (v := .tuple #[.agg #[.slice none 0 0, .slice none 0 0], .bool false]) (by simp [results, Try.results18, go_sem, g1]) rfl (RetCB.zero (by repeat' (first | with_reducible exact Below.refl _ _ | with_reducible assumption | with_reducible refine Below.setCell ?_ (by first | omega | (simp; done) | (simp; omega)) _ | with_reducible refine Below.alloc ?_ (by first | omega | (simp; done) | (simp; omega)) _ | with_reducible refine below_drewN ?_ _ | with_reducible refine Below.drew ?_ | (with_reducible refine Below.trans ?_ (Below.mono (by with_reducible assumption) (by first | omega | (simp; done) | (simp; omega)))))) HN.out.1 HN.out.2)
  have HV := Lib.hid hv
  cases hs : inB s 0 ((n : Int) - 1)
  · have HN := Lib.hid (ask_no (cx := cx) (s := s) (g := g) (by simp [askOk, hnl.out, hs]))
    have HS := Lib.hid hs
    clear hs
    go_enter Try.func18, Try.ntmps18
    go_wp2_with fail
    refine (implCV_any F nf cf A n c R cx W X0 hnf hn).mono ?_
    rintro e w1 ⟨rfl, hb1⟩
    have r1 := b1.below hb1 l1
    have f1 := (b0.below hb1 l0).two
    have g1 := r1.two
    rw [hv]
    clear hv
    go_wp2_with fail
    refine (isSender_any F nf cf A n c s w1 hn).mono ?_
    rintro e w2 ⟨rfl, hb2⟩
    have HB2 : Below w.heap.size w w2 := (B0.trans (hb1.mono (by omega))).trans (hb2.mono (by have := hb1.size; omega))
    have r2 := r1.below hb2 r1.lt
    have f2 := ((b0.below hb1 l0).below hb2 (b0.below hb1 l0).lt).two
    have g2 := r2.two
    rw [HS.out]
    clear f1 g1 hb1 hb2
    go_wp2_with fail
    exact bodyPost_ret (v := .tuple #[.agg #[.slice none 0 0, .slice none 0 0], .bool false]) (by simp [results, Try.results18, go_sem, g2]) rfl (RetCB.zero (by repeat' (first | with_reducible exact Below.refl _ _ | with_reducible assumption | with_reducible refine Below.setCell ?_ (by first | omega | (simp; done) | (simp; omega)) _ | with_reducible refine Below.alloc ?_ (by first | omega | (simp; done) | (simp; omega)) _ | with_reducible refine below_drewN ?_ _ | with_reducible refine Below.drew ?_ | (with_reducible refine Below.trans ?_ (Below.mono (by with_reducible assumption) (by first | omega | (simp; done) | (simp; omega)))))) HN.out.1 HN.out.2)
  have HS := Lib.hid hs
  have hw : IntKind.i64.wrap ((n : Int) - 1) = (n : Int) - 1 := IntWalk.i64_in _ (by omega)
  cases hg : inB g 0 4
  · have HN := Lib.hid (ask_no (cx := cx) (s := s) (g := g) (by simp [askOk, hg]))
    have HG := Lib.hid hg
    clear hg hs
    go_enter Try.func18, Try.ntmps18
    go_wp2_with fail
    refine (implCV_any F nf cf A n c R cx W X0 hnf hn).mono ?_
    rintro e w1 ⟨rfl, hb1⟩
    have r1 := b1.below hb1 l1
    have f1 := (b0.below hb1 l0).two
    have g1 := r1.two
    rw [hv]
    clear hv
    go_wp2_with fail
    refine (isSender_any F nf cf A n c s w1 hn).mono ?_
    rintro e w2 ⟨rfl, hb2⟩
    have HB2 : Below w.heap.size w w2 := (B0.trans (hb1.mono (by omega))).trans (hb2.mono (by have := hb1.size; omega))
    have r2 := r1.below hb2 r1.lt
    have f2 := ((b0.below hb1 l0).below hb2 (b0.below hb1 l0).lt).two
    have g2 := r2.two
    rw [HS.out]
    clear f1 g1 hb1 hb2
    go_wp2_with (go_at_call 42; refine (isGroup_any _ _).mono ?_; rintro e w' ⟨rfl, rfl⟩; rw [HG.out])
    exact bodyPost_ret (v := .tuple #[.agg #[.slice none 0 0, .slice none 0 0], .bool false]) (by simp [results, Try.results18, go_sem, g2]) rfl (RetCB.zero (by repeat' (first | with_reducible exact Below.refl _ _ | with_reducible assumption | with_reducible refine Below.setCell ?_ (by first | omega | (simp; done) | (simp; omega)) _ | with_reducible refine Below.alloc ?_ (by first | omega | (simp; done) | (simp; omega)) _ | with_reducible refine below_drewN ?_ _ | with_reducible refine Below.drew ?_ | (with_reducible refine Below.trans ?_ (Below.mono (by with_reducible assumption) (by first | omega | (simp; done) | (simp; omega)))))) HN.out.1 HN.out.2)
  have HG := Lib.hid hg
  have HO := Lib.hid (show askOk cx s g = true by simp [askOk, hv, hnl.out, hs, hg])
  have HC := Lib.hid (cv_iff.1 hv)
  obtain ⟨S, rfl⟩ : ∃ S : Nat, s = (S : Int) := ⟨s.toNat, by have : 0 ≤ s ∧ s ≤ (n : Int) - 1 := by simpa [inB] using hs
                                                             omega⟩
  obtain ⟨G, rfl⟩ : ∃ G : Nat, g = (G : Int) := ⟨g.toNat, by have : 0 ≤ g ∧ g ≤ 4 := by simpa [inB] using hg
                                                             omega⟩
  have hS : S < n := by have : (0 : Int) ≤ (S : Int) ∧ (S : Int) ≤ (n : Int) - 1 := by simpa [inB] using hs
                        omega
  have hG : G < 5 := by have : (0 : Int) ≤ (G : Int) ∧ (G : Int) ≤ 4 := by simpa [inB] using hg
                        omega
  clear hs hg
  go_enter Try.func18, Try.ntmps18
  go_wp2_with fail
  refine (implCV_any F nf cf A n c R cx W X0 hnf hn).mono ?_
  rintro e w1 ⟨rfl, hb1⟩
  have p1 := b0.below hb1 l0
  have r1 := b1.below hb1 l1
  have X1 := X0.up hb1 hb1.size
  have B1 : Below w.heap.size w w1 := B0.trans (hb1.mono (by omega))
  have s1 := hb1.size
  have f1 := p1.two
  rw [hv]
  clear hv hW f0 b0 b1 X0 l0 l1 hc
  go_wp2_with fail
  refine (isSender_any F nf cf A n c S w1 hn).mono ?_
  rintro e w2 ⟨rfl, hb2⟩
  have s2 := hb2.size
  have p2 := p1.below hb2 p1.lt
  have r2 := r1.below hb2 r1.lt
  have X2 := X1.up hb2 hb2.size
  have B2 : Below w.heap.size w w2 := B1.trans (hb2.mono (by omega))
  have f2 := p2.two
  rw [HS.out]
  clear p1 r1 X1 B1 hb1 hb2 f1
  go_wp2_with (go_at_call 42; refine (isGroup_any _ _).mono ?_; rintro e w' ⟨rfl, rfl⟩; rw [HG.out])
  refine (copyC_any F nf cf A n c R cx w2 X2 hnf hn).mono ?_
  rintro e w3 ⟨F3, n5, cf3, A3, n3, c3, R3, rfl, o3, hb3⟩
  have s3 := hb3.size
  obtain rfl : n5 = 5 := by have := o3.f.len; have := HC.out.f; omega
  obtain rfl : n3 = n := by have h1 := o3.l; have h2 := hnl.out; omega
  obtain ⟨gF, rfl, hF1, hF2⟩ := o3.f.form (by omega)
  obtain ⟨gA, rfl, hA1, hA2⟩ := o3.form (by omega)
  have p3 := p2.below hb3 p2.lt
  have r3 := r2.below hb3 r2.lt
  have X3 := X2.up hb3 hb3.size
  have u4 := Blk.new w3 26 #[.slice (some ⟨gF, 0, none⟩) 5 cf3, .slice (some ⟨gA, 0, none⟩) n3 c3]
  have o4 := o3.alloc (.cells #[.slice (some ⟨gF, 0, none⟩) 5 cf3, .slice (some ⟨gA, 0, none⟩) n3 c3] 26)
  have p4 := p3.alloc (.cells #[.slice (some ⟨gF, 0, none⟩) 5 cf3, .slice (some ⟨gA, 0, none⟩) n3 c3] 26)
  have r4 := r3.alloc (.cells #[.slice (some ⟨gF, 0, none⟩) 5 cf3, .slice (some ⟨gA, 0, none⟩) n3 c3] 26)
  have X4 := X3.box (.cells #[.slice (some ⟨gF, 0, none⟩) 5 cf3, .slice (some ⟨gA, 0, none⟩) n3 c3] 26)
  have B4 : Below w.heap.size w (w3.alloc (.cells #[.slice (some ⟨gF, 0, none⟩) 5 cf3, .slice (some ⟨gA, 0, none⟩) n3 c3] 26)) := (B2.trans (hb3.mono (by omega))).alloc (by omega) _
  have z4 : w3.heap.size < (w3.alloc (.cells #[.slice (some ⟨gF, 0, none⟩) 5 cf3, .slice (some ⟨gA, 0, none⟩) n3 c3] 26)).heap.size := by simp
  clear f2 p3 r3 X3 o3 hb3
  go_upto_region 4 with (fail)
  generalize w3.alloc (.cells #[.slice (some ⟨gF, 0, none⟩) 5 cf3, .slice (some ⟨gA, 0, none⟩) n3 c3] 26) = w4 at u4 o4 p4 r4 X4 B4 z4 ⊢
  obtain ⟨A1, n1, c1, v, xs, o5, hn1, hc0, hc1, z0', z1', hR1, hk1, hT⟩ := o4.cells hS
  have HT := Lib.hid hT.out
  have i1 := o5.ints
  have f4 := p4.two
  have fu := u4.two
  have fr := r4.two
  have q4 := ((r4.set_ 0 (.slice (some ⟨gF, 0, none⟩) 5 cf3)).set_ 1 (.slice (some ⟨gA, 0, none⟩) n3 c3)).two
  have HW := Lib.hid (wait_neg HC.out hk1.out)
  have gS1 : (S : Int) < (n3 : Int) := by omega
  have gG1 : (G : Int) < 5 := by omega
  by_cases hv0 : v = -1
  case neg =>
    have HE := Lib.hid (ask_stop HO.out (by simp only [stopA, Int.toNat_natCast, HT.out]; simp [hv0]))
    have hv1 : (v != -1) = true := by simp [hv0]
    have hv2 : (v == -1) = false := by simp [hv0]
    go_wp2_with fail
    exact bodyPost_ret (v := .tuple #[.agg #[.slice (some ⟨gF, 0, none⟩) 5 cf3, .slice (some ⟨gA, 0, none⟩) n3 c3], .bool false]) (by simp [results, Try.results18, go_sem, q4]) rfl
      (RetCB.mk (OwnC.setBelow (OwnC.setBelow o4 (by first | omega | (simp; done) | (simp; omega)) _) (by first | omega | (simp; done) | (simp; omega)) _) (by repeat' (first | with_reducible exact Below.refl _ _ | with_reducible assumption | with_reducible refine Below.setCell ?_ (by first | omega | (simp; done) | (simp; omega)) _ | with_reducible refine Below.alloc ?_ (by first | omega | (simp; done) | (simp; omega)) _ | with_reducible refine below_drewN ?_ _ | with_reducible refine Below.drew ?_ | (with_reducible refine Below.trans ?_ (Below.mono (by with_reducible assumption) (by first | omega | (simp; done) | (simp; omega)))))) (by omega) HE.out.1 HE.out.2)
  subst hv0
  cases hh : hasB xs (G : Int)
  case true =>
    have HE := Lib.hid (ask_stop HO.out (by simp only [stopA, Int.toNat_natCast, HT.out]; simp [hh]))
    have HH := Lib.hid hh
    clear hh
    go_wp2_with (go_at_call 41; refine (gHas_any A1 n1 c1 w4.heap.size xs _ _ i1 hn1).mono ?_; rintro e w' ⟨rfl, rfl⟩; rw [HH.out])
    exact bodyPost_ret (v := .tuple #[.agg #[.slice (some ⟨gF, 0, none⟩) 5 cf3, .slice (some ⟨gA, 0, none⟩) n3 c3], .bool false]) (by simp [results, Try.results18, go_sem, q4]) rfl
      (RetCB.mk (OwnC.setBelow (OwnC.setBelow o4 (by first | omega | (simp; done) | (simp; omega)) _) (by first | omega | (simp; done) | (simp; omega)) _) (by repeat' (first | with_reducible exact Below.refl _ _ | with_reducible assumption | with_reducible refine Below.setCell ?_ (by first | omega | (simp; done) | (simp; omega)) _ | with_reducible refine Below.alloc ?_ (by first | omega | (simp; done) | (simp; omega)) _ | with_reducible refine below_drewN ?_ _ | with_reducible refine Below.drew ?_ | (with_reducible refine Below.trans ?_ (Below.mono (by with_reducible assumption) (by first | omega | (simp; done) | (simp; omega)))))) (by omega) HE.out.1 HE.out.2)
  have HE := Lib.hid (ask_go HO.out (by simp only [stopA, Int.toNat_natCast, HT.out]; simp [hh]))
  have HH := Lib.hid hh
  clear hh
  have hF := o4.f.cellAt (k := G) (by omega)
  have HR := Lib.hid (HC.out.fr G hG)
  by_cases hf : cx.free.getD G 0 = 0
  · have HY := Lib.hid (show askY cx (S : Int) (G : Int) = ⟨cx.free, cx.holds.set S ⟨xs, (G : Int)⟩⟩ by
      unfold askY; rw [if_pos (by simp only [Int.toNat_natCast]; omega)]; simp [HT.out])
    have X6 := o4.setWait hR1.out hk1.out (G : Int)
    have bx6 : Boxes w4 _ := Boxes.row (i := S * 2 + 1) o4.o (.int .i64 (G : Int)) (.inr rfl)
    have r6 := bx6 _ _ _ (by decide) (by decide) r4
    have u6 := bx6 _ _ _ (by decide) (by decide) u4
    have B6 : Below w.heap.size w (w4.setCell ⟨gA, S * 2 + 1, none⟩ (.int .i64 (G : Int))) := B4.setCell (show w.heap.size ≤ gA by omega) _
    have g6 := r6.two
    have fu6 := u6.two
    have q6 := ((r6.set_ 0 (.slice (some ⟨gF, 0, none⟩) 5 cf3)).set_ 1 (.slice (some ⟨gA, 0, none⟩) n3 c3)).two
    rw [hf] at hF
    clear hf
    go_wp2_with (go_at_call 41; refine (gHas_any A1 n1 c1 w4.heap.size xs _ _ i1 hn1).mono ?_; rintro e w' ⟨rfl, rfl⟩; rw [HH.out])
    exact bodyPost_ret (v := .tuple #[.agg #[.slice (some ⟨gF, 0, none⟩) 5 cf3, .slice (some ⟨gA, 0, none⟩) n3 c3], .bool true]) (by simp [results, Try.results18, go_sem, q6]) rfl
      (RetCB.mk (OwnC.setBelow (OwnC.setBelow X6 (by first | omega | (simp; done) | (simp; omega)) _) (by first | omega | (simp; done) | (simp; omega)) _) ((B6.setCell (by simp) _).setCell (by simp) _) (by omega) (HE.out.1.trans HY.out) HE.out.2)
  · have HY := Lib.hid (show askY cx (S : Int) (G : Int) = ⟨cx.free.set G (cx.free.getD G 0 - 1), cx.holds.set S ⟨wiL xs (G : Int), -1⟩⟩ by
      unfold askY; rw [if_neg (by simp only [Int.toNat_natCast]; have := HR.out; omega)]; simp [HT.out])
    have X6 := o4.setFree G (cx.free.getD G 0 - 1)
    have bx6 : Boxes w4 _ := Boxes.row (i := G) o4.f (.int .i64 (cx.free.getD G 0 - 1)) (.inl rfl)
    generalize hvG : cx.free.getD G 0 = vG at hF hf HR HY X6 bx6
    have r6 := bx6 _ _ _ (by decide) (by decide) r4
    have u6 := bx6 _ _ _ (by decide) (by decide) u4
    have B6 : Below w.heap.size w (w4.setCell ⟨gF, G, none⟩ (.int .i64 (vG - 1))) := B4.setCell (show w.heap.size ≤ gF by omega) _
    have z6 : w4.heap.size ≤ (w4.setCell ⟨gF, G, none⟩ (.int .i64 (vG - 1))).heap.size := by simp
    obtain ⟨A6, n6, c6, v6, xs6, o6, hn6, hd0, hd1, y0, y1, hR6, hk6, hT6⟩ := X6.cells hS
    obtain ⟨rfl, rfl⟩ : xs6 = xs ∧ v6 = -1 := by have := hk6.out; rw [hk1.out] at this; injection this with this; injection this with h1 h2; exact ⟨h1.symm, h2.symm⟩
    obtain ⟨rfl, rfl, rfl⟩ : A6 = A1 ∧ n6 = n1 ∧ c6 = c1 := by have := hR6.out; rw [hR1.out] at this; injection this with this; injection this with h1 h2 h3; exact ⟨h1.symm, h2.symm, h3.symm⟩
    have hvw : IntKind.i64.wrap (vG - 1) = vG - 1 := IntWalk.i64_in _ (by have := HR.out; omega)
    have hz : (vG == 0) = false := by simp [hf]
    go_wp2_with (first
      | (go_at_call 41; refine (gHas_any A6 n6 c6 w4.heap.size _ _ _ i1 hn1).mono ?_; rintro e w' ⟨rfl, rfl⟩; rw [HH.out])
      | (go_at_call 36; refine (with_any A6 n6 c6 (G : Int) xs6 _ o6.ints hn1).mono ?_; rintro e w7 ⟨A7, n7, c7, rfl, o7, hb7⟩; have X7 := X6.below hb7; have u7 := u6.below hb7 u6.lt; have r7 := r6.below hb7 r6.lt; have HB7 : Below w.heap.size w w7 := B6.trans (hb7.mono (by simp; omega)); obtain ⟨_, _, _, _, _, _, _, e0, e1, x0, x1, _, _, _⟩ := X7.cells hS; have f7 := u7.two; have g7 := r7.two; have hn7 : n7 ≤ 1048576 := (by have h1 := o7.len; have h2 := wi_len xs6 (G : Int); omega); have X8 := X7.setHas hR6.out hk6.out (o7.mono (show w2.heap.size ≤ _ by simp; omega)) hn7 (X6.fresh o7); have bx8 := Boxes.row (i := S * 2) X7.o (.slice A7 n7 c7) (.inr rfl); have r8 := bx8 _ _ _ (by decide) (by decide) r7; have u8 := bx8 _ _ _ (by decide) (by decide) u7; have g8 := r8.two; have fu8 := u8.two; have q8 := ((r8.set_ 0 (.slice (some ⟨gF, 0, none⟩) 5 cf3)).set_ 1 (.slice (some ⟨gA, 0, none⟩) n3 c3)).two))
    exact bodyPost_ret (v := .tuple #[.agg #[.slice (some ⟨gF, 0, none⟩) 5 cf3, .slice (some ⟨gA, 0, none⟩) n3 c3], .bool true]) (by simp [results, Try.results18, go_sem, q8]) rfl
      (RetCB.mk (OwnC.setBelow (OwnC.setBelow X8 (by first | omega | (simp; done) | (simp; omega)) _) (by first | omega | (simp; done) | (simp; omega)) _) (((HB7.setCell (show w.heap.size ≤ gA by omega) _).setCell (by simp) _).setCell (by simp) _) (by omega) (HE.out.1.trans HY.out) HE.out.2)
end Go.Proofs.Ytehgipbedlamaaa
