/-
  CreditsAsk, the reference's.
-/
import Derived.Test.YtehgipbedlamaaaHB
import Derived.Test.YtehgipbedlamaaaH3
namespace Go.Proofs.Ytehgipbedlamaaa
open Go.RowKit
set_option linter.unusedVariables false

/-- What asking and giving hand back. -/
def RetCB (cx : CX) (b : Bool) (w : World) (e : Ending) (w' : World) : Prop :=
  ∃ F nf cf A n c R, e = .returned (.tuple #[.agg #[.slice F nf cf, .slice A n c], .bool b]) ∧ OwnC w' w.heap.size F nf cf A n c R cx ∧ Below w.heap.size w w'
theorem RetCB.zero {w w' : World} {cx : CX} {b : Bool} (hb : Below w.heap.size w w') (h1 : cx = cNo) (h2 : b = false) : RetCB cx b w (.returned (.tuple #[.agg #[.slice none 0 0, .slice none 0 0], .bool false])) w' := by
  subst h1; subst h2
  exact ⟨none, 0, 0, none, 0, 0, [], rfl, OwnC.nil (Own.nil _ _), hb⟩
theorem RetCB.mk {w w' : World} {cx cx' : CX} {b b' : Bool} {base nf cf n c : Nat} {F A : Option Addr} {R : List HR} (h : OwnC w' base F nf cf A n c R cx') (hb : Below w.heap.size w w') (hB : w.heap.size ≤ base) (h1 : cx = cx') (h2 : b = b') :
    RetCB cx b w (.returned (.tuple #[.agg #[.slice F nf cf, .slice A n c], .bool b'])) w' := by
  subst h1; subst h2
  exact ⟨F, nf, cf, A, n, c, R, rfl, h.mono hB, hb⟩
theorem askHead {w W : World} {nf cf n c : Nat} {F A : Option Addr} {R : List HR} {cx : CX} (hc : Cr w w.heap.size F nf A n R cx) (hW : (w.alloc (.cells #[.slice F nf cf, .slice A n c] 26)).alloc (.cells #[.slice none 0 0, .slice none 0 0] 26) = W) :
    Blk W w.heap.size 26 #[.slice F nf cf, .slice A n c] ∧ Blk W (w.heap.size + 1) 26 #[.slice none 0 0, .slice none 0 0] ∧ Cr W W.heap.size F nf A n R cx ∧ Below w.heap.size w W ∧ w.heap.size + 2 ≤ W.heap.size := by
  have b0 := (Blk.new w 26 #[.slice F nf cf, .slice A n c]).alloc (.cells #[.slice none 0 0, .slice none 0 0] 26)
  have b1 := Blk.new (w.alloc (.cells #[.slice F nf cf, .slice A n c] 26)) 26 #[.slice none 0 0, .slice none 0 0]
  simp only [World.size_alloc] at b1
  have X0 := (hc.box (.cells #[.slice F nf cf, .slice A n c] 26)).box (.cells #[.slice none 0 0, .slice none 0 0] 26)
  have B0 : Below w.heap.size w ((w.alloc (.cells #[.slice F nf cf, .slice A n c] 26)).alloc (.cells #[.slice none 0 0, .slice none 0 0] 26)) := (by repeat' (first | with_reducible exact Below.refl _ _ | with_reducible assumption | with_reducible refine Below.setCell ?_ (by first | omega | (simp; done) | (simp; omega)) _ | with_reducible refine Below.alloc ?_ (by first | omega | (simp; done) | (simp; omega)) _ | with_reducible refine below_drewN ?_ _ | with_reducible refine Below.drew ?_ | (with_reducible refine Below.trans ?_ (Below.mono (by with_reducible assumption) (by first | omega | (simp; done) | (simp; omega))))))
  subst hW
  exact ⟨b0, b1, X0, B0, by simp⟩
theorem ask_no {cx : CX} {s g : Int} (h : askOk cx s g = false) : askC cx s g = cNo ∧ askB cx s g = false := by simp [askC, askB, h]
theorem ask_stop {cx : CX} {s g : Int} (h : askOk cx s g = true) (h2 : stopA cx s g = true) : askC cx s g = cx ∧ askB cx s g = false := by simp [askC, askB, h, h2]
theorem ask_go {cx : CX} {s g : Int} (h : askOk cx s g = true) (h2 : stopA cx s g = false) : askC cx s g = askY cx s g ∧ askB cx s g = true := by simp [askC, askB, h, h2]
theorem wait_neg {cx : CX} (h : Cv cx) {k : Nat} {xs : List Int} {v : Int} (hk : cx.holds[k]? = some ⟨xs, v⟩) : v = -1 ∨ 0 ≤ v := by
  rcases (h.h _ (List.mem_of_getElem? hk)).w with e | e
  · exact .inl e
  · exact .inr e.1
set_option maxHeartbeats 8000000 in
theorem specAsk_any (F : Option Addr) (nf cf : Nat) (A : Option Addr) (n c : Nat) (R : List HR) (cx : CX) (s g : Int) (w : World) (hc : Cr w w.heap.size F nf A n R cx) (hnf : nf ≤ 1048576) (hn : n ≤ 1048576) :
    Calls Try.prog 19 #[.agg #[.slice F nf cf, .slice A n c], .int .i64 s, .int .i64 g] w (RetCB (askC cx s g) (askB cx s g) w) := by
  generalize hW : (w.alloc (.cells #[.slice F nf cf, .slice A n c] 26)).alloc (.cells #[.slice none 0 0, .slice none 0 0] 26) = W
  obtain ⟨b0, b1, X0, B0, z0⟩ := askHead hc hW
  have f0 := b0.two
  have l0 := b0.lt
  have l1 := b1.lt
  have hnl := Lib.hid hc.h.l
  cases hv : cvB cx
  · have HN := Lib.hid (ask_no (cx := cx) (s := s) (g := g) (by simp [askOk, hv]))
    go_enter Try.func19, Try.ntmps19
    go_wp2_with fail
    refine (specCV_any F nf cf A n c R cx W X0 hnf hn).mono ?_
    rintro e w1 ⟨rfl, hb1⟩
    have r1 := b1.below hb1 l1
    have f1 := (b0.below hb1 l0).two
    have g1 := r1.two
    rw [hv]
    go_wp2_with fail
    exact bodyPost_ret (v := .tuple #[.agg #[.slice none 0 0, .slice none 0 0], .bool false]) (by simp [results, Try.results19, go_sem, g1]) rfl (RetCB.zero (by repeat' (first | with_reducible exact Below.refl _ _ | with_reducible assumption | with_reducible refine Below.setCell ?_ (by first | omega | (simp; done) | (simp; omega)) _ | with_reducible refine Below.alloc ?_ (by first | omega | (simp; done) | (simp; omega)) _ | with_reducible refine below_drewN ?_ _ | with_reducible refine Below.drew ?_ | (with_reducible refine Below.trans ?_ (Below.mono (by with_reducible assumption) (by first | omega | (simp; done) | (simp; omega)))))) HN.out.1 HN.out.2)
  have HV := Lib.hid hv
  cases hs : inB s 0 ((n : Int) - 1)
  · have HN := Lib.hid (ask_no (cx := cx) (s := s) (g := g) (by simp [askOk, hnl.out, hs]))
    have HS := Lib.hid hs
    clear hs
    go_enter Try.func19, Try.ntmps19
    go_wp2_with fail
    refine (specCV_any F nf cf A n c R cx W X0 hnf hn).mono ?_
    rintro e w1 ⟨rfl, hb1⟩
    have r1 := b1.below hb1 l1
    have f1 := (b0.below hb1 l0).two
    have g1 := r1.two
    rw [hv]
    clear hv
    have hw : IntKind.i64.wrap ((n : Int) - 1) = (n : Int) - 1 := IntWalk.i64_in _ (by omega)
    go_wp2_with (go_at_call 38; refine (l6In_any _ _ _ _).mono ?_; rintro e w' ⟨rfl, rfl⟩; rw [HS.out])
    exact bodyPost_ret (v := .tuple #[.agg #[.slice none 0 0, .slice none 0 0], .bool false]) (by simp [results, Try.results19, go_sem, g1]) rfl (RetCB.zero (by repeat' (first | with_reducible exact Below.refl _ _ | with_reducible assumption | with_reducible refine Below.setCell ?_ (by first | omega | (simp; done) | (simp; omega)) _ | with_reducible refine Below.alloc ?_ (by first | omega | (simp; done) | (simp; omega)) _ | with_reducible refine below_drewN ?_ _ | with_reducible refine Below.drew ?_ | (with_reducible refine Below.trans ?_ (Below.mono (by with_reducible assumption) (by first | omega | (simp; done) | (simp; omega)))))) HN.out.1 HN.out.2)
  have HS := Lib.hid hs
  have hw : IntKind.i64.wrap ((n : Int) - 1) = (n : Int) - 1 := IntWalk.i64_in _ (by omega)
  cases hg : inB g 0 4
  · have HN := Lib.hid (ask_no (cx := cx) (s := s) (g := g) (by simp [askOk, hg]))
    have HG := Lib.hid hg
    clear hg hs
    go_enter Try.func19, Try.ntmps19
    go_wp2_with fail
    refine (specCV_any F nf cf A n c R cx W X0 hnf hn).mono ?_
    rintro e w1 ⟨rfl, hb1⟩
    have r1 := b1.below hb1 l1
    have f1 := (b0.below hb1 l0).two
    have g1 := r1.two
    rw [hv]
    clear hv
    go_wp2_with (first | (go_at_call 38; refine (l6In_any _ _ _ _).mono ?_; rintro e w' ⟨rfl, rfl⟩; rw [HS.out]) | (go_at_call 43; refine (l1Group_any _ _).mono ?_; rintro e w' ⟨rfl, rfl⟩; rw [HG.out]))
    exact bodyPost_ret (v := .tuple #[.agg #[.slice none 0 0, .slice none 0 0], .bool false]) (by simp [results, Try.results19, go_sem, g1]) rfl (RetCB.zero (by repeat' (first | with_reducible exact Below.refl _ _ | with_reducible assumption | with_reducible refine Below.setCell ?_ (by first | omega | (simp; done) | (simp; omega)) _ | with_reducible refine Below.alloc ?_ (by first | omega | (simp; done) | (simp; omega)) _ | with_reducible refine below_drewN ?_ _ | with_reducible refine Below.drew ?_ | (with_reducible refine Below.trans ?_ (Below.mono (by with_reducible assumption) (by first | omega | (simp; done) | (simp; omega)))))) HN.out.1 HN.out.2)
  have HG := Lib.hid hg
  have HO := Lib.hid (show askOk cx s g = true by simp [askOk, hv, hnl.out, hs, hg])
  have HC := Lib.hid (cv_iff.1 hv)
  obtain ⟨S, rfl⟩ : ∃ S : Nat, s = (S : Int) := ⟨s.toNat, by have : 0 ≤ s ∧ s ≤ (n : Int) - 1 := by simpa [inB] using hs
                                                             omega⟩
  obtain ⟨G, rfl⟩ : ∃ G : Nat, g = (G : Int) := ⟨g.toNat, by have : 0 ≤ g ∧ g ≤ 4 := by simpa [inB] using hg
                                                             omega⟩
  have hS : S < n := by have : (0 : Int) ≤ (S : Int) ∧ (S : Int) ≤ (n : Int) - 1 := by simpa [inB] using hs
                        omega
  have hG : G < 5 := by have : (0 : Int) ≤ (G : Int) ∧ (G : Int) ≤ 4 := by simpa [inB] using hg
                        omega
  clear hs hg
  go_enter Try.func19, Try.ntmps19
  go_wp2_with fail
  refine (specCV_any F nf cf A n c R cx W X0 hnf hn).mono ?_
  rintro e w1 ⟨rfl, hb1⟩
  have p1 := b0.below hb1 l0
  have r1 := b1.below hb1 l1
  have X1 := X0.up hb1 hb1.size
  have B1 : Below w.heap.size w w1 := B0.trans (hb1.mono (by omega))
  have s1 := hb1.size
  have f1 := p1.two
  rw [hv]
  clear hv hW f0 b0 b1 X0 l0 l1 hc
  go_wp2_with (first | (go_at_call 38; refine (l6In_any _ _ _ _).mono ?_; rintro e w' ⟨rfl, rfl⟩; rw [HS.out]) | (go_at_call 43; refine (l1Group_any _ _).mono ?_; rintro e w' ⟨rfl, rfl⟩; rw [HG.out]))
  refine (l22Copy_any F nf cf A n c R cx w1 X1 hnf hn).mono ?_
  rintro e w3 ⟨F3, n5, cf3, A3, n3, c3, R3, rfl, o3, hb3⟩
  have s3 := hb3.size
  obtain rfl : n5 = 5 := by have := o3.f.len; have := HC.out.f; omega
  obtain rfl : n3 = n := by have h1 := o3.l; have h2 := hnl.out; omega
  obtain ⟨gF, rfl, hF1, hF2⟩ := o3.f.form (by omega)
  obtain ⟨gA, rfl, hA1, hA2⟩ := o3.form (by omega)
  have p3 := p1.below hb3 p1.lt
  have r3 := r1.below hb3 r1.lt
  have X3 := X1.up hb3 hb3.size
  have u4 := Blk.new w3 26 #[.slice (some ⟨gF, 0, none⟩) 5 cf3, .slice (some ⟨gA, 0, none⟩) n3 c3]
  have o4 := o3.alloc (.cells #[.slice (some ⟨gF, 0, none⟩) 5 cf3, .slice (some ⟨gA, 0, none⟩) n3 c3] 26)
  have p4 := p3.alloc (.cells #[.slice (some ⟨gF, 0, none⟩) 5 cf3, .slice (some ⟨gA, 0, none⟩) n3 c3] 26)
  have r4 := r3.alloc (.cells #[.slice (some ⟨gF, 0, none⟩) 5 cf3, .slice (some ⟨gA, 0, none⟩) n3 c3] 26)
  have X4 := X3.box (.cells #[.slice (some ⟨gF, 0, none⟩) 5 cf3, .slice (some ⟨gA, 0, none⟩) n3 c3] 26)
  have B4 : Below w.heap.size w (w3.alloc (.cells #[.slice (some ⟨gF, 0, none⟩) 5 cf3, .slice (some ⟨gA, 0, none⟩) n3 c3] 26)) := (B1.trans (hb3.mono (by omega))).alloc (by omega) _
  have z4 : w3.heap.size < (w3.alloc (.cells #[.slice (some ⟨gF, 0, none⟩) 5 cf3, .slice (some ⟨gA, 0, none⟩) n3 c3] 26)).heap.size := by simp
  clear f1 p3 r3 X3 o3 hb3
  go_upto_region 4 with (fail)
  generalize w3.alloc (.cells #[.slice (some ⟨gF, 0, none⟩) 5 cf3, .slice (some ⟨gA, 0, none⟩) n3 c3] 26) = w4 at u4 o4 p4 r4 X4 B4 z4 ⊢
  obtain ⟨ad, A1, n1, c1, v, xs, rfl, hbb, hc0, hc1, hc2, hc3, hi, hn1, hk1, hs1, hR1⟩ := X4.h.el hS
  have f4 := p4.two
  have fu := u4.two
  have fr := r4.two
  have q4 := ((r4.set_ 0 (.slice (some ⟨gF, 0, none⟩) 5 cf3)).set_ 1 (.slice (some ⟨gA, 0, none⟩) n3 c3)).two
  have HT := Lib.hid (hAt_of hk1.out)
  have HW := Lib.hid (wait_neg HC.out hk1.out)
  have gS1 : (S : Int) < (n3 : Int) := by omega
  have gG1 : (G : Int) < 5 := by omega
  by_cases hv0 : 0 ≤ v
  · have HE := Lib.hid (ask_stop HO.out (by simp only [stopA, Int.toNat_natCast, HT.out]; simp; left; omega))
    have hv1 : (decide (0 ≤ v)) = true := by simpa using hv0
    go_wp2_with fail
    exact bodyPost_ret (v := .tuple #[.agg #[.slice (some ⟨gF, 0, none⟩) 5 cf3, .slice (some ⟨gA, 0, none⟩) n3 c3], .bool false]) (by simp [results, Try.results19, go_sem, q4]) rfl
      (RetCB.mk (OwnC.setBelow (OwnC.setBelow o4 (by first | omega | (simp; done) | (simp; omega)) _) (by first | omega | (simp; done) | (simp; omega)) _) (by repeat' (first | with_reducible exact Below.refl _ _ | with_reducible assumption | with_reducible refine Below.setCell ?_ (by first | omega | (simp; done) | (simp; omega)) _ | with_reducible refine Below.alloc ?_ (by first | omega | (simp; done) | (simp; omega)) _ | with_reducible refine below_drewN ?_ _ | with_reducible refine Below.drew ?_ | (with_reducible refine Below.trans ?_ (Below.mono (by with_reducible assumption) (by first | omega | (simp; done) | (simp; omega)))))) (by omega) HE.out.1 HE.out.2)
  have hvm : v = -1 := by have := HW.out; omega
  subst hvm
  cases hh : hasB xs (G : Int)
  case true =>
    have HE := Lib.hid (ask_stop HO.out (by simp only [stopA, Int.toNat_natCast, HT.out]; simp [hh]))
    have HH := Lib.hid hh
    clear hh
    go_wp2_with (go_at_call 44; refine (l1Has_any A1 n1 c1 w4.heap.size xs _ _ hi hn1).mono ?_; rintro e w' ⟨rfl, rfl⟩; rw [HH.out])
    exact bodyPost_ret (v := .tuple #[.agg #[.slice (some ⟨gF, 0, none⟩) 5 cf3, .slice (some ⟨gA, 0, none⟩) n3 c3], .bool false]) (by simp [results, Try.results19, go_sem, q4]) rfl
      (RetCB.mk (OwnC.setBelow (OwnC.setBelow o4 (by first | omega | (simp; done) | (simp; omega)) _) (by first | omega | (simp; done) | (simp; omega)) _) (by repeat' (first | with_reducible exact Below.refl _ _ | with_reducible assumption | with_reducible refine Below.setCell ?_ (by first | omega | (simp; done) | (simp; omega)) _ | with_reducible refine Below.alloc ?_ (by first | omega | (simp; done) | (simp; omega)) _ | with_reducible refine below_drewN ?_ _ | with_reducible refine Below.drew ?_ | (with_reducible refine Below.trans ?_ (Below.mono (by with_reducible assumption) (by first | omega | (simp; done) | (simp; omega)))))) (by omega) HE.out.1 HE.out.2)
  have HE := Lib.hid (ask_go HO.out (by simp only [stopA, Int.toNat_natCast, HT.out]; simp [hh]))
  have HH := Lib.hid hh
  clear hh
  have hF := o4.f.cellAt (k := G) (by omega)
  have HR := Lib.hid (HC.out.fr G hG)
  by_cases hf : 0 < cx.free.getD G 0
  · have HY := Lib.hid (show askY cx (S : Int) (G : Int) = ⟨cx.free.set G (cx.free.getD G 0 - 1), cx.holds.set S ⟨wiL (hAt cx.holds S).has (G : Int), -1⟩⟩ by
      unfold askY; rw [if_neg (by simp; exact hf)]; simp)
    have hcall := fun W' (h : W' = w4) => l22Take_any gF 5 cf3 gA n3 c3 R3 cx S G w1.heap.size W' (by rw [h]; exact o4) (by rw [h]; omega) hS hG (by omega) (by omega) hf (by have := HR.out.2; omega)
    generalize hvG : cx.free.getD G 0 = vG at hF hf
    go_wp2_with (first
      | (go_at_call 44; refine (l1Has_any A1 n1 c1 w4.heap.size xs _ _ hi hn1).mono ?_; rintro e w' ⟨rfl, rfl⟩; rw [HH.out])
      | (go_at_call 40; refine (hcall _ rfl).mono ?_; rintro e w5 ⟨R5, rfl, o5, hb5, z5, bx5⟩; have r5 := bx5 _ _ _ (by decide) (by decide) r4; have g5 := r5.two; have q5 := ((r5.set_ 0 (.slice (some ⟨gF, 0, none⟩) 5 cf3)).set_ 1 (.slice (some ⟨gA, 0, none⟩) n3 c3)).two; have HB5 : Below w.heap.size w w5 := B4.trans (hb5.mono (by omega))))
    exact bodyPost_ret (v := .tuple #[.agg #[.slice (some ⟨gF, 0, none⟩) 5 cf3, .slice (some ⟨gA, 0, none⟩) n3 c3], .bool true]) (by simp [results, Try.results19, go_sem, q5]) rfl
      (RetCB.mk (OwnC.setBelow (OwnC.setBelow o5 (by first | omega | (simp; done) | (simp; omega)) _) (by first | omega | (simp; done) | (simp; omega)) _) ((HB5.setCell (by simp) _).setCell (by simp) _) (by omega) (HE.out.1.trans HY.out) HE.out.2)
  · obtain ⟨A5, n5, c5, v5, xs5, o5, hn5, g0, g1, z0', z1', hR5, hk5, hA5⟩ := o4.cells hS
    obtain ⟨rfl, rfl⟩ : xs5 = xs ∧ v5 = -1 := by have := hk5.out; rw [hk1.out] at this; injection this with this; injection this with h1 h2; exact ⟨h1.symm, h2.symm⟩
    have HY := Lib.hid (show askY cx (S : Int) (G : Int) = ⟨cx.free, cx.holds.set S ⟨xs5, (G : Int)⟩⟩ by
      unfold askY; rw [if_pos (by simp only [Int.toNat_natCast]; omega)]; simp [HT.out])
    have X6 := o4.setWait hR5.out hk5.out (G : Int)
    have bx6 : Boxes w4 _ := Boxes.row (i := S * 2 + 1) o4.o (.int .i64 (G : Int)) (.inr rfl)
    have r6 := bx6 _ _ _ (by decide) (by decide) r4
    have u6 := bx6 _ _ _ (by decide) (by decide) u4
    have B6 : Below w.heap.size w (w4.setCell ⟨gA, S * 2 + 1, none⟩ (.int .i64 (G : Int))) := B4.setCell (show w.heap.size ≤ gA by omega) _
    have g6 := r6.two
    have fu6 := u6.two
    have q6 := ((r6.set_ 0 (.slice (some ⟨gF, 0, none⟩) 5 cf3)).set_ 1 (.slice (some ⟨gA, 0, none⟩) n3 c3)).two
    generalize hvG : cx.free.getD G 0 = vG at hF hf
    go_wp2_with (go_at_call 44; refine (l1Has_any A1 n1 c1 w4.heap.size _ _ _ hi hn1).mono ?_; rintro e w' ⟨rfl, rfl⟩; rw [HH.out])
    exact bodyPost_ret (v := .tuple #[.agg #[.slice (some ⟨gF, 0, none⟩) 5 cf3, .slice (some ⟨gA, 0, none⟩) n3 c3], .bool true]) (by simp [results, Try.results19, go_sem, q6]) rfl
      (RetCB.mk (OwnC.setBelow (OwnC.setBelow X6 (by first | omega | (simp; done) | (simp; omega)) _) (by first | omega | (simp; done) | (simp; omega)) _) ((B6.setCell (by simp) _).setCell (by simp) _) (by omega) (HE.out.1.trans HY.out) HE.out.2)
end Go.Proofs.Ytehgipbedlamaaa
