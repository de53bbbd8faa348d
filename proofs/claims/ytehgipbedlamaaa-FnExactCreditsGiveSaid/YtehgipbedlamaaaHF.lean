/-
  CreditsGive, the program's.
-/
import Derived.Test.YtehgipbedlamaaaHE
import Derived.Test.YtehgipbedlamaaaCG
import Derived.Deep.QuietTactic
import Derived.BigQuiet
namespace Go.Proofs.Ytehgipbedlamaaa
open Go.RowKit
set_option linter.unusedVariables false

theorem OwnC.drewN {w : World} {base nf cf n c : Nat} {F A : Option Addr} {R : List HR} {cx : CX} (h : OwnC w base F nf cf A n c R cx) (k : Nat) : OwnC (w.drewN k) base F nf cf A n c R cx := h.kept (row := none) ⟨rfl, rfl, rfl, Nat.le_refl _, fun _ _ _ => rfl⟩ (fun k e => by cases e)
set_option maxHeartbeats 8000000 in
theorem implGive_any (F : Option Addr) (nf cf : Nat) (A : Option Addr) (n c : Nat) (R : List HR) (cx : CX) (s : Int) (w : World) (hc : Cr w w.heap.size F nf A n R cx) (hnf : nf ≤ 1048576) (hn : n ≤ 1048576) :
    Calls Try.prog 12 #[.agg #[.slice F nf cf, .slice A n c], .int .i64 s] w (RetCB (giveC cx s) (giveB cx s) w) := by
  generalize hW : (w.alloc (.cells #[.slice F nf cf, .slice A n c] 26)).alloc (.cells #[.slice none 0 0, .slice none 0 0] 26) = W
  obtain ⟨b0, b1, X0, B0, z0⟩ := askHead hc hW
  have f0 := b0.two
  have l0 := b0.lt
  have l1 := b1.lt
  have hnl := Lib.hid hc.h.l
  cases hv : cvB cx
  · have HN := Lib.hid (give_no (c := cx) (s := s) (by simp [giveOk, hv]))
    go_enter Try.func12, Try.ntmps12
    go_wp2_with fail
    refine (implCV_any F nf cf A n c R cx W X0 hnf hn).mono ?_
    rintro e w1 ⟨rfl, hb1⟩
    have r1 := b1.below hb1 l1
    have f1 := (b0.below hb1 l0).two
    have g1 := r1.two
    rw [hv]
    go_wp2_with fail
    exact bodyPost_ret (v := .tuple #[.agg #[.slice none 0 0, .slice none 0 0], .bool false]) (by simp [results, Try.results12, go_sem, g1]) rfl (RetCB.zero (by repeat' (first | with_reducible exact Below.refl _ _ | with_reducible assumption | with_reducible refine Below.setCell ?_ (by first | omega | (simp; done) | (simp; omega)) _ | with_reducible refine Below.alloc ?_ (by first | omega | (simp; done) | (simp; omega)) _ | with_reducible refine below_drewN ?_ _ | with_reducible refine Below.drew ?_ | (with_reducible refine Below.trans ?_ (Below.mono (by with_reducible assumption) (by first | omega | (simp; done) | (simp; omega)))))) HN.out.1 HN.out.2)
  have HV := Lib.hid hv
  cases hs : inB s 0 ((n : Int) - 1)
  · have HN := Lib.hid (give_no (c := cx) (s := s) (by simp [giveOk, hnl.out, hs]))
    have HS := Lib.hid hs
    clear hs
    go_enter Try.func12, Try.ntmps12
    go_wp2_with fail
    refine (implCV_any F nf cf A n c R cx W X0 hnf hn).mono ?_
    rintro e w1 ⟨rfl, hb1⟩
    have r1 := b1.below hb1 l1
    have f1 := (b0.below hb1 l0).two
    rw [hv]
    clear hv
    go_wp2_with fail
    refine (isSender_any F nf cf A n c s w1 hn).mono ?_
    rintro e w2 ⟨rfl, hb2⟩
    have HB2 : Below w.heap.size w w2 := (B0.trans (hb1.mono (by omega))).trans (hb2.mono (by have := hb1.size; omega))
    have r2 := r1.below hb2 r1.lt
    have f2 := ((b0.below hb1 l0).below hb2 (b0.below hb1 l0).lt).two
    have g2 := r2.two
    rw [HS.out]
    clear f1 hb1 hb2
    go_wp2_with fail
    exact bodyPost_ret (v := .tuple #[.agg #[.slice none 0 0, .slice none 0 0], .bool false]) (by simp [results, Try.results12, go_sem, g2]) rfl (RetCB.zero (by repeat' (first | with_reducible exact Below.refl _ _ | with_reducible assumption | with_reducible refine Below.setCell ?_ (by first | omega | (simp; done) | (simp; omega)) _ | with_reducible refine Below.alloc ?_ (by first | omega | (simp; done) | (simp; omega)) _ | with_reducible refine below_drewN ?_ _ | with_reducible refine Below.drew ?_ | (with_reducible refine Below.trans ?_ (Below.mono (by with_reducible assumption) (by first | omega | (simp; done) | (simp; omega)))))) HN.out.1 HN.out.2)
  have HS := Lib.hid hs
  have HO := Lib.hid (show giveOk cx s = true by simp [giveOk, hv, hnl.out, hs])
  have HC := Lib.hid (cv_iff.1 hv)
  obtain ⟨S, rfl⟩ : ∃ S : Nat, s = (S : Int) := ⟨s.toNat, by have : 0 ≤ s ∧ s ≤ (n : Int) - 1 := by simpa [inB] using hs
                                                             omega⟩
  have hS : S < n := by have : (0 : Int) ≤ (S : Int) ∧ (S : Int) ≤ (n : Int) - 1 := by simpa [inB] using hs
                        omega
  clear hs
  go_enter Try.func12, Try.ntmps12
  go_wp2_with fail
  refine (implCV_any F nf cf A n c R cx W X0 hnf hn).mono ?_
  rintro e w1 ⟨rfl, hb1⟩
  have p1 := b0.below hb1 l0
  have X1 := X0.up hb1 hb1.size
  have s1 := hb1.size
  have f1 := p1.two
  rw [hv]
  clear hv hW f0
  go_wp2_with fail
  refine (isSender_any F nf cf A n c S w1 hn).mono ?_
  rintro e w2 ⟨rfl, hb2⟩
  have s2 := hb2.size
  have p2 := p1.below hb2 p1.lt
  have X2 := X1.up hb2 hb2.size
  have B2 : Below W.heap.size W w2 := hb1.trans (hb2.mono s1)
  have f2 := p2.two
  rw [HS.out]
  clear p1 X1 hb1 hb2 f1
  go_wp2_with fail
  refine (copyC_any F nf cf A n c R cx w2 X2 hnf hn).mono ?_
  rintro e w3 ⟨F3, n5, cf3, A3, n3, c3, R3, rfl, o3, hb3⟩
  have s3 := hb3.size
  obtain rfl : n5 = 5 := by have := o3.f.len; have := HC.out.f; omega
  obtain rfl : n3 = n := by have h1 := o3.l; have h2 := hnl.out; omega
  obtain ⟨gF, rfl, hF1, hF2⟩ := o3.f.form (by omega)
  obtain ⟨gA, rfl, hA1, hA2⟩ := o3.form (by omega)
  have u4 := Blk.new w3 26 #[.slice (some ⟨gF, 0, none⟩) 5 cf3, .slice (some ⟨gA, 0, none⟩) n3 c3]
  have o4 := o3.alloc (.cells #[.slice (some ⟨gF, 0, none⟩) 5 cf3, .slice (some ⟨gA, 0, none⟩) n3 c3] 26)
  have B4 : Below W.heap.size W (w3.alloc (.cells #[.slice (some ⟨gF, 0, none⟩) 5 cf3, .slice (some ⟨gA, 0, none⟩) n3 c3] 26)) := (B2.trans (hb3.mono (by omega))).alloc (by omega) _
  have z4 : w3.heap.size < (w3.alloc (.cells #[.slice (some ⟨gF, 0, none⟩) 5 cf3, .slice (some ⟨gA, 0, none⟩) n3 c3] 26)).heap.size := by simp
  clear f2 o3 hb3 p2 X2 B2
  go_upto_region 4 with (fail)
  generalize w3.alloc (.cells #[.slice (some ⟨gF, 0, none⟩) 5 cf3, .slice (some ⟨gA, 0, none⟩) n3 c3] 26) = w4 at u4 o4 B4 z4 ⊢
  have p4 := b0.below B4 l0
  have r4 := b1.below B4 l1
  have X4 := hc.below (B0.trans (B4.mono (by omega)))
  have HB4 : Below w.heap.size w w4 := B0.trans (B4.mono (by omega))
  obtain ⟨ad, A1, n1, c1, v, xs, rfl, hbb, hc0, hc1, hc2, hc3, hi, hn1, hk1, hs1, hR1⟩ := X4.h.el hS
  obtain rfl : nf = 5 := by have h1 := X4.f.len; have h2 := HC.out.f; omega
  obtain ⟨adF, rfl, -, -⟩ := X4.f.at_ (k := 0) (by omega)
  have f4 := p4.two
  have fu := u4.two
  have fr := r4.two
  have q4 := ((r4.set_ 0 (.slice (some ⟨gF, 0, none⟩) 5 cf3)).set_ 1 (.slice (some ⟨gA, 0, none⟩) n3 c3)).two
  have HT := Lib.hid (hAt_of hk1.out)
  have HL := Lib.hid hi.len
  have gS1 : (S : Int) < (n3 : Int) := by omega
  by_cases hv0 : v = -1
  case neg =>
    have HE := Lib.hid (give_stop HO.out (by simp only [stopG, Int.toNat_natCast, HT.out]; simp [hv0]))
    have hv1 : (v != -1) = true := by simp [hv0]
    have hv2 : (v == -1) = false := by simp [hv0]
    go_wp2_with fail
    exact bodyPost_ret (v := .tuple #[.agg #[.slice (some ⟨gF, 0, none⟩) 5 cf3, .slice (some ⟨gA, 0, none⟩) n3 c3], .bool false]) (by simp [results, Try.results12, go_sem, q4]) rfl
      (RetCB.mk (OwnC.setBelow (OwnC.setBelow o4 (by first | omega | (simp; done) | (simp; omega)) _) (by first | omega | (simp; done) | (simp; omega)) _) (by repeat' (first | with_reducible exact Below.refl _ _ | with_reducible assumption | with_reducible refine Below.setCell ?_ (by first | omega | (simp; done) | (simp; omega)) _ | with_reducible refine Below.alloc ?_ (by first | omega | (simp; done) | (simp; omega)) _ | with_reducible refine below_drewN ?_ _ | with_reducible refine Below.drew ?_ | (with_reducible refine Below.trans ?_ (Below.mono (by with_reducible assumption) (by first | omega | (simp; done) | (simp; omega)))))) (by omega) HE.out.1 HE.out.2)
  subst hv0
  by_cases hn0 : n1 = 0
  · have HE := Lib.hid (give_stop HO.out (by simp only [stopG, Int.toNat_natCast, HT.out]; simp; left; exact List.eq_nil_of_length_eq_zero (by rw [HL.out]; exact hn0)))
    subst hn0
    go_wp2_with fail
    exact bodyPost_ret (v := .tuple #[.agg #[.slice (some ⟨gF, 0, none⟩) 5 cf3, .slice (some ⟨gA, 0, none⟩) n3 c3], .bool false]) (by simp [results, Try.results12, go_sem, q4]) rfl
      (RetCB.mk (OwnC.setBelow (OwnC.setBelow o4 (by first | omega | (simp; done) | (simp; omega)) _) (by first | omega | (simp; done) | (simp; omega)) _) (by repeat' (first | with_reducible exact Below.refl _ _ | with_reducible assumption | with_reducible refine Below.setCell ?_ (by first | omega | (simp; done) | (simp; omega)) _ | with_reducible refine Below.alloc ?_ (by first | omega | (simp; done) | (simp; omega)) _ | with_reducible refine below_drewN ?_ _ | with_reducible refine Below.drew ?_ | (with_reducible refine Below.trans ?_ (Below.mono (by with_reducible assumption) (by first | omega | (simp; done) | (simp; omega)))))) (by omega) HE.out.1 HE.out.2)
  have hn2 : ((n1 : Int) == 0) = false := by rw [beq_eq_false_iff_ne]; omega
  have HM := Lib.hid (HC.out.at_ (k := S) (by rw [hnl.out]; exact hS))
  rw [HT.out] at HM
  go_wp2_with fail
  go_loopw [47] (fun i wr => ∃ k : Nat, k ≤ n1 ∧ i = .int .i64 k ∧ w4 = wr ∧ ∀ y ∈ xs.take k, cx.free.getD y.toNat 0 ≠ 9) (fun i _ => n1 - (intOf i).toNat)
  case atStart => exact ⟨0, Nat.zero_le _, rfl, by simp, by simp⟩
  case round =>
    obtain ⟨k, hk, rfl, rfl, h9⟩ := hrel
    have H9 := Lib.hid h9
    clear h9
    by_cases hlt : k < n1
    · obtain ⟨adx, x, rfl, hbx, hcx, hkx, hsx⟩ := hi.elem hlt
      obtain ⟨X, hX⟩ : ∃ X : Nat, x = (X : Int) := ⟨x.toNat, by have := HM.out.m x (List.mem_of_getElem? hkx.out); omega⟩
      subst hX
      have hX5 : X < 5 := by have := HM.out.m _ (List.mem_of_getElem? hkx.out); omega
      have gX : (X : Int) < 5 := by omega
      obtain ⟨adF', hF', -, hcF⟩ := X4.f.at_ (k := X) hX5
      injection hF' with hF'
      subst hF'
      by_cases h9 : cx.free.getD X 0 = 9
      · have HE := Lib.hid (give_stop HO.out (by simp only [stopG, Int.toNat_natCast, HT.out, Bool.or_eq_true, List.any_eq_true]; exact .inr (.inr ⟨_, List.mem_of_getElem? hkx.out, by simpa using h9⟩)))
        rw [h9] at hcF
        clear h9
        go_wp2_with fail
        exact bodyPost_ret (v := .tuple #[.agg #[.slice (some ⟨gF, 0, none⟩) 5 cf3, .slice (some ⟨gA, 0, none⟩) n3 c3], .bool false]) (by simp [results, Try.results12, go_sem, q4]) rfl
          (RetCB.mk (OwnC.setBelow (OwnC.setBelow o4 (by first | omega | (simp; done) | (simp; omega)) _) (by first | omega | (simp; done) | (simp; omega)) _) (by repeat' (first | with_reducible exact Below.refl _ _ | with_reducible assumption | with_reducible refine Below.setCell ?_ (by first | omega | (simp; done) | (simp; omega)) _ | with_reducible refine Below.alloc ?_ (by first | omega | (simp; done) | (simp; omega)) _ | with_reducible refine below_drewN ?_ _ | with_reducible refine Below.drew ?_ | (with_reducible refine Below.trans ?_ (Below.mono (by with_reducible assumption) (by first | omega | (simp; done) | (simp; omega)))))) (by omega) HE.out.1 HE.out.2)
      · have h9' : (cx.free.getD X 0 == 9) = false := by rw [beq_eq_false_iff_ne]; exact h9
        have H9' := Lib.hid h9
        clear h9
        generalize hvX : cx.free.getD X 0 = vX at hcF h9' H9'
        go_wp2_with fail
        go_roundw
        case rel => exact ⟨k + 1, by omega, by go_num, by simp, fun y hy => by
          rw [hsx.out, List.mem_append] at hy
          rcases hy with hy | hy
          · exact H9.out y hy
          · simp only [List.mem_singleton] at hy
            subst hy
            rw [Int.toNat_natCast, hvX]; exact H9'.out⟩
        case measure => first | (simp [intOf]; done) | (simp [intOf]; omega)
    · obtain rfl : n1 = k := by omega
      clear hlt hk
      have HE := Lib.hid (give_go HO.out (by
        simp only [stopG, Int.toNat_natCast, HT.out]
        simp only [bne_self_eq_false, Bool.false_or, Bool.or_eq_false_iff, decide_eq_false_iff_not, List.any_eq_false, beq_iff_eq]
        refine ⟨by rw [HL.out]; exact hn0, fun y hy => H9.out y (by rw [List.take_of_length_le (by rw [HL.out]; exact Nat.le_refl _)]; exact hy)⟩))
      have HXS := Lib.hid (show hasS cx (S : Int) = xs by unfold hasS; rw [Int.toNat_natCast, HT.out])
      have hSl : (S : Int).toNat < cx.holds.length := by rw [Int.toNat_natCast, hnl.out]; exact hS
      have HSl := Lib.hid hSl
      obtain ⟨A5, n5, c5, v5, xs5, o5, hn5, g0, g1, y0, y1, hR5, hk5, hA5⟩ := o4.cells hS
      obtain rfl : v5 = -1 := by have := hk5.out; rw [hk1.out] at this; injection this with this; injection this with h1 h2; exact h2.symm
      have X5 := o4.setHas (A7 := none) (n7 := 0) (c7 := 0) (xs := []) hR5.out hk5.out (Own.nil _ _) (by omega) (fun x hx => by simp [blk] at hx)
      have bx5 : Boxes w4 _ := Boxes.row (i := S * 2) o4.o (.slice none 0 0) (.inr rfl)
      have u5 := bx5 _ _ _ (by decide) (by decide) u4
      have B5 : Below W.heap.size w4 (w4.setCell ⟨gA, S * 2, none⟩ (.slice none 0 0)) := (Below.refl _ _).setCell (show W.heap.size ≤ gA by omega) _
      have hG0 := gK_zero HC.out (S : Int)
      unfold give0 at hG0
      rw [Int.toNat_natCast, show (hz : HX) = ⟨[], -1⟩ from rfl] at hG0
      simp only at X5
      rw [← hG0] at X5
      clear hG0 hn2 hSl H9 q4 fr bx5
      have fu5 := u5.two
      have z5 : w3.heap.size < (w4.setCell ⟨gA, S * 2, none⟩ (.slice none 0 0)).heap.size := by simp; omega
      go_wp2_with fail
      go_loopw [66] (fun i wr => ∃ (k : Nat) (R6 : List HR), k ≤ n1 ∧ i = .int .i64 k ∧ Below W.heap.size w4 wr ∧ Blk wr w3.heap.size 26 #[.slice (some ⟨gF, 0, none⟩) 5 cf3, .slice (some ⟨gA, 0, none⟩) n3 c3] ∧ w3.heap.size < wr.heap.size ∧ OwnC wr w2.heap.size (some ⟨gF, 0, none⟩) 5 cf3 (some ⟨gA, 0, none⟩) n3 c3 R6 (gK cx (S : Int) k)) (fun i _ => n1 - (intOf i).toNat)
      case atStart => exact ⟨0, _, Nat.zero_le _, rfl, B5, u5, z5, X5⟩
      case round =>
        clear X5 u5 fu5 B5 z5 g0 g1 y0 y1 o4 u4 fu f4
        obtain ⟨k, R6, hk, rfl, hbw, u, zu, o⟩ := hrel
        have zz := hbw.size
        have p := p4.below hbw (by omega)
        have f := p.two
        have fu := u.two
        by_cases hlt : k < n1
        · obtain ⟨adx, x, rfl, hbx, hcx, hkx, hsx⟩ := (hi.below (hbw.mono (by omega))).elem hlt
          have HK := Lib.hid (show (hasS cx (S : Int))[k]? = some x by rw [HXS.out]; exact hkx.out)
          obtain ⟨X, hX⟩ : ∃ X : Nat, x = (X : Int) := ⟨x.toNat, by have := (gK_new HC.out HSl.out HK.out).1; omega⟩
          subst hX
          have hX5 : X < 5 := by have := (gK_new HC.out HSl.out HK.out).1; omega
          have gX : (X : Int) < 5 := by omega
          have HSU := Lib.hid (gK_succ HC.out HSl.out HK.out)
          have hcu := gK_cur HC.out HSl.out HK.out
          rw [Int.toNat_natCast] at hcu
          have hfr := HC.out.fr X hX5
          have gk : (k : Int) < (n1 : Int) := by omega
          go_wp2_with fail
          refine (waiters_any (some ⟨gF, 0, none⟩) 5 cf3 (some ⟨gA, 0, none⟩) n3 c3 R6 (gK cx (S : Int) k) (X : Int) wr o.reads hn).mono ?_
          rintro e w7 ⟨hb7, hfw⟩
          have s7 := hb7.size
          have o7 := o.below hb7
          have u7 := u.below hb7 u.lt
          have p7 := p.below hb7 p.lt
          have fu7 := u7.two
          have f7 := p7.two
          have B7 : Below W.heap.size w4 w7 := hbw.trans (hb7.mono (by omega))
          clear f fu hcx
          rcases hfw with ⟨rfl, hnone⟩ | ⟨q, m, y, rfl, hq, hsome⟩
          · have hF7 := o7.f.cellAt (k := X) hX5
            have o8 := o7.setFree X ((gK cx (S : Int) k).free.getD X 0 + 1)
            have bx8 := Boxes.row (i := X) o7.f (.int .i64 ((gK cx (S : Int) k).free.getD X 0 + 1)) (.inl rfl)
            have HN := Lib.hid (giveStep_none hnone)
            rw [Int.toNat_natCast] at HN
            rw [← HN.out, HSU.out] at o8
            have hvw : IntKind.i64.wrap ((gK cx (S : Int) k).free.getD X 0 + 1) = (gK cx (S : Int) k).free.getD X 0 + 1 := IntWalk.i64_in _ (by omega)
            clear hnone HN hcu
            generalize (gK cx (S : Int) k).free.getD X 0 = vX at hF7 o8 bx8 hvw
            go_wp2_with fail
            go_roundw
            case rel => exact ⟨k + 1, _, by omega, by go_num, B7.setCell (show W.heap.size ≤ gF by omega) _, bx8 _ _ _ (by decide) (by decide) u7, by simp; omega, o8⟩
            case measure => first | (simp [intOf]; done) | (simp [intOf]; omega)
          · have hm : m < n3 := by have := (firstW_some hsome).1; rw [gK_hlen, hnl.out] at this; exact this
            have gm : (m : Int) < (n3 : Int) := by omega
            have fq := hq.two
            obtain ⟨A9, n9, c9, v9, xs9, o9, hn9, g0, g1, y0, y1, hR9, hk9, hA9⟩ := o7.cells hm
            have HM2 := Lib.hid (giveStep_some hsome)
            clear hsome hcu
            go_wp2_with fail
            go_quiet (fail)
            have o8 : OwnC (w7.drewN nq) w2.heap.size (some ⟨gF, 0, none⟩) 5 cf3 (some ⟨gA, 0, none⟩) n3 c3 R6 (gK cx (S : Int) k) := o7.drewN nq
            have u8 := u7.drewN nq
            have i8 : Ints (w7.drewN nq) (w7.drewN nq).heap.size A9 n9 xs9 := o9.ints
            have B8 : Below W.heap.size w4 (w7.drewN nq) := below_drewN B7 _
            have z8 : (w7.drewN nq).heap.size = w7.heap.size := rfl
            go_wp2_with (go_at_call 36; refine (with_any A9 n9 c9 (X : Int) xs9 _ i8 hn9).mono ?_; rintro e wa ⟨Aa, na, ca, rfl, oa, hba⟩; have Xa := o8.below hba; have ua := u8.below hba u8.lt; have Ba : Below W.heap.size w4 wa := B8.trans (hba.mono (by omega)); have sa := hba.size; obtain ⟨_, _, _, _, _, _, _, e0, e1, x0, x1, _, _, _⟩ := Xa.cells hm; obtain ⟨Xb, bxb, Bb⟩ := OwnC.put (v := -1) o8 Xa hR9.out hk9.out oa (by omega) (wi_len _ _))
            have HA9 := hA9.out
            have HM3 := HM2.out
            rw [HSU.out, HA9] at HM3
            simp only at HM3
            rw [← HM3] at Xb
            go_roundw
            case rel => exact ⟨k + 1, _, by omega, by go_num, Ba.trans (Bb.mono (by omega)), bxb _ _ _ (by decide) (by decide) ua, by simp; omega, Xb⟩
            case measure => first | (simp [intOf]; done) | (simp [intOf]; omega)
        · obtain rfl : n1 = k := by omega
          have HLL := HL.out
          rw [← HLL, ← HXS.out, gK_end HE.out.1] at o
          have r := r4.below hbw (by omega)
          have fr := r.two
          have q := ((r.set_ 0 (.slice (some ⟨gF, 0, none⟩) 5 cf3)).set_ 1 (.slice (some ⟨gA, 0, none⟩) n3 c3)).two
          have HBr : Below w.heap.size w wr := HB4.trans (hbw.mono (by omega))
          go_wp2_with fail
          exact bodyPost_ret (v := .tuple #[.agg #[.slice (some ⟨gF, 0, none⟩) 5 cf3, .slice (some ⟨gA, 0, none⟩) n3 c3], .bool true]) (by simp [results, Try.results12, go_sem, q]) rfl
            (RetCB.mk (OwnC.setBelow (OwnC.setBelow o (by first | omega | (simp; done) | (simp; omega)) _) (by first | omega | (simp; done) | (simp; omega)) _) ((HBr.setCell (by simp) _).setCell (by simp) _) (by omega) HE.out.2.1 HE.out.2.2)
end Go.Proofs.Ytehgipbedlamaaa
