/-
  The walk of FnCreditsKept: the law returns true and writes nothing that was there. Printed by gen_cl.py.
-/
import Derived.Test.YtehgipbedlamaaaHP
namespace Go.Proofs.Ytehgipbedlamaaa
open Go.RowKit
set_option linter.unusedVariables false

set_option maxRecDepth 100000 in
set_option maxHeartbeats 8000000 in
theorem fnCreditsKept_walk (A : Option Addr) (n c : Nat) (bs : List Int) (w : World) (hc : n ≤ c) (hcm : c ≤ 9223372036854775807) (hb : Bytes w w.heap.size A n bs) :
    Calls Try.prog 4 #[.slice A n c] w fun e w' => e = .returned (.bool true) ∧ Below w.heap.size w w' := by
  by_cases hn : 1048576 < n
  · go_enter Try.func4, Try.ntmps4
    go_wp2
    go_ret
    exact ⟨rfl, Below.refl _ _⟩
  go_enter Try.func4, Try.ntmps4
  go_wp2_with fail
  refine (drawCA_any A n c bs w hb (by omega) hc hcm).mono ?_
  rintro e w1 ⟨F, nf, cf, A1, n1, c1, R, cx, s, g, rfl, X1, hnf, hn1, HB1⟩
  have C := Bc.start (cf := cf) (c := c1) X1 HB1 hnf hn1
  clear X1 hb
  have fC := C.b.two
  go_wp2_with fail
  refine (implAsk_any F nf cf A1 n1 c1 R cx s g _ C.x (by omega) (by omega)).mono ?_
  rintro e w2 ⟨F2, nf2, cf2, A2, n2, c2, R2, rfl, o2, hb2⟩
  have HL := Lib.hid (askC_len s g C.lens.1 C.lens.2)
  have C2 := C.step hb2
  have O := Bc.own o2 C2.bl HL.out.1 HL.out.2
  have C := C2.alloc (.cells #[.slice F2 nf2 cf2, .slice A2 n2 c2] 26)
  clear hb2 C2 o2 fC
  have fC := C.b.two
  have fO := O.b.two
  go_wp2_with fail
  refine (specAsk_any F nf cf A1 n1 c1 R cx s g _ C.x (by omega) (by omega)).mono ?_
  rintro e w3 ⟨F3, nf3, cf3, A3, n3, c3, R3, rfl, o3, hb3⟩
  have C2 := C.step hb3
  have O2 := O.step hb3
  have V := Bc.own o3 C2.bl HL.out.1 HL.out.2
  have C := C2.alloc (.cells #[.slice F3 nf3 cf3, .slice A3 n3 c3] 26)
  have O := O2.alloc (.cells #[.slice F3 nf3 cf3, .slice A3 n3 c3] 26)
  clear hb3 C2 O2 o3 fC fO
  have fC := C.b.two
  have fO := O.b.two
  have fV := V.b.two
  go_upto_region 6 with (fail)
  generalize w3.alloc (.cells #[.slice F3 nf3 cf3, .slice A3 n3 c3] 26) = w4 at C O V fC fO fV ⊢
  have hnf2 := O.f5
  have hn2 := O.n6
  have hnf3 := V.f5
  cases hB : askB cx s g
  · skip
    go_wp2_with fail
    refine (sameC_same F2 F3 nf2 cf2 nf3 cf3 A2 A3 n2 c2 n3 c3 R2 R3 (askC cx s g) _ O.x V.x (by omega) (by omega) (by omega)).mono ?_
    rintro e w5 ⟨rfl, hs1⟩
    have C1 := C.step hs1
    have O1 := O.step hs1
    have V1 := V.step hs1
    have fC1 := C1.b.two
    have fO1 := O1.b.two
    have fV1 := V1.b.two
    clear hs1 fC fO fV
    go_wp2_with fail
    refine (sameC_same F2 F3 nf2 cf2 nf3 cf3 A2 A3 n2 c2 n3 c3 R2 R3 (askC cx s g) _ O1.x V1.x (by omega) (by omega) (by omega)).mono ?_
    rintro e w6 ⟨rfl, hs2⟩
    have C2 := C1.step hs2
    have O2 := O1.step hs2
    have V2 := V1.step hs2
    have fC2 := C2.b.two
    have fO2 := O2.b.two
    have fV2 := V2.b.two
    clear hs2 fC1 fO1 fV1
    go_wp2_with fail
    go_ret
    exact ⟨rfl, C2.bl⟩
  go_wp2_with fail
  refine (sameC_same F2 F3 nf2 cf2 nf3 cf3 A2 A3 n2 c2 n3 c3 R2 R3 (askC cx s g) _ O.x V.x (by omega) (by omega) (by omega)).mono ?_
  rintro e w5 ⟨rfl, hs1⟩
  have C1 := C.step hs1
  have O1 := O.step hs1
  have V1 := V.step hs1
  have fC1 := C1.b.two
  have fO1 := O1.b.two
  have fV1 := V1.b.two
  clear hs1 fC fO fV
  have HBy := Lib.hid hB
  have HAY := Lib.hid (ask_yes HBy.out)
  have HCv := Lib.hid HAY.out.1
  have HAC := Lib.hid (show Cv (askC cx s g) by rw [HAY.out.2.2.2.2.2]; exact ask_cv HBy.out)
  have HF5 := Lib.hid (show nf = 5 by have h1 := C1.x.f.len; have h2 := HCv.out.f; omega)
  have HF52 := Lib.hid (show nf2 = 5 by have h1 := O1.x.f.len; have h2 := HAC.out.f; omega)
  have HK1 := Lib.hid (fun (G : Nat) (hG : G < 5) => (show crOf (askC cx s g) (G : Int) = crOf cx (G : Int) by rw [HAY.out.2.2.2.2.2]; exact kept_ask HBy.out (by omega) (by omega)))
  clear hB
  go_wp2_with fail
  refine (implGive_any F nf cf A1 n1 c1 R cx s _ C1.x (by omega) (by omega)).mono ?_
  rintro e w6 ⟨F6, nf6, cf6, A6, n6, c6, R6, rfl, o6, hb6⟩
  have C2 := C1.step hb6
  have O2 := O1.step hb6
  have HL6 := Lib.hid (giveC_len s C2.lens.1 C2.lens.2)
  have X := Bc.own o6 C2.bl HL6.out.1 HL6.out.2
  have C := C2.alloc (.cells #[.slice F6 nf6 cf6, .slice A6 n6 c6] 26)
  have O := O2.alloc (.cells #[.slice F6 nf6 cf6, .slice A6 n6 c6] 26)
  have hnf6 := X.f5
  have hn6 := X.n6
  clear hb6 o6 C1 O1 V1 C2 O2 V fC1 fO1 fV1
  have z7 := C.bl.size
  have fC := C.b.two
  have fO := O.b.two
  have fX := X.b.two
  cases hfi : giveB cx s
  case false =>
    go_wp2_with fail
    go_loopw [12] (fun i wr => ∃ G : Nat, G ≤ 5 ∧ i = .int .i64 G ∧ Bc w wr w1.heap.size F nf cf A1 n1 c1 R cx ∧ Bc w wr w2.heap.size F2 nf2 cf2 A2 n2 c2 R2 (askC cx s g) ∧ Bc w wr w6.heap.size F6 nf6 cf6 A6 n6 c6 R6 (giveC cx s)) (fun i _ => 5 - (intOf i).toNat)
    case atStart => exact ⟨0, by omega, rfl, C, O, X⟩
    case round =>
      clear C O X fC fO fX
      obtain ⟨G, hG5, rfl, C, O, X⟩ := hrel
      have fC := C.b.two
      have fO := O.b.two
      have fX := X.b.two
      by_cases hG : G < 5
      · have hk1 := HK1.out G hG
        have CD := C.step ((Below.refl _ _).drew)
        have OD := O.step ((Below.refl _ _).drew)
        have XD := X.step ((Below.refl _ _).drew)
        have kO := fun W' (h : Bc w W' w2.heap.size F2 nf2 cf2 A2 n2 c2 R2 (askC cx s g)) => creditsOf_any F2 nf2 cf2 A2 n2 c2 R2 (askC cx s g) G W' h.x (by have := HF52.out; omega) (by omega) (by omega) (HAC.out.fr G hG).1 (HAC.out.fr G hG).2
        rw [hk1] at kO
        have kC := fun W' (h : Bc w W' w1.heap.size F nf cf A1 n1 c1 R cx) => creditsOf_any F nf cf A1 n1 c1 R cx G W' h.x (by have := HF5.out; omega) (by omega) (by omega) (HCv.out.fr G hG).1 (HCv.out.fr G hG).2
        clear hk1
        generalize crOf cx (G : Int) = vv at kO kC
        have KS : ∀ W', Bc w W' w2.heap.size F2 nf2 cf2 A2 n2 c2 R2 (askC cx s g) → Bc w W' w1.heap.size F nf cf A1 n1 c1 R cx → Bc w W' w6.heap.size F6 nf6 cf6 A6 n6 c6 R6 (giveC cx s) → W'.cell? ⟨w2.heap.size, 0, none⟩ = some (.slice F2 nf2 cf2) ∧ W'.cell? ⟨w2.heap.size, 1, none⟩ = some (.slice A2 n2 c2) ∧ W'.cell? ⟨w1.heap.size, 0, none⟩ = some (.slice F nf cf) ∧ W'.cell? ⟨w1.heap.size, 1, none⟩ = some (.slice A1 n1 c1) ∧ W'.cell? ⟨w6.heap.size, 0, none⟩ = some (.slice F6 nf6 cf6) ∧ W'.cell? ⟨w6.heap.size, 1, none⟩ = some (.slice A6 n6 c6) := fun W' h1 h2 h3 => ⟨h1.b.two.1, h1.b.two.2.1, h2.b.two.1, h2.b.two.2.1, h3.b.two.1, h3.b.two.2.1⟩
        have hvv : (vv != vv) = false := by simp
        go_wp2_with fail
        refine wp_region_held_drew (S := (fun W' => W'.cell? ⟨w2.heap.size, 0, none⟩ = some (.slice F2 nf2 cf2) ∧ W'.cell? ⟨w2.heap.size, 1, none⟩ = some (.slice A2 n2 c2) ∧ W'.cell? ⟨w1.heap.size, 0, none⟩ = some (.slice F nf cf) ∧ W'.cell? ⟨w1.heap.size, 1, none⟩ = some (.slice A1 n1 c1) ∧ W'.cell? ⟨w6.heap.size, 0, none⟩ = some (.slice F6 nf6 cf6) ∧ W'.cell? ⟨w6.heap.size, 1, none⟩ = some (.slice A6 n6 c6))) (by kernel_rfl) (KS _ OD CD XD) (fun hHeld => ?_)
        refine wpAnyH_take (i := 0) (v := ?v1) rfl (by kernel_rfl) (by kernel_rfl) (by kernel_rfl) (fun _ _ _ h => h) (Or.inl ⟨by kernel_rfl, ?hy1⟩) (by assumption) ?rest1
        case hy1 => (intro w hSw; (try dsimp only at hSw); go_simp; try with_reducible rfl)
        try simp only [Act.put, List.setIfInBounds_toArray, List.set_cons_zero, List.set_cons_succ]
        refine wpAnyH_take (i := 1) (v := ?v2) rfl (by kernel_rfl) (by kernel_rfl) (by kernel_rfl) (fun _ _ _ h => h) (Or.inl ⟨by kernel_rfl, ?hy2⟩) (by assumption) ?rest2
        case hy2 => (intro w hSw; (try dsimp only at hSw); go_simp; try with_reducible rfl)
        try simp only [Act.put, List.setIfInBounds_toArray, List.set_cons_zero, List.set_cons_succ]
        refine wpAnyH_take (i := 3) (v := ?v3) rfl (by kernel_rfl) (by kernel_rfl) (by kernel_rfl) (fun _ _ _ h => h) (Or.inl ⟨by kernel_rfl, ?hy3⟩) (by assumption) ?rest3
        case hy3 => (intro w hSw; (try dsimp only at hSw); go_simp; try with_reducible rfl)
        try simp only [Act.put, List.setIfInBounds_toArray, List.set_cons_zero, List.set_cons_succ]
        refine wpAnyH_take (i := 4) (v := ?v4) rfl (by kernel_rfl) (by kernel_rfl) (by kernel_rfl) (fun _ _ _ h => h) (Or.inl ⟨by kernel_rfl, ?hy4⟩) (by assumption) ?rest4
        case hy4 => (intro w hSw; (try dsimp only at hSw); go_simp; try with_reducible rfl)
        try simp only [Act.put, List.setIfInBounds_toArray, List.set_cons_zero, List.set_cons_succ]
        refine wpAnyH_ready (rs := [2]) (by kernel_rfl) (by simp) ?_
        refine AllReadyH.cons rfl (fun K hK => ?_) AllReadyH.nil
        go_simp
        go_at_call 20
        refine Calls.mono (kO _ OD) ?_
        rintro e wa ⟨rfl, hba⟩
        have Oa := OD.step hba
        have Ca := CD.step hba
        have Xa := XD.step hba
        clear hba
        go_wp2_with fail
        refine hK.out _ _ ?hS5 (fun hHeld => ?rest5)
        case hS5 => exact KS _ Oa Ca Xa
        clear hK K
        try simp only [Act.put, List.setIfInBounds_toArray, List.set_cons_zero, List.set_cons_succ]
        refine wpAnyH_ready (rs := [5]) (by kernel_rfl) (by simp) ?_
        refine AllReadyH.cons rfl (fun K hK => ?_) AllReadyH.nil
        go_simp
        go_at_call 20
        refine Calls.mono (kC _ Ca) ?_
        rintro e wb ⟨rfl, hbb⟩
        have Ob := Oa.step hbb
        have Cb := Ca.step hbb
        have Xb := Xa.step hbb
        clear hbb
        go_wp2_with fail
        refine hK.out _ _ ?hS6 (fun hHeld => ?rest6)
        case hS6 => exact KS _ Ob Cb Xb
        clear hK K
        try simp only [Act.put, List.setIfInBounds_toArray, List.set_cons_zero, List.set_cons_succ]
        refine wpAnyH_take (i := 6) (v := ?v7) rfl (by kernel_rfl) (by kernel_rfl) (by kernel_rfl) (fun _ _ _ h => h) (Or.inl ⟨by kernel_rfl, ?hy7⟩) (by assumption) ?rest7
        case hy7 => (intro w hSw; (try dsimp only at hSw); go_simp; try with_reducible rfl)
        try simp only [Act.put, List.setIfInBounds_toArray, List.set_cons_zero, List.set_cons_succ]
        refine wpAnyH_take (i := 7) (v := ?v8) rfl (by kernel_rfl) (by kernel_rfl) (by kernel_rfl) (fun _ _ _ h => h) (Or.inl ⟨by kernel_rfl, ?hy8⟩) (by assumption) ?rest8
        case hy8 => (intro w hSw; (try dsimp only at hSw); go_simp; try with_reducible rfl)
        try simp only [Act.put, List.setIfInBounds_toArray, List.set_cons_zero, List.set_cons_succ]
        refine wpAnyH_take (i := 8) (v := ?v9) rfl (by kernel_rfl) (by kernel_rfl) (by kernel_rfl) (fun _ _ _ h => h) (Or.inl ⟨by kernel_rfl, ?hy9⟩) (by assumption) ?rest9
        case hy9 => (intro w hSw; (try dsimp only at hSw); go_simp; try with_reducible rfl)
        try simp only [Act.put, List.setIfInBounds_toArray, List.set_cons_zero, List.set_cons_succ]
        refine wpAnyH_take (i := 9) (v := ?v10) rfl (by kernel_rfl) (by kernel_rfl) (by kernel_rfl) (fun _ _ _ h => h) (Or.inl ⟨by kernel_rfl, ?hy10⟩) (by assumption) ?rest10
        case hy10 => (intro w hSw; (try dsimp only at hSw); go_simp; try with_reducible rfl)
        try simp only [Act.put, List.setIfInBounds_toArray, List.set_cons_zero, List.set_cons_succ]
        refine wpAnyH_take (i := 10) (v := undef) rfl (by kernel_rfl) (by kernel_rfl) (by kernel_rfl) (fun _ _ _ h => h) (Or.inr ⟨by kernel_rfl, rfl⟩) (by assumption) ?_
        try simp only [Act.put, List.setIfInBounds_toArray, List.set_cons_zero, List.set_cons_succ]
        refine wpAnyH_take (i := 11) (v := undef) rfl (by kernel_rfl) (by kernel_rfl) (by kernel_rfl) (fun _ _ _ h => h) (Or.inr ⟨by kernel_rfl, rfl⟩) (by assumption) ?_
        try simp only [Act.put, List.setIfInBounds_toArray, List.set_cons_zero, List.set_cons_succ]
        refine wpAnyH_take (i := 13) (v := undef) rfl (by kernel_rfl) (by kernel_rfl) (by kernel_rfl) (fun _ _ _ h => h) (Or.inr ⟨by kernel_rfl, rfl⟩) (by assumption) ?_
        try simp only [Act.put, List.setIfInBounds_toArray, List.set_cons_zero, List.set_cons_succ]
        refine wpAnyH_take (i := 14) (v := undef) rfl (by kernel_rfl) (by kernel_rfl) (by kernel_rfl) (fun _ _ _ h => h) (Or.inr ⟨by kernel_rfl, rfl⟩) (by assumption) ?_
        try simp only [Act.put, List.setIfInBounds_toArray, List.set_cons_zero, List.set_cons_succ]
        refine wpAnyH_ready (rs := [12]) (by kernel_rfl) (by simp) ?_
        refine AllReadyH.cons rfl (fun K hK => ?_) AllReadyH.nil
        go_simp
        refine hK.out _ _ ?hS11 (fun hHeld => ?rest11)
        case hS11 => exact KS _ Ob Cb Xb
        clear hK K
        try simp only [Act.put, List.setIfInBounds_toArray, List.set_cons_zero, List.set_cons_succ]
        refine wpAnyH_ready (rs := [15]) (by kernel_rfl) (by simp) ?_
        refine AllReadyH.cons rfl (fun K hK => ?_) AllReadyH.nil
        go_simp
        refine hK.out _ _ ?hS12 (fun hHeld => ?rest12)
        case hS12 => exact KS _ Ob Cb Xb
        clear hK K
        try simp only [Act.put, List.setIfInBounds_toArray, List.set_cons_zero, List.set_cons_succ]
        refine wpAnyH_take (i := 16) (v := undef) rfl (by kernel_rfl) (by kernel_rfl) (by kernel_rfl) (fun _ _ _ h => h) (Or.inr ⟨by kernel_rfl, rfl⟩) (by assumption) ?_
        try simp only [Act.put, List.setIfInBounds_toArray, List.set_cons_zero, List.set_cons_succ]
        refine wpAnyH_take (i := 17) (v := ?v13) rfl (by kernel_rfl) (by kernel_rfl) (by kernel_rfl) (fun _ _ _ h => h) (Or.inl ⟨by kernel_rfl, ?hy13⟩) (by assumption) ?rest13
        case hy13 => (intro w hSw; (try dsimp only at hSw); go_simp; try with_reducible rfl)
        try simp only [Act.put, List.setIfInBounds_toArray, List.set_cons_zero, List.set_cons_succ]
        refine wpAnyH_take (i := 18) (v := ?v14) rfl (by kernel_rfl) (by kernel_rfl) (by kernel_rfl) (fun _ _ _ h => h) (Or.inl ⟨by kernel_rfl, ?hy14⟩) (by assumption) ?rest14
        case hy14 => (intro w hSw; (try dsimp only at hSw); go_simp; try with_reducible rfl)
        try simp only [Act.put, List.setIfInBounds_toArray, List.set_cons_zero, List.set_cons_succ]
        refine wpAnyH_done (by kernel_rfl) ?_ _
        all_goals
          clear kO kC
          go_wp2_with fail
          go_roundw
          case rel => exact ⟨G + 1, by omega, by go_num, Cb, Ob, Xb⟩
          case measure => first | (simp [intOf]; done) | (simp [intOf]; omega)
      · have hb1 := cv_iff.2 HAC.out
        go_wp2_with fail
        refine (implCV_any F2 nf2 cf2 A2 n2 c2 R2 (askC cx s g) _ O.x (by omega) (by omega)).mono ?_
        rintro e w8 ⟨rfl, hb8⟩
        have X8 := X.step hb8
        have fX8 := X8.b.two
        clear fX fO fC
        rw [hb1]
        clear hb1
        go_wp2_with fail
        go_ret
        exact ⟨rfl, X8.bl⟩
  case true =>
    have HGv := Lib.hid (give_yes hfi)
    have HGC := Lib.hid (show Cv (giveC cx s) by rw [HGv.out.e]; exact give_cv HGv.out)
    have HF56 := Lib.hid (show nf6 = 5 by have h1 := X.x.f.len; have h2 := HGC.out.f; omega)
    have HK2 := Lib.hid (fun (G : Nat) (hG : G < 5) => (show crOf (giveC cx s) (G : Int) = crOf cx (G : Int) by rw [HGv.out.e]; exact kept_give HGv.out (by omega) (by omega)))
    go_wp2_with fail
    go_loopw [12] (fun i wr => ∃ G : Nat, G ≤ 5 ∧ i = .int .i64 G ∧ Bc w wr w1.heap.size F nf cf A1 n1 c1 R cx ∧ Bc w wr w2.heap.size F2 nf2 cf2 A2 n2 c2 R2 (askC cx s g) ∧ Bc w wr w6.heap.size F6 nf6 cf6 A6 n6 c6 R6 (giveC cx s)) (fun i _ => 5 - (intOf i).toNat)
    case atStart => exact ⟨0, by omega, rfl, C, O, X⟩
    case round =>
      clear C O X fC fO fX
      obtain ⟨G, hG5, rfl, C, O, X⟩ := hrel
      have fC := C.b.two
      have fO := O.b.two
      have fX := X.b.two
      by_cases hG : G < 5
      · have hk1 := HK1.out G hG
        have CD := C.step ((Below.refl _ _).drew)
        have OD := O.step ((Below.refl _ _).drew)
        have XD := X.step ((Below.refl _ _).drew)
        have kO := fun W' (h : Bc w W' w2.heap.size F2 nf2 cf2 A2 n2 c2 R2 (askC cx s g)) => creditsOf_any F2 nf2 cf2 A2 n2 c2 R2 (askC cx s g) G W' h.x (by have := HF52.out; omega) (by omega) (by omega) (HAC.out.fr G hG).1 (HAC.out.fr G hG).2
        rw [hk1] at kO
        have kC := fun W' (h : Bc w W' w1.heap.size F nf cf A1 n1 c1 R cx) => creditsOf_any F nf cf A1 n1 c1 R cx G W' h.x (by have := HF5.out; omega) (by omega) (by omega) (HCv.out.fr G hG).1 (HCv.out.fr G hG).2
        have hk2 := HK2.out G hG
        have kX := fun W' (h : Bc w W' w6.heap.size F6 nf6 cf6 A6 n6 c6 R6 (giveC cx s)) => creditsOf_any F6 nf6 cf6 A6 n6 c6 R6 (giveC cx s) G W' h.x (by have := HF56.out; omega) (by omega) (by omega) (HGC.out.fr G hG).1 (HGC.out.fr G hG).2
        rw [hk2] at kX
        clear hk2
        clear hk1
        generalize crOf cx (G : Int) = vv at kO kC kX
        have KS : ∀ W', Bc w W' w2.heap.size F2 nf2 cf2 A2 n2 c2 R2 (askC cx s g) → Bc w W' w1.heap.size F nf cf A1 n1 c1 R cx → Bc w W' w6.heap.size F6 nf6 cf6 A6 n6 c6 R6 (giveC cx s) → W'.cell? ⟨w2.heap.size, 0, none⟩ = some (.slice F2 nf2 cf2) ∧ W'.cell? ⟨w2.heap.size, 1, none⟩ = some (.slice A2 n2 c2) ∧ W'.cell? ⟨w1.heap.size, 0, none⟩ = some (.slice F nf cf) ∧ W'.cell? ⟨w1.heap.size, 1, none⟩ = some (.slice A1 n1 c1) ∧ W'.cell? ⟨w6.heap.size, 0, none⟩ = some (.slice F6 nf6 cf6) ∧ W'.cell? ⟨w6.heap.size, 1, none⟩ = some (.slice A6 n6 c6) := fun W' h1 h2 h3 => ⟨h1.b.two.1, h1.b.two.2.1, h2.b.two.1, h2.b.two.2.1, h3.b.two.1, h3.b.two.2.1⟩
        have hvv : (vv != vv) = false := by simp
        go_wp2_with fail
        go_region_held3 (fun W' => W'.cell? ⟨w2.heap.size, 0, none⟩ = some (.slice F2 nf2 cf2) ∧ W'.cell? ⟨w2.heap.size, 1, none⟩ = some (.slice A2 n2 c2) ∧ W'.cell? ⟨w1.heap.size, 0, none⟩ = some (.slice F nf cf) ∧ W'.cell? ⟨w1.heap.size, 1, none⟩ = some (.slice A1 n1 c1) ∧ W'.cell? ⟨w6.heap.size, 0, none⟩ = some (.slice F6 nf6 cf6) ∧ W'.cell? ⟨w6.heap.size, 1, none⟩ = some (.slice A6 n6 c6))
          (first | exact KS _ OD CD XD | exact KS _ Oa Ca Xa | exact KS _ Ob Cb Xb | exact KS _ Oc Cc Xc | exact KS _ Od Cd Xd)
          (first
            | (go_at_call 20; (with_reducible refine Calls.mono (kO _ OD) ?_); rintro e wa ⟨rfl, hba⟩; have Oa := OD.step hba; have Ca := CD.step hba; have Xa := XD.step hba; clear hba)
            | (go_at_call 20; (with_reducible refine Calls.mono (kC _ Ca) ?_); rintro e wb ⟨rfl, hbb⟩; have Ob := Oa.step hbb; have Cb := Ca.step hbb; have Xb := Xa.step hbb; clear hbb)
            | (go_at_call 20; (with_reducible refine Calls.mono (kX _ Xb) ?_); rintro e wc ⟨rfl, hbc⟩; have Oc := Ob.step hbc; have Cc := Cb.step hbc; have Xc := Xb.step hbc; clear hbc)
            | (go_at_call 20; (with_reducible refine Calls.mono (kC _ Cc) ?_); rintro e wd ⟨rfl, hbd⟩; have Od := Oc.step hbd; have Cd := Cc.step hbd; have Xd := Xc.step hbd; clear hbd))
        all_goals
          clear kO kC kX
          go_wp2_with fail
          go_roundw
          case rel => exact ⟨G + 1, by omega, by go_num, Cd, Od, Xd⟩
          case measure => first | (simp [intOf]; done) | (simp [intOf]; omega)
      · have hb1 := cv_iff.2 HAC.out
        go_wp2_with fail
        refine (implCV_any F2 nf2 cf2 A2 n2 c2 R2 (askC cx s g) _ O.x (by omega) (by omega)).mono ?_
        rintro e w8 ⟨rfl, hb8⟩
        have X8 := X.step hb8
        have fX8 := X8.b.two
        clear fX fO fC
        rw [hb1]
        clear hb1
        have hb2 := cv_iff.2 HGC.out
        go_wp2_with fail
        refine (implCV_any F6 nf6 cf6 A6 n6 c6 R6 (giveC cx s) _ X8.x (by omega) (by omega)).mono ?_
        rintro e w9 ⟨rfl, hb9⟩
        have X9 := X8.step hb9
        rw [hb2]
        go_wp2_with fail
        go_ret
        exact ⟨rfl, X9.bl⟩
end Go.Proofs.Ytehgipbedlamaaa
