/-
  The walk of FnOrderedAsk: the law returns true and writes nothing that was there. Printed by gen_cl.py.
-/
import Derived.Test.YtehgipbedlamaaaHP
namespace Go.Proofs.Ytehgipbedlamaaa
open Go.RowKit
set_option linter.unusedVariables false

set_option maxRecDepth 100000 in
set_option maxHeartbeats 8000000 in
theorem fnOrderedAsk_walk (A : Option Addr) (n c : Nat) (bs : List Int) (w : World) (hc : n ≤ c) (hcm : c ≤ 9223372036854775807) (hb : Bytes w w.heap.size A n bs) :
    Calls Try.prog 6 #[.slice A n c] w fun e w' => e = .returned (.bool true) ∧ Below w.heap.size w w' := by
  by_cases hn : 1048576 < n
  · go_enter Try.func6, Try.ntmps6
    go_wp2
    go_ret
    exact ⟨rfl, Below.refl _ _⟩
  go_enter Try.func6, Try.ntmps6
  go_wp2_with fail
  refine (drawCA_any A n c bs w hb (by omega) hc hcm).mono ?_
  rintro e w1 ⟨F, nf, cf, A1, n1, c1, R, cx, s, g, rfl, X1, hnf, hn1, HB1⟩
  have C := Bc.start (cf := cf) (c := c1) X1 HB1 hnf hn1
  clear X1 hb
  have fC := C.b.two
  go_wp2_with fail
  refine (implAsk_any F nf cf A1 n1 c1 R cx s g _ C.x (by omega) (by omega)).mono ?_
  rintro e w2 ⟨F2, nf2, cf2, A2, n2, c2, R2, rfl, o2, hb2⟩
  have HL := Lib.hid (askC_len s g C.lens.1 C.lens.2)
  have C2 := C.step hb2
  have O := Bc.own o2 C2.bl HL.out.1 HL.out.2
  have C := C2.alloc (.cells #[.slice F2 nf2 cf2, .slice A2 n2 c2] 26)
  clear hb2 C2 o2 fC
  have fC := C.b.two
  have fO := O.b.two
  go_wp2_with fail
  refine (specAsk_any F nf cf A1 n1 c1 R cx s g _ C.x (by omega) (by omega)).mono ?_
  rintro e w3 ⟨F3, nf3, cf3, A3, n3, c3, R3, rfl, o3, hb3⟩
  have C2 := C.step hb3
  have O2 := O.step hb3
  have V := Bc.own o3 C2.bl HL.out.1 HL.out.2
  have C := C2.alloc (.cells #[.slice F3 nf3 cf3, .slice A3 n3 c3] 26)
  have O := O2.alloc (.cells #[.slice F3 nf3 cf3, .slice A3 n3 c3] 26)
  clear hb3 C2 O2 o3 fC fO
  have fC := C.b.two
  have fO := O.b.two
  have fV := V.b.two
  go_upto_region 6 with (fail)
  generalize w3.alloc (.cells #[.slice F3 nf3 cf3, .slice A3 n3 c3] 26) = w4 at C O V fC fO fV ⊢
  have hnf2 := O.f5
  have hn2 := O.n6
  have hnf3 := V.f5
  cases hB : askB cx s g
  · skip
    go_wp2_with fail
    refine (sameC_same F2 F3 nf2 cf2 nf3 cf3 A2 A3 n2 c2 n3 c3 R2 R3 (askC cx s g) _ O.x V.x (by omega) (by omega) (by omega)).mono ?_
    rintro e w5 ⟨rfl, hs1⟩
    have C1 := C.step hs1
    have O1 := O.step hs1
    have V1 := V.step hs1
    have fC1 := C1.b.two
    have fO1 := O1.b.two
    have fV1 := V1.b.two
    clear hs1 fC fO fV
    go_wp2_with fail
    refine (sameC_same F2 F3 nf2 cf2 nf3 cf3 A2 A3 n2 c2 n3 c3 R2 R3 (askC cx s g) _ O1.x V1.x (by omega) (by omega) (by omega)).mono ?_
    rintro e w6 ⟨rfl, hs2⟩
    have C2 := C1.step hs2
    have O2 := O1.step hs2
    have V2 := V1.step hs2
    have fC2 := C2.b.two
    have fO2 := O2.b.two
    have fV2 := V2.b.two
    clear hs2 fC1 fO1 fV1
    go_wp2_with fail
    go_ret
    exact ⟨rfl, C2.bl⟩
  go_wp2_with fail
  refine (sameC_same F2 F3 nf2 cf2 nf3 cf3 A2 A3 n2 c2 n3 c3 R2 R3 (askC cx s g) _ O.x V.x (by omega) (by omega) (by omega)).mono ?_
  rintro e w5 ⟨rfl, hs1⟩
  have C1 := C.step hs1
  have O1 := O.step hs1
  have V1 := V.step hs1
  have fC1 := C1.b.two
  have fO1 := O1.b.two
  have fV1 := V1.b.two
  clear hs1 fC fO fV
  have HBy := Lib.hid hB
  go_wp2_with fail
  refine (specOr_any F nf cf A1 n1 c1 R cx _ C1.x (by omega) (by omega)).mono ?_
  rintro e w6 ⟨rfl, hb6⟩
  have C2 := C1.step hb6
  have O2 := O1.step hb6
  have V2 := V1.step hb6
  have fC2 := C2.b.two
  have fO2 := O2.b.two
  have fV2 := V2.b.two
  clear hb6 fC1 fO1 fV1
  cases ho : orB cx
  · skip
    go_wp2_with fail
    refine (sameC_same F2 F3 nf2 cf2 nf3 cf3 A2 A3 n2 c2 n3 c3 R2 R3 (askC cx s g) _ O2.x V2.x (by omega) (by omega) (by omega)).mono ?_
    rintro e w7 ⟨rfl, hs3⟩
    have C3 := C2.step hs3
    have O3 := O2.step hs3
    have V3 := V2.step hs3
    have fC3 := C3.b.two
    have fO3 := O3.b.two
    have fV3 := V3.b.two
    clear hs3 fC2 fO2 fV2
    go_wp2_with fail
    go_ret
    exact ⟨rfl, C3.bl⟩
  obtain ⟨hCv, ⟨hs0, hsl⟩, -, -, -, -⟩ := ask_yes HBy.out
  obtain ⟨S, hS⟩ := Int.eq_ofNat_of_zero_le hs0
  subst hS
  rw [Int.toNat_natCast] at hsl
  have hS1 : S < n1 := by have := C2.x.h.l; omega
  obtain ⟨ad, A9, n9, c9, v9, xs, rfl, hbb, hc0, hc1, hc2, hc3, hi, hn9, hk1, hs1, hR1⟩ := C2.x.h.el hS1
  have HT := Lib.hid (hAt_of hk1.out)
  have HL9 := Lib.hid hi.len
  have gS : (S : Int) < (n1 : Int) := by omega
  have HAO := Lib.hid (fun h => ask_ordered HBy.out ho (by rw [Int.toNat_natCast, HT.out]; exact h))
  clear hB ho hCv
  by_cases h0 : n9 = 0
  · have HO := Lib.hid (HAO.out (.inl (by rw [← h0]; exact HL9.out)))
    subst h0
    go_wp2_with fail
    refine (implOr_any F2 nf2 cf2 A2 n2 c2 R2 (askC cx (S : Int) g) _ O2.x (by omega) (by omega)).mono ?_
    rintro e w7 ⟨rfl, hb7⟩
    have C3 := C2.step hb7
    rw [HO.out]
    go_wp2_with fail
    go_ret
    exact ⟨rfl, C3.bl⟩
  obtain ⟨K, hK⟩ : ∃ K : Nat, n9 = K + 1 := ⟨n9 - 1, by omega⟩
  have gK : (K : Int) < (n9 : Int) := by omega
  have hd : decide (0 < n9) = true := decide_eq_true (by omega)
  have hKw : IntKind.i64.wrap ((n9 : Int) - 1) = (K : Int) := by rw [IntWalk.i64_in _ (by omega)]; omega
  obtain ⟨adx, y, rfl, hbx, hcx, hky, -⟩ := hi.elem (k := K) (by omega)
  have HY := Lib.hid (show xs.getD (xs.length - 1) 0 = y by rw [HL9.out, show n9 - 1 = K by omega, List.getD_eq_getElem?_getD, hky.out]; rfl)
  by_cases hy : g < y
  · have hyd : decide (g < y) = true := decide_eq_true hy
    clear hK h0
    go_wp2_with fail
    go_ret
    exact ⟨rfl, C2.bl⟩
  · have hyd : decide (g < y) = false := decide_eq_false hy
    have HO := Lib.hid (HAO.out (.inr (by rw [HY.out]; omega)))
    clear hK h0
    go_wp2_with fail
    refine (implOr_any F2 nf2 cf2 A2 n2 c2 R2 (askC cx (S : Int) g) _ O2.x (by omega) (by omega)).mono ?_
    rintro e w7 ⟨rfl, hb7⟩
    have C3 := C2.step hb7
    rw [HO.out]
    go_wp2_with fail
    go_ret
    exact ⟨rfl, C3.bl⟩
end Go.Proofs.Ytehgipbedlamaaa
