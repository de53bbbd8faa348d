/-
  The walk of FnCreditsRound: the law returns true and writes nothing that was there. Printed by gen_cl.py.
-/
import Derived.Test.YtehgipbedlamaaaHP
namespace Go.Proofs.Ytehgipbedlamaaa
open Go.RowKit
set_option linter.unusedVariables false

set_option maxRecDepth 100000 in
set_option maxHeartbeats 8000000 in
theorem fnCreditsRound_walk (A : Option Addr) (n c : Nat) (bs : List Int) (w : World) (hc : n ≤ c) (hcm : c ≤ 9223372036854775807) (hb : Bytes w w.heap.size A n bs) :
    Calls Try.prog 9 #[.slice A n c] w fun e w' => e = .returned (.bool true) ∧ Below w.heap.size w w' := by
  by_cases hn : 1048576 < n
  · go_enter Try.func9, Try.ntmps9
    go_wp2
    go_ret
    exact ⟨rfl, Below.refl _ _⟩
  go_enter Try.func9, Try.ntmps9
  go_wp2_with fail
  refine (drawCA_any A n c bs w hb (by omega) hc hcm).mono ?_
  rintro e w1 ⟨F, nf, cf, A1, n1, c1, R, cx, s, g, rfl, X1, hnf, hn1, HB1⟩
  have C := Bc.start (cf := cf) (c := c1) X1 HB1 hnf hn1
  clear X1 hb
  have fC := C.b.two
  go_wp2_with fail
  refine (implAsk_any F nf cf A1 n1 c1 R cx s g _ C.x (by omega) (by omega)).mono ?_
  rintro e w2 ⟨F2, nf2, cf2, A2, n2, c2, R2, rfl, o2, hb2⟩
  have HL := Lib.hid (askC_len s g C.lens.1 C.lens.2)
  have C2 := C.step hb2
  have O := Bc.own o2 C2.bl HL.out.1 HL.out.2
  have C := C2.alloc (.cells #[.slice F2 nf2 cf2, .slice A2 n2 c2] 26)
  clear hb2 C2 o2 fC
  have fC := C.b.two
  have fO := O.b.two
  go_wp2_with fail
  refine (specAsk_any F nf cf A1 n1 c1 R cx s g _ C.x (by omega) (by omega)).mono ?_
  rintro e w3 ⟨F3, nf3, cf3, A3, n3, c3, R3, rfl, o3, hb3⟩
  have C2 := C.step hb3
  have O2 := O.step hb3
  have V := Bc.own o3 C2.bl HL.out.1 HL.out.2
  have C := C2.alloc (.cells #[.slice F3 nf3 cf3, .slice A3 n3 c3] 26)
  have O := O2.alloc (.cells #[.slice F3 nf3 cf3, .slice A3 n3 c3] 26)
  clear hb3 C2 O2 o3 fC fO
  have fC := C.b.two
  have fO := O.b.two
  have fV := V.b.two
  go_upto_region 6 with (fail)
  generalize w3.alloc (.cells #[.slice F3 nf3 cf3, .slice A3 n3 c3] 26) = w4 at C O V fC fO fV ⊢
  have hnf2 := O.f5
  have hn2 := O.n6
  have hnf3 := V.f5
  cases hB : askB cx s g
  · skip
    go_wp2_with fail
    refine (sameC_same F2 F3 nf2 cf2 nf3 cf3 A2 A3 n2 c2 n3 c3 R2 R3 (askC cx s g) _ O.x V.x (by omega) (by omega) (by omega)).mono ?_
    rintro e w5 ⟨rfl, hs1⟩
    have C1 := C.step hs1
    have O1 := O.step hs1
    have V1 := V.step hs1
    have fC1 := C1.b.two
    have fO1 := O1.b.two
    have fV1 := V1.b.two
    clear hs1 fC fO fV
    go_wp2_with fail
    refine (sameC_same F2 F3 nf2 cf2 nf3 cf3 A2 A3 n2 c2 n3 c3 R2 R3 (askC cx s g) _ O1.x V1.x (by omega) (by omega) (by omega)).mono ?_
    rintro e w6 ⟨rfl, hs2⟩
    have C2 := C1.step hs2
    have O2 := O1.step hs2
    have V2 := V1.step hs2
    have fC2 := C2.b.two
    have fO2 := O2.b.two
    have fV2 := V2.b.two
    clear hs2 fC1 fO1 fV1
    go_wp2_with fail
    go_ret
    exact ⟨rfl, C2.bl⟩
  go_wp2_with fail
  refine (sameC_same F2 F3 nf2 cf2 nf3 cf3 A2 A3 n2 c2 n3 c3 R2 R3 (askC cx s g) _ O.x V.x (by omega) (by omega) (by omega)).mono ?_
  rintro e w5 ⟨rfl, hs1⟩
  have C1 := C.step hs1
  have O1 := O.step hs1
  have V1 := V.step hs1
  have fC1 := C1.b.two
  have fO1 := O1.b.two
  have fV1 := V1.b.two
  clear hs1 fC fO fV
  have HBy := Lib.hid hB
  obtain ⟨hCv, ⟨hs0, hsl⟩, ⟨hg0, hg4⟩, -, -, -⟩ := ask_yes HBy.out
  obtain ⟨S, hS⟩ := Int.eq_ofNat_of_zero_le hs0
  subst hS
  obtain ⟨G, hG⟩ := Int.eq_ofNat_of_zero_le hg0
  subst hG
  rw [Int.toNat_natCast] at hsl
  have hS1 : S < n1 := by have := C1.x.h.l; omega
  have HF5 := Lib.hid (show nf = 5 by have h1 := C1.x.f.len; have h2 := hCv.f; omega)
  have hG5 : G < nf := by have := HF5.out; omega
  obtain ⟨ad, A9, n9, c9, v9, xs, rfl, hbb, hc0, hc1, hc2, hc3, hi, hn9, hk1, hs1, hR1⟩ := C1.x.h.el hS1
  obtain ⟨adF, rfl, -, hF⟩ := C1.x.f.at_ hG5
  have HT := Lib.hid (hAt_of hk1.out)
  have HL9 := Lib.hid hi.len
  have gS : (S : Int) < (n1 : Int) := by omega
  have gG : (G : Int) < (nf : Int) := by omega
  have HRD := Lib.hid (fun h1 h2 => round_yes HBy.out (by rw [Int.toNat_natCast, HT.out]; exact h1) (by rw [Int.toNat_natCast]; exact h2))
  clear hB hCv hsl hg0 hg4 hs0
  by_cases h0 : n9 = 0
  case neg =>
    have hd : decide (0 < n9) = true := decide_eq_true (by omega)
    clear h0
    go_wp2_with fail
    refine (sameC_same F2 F3 nf2 cf2 nf3 cf3 A2 A3 n2 c2 n3 c3 R2 R3 (askC cx (S : Int) (G : Int)) _ O1.x V1.x (by omega) (by omega) (by omega)).mono ?_
    rintro e w6 ⟨rfl, hs2⟩
    have C2 := C1.step hs2
    have O2 := O1.step hs2
    have V2 := V1.step hs2
    have fC2 := C2.b.two
    have fO2 := O2.b.two
    have fV2 := V2.b.two
    clear hs2 fC1 fO1 fV1
    go_wp2_with fail
    go_ret
    exact ⟨rfl, C2.bl⟩
  by_cases hf : cx.free.getD G 0 = 0
  case pos =>
    rw [hf] at hF
    subst h0
    clear hf
    go_wp2_with fail
    refine (sameC_same F2 F3 nf2 cf2 nf3 cf3 A2 A3 n2 c2 n3 c3 R2 R3 (askC cx (S : Int) (G : Int)) _ O1.x V1.x (by omega) (by omega) (by omega)).mono ?_
    rintro e w6 ⟨rfl, hs2⟩
    have C2 := C1.step hs2
    have O2 := O1.step hs2
    have V2 := V1.step hs2
    have fC2 := C2.b.two
    have fO2 := O2.b.two
    have fV2 := V2.b.two
    clear hs2 fC1 fO1 fV1
    go_wp2_with fail
    go_ret
    exact ⟨rfl, C2.bl⟩
  have HR2 := Lib.hid (HRD.out (by rw [← h0]; exact HL9.out) hf)
  have hfz : (cx.free.getD G 0 == 0) = false := by rw [beq_eq_false_iff_ne]; exact hf
  subst h0
  clear hf
  generalize cx.free.getD G 0 = vG at hF hfz
  go_wp2_with fail
  refine (implGive_any F2 nf2 cf2 A2 n2 c2 R2 (askC cx (S : Int) (G : Int)) (S : Int) _ O1.x (by omega) (by omega)).mono ?_
  rintro e w6 ⟨F6, nf6, cf6, A6, n6, c6, R6, rfl, o6, hb6⟩
  rw [HR2.out.1]
  rw [HR2.out.2] at o6
  have C2 := C1.step hb6
  have X := Bc.own o6 C2.bl C2.lens.1 C2.lens.2
  have C := C2.alloc (.cells #[.slice F6 nf6 cf6, .slice A6 n6 c6] 26)
  have hnf6 := X.f5
  have hn6 := X.n6
  clear hb6 fC1 fO1 fV1 hF hc0 hc1 hc2 hc3
  have fC := C.b.two
  have fX := X.b.two
  go_wp2_with fail
  refine (sameInts_same F6 (some adF) nf6 cf6 nf cf cx.free _ X.x.f C.x.f (by omega) (by omega)).mono ?_
  rintro e w7 ⟨rfl, hb7⟩
  have C3 := C.step hb7
  have X3 := X.step hb7
  have fC3 := C3.b.two
  have fX3 := X3.b.two
  clear hb7 fC fX
  go_wp2_with fail
  refine (sameC_same F6 (some adF) nf6 cf6 nf cf A6 (some ad) n6 c6 n1 c1 R6 R cx _ X3.x C3.x (by omega) (by omega) (by omega)).mono ?_
  rintro e w8 ⟨rfl, hb8⟩
  have C4 := C3.step hb8
  go_wp2_with fail
  go_ret
  exact ⟨rfl, C4.bl⟩
end Go.Proofs.Ytehgipbedlamaaa
