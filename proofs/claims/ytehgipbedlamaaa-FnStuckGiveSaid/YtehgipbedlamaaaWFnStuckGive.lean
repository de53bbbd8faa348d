/-
  The walk of FnStuckGive: the law returns true and writes nothing that was there. Printed by gen_cl.py.
-/
import Derived.Test.YtehgipbedlamaaaHP
import Derived.Test.YtehgipbedlamaaaHS
namespace Go.Proofs.Ytehgipbedlamaaa
open Go.RowKit
set_option linter.unusedVariables false

set_option maxRecDepth 100000 in
set_option maxHeartbeats 8000000 in
theorem fnStuckGive_walk (A : Option Addr) (n c : Nat) (bs : List Int) (w : World) (hc : n ≤ c) (hcm : c ≤ 9223372036854775807) (hb : Bytes w w.heap.size A n bs) :
    Calls Try.prog 3 #[.slice A n c] w fun e w' => e = .returned (.bool true) ∧ Below w.heap.size w w' := by
  by_cases hn : 1048576 < n
  · go_enter Try.func3, Try.ntmps3
    go_wp2
    go_ret
    exact ⟨rfl, Below.refl _ _⟩
  go_enter Try.func3, Try.ntmps3
  go_wp2_with fail
  refine (drawCG_any A n c bs w hb (by omega) hc hcm).mono ?_
  rintro e w1 ⟨F, nf, cf, A1, n1, c1, R, cx, s, rfl, X1, hnf, hn1, HB1⟩
  have C := Bc.start (cf := cf) (c := c1) X1 HB1 hnf hn1
  clear X1 hb
  have fC := C.b.two
  go_wp2_with fail
  refine (implGive_any F nf cf A1 n1 c1 R cx s _ C.x (by omega) (by omega)).mono ?_
  rintro e w2 ⟨F2, nf2, cf2, A2, n2, c2, R2, rfl, o2, hb2⟩
  have HL := Lib.hid (giveC_len s C.lens.1 C.lens.2)
  have C2 := C.step hb2
  have O := Bc.own o2 C2.bl HL.out.1 HL.out.2
  have C := C2.alloc (.cells #[.slice F2 nf2 cf2, .slice A2 n2 c2] 26)
  clear hb2 C2 o2 fC
  have fC := C.b.two
  have fO := O.b.two
  go_wp2_with fail
  refine (specGive_any F nf cf A1 n1 c1 R cx s _ C.x (by omega) (by omega)).mono ?_
  rintro e w3 ⟨F3, nf3, cf3, A3, n3, c3, R3, rfl, o3, hb3⟩
  have C2 := C.step hb3
  have O2 := O.step hb3
  have V := Bc.own o3 C2.bl HL.out.1 HL.out.2
  have C := C2.alloc (.cells #[.slice F3 nf3 cf3, .slice A3 n3 c3] 26)
  have O := O2.alloc (.cells #[.slice F3 nf3 cf3, .slice A3 n3 c3] 26)
  clear hb3 C2 O2 o3 fC fO
  have fC := C.b.two
  have fO := O.b.two
  have fV := V.b.two
  go_upto_region 6 with (fail)
  generalize w3.alloc (.cells #[.slice F3 nf3 cf3, .slice A3 n3 c3] 26) = w4 at C O V fC fO fV ⊢
  have hnf2 := O.f5
  have hn2 := O.n6
  have hnf3 := V.f5
  cases hB : giveB cx s
  · skip
    go_wp2_with fail
    refine (sameC_same F2 F3 nf2 cf2 nf3 cf3 A2 A3 n2 c2 n3 c3 R2 R3 (giveC cx s) _ O.x V.x (by omega) (by omega) (by omega)).mono ?_
    rintro e w5 ⟨rfl, hs1⟩
    have C1 := C.step hs1
    have O1 := O.step hs1
    have V1 := V.step hs1
    have fC1 := C1.b.two
    have fO1 := O1.b.two
    have fV1 := V1.b.two
    clear hs1 fC fO fV
    go_wp2_with fail
    refine (sameC_same F2 F3 nf2 cf2 nf3 cf3 A2 A3 n2 c2 n3 c3 R2 R3 (giveC cx s) _ O1.x V1.x (by omega) (by omega) (by omega)).mono ?_
    rintro e w6 ⟨rfl, hs2⟩
    have C2 := C1.step hs2
    have O2 := O1.step hs2
    have V2 := V1.step hs2
    have fC2 := C2.b.two
    have fO2 := O2.b.two
    have fV2 := V2.b.two
    clear hs2 fC1 fO1 fV1
    go_wp2_with fail
    go_ret
    exact ⟨rfl, C2.bl⟩
  go_wp2_with fail
  refine (sameC_same F2 F3 nf2 cf2 nf3 cf3 A2 A3 n2 c2 n3 c3 R2 R3 (giveC cx s) _ O.x V.x (by omega) (by omega) (by omega)).mono ?_
  rintro e w5 ⟨rfl, hs1⟩
  have C1 := C.step hs1
  have O1 := O.step hs1
  have V1 := V.step hs1
  have fC1 := C1.b.two
  have fO1 := O1.b.two
  have fV1 := V1.b.two
  clear hs1 fC fO fV
  have HBy := Lib.hid hB
  have HG := Lib.hid (fun x (hx : x ∈ stuckL (giveC cx s)) => stuck_give HBy.out hx)
  clear hB
  go_wp2_with fail
  refine (stuck_any F nf cf A1 n1 c1 R cx _ C1.x (by omega) (by omega)).mono ?_
  rintro e w6 ⟨Aa, na, ca, rfl, oa, hb6⟩
  have C2 := C1.step hb6
  have O2 := O1.step hb6
  have fO2 := O2.b.two
  clear hb6 fC1 fO1 fV1 O1 V1 C1 V
  go_wp2_with fail
  refine (stuck_any F2 nf2 cf2 A2 n2 c2 R2 (giveC cx s) _ O2.x (by omega) (by omega)).mono ?_
  rintro e w7 ⟨Ab, nb, cb, rfl, ob, hb7⟩
  have C3 := C2.step hb7
  have ia := (oa.ints).up hb7 hb7.size
  have ib := ob.ints
  have hna : na ≤ 6 := by have h1 := ia.len; have h2 := stuckL_len cx; have h3 := C3.lens.2; omega
  have hnb : nb ≤ 6 := by have h1 := ib.len; have h2 := stuckL_len (giveC cx s); have h3 := HL.out.2; omega
  clear oa ob hb7 C2 O2 fO2
  generalize stuckL cx = la at ia HG
  generalize stuckL (giveC cx s) = lb at ib HG
  have HLa := Lib.hid ia.len
  have HLb := Lib.hid ib.len
  go_wp2_with fail
  go_loopw [11] (fun i wr => ∃ k : Nat, k ≤ nb ∧ i = .int .i64 k ∧ w7 = wr) (fun i _ => nb - (intOf i).toNat)
  case atStart => exact ⟨0, Nat.zero_le _, rfl, rfl⟩
  case round =>
    obtain ⟨k, hk, rfl, rfl⟩ := hrel
    by_cases hlt : k < nb
    · obtain ⟨ad, x, rfl, hbx, hcx, hkx, hsx⟩ := ib.elem hlt
      have HH := Lib.hid (hasB_iff.2 (HG.out x (List.mem_of_getElem? hkx.out)))
      have gk : (k : Int) < (nb : Int) := by omega
      go_wp2_with (go_at_call 16; refine (hasInt_any Aa na ca w7.heap.size la x _ ia (by omega)).mono ?_; rintro e w' ⟨rfl, rfl⟩; rw [HH.out])
      go_roundw
      case rel => exact ⟨k + 1, by omega, by go_num, by simp⟩
      case measure => first | (simp [intOf]; done) | (simp [intOf]; omega)
    · obtain rfl : nb = k := by omega
      go_wp2_with fail
      go_ret
      exact ⟨rfl, C3.bl⟩
end Go.Proofs.Ytehgipbedlamaaa
