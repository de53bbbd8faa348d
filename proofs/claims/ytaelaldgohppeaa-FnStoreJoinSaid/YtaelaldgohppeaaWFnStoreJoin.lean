/-
  The walk of FnStoreJoin: the law returns true and writes nothing that was there.
-/
import Derived.Test.YtaelaldgohppeaaDSJ
import Derived.Test.YtaelaldgohppeaaSF
import Derived.Deep.RegionHeld3
namespace Go.Proofs.Ytaelaldgohppeaa
open Go.RowKit
set_option linter.unusedVariables false

set_option maxHeartbeats 4000000 in
theorem fnStoreJoin_walk (A : Option Addr) (n c : Nat) (bs : List Int) (w : World) (hc : n ≤ c) (hcm : c ≤ 9223372036854775807) (hb : Bytes w w.heap.size A n bs) :
    Calls Try.prog 7 #[.slice A n c] w fun e w' => e = .returned (.bool true) ∧ Below w.heap.size w w' := by
  by_cases hbig : 1048576 < n
  · go_enter Try.func7, Try.ntmps7
    go_wp2
    go_ret
    exact ⟨rfl, Below.refl _ _⟩
  go_enter Try.func7, Try.ntmps7
  go_wp2_with fail
  refine (drawStoreJoin_any _ _ _ _ _ hb (by omega) hc hcm).mono ?_
  rintro e w1 ⟨A1, n1, c1, R, xss, rfl, o1, hn1, hsh, hb1⟩
  have i1 := o1.reads (fun k xs hx => by have := hsh.out xs (List.mem_of_getElem? hx); omega)
  have l1 := Lib.hid o1.l
  clear o1
  go_wp2_with fail
  refine (implSJ_any _ _ _ R xss _ i1 (by omega)).mono ?_
  rintro e w2 ⟨A2, n2, c2, rfl, o2, hb2⟩
  have hB2 := hb1.trans (hb2.mono hb1.size)
  have i2 := i1.up hb2 hb2.size
  clear i1 hb1
  go_wp2_with fail
  refine (specSJ_any _ _ _ R xss _ i2 (by omega)).mono ?_
  rintro e w3 ⟨A3, n3, c3, rfl, o3, hb3⟩
  have hB3 := hB2.trans (hb3.mono hB2.size)
  have i3 := i2.up hb3 hb3.size
  have x2 := o2.ints.up hb3 hb3.size
  have x3 := o3.ints
  have L2 := Lib.hid o2.len
  have m2 : n2 ≤ 15 := by have := o2.len; have := sjL_len xss; omega
  have m3 : n3 ≤ 15 := by have := o3.len; have := sjL_len xss; omega
  clear i2 hB2 o2 o3 hb2 hb3
  go_wp2_with fail
  refine (sameInts_same _ _ _ _ _ _ (sjL xss) _ x2 x3 (by omega) (by omega)).mono ?_
  rintro e w4 ⟨rfl, hb4⟩
  have hB4 := hB3.trans (hb4.mono hB3.size)
  have i4 := i3.up hb4 hb4.size
  have y2 := x2.up hb4 hb4.size
  have y3 := x3.up hb4 hb4.size
  clear i3 x2 x3 hB3 hb4
  by_cases hz : n2 = 0
  · subst hz
    go_wp2_with fail
    refine (sameInts_same _ _ _ _ _ _ (sjL xss) _ y2 y3 (by omega) (by omega)).mono ?_
    rintro e w6 ⟨rfl, hb6⟩
    go_wp2
    go_ret
    exact ⟨rfl, hB4.trans (hb6.mono hB4.size)⟩
  · have hz' : ((n2 : Int) == 0) = false := by rw [beq_eq_false_iff_ne]; omega
    have hpos := Lib.hid (show (sjL xss).length ≠ 0 by rw [L2.out]; exact hz)
    obtain ⟨h5, -, hsv, he⟩ := join_pos hpos.out
    have HV := Lib.hid (show svB (sjL xss) = true by rw [he]; exact hsv)
    have N1 := Lib.hid (show n1 = 5 by rw [← l1.out]; exact h5)
    have g1 : 5 ≤ n1 := by rw [N1.out]; exact Nat.le_refl _
    clear h5 hsv he
    go_wp2_with fail
    go_loopw [6] (fun i wr => ∃ (k : Nat), k ≤ 5 ∧ i = .int .i64 k ∧ Below w4.heap.size w4 wr) (fun i _ => 5 - (intOf i).toNat)
    case atStart => exact ⟨0, by omega, rfl, Below.refl _ _⟩
    case round =>
      obtain ⟨k, hk, rfl, hbw⟩ := hrel
      have y2r := y2.up hbw hbw.size
      by_cases hlt : k < 5
      · obtain ⟨ad, r, xs, rfl, hbk, hc1, hr1, hx1, hs1, hl1, hi1⟩ := (i4.up hbw hbw.size).elem (k := k) (by omega)
        obtain ⟨A7, n7, c7⟩ := r
        simp only at hc1 hi1 hl1
        have HX := Lib.hid hx1
        have HJ := Lib.hid (join_back hpos.out HX.out)
        have l7 : n7 ≤ 3 := by have := hi1.len; have := hsh.out xs (List.mem_of_getElem? HX.out); omega
        have k0 : (0 : Int) ≤ (k : Int) := by omega
        have kn : (k : Int) < (n1 : Int) := by omega
        have kn' : k < n1 := by omega
        clear hs1 hr1 hx1
        go_wp2_with fail
        go_region_held3 (fun w' => w'.cell? (ad.add k) = some (.slice A7 n7 c7))
          (first | exact hc1 | exact gc1 | exact kc1)
          (first
            | (go_at_call 30; (with_reducible refine Calls.mono (implPart_any A2 n2 c2 (sjL xss) k _ ?_ (by omega)) ?_)
               · exact y2r
               rintro e w6 ⟨A6, n6, c6, rfl, o6, hb6⟩
               have z6 : wr.heap.size ≤ w6.heap.size := hb6.size
               have st6 : Below wr.heap.size wr w6 := (by repeat' (first | with_reducible exact Below.refl _ _ | with_reducible refine Below.alloc ?_ (by first | omega | (simp; done) | (simp; omega)) _ | with_reducible refine below_drewN ?_ _ | with_reducible refine Below.drew ?_ | with_reducible refine Below.setCell ?_ (by first | omega | (simp; done) | (simp; omega)) _ | with_reducible refine Below.trans ?_ (Below.mono hb6 (by first | omega | (simp; done) | (simp; omega)))))
               have gc1 : w6.cell? (ad.add k) = some (.slice A7 n7 c7) := (st6.cell (by rw [block_of_add]; exact hbk)).trans hc1
               have l6 : n6 ≤ 3 := by have := o6.len; have := spart_len (sjL xss) (k : Int); omega)
            | (go_at_call 34; (with_reducible refine Calls.mono (sameInts_same A6 A7 n6 c6 n7 c7 xs _ ?_ ?_ (by omega) (by omega)) ?_)
               · rw [HJ.out] at o6
                 exact o6.ints
               · exact hi1.up st6 st6.size
               rintro e w7 ⟨rfl, hb7⟩
               have st7 : Below wr.heap.size wr w7 := st6.trans (((by repeat' (first | with_reducible exact Below.refl _ _ | with_reducible refine Below.alloc ?_ (by first | omega | (simp; done) | (simp; omega)) _ | with_reducible refine below_drewN ?_ _ | with_reducible refine Below.drew ?_ | with_reducible refine Below.setCell ?_ (by first | omega | (simp; done) | (simp; omega)) _ | with_reducible refine Below.trans ?_ (Below.mono hb7 (by first | omega | (simp; done) | (simp; omega))))) : Below w6.heap.size w6 w7).mono z6)
               have kc1 : w7.cell? (ad.add k) = some (.slice A7 n7 c7) := (st7.cell (by rw [block_of_add]; exact hbk)).trans hc1))
        go_wp2
        go_roundw
        case rel => exact ⟨k + 1, by omega, by go_num, hbw.trans (st7.mono hbw.size)⟩
        case measure => simp [intOf]; omega
      · obtain rfl : k = 5 := by omega
        go_wp2_with fail
        refine (implSV_any _ _ _ (sjL xss) _ y2r (by omega)).mono ?_
        rintro e w6 ⟨rfl, hb6⟩
        rw [HV.out]
        go_wp2
        go_ret
        exact ⟨rfl, hB4.trans ((hbw.trans (hb6.mono hbw.size)).mono hB4.size)⟩
end Go.Proofs.Ytaelaldgohppeaa
