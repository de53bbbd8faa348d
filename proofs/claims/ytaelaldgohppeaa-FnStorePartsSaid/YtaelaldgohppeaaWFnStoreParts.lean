/-
  The walk of FnStoreParts: the law returns true and writes nothing that was there.
-/
import Derived.Test.YtaelaldgohppeaaDSP
import Derived.Test.YtaelaldgohppeaaSH
import Derived.Test.YtaelaldgohppeaaSF
import Derived.Deep.RegionWith
namespace Go.Proofs.Ytaelaldgohppeaa
open Go.RowKit
set_option linter.unusedVariables false

set_option maxHeartbeats 4000000 in
theorem fnStoreParts_walk (A : Option Addr) (n c : Nat) (bs : List Int) (w : World) (hc : n ≤ c) (hcm : c ≤ 9223372036854775807) (hb : Bytes w w.heap.size A n bs) :
    Calls Try.prog 5 #[.slice A n c] w fun e w' => e = .returned (.bool true) ∧ Below w.heap.size w w' := by
  by_cases hbig : 1048576 < n
  · go_enter Try.func5, Try.ntmps5
    go_wp2
    go_ret
    exact ⟨rfl, Below.refl _ _⟩
  go_enter Try.func5, Try.ntmps5
  go_wp2_with fail
  refine (drawStorePart_any _ _ _ _ _ hb (by omega) hc hcm).mono ?_
  rintro e w1 ⟨A1, n1, c1, xs, x, rfl, o1, hn1, hb1⟩
  have z1 := hb1.size
  have hi1 := o1.ints
  clear o1
  go_wp2_with fail
  refine (implPart_any _ _ _ xs x _ hi1 (by omega)).mono ?_
  rintro e w2 ⟨A2, n2, c2, rfl, o2, hb2⟩
  have hB2 := hb1.trans (hb2.mono hb1.size)
  have hi2 := hi1.up hb2 hb2.size
  clear hi1 hb1 z1
  go_wp2_with fail
  refine (specPart_any _ _ _ xs x _ hi2 (by omega)).mono ?_
  rintro e w3 ⟨A3, n3, c3, rfl, o3, hb3⟩
  have hB3 := hB2.trans (hb3.mono hB2.size)
  have hi3 := hi2.up hb3 hb3.size
  have i2 := o2.ints.up hb3 hb3.size
  have i3 := o3.ints
  have l2 : n2 ≤ 3 := by have := o2.len; have := spart_len xs x; omega
  have l3 : n3 ≤ 3 := by have := o3.len; have := spart_len xs x; omega
  clear hi2 hB2 o2 o3 hb2 hb3
  go_wp2_with fail
  refine (sameInts_same _ _ _ _ _ _ (spart xs x) _ i2 i3 (by omega) (by omega)).mono ?_
  rintro e w4 ⟨rfl, hb4⟩
  have hB4 := hB3.trans (hb4.mono hB3.size)
  have hi4 := hi3.up hb4 hb4.size
  have j2 := i2.up hb4 hb4.size
  have j3 := i3.up hb4 hb4.size
  clear hi3 i2 i3 hB3 hb4
  cases hv : svB xs
  · go_wp2_with fail
    refine (specSV_any _ _ _ xs _ hi4 (by omega)).mono ?_
    rintro e w5 ⟨rfl, hb5⟩
    rw [hv]
    have hB5 := hB4.trans (hb5.mono hB4.size)
    have k2 := j2.up hb5 hb5.size
    have k3 := j3.up hb5 hb5.size
    go_wp2_with fail
    refine (sameInts_same _ _ _ _ _ _ (spart xs x) _ k2 k3 (by omega) (by omega)).mono ?_
    rintro e w6 ⟨rfl, hb6⟩
    go_wp2
    go_ret
    exact ⟨rfl, hB5.trans (hb6.mono hB5.size)⟩
  · have HV := Lib.hid hv
    have hlx := Lib.hid (sv_len hv)
    go_wp2_with fail
    refine (specSV_any _ _ _ xs _ hi4 (by omega)).mono ?_
    rintro e w5 ⟨rfl, hb5⟩
    rw [hv]
    have hB5 := hB4.trans (hb5.mono hB4.size)
    have hi5 := hi4.up hb5 hb5.size
    clear hv hi4 hB4 j2 j3 hb5
    go_wp2_with fail
    go_loopw [7, 8] (fun s i wr => ∃ (k : Nat) (B2 : Option Addr) (d2 : Nat) (R : List (Option Addr × Nat × Nat)), k ≤ 5 ∧ i = .int .i64 k ∧ s = .slice B2 k d2 ∧ HeldSS wr w5.heap.size B2 k d2 R (partsL xs k) ∧ Below w5.heap.size w5 wr) (fun _ i _ => 5 - (intOf i).toNat)
    case atStart => exact ⟨0, _, _, [], by omega, rfl, rfl, HeldSS.start (Nat.le_refl _), (Below.refl _ _).alloc (Nat.le_refl _) _⟩
    case round =>
      obtain ⟨k, B2, d2, R, hk, rfl, rfl, hh, hbw⟩ := hrel
      have hir := hi5.up hbw hbw.size
      by_cases hlt : k < 5
      · go_wp2_with fail
        refine (implPart_any _ _ _ xs k _ hir (by omega)).mono ?_
        rintro e w6 ⟨A6, n6, c6, rfl, o6, hb6⟩
        have hh6 := hh.below hb6
        have hbw6 := hbw.trans (hb6.mono hbw.size)
        have z6 := hbw6.size
        have o6' := o6.mono hbw.size
        clear hh hbw hir hb6 o6
        go_wp2_with (at_builtin; refine appSS rfl _ _ rfl w5.heap.size rfl (hh6.alloc _).o _ _ _ _ [sv (A6, n6, c6)] rfl (Reads.one' _ rfl) (sv_one _) (by omega) (by simp; omega) ?_; intro B3 d3 w7 o7 hg7 at7; have hh7 := (hh6.alloc _).app (o6'.alloc _) hg7 o7)
        go_roundw
        case rel => exact ⟨k + 1, B3, d3, _, by omega, by go_num, rfl, by rw [partsL_succ]; exact hh7, Below.grown (hbw6.alloc z6 _) hg7 (by simp; omega) (fun j hj => (hh6.lt hj).1)⟩
        case measure => simp [intOf]; omega
      · obtain rfl : k = 5 := by omega
        have hr := hh.reads (fun k xs' hx => by
          have hx' := List.mem_of_getElem? hx
          obtain ⟨i, _, rfl⟩ := List.mem_map.1 hx'
          have := spart_len xs (i : Int); omega)
        go_wp2_with fail
        refine (implSJ_any _ _ _ R (partsL xs 5) _ hr (by omega)).mono ?_
        rintro e w6 ⟨A6, n6, c6, rfl, o6, hb6⟩
        rw [join_parts HV.out] at o6
        have i6 := o6.ints
        have hir6 := hir.up hb6 hb6.size
        have l6 : n6 ≤ 15 := by have := o6.len; have := hlx.out; omega
        clear o6
        go_wp2_with fail
        refine (sameInts_same _ _ _ _ _ _ xs _ i6 hir6 (by omega) (by omega)).mono ?_
        rintro e w7 ⟨rfl, hb7⟩
        go_wp2
        go_ret
        exact ⟨rfl, ((hB5.trans (hbw.mono hB5.size)).trans (hb6.mono (Nat.le_trans hB5.size hbw.size))).trans (hb7.mono (Nat.le_trans (Nat.le_trans hB5.size hbw.size) hb6.size))⟩
end Go.Proofs.Ytaelaldgohppeaa
