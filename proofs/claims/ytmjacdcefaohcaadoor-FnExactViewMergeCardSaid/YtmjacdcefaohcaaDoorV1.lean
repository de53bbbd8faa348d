/-
  Contracts of the views' functions that only test or read.
-/
import Derived.Test.YtmjacdcefaohcaaDoorVL
import Derived.Test.YtmjacdcefaohcaaDoorSameK
import Derived.Deep.RegionHeld3
import Derived.Deep.DeepCutAuto
import Derived.IntWalk
namespace Go.Proofs.YtmjacdcefaohcaaDoor
open Go.RowKit
set_option linter.unusedVariables false

theorem RetB.val {b : Bool} {w w' : World} (d : Nat) : RetB b w (.returned (.bool b)) (w.drewN d) := ⟨rfl, d, rfl⟩

theorem drew_more {w wr : World} (h : ∃ d, wr = w.drewN d) (k : Nat) : ∃ d, wr.drewN k = w.drewN d := by
  obtain ⟨d, rfl⟩ := h
  exact ⟨_, World.drewN_drewN _ _ _⟩

theorem contains_any (A : Option Addr) (n c B : Nat) (xs : List Int) (v : Int) (w : World) (hr : Ints w B A n xs) (hn : n ≤ 1048576) :
    Calls Tryd.prog 46 #[.slice A n c, .int .i64 v] w fun e w' => e = .returned (.bool (hasB xs v)) ∧ w = w' := by
  have hlen := Lib.hid hr.len
  go_enter Tryd.func46, Tryd.ntmps46
  go_wp2
  go_loop [9] (fun i => ∃ k : Nat, k ≤ n ∧ i = .int .i64 k ∧ hasB (xs.take k) v = false) (fun i => n - (intOf i).toNat)
  case atStart => exact ⟨0, Nat.zero_le _, rfl, by simp [hasB]⟩
  case round =>
    obtain ⟨k, hk, rfl, hall⟩ := hrel
    have HA := Lib.hid hall
    clear hall
    by_cases hlt : k < n
    · obtain ⟨ad, x, rfl, hb, hc, hx, hs⟩ := hr.elem hlt
      cases hd : (x == v)
      · go_wp2
        go_round
        case rel => exact ⟨k + 1, by omega, by go_num, has_snoc hs.out hd HA.out⟩
        case measure => simp [intOf]; omega
      · go_wp2
        go_ret
        exact ⟨ret_bool (has_hit hx.out hd).symm, rfl⟩
    · have : k = n := by omega
      subst this
      go_wp2
      go_ret
      exact ⟨ret_bool (by rw [← HA.out, List.take_of_length_le (by rw [hlen.out]; exact Nat.le_refl _)]), rfl⟩
theorem l1Has_any (A : Option Addr) (n c B : Nat) (xs : List Int) (v : Int) (w : World) (hr : Ints w B A n xs) (hn : n ≤ 1048576) :
    Calls Tryd.prog 52 #[.slice A n c, .int .i64 v] w fun e w' => e = .returned (.bool (hasB xs v)) ∧ w = w' := by
  have hlen := Lib.hid hr.len
  go_enter Tryd.func52, Tryd.ntmps52
  go_wp2
  go_loop [5] (fun i => ∃ k : Nat, k ≤ n ∧ i = .int .i64 k ∧ hasB (xs.take k) v = false) (fun i => n - (intOf i).toNat)
  case atStart => exact ⟨0, Nat.zero_le _, rfl, by simp [hasB]⟩
  case round =>
    obtain ⟨k, hk, rfl, hall⟩ := hrel
    have HA := Lib.hid hall
    clear hall
    by_cases hlt : k < n
    · obtain ⟨ad, x, rfl, hb, hc, hx, hs⟩ := hr.elem hlt
      cases hd : (x == v)
      · go_wp2
        go_round
        case rel => exact ⟨k + 1, by omega, by go_num, has_snoc hs.out hd HA.out⟩
        case measure => simp [intOf]; omega
      · go_wp2
        go_ret
        exact ⟨ret_bool (has_hit hx.out hd).symm, rfl⟩
    · have : k = n := by omega
      subst this
      go_wp2
      go_ret
      exact ⟨ret_bool (by rw [← HA.out, List.take_of_length_le (by rw [hlen.out]; exact Nat.le_refl _)]), rfl⟩
theorem hasInt_any (A : Option Addr) (n c B : Nat) (xs : List Int) (v : Int) (w : World) (hr : Ints w B A n xs) (hn : n ≤ 1048576) :
    Calls Tryd.prog 25 #[.slice A n c, .int .i64 v] w fun e w' => e = .returned (.bool (hasB xs v)) ∧ w = w' := by
  have hlen := Lib.hid hr.len
  go_enter Tryd.func25, Tryd.ntmps25
  go_wp2
  go_loop [5] (fun i => ∃ k : Nat, k ≤ n ∧ i = .int .i64 k ∧ hasB (xs.take k) v = false) (fun i => n - (intOf i).toNat)
  case atStart => exact ⟨0, Nat.zero_le _, rfl, by simp [hasB]⟩
  case round =>
    obtain ⟨k, hk, rfl, hall⟩ := hrel
    have HA := Lib.hid hall
    clear hall
    by_cases hlt : k < n
    · obtain ⟨ad, x, rfl, hb, hc, hx, hs⟩ := hr.elem hlt
      cases hd : (x == v)
      · go_wp2
        go_round
        case rel => exact ⟨k + 1, by omega, by go_num, has_snoc hs.out hd HA.out⟩
        case measure => simp [intOf]; omega
      · go_wp2
        go_ret
        exact ⟨ret_bool (has_hit hx.out hd).symm, rfl⟩
    · have : k = n := by omega
      subst this
      go_wp2
      go_ret
      exact ⟨ret_bool (by rw [← HA.out, List.take_of_length_le (by rw [hlen.out]; exact Nat.le_refl _)]), rfl⟩
theorem ascending_any (A : Option Addr) (n c B : Nat) (xs : List Int) (w : World) (hr : Ints w B A n xs) (hn : n ≤ 1048576) :
    Calls Tryd.prog 42 #[.slice A n c] w (RetB (ascB xs) w) := by
  have hlen := Lib.hid hr.len
  go_enter Tryd.func42, Tryd.ntmps42
  go_wp2
  go_loopw [3] (fun i wr => ∃ j : Nat, 1 ≤ j ∧ j ≤ n + 1 ∧ i = .int .i64 (j : Int) ∧ AscTo xs j ∧ ∃ d, wr = w.drewN d) (fun i _ => n + 1 - (intOf i).toNat)
  case atStart => exact ⟨1, by omega, by omega, rfl, asc_one _, 0, rfl⟩
  case round =>
    obtain ⟨j, hj1, hj, rfl, hall, d, rfl⟩ := hrel
    have HA := Lib.hid hall
    clear hall
    by_cases hlt : j < n
    · obtain ⟨k, hkj⟩ : ∃ k, j = k + 1 := ⟨j - 1, by omega⟩
      obtain ⟨ad', x, rfl, hb', hc', hx, _⟩ := hr.elem hlt
      obtain ⟨ad, y, hA', hb, hc, hy, _⟩ := hr.elem (k := k) (by omega)
      obtain rfl : ad' = ad := by injection hA'
      have hw1 : IntKind.i64.wrap ((j : Int) - 1) = (k : Int) := by rw [show (j : Int) - 1 = (k : Int) by omega]; exact IntWalk.i64_in _ (by omega)
      have kn : (k : Int) < (n : Int) := by omega
      have kn' : k < n := by omega
      have KJ := Lib.hid hkj
      clear hA' hkj
      by_cases hxy : x ≤ y
      · have HXY := Lib.hid hxy
        have hd : decide (x ≤ y) = true := by simp [hxy]
        clear hxy
        go_wp2
        go_quiet (fail)
        go_wp2
        go_ret
        exact RetB.mk (asc_break hy.out (by rw [← KJ.out]; exact hx.out) HXY.out).symm ⟨_, World.drewN_drewN _ _ _⟩
      · have HXY := Lib.hid hxy
        have hd : decide (x ≤ y) = false := by simp; omega
        clear hxy
        go_wp2
        go_quiet (fail)
        go_wp2
        go_roundw
        case rel => exact ⟨j + 1, by omega, by omega, by go_num, asc_step' HA.out KJ.out hy.out hx.out (by have := HXY.out; omega), _, rfl⟩
        case measure => simp [intOf]; omega
    · go_wp2
      go_ret
      exact RetB.mk (asc_all HA.out (by have := hlen.out; omega)).symm ⟨_, rfl⟩
theorem members_any (A : Option Addr) (n c B : Nat) (xs : List Int) (w : World) (hr : Ints w B A n xs) (hn : n ≤ 1048576) :
    Calls Tryd.prog 45 #[.slice A n c] w (RetB (memB xs) w) := by
  have hlen := Lib.hid hr.len
  go_enter Tryd.func45, Tryd.ntmps45
  go_wp2
  go_loopw [3] (fun i wr => ∃ k : Nat, k ≤ n ∧ i = .int .i64 (k : Int) ∧ AscTo xs k ∧ inR (xs.take k) 0 7 = true ∧ Hid (∃ d, wr = w.drewN d) ∧ Ints wr B A n xs) (fun i _ => n - (intOf i).toNat)
  case atStart => exact ⟨0, Nat.zero_le _, rfl, asc_zero _, by simp [inR], Lib.hid ⟨0, rfl⟩, hr⟩
  case round =>
    clear hr
    obtain ⟨k, hk, rfl, hall, hin, hwd, hr⟩ := hrel
    have HA := Lib.hid hall
    have HI := Lib.hid hin
    clear hall hin
    by_cases hlt : k < n
    · obtain ⟨ad', x, rfl, hb', hc', hx, hs⟩ := hr.elem hlt
      cases h1 : inB x 0 7
      · go_wp2
        go_quiet ((go_at_call 44; exact Calls.quiet_of_same ((l6In_any _ _ _ _).mono fun e w' h => ⟨h.1, h.2.symm⟩)))
        go_wp2
        go_ret
        exact RetB.mk (by simp [memB, inR_false hx.out h1]) (drew_more hwd.out _)
      · obtain _ | j := k
        · have hc0 : wr.cell? ad' = some (.int .i64 x) := by
            have e : ad'.add 0 = ad' := by unfold Addr.add; simp
            rw [← e]
            exact hc'
          go_wp2
          go_quiet ((go_at_call 44; exact Calls.quiet_of_same ((l6In_any _ _ _ _).mono fun e w' h => ⟨h.1, h.2.symm⟩)))
          go_wp2
          go_roundw
          case rel => exact ⟨1, by omega, by go_num, asc_one _, inR_snoc hs.out h1 HI.out, Lib.hid (drew_more hwd.out _), hr.drewN _⟩
          case measure => simp [intOf]; omega
        · generalize hkj : j + 1 = k at *
          obtain ⟨ad, y, hA', hb, hc, hy, _⟩ := hr.elem (k := j) (by omega)
          obtain rfl : ad' = ad := by injection hA'
          have hw1 : IntKind.i64.wrap ((k : Int) - 1) = (j : Int) := by rw [show (k : Int) - 1 = (j : Int) by omega]; exact IntWalk.i64_in _ (by omega)
          have k0 : (0 : Int) < (k : Int) := by omega
          have k0' : decide (0 < k) = true := by simp; omega
          have kn : (j : Int) < (n : Int) := by omega
          have kn' : j < n := by omega
          have KJ := Lib.hid hkj.symm
          clear hA' hkj
          by_cases hxy : x ≤ y
          · have HXY := Lib.hid hxy
            have hd : decide (x ≤ y) = true := by simp [hxy]
            clear hxy
            go_wp2
            go_quiet ((go_at_call 44; exact Calls.quiet_of_same ((l6In_any _ _ _ _).mono fun e w' h => ⟨h.1, h.2.symm⟩)))
            go_wp2
            go_ret
            exact RetB.mk (by have := asc_break hy.out (by rw [← KJ.out]; exact hx.out) HXY.out; simp [memB, this]) (drew_more hwd.out _)
          · have HXY := Lib.hid hxy
            have hd : decide (x ≤ y) = false := by simp; omega
            clear hxy
            go_wp2
            go_quiet ((go_at_call 44; exact Calls.quiet_of_same ((l6In_any _ _ _ _).mono fun e w' h => ⟨h.1, h.2.symm⟩)))
            go_wp2
            go_roundw
            case rel => exact ⟨k + 1, by omega, by go_num, asc_step' HA.out KJ.out hy.out hx.out (by have := HXY.out; omega), inR_snoc hs.out h1 HI.out, Lib.hid (drew_more hwd.out _), hr.drewN _⟩
            case measure => simp [intOf]; omega
    · have : k = n := by omega
      subst this
      go_wp2
      go_ret
      exact RetB.mk (by rw [List.take_of_length_le (by rw [hlen.out]; exact Nat.le_refl _)] at HI; have h1 := HI.out; have h2 := asc_all HA.out (by rw [hlen.out]; exact Nat.le_refl _); simp [memB, h1, h2]) hwd.out
theorem implViewValid_any (A : Option Addr) (n c : Nat) (q : Int) (xs : List Int) (w : World) (hx : Ints w w.heap.size A n xs) (hn : n ≤ 1048576) :
    Calls Tryd.prog 17 #[.agg #[.int .i64 q, .slice A n c]] w (RetV (.bool (vvB q xs)) w) := by
  have HL := Lib.hid hx.len
  have hX := hx.alloc (Nat.le_refl _) (.cells #[.int .i64 q, .slice A n c] 25)
  by_cases h1 : q < 0
  · go_enter Tryd.func17, Tryd.ntmps17
    go_wp2
    go_ret
    exact ⟨ret_bool (by simp [vvB, inB_low h1]), (by repeat' (first | with_reducible exact Below.refl _ _ | with_reducible assumption | with_reducible refine Below.setCell ?_ (by first | omega | (simp; done) | (simp; omega)) _ | with_reducible refine Below.alloc ?_ (by first | omega | (simp; done) | (simp; omega)) _ | with_reducible refine below_drewN ?_ _ | with_reducible refine Below.drew ?_ | (with_reducible refine Below.trans ?_ (Below.mono (by with_reducible assumption) (by first | omega | (simp; done) | (simp; omega))))))⟩
  by_cases h2 : 99 < q
  · go_enter Tryd.func17, Tryd.ntmps17
    go_wp2
    go_ret
    exact ⟨ret_bool (by simp [vvB, inB_high h2]), (by repeat' (first | with_reducible exact Below.refl _ _ | with_reducible assumption | with_reducible refine Below.setCell ?_ (by first | omega | (simp; done) | (simp; omega)) _ | with_reducible refine Below.alloc ?_ (by first | omega | (simp; done) | (simp; omega)) _ | with_reducible refine below_drewN ?_ _ | with_reducible refine Below.drew ?_ | (with_reducible refine Below.trans ?_ (Below.mono (by with_reducible assumption) (by first | omega | (simp; done) | (simp; omega))))))⟩
  have h0 : 0 ≤ q := by omega
  have h9 : q ≤ 99 := by omega
  have HQ := Lib.hid (inB_in h0 h9)
  clear h1 h2
  rcases Nat.eq_zero_or_pos n with h3 | h3
  · subst h3
    go_enter Tryd.func17, Tryd.ntmps17
    go_wp2
    go_ret
    exact ⟨ret_bool (by simp [vvB, HL.out]), (by repeat' (first | with_reducible exact Below.refl _ _ | with_reducible assumption | with_reducible refine Below.setCell ?_ (by first | omega | (simp; done) | (simp; omega)) _ | with_reducible refine Below.alloc ?_ (by first | omega | (simp; done) | (simp; omega)) _ | with_reducible refine below_drewN ?_ _ | with_reducible refine Below.drew ?_ | (with_reducible refine Below.trans ?_ (Below.mono (by with_reducible assumption) (by first | omega | (simp; done) | (simp; omega))))))⟩
  have h3' : (0 : Int) < (n : Int) := by omega
  cases h4 : ascB xs
  · go_enter Tryd.func17, Tryd.ntmps17
    go_wp2_with (go_at_call 42; refine (ascending_any _ _ _ w.heap.size xs _ hX hn).mono ?_; rintro e w' ⟨rfl, d, rfl⟩)
    go_ret
    exact ⟨ret_bool (by simp [vvB, memB, h4]), (by repeat' (first | with_reducible exact Below.refl _ _ | with_reducible assumption | with_reducible refine Below.setCell ?_ (by first | omega | (simp; done) | (simp; omega)) _ | with_reducible refine Below.alloc ?_ (by first | omega | (simp; done) | (simp; omega)) _ | with_reducible refine below_drewN ?_ _ | with_reducible refine Below.drew ?_ | (with_reducible refine Below.trans ?_ (Below.mono (by with_reducible assumption) (by first | omega | (simp; done) | (simp; omega))))))⟩
  cases h5 : inR xs 0 7
  all_goals
    go_enter Tryd.func17, Tryd.ntmps17
    go_wp2_with (first
      | (go_at_call 42; refine (ascending_any _ _ _ w.heap.size xs _ hX hn).mono ?_; rintro e w' ⟨rfl, d, rfl⟩)
      | (go_at_call 43; refine (inRange_any _ _ _ w.heap.size xs _ _ _ (hX.drewN _) hn).mono ?_; rintro e w' ⟨rfl, rfl⟩))
    go_ret
    exact ⟨ret_bool (by simp [vvB, memB, h4, h5, HQ.out, HL.out, h3]), (by repeat' (first | with_reducible exact Below.refl _ _ | with_reducible assumption | with_reducible refine Below.setCell ?_ (by first | omega | (simp; done) | (simp; omega)) _ | with_reducible refine Below.alloc ?_ (by first | omega | (simp; done) | (simp; omega)) _ | with_reducible refine below_drewN ?_ _ | with_reducible refine Below.drew ?_ | (with_reducible refine Below.trans ?_ (Below.mono (by with_reducible assumption) (by first | omega | (simp; done) | (simp; omega))))))⟩
theorem specViewValid_any (A : Option Addr) (n c : Nat) (q : Int) (xs : List Int) (w : World) (hx : Ints w w.heap.size A n xs) (hn : n ≤ 1048576) :
    Calls Tryd.prog 18 #[.agg #[.int .i64 q, .slice A n c]] w (RetV (.bool (vvB q xs)) w) := by
  have HL := Lib.hid hx.len
  have hX := hx.alloc (Nat.le_refl _) (.cells #[.int .i64 q, .slice A n c] 25)
  cases h1 : inB q 0 99
  · go_enter Tryd.func18, Tryd.ntmps18
    go_wp2_with (go_at_call 44; refine (l6In_any _ _ _ _).mono ?_; rintro e w' ⟨rfl, rfl⟩)
    go_ret
    exact ⟨ret_bool (by simp [vvB, h1]), (by repeat' (first | with_reducible exact Below.refl _ _ | with_reducible assumption | with_reducible refine Below.setCell ?_ (by first | omega | (simp; done) | (simp; omega)) _ | with_reducible refine Below.alloc ?_ (by first | omega | (simp; done) | (simp; omega)) _ | with_reducible refine below_drewN ?_ _ | with_reducible refine Below.drew ?_ | (with_reducible refine Below.trans ?_ (Below.mono (by with_reducible assumption) (by first | omega | (simp; done) | (simp; omega))))))⟩
  rcases Nat.eq_zero_or_pos n with h3 | h3
  · subst h3
    go_enter Tryd.func18, Tryd.ntmps18
    go_wp2_with (go_at_call 44; refine (l6In_any _ _ _ _).mono ?_; rintro e w' ⟨rfl, rfl⟩)
    go_ret
    exact ⟨ret_bool (by simp [vvB, HL.out]), (by repeat' (first | with_reducible exact Below.refl _ _ | with_reducible assumption | with_reducible refine Below.setCell ?_ (by first | omega | (simp; done) | (simp; omega)) _ | with_reducible refine Below.alloc ?_ (by first | omega | (simp; done) | (simp; omega)) _ | with_reducible refine below_drewN ?_ _ | with_reducible refine Below.drew ?_ | (with_reducible refine Below.trans ?_ (Below.mono (by with_reducible assumption) (by first | omega | (simp; done) | (simp; omega))))))⟩
  have h3' : (0 : Int) < (n : Int) := by omega
  cases h5 : memB xs
  all_goals
    go_enter Tryd.func18, Tryd.ntmps18
    go_wp2_with (first
      | (go_at_call 44; refine (l6In_any _ _ _ _).mono ?_; rintro e w' ⟨rfl, rfl⟩)
      | (go_at_call 45; refine (members_any _ _ _ w.heap.size xs _ hX hn).mono ?_; rintro e w' ⟨rfl, d, rfl⟩))
    go_ret
    exact ⟨ret_bool (by simp [vvB, h1, h5, HL.out, h3]), (by repeat' (first | with_reducible exact Below.refl _ _ | with_reducible assumption | with_reducible refine Below.setCell ?_ (by first | omega | (simp; done) | (simp; omega)) _ | with_reducible refine Below.alloc ?_ (by first | omega | (simp; done) | (simp; omega)) _ | with_reducible refine below_drewN ?_ _ | with_reducible refine Below.drew ?_ | (with_reducible refine Below.trans ?_ (Below.mono (by with_reducible assumption) (by first | omega | (simp; done) | (simp; omega))))))⟩
end Go.Proofs.YtmjacdcefaohcaaDoor
