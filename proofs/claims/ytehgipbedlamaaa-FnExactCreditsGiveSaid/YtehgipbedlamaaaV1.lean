/-
  Contracts of the views' functions that only test or read.
-/
import Derived.Test.YtehgipbedlamaaaVL
import Derived.Test.YtehgipbedlamaaaSameK
import Derived.Deep.RegionHeld3
import Derived.Deep.DeepCutAuto
import Derived.IntWalk
namespace Go.Proofs.Ytehgipbedlamaaa
open Go.RowKit
set_option linter.unusedVariables false

theorem RetB.val {b : Bool} {w w' : World} (d : Nat) : RetB b w (.returned (.bool b)) (w.drewN d) := ⟨rfl, d, rfl⟩

theorem drew_more {w wr : World} (h : ∃ d, wr = w.drewN d) (k : Nat) : ∃ d, wr.drewN k = w.drewN d := by
  obtain ⟨d, rfl⟩ := h
  exact ⟨_, World.drewN_drewN _ _ _⟩

theorem l1Has_any (A : Option Addr) (n c B : Nat) (xs : List Int) (v : Int) (w : World) (hr : Ints w B A n xs) (hn : n ≤ 1048576) :
    Calls Try.prog 44 #[.slice A n c, .int .i64 v] w fun e w' => e = .returned (.bool (hasB xs v)) ∧ w = w' := by
  have hlen := Lib.hid hr.len
  go_enter Try.func44, Try.ntmps44
  go_wp2
  go_loop [5] (fun i => ∃ k : Nat, k ≤ n ∧ i = .int .i64 k ∧ hasB (xs.take k) v = false) (fun i => n - (intOf i).toNat)
  case atStart => exact ⟨0, Nat.zero_le _, rfl, by simp [hasB]⟩
  case round =>
    obtain ⟨k, hk, rfl, hall⟩ := hrel
    have HA := Lib.hid hall
    clear hall
    by_cases hlt : k < n
    · obtain ⟨ad, x, rfl, hb, hc, hx, hs⟩ := hr.elem hlt
      cases hd : (x == v)
      · go_wp2
        go_round
        case rel => exact ⟨k + 1, by omega, by go_num, has_snoc hs.out hd HA.out⟩
        case measure => simp [intOf]; omega
      · go_wp2
        go_ret
        exact ⟨ret_bool (has_hit hx.out hd).symm, rfl⟩
    · have : k = n := by omega
      subst this
      go_wp2
      go_ret
      exact ⟨ret_bool (by rw [← HA.out, List.take_of_length_le (by rw [hlen.out]; exact Nat.le_refl _)]), rfl⟩
theorem hasInt_any (A : Option Addr) (n c B : Nat) (xs : List Int) (v : Int) (w : World) (hr : Ints w B A n xs) (hn : n ≤ 1048576) :
    Calls Try.prog 16 #[.slice A n c, .int .i64 v] w fun e w' => e = .returned (.bool (hasB xs v)) ∧ w = w' := by
  have hlen := Lib.hid hr.len
  go_enter Try.func16, Try.ntmps16
  go_wp2
  go_loop [5] (fun i => ∃ k : Nat, k ≤ n ∧ i = .int .i64 k ∧ hasB (xs.take k) v = false) (fun i => n - (intOf i).toNat)
  case atStart => exact ⟨0, Nat.zero_le _, rfl, by simp [hasB]⟩
  case round =>
    obtain ⟨k, hk, rfl, hall⟩ := hrel
    have HA := Lib.hid hall
    clear hall
    by_cases hlt : k < n
    · obtain ⟨ad, x, rfl, hb, hc, hx, hs⟩ := hr.elem hlt
      cases hd : (x == v)
      · go_wp2
        go_round
        case rel => exact ⟨k + 1, by omega, by go_num, has_snoc hs.out hd HA.out⟩
        case measure => simp [intOf]; omega
      · go_wp2
        go_ret
        exact ⟨ret_bool (has_hit hx.out hd).symm, rfl⟩
    · have : k = n := by omega
      subst this
      go_wp2
      go_ret
      exact ⟨ret_bool (by rw [← HA.out, List.take_of_length_le (by rw [hlen.out]; exact Nat.le_refl _)]), rfl⟩
theorem ascending_any (A : Option Addr) (n c B : Nat) (xs : List Int) (w : World) (hr : Ints w B A n xs) (hn : n ≤ 1048576) :
    Calls Try.prog 70 #[.slice A n c] w (RetB (ascB xs) w) := by
  have hlen := Lib.hid hr.len
  go_enter Try.func70, Try.ntmps70
  go_wp2
  go_loopw [3] (fun i wr => ∃ j : Nat, 1 ≤ j ∧ j ≤ n + 1 ∧ i = .int .i64 (j : Int) ∧ AscTo xs j ∧ ∃ d, wr = w.drewN d) (fun i _ => n + 1 - (intOf i).toNat)
  case atStart => exact ⟨1, by omega, by omega, rfl, asc_one _, 0, rfl⟩
  case round =>
    obtain ⟨j, hj1, hj, rfl, hall, d, rfl⟩ := hrel
    have HA := Lib.hid hall
    clear hall
    by_cases hlt : j < n
    · obtain ⟨k, hkj⟩ : ∃ k, j = k + 1 := ⟨j - 1, by omega⟩
      obtain ⟨ad', x, rfl, hb', hc', hx, _⟩ := hr.elem hlt
      obtain ⟨ad, y, hA', hb, hc, hy, _⟩ := hr.elem (k := k) (by omega)
      obtain rfl : ad' = ad := by injection hA'
      have hw1 : IntKind.i64.wrap ((j : Int) - 1) = (k : Int) := by rw [show (j : Int) - 1 = (k : Int) by omega]; exact IntWalk.i64_in _ (by omega)
      have kn : (k : Int) < (n : Int) := by omega
      have kn' : k < n := by omega
      have KJ := Lib.hid hkj
      clear hA' hkj
      by_cases hxy : x ≤ y
      · have HXY := Lib.hid hxy
        have hd : decide (x ≤ y) = true := by simp [hxy]
        clear hxy
        go_wp2
        go_quiet (fail)
        go_wp2
        go_ret
        exact RetB.mk (asc_break hy.out (by rw [← KJ.out]; exact hx.out) HXY.out).symm ⟨_, World.drewN_drewN _ _ _⟩
      · have HXY := Lib.hid hxy
        have hd : decide (x ≤ y) = false := by simp; omega
        clear hxy
        go_wp2
        go_quiet (fail)
        go_wp2
        go_roundw
        case rel => exact ⟨j + 1, by omega, by omega, by go_num, asc_step' HA.out KJ.out hy.out hx.out (by have := HXY.out; omega), _, rfl⟩
        case measure => simp [intOf]; omega
    · go_wp2
      go_ret
      exact RetB.mk (asc_all HA.out (by have := hlen.out; omega)).symm ⟨_, rfl⟩
end Go.Proofs.Ytehgipbedlamaaa
