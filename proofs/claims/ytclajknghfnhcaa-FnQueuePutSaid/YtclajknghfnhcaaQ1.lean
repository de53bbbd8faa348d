/-
  Contracts of the queue's functions that only test or read.
-/
import Derived.Test.YtclajknghfnhcaaLists
import Derived.Deep.RegionHeld3
import Derived.Deep.DeepCutAuto
namespace Go.Proofs.Ytclajknghfnhcaa
open Go.RowKit
set_option linter.unusedVariables false

/-- A queue is valid. -/
def qvB (xs ys : List Int) : Bool := decide (xs.length ≤ 20) && inR xs 0 999 && decide (ys.length ≤ xs.length) && inR ys 0 3

theorem implQueueValid_any (A A' : Option Addr) (n c n' c' : Nat) (xs ys : List Int) (w : World) (hx : Ints w w.heap.size A n xs) (hy : Ints w w.heap.size A' n' ys) (hn : n ≤ 1048576) (hn' : n' ≤ 1048576) :
    Calls Try.prog 10 #[.agg #[.slice A n c, .slice A' n' c']] w fun e w' => e = .returned (.bool (qvB xs ys)) ∧ Below w.heap.size w w' := by
  obtain rfl := hx.len
  obtain rfl := hy.len
  rcases Nat.lt_or_ge 20 xs.length with h1 | h1 <;> cases h2 : inR xs 0 999 <;> cases h3 : decide (ys.length ≤ xs.length)
  all_goals
    go_enter Try.func10, Try.ntmps10
    go_wp2_with (go_at_call 19; refine (inRange_any _ _ _ w.heap.size _ _ _ _ (by first | exact hx.alloc (Nat.le_refl _) _ | exact hy.alloc (Nat.le_refl _) _) (by assumption)).mono ?_; rintro e w' ⟨rfl, rfl⟩)
    go_ret
    exact ⟨ret_bool (by simp [qvB, h2, h3] <;> omega), (Below.refl _ _).alloc (Nat.le_refl _) _⟩

theorem specQueueValid_any (A A' : Option Addr) (n c n' c' : Nat) (xs ys : List Int) (w : World) (hx : Ints w w.heap.size A n xs) (hy : Ints w w.heap.size A' n' ys) (hn : n ≤ 1048576) (hn' : n' ≤ 1048576) :
    Calls Try.prog 15 #[.agg #[.slice A n c, .slice A' n' c']] w fun e w' => e = .returned (.bool (qvB xs ys)) ∧ Below w.heap.size w w' := by
  have hlx := Lib.hid hx.len
  have hly := Lib.hid hy.len
  have hX : Ints (w.alloc (.cells #[.slice A n c, .slice A' n' c'] 25)) w.heap.size A n xs := hx.alloc (Nat.le_refl _) _
  have hY : Ints (w.alloc (.cells #[.slice A n c, .slice A' n' c'] 25)) w.heap.size A' n' ys := hy.alloc (Nat.le_refl _) _
  go_enter Try.func15, Try.ntmps15
  go_wp2
  go_loop [3] (fun i => ∃ k : Nat, k ≤ n ∧ i = .int .i64 k ∧ inR (xs.take k) 0 999 = true) (fun i => n - (intOf i).toNat)
  case atStart => exact ⟨0, Nat.zero_le _, rfl, by simp [inR]⟩
  case round =>
    obtain ⟨k, hk, rfl, hall⟩ := hrel
    have HA := Lib.hid hall
    clear hall
    by_cases hlt : k < n
    · obtain ⟨ad, x, rfl, hb, hc, hx1, hs⟩ := hX.elem hlt
      cases h1 : inB x 0 999
      · go_wp2_with (go_at_call 16; refine (l6In_any _ _ _ _).mono ?_; rintro e w' ⟨rfl, rfl⟩)
        go_ret
        exact ⟨ret_bool (by simp [qvB, inR_false hx1.out h1]), (Below.refl _ _).alloc (Nat.le_refl _) _⟩
      · go_wp2_with (go_at_call 16; refine (l6In_any _ _ _ _).mono ?_; rintro e w' ⟨rfl, rfl⟩)
        go_round
        case rel => exact ⟨k + 1, by omega, by go_num, inR_snoc hs.out h1 HA.out⟩
        case measure => simp [intOf]; omega
    · have : k = n := by omega
      subst this
      have HX : Hid (inR xs 0 999 = true) := by rw [← HA.out, List.take_of_length_le (by rw [hlx.out]; exact Nat.le_refl _)]; rfl
      clear HA
      go_wp2
      go_loop [4] (fun i => ∃ j : Nat, j ≤ n' ∧ i = .int .i64 j ∧ inR (ys.take j) 0 3 = true) (fun i => n' - (intOf i).toNat)
      case atStart => exact ⟨0, Nat.zero_le _, rfl, by simp [inR]⟩
      case round =>
        obtain ⟨j, hj, rfl, hall⟩ := hrel
        have HA := Lib.hid hall
        clear hall
        by_cases hlt : j < n'
        · obtain ⟨ad, x, rfl, hb, hc, hx1, hs⟩ := hY.elem hlt
          cases h1 : inB x 0 3
          · go_wp2_with (go_at_call 16; refine (l6In_any _ _ _ _).mono ?_; rintro e w' ⟨rfl, rfl⟩)
            go_ret
            exact ⟨ret_bool (by simp [qvB, inR_false hx1.out h1]), (Below.refl _ _).alloc (Nat.le_refl _) _⟩
          · go_wp2_with (go_at_call 16; refine (l6In_any _ _ _ _).mono ?_; rintro e w' ⟨rfl, rfl⟩)
            go_round
            case rel => exact ⟨j + 1, by omega, by go_num, inR_snoc hs.out h1 HA.out⟩
            case measure => simp [intOf]; omega
        · have : j = n' := by omega
          subst this
          have HY : Hid (inR ys 0 3 = true) := by rw [← HA.out, List.take_of_length_le (by rw [hly.out]; exact Nat.le_refl _)]; rfl
          clear HA
          rcases Nat.lt_or_ge 20 k with h1 | h1 <;> cases h3 : decide (j ≤ k)
          all_goals
            go_wp2
            go_ret
            exact ⟨ret_bool (by simp [qvB, HX.out, HY.out, hlx.out, hly.out, h3] <;> omega), (Below.refl _ _).alloc (Nat.le_refl _) _⟩
end Go.Proofs.Ytclajknghfnhcaa
