/-
  Contracts of the laws' own functions on lists of ints: two lists are equal; a copy; marks.
-/
import Derived.Test.YtclajknghfnhcaaLists
import Derived.Deep.QuietTactic
import Derived.BigQuiet
import Derived.Deep.LoopGhost
namespace Go.Proofs.Ytclajknghfnhcaa
open Go.RowKit
set_option linter.unusedVariables false

/-- A call hands back a bool and leaves the world as it was, but for draws. -/
def RetB (b : Bool) (w : World) (e : Ending) (w' : World) : Prop := e = .returned (.bool b) ∧ ∃ d, w' = w.drewN d
theorem RetB.mk {a b : Bool} {w w' : World} (h : a = b) (hw : ∃ d, w' = w.drewN d) : RetB b w (.returned (.bool a)) w' := by subst h; exact ⟨rfl, hw⟩

theorem take_eq_snoc {xs ys : List Int} {k : Nat} {x : Int} (h : xs.take k = ys.take k) (h1 : xs.take (k + 1) = xs.take k ++ [x]) (h2 : ys.take (k + 1) = ys.take k ++ [x]) : xs.take (k + 1) = ys.take (k + 1) := by
  rw [h1, h2, h]
theorem ne_of_get {xs ys : List Int} {k : Nat} {x y : Int} (h1 : xs[k]? = some x) (h2 : ys[k]? = some y) (h : x ≠ y) : (xs == ys) = false := by
  rw [beq_eq_false_iff_ne]
  rintro rfl
  rw [h1] at h2
  exact h (by injection h2)
theorem eq_of_take {xs ys : List Int} {n : Nat} (h : xs.take n = ys.take n) (h1 : xs.length = n) (h2 : ys.length = n) : (xs == ys) = true := by
  rw [List.take_of_length_le (by omega), List.take_of_length_le (by omega)] at h
  rw [beq_iff_eq]
  exact h
theorem ne_of_len {xs ys : List Int} {n m : Nat} (h1 : xs.length = n) (h2 : ys.length = m) (h : n ≠ m) : (xs == ys) = false := by
  rw [beq_eq_false_iff_ne]
  rintro rfl
  omega

theorem sameInts_any (A A' : Option Addr) (n c m c' B : Nat) (xs ys : List Int) (w : World) (hx : Ints w B A n xs) (hy : Ints w B A' m ys) (hn : n ≤ 1048576) (hm : m ≤ 1048576) :
    Calls Try.prog 8 #[.slice A n c, .slice A' m c'] w (RetB (xs == ys) w) := by
  have hlx := Lib.hid hx.len
  have hly := Lib.hid hy.len
  by_cases hne : n = m
  · subst hne
    go_enter Try.func8, Try.ntmps8
    go_wp2
    go_loopw [5] (fun i wr => ∃ k : Nat, k ≤ n ∧ i = .int .i64 k ∧ xs.take k = ys.take k ∧ ∃ d, wr = w.drewN d) (fun i _ => n - (intOf i).toNat)
    case atStart => exact ⟨0, Nat.zero_le _, rfl, rfl, 0, rfl⟩
    case round =>
      obtain ⟨k, hk, rfl, hall, d, rfl⟩ := hrel
      have HA := Lib.hid hall
      clear hall
      by_cases hlt : k < n
      · obtain ⟨ad, x, rfl, hb, hc, hx1, hs⟩ := hx.elem hlt
        obtain ⟨ad', y, rfl, hb', hc', hy1, hs'⟩ := hy.elem hlt
        by_cases hxy : x = y
        · subst hxy
          have hd : (x != x) = false := by simp
          go_wp2
          go_quiet (fail)
          go_wp2
          go_roundw
          case rel => exact ⟨k + 1, by omega, by go_num, take_eq_snoc HA.out hs.out hs'.out, _, rfl⟩
          case measure => simp [intOf]; omega
        · have hd : (x != y) = true := by simp [hxy]
          have HXY := Lib.hid hxy
          clear hxy
          go_wp2
          go_quiet (fail)
          go_wp2
          go_ret
          exact RetB.mk (ne_of_get hx1.out hy1.out HXY.out).symm ⟨_, World.drewN_drewN _ _ _⟩
      · have : k = n := by omega
        subst this
        go_wp2
        go_ret
        exact RetB.mk (eq_of_take HA.out hlx.out hly.out).symm ⟨_, rfl⟩
  · have HN := Lib.hid hne
    have hd : ((n : Int) != (m : Int)) = true := by rw [bne_iff_ne]; omega
    clear hne
    go_enter Try.func8, Try.ntmps8
    go_wp2
    go_ret
    exact RetB.mk (ne_of_len hlx.out hly.out HN.out).symm ⟨0, rfl⟩


end Go.Proofs.Ytclajknghfnhcaa
