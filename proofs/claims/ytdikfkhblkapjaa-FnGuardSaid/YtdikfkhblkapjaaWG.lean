/-
  The walk of FnGuard: the law returns true and writes nothing that was there.
-/
import Derived.Test.YtdikfkhblkapjaaDraw
namespace Go.Proofs.Ytdikfkhblkapjaa
open Go.RowKit

theorem gcN_yes {a b : Int} (h : gcB a b = true) : gcN a b = b ∧ a ≤ b ∧ 1 ≤ b ∧ b ≤ 99 := by
  simp only [gcB, Bool.and_eq_true, decide_eq_true_eq] at h
  obtain ⟨h1, h2⟩ := h
  have h3 := h1
  simp only [gcOk, inB, Bool.and_eq_true, decide_eq_true_eq] at h3
  refine ⟨?_, h2, h3.2.1, h3.2.2⟩
  unfold gcN
  rw [if_pos h1, if_neg (by omega)]
theorem gc_in {a b : Int} (h0 : 0 ≤ a) (h1 : a ≤ 99) (h2 : 1 ≤ b) (h3 : b ≤ 99) : gcOk a b = true := by
  simp only [gcOk, inB, Bool.and_eq_true, decide_eq_true_eq]; omega
theorem gc_ge {a b : Int} (h0 : 0 ≤ a) (h1 : a ≤ b) (h2 : 1 ≤ b) (h3 : b ≤ 99) : gcB a b = true ∧ gcN a b = b := by
  have h := gc_in h0 (by omega) h2 h3
  refine ⟨by simp [gcB, h, h1], ?_⟩
  unfold gcN
  rw [if_pos h, if_neg (by omega)]
theorem gc_lt {a b : Int} (h0 : a ≤ 99) (h1 : b < a) (h2 : 1 ≤ b) : gcB a b = false ∧ gcN a b = a := by
  have h := gc_in (a := a) (b := b) (by omega) h0 h2 (by omega)
  refine ⟨by simp [gcB]; omega, ?_⟩
  unfold gcN
  rw [if_pos h, if_pos h1]

theorem guard_walk (A : Option Addr) (n c : Nat) (bs : List Int) (B : Option Addr) (m d : Nat) (cs : List Int) (w : World) (hc : n ≤ c) (hcm : c ≤ 9223372036854775807) (hb : Bytes w w.heap.size A n bs) (hd : m ≤ d) (hdm : d ≤ 9223372036854775807) (hb' : Bytes w w.heap.size B m cs) :
    Calls Try.prog 4 #[.slice A n c, .slice B m d] w fun e w' => e = .returned (.bool true) ∧ Below w.heap.size w w' := by
  by_cases h1 : 1048576 < n
  · go_enter Try.func4, Try.ntmps4
    go_wp2
    go_ret
    exact ⟨rfl, Below.refl _ _⟩
  by_cases h2 : 1048576 < m
  · go_enter Try.func4, Try.ntmps4
    go_wp2
    go_ret
    exact ⟨rfl, Below.refl _ _⟩
  go_enter Try.func4, Try.ntmps4
  go_wp2_with fail
  refine (drawGuard_any _ _ _ _ _ hb (by omega) hc hcm).mono ?_
  rintro e w1 ⟨x, y, rfl, hb1⟩
  cases h3 : gcB x y
  · go_wp2_with (first
      | (go_at_call 21; refine (implGuard_any x y _).mono ?_; rintro e w' ⟨rfl, rfl⟩)
      | (go_at_call 20; refine (specGuard_any x y _).mono ?_; rintro e w' ⟨rfl, rfl⟩))
    go_ret
    exact ⟨rfl, hb1⟩
  · obtain ⟨hN, hxy, hy1, hy2⟩ := gcN_yes h3
    obtain ⟨g1, g2⟩ := gc_ge (a := y) (b := y) (by omega) (Int.le_refl _) hy1 hy2
    by_cases h4 : y ≤ 1 + (m : Int) % 99
    · obtain ⟨g3, g4⟩ := gc_ge (a := y) (b := 1 + (m : Int) % 99) (by omega) h4 (by omega) (by omega)
      go_wp2_with (first
        | (go_at_call 21; refine (implGuard_any _ _ _).mono ?_; rintro e w' ⟨rfl, rfl⟩)
        | (go_at_call 20; refine (specGuard_any _ _ _).mono ?_; rintro e w' ⟨rfl, rfl⟩))
      go_ret
      exact ⟨rfl, hb1⟩
    · obtain ⟨g3, g4⟩ := gc_lt (a := y) (b := 1 + (m : Int) % 99) hy2 (by omega) (by omega)
      have hdd : decide (y ≤ 1 + (m : Int) % 99) = false := by simp; omega
      go_wp2_with (first
        | (go_at_call 21; refine (implGuard_any _ _ _).mono ?_; rintro e w' ⟨rfl, rfl⟩)
        | (go_at_call 20; refine (specGuard_any _ _ _).mono ?_; rintro e w' ⟨rfl, rfl⟩))
      go_ret
      exact ⟨rfl, hb1⟩
end Go.Proofs.Ytdikfkhblkapjaa
