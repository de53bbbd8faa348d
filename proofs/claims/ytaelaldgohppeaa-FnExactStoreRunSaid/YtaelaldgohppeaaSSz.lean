/-
  szIntSS: how many words a slice of slices of ints takes of what is left.
-/
import Derived.Test.YtaelaldgohppeaaSS
import Derived.Test.YtaelaldgohppeaaSameK
import Derived.Deep.RegionWith
import Derived.IntWalk
namespace Go.Proofs.Ytaelaldgohppeaa
open Go.RowKit
set_option linter.unusedVariables false

/-- The lengths of the slices, summed. -/
def tot : List (Option Addr × Nat × Nat) → Int
  | [] => 0
  | r :: R => (r.2.1 : Int) + tot R
theorem tot_append (R S : List (Option Addr × Nat × Nat)) : tot (R ++ S) = tot R + tot S := by
  induction R with
  | nil => simp [tot]
  | cons r R ih => simp only [List.cons_append, tot, ih]; omega
theorem tot_nonneg (R : List (Option Addr × Nat × Nat)) : 0 ≤ tot R := by
  induction R with
  | nil => simp [tot]
  | cons r R ih => simp only [tot]; omega
theorem tot_take_le (R : List (Option Addr × Nat × Nat)) (k : Nat) : tot (R.take k) ≤ tot R := by
  have h := tot_append (R.take k) (R.drop k)
  rw [List.take_append_drop] at h
  have := tot_nonneg (R.drop k)
  omega
theorem tot_next {R : List (Option Addr × Nat × Nat)} {k : Nat} {r : Option Addr × Nat × Nat} (h : R[k]? = some r) : tot (R.take (k + 1)) = tot (R.take k) + (r.2.1 : Int) := by
  rw [List.take_add_one, h, tot_append]
  simp [tot]

set_option maxHeartbeats 2000000 in
theorem szIntSS_yes (A : Option Addr) (n c B : Nat) (R : List (Option Addr × Nat × Nat)) (xss : List (List Int)) (left : Int) (w : World) (hr : IntSS w B A n R xss) (h1 : left ≤ 1048576) (h : (n : Int) + tot R ≤ left) :
    Calls Try.prog 36 #[.slice A n c, .int .i64 left] w fun e w' => e = .returned (.int .i64 (left - n - tot R)) ∧ w = w' := by
  have t0 := tot_nonneg R
  have hn : (n : Int) ≤ left := by omega
  go_enter Try.func36, Try.ntmps36
  go_wp2
  go_loop [1, 5] (fun q i => ∃ (k : Nat) (x : Int), k ≤ n ∧ i = .int .i64 k ∧ q = .int .i64 (left - n - x) ∧ 0 ≤ x ∧ Hid (x = tot (R.take k))) (fun _ i => n - (intOf i).toNat)
  case atStart => exact ⟨0, 0, Nat.zero_le _, rfl, by simp, by omega, Lib.hid (by simp [tot])⟩
  case round =>
    obtain ⟨k, x, hk, rfl, rfl, hx0, hx⟩ := hrel
    by_cases hlt : k < n
    · obtain ⟨ad, r, xs, rfl, hb, hc, hr1, hx1, hs, hl, hi⟩ := hr.elem hlt
      obtain ⟨A1, n1, c1⟩ := r
      have hnx := tot_next hr1
      have hle := tot_take_le R (k + 1)
      rw [← hx.out] at hnx
      simp only at hnx hl hc
      have HNX := Lib.hid hnx
      have hle2 : x + (n1 : Int) ≤ left - (n : Int) := by omega
      clear hnx hle hs hr1 hx1
      go_wp2_with (go_at_call 75; refine (szIntS_yes _ _ _ _ _ (by omega) (by omega)).mono ?_; rintro e w9 ⟨rfl, rfl⟩)
      go_round
      case rel => exact ⟨k + 1, x + (n1 : Int), by omega, by go_num, by go_num, by omega, Lib.hid HNX.out.symm⟩
      case measure => simp [intOf]; omega
    · obtain rfl : k = n := by omega
      have hxe : x = tot R := by have h := hx.out; rwa [List.take_of_length_le (by rw [hr.rlen]; exact Nat.le_refl _)] at h
      subst hxe
      go_wp2
      go_ret
      exact ⟨rfl, rfl⟩
set_option maxHeartbeats 2000000 in
theorem szIntSS_no (A : Option Addr) (n c B : Nat) (R : List (Option Addr × Nat × Nat)) (xss : List (List Int)) (left : Int) (w : World) (hr : IntSS w B A n R xss) (h0 : 0 ≤ left) (h1 : left ≤ 1048576) (hn : n ≤ 9223372036854775807) (h : left < (n : Int) + tot R) :
    Calls Try.prog 36 #[.slice A n c, .int .i64 left] w fun e w' => e = .returned (.int .i64 (-1)) ∧ w = w' := by
  rcases Int.lt_or_le left n with hln | hln
  · go_enter Try.func36, Try.ntmps36
    go_wp2
    go_ret
    exact ⟨rfl, rfl⟩
  go_enter Try.func36, Try.ntmps36
  go_wp2
  go_loop [1, 5] (fun q i => ∃ (k : Nat) (x : Int), k ≤ n ∧ i = .int .i64 k ∧ q = .int .i64 (left - n - x) ∧ 0 ≤ x ∧ x ≤ left - n ∧ Hid (x = tot (R.take k))) (fun _ i => n - (intOf i).toNat)
  case atStart => exact ⟨0, 0, Nat.zero_le _, rfl, by simp, by omega, by omega, Lib.hid (by simp [tot])⟩
  case round =>
    obtain ⟨k, x, hk, rfl, rfl, hx0, hxl, hx⟩ := hrel
    by_cases hlt : k < n
    · obtain ⟨ad, r, xs, rfl, hb, hc, hr1, hx1, hs, hl, hi⟩ := hr.elem hlt
      obtain ⟨A1, n1, c1⟩ := r
      have hnx := tot_next hr1
      rw [← hx.out] at hnx
      simp only at hnx hl hc
      have HNX := Lib.hid hnx
      clear hnx hs hr1 hx1
      rcases Int.lt_or_le (left - (n : Int) - x) n1 with hlo | hlo
      · go_wp2_with (go_at_call 75; refine (szIntS_no _ _ _ _ _ (by omega) (by omega) hl (by omega)).mono ?_; rintro e w9 ⟨rfl, rfl⟩)
        go_ret
        exact ⟨rfl, rfl⟩
      · go_wp2_with (go_at_call 75; refine (szIntS_yes _ _ _ _ _ (by omega) (by omega)).mono ?_; rintro e w9 ⟨rfl, rfl⟩)
        go_round
        case rel => exact ⟨k + 1, x + (n1 : Int), by omega, by go_num, by go_num, by omega, by omega, Lib.hid HNX.out.symm⟩
        case measure => simp [intOf]; omega
    · obtain rfl : k = n := by omega
      have hxe : x = tot R := by have h := hx.out; rwa [List.take_of_length_le (by rw [hr.rlen]; exact Nat.le_refl _)] at h
      exact absurd hxe (by omega)
end Go.Proofs.Ytaelaldgohppeaa
