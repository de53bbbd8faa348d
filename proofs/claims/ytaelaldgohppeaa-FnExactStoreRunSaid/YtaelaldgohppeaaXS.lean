/-
  Lists of transactions: how much they take (szTxnS), equal lists (eqTxnS).
-/
import Derived.Test.YtaelaldgohppeaaXB
namespace Go.Proofs.Ytaelaldgohppeaa
open Go.RowKit
set_option linter.unusedVariables false

/-- The lengths of the transactions' parts, summed. -/
def totT : List TR → Int
  | [] => 0
  | r :: R => (r.n1 : Int) + (r.n2 : Int) + totT R
theorem totT_append (R S : List TR) : totT (R ++ S) = totT R + totT S := by
  induction R with
  | nil => simp [totT]
  | cons r R ih => simp only [List.cons_append, totT, ih]; omega
theorem totT_nonneg (R : List TR) : 0 ≤ totT R := by
  induction R with
  | nil => simp [totT]
  | cons r R ih => simp only [totT]; omega
theorem totT_take_le (R : List TR) (k : Nat) : totT (R.take k) ≤ totT R := by
  have h := totT_append (R.take k) (R.drop k)
  rw [List.take_append_drop] at h
  have := totT_nonneg (R.drop k)
  omega
theorem totT_next {R : List TR} {k : Nat} {r : TR} (h : R[k]? = some r) : totT (R.take (k + 1)) = totT (R.take k) + ((r.n1 : Int) + (r.n2 : Int)) := by
  rw [List.take_add_one, h, totT_append]
  simp [totT]
theorem totT_mem {R : List TR} {k : Nat} {r : TR} (h : R[k]? = some r) : (r.n1 : Int) + (r.n2 : Int) ≤ totT R := by
  have h1 := totT_next h
  have h2 := totT_take_le R (k + 1)
  have h3 := totT_nonneg (R.take k)
  omega

set_option maxHeartbeats 2000000 in
theorem szTxnS_yes (A : Option Addr) (n c : Nat) (R : List TR) (ts : List TX) (left : Int) (w : World) (hr : TxnS w w.heap.size A n R ts) (h1 : left ≤ 1048576) (h : (n : Int) + totT R ≤ left) :
    Calls Try.prog 61 #[.slice A n c, .int .i64 left] w (RetV (.int .i64 (left - n - totT R)) w) := by
  have t0 := totT_nonneg R
  have hn : (n : Int) ≤ left := by omega
  go_enter Try.func61, Try.ntmps61
  go_wp2
  go_loopw [1, 5] (fun q i wr => ∃ (k : Nat) (x : Int), k ≤ n ∧ i = .int .i64 k ∧ q = .int .i64 (left - n - x) ∧ 0 ≤ x ∧ Hid (x = totT (R.take k)) ∧ Below w.heap.size w wr) (fun _ i _ => n - (intOf i).toNat)
  case atStart => exact ⟨0, 0, Nat.zero_le _, rfl, by simp, by omega, Lib.hid (by simp [totT]), Below.refl _ _⟩
  case round =>
    obtain ⟨k, x, hk, rfl, rfl, hx0, hx, hbw⟩ := hrel
    by_cases hlt : k < n
    · have X := hr.up hbw hbw.size
      obtain ⟨ad, A1, n1, c1, nd, A2, n2, c2, rs, ps, rfl, hb, hc0, hc1, hc2, hc3, hc4, hc5, hi, hp, ht1, hts, hR⟩ := X.el hlt
      have hnx := totT_next hR.out
      have hle := totT_take_le R (k + 1)
      rw [← hx.out] at hnx
      simp only at hnx
      have HNX := Lib.hid hnx
      have hle2 : x + ((n1 : Int) + (n2 : Int)) ≤ left - (n : Int) := by omega
      clear hnx hle
      go_wp2_with (go_at_call 42; refine (szTxn_yes_x A1 n1 c1 A2 n2 c2 nd _ wr (by omega) (by omega)).mono ?_; rintro e w9 ⟨rfl, hb9⟩)
      go_roundw
      case rel => exact ⟨k + 1, x + ((n1 : Int) + (n2 : Int)), by omega, by go_num, by go_num, by omega, Lib.hid HNX.out.symm, hbw.trans (hb9.mono hbw.size)⟩
      case measure => simp [intOf]; omega
    · obtain rfl : k = n := by omega
      have hxe : x = totT R := by have h := hx.out; rwa [List.take_of_length_le (by rw [hr.rlen]; exact Nat.le_refl _)] at h
      subst hxe
      go_wp2
      go_ret
      exact ⟨rfl, hbw⟩
set_option maxHeartbeats 2000000 in
theorem szTxnS_no (A : Option Addr) (n c : Nat) (R : List TR) (ts : List TX) (left : Int) (w : World) (hr : TxnS w w.heap.size A n R ts) (h0 : 0 ≤ left) (h1 : left ≤ 1048576) (hn : n ≤ 9223372036854775807) (hl : ∀ r ∈ R, r.n1 ≤ 9223372036854775807 ∧ r.n2 ≤ 9223372036854775807) (h : left < (n : Int) + totT R) :
    Calls Try.prog 61 #[.slice A n c, .int .i64 left] w (RetV (.int .i64 (-1)) w) := by
  rcases Int.lt_or_le left n with hln | hln
  · go_enter Try.func61, Try.ntmps61
    go_wp2
    go_ret
    exact ⟨rfl, Below.refl _ _⟩
  have HL := Lib.hid hl
  clear hl
  go_enter Try.func61, Try.ntmps61
  go_wp2
  go_loopw [1, 5] (fun q i wr => ∃ (k : Nat) (x : Int), k ≤ n ∧ i = .int .i64 k ∧ q = .int .i64 (left - n - x) ∧ 0 ≤ x ∧ x ≤ left - n ∧ Hid (x = totT (R.take k)) ∧ Below w.heap.size w wr) (fun _ i _ => n - (intOf i).toNat)
  case atStart => exact ⟨0, 0, Nat.zero_le _, rfl, by simp, by omega, by omega, Lib.hid (by simp [totT]), Below.refl _ _⟩
  case round =>
    obtain ⟨k, x, hk, rfl, rfl, hx0, hxl, hx, hbw⟩ := hrel
    by_cases hlt : k < n
    · have X := hr.up hbw hbw.size
      obtain ⟨ad, A1, n1, c1, nd, A2, n2, c2, rs, ps, rfl, hb, hc0, hc1, hc2, hc3, hc4, hc5, hi, hp, ht1, hts, hR⟩ := X.el hlt
      have hnx := totT_next hR.out
      rw [← hx.out] at hnx
      simp only at hnx
      have HNX := Lib.hid hnx
      obtain ⟨hl1, hl2⟩ := HL.out _ (List.mem_of_getElem? hR.out)
      simp only at hl1 hl2
      clear hnx
      rcases Int.lt_or_le (left - (n : Int) - x) ((n1 : Int) + (n2 : Int)) with hlo | hlo
      · go_wp2_with (go_at_call 42; refine (szTxn_no_x A1 n1 c1 A2 n2 c2 nd _ wr (by omega) (by omega) hl1 hl2 (by omega)).mono ?_; rintro e w9 ⟨rfl, hb9⟩)
        go_ret
        exact ⟨rfl, hbw.trans (hb9.mono hbw.size)⟩
      · go_wp2_with (go_at_call 42; refine (szTxn_yes_x A1 n1 c1 A2 n2 c2 nd _ wr (by omega) (by omega)).mono ?_; rintro e w9 ⟨rfl, hb9⟩)
        go_roundw
        case rel => exact ⟨k + 1, x + ((n1 : Int) + (n2 : Int)), by omega, by go_num, by go_num, by omega, by omega, Lib.hid HNX.out.symm, hbw.trans (hb9.mono hbw.size)⟩
        case measure => simp [intOf]; omega
    · obtain rfl : k = n := by omega
      have hxe : x = totT R := by have h := hx.out; rwa [List.take_of_length_le (by rw [hr.rlen]; exact Nat.le_refl _)] at h
      exact absurd hxe (by omega)
end Go.Proofs.Ytaelaldgohppeaa
