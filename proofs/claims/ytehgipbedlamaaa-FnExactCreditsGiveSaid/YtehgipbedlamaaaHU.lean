/-
  How much credits take: szCredits.
-/
import Derived.Test.YtehgipbedlamaaaHT
import Derived.Test.YtehgipbedlamaaaSameK
namespace Go.Proofs.Ytehgipbedlamaaa
open Go.RowKit
set_option linter.unusedVariables false

/-- The lengths of the transactions' parts, summed. -/
def totR : List HR → Int
  | [] => 0
  | r :: R => (r.n : Int) + totR R
theorem totR_append (R S : List HR) : totR (R ++ S) = totR R + totR S := by
  induction R with
  | nil => simp [totR]
  | cons r R ih => simp only [List.cons_append, totR, ih]; omega
theorem totR_nonneg (R : List HR) : 0 ≤ totR R := by
  induction R with
  | nil => simp [totR]
  | cons r R ih => simp only [totR]; omega
theorem totR_take_le (R : List HR) (k : Nat) : totR (R.take k) ≤ totR R := by
  have h := totR_append (R.take k) (R.drop k)
  rw [List.take_append_drop] at h
  have := totR_nonneg (R.drop k)
  omega
theorem totR_next {R : List HR} {k : Nat} {r : HR} (h : R[k]? = some r) : totR (R.take (k + 1)) = totR (R.take k) + (r.n : Int) := by
  rw [List.take_add_one, h, totR_append]
  simp [totR]
theorem totR_mem {R : List HR} {k : Nat} {r : HR} (h : R[k]? = some r) : (r.n : Int) ≤ totR R := by
  have h1 := totR_next h
  have h2 := totR_take_le R (k + 1)
  have h3 := totR_nonneg (R.take k)
  omega

theorem szHold_yes (A : Option Addr) (n c : Nat) (v left : Int) (w : World) (h1 : left ≤ 1048576) (h : (n : Int) ≤ left) :
    Calls Try.prog 67 #[.agg #[.slice A n c, .int .i64 v], .int .i64 left] w (RetV (.int .i64 (left - n)) w) := by
  have f := (Blk.new w 83 #[.slice A n c, .int .i64 v]).two
  have h0 : ¬ (left - (n : Int) < 0) := by omega
  go_enter Try.func67, Try.ntmps67
  go_wp2_with (go_at_call 47; refine (szIntS_yes A n c left _ h1 h).mono ?_; rintro e w' ⟨rfl, rfl⟩)
  go_ret
  exact ⟨rfl, (by repeat' (first | with_reducible exact Below.refl _ _ | with_reducible assumption | with_reducible refine Below.setCell ?_ (by first | omega | (simp; done) | (simp; omega)) _ | with_reducible refine Below.alloc ?_ (by first | omega | (simp; done) | (simp; omega)) _ | with_reducible refine below_drewN ?_ _ | with_reducible refine Below.drew ?_ | (with_reducible refine Below.trans ?_ (Below.mono (by with_reducible assumption) (by first | omega | (simp; done) | (simp; omega))))))⟩
theorem szHold_no (A : Option Addr) (n c : Nat) (v left : Int) (w : World) (h0 : 0 ≤ left) (h1 : left ≤ 1048576) (hn : n ≤ 9223372036854775807) (h : left < (n : Int)) :
    Calls Try.prog 67 #[.agg #[.slice A n c, .int .i64 v], .int .i64 left] w (RetV (.int .i64 (-1)) w) := by
  have f := (Blk.new w 83 #[.slice A n c, .int .i64 v]).two
  go_enter Try.func67, Try.ntmps67
  go_wp2_with (go_at_call 47; refine (szIntS_no A n c left _ h0 h1 hn h).mono ?_; rintro e w' ⟨rfl, rfl⟩)
  go_ret
  exact ⟨rfl, (by repeat' (first | with_reducible exact Below.refl _ _ | with_reducible assumption | with_reducible refine Below.setCell ?_ (by first | omega | (simp; done) | (simp; omega)) _ | with_reducible refine Below.alloc ?_ (by first | omega | (simp; done) | (simp; omega)) _ | with_reducible refine below_drewN ?_ _ | with_reducible refine Below.drew ?_ | (with_reducible refine Below.trans ?_ (Below.mono (by with_reducible assumption) (by first | omega | (simp; done) | (simp; omega))))))⟩
set_option maxHeartbeats 2000000 in
theorem szHoldS_yes (A : Option Addr) (n c : Nat) (R : List HR) (ts : List HX) (left : Int) (w : World) (hr : HoldW w w.heap.size A n R ts) (h1 : left ≤ 1048576) (h : (n : Int) + totR R ≤ left) :
    Calls Try.prog 48 #[.slice A n c, .int .i64 left] w (RetV (.int .i64 (left - n - totR R)) w) := by
  have t0 := totR_nonneg R
  have hn : (n : Int) ≤ left := by omega
  go_enter Try.func48, Try.ntmps48
  go_wp2
  go_loopw [1, 5] (fun q i wr => ∃ (k : Nat) (x : Int), k ≤ n ∧ i = .int .i64 k ∧ q = .int .i64 (left - n - x) ∧ 0 ≤ x ∧ Hid (x = totR (R.take k)) ∧ Below w.heap.size w wr) (fun _ i _ => n - (intOf i).toNat)
  case atStart => exact ⟨0, 0, Nat.zero_le _, rfl, by simp, by omega, Lib.hid (by simp [totR]), Below.refl _ _⟩
  case round =>
    obtain ⟨k, x, hk, rfl, rfl, hx0, hx, hbw⟩ := hrel
    by_cases hlt : k < n
    · have X := hr.below hbw
      obtain ⟨ad, A1, n1, c1, v, xs, rfl, hb, hc0, hc1, hc2, hc3, hi, ht1, hts, hR⟩ := X.el hlt
      have hnx := totR_next hR.out
      have hle := totR_take_le R (k + 1)
      rw [← hx.out] at hnx
      simp only at hnx
      have HNX := Lib.hid hnx
      have hle2 : x + (n1 : Int) ≤ left - (n : Int) := by omega
      clear hnx hle
      go_wp2_with (go_at_call 67; refine (szHold_yes A1 n1 c1 v _ wr (by omega) (by omega)).mono ?_; rintro e w9 ⟨rfl, hb9⟩)
      go_roundw
      case rel => exact ⟨k + 1, x + (n1 : Int), by omega, by go_num, by go_num, by omega, Lib.hid HNX.out.symm, hbw.trans (hb9.mono hbw.size)⟩
      case measure => simp [intOf]; omega
    · obtain rfl : k = n := by omega
      have hxe : x = totR R := by have h := hx.out; rwa [List.take_of_length_le (by rw [hr.rlen]; exact Nat.le_refl _)] at h
      subst hxe
      go_wp2
      go_ret
      exact ⟨rfl, hbw⟩
set_option maxHeartbeats 2000000 in
theorem szHoldS_no (A : Option Addr) (n c : Nat) (R : List HR) (ts : List HX) (left : Int) (w : World) (hr : HoldW w w.heap.size A n R ts) (h0 : 0 ≤ left) (h1 : left ≤ 1048576) (hn : n ≤ 9223372036854775807) (hl : ∀ r ∈ R, r.n ≤ 9223372036854775807) (h : left < (n : Int) + totR R) :
    Calls Try.prog 48 #[.slice A n c, .int .i64 left] w (RetV (.int .i64 (-1)) w) := by
  rcases Int.lt_or_le left n with hln | hln
  · go_enter Try.func48, Try.ntmps48
    go_wp2
    go_ret
    exact ⟨rfl, Below.refl _ _⟩
  have HL := Lib.hid hl
  clear hl
  go_enter Try.func48, Try.ntmps48
  go_wp2
  go_loopw [1, 5] (fun q i wr => ∃ (k : Nat) (x : Int), k ≤ n ∧ i = .int .i64 k ∧ q = .int .i64 (left - n - x) ∧ 0 ≤ x ∧ x ≤ left - n ∧ Hid (x = totR (R.take k)) ∧ Below w.heap.size w wr) (fun _ i _ => n - (intOf i).toNat)
  case atStart => exact ⟨0, 0, Nat.zero_le _, rfl, by simp, by omega, by omega, Lib.hid (by simp [totR]), Below.refl _ _⟩
  case round =>
    obtain ⟨k, x, hk, rfl, rfl, hx0, hxl, hx, hbw⟩ := hrel
    by_cases hlt : k < n
    · have X := hr.below hbw
      obtain ⟨ad, A1, n1, c1, v, xs, rfl, hb, hc0, hc1, hc2, hc3, hi, ht1, hts, hR⟩ := X.el hlt
      have hnx := totR_next hR.out
      rw [← hx.out] at hnx
      simp only at hnx
      have HNX := Lib.hid hnx
      have hl1 := HL.out _ (List.mem_of_getElem? hR.out)
      simp only at hl1
      clear hnx
      rcases Int.lt_or_le (left - (n : Int) - x) (n1 : Int) with hlo | hlo
      · go_wp2_with (go_at_call 67; refine (szHold_no A1 n1 c1 v _ wr (by omega) (by omega) hl1 (by omega)).mono ?_; rintro e w9 ⟨rfl, hb9⟩)
        go_ret
        exact ⟨rfl, hbw.trans (hb9.mono hbw.size)⟩
      · go_wp2_with (go_at_call 67; refine (szHold_yes A1 n1 c1 v _ wr (by omega) (by omega)).mono ?_; rintro e w9 ⟨rfl, hb9⟩)
        go_roundw
        case rel => exact ⟨k + 1, x + (n1 : Int), by omega, by go_num, by go_num, by omega, by omega, Lib.hid HNX.out.symm, hbw.trans (hb9.mono hbw.size)⟩
        case measure => simp [intOf]; omega
    · obtain rfl : k = n := by omega
      have hxe : x = totR R := by have h := hx.out; rwa [List.take_of_length_le (by rw [hr.rlen]; exact Nat.le_refl _)] at h
      exact absurd hxe (by omega)
set_option maxHeartbeats 2000000 in
theorem szCredits_yes (F : Option Addr) (nf cf : Nat) (A : Option Addr) (n c : Nat) (R : List HR) (ts : List HX) (left : Int) (w : World) (hr : HoldW w w.heap.size A n R ts) (h1 : left ≤ 1048576) (h : (nf : Int) + ((n : Int) + totR R) ≤ left) :
    Calls Try.prog 22 #[.agg #[.slice F nf cf, .slice A n c], .int .i64 left] w (RetV (.int .i64 (left - nf - n - totR R)) w) := by
  have f := (Blk.new w 42 #[.slice F nf cf, .slice A n c]).two
  have t0 := totR_nonneg R
  have hb : Below w.heap.size w (w.alloc (.cells #[.slice F nf cf, .slice A n c] 42)) := (Below.refl _ _).alloc (Nat.le_refl _) _
  have X := (hr.below hb)
  have XX : HoldW (w.alloc (.cells #[.slice F nf cf, .slice A n c] 42)) (w.alloc (.cells #[.slice F nf cf, .slice A n c] 42)).heap.size A n R ts := ⟨X.o.more hb.size, X.l, fun k r t hr ht => ⟨(X.i k r t hr ht).1.more hb.size, (X.i k r t hr ht).2⟩⟩
  have g0 : ¬ (left - (nf : Int) < 0) := by omega
  have g1 : ¬ (left - (nf : Int) - (n : Int) - totR R < 0) := by omega
  go_enter Try.func22, Try.ntmps22
  go_wp2_with (first
    | (go_at_call 47; refine (szIntS_yes F nf cf left _ h1 (by omega)).mono ?_; rintro e w' ⟨rfl, rfl⟩)
    | (go_at_call 48; refine (szHoldS_yes A n c R ts (left - nf) _ XX (by omega) (by omega)).mono ?_; rintro e w9 ⟨rfl, hb9⟩))
  go_ret
  exact ⟨rfl, hb.trans (hb9.mono hb.size)⟩
set_option maxHeartbeats 2000000 in
theorem szCredits_no (F : Option Addr) (nf cf : Nat) (A : Option Addr) (n c : Nat) (R : List HR) (ts : List HX) (left : Int) (w : World) (hr : HoldW w w.heap.size A n R ts) (h0 : 0 ≤ left) (h1 : left ≤ 1048576) (hnf : nf ≤ 9223372036854775807) (hn : n ≤ 9223372036854775807) (hl : ∀ r ∈ R, r.n ≤ 9223372036854775807) (h : left < (nf : Int) + ((n : Int) + totR R)) :
    Calls Try.prog 22 #[.agg #[.slice F nf cf, .slice A n c], .int .i64 left] w (RetV (.int .i64 (-1)) w) := by
  have f := (Blk.new w 42 #[.slice F nf cf, .slice A n c]).two
  have hb : Below w.heap.size w (w.alloc (.cells #[.slice F nf cf, .slice A n c] 42)) := (Below.refl _ _).alloc (Nat.le_refl _) _
  have X := (hr.below hb)
  have XX : HoldW (w.alloc (.cells #[.slice F nf cf, .slice A n c] 42)) (w.alloc (.cells #[.slice F nf cf, .slice A n c] 42)).heap.size A n R ts := ⟨X.o.more hb.size, X.l, fun k r t hr ht => ⟨(X.i k r t hr ht).1.more hb.size, (X.i k r t hr ht).2⟩⟩
  rcases Int.lt_or_le left nf with hln | hln
  · go_enter Try.func22, Try.ntmps22
    go_wp2_with (go_at_call 47; refine (szIntS_no F nf cf left _ h0 h1 hnf hln).mono ?_; rintro e w' ⟨rfl, rfl⟩)
    go_ret
    exact ⟨rfl, hb⟩
  have g0 : ¬ (left - (nf : Int) < 0) := by omega
  go_enter Try.func22, Try.ntmps22
  go_wp2_with (first
    | (go_at_call 47; refine (szIntS_yes F nf cf left _ h1 (by omega)).mono ?_; rintro e w' ⟨rfl, rfl⟩)
    | (go_at_call 48; refine (szHoldS_no A n c R ts (left - nf) _ XX (by omega) (by omega) hn hl (by omega)).mono ?_; rintro e w9 ⟨rfl, hb9⟩))
  go_ret
  exact ⟨rfl, hb.trans (hb9.mono hb.size)⟩
end Go.Proofs.Ytehgipbedlamaaa
