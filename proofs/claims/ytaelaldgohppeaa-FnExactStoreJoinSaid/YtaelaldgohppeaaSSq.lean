/-
  eqIntSS: two slices of slices of ints that read as the same lists are found the same.
-/
import Derived.Test.YtaelaldgohppeaaSS
import Derived.Test.YtaelaldgohppeaaSameK
import Derived.Deep.RegionWith
import Derived.Deep.QuietTactic
import Derived.IntWalk
namespace Go.Proofs.Ytaelaldgohppeaa
open Go.RowKit
set_option linter.unusedVariables false

theorem IntSS.drewN {w : World} {B n : Nat} {A : Option Addr} {R : List (Option Addr × Nat × Nat)} {xss : List (List Int)} (h : IntSS w B A n R xss) (d : Nat) : IntSS (w.drewN d) B A n R xss := h

theorem drew_moreS {w wr : World} (h : ∃ d, wr = w.drewN d) (n : Nat) : ∃ d, wr.drewN n = w.drewN d := by
  obtain ⟨d, rfl⟩ := h
  exact ⟨d + n, by rw [World.drewN_drewN]⟩

set_option maxHeartbeats 2000000 in
theorem eqIntSS_same (A A' : Option Addr) (n c m c' : Nat) (R R' : List (Option Addr × Nat × Nat)) (xss : List (List Int)) (w : World) (hx : IntSS w w.heap.size A n R xss) (hy : IntSS w w.heap.size A' m R' xss) (hl : ∀ (k : Nat) (xs : List Int), xss[k]? = some xs → xs.length ≤ 1048576) (hn : n ≤ 1048576) :
    Calls Try.prog 39 #[.slice A n c, .slice A' m c'] w (RetB true w) := by
  obtain rfl : m = n := by have := hx.len; have := hy.len; omega
  have HX := Lib.hid hl
  clear hl
  go_enter Try.func39, Try.ntmps39
  go_wp2
  go_loopw [5] (fun i wr => ∃ k : Nat, k ≤ m ∧ i = .int .i64 k ∧ Hid (∃ d, wr = w.drewN d)) (fun i _ => m - (intOf i).toNat)
  case atStart => exact ⟨0, Nat.zero_le _, rfl, Lib.hid ⟨0, rfl⟩⟩
  case round =>
    obtain ⟨k, hk, rfl, hw⟩ := hrel
    by_cases hlt : k < m
    · have X1 : IntSS wr wr.heap.size A m R xss := by obtain ⟨d, h⟩ := hw.out; rw [h]; exact hx.drewN d
      have Y1 : IntSS wr wr.heap.size A' m R' xss := by obtain ⟨d, h⟩ := hw.out; rw [h]; exact hy.drewN d
      obtain ⟨ad, r, xs, rfl, hb, hc, hr1, hx1, hs, hl1, hi⟩ := X1.elem hlt
      obtain ⟨ad', r', xs', rfl, hb', hc', hr1', hx1', hs', hl1', hi'⟩ := Y1.elem hlt
      obtain rfl : xs' = xs := by rw [hx1] at hx1'; exact (Option.some.inj hx1').symm
      obtain ⟨A1, n1, c1⟩ := r
      obtain ⟨A2, n2, c2⟩ := r'
      have hn1 : n1 ≤ 1048576 := by have := HX.out k xs' hx1; have := hi.len; simp only at this; omega
      have hn2 : n2 ≤ 1048576 := by have := HX.out k xs' hx1; have := hi'.len; simp only at this; omega
      simp only at hc hc' hi hi'
      clear hs hs' hx1 hx1' hr1 hr1' hl1 hl1' X1 Y1
      go_wp2
      go_quiet ((go_at_call 28; exact Calls.quiet_of ((eqIntS_any A1 A2 n1 c1 n2 c2 wr.heap.size xs' xs' _ (hi.drewN _) (hi'.drewN _) hn1 hn2).mono fun e w' h => by obtain ⟨h1, d, h2⟩ := h; exact ⟨by simpa using h1, d, h2⟩)))
      go_wp2
      go_roundw
      case rel => exact ⟨k + 1, by omega, by go_num, Lib.hid (drew_moreS hw.out _)⟩
      case measure => simp [intOf]; omega
    · obtain rfl : k = m := by omega
      go_wp2
      go_ret
      exact ⟨rfl, hw.out⟩
end Go.Proofs.Ytaelaldgohppeaa
