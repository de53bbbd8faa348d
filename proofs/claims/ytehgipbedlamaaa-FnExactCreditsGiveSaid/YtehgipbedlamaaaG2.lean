/-
  Contracts on sets of groups.
-/
import Derived.Test.YtehgipbedlamaaaGL
import Derived.Test.YtehgipbedlamaaaV1
import Derived.Deep.RegionHeld3
import Derived.Deep.DeepCutAuto
import Derived.IntWalk
namespace Go.Proofs.Ytehgipbedlamaaa
open Go.RowKit
set_option linter.unusedVariables false

set_option maxHeartbeats 1000000 in
theorem pick5_any (F : FuncId) (cs : Array Value) (p : Int → Bool) (w : World)
    (he : ∀ args w, (callFunc F args).run Try.prog w = .ok (.enter F args) w)
    (hacc : ∀ (m : Nat) (w' : World), m < 5 → Below w.heap.size w w' → Calls Try.prog F (#[.int .i64 m] ++ cs) w' (RetV (.bool (p m)) w')) :
    Calls Try.prog 60 #[.func (.func F) #[] cs] w (RetInts (accK p 5) w) := by
  go_enter Try.func60, Try.ntmps60
  go_wp2
  go_loopw [3, 6] (fun s i wr => ∃ (k : Nat) (A2 : Option Addr) (n2 c2 : Nat), k ≤ 5 ∧ i = .int .i64 k ∧ s = .slice A2 n2 c2 ∧ n2 ≤ k ∧ Own wr w.heap.size A2 n2 c2 (accK p k) ∧ Below w.heap.size w wr) (fun _ i _ => 5 - (intOf i).toNat)
  case atStart => exact ⟨0, _, 0, 0, by omega, rfl, rfl, by omega, by (refine Own.lit0 ?_ ?_ <;> first | omega | (simp; done) | (simp; omega)), (by repeat' (first | with_reducible exact Below.refl _ _ | with_reducible assumption | with_reducible refine Below.setCell ?_ (by first | omega | (simp; done) | (simp; omega)) _ | with_reducible refine Below.alloc ?_ (by first | omega | (simp; done) | (simp; omega)) _ | with_reducible refine below_drewN ?_ _ | with_reducible refine Below.drew ?_ | (with_reducible refine Below.trans ?_ (Below.mono (by with_reducible assumption) (by first | omega | (simp; done) | (simp; omega))))))⟩
  case round =>
    obtain ⟨k, A2, n2, c2, hk, rfl, rfl, hn2, ho, hbw⟩ := hrel
    have z := hbw.size
    by_cases hlt : k < 5
    · go_wp2_with fail
      refine (hacc k _ hlt hbw).mono ?_
      rintro e w1 ⟨rfl, hb1⟩
      have z1 := hb1.size
      have o1 := ho.below hb1
      have B1 : Below w.heap.size w w1 := hbw.trans (hb1.mono z)
      clear hb1 ho
      cases hp : p (k : Int)
      · go_wp2
        go_roundw
        case rel => exact ⟨k + 1, A2, n2, c2, by omega, by go_num, rfl, by omega, by rw [accK_no hp]; exact o1, B1⟩
        case measure => simp [intOf]; omega
      · go_wp2_with (at_builtin; refine app1 rfl _ _ rfl w.heap.size rfl (o1.alloc _) _ _ _ _ [_] rfl (Ints.one' _ (by first | omega | (simp; done) | (simp; omega))) (by omega) (by simp; omega) ?_; intro A3 c3 w3 o3 hg3 at3)
        go_roundw
        case rel => exact ⟨k + 1, A3, n2 + 1, c3, by omega, by go_num, rfl, by omega, by rw [accK_yes hp]; exact o3, Below.grown (B1.alloc (by omega) _) hg3 (by simp; omega) (fun i hi => (o1.lt hi).1)⟩
        case measure => simp [intOf]; omega
    · obtain rfl : k = 5 := by omega
      go_wp2
      go_ret
      exact ⟨A2, n2, c2, rfl, ho, hbw⟩
theorem gHas_any (A : Option Addr) (n c B : Nat) (xs : List Int) (v : Int) (w : World) (hr : Ints w B A n xs) (hn : n ≤ 1048576) :
    Calls Try.prog 41 #[.slice A n c, .int .i64 v] w fun e w' => e = .returned (.bool (hasB xs v)) ∧ w = w' := by
  have hlen := Lib.hid hr.len
  go_enter Try.func41, Try.ntmps41
  go_wp2
  go_loop [9] (fun i => ∃ k : Nat, k ≤ n ∧ i = .int .i64 k ∧ hasB (xs.take k) v = false) (fun i => n - (intOf i).toNat)
  case atStart => exact ⟨0, Nat.zero_le _, rfl, by simp [hasB]⟩
  case round =>
    obtain ⟨k, hk, rfl, hall⟩ := hrel
    have HA := Lib.hid hall
    clear hall
    by_cases hlt : k < n
    · obtain ⟨ad, x, rfl, hb, hc, hx, hs⟩ := hr.elem hlt
      cases hd : (x == v)
      · go_wp2
        go_round
        case rel => exact ⟨k + 1, by omega, by go_num, has_snoc hs.out hd HA.out⟩
        case measure => simp [intOf]; omega
      · go_wp2
        go_ret
        exact ⟨ret_bool (has_hit hx.out hd).symm, rfl⟩
    · have : k = n := by omega
      subst this
      go_wp2
      go_ret
      exact ⟨ret_bool (by rw [← HA.out, List.take_of_length_le (by rw [hlen.out]; exact Nat.le_refl _)]), rfl⟩
theorem gValid_any (A : Option Addr) (n c B : Nat) (xs : List Int) (w : World) (hr : Ints w B A n xs) (hn : n ≤ 1048576) :
    Calls Try.prog 66 #[.slice A n c] w (RetB (gvB xs) w) := by
  have HL := Lib.hid hr.len
  rcases Nat.eq_zero_or_pos n with h3 | h3
  · subst h3
    go_enter Try.func66, Try.ntmps66
    go_wp2
    go_ret
    exact RetB.mk (by simp [gvB, HL.out]) ⟨0, rfl⟩
  have h3' : (0 : Int) < (n : Int) := by omega
  cases h4 : ascB xs
  all_goals
    go_enter Try.func66, Try.ntmps66
    go_wp2_with (first
      | (go_at_call 70; refine (ascending_any _ _ _ B xs _ hr hn).mono ?_; rintro e w' ⟨rfl, d, rfl⟩)
      | (go_at_call 65; refine (inRange_any _ _ _ B xs _ _ _ (hr.drewN _) hn).mono ?_; rintro e w' ⟨rfl, rfl⟩))
    go_ret
    exact RetB.mk (by simp [gvB, h4, HL.out, h3]) ⟨_, rfl⟩
theorem implGV_any (A : Option Addr) (n c B : Nat) (xs : List Int) (w : World) (hr : Ints w B A n xs) (hn : n ≤ 1048576) :
    Calls Try.prog 46 #[.slice A n c] w (RetB (gvB xs) w) := by
  go_enter Try.func46, Try.ntmps46
  go_wp2_with (go_at_call 66; refine (gValid_any _ _ _ B xs _ hr hn).mono ?_; rintro e w' ⟨rfl, d, rfl⟩)
  go_ret
  exact ⟨rfl, _, rfl⟩
set_option maxHeartbeats 1000000 in
theorem l1Union_any (A A' : Option Addr) (n c m c' : Nat) (xs ys : List Int) (w : World) (hx : Ints w w.heap.size A n xs) (hy : Ints w w.heap.size A' m ys) (hn : n ≤ 1048576) (hm : m ≤ 1048576) :
    Calls Try.prog 64 #[.slice A n c, .slice A' m c'] w (RetInts (unL xs ys) w) := by
  go_enter Try.func64, Try.ntmps64
  go_wp2
  go_loopw [5, 6] (fun s i wr => ∃ (k : Nat) (A2 : Option Addr) (n2 c2 : Nat), k ≤ 5 ∧ i = .int .i64 k ∧ s = .slice A2 n2 c2 ∧ n2 ≤ k ∧ Own wr w.heap.size A2 n2 c2 (accK (fun g => hasB xs g || hasB ys g) k) ∧ Below w.heap.size w wr) (fun _ i _ => 5 - (intOf i).toNat)
  case atStart => exact ⟨0, _, 0, 0, by omega, rfl, rfl, by omega, by (refine Own.lit0 ?_ ?_ <;> first | omega | (simp; done) | (simp; omega)), (by repeat' (first | with_reducible exact Below.refl _ _ | with_reducible assumption | with_reducible refine Below.setCell ?_ (by first | omega | (simp; done) | (simp; omega)) _ | with_reducible refine Below.alloc ?_ (by first | omega | (simp; done) | (simp; omega)) _ | with_reducible refine below_drewN ?_ _ | with_reducible refine Below.drew ?_ | (with_reducible refine Below.trans ?_ (Below.mono (by with_reducible assumption) (by first | omega | (simp; done) | (simp; omega))))))⟩
  case round =>
    obtain ⟨k, A2, n2, c2, hk, rfl, rfl, hn2, ho, hbw⟩ := hrel
    have z := hbw.size
    have X := hx.below hbw
    have Y := hy.below hbw
    by_cases hlt : k < 5
    · cases h1 : hasB xs (k : Int)
      · cases h2 : hasB ys (k : Int)
        · have hp := Lib.hid (show (fun g => hasB xs g || hasB ys g) (k : Int) = false by simp [h1, h2])
          go_wp2_with (first
            | (go_at_call_of 44 (Value.slice A n c); refine (l1Has_any A n c w.heap.size xs k _ X hn).mono ?_; rintro e w' ⟨rfl, rfl⟩; rw [h1])
            | (go_at_call_of 44 (Value.slice A' m c'); refine (l1Has_any A' m c' w.heap.size ys k _ Y hm).mono ?_; rintro e w' ⟨rfl, rfl⟩; rw [h2]))
          go_roundw
          case rel => exact ⟨k + 1, A2, n2, c2, by omega, by go_num, rfl, by omega, by rw [accK_no hp.out]; exact ho, hbw⟩
          case measure => simp [intOf]; omega
        · have hp := Lib.hid (show (fun g => hasB xs g || hasB ys g) (k : Int) = true by simp [h2])
          go_wp2_with (first
            | (go_at_call_of 44 (Value.slice A n c); refine (l1Has_any A n c w.heap.size xs k _ X hn).mono ?_; rintro e w' ⟨rfl, rfl⟩; rw [h1])
            | (go_at_call_of 44 (Value.slice A' m c'); refine (l1Has_any A' m c' w.heap.size ys k _ Y hm).mono ?_; rintro e w' ⟨rfl, rfl⟩; rw [h2])
            | (at_builtin; refine app1 rfl _ _ rfl w.heap.size rfl (ho.alloc _) _ _ _ _ [_] rfl (Ints.one' _ (by first | omega | (simp; done) | (simp; omega))) (by omega) (by simp; omega) ?_; intro A3 c3 w3 o3 hg3 at3))
          go_roundw
          case rel => exact ⟨k + 1, A3, n2 + 1, c3, by omega, by go_num, rfl, by omega, by rw [accK_yes hp.out]; exact o3, Below.grown (hbw.alloc z _) hg3 (by simp; omega) (fun i hi => (ho.lt hi).1)⟩
          case measure => simp [intOf]; omega
      · have hp := Lib.hid (show (fun g => hasB xs g || hasB ys g) (k : Int) = true by simp [h1])
        go_wp2_with (first
          | (go_at_call_of 44 (Value.slice A n c); refine (l1Has_any A n c w.heap.size xs k _ X hn).mono ?_; rintro e w' ⟨rfl, rfl⟩; rw [h1])
          | (at_builtin; refine app1 rfl _ _ rfl w.heap.size rfl (ho.alloc _) _ _ _ _ [_] rfl (Ints.one' _ (by first | omega | (simp; done) | (simp; omega))) (by omega) (by simp; omega) ?_; intro A3 c3 w3 o3 hg3 at3))
        go_roundw
        case rel => exact ⟨k + 1, A3, n2 + 1, c3, by omega, by go_num, rfl, by omega, by rw [accK_yes hp.out]; exact o3, Below.grown (hbw.alloc z _) hg3 (by simp; omega) (fun i hi => (ho.lt hi).1)⟩
        case measure => simp [intOf]; omega
    · obtain rfl : k = 5 := by omega
      go_wp2
      go_ret
      exact ⟨A2, n2, c2, rfl, ho, hbw⟩
end Go.Proofs.Ytehgipbedlamaaa
