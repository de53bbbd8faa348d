/-
  Contracts on sets of groups.
-/
import Derived.Test.YtaelaldgohppeaaGL
import Derived.Test.YtaelaldgohppeaaV1
import Derived.Deep.RegionHeld3
import Derived.Deep.DeepCutAuto
import Derived.IntWalk
namespace Go.Proofs.Ytaelaldgohppeaa
open Go.RowKit
set_option linter.unusedVariables false

set_option maxHeartbeats 1000000 in
theorem pick5_any (F : FuncId) (cs : Array Value) (p : Int → Bool) (w : World)
    (he : ∀ args w, (callFunc F args).run Try.prog w = .ok (.enter F args) w)
    (hacc : ∀ (m : Nat) (w' : World), m < 5 → Below w.heap.size w w' → Calls Try.prog F (#[.int .i64 m] ++ cs) w' (RetV (.bool (p m)) w')) :
    Calls Try.prog 84 #[.func (.func F) #[] cs] w (RetInts (accK p 5) w) := by
  go_enter Try.func84, Try.ntmps84
  go_wp2
  go_loopw [3, 6] (fun s i wr => ∃ (k : Nat) (A2 : Option Addr) (n2 c2 : Nat), k ≤ 5 ∧ i = .int .i64 k ∧ s = .slice A2 n2 c2 ∧ n2 ≤ k ∧ Own wr w.heap.size A2 n2 c2 (accK p k) ∧ Below w.heap.size w wr) (fun _ i _ => 5 - (intOf i).toNat)
  case atStart => exact ⟨0, _, 0, 0, by omega, rfl, rfl, by omega, by (refine Own.lit0 ?_ ?_ <;> first | omega | (simp; done) | (simp; omega)), (by repeat' (first | with_reducible exact Below.refl _ _ | with_reducible assumption | with_reducible refine Below.setCell ?_ (by first | omega | (simp; done) | (simp; omega)) _ | with_reducible refine Below.alloc ?_ (by first | omega | (simp; done) | (simp; omega)) _ | with_reducible refine below_drewN ?_ _ | with_reducible refine Below.drew ?_ | (with_reducible refine Below.trans ?_ (Below.mono (by with_reducible assumption) (by first | omega | (simp; done) | (simp; omega))))))⟩
  case round =>
    obtain ⟨k, A2, n2, c2, hk, rfl, rfl, hn2, ho, hbw⟩ := hrel
    have z := hbw.size
    by_cases hlt : k < 5
    · go_wp2_with fail
      refine (hacc k _ hlt hbw).mono ?_
      rintro e w1 ⟨rfl, hb1⟩
      have z1 := hb1.size
      have o1 := ho.below hb1
      have B1 : Below w.heap.size w w1 := hbw.trans (hb1.mono z)
      clear hb1 ho
      cases hp : p (k : Int)
      · go_wp2
        go_roundw
        case rel => exact ⟨k + 1, A2, n2, c2, by omega, by go_num, rfl, by omega, by rw [accK_no hp]; exact o1, B1⟩
        case measure => simp [intOf]; omega
      · go_wp2_with (at_builtin; refine app1 rfl _ _ rfl w.heap.size rfl (o1.alloc _) _ _ _ _ [_] rfl (Ints.one' _ (by first | omega | (simp; done) | (simp; omega))) (by omega) (by simp; omega) ?_; intro A3 c3 w3 o3 hg3 at3)
        go_roundw
        case rel => exact ⟨k + 1, A3, n2 + 1, c3, by omega, by go_num, rfl, by omega, by rw [accK_yes hp]; exact o3, Below.grown (B1.alloc (by omega) _) hg3 (by simp; omega) (fun i hi => (o1.lt hi).1)⟩
        case measure => simp [intOf]; omega
    · obtain rfl : k = 5 := by omega
      go_wp2
      go_ret
      exact ⟨A2, n2, c2, rfl, ho, hbw⟩
theorem gHas_any (A : Option Addr) (n c B : Nat) (xs : List Int) (v : Int) (w : World) (hr : Ints w B A n xs) (hn : n ≤ 1048576) :
    Calls Try.prog 91 #[.slice A n c, .int .i64 v] w fun e w' => e = .returned (.bool (hasB xs v)) ∧ w = w' := by
  have hlen := Lib.hid hr.len
  go_enter Try.func91, Try.ntmps91
  go_wp2
  go_loop [9] (fun i => ∃ k : Nat, k ≤ n ∧ i = .int .i64 k ∧ hasB (xs.take k) v = false) (fun i => n - (intOf i).toNat)
  case atStart => exact ⟨0, Nat.zero_le _, rfl, by simp [hasB]⟩
  case round =>
    obtain ⟨k, hk, rfl, hall⟩ := hrel
    have HA := Lib.hid hall
    clear hall
    by_cases hlt : k < n
    · obtain ⟨ad, x, rfl, hb, hc, hx, hs⟩ := hr.elem hlt
      cases hd : (x == v)
      · go_wp2
        go_round
        case rel => exact ⟨k + 1, by omega, by go_num, has_snoc hs.out hd HA.out⟩
        case measure => simp [intOf]; omega
      · go_wp2
        go_ret
        exact ⟨ret_bool (has_hit hx.out hd).symm, rfl⟩
    · have : k = n := by omega
      subst this
      go_wp2
      go_ret
      exact ⟨ret_bool (by rw [← HA.out, List.take_of_length_le (by rw [hlen.out]; exact Nat.le_refl _)]), rfl⟩
theorem gValid_any (A : Option Addr) (n c B : Nat) (xs : List Int) (w : World) (hr : Ints w B A n xs) (hn : n ≤ 1048576) :
    Calls Try.prog 87 #[.slice A n c] w (RetB (gvB xs) w) := by
  have HL := Lib.hid hr.len
  rcases Nat.eq_zero_or_pos n with h3 | h3
  · subst h3
    go_enter Try.func87, Try.ntmps87
    go_wp2
    go_ret
    exact RetB.mk (by simp [gvB, HL.out]) ⟨0, rfl⟩
  have h3' : (0 : Int) < (n : Int) := by omega
  cases h4 : ascB xs
  all_goals
    go_enter Try.func87, Try.ntmps87
    go_wp2_with (first
      | (go_at_call 94; refine (ascending_any _ _ _ B xs _ hr hn).mono ?_; rintro e w' ⟨rfl, d, rfl⟩)
      | (go_at_call 69; refine (inRange_any _ _ _ B xs _ _ _ (hr.drewN _) hn).mono ?_; rintro e w' ⟨rfl, rfl⟩))
    go_ret
    exact RetB.mk (by simp [gvB, h4, HL.out, h3]) ⟨_, rfl⟩
theorem implGV_any (A : Option Addr) (n c B : Nat) (xs : List Int) (w : World) (hr : Ints w B A n xs) (hn : n ≤ 1048576) :
    Calls Try.prog 51 #[.slice A n c] w (RetB (gvB xs) w) := by
  go_enter Try.func51, Try.ntmps51
  go_wp2_with (go_at_call 87; refine (gValid_any _ _ _ B xs _ hr hn).mono ?_; rintro e w' ⟨rfl, d, rfl⟩)
  go_ret
  exact ⟨rfl, _, rfl⟩
theorem gcAcc_any (g1 g2 : Nat) (A A' : Option Addr) (n c m c' B : Nat) (v : Int) (xs ys : List Int) (w : World) (b1 : Blk w g1 22 #[.slice A n c]) (b2 : Blk w g2 22 #[.slice A' m c']) (hx : Ints w B A n xs) (hy : Ints w B A' m ys) (hn : n ≤ 1048576) (hm : m ≤ 1048576) :
    Calls Try.prog 90 #[.int .i64 v, .pointer (some ⟨g1, 0, none⟩), .pointer (some ⟨g2, 0, none⟩)] w (RetV (.bool (hasB xs v && hasB ys v)) w) := by
  have f1 := b1.one
  have f2 := b2.one
  cases h1 : hasB xs v
  all_goals
    go_enter Try.func90, Try.ntmps90
    go_wp2_with (first
      | (go_at_call_of 91 (Value.slice A n c); refine (gHas_any A n c B xs v _ hx hn).mono ?_; rintro e w' ⟨rfl, rfl⟩)
      | (go_at_call_of 91 (Value.slice A' m c'); refine (gHas_any A' m c' B ys v _ hy hm).mono ?_; rintro e w' ⟨rfl, rfl⟩))
    go_ret
    exact ⟨ret_bool (by first | (simp; done) | simp [h1]), Below.refl _ _⟩
set_option maxHeartbeats 1000000 in
theorem implGC_any (A A' : Option Addr) (n c m c' : Nat) (xs ys : List Int) (w : World) (hx : Ints w w.heap.size A n xs) (hy : Ints w w.heap.size A' m ys) (hn : n ≤ 1048576) (hm : m ≤ 1048576) :
    Calls Try.prog 55 #[.slice A n c, .slice A' m c'] w (RetInts (gcL xs ys) w) := by
  have b1 := (Blk.new w 22 #[.slice A n c]).alloc (.cells #[.slice A' m c'] 22)
  have b2 := Blk.new (w.alloc (.cells #[.slice A n c] 22)) 22 #[.slice A' m c']
  simp only [World.size_alloc] at b2
  have hX := (hx.box (.cells #[.slice A n c] 22)).box (.cells #[.slice A' m c'] 22)
  have hY := (hy.box (.cells #[.slice A n c] 22)).box (.cells #[.slice A' m c'] 22)
  have hB0 : Below w.heap.size w ((w.alloc (.cells #[.slice A n c] 22)).alloc (.cells #[.slice A' m c'] 22)) := (by repeat' (first | with_reducible exact Below.refl _ _ | with_reducible assumption | with_reducible refine Below.setCell ?_ (by first | omega | (simp; done) | (simp; omega)) _ | with_reducible refine Below.alloc ?_ (by first | omega | (simp; done) | (simp; omega)) _ | with_reducible refine below_drewN ?_ _ | with_reducible refine Below.drew ?_ | (with_reducible refine Below.trans ?_ (Below.mono (by with_reducible assumption) (by first | omega | (simp; done) | (simp; omega))))))
  generalize hW : (w.alloc (.cells #[.slice A n c] 22)).alloc (.cells #[.slice A' m c'] 22) = W at b1 b2 hX hY hB0
  have f1 := b1.one
  have f2 := b2.one
  have zW := hB0.size
  go_enter Try.func55, Try.ntmps55
  go_wp2_with fail
  refine (implGV_any A n c _ xs W hX hn).mono ?_
  rintro e w1 ⟨rfl, d1, rfl⟩
  cases h1 : gvB xs
  · go_wp2
    go_ret
    exact ⟨none, 0, 0, rfl, by simp only [gcL, h1, Bool.false_and]; exact Own.nil _ _, below_drewN hB0 _⟩
  have f1' := (b1.drewN d1).one
  have f2' := (b2.drewN d1).one
  go_wp2_with fail
  refine (implGV_any A' m c' _ ys _ (hY.drewN d1) hm).mono ?_
  rintro e w2 ⟨rfl, d2, rfl⟩
  cases h2 : gvB ys
  · go_wp2
    go_ret
    exact ⟨none, 0, 0, rfl, by simp only [gcL, h2, Bool.and_false]; exact Own.nil _ _, below_drewN hB0 _⟩
  go_wp2_with fail
  refine (pick5_any 90 #[.pointer (some ⟨w.heap.size, 0, none⟩), .pointer (some ⟨w.heap.size + 1, 0, none⟩)] (fun g => hasB xs g && hasB ys g) _ (fun _ _ => rfl) ?_).mono ?_
  · intro k w' hk hb
    exact gcAcc_any w.heap.size (w.heap.size + 1) A A' n c m c' W.heap.size k xs ys w' ((b1.drewN (d1 + d2)).below hb b1.lt) ((b2.drewN (d1 + d2)).below hb b2.lt) ((hX.drewN (d1 + d2)).below hb) ((hY.drewN (d1 + d2)).below hb) hn hm
  · rintro e w3 ⟨A3, n3, c3, rfl, o3, hb3⟩
    go_wp2
    go_ret
    exact ⟨A3, n3, c3, rfl, by simp only [gcL, h1, h2, Bool.and_self, if_true]; exact o3.mono zW, (below_drewN hB0 _).trans (hb3.mono zW)⟩
set_option maxHeartbeats 1000000 in
theorem l1Union_any (A A' : Option Addr) (n c m c' : Nat) (xs ys : List Int) (w : World) (hx : Ints w w.heap.size A n xs) (hy : Ints w w.heap.size A' m ys) (hn : n ≤ 1048576) (hm : m ≤ 1048576) :
    Calls Try.prog 86 #[.slice A n c, .slice A' m c'] w (RetInts (unL xs ys) w) := by
  go_enter Try.func86, Try.ntmps86
  go_wp2
  go_loopw [5, 6] (fun s i wr => ∃ (k : Nat) (A2 : Option Addr) (n2 c2 : Nat), k ≤ 5 ∧ i = .int .i64 k ∧ s = .slice A2 n2 c2 ∧ n2 ≤ k ∧ Own wr w.heap.size A2 n2 c2 (accK (fun g => hasB xs g || hasB ys g) k) ∧ Below w.heap.size w wr) (fun _ i _ => 5 - (intOf i).toNat)
  case atStart => exact ⟨0, _, 0, 0, by omega, rfl, rfl, by omega, by (refine Own.lit0 ?_ ?_ <;> first | omega | (simp; done) | (simp; omega)), (by repeat' (first | with_reducible exact Below.refl _ _ | with_reducible assumption | with_reducible refine Below.setCell ?_ (by first | omega | (simp; done) | (simp; omega)) _ | with_reducible refine Below.alloc ?_ (by first | omega | (simp; done) | (simp; omega)) _ | with_reducible refine below_drewN ?_ _ | with_reducible refine Below.drew ?_ | (with_reducible refine Below.trans ?_ (Below.mono (by with_reducible assumption) (by first | omega | (simp; done) | (simp; omega))))))⟩
  case round =>
    obtain ⟨k, A2, n2, c2, hk, rfl, rfl, hn2, ho, hbw⟩ := hrel
    have z := hbw.size
    have X := hx.below hbw
    have Y := hy.below hbw
    by_cases hlt : k < 5
    · cases h1 : hasB xs (k : Int)
      · cases h2 : hasB ys (k : Int)
        · have hp := Lib.hid (show (fun g => hasB xs g || hasB ys g) (k : Int) = false by simp [h1, h2])
          go_wp2_with (first
            | (go_at_call_of 96 (Value.slice A n c); refine (l1Has_any A n c w.heap.size xs k _ X hn).mono ?_; rintro e w' ⟨rfl, rfl⟩; rw [h1])
            | (go_at_call_of 96 (Value.slice A' m c'); refine (l1Has_any A' m c' w.heap.size ys k _ Y hm).mono ?_; rintro e w' ⟨rfl, rfl⟩; rw [h2]))
          go_roundw
          case rel => exact ⟨k + 1, A2, n2, c2, by omega, by go_num, rfl, by omega, by rw [accK_no hp.out]; exact ho, hbw⟩
          case measure => simp [intOf]; omega
        · have hp := Lib.hid (show (fun g => hasB xs g || hasB ys g) (k : Int) = true by simp [h2])
          go_wp2_with (first
            | (go_at_call_of 96 (Value.slice A n c); refine (l1Has_any A n c w.heap.size xs k _ X hn).mono ?_; rintro e w' ⟨rfl, rfl⟩; rw [h1])
            | (go_at_call_of 96 (Value.slice A' m c'); refine (l1Has_any A' m c' w.heap.size ys k _ Y hm).mono ?_; rintro e w' ⟨rfl, rfl⟩; rw [h2])
            | (at_builtin; refine app1 rfl _ _ rfl w.heap.size rfl (ho.alloc _) _ _ _ _ [_] rfl (Ints.one' _ (by first | omega | (simp; done) | (simp; omega))) (by omega) (by simp; omega) ?_; intro A3 c3 w3 o3 hg3 at3))
          go_roundw
          case rel => exact ⟨k + 1, A3, n2 + 1, c3, by omega, by go_num, rfl, by omega, by rw [accK_yes hp.out]; exact o3, Below.grown (hbw.alloc z _) hg3 (by simp; omega) (fun i hi => (ho.lt hi).1)⟩
          case measure => simp [intOf]; omega
      · have hp := Lib.hid (show (fun g => hasB xs g || hasB ys g) (k : Int) = true by simp [h1])
        go_wp2_with (first
          | (go_at_call_of 96 (Value.slice A n c); refine (l1Has_any A n c w.heap.size xs k _ X hn).mono ?_; rintro e w' ⟨rfl, rfl⟩; rw [h1])
          | (at_builtin; refine app1 rfl _ _ rfl w.heap.size rfl (ho.alloc _) _ _ _ _ [_] rfl (Ints.one' _ (by first | omega | (simp; done) | (simp; omega))) (by omega) (by simp; omega) ?_; intro A3 c3 w3 o3 hg3 at3))
        go_roundw
        case rel => exact ⟨k + 1, A3, n2 + 1, c3, by omega, by go_num, rfl, by omega, by rw [accK_yes hp.out]; exact o3, Below.grown (hbw.alloc z _) hg3 (by simp; omega) (fun i hi => (ho.lt hi).1)⟩
        case measure => simp [intOf]; omega
    · obtain rfl : k = 5 := by omega
      go_wp2
      go_ret
      exact ⟨A2, n2, c2, rfl, ho, hbw⟩
end Go.Proofs.Ytaelaldgohppeaa
