/-
  Equal credits: eqCredits.
-/
import Derived.Test.YtehgipbedlamaaaHU
import Derived.Test.YtehgipbedlamaaaH7
import Derived.Deep.RegionHeld3
namespace Go.Proofs.Ytehgipbedlamaaa
open Go.RowKit
set_option linter.unusedVariables false

theorem eqHold_same (A1 : Option Addr) (n1 c1 : Nat) (v : Int) (xs : List Int) (A3 : Option Addr) (n3 c3 : Nat) (w : World) (hi : Ints w w.heap.size A1 n1 xs) (hi' : Ints w w.heap.size A3 n3 xs) (l1 : n1 ≤ 1048576) (l3 : n3 ≤ 1048576) :
    Calls Try.prog 69 #[.agg #[.slice A1 n1 c1, .int .i64 v], .agg #[.slice A3 n3 c3, .int .i64 v]] w (RetV (.bool true) w) := by
  have b0 := (Blk.new w 47 #[.slice A1 n1 c1, .int .i64 v]).alloc (.cells #[.slice A3 n3 c3, .int .i64 v] 47)
  have b1 := Blk.new (w.alloc (.cells #[.slice A1 n1 c1, .int .i64 v] 47)) 47 #[.slice A3 n3 c3, .int .i64 v]
  simp only [World.size_alloc] at b1
  have X0 := (hi.box (.cells #[.slice A1 n1 c1, .int .i64 v] 47)).box (.cells #[.slice A3 n3 c3, .int .i64 v] 47)
  have Y0 := (hi'.box (.cells #[.slice A1 n1 c1, .int .i64 v] 47)).box (.cells #[.slice A3 n3 c3, .int .i64 v] 47)
  have B0 : Below w.heap.size w ((w.alloc (.cells #[.slice A1 n1 c1, .int .i64 v] 47)).alloc (.cells #[.slice A3 n3 c3, .int .i64 v] 47)) := (by repeat' (first | with_reducible exact Below.refl _ _ | with_reducible assumption | with_reducible refine Below.setCell ?_ (by first | omega | (simp; done) | (simp; omega)) _ | with_reducible refine Below.alloc ?_ (by first | omega | (simp; done) | (simp; omega)) _ | with_reducible refine below_drewN ?_ _ | with_reducible refine Below.drew ?_ | (with_reducible refine Below.trans ?_ (Below.mono (by with_reducible assumption) (by first | omega | (simp; done) | (simp; omega))))))
  generalize hW : (w.alloc (.cells #[.slice A1 n1 c1, .int .i64 v] 47)).alloc (.cells #[.slice A3 n3 c3, .int .i64 v] 47) = W at b0 b1 X0 Y0 B0
  have f0 := b0.two
  have f1 := b1.two
  have zW := B0.size
  have hvv : (v != v) = false := by simp
  go_enter Try.func69, Try.ntmps69
  go_wp2_with fail
  refine (eqIntS_same A1 A3 n1 c1 n3 c3 xs W X0 Y0 l1 l3).mono ?_
  rintro e w2 ⟨rfl, hb2⟩
  have f2 := (b0.below hb2 b0.lt).two
  have g2 := (b1.below hb2 b1.lt).two
  have HB : Below w.heap.size w w2 := B0.trans (hb2.mono zW)
  clear hW f0 f1
  go_wp2_with fail
  go_ret
  exact ⟨rfl, HB⟩
set_option maxHeartbeats 4000000 in
theorem eqHoldS_same (A A' : Option Addr) (n c m c' : Nat) (R R' : List HR) (ts : List HX) (w : World) (hx : HoldS w w.heap.size A n R ts) (hy : HoldS w w.heap.size A' m R' ts) (hn : n ≤ 1048576) :
    Calls Try.prog 52 #[.slice A n c, .slice A' m c'] w (RetV (.bool true) w) := by
  obtain rfl : m = n := by have := hx.l; have := hy.l; omega
  go_enter Try.func52, Try.ntmps52
  go_wp2
  go_loopw [5] (fun i wr => ∃ k : Nat, k ≤ m ∧ i = .int .i64 k ∧ Below w.heap.size w wr) (fun i _ => m - (intOf i).toNat)
  case atStart => exact ⟨0, Nat.zero_le _, rfl, Below.refl _ _⟩
  case round =>
    obtain ⟨k, hk, rfl, hbw⟩ := hrel
    by_cases hlt : k < m
    · have X1 := hx.up hbw hbw.size
      have Y1 := hy.up hbw hbw.size
      obtain ⟨ad, A1, n1, c1, v, xs, rfl, hb, hc0, hc1, hc2, hc3, hi, l1, ht1, hts, hR⟩ := X1.el hlt
      obtain ⟨ad', A3, n3, c3, v', xs', rfl, hb', hd0, hd1, hd2, hd3, hi', l3, ht1', hts', hR'⟩ := Y1.el hlt
      obtain ⟨rfl, rfl⟩ : xs = xs' ∧ v = v' := by
        have h1 := ht1.out
        rw [ht1'.out] at h1
        injection h1 with h1
        injection h1 with h2 h3
        exact ⟨h2.symm, h3.symm⟩
      have z0 := hbw.size
      have gk : (k : Int) < (m : Int) := by omega
      have KS : ∀ W, Below wr.heap.size wr W → W.cell? (ad.add (k * 2)) = some (.slice A1 n1 c1) ∧ W.cell? ((ad.add (k * 2)).add 1) = some (.int .i64 v) ∧ W.cell? ⟨(ad.add (k * 2)).block, (ad.add (k * 2)).off + 1, none⟩ = some (.int .i64 v) ∧ W.cell? ((ad.add (k * 2)).add 0) = some (.slice A1 n1 c1) ∧ W.cell? (ad'.add (k * 2)) = some (.slice A3 n3 c3) ∧ W.cell? ((ad'.add (k * 2)).add 1) = some (.int .i64 v) ∧ W.cell? ⟨(ad'.add (k * 2)).block, (ad'.add (k * 2)).off + 1, none⟩ = some (.int .i64 v) ∧ W.cell? ((ad'.add (k * 2)).add 0) = some (.slice A3 n3 c3) := fun W h =>
        ⟨(h.cell (by rw [block_of_add]; exact hb)).trans hc0, (h.cell (by rw [block_of_add, block_of_add]; exact hb)).trans hc1, (h.cell (by show (ad.add (k * 2)).block < _; rw [block_of_add]; exact hb)).trans hc2, (h.cell (by rw [block_of_add, block_of_add]; exact hb)).trans hc3, (h.cell (by rw [block_of_add]; exact hb')).trans hd0, (h.cell (by rw [block_of_add, block_of_add]; exact hb')).trans hd1, (h.cell (by show (ad'.add (k * 2)).block < _; rw [block_of_add]; exact hb')).trans hd2, (h.cell (by rw [block_of_add, block_of_add]; exact hb')).trans hd3⟩
      clear hc0 hc1 hc2 hc3 hd0 hd1 hd2 hd3
      go_wp2_with fail
      go_region_held3 (fun W => W.cell? (ad.add (k * 2)) = some (.slice A1 n1 c1) ∧ W.cell? ((ad.add (k * 2)).add 1) = some (.int .i64 v) ∧ W.cell? ⟨(ad.add (k * 2)).block, (ad.add (k * 2)).off + 1, none⟩ = some (.int .i64 v) ∧ W.cell? ((ad.add (k * 2)).add 0) = some (.slice A1 n1 c1) ∧ W.cell? (ad'.add (k * 2)) = some (.slice A3 n3 c3) ∧ W.cell? ((ad'.add (k * 2)).add 1) = some (.int .i64 v) ∧ W.cell? ⟨(ad'.add (k * 2)).block, (ad'.add (k * 2)).off + 1, none⟩ = some (.int .i64 v) ∧ W.cell? ((ad'.add (k * 2)).add 0) = some (.slice A3 n3 c3))
        (exact KS _ (by repeat' (first | with_reducible exact st9 | with_reducible exact Below.refl _ _ | with_reducible refine Below.drew ?_)))
        (first
          | (go_at_call 69; (with_reducible refine Calls.mono (eqHold_same A1 n1 c1 v xs A3 n3 c3 _ ?_ ?_ l1 l3) ?_)
             · exact hi
             · exact hi'
             rintro e w9 ⟨rfl, hb9⟩
             have st9 : Below wr.heap.size wr w9 := (by repeat' (first | with_reducible exact Below.refl _ _ | with_reducible refine Below.alloc ?_ (by first | omega | (simp; done) | (simp; omega)) _ | with_reducible refine below_drewN ?_ _ | with_reducible refine Below.drew ?_ | with_reducible refine Below.setCell ?_ (by first | omega | (simp; done) | (simp; omega)) _ | with_reducible refine Below.trans ?_ (Below.mono hb9 (by first | omega | (simp; done) | (simp; omega)))))))
      go_wp2
      go_roundw
      case rel => exact ⟨k + 1, by omega, by go_num, hbw.trans (st9.mono z0)⟩
      case measure => first | (simp [intOf]; done) | (simp [intOf]; omega)
    · obtain rfl : k = m := by omega
      go_wp2
      go_ret
      exact ⟨rfl, hbw⟩
set_option maxHeartbeats 4000000 in
theorem eqC_same (F F' : Option Addr) (nf cf nf' cf' : Nat) (A A' : Option Addr) (n c n' c' : Nat) (R R' : List HR) (cx : CX) (w : World) (hc : Cr w w.heap.size F nf A n R cx) (hc' : Cr w w.heap.size F' nf' A' n' R' cx) (hnf : nf ≤ 1048576) (hn : n ≤ 1048576) :
    Calls Try.prog 24 #[.agg #[.slice F nf cf, .slice A n c], .agg #[.slice F' nf' cf', .slice A' n' c']] w (RetV (.bool true) w) := by
  have hnf' : nf' ≤ 1048576 := by have h1 := hc.f.len; have h2 := hc'.f.len; omega
  have b0 := (Blk.new w 26 #[.slice F nf cf, .slice A n c]).alloc (.cells #[.slice F' nf' cf', .slice A' n' c'] 26)
  have b1 := Blk.new (w.alloc (.cells #[.slice F nf cf, .slice A n c] 26)) 26 #[.slice F' nf' cf', .slice A' n' c']
  simp only [World.size_alloc] at b1
  have X0 := (hc.box (.cells #[.slice F nf cf, .slice A n c] 26)).box (.cells #[.slice F' nf' cf', .slice A' n' c'] 26)
  have Y0 := (hc'.box (.cells #[.slice F nf cf, .slice A n c] 26)).box (.cells #[.slice F' nf' cf', .slice A' n' c'] 26)
  have B0 : Below w.heap.size w ((w.alloc (.cells #[.slice F nf cf, .slice A n c] 26)).alloc (.cells #[.slice F' nf' cf', .slice A' n' c'] 26)) := (by repeat' (first | with_reducible exact Below.refl _ _ | with_reducible assumption | with_reducible refine Below.setCell ?_ (by first | omega | (simp; done) | (simp; omega)) _ | with_reducible refine Below.alloc ?_ (by first | omega | (simp; done) | (simp; omega)) _ | with_reducible refine below_drewN ?_ _ | with_reducible refine Below.drew ?_ | (with_reducible refine Below.trans ?_ (Below.mono (by with_reducible assumption) (by first | omega | (simp; done) | (simp; omega))))))
  generalize hW : (w.alloc (.cells #[.slice F nf cf, .slice A n c] 26)).alloc (.cells #[.slice F' nf' cf', .slice A' n' c'] 26) = W at b0 b1 X0 Y0 B0
  have f0 := b0.two
  have f1 := b1.two
  have zW := B0.size
  clear hc hc'
  go_enter Try.func24, Try.ntmps24
  go_wp2_with fail
  refine (eqIntS_same F F' nf cf nf' cf' cx.free W X0.f Y0.f hnf hnf').mono ?_
  rintro e w2 ⟨rfl, hb2⟩
  have f2 := (b0.below hb2 b0.lt).two
  have g2 := (b1.below hb2 b1.lt).two
  have X2 := X0.up hb2 hb2.size
  have Y2 := Y0.up hb2 hb2.size
  have HB : Below w.heap.size w w2 := B0.trans (hb2.mono zW)
  have z2 := HB.size
  clear hW f0 f1
  go_wp2_with fail
  refine (eqHoldS_same A A' n c n' c' R R' cx.holds w2 X2.h Y2.h hn).mono ?_
  rintro e w3 ⟨rfl, hb3⟩
  go_wp2_with fail
  go_ret
  exact ⟨rfl, HB.trans (hb3.mono z2)⟩
end Go.Proofs.Ytehgipbedlamaaa
