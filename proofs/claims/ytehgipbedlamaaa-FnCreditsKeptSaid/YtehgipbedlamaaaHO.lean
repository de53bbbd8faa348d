/-
  sameCredits on equal credits; creditsOf.
-/
import Derived.Test.YtehgipbedlamaaaHC
import Derived.Test.YtehgipbedlamaaaCG
import Derived.Test.YtehgipbedlamaaaSame
import Derived.Deep.QuietTactic
import Derived.BigQuiet
namespace Go.Proofs.Ytehgipbedlamaaa
open Go.RowKit
set_option linter.unusedVariables false

set_option maxRecDepth 100000 in
set_option maxHeartbeats 4000000 in
theorem sameC_same (F F' : Option Addr) (nf cf nf' cf' : Nat) (A A' : Option Addr) (n c n' c' : Nat) (R R' : List HR) (cx : CX) (w : World) (hc : Cr w w.heap.size F nf A n R cx) (hc' : Cr w w.heap.size F' nf' A' n' R' cx) (hnf : nf ≤ 1048576) (hnf' : nf' ≤ 1048576) (hn : n ≤ 1048576) :
    Calls Try.prog 14 #[.agg #[.slice F nf cf, .slice A n c], .agg #[.slice F' nf' cf', .slice A' n' c']] w (RetV (.bool true) w) := by
  obtain rfl : n = n' := by have h1 := hc.h.l; have h2 := hc'.h.l; omega
  have b0 := (Blk.new w 26 #[.slice F nf cf, .slice A n c]).alloc (.cells #[.slice F' nf' cf', .slice A' n c'] 26)
  have b1 := Blk.new (w.alloc (.cells #[.slice F nf cf, .slice A n c] 26)) 26 #[.slice F' nf' cf', .slice A' n c']
  simp only [World.size_alloc] at b1
  have X0 := (hc.box (.cells #[.slice F nf cf, .slice A n c] 26)).box (.cells #[.slice F' nf' cf', .slice A' n c'] 26)
  have Y0 := (hc'.box (.cells #[.slice F nf cf, .slice A n c] 26)).box (.cells #[.slice F' nf' cf', .slice A' n c'] 26)
  have B0 : Below w.heap.size w ((w.alloc (.cells #[.slice F nf cf, .slice A n c] 26)).alloc (.cells #[.slice F' nf' cf', .slice A' n c'] 26)) := (by repeat' (first | with_reducible exact Below.refl _ _ | with_reducible assumption | with_reducible refine Below.setCell ?_ (by first | omega | (simp; done) | (simp; omega)) _ | with_reducible refine Below.alloc ?_ (by first | omega | (simp; done) | (simp; omega)) _ | with_reducible refine below_drewN ?_ _ | with_reducible refine Below.drew ?_ | (with_reducible refine Below.trans ?_ (Below.mono (by with_reducible assumption) (by first | omega | (simp; done) | (simp; omega))))))
  have z0 : w.heap.size + 2 ≤ ((w.alloc (.cells #[.slice F nf cf, .slice A n c] 26)).alloc (.cells #[.slice F' nf' cf', .slice A' n c'] 26)).heap.size := by simp
  generalize hW : (w.alloc (.cells #[.slice F nf cf, .slice A n c] 26)).alloc (.cells #[.slice F' nf' cf', .slice A' n c'] 26) = W at b0 b1 X0 Y0 B0 z0
  have f0 := b0.two
  have f1 := b1.two
  have l0 := b0.lt
  have l1 := b1.lt
  have hnl := Lib.hid hc.h.l
  clear hc hc'
  go_enter Try.func14, Try.ntmps14
  go_wp2_with fail
  refine (sameInts_any F F' nf cf nf' cf' W.heap.size cx.free cx.free W X0.f Y0.f hnf hnf').mono ?_
  rintro e w2 ⟨he, d2, rfl⟩
  obtain rfl : e = .returned (.bool true) := by rw [he]; simp
  clear he
  have hWD := Lib.hid (show ∃ d, W.drewN d2 = W.drewN d from ⟨d2, rfl⟩)
  have f0 : (W.drewN d2).cell? ⟨w.heap.size, 0, none⟩ = some (.slice F nf cf) ∧ (W.drewN d2).cell? ⟨w.heap.size, 1, none⟩ = some (.slice A n c) := ⟨b0.two.1, b0.two.2.1⟩
  have f1 : (W.drewN d2).cell? ⟨w.heap.size + 1, 0, none⟩ = some (.slice F' nf' cf') ∧ (W.drewN d2).cell? ⟨w.heap.size + 1, 1, none⟩ = some (.slice A' n c') := ⟨b1.two.1, b1.two.2.1⟩
  clear hW
  generalize hw2 : W.drewN d2 = w2 at hWD f0 f1 ⊢
  clear hw2
  go_wp2_with fail
  go_loopw [5] (fun i wr => ∃ k : Nat, k ≤ n ∧ i = .int .i64 k ∧ Hid (∃ d, wr = W.drewN d)) (fun i _ => n - (intOf i).toNat)
  case atStart => exact ⟨0, Nat.zero_le _, rfl, hWD⟩
  case round =>
    clear f0 f1 hWD
    obtain ⟨k, hk, rfl, hwd⟩ := hrel
    have b := (show Blk wr w.heap.size 26 #[.slice F nf cf, .slice A n c] by obtain ⟨d, rfl⟩ := hwd.out; exact b0.drewN d)
    have b' := (show Blk wr (w.heap.size + 1) 26 #[.slice F' nf' cf', .slice A' n c'] by obtain ⟨d, rfl⟩ := hwd.out; exact b1.drewN d)
    have X := (show Cr wr W.heap.size F nf A n R cx by obtain ⟨d, rfl⟩ := hwd.out; exact X0.below (below_drewN (Below.refl _ _) _))
    have Y := (show Cr wr W.heap.size F' nf' A' n R' cx by obtain ⟨d, rfl⟩ := hwd.out; exact Y0.below (below_drewN (Below.refl _ _) _))
    have HB := (show Below w.heap.size w wr by obtain ⟨d, rfl⟩ := hwd.out; exact below_drewN B0 _)
    have f := b.two
    have f' := b'.two
    by_cases hlt : k < n
    · obtain ⟨ad, A1, n1, c1, v, xs, rfl, hbb, hc0, hc1, hc2, hc3, hi, hn1, hk1, hs1, hR1⟩ := X.h.el hlt
      obtain ⟨ad', A1', n1', c1', v', xs', rfl, hbb', hc0', hc1', hc2', hc3', hi', hn1', hk1', hs1', hR1'⟩ := Y.h.el hlt
      obtain ⟨rfl, rfl⟩ : xs = xs' ∧ v = v' := by have := hk1'.out; rw [hk1.out] at this; injection this with this; injection this with h1 h2; exact ⟨h1, h2⟩
      have gk : (k : Int) < (n : Int) := by omega
      have hd : (v != v) = false := by simp
      go_wp2_with fail
      go_quiet ((go_at_call 29; exact Calls.quiet_of ((sameInts_any A1 A1' n1 c1 n1' c1' W.heap.size xs xs _ (hi.drewN _) (hi'.drewN _) hn1 hn1').mono fun e w' h => by obtain ⟨h1, d, h2⟩ := h; exact ⟨by simpa using h1, d, h2⟩)))
      have hwd2 := Lib.hid (show ∃ d, wr.drewN nq = W.drewN d by obtain ⟨d, rfl⟩ := hwd.out; exact ⟨_, World.drewN_drewN _ _ _⟩)
      go_wp2_with fail
      go_roundw
      case rel => exact ⟨k + 1, by omega, by go_num, hwd2⟩
      case measure => first | (simp [intOf]; done) | (simp [intOf]; omega)
    · obtain rfl : n = k := by omega
      go_wp2_with fail
      go_ret
      exact ⟨rfl, HB⟩
theorem cnt_snoc {hs : List HX} {k : Nat} {h : HX} (hs1 : hs.take (k + 1) = hs.take k ++ [h]) (g : Int) : (cntH (hs.take (k + 1)) g : Int) = cntH (hs.take k) g + (if hasB h.has g then 1 else 0) := by
  rw [hs1]
  unfold cntH
  rw [List.countP_append]
  by_cases hh : hasB h.has g = true <;> simp [List.countP_cons, hh]
set_option maxHeartbeats 4000000 in
theorem creditsOf_any (F : Option Addr) (nf cf : Nat) (A : Option Addr) (n c : Nat) (R : List HR) (cx : CX) (G : Nat) (w : World) (hc : Cr w w.heap.size F nf A n R cx) (hG : G < nf) (hnf : nf ≤ 1048576) (hn : n ≤ 1048576) (h0 : 0 ≤ cx.free.getD G 0) (h9 : cx.free.getD G 0 ≤ 9) :
    Calls Try.prog 20 #[.agg #[.slice F nf cf, .slice A n c], .int .i64 G] w (RetV (.int .i64 (crOf cx G)) w) := by
  have b0 := Blk.new w 26 #[.slice F nf cf, .slice A n c]
  have X0 := hc.box (.cells #[.slice F nf cf, .slice A n c] 26)
  have B0 : Below w.heap.size w (w.alloc (.cells #[.slice F nf cf, .slice A n c] 26)) := (Below.refl _ _).alloc (Nat.le_refl _) _
  have z0 : w.heap.size ≤ (w.alloc (.cells #[.slice F nf cf, .slice A n c] 26)).heap.size := by simp
  have hnl := Lib.hid hc.h.l
  generalize hW : w.alloc (.cells #[.slice F nf cf, .slice A n c] 26) = W at b0 X0 B0 z0
  obtain ⟨adF, rfl, -, hF⟩ := X0.f.at_ hG
  have f0 := b0.two
  have gG : (G : Int) < (nf : Int) := by omega
  have HR := Lib.hid (show 0 ≤ cx.free.getD G 0 ∧ cx.free.getD G 0 ≤ 9 from ⟨h0, h9⟩)
  have HCR := Lib.hid (show crOf cx (G : Int) = cx.free.getD G 0 + (cntH cx.holds G : Int) by simp [crOf])
  clear h0 h9 hc
  generalize cx.free.getD G 0 = vG at hF HR HCR
  go_enter Try.func20, Try.ntmps20
  go_wp2_with fail
  go_loopw [5, 6] (fun s i wr => ∃ k : Nat, k ≤ n ∧ i = .int .i64 k ∧ s = .int .i64 (vG + (cntH (cx.holds.take k) G : Int)) ∧ W = wr) (fun _ i _ => n - (intOf i).toNat)
  case atStart => exact ⟨0, Nat.zero_le _, rfl, by simp [cntH], rfl⟩
  case round =>
    clear hW hF
    obtain ⟨k, hk, rfl, rfl, rfl⟩ := hrel
    by_cases hlt : k < n
    · obtain ⟨ad, A1, n1, c1, v, xs, rfl, hbb, hc0, hc1, hc2, hc3, hi, hn1, hk1, hs1, hR1⟩ := X0.h.el hlt
      have HS := Lib.hid (cnt_snoc hs1.out (G : Int))
      have HLE := Lib.hid (show cntH (cx.holds.take k) G ≤ k from by have h1 : (cntH (cx.holds.take k) (G : Int)) ≤ (cx.holds.take k).length := List.countP_le_length; rw [List.length_take] at h1; omega)
      have gk : (k : Int) < (n : Int) := by omega
      have hw1 : IntKind.i64.wrap (vG + (cntH (cx.holds.take k) G : Int) + 1) = vG + (cntH (cx.holds.take k) G : Int) + 1 := IntWalk.i64_in _ (by have := HR.out; have := HLE.out; omega)
      cases hh : hasB xs (G : Int)
      · have HH := Lib.hid hh
        clear hh
        generalize hcn : cntH (cx.holds.take k) (G : Int) = cn at HS hw1 HLE
        go_wp2_with (go_at_call 16; refine (hasInt_any A1 n1 c1 W.heap.size xs _ _ hi hn1).mono ?_; rintro e w' ⟨rfl, rfl⟩; rw [HH.out])
        go_roundw
        case rel => exact ⟨k + 1, by omega, by go_num, by rw [HS.out, HH.out]; simp, by simp⟩
        case measure => first | (simp [intOf]; done) | (simp [intOf]; omega)
      · have HH := Lib.hid hh
        clear hh
        generalize hcn : cntH (cx.holds.take k) (G : Int) = cn at HS hw1 HLE
        go_wp2_with (go_at_call 16; refine (hasInt_any A1 n1 c1 W.heap.size xs _ _ hi hn1).mono ?_; rintro e w' ⟨rfl, rfl⟩; rw [HH.out])
        go_roundw
        case rel => exact ⟨k + 1, by omega, by go_num, by rw [HS.out, HH.out]; simp [Int.add_assoc], by simp⟩
        case measure => first | (simp [intOf]; done) | (simp [intOf]; omega)
    · obtain rfl : n = k := by omega
      go_wp2_with fail
      go_ret
      exact ⟨ret_int (by rw [HCR.out, List.take_of_length_le (by rw [hnl.out]; exact Nat.le_refl _)]), B0⟩
end Go.Proofs.Ytehgipbedlamaaa
