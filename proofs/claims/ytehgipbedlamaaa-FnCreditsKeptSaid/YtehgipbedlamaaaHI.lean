/-
  CreditsOrdered, the program's and the reference's. Printed by gen_or.py.
-/
import Derived.Test.YtehgipbedlamaaaHC
import Derived.Test.YtehgipbedlamaaaCG
import Derived.Deep.QuietTactic
import Derived.BigQuiet
namespace Go.Proofs.Ytehgipbedlamaaa
open Go.RowKit
set_option linter.unusedVariables false

set_option maxRecDepth 100000 in
set_option maxHeartbeats 4000000 in
theorem implOr_any (F : Option Addr) (nf cf : Nat) (A : Option Addr) (n c : Nat) (R : List HR) (cx : CX) (w : World) (hc : Cr w w.heap.size F nf A n R cx) (hnf : nf ≤ 1048576) (hn : n ≤ 1048576) :
    Calls Try.prog 28 #[.agg #[.slice F nf cf, .slice A n c]] w (RetV (.bool (orB cx)) w) := by
  have b0 := Blk.new w 26 #[.slice F nf cf, .slice A n c]
  have X0 := hc.box (.cells #[.slice F nf cf, .slice A n c] 26)
  have B0 : Below w.heap.size w (w.alloc (.cells #[.slice F nf cf, .slice A n c] 26)) := (Below.refl _ _).alloc (Nat.le_refl _) _
  have z0 : w.heap.size ≤ (w.alloc (.cells #[.slice F nf cf, .slice A n c] 26)).heap.size := by simp
  have hnl := Lib.hid hc.h.l
  generalize hW : w.alloc (.cells #[.slice F nf cf, .slice A n c] 26) = W at b0 X0 B0 z0
  have f0 := b0.two
  cases hv : cvB cx
  · go_enter Try.func28, Try.ntmps28
    go_wp2_with fail
    refine (implCV_any F nf cf A n c R cx W X0 hnf hn).mono ?_
    rintro e w1 ⟨rfl, hb1⟩
    rw [hv]
    have HB : Below w.heap.size w w1 := B0.trans (hb1.mono (by omega))
    go_wp2_with fail
    go_ret
    exact ⟨ret_bool (by simp [orB, hv]), HB⟩
  have HV := Lib.hid hv
  have HC := Lib.hid (cv_iff.1 hv)
  clear hc
  go_enter Try.func28, Try.ntmps28
  go_wp2_with fail
  refine (implCV_any F nf cf A n c R cx W X0 hnf hn).mono ?_
  rintro e w1 ⟨rfl, hb1⟩
  rw [hv]
  have f1 := (b0.below hb1 b0.lt).two
  clear hv hW f0
  go_wp2_with fail
  go_loopw [11] (fun i wr => ∃ k : Nat, k ≤ n ∧ i = .int .i64 k ∧ (cx.holds.take k).all ohB = true ∧ Below W.heap.size W wr) (fun i _ => n - (intOf i).toNat)
  case atStart => exact ⟨0, Nat.zero_le _, rfl, by simp, hb1⟩
  case round =>
    obtain ⟨k, hk, rfl, hall, hbw⟩ := hrel
    have HA := Lib.hid hall
    clear hall f1
    have HB : Below w.heap.size w wr := B0.trans (hbw.mono (by omega))
    have zz := hbw.size
    have b := b0.below hbw b0.lt
    have f := b.two
    by_cases hlt : k < n
    · have X := X0.up hbw hbw.size
      obtain ⟨ad, A1, n1, c1, v, xs, rfl, hbb, hc0, hc1, hc2, hc3, hi, hn1, hk1, hs1, hR1⟩ := X.h.el hlt
      have fB := (b.alloc (.cells #[.slice A1 n1 c1, .int .i64 v] 47)).two
      have fH := (Blk.new wr 47 #[.slice A1 n1 c1, .int .i64 v]).two
      have HBb : Below w.heap.size w (wr.alloc (.cells #[.slice A1 n1 c1, .int .i64 v] 47)) := HB.alloc (by omega) _
      have hbb2 : Below W.heap.size W (wr.alloc (.cells #[.slice A1 n1 c1, .int .i64 v] 47)) := hbw.alloc (by omega) _
      have HWt := Lib.hid (wait_neg HC.out hk1.out)
      have hiB := hi.alloc (Nat.le_refl _) (.cells #[.slice A1 n1 c1, .int .i64 v] 47)
      have HL := Lib.hid hi.len
      by_cases hw : v = -1
      · subst hw
        skip
        go_wp2_with fail
        go_quiet (fail)
        go_wp2_with fail
        go_roundw
        case rel => exact ⟨k + 1, by omega, by go_num, all_snoc hs1.out HA.out (by simp [ohB]), below_drewN hbb2 _⟩
        case measure => first | (simp [intOf]; done) | (simp [intOf]; omega)
      · have hw' : (v == -1) = false := by rw [beq_eq_false_iff_ne]; exact hw
        have hw2 : (v != -1) = true := by simp [hw]
        by_cases h0 : n1 = 0
        · have HO := Lib.hid (show ohB ⟨xs, v⟩ = true by simp only [ohB, HL.out, h0]; simp)
          have hd : decide (0 < n1) = false := by rw [decide_eq_false_iff_not]; omega
          have hd' : decide ((0 : Int) < (n1 : Int)) = false := by rw [decide_eq_false_iff_not]; omega
          clear hw h0
          go_wp2_with fail
          go_quiet (fail)
          go_wp2_with fail
          go_roundw
          case rel => exact ⟨k + 1, by omega, by go_num, all_snoc hs1.out HA.out HO.out, below_drewN hbb2 _⟩
          case measure => first | (simp [intOf]; done) | (simp [intOf]; omega)
        · obtain ⟨L, hL⟩ : ∃ L : Nat, n1 = L + 1 := ⟨n1 - 1, by omega⟩
          have hLn : L < n1 := by omega
          have gL : (L : Int) < (n1 : Int) := by omega
          have g0 : (0 : Int) < (n1 : Int) := by omega
          have hd : decide (0 < n1) = true := decide_eq_true (by omega)
          have hd' : decide ((0 : Int) < (n1 : Int)) = true := decide_eq_true g0
          have hLw : IntKind.i64.wrap ((n1 : Int) - 1) = (L : Int) := by rw [IntWalk.i64_in _ (by omega)]; omega
          obtain ⟨adx, y, rfl, hbx, hcx, hky, -⟩ := hiB.elem hLn
          have HY := Lib.hid (show xs.getD (n1 - 1) 0 = y by rw [show n1 - 1 = L by omega, List.getD_eq_getElem?_getD, hky.out]; rfl)
          clear h0
          by_cases hy : v < y
          · have HO := Lib.hid (show ohB ⟨xs, v⟩ = false by simp only [ohB, hw', HY.out, HL.out, Bool.false_or, Bool.or_eq_false_iff, decide_eq_false_iff_not]; omega)
            have hyd : decide (v < y) = true := decide_eq_true hy
            clear hw hL
            go_wp2_with fail
            go_quiet (fail)
            go_wp2_with fail
            go_ret
            exact ⟨ret_bool (show false = orB cx from (by
              have h1 : cx.holds.all ohB = false := by rw [List.all_eq_false]; exact ⟨_, List.mem_of_getElem? hk1.out, by rw [HO.out]; simp⟩
              simp [orB, h1])), below_drewN HBb _⟩
          · have HO := Lib.hid (show ohB ⟨xs, v⟩ = true by simp only [ohB, hw', HY.out, HL.out, Bool.false_or, Bool.or_eq_true, decide_eq_true_eq]; omega)
            have hyd : decide (v < y) = false := decide_eq_false hy
            clear hw hL
            go_wp2_with fail
            go_quiet (fail)
            go_wp2_with fail
            go_roundw
            case rel => exact ⟨k + 1, by omega, by go_num, all_snoc hs1.out HA.out HO.out, below_drewN hbb2 _⟩
            case measure => first | (simp [intOf]; done) | (simp [intOf]; omega)
    · obtain rfl : n = k := by omega
      go_wp2_with fail
      go_ret
      exact ⟨ret_bool (by
        have h1 := HA.out
        rw [List.take_of_length_le (by rw [hnl.out]; exact Nat.le_refl _)] at h1
        simp [orB, HV.out, h1]), HB⟩

set_option maxRecDepth 100000 in
set_option maxHeartbeats 4000000 in
theorem specOr_any (F : Option Addr) (nf cf : Nat) (A : Option Addr) (n c : Nat) (R : List HR) (cx : CX) (w : World) (hc : Cr w w.heap.size F nf A n R cx) (hnf : nf ≤ 1048576) (hn : n ≤ 1048576) :
    Calls Try.prog 27 #[.agg #[.slice F nf cf, .slice A n c]] w (RetV (.bool (orB cx)) w) := by
  have b0 := Blk.new w 26 #[.slice F nf cf, .slice A n c]
  have X0 := hc.box (.cells #[.slice F nf cf, .slice A n c] 26)
  have B0 : Below w.heap.size w (w.alloc (.cells #[.slice F nf cf, .slice A n c] 26)) := (Below.refl _ _).alloc (Nat.le_refl _) _
  have z0 : w.heap.size ≤ (w.alloc (.cells #[.slice F nf cf, .slice A n c] 26)).heap.size := by simp
  have hnl := Lib.hid hc.h.l
  generalize hW : w.alloc (.cells #[.slice F nf cf, .slice A n c] 26) = W at b0 X0 B0 z0
  have f0 := b0.two
  cases hv : cvB cx
  · go_enter Try.func27, Try.ntmps27
    go_wp2_with fail
    refine (specCV_any F nf cf A n c R cx W X0 hnf hn).mono ?_
    rintro e w1 ⟨rfl, hb1⟩
    rw [hv]
    have HB : Below w.heap.size w w1 := B0.trans (hb1.mono (by omega))
    go_wp2_with fail
    go_ret
    exact ⟨ret_bool (by simp [orB, hv]), HB⟩
  have HV := Lib.hid hv
  have HC := Lib.hid (cv_iff.1 hv)
  clear hc
  go_enter Try.func27, Try.ntmps27
  go_wp2_with fail
  refine (specCV_any F nf cf A n c R cx W X0 hnf hn).mono ?_
  rintro e w1 ⟨rfl, hb1⟩
  rw [hv]
  have f1 := (b0.below hb1 b0.lt).two
  clear hv hW f0
  go_wp2_with fail
  go_loopw [3] (fun i wr => ∃ k : Nat, k ≤ n ∧ i = .int .i64 k ∧ (cx.holds.take k).all ohB = true ∧ Below W.heap.size W wr) (fun i _ => n - (intOf i).toNat)
  case atStart => exact ⟨0, Nat.zero_le _, rfl, by simp, hb1⟩
  case round =>
    obtain ⟨k, hk, rfl, hall, hbw⟩ := hrel
    have HA := Lib.hid hall
    clear hall f1
    have HB : Below w.heap.size w wr := B0.trans (hbw.mono (by omega))
    have zz := hbw.size
    have b := b0.below hbw b0.lt
    have f := b.two
    by_cases hlt : k < n
    · have X := X0.up hbw hbw.size
      obtain ⟨ad, A1, n1, c1, v, xs, rfl, hbb, hc0, hc1, hc2, hc3, hi, hn1, hk1, hs1, hR1⟩ := X.h.el hlt
      have fB := (b.alloc (.cells #[.slice A1 n1 c1, .int .i64 v] 47)).two
      have fH := (Blk.new wr 47 #[.slice A1 n1 c1, .int .i64 v]).two
      have HBb : Below w.heap.size w (wr.alloc (.cells #[.slice A1 n1 c1, .int .i64 v] 47)) := HB.alloc (by omega) _
      have hbb2 : Below W.heap.size W (wr.alloc (.cells #[.slice A1 n1 c1, .int .i64 v] 47)) := hbw.alloc (by omega) _
      have HWt := Lib.hid (wait_neg HC.out hk1.out)
      have hiB := hi.alloc (Nat.le_refl _) (.cells #[.slice A1 n1 c1, .int .i64 v] 47)
      have HL := Lib.hid hi.len
      by_cases hw : v = -1
      · subst hw
        skip
        go_wp2_with fail
        go_quiet (fail)
        go_wp2_with fail
        go_roundw
        case rel => exact ⟨k + 1, by omega, by go_num, all_snoc hs1.out HA.out (by simp [ohB]), below_drewN hbb2 _⟩
        case measure => first | (simp [intOf]; done) | (simp [intOf]; omega)
      · have hw' : (v == -1) = false := by rw [beq_eq_false_iff_ne]; exact hw
        have hge : 0 ≤ v := by have := HWt.out; omega
        have hw2 : decide (0 ≤ v) = true := decide_eq_true hge
        by_cases h0 : n1 = 0
        · have HO := Lib.hid (show ohB ⟨xs, v⟩ = true by simp only [ohB, HL.out, h0]; simp)
          have hd : decide (0 < n1) = false := by rw [decide_eq_false_iff_not]; omega
          have hd' : decide ((0 : Int) < (n1 : Int)) = false := by rw [decide_eq_false_iff_not]; omega
          clear hw h0
          go_wp2_with fail
          go_quiet (fail)
          go_wp2_with fail
          go_roundw
          case rel => exact ⟨k + 1, by omega, by go_num, all_snoc hs1.out HA.out HO.out, below_drewN hbb2 _⟩
          case measure => first | (simp [intOf]; done) | (simp [intOf]; omega)
        · obtain ⟨L, hL⟩ : ∃ L : Nat, n1 = L + 1 := ⟨n1 - 1, by omega⟩
          have hLn : L < n1 := by omega
          have gL : (L : Int) < (n1 : Int) := by omega
          have g0 : (0 : Int) < (n1 : Int) := by omega
          have hd : decide (0 < n1) = true := decide_eq_true (by omega)
          have hd' : decide ((0 : Int) < (n1 : Int)) = true := decide_eq_true g0
          have hLw : IntKind.i64.wrap ((n1 : Int) - 1) = (L : Int) := by rw [IntWalk.i64_in _ (by omega)]; omega
          obtain ⟨adx, y, rfl, hbx, hcx, hky, -⟩ := hiB.elem hLn
          have HY := Lib.hid (show xs.getD (n1 - 1) 0 = y by rw [show n1 - 1 = L by omega, List.getD_eq_getElem?_getD, hky.out]; rfl)
          clear h0
          by_cases hy : v < y
          · have HO := Lib.hid (show ohB ⟨xs, v⟩ = false by simp only [ohB, hw', HY.out, HL.out, Bool.false_or, Bool.or_eq_false_iff, decide_eq_false_iff_not]; omega)
            have hyd : decide (v < y) = true := decide_eq_true hy
            clear hw hL
            go_wp2_with fail
            go_quiet (fail)
            go_wp2_with fail
            go_ret
            exact ⟨ret_bool (show false = orB cx from (by
              have h1 : cx.holds.all ohB = false := by rw [List.all_eq_false]; exact ⟨_, List.mem_of_getElem? hk1.out, by rw [HO.out]; simp⟩
              simp [orB, h1])), below_drewN HBb _⟩
          · have HO := Lib.hid (show ohB ⟨xs, v⟩ = true by simp only [ohB, hw', HY.out, HL.out, Bool.false_or, Bool.or_eq_true, decide_eq_true_eq]; omega)
            have hyd : decide (v < y) = false := decide_eq_false hy
            clear hw hL
            go_wp2_with fail
            go_quiet (fail)
            go_wp2_with fail
            go_roundw
            case rel => exact ⟨k + 1, by omega, by go_num, all_snoc hs1.out HA.out HO.out, below_drewN hbb2 _⟩
            case measure => first | (simp [intOf]; done) | (simp [intOf]; omega)
    · obtain rfl : n = k := by omega
      go_wp2_with fail
      go_ret
      exact ⟨ret_bool (by
        have h1 := HA.out
        rw [List.take_of_length_le (by rw [hnl.out]; exact Nat.le_refl _)] at h1
        simp [orB, HV.out, h1]), HB⟩

end Go.Proofs.Ytehgipbedlamaaa
