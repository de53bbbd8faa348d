/-
  CreditsValid, the program's.
-/
import Derived.Test.YtehgipbedlamaaaH1
import Derived.Test.YtehgipbedlamaaaG1
namespace Go.Proofs.Ytehgipbedlamaaa
open Go.RowKit
set_option linter.unusedVariables false

set_option maxHeartbeats 4000000 in
theorem implCV_any (F : Option Addr) (nf cf : Nat) (A : Option Addr) (n c : Nat) (R : List HR) (cx : CX) (w : World) (hc : Cr w w.heap.size F nf A n R cx) (hnf : nf ≤ 1048576) (hn : n ≤ 1048576) :
    Calls Try.prog 21 #[.agg #[.slice F nf cf, .slice A n c]] w (RetV (.bool (cvB cx)) w) := by
  have b0 := Blk.new w 26 #[.slice F nf cf, .slice A n c]
  have X0 := hc.box (.cells #[.slice F nf cf, .slice A n c] 26)
  have B0 : Below w.heap.size w (w.alloc (.cells #[.slice F nf cf, .slice A n c] 26)) := (Below.refl _ _).alloc (Nat.le_refl _) _
  have z0 : w.heap.size ≤ (w.alloc (.cells #[.slice F nf cf, .slice A n c] 26)).heap.size := by simp
  have hnl := Lib.hid hc.h.l
  generalize hW : w.alloc (.cells #[.slice F nf cf, .slice A n c] 26) = W at b0 X0 B0 z0
  have f0 := b0.two
  cases hf : frB cx.free
  · go_enter Try.func21, Try.ntmps21
    go_wp2_with (go_at_call 45; refine (areFree_any F _ cf W.heap.size cx.free W X0.f hnf).mono ?_; rintro e w' ⟨rfl, rfl⟩)
    go_ret
    exact ⟨ret_bool (by simp [cvB, hf]), (by repeat' (first | with_reducible exact Below.refl _ _ | with_reducible assumption | with_reducible refine Below.setCell ?_ (by first | omega | (simp; done) | (simp; omega)) _ | with_reducible refine Below.alloc ?_ (by first | omega | (simp; done) | (simp; omega)) _ | with_reducible refine below_drewN ?_ _ | with_reducible refine Below.drew ?_ | (with_reducible refine Below.trans ?_ (Below.mono (by with_reducible assumption) (by first | omega | (simp; done) | (simp; omega))))))⟩
  have HF := Lib.hid hf
  cases hb : inB (n : Int) 1 6
  · have hnb : Hid (inB (cx.holds.length : Int) 1 6 = false) := Lib.hid (by rw [hnl.out]; exact hb)
    have hor : (n : Int) < 1 ∨ 6 < (n : Int) := by simp [inB] at hb; omega
    rcases hor with h1 | h1
    all_goals
      go_enter Try.func21, Try.ntmps21
      go_wp2_with (go_at_call 45; refine (areFree_any F _ cf W.heap.size cx.free W X0.f hnf).mono ?_; rintro e w' ⟨rfl, rfl⟩)
      go_ret
      exact ⟨ret_bool (by simp [cvB, hnb.out]), (by repeat' (first | with_reducible exact Below.refl _ _ | with_reducible assumption | with_reducible refine Below.setCell ?_ (by first | omega | (simp; done) | (simp; omega)) _ | with_reducible refine Below.alloc ?_ (by first | omega | (simp; done) | (simp; omega)) _ | with_reducible refine below_drewN ?_ _ | with_reducible refine Below.drew ?_ | (with_reducible refine Below.trans ?_ (Below.mono (by with_reducible assumption) (by first | omega | (simp; done) | (simp; omega))))))⟩
  have hnb : Hid (inB (cx.holds.length : Int) 1 6 = true) := Lib.hid (by rw [hnl.out]; exact hb)
  have h16 : 1 ≤ n ∧ n ≤ 6 := by simp [inB] at hb; omega
  obtain ⟨h1, h6⟩ := h16
  obtain rfl : nf = 5 := by have h := hf; simp [frB] at h; have := hc.f.len; omega
  clear hc
  go_enter Try.func21, Try.ntmps21
  go_wp2_with (go_at_call 45; refine (areFree_any F _ cf W.heap.size cx.free W X0.f hnf).mono ?_; rintro e w' ⟨rfl, rfl⟩)
  clear hW hb
  go_loopw [24] (fun i wr => ∃ k : Nat, k ≤ n ∧ i = .int .i64 k ∧ (cx.holds.take k).all (hvB cx.free) = true ∧ Below W.heap.size W wr) (fun i _ => n - (intOf i).toNat)
  case atStart => exact ⟨0, Nat.zero_le _, rfl, by simp, Below.refl _ _⟩
  case round =>
    obtain ⟨k, hk, rfl, hall, hbw⟩ := hrel
    have HA := Lib.hid hall
    clear hall
    have HB : Below w.heap.size w wr := B0.trans (hbw.mono (by omega))
    have zz := hbw.size
    have b := b0.below hbw b0.lt
    have X := X0.up hbw hbw.size
    clear f0
    by_cases hlt : k < n
    · obtain ⟨ad, A1, n1, c1, v, xs, rfl, hbb, hc0, hc1, hc2, hc3, hi, hn1, hk1, hs1, hR1⟩ := X.h.el hlt
      have f := b.two
      have fB := (b.alloc (.cells #[.slice A1 n1 c1, .int .i64 v] 47)).two
      have fH := (Blk.new wr 47 #[.slice A1 n1 c1, .int .i64 v]).two
      by_cases h0 : n1 = 0
      · have hl0 : Hid (xs.length = 0) := Lib.hid (by rw [hi.len]; exact h0)
        have h0' : ¬ ((0 : Int) < (n1 : Int)) := by omega
        clear h0
        by_cases hw : v = -1
        · subst hw
          go_wp2_with (first | (go_at_call 46; refine (implGV_any A1 n1 c1 wr.heap.size xs _ (hi.alloc (Nat.le_refl _) _) hn1).mono ?_; rintro e w' ⟨rfl, d, rfl⟩) | (go_at_call 42; refine (isGroup_any _ _).mono ?_; rintro e w' ⟨rfl, rfl⟩) | (go_at_call 41; refine (gHas_any A1 n1 c1 wr.heap.size xs _ _ (show Ints _ wr.heap.size A1 n1 xs from (by first | exact hi.alloc (Nat.le_refl _) _ | exact Ints.drewN (hi.alloc (Nat.le_refl _) _) _)) hn1).mono ?_; rintro e w' ⟨rfl, rfl⟩))
          go_roundw
          case rel => exact ⟨k + 1, by omega, by go_num, all_snoc hs1.out HA.out (by simp [hvB, hl0.out]), by repeat' (first | with_reducible exact hbw | with_reducible refine Below.alloc ?_ (by first | omega | (simp; done) | (simp; omega)) _ | with_reducible refine below_drewN ?_ _ | with_reducible refine Below.drew ?_)⟩
          case measure => simp [intOf]; omega
        · have hw' : (v == -1) = false := by rw [beq_eq_false_iff_ne]; exact hw
          have hw2 : (v != -1) = true := by simp [hw]
          cases hi4 : inB v 0 4
          · have HI := Lib.hid hi4
            skip
            go_wp2_with (first | (go_at_call 46; refine (implGV_any A1 n1 c1 wr.heap.size xs _ (hi.alloc (Nat.le_refl _) _) hn1).mono ?_; rintro e w' ⟨rfl, d, rfl⟩) | (go_at_call 42; refine (isGroup_any _ _).mono ?_; rintro e w' ⟨rfl, rfl⟩) | (go_at_call 41; refine (gHas_any A1 n1 c1 wr.heap.size xs _ _ (show Ints _ wr.heap.size A1 n1 xs from (by first | exact hi.alloc (Nat.le_refl _) _ | exact Ints.drewN (hi.alloc (Nat.le_refl _) _) _)) hn1).mono ?_; rintro e w' ⟨rfl, rfl⟩))
            go_ret
            exact ⟨ret_bool (cv_no hk1.out (by simp [hvB, hw', HI.out])).symm, (by repeat' (first | with_reducible exact Below.refl _ _ | with_reducible assumption | with_reducible refine Below.setCell ?_ (by first | omega | (simp; done) | (simp; omega)) _ | with_reducible refine Below.alloc ?_ (by first | omega | (simp; done) | (simp; omega)) _ | with_reducible refine below_drewN ?_ _ | with_reducible refine Below.drew ?_ | (with_reducible refine Below.trans ?_ (Below.mono (by with_reducible assumption) (by first | omega | (simp; done) | (simp; omega))))))⟩
          · have HI := Lib.hid hi4
            have hv04 : 0 ≤ v ∧ v ≤ 4 := by simpa [inB] using hi4
            skip
            obtain ⟨hv0, hv4⟩ := hv04
            obtain ⟨V, rfl⟩ := Int.eq_ofNat_of_zero_le hv0
            have hV5 : V < 5 := by omega
            obtain ⟨af, x, rfl, hbf, hcf, hxf, hsf⟩ := X.f.elem (k := V) (by omega)
            have hfB : (wr.alloc (.cells #[.slice A1 n1 c1, .int .i64 (V : Int)] 47)).cell? (af.add V) = some (.int .i64 x) := by rw [World.cell?_alloc_lt _ _ _ (by rw [block_of_add]; exact hbf)]; exact hcf
            have hg5 : Hid (cx.free.getD V 0 = x) := Lib.hid (by simp [List.getD_eq_getElem?_getD, hxf.out])
            by_cases hx : 0 < x
            · have HX := Lib.hid hx
              go_wp2_with (first | (go_at_call 46; refine (implGV_any A1 n1 c1 wr.heap.size xs _ (hi.alloc (Nat.le_refl _) _) hn1).mono ?_; rintro e w' ⟨rfl, d, rfl⟩) | (go_at_call 42; refine (isGroup_any _ _).mono ?_; rintro e w' ⟨rfl, rfl⟩) | (go_at_call 41; refine (gHas_any A1 n1 c1 wr.heap.size xs _ _ (show Ints _ wr.heap.size A1 n1 xs from (by first | exact hi.alloc (Nat.le_refl _) _ | exact Ints.drewN (hi.alloc (Nat.le_refl _) _) _)) hn1).mono ?_; rintro e w' ⟨rfl, rfl⟩))
              go_ret
              exact ⟨ret_bool (cv_no hk1.out (by have := HX.out; simp [hvB, hw', HI.out, hxf.out]; omega)).symm, (by repeat' (first | with_reducible exact Below.refl _ _ | with_reducible assumption | with_reducible refine Below.setCell ?_ (by first | omega | (simp; done) | (simp; omega)) _ | with_reducible refine Below.alloc ?_ (by first | omega | (simp; done) | (simp; omega)) _ | with_reducible refine below_drewN ?_ _ | with_reducible refine Below.drew ?_ | (with_reducible refine Below.trans ?_ (Below.mono (by with_reducible assumption) (by first | omega | (simp; done) | (simp; omega))))))⟩
            · have HX := Lib.hid hx
              have hx' : ¬ (0 < x) := hx
              cases hh : hasB xs (V : Int)
              · have HH := Lib.hid hh
                go_wp2_with (first | (go_at_call 46; refine (implGV_any A1 n1 c1 wr.heap.size xs _ (hi.alloc (Nat.le_refl _) _) hn1).mono ?_; rintro e w' ⟨rfl, d, rfl⟩) | (go_at_call 42; refine (isGroup_any _ _).mono ?_; rintro e w' ⟨rfl, rfl⟩) | (go_at_call 41; refine (gHas_any A1 n1 c1 wr.heap.size xs _ _ (show Ints _ wr.heap.size A1 n1 xs from (by first | exact hi.alloc (Nat.le_refl _) _ | exact Ints.drewN (hi.alloc (Nat.le_refl _) _) _)) hn1).mono ?_; rintro e w' ⟨rfl, rfl⟩))
                go_roundw
                case rel => exact ⟨k + 1, by omega, by go_num, all_snoc hs1.out HA.out (by have := HX.out; simp [hvB, hl0.out, hw', HI.out, hxf.out, HH.out]; omega), by repeat' (first | with_reducible exact hbw | with_reducible refine Below.alloc ?_ (by first | omega | (simp; done) | (simp; omega)) _ | with_reducible refine below_drewN ?_ _ | with_reducible refine Below.drew ?_)⟩
                case measure => simp [intOf]; omega
              · have HH := Lib.hid hh
                go_wp2_with (first | (go_at_call 46; refine (implGV_any A1 n1 c1 wr.heap.size xs _ (hi.alloc (Nat.le_refl _) _) hn1).mono ?_; rintro e w' ⟨rfl, d, rfl⟩) | (go_at_call 42; refine (isGroup_any _ _).mono ?_; rintro e w' ⟨rfl, rfl⟩) | (go_at_call 41; refine (gHas_any A1 n1 c1 wr.heap.size xs _ _ (show Ints _ wr.heap.size A1 n1 xs from (by first | exact hi.alloc (Nat.le_refl _) _ | exact Ints.drewN (hi.alloc (Nat.le_refl _) _) _)) hn1).mono ?_; rintro e w' ⟨rfl, rfl⟩))
                go_ret
                exact ⟨ret_bool (cv_no hk1.out (by simp [hvB, hw', HI.out, HH.out])).symm, (by repeat' (first | with_reducible exact Below.refl _ _ | with_reducible assumption | with_reducible refine Below.setCell ?_ (by first | omega | (simp; done) | (simp; omega)) _ | with_reducible refine Below.alloc ?_ (by first | omega | (simp; done) | (simp; omega)) _ | with_reducible refine below_drewN ?_ _ | with_reducible refine Below.drew ?_ | (with_reducible refine Below.trans ?_ (Below.mono (by with_reducible assumption) (by first | omega | (simp; done) | (simp; omega))))))⟩
      · have h0' : (0 : Int) < (n1 : Int) := by omega
        have hl0 : Hid (xs.length ≠ 0) := Lib.hid (by rw [hi.len]; exact h0)
        clear h0
        cases hg : gvB xs
        · have HGV := Lib.hid hg
          go_wp2_with (first | (go_at_call 46; refine (implGV_any A1 n1 c1 wr.heap.size xs _ (hi.alloc (Nat.le_refl _) _) hn1).mono ?_; rintro e w' ⟨rfl, d, rfl⟩) | (go_at_call 42; refine (isGroup_any _ _).mono ?_; rintro e w' ⟨rfl, rfl⟩) | (go_at_call 41; refine (gHas_any A1 n1 c1 wr.heap.size xs _ _ (show Ints _ wr.heap.size A1 n1 xs from (by first | exact hi.alloc (Nat.le_refl _) _ | exact Ints.drewN (hi.alloc (Nat.le_refl _) _) _)) hn1).mono ?_; rintro e w' ⟨rfl, rfl⟩))
          go_ret
          exact ⟨ret_bool (cv_no hk1.out (by have h9 : xs ≠ [] := fun h => hl0.out (by rw [h]; rfl); simp [hvB, HGV.out, h9])).symm, (by repeat' (first | with_reducible exact Below.refl _ _ | with_reducible assumption | with_reducible refine Below.setCell ?_ (by first | omega | (simp; done) | (simp; omega)) _ | with_reducible refine Below.alloc ?_ (by first | omega | (simp; done) | (simp; omega)) _ | with_reducible refine below_drewN ?_ _ | with_reducible refine Below.drew ?_ | (with_reducible refine Below.trans ?_ (Below.mono (by with_reducible assumption) (by first | omega | (simp; done) | (simp; omega))))))⟩
        · have HGV := Lib.hid hg
          by_cases hw : v = -1
          · subst hw
            go_wp2_with (first | (go_at_call 46; refine (implGV_any A1 n1 c1 wr.heap.size xs _ (hi.alloc (Nat.le_refl _) _) hn1).mono ?_; rintro e w' ⟨rfl, d, rfl⟩) | (go_at_call 42; refine (isGroup_any _ _).mono ?_; rintro e w' ⟨rfl, rfl⟩) | (go_at_call 41; refine (gHas_any A1 n1 c1 wr.heap.size xs _ _ (show Ints _ wr.heap.size A1 n1 xs from (by first | exact hi.alloc (Nat.le_refl _) _ | exact Ints.drewN (hi.alloc (Nat.le_refl _) _) _)) hn1).mono ?_; rintro e w' ⟨rfl, rfl⟩))
            go_roundw
            case rel => exact ⟨k + 1, by omega, by go_num, all_snoc hs1.out HA.out (by simp [hvB, HGV.out]), by repeat' (first | with_reducible exact hbw | with_reducible refine Below.alloc ?_ (by first | omega | (simp; done) | (simp; omega)) _ | with_reducible refine below_drewN ?_ _ | with_reducible refine Below.drew ?_)⟩
            case measure => simp [intOf]; omega
          · have hw' : (v == -1) = false := by rw [beq_eq_false_iff_ne]; exact hw
            have hw2 : (v != -1) = true := by simp [hw]
            cases hi4 : inB v 0 4
            · have HI := Lib.hid hi4
              skip
              go_wp2_with (first | (go_at_call 46; refine (implGV_any A1 n1 c1 wr.heap.size xs _ (hi.alloc (Nat.le_refl _) _) hn1).mono ?_; rintro e w' ⟨rfl, d, rfl⟩) | (go_at_call 42; refine (isGroup_any _ _).mono ?_; rintro e w' ⟨rfl, rfl⟩) | (go_at_call 41; refine (gHas_any A1 n1 c1 wr.heap.size xs _ _ (show Ints _ wr.heap.size A1 n1 xs from (by first | exact hi.alloc (Nat.le_refl _) _ | exact Ints.drewN (hi.alloc (Nat.le_refl _) _) _)) hn1).mono ?_; rintro e w' ⟨rfl, rfl⟩))
              go_ret
              exact ⟨ret_bool (cv_no hk1.out (by simp [hvB, hw', HI.out])).symm, (by repeat' (first | with_reducible exact Below.refl _ _ | with_reducible assumption | with_reducible refine Below.setCell ?_ (by first | omega | (simp; done) | (simp; omega)) _ | with_reducible refine Below.alloc ?_ (by first | omega | (simp; done) | (simp; omega)) _ | with_reducible refine below_drewN ?_ _ | with_reducible refine Below.drew ?_ | (with_reducible refine Below.trans ?_ (Below.mono (by with_reducible assumption) (by first | omega | (simp; done) | (simp; omega))))))⟩
            · have HI := Lib.hid hi4
              have hv04 : 0 ≤ v ∧ v ≤ 4 := by simpa [inB] using hi4
              skip
              obtain ⟨hv0, hv4⟩ := hv04
              obtain ⟨V, rfl⟩ := Int.eq_ofNat_of_zero_le hv0
              have hV5 : V < 5 := by omega
              obtain ⟨af, x, rfl, hbf, hcf, hxf, hsf⟩ := X.f.elem (k := V) (by omega)
              have hfB : (wr.alloc (.cells #[.slice A1 n1 c1, .int .i64 (V : Int)] 47)).cell? (af.add V) = some (.int .i64 x) := by rw [World.cell?_alloc_lt _ _ _ (by rw [block_of_add]; exact hbf)]; exact hcf
              have hg5 : Hid (cx.free.getD V 0 = x) := Lib.hid (by simp [List.getD_eq_getElem?_getD, hxf.out])
              by_cases hx : 0 < x
              · have HX := Lib.hid hx
                go_wp2_with (first | (go_at_call 46; refine (implGV_any A1 n1 c1 wr.heap.size xs _ (hi.alloc (Nat.le_refl _) _) hn1).mono ?_; rintro e w' ⟨rfl, d, rfl⟩) | (go_at_call 42; refine (isGroup_any _ _).mono ?_; rintro e w' ⟨rfl, rfl⟩) | (go_at_call 41; refine (gHas_any A1 n1 c1 wr.heap.size xs _ _ (show Ints _ wr.heap.size A1 n1 xs from (by first | exact hi.alloc (Nat.le_refl _) _ | exact Ints.drewN (hi.alloc (Nat.le_refl _) _) _)) hn1).mono ?_; rintro e w' ⟨rfl, rfl⟩))
                go_ret
                exact ⟨ret_bool (cv_no hk1.out (by have := HX.out; simp [hvB, hw', HI.out, hxf.out]; omega)).symm, (by repeat' (first | with_reducible exact Below.refl _ _ | with_reducible assumption | with_reducible refine Below.setCell ?_ (by first | omega | (simp; done) | (simp; omega)) _ | with_reducible refine Below.alloc ?_ (by first | omega | (simp; done) | (simp; omega)) _ | with_reducible refine below_drewN ?_ _ | with_reducible refine Below.drew ?_ | (with_reducible refine Below.trans ?_ (Below.mono (by with_reducible assumption) (by first | omega | (simp; done) | (simp; omega))))))⟩
              · have HX := Lib.hid hx
                have hx' : ¬ (0 < x) := hx
                cases hh : hasB xs (V : Int)
                · have HH := Lib.hid hh
                  go_wp2_with (first | (go_at_call 46; refine (implGV_any A1 n1 c1 wr.heap.size xs _ (hi.alloc (Nat.le_refl _) _) hn1).mono ?_; rintro e w' ⟨rfl, d, rfl⟩) | (go_at_call 42; refine (isGroup_any _ _).mono ?_; rintro e w' ⟨rfl, rfl⟩) | (go_at_call 41; refine (gHas_any A1 n1 c1 wr.heap.size xs _ _ (show Ints _ wr.heap.size A1 n1 xs from (by first | exact hi.alloc (Nat.le_refl _) _ | exact Ints.drewN (hi.alloc (Nat.le_refl _) _) _)) hn1).mono ?_; rintro e w' ⟨rfl, rfl⟩))
                  go_roundw
                  case rel => exact ⟨k + 1, by omega, by go_num, all_snoc hs1.out HA.out (by have := HX.out; simp [hvB, HGV.out, hw', HI.out, hxf.out, HH.out]; omega), by repeat' (first | with_reducible exact hbw | with_reducible refine Below.alloc ?_ (by first | omega | (simp; done) | (simp; omega)) _ | with_reducible refine below_drewN ?_ _ | with_reducible refine Below.drew ?_)⟩
                  case measure => simp [intOf]; omega
                · have HH := Lib.hid hh
                  go_wp2_with (first | (go_at_call 46; refine (implGV_any A1 n1 c1 wr.heap.size xs _ (hi.alloc (Nat.le_refl _) _) hn1).mono ?_; rintro e w' ⟨rfl, d, rfl⟩) | (go_at_call 42; refine (isGroup_any _ _).mono ?_; rintro e w' ⟨rfl, rfl⟩) | (go_at_call 41; refine (gHas_any A1 n1 c1 wr.heap.size xs _ _ (show Ints _ wr.heap.size A1 n1 xs from (by first | exact hi.alloc (Nat.le_refl _) _ | exact Ints.drewN (hi.alloc (Nat.le_refl _) _) _)) hn1).mono ?_; rintro e w' ⟨rfl, rfl⟩))
                  go_ret
                  exact ⟨ret_bool (cv_no hk1.out (by simp [hvB, hw', HI.out, HH.out])).symm, (by repeat' (first | with_reducible exact Below.refl _ _ | with_reducible assumption | with_reducible refine Below.setCell ?_ (by first | omega | (simp; done) | (simp; omega)) _ | with_reducible refine Below.alloc ?_ (by first | omega | (simp; done) | (simp; omega)) _ | with_reducible refine below_drewN ?_ _ | with_reducible refine Below.drew ?_ | (with_reducible refine Below.trans ?_ (Below.mono (by with_reducible assumption) (by first | omega | (simp; done) | (simp; omega))))))⟩
    · obtain rfl : k = n := by omega
      rw [List.take_of_length_le (by rw [hnl.out]; exact Nat.le_refl _)] at HA
      have f := b.two
      go_wp2
      go_ret
      exact ⟨ret_bool (by simp only [cvB, HF.out, hnb.out, HA.out]; rfl), HB⟩
end Go.Proofs.Ytehgipbedlamaaa
