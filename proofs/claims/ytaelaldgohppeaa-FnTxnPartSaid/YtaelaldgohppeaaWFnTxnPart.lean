/-
  The walk of FnTxnPart: the law returns true and writes nothing that was there.
-/
import Derived.Test.YtaelaldgohppeaaSc2
import Derived.Test.YtaelaldgohppeaaPt
import Derived.Deep.RegionHeld3
import Derived.StillTailTactics
namespace Go.Proofs.Ytaelaldgohppeaa
open Go.RowKit
set_option linter.unusedVariables false

set_option maxRecDepth 100000 in
set_option maxHeartbeats 8000000 in
theorem fnTxnPart_walk (A : Option Addr) (n c : Nat) (bs : List Int) (A' : Option Addr) (n' c' : Nat) (bs' : List Int) (w : World) (hc : n ≤ c) (hcm : c ≤ 9223372036854775807) (hb : Bytes w w.heap.size A n bs) (hc' : n' ≤ c') (hcm' : c' ≤ 9223372036854775807) (hb' : Bytes w w.heap.size A' n' bs') :
    Calls Try.prog 14 #[.slice A n c, .slice A' n' c'] w fun e w' => e = .returned (.bool true) ∧ Below w.heap.size w w' := by
  by_cases hbig : 1048576 < n
  · go_enter Try.func14, Try.ntmps14
    go_wp2
    go_ret
    exact ⟨rfl, Below.refl _ _⟩
  by_cases hbig' : 1048576 < n'
  · go_enter Try.func14, Try.ntmps14
    go_wp2
    go_ret
    exact ⟨rfl, Below.refl _ _⟩
  go_enter Try.func14, Try.ntmps14
  go_wp2_with fail
  refine (drawTA_any _ _ _ _ _ hb (by omega) hc hcm).mono ?_
  rintro e w1 ⟨A1, n1, c1, xs, A2, n2, c2, nd, A3, n3, c3, rs, ps, rfl, q1, hq1, q2, q3, hq2, hq3, hb1⟩
  have b2 := Blk.new w1 47 #[.slice A2 n2 c2, .int .i64 nd, .slice A3 n3 c3]
  have x2 := q1.ints.box (.cells #[.slice A2 n2 c2, .int .i64 nd, .slice A3 n3 c3] 47)
  have r2 := q2.ints.box (.cells #[.slice A2 n2 c2, .int .i64 nd, .slice A3 n3 c3] 47)
  have p2 := q3.puts.box (.cells #[.slice A2 n2 c2, .int .i64 nd, .slice A3 n3 c3] 47)
  have B2 := hb1.alloc hb1.size (.cells #[.slice A2 n2 c2, .int .i64 nd, .slice A3 n3 c3] 47)
  have gl := hb1.size
  have HX := Lib.hid q1.len
  have HR := Lib.hid q2.len
  have HP := Lib.hid q3.len
  have HC3 := Lib.hid q3.cap
  clear q1 q2 q3 hb1
  go_wp2_with fail
  generalize hW2 : w1.alloc (.cells #[.slice A2 n2 c2, .int .i64 nd, .slice A3 n3 c3] 47) = w2 at b2 x2 r2 p2 B2 ⊢
  clear hW2
  have f2 := b2.three
  go_wp2_with fail
  refine (implTA_any _ _ _ _ _ _ nd _ _ _ xs rs ps _ x2 r2 p2 (by omega) (by omega) (by omega)).mono ?_
  rintro e w3 ⟨Ao, no, co, rfl, oo, hb3⟩
  have b3 := b2.below hb3 b2.lt
  have x3 := x2.up hb3 hb3.size
  have r3 := r2.up hb3 hb3.size
  have p3 := p2.up hb3 hb3.size
  have B3 := B2.trans (hb3.mono B2.size)
  have o3 := oo.ints
  have lo : no ≤ 15 := by have := oo.len; have := taL_len xs ⟨rs, nd, ps⟩; omega
  have HO := Lib.hid oo.len
  clear f2 b2 x2 r2 p2 B2 hb3 oo
  have f3 := b3.three
  go_wp2_with fail
  refine (specTA_any _ _ _ _ _ _ nd _ _ _ xs rs ps _ x3 r3 p3 (by omega) (by omega) (by omega)).mono ?_
  rintro e w4 ⟨Aw, nw, cw, rfl, ov, hb4⟩
  have S : Sc w w1.heap.size A1 n1 xs A2 n2 c2 nd A3 n3 c3 rs ps Ao no Aw nw w4 :=
    ⟨b3.below hb4 b3.lt, x3.up hb4 hb4.size, r3.up hb4 hb4.size, p3.up hb4 hb4.size, o3.up hb4 hb4.size, ov.ints, B3.trans (hb4.mono B3.size), gl, hq1, hq2, hq3, lo, by have := ov.len; have := taL_len xs ⟨rs, nd, ps⟩; omega⟩
  have HW := Lib.hid ov.len
  have lw : nw ≤ 15 := S.hw
  clear f3 b3 x3 r3 p3 B3 o3 hb4 ov gl
  have f4 := S.b.three
  cases hB : taB xs ⟨rs, nd, ps⟩
  · have HB := Lib.hid hB
    clear hB
    go_wp2_with fail
    refine (sameInts_same _ _ _ _ _ _ (taL xs ⟨rs, nd, ps⟩) _ S.o S.v (by omega) (by omega)).mono ?_
    rintro e w5 ⟨rfl, hb5⟩
    replace S := S.step hb5
    clear hb5 f4
    have f5 := S.b.three
    go_wp2_with fail
    refine (sameInts_same _ _ _ _ _ _ (taL xs ⟨rs, nd, ps⟩) _ S.o S.v (by omega) (by omega)).mono ?_
    rintro e w6 ⟨rfl, hb6⟩
    go_wp2
    go_ret
    exact ⟨rfl, S.fin hb6⟩
  · have HB := Lib.hid hB
    clear hB
    go_wp2_with fail
    refine (sameInts_same _ _ _ _ _ _ (taL xs ⟨rs, nd, ps⟩) _ S.o S.v (by omega) (by omega)).mono ?_
    rintro e w5 ⟨rfl, hb5⟩
    replace S := S.step hb5
    clear hb5 f4
    have f5 := S.b.three
    by_cases hz : n3 = 0
    · have hz' : ((n3 : Int) == 0) = true := by rw [hz]; rfl
      go_wp2_with fail
      refine (sameInts_same _ _ _ _ _ _ (taL xs ⟨rs, nd, ps⟩) _ S.o S.v (by omega) (by omega)).mono ?_
      rintro e w6 ⟨rfl, hb6⟩
      go_wp2
      go_ret
      exact ⟨rfl, S.fin hb6⟩
    · have hz' : ((n3 : Int) == 0) = false := by rw [beq_eq_false_iff_ne]; omega
      by_cases hz2 : (n3 : Int) + (n2 : Int) < 2
      · skip
        go_wp2_with fail
        refine (sameInts_same _ _ _ _ _ _ (taL xs ⟨rs, nd, ps⟩) _ S.o S.v (by omega) (by omega)).mono ?_
        rintro e w6 ⟨rfl, hb6⟩
        go_wp2
        go_ret
        exact ⟨rfl, S.fin hb6⟩
      · have H2 := Lib.hid (show 2 ≤ (⟨rs, nd, ps⟩ : TX).puts.length + (⟨rs, nd, ps⟩ : TX).reads.length by show 2 ≤ ps.length + rs.length; rw [HP.out, HR.out]; omega)
        obtain ⟨k, hkn, hKe⟩ : ∃ k : Nat, k < n3 ∧ (n' : Int) % (n3 : Int) = (k : Int) := ⟨n' % n3, Nat.mod_lt _ (by omega), by simp⟩
        have k0 : (0 : Int) ≤ (k : Int) := by omega
        have km : (k : Int) < (n3 : Int) := by omega
        have kd : (k : Int) ≤ (c3 : Int) := by have := HC3.out; omega
        have hn0 : (0 : Int) < (n3 : Int) := by omega
        obtain ⟨ad, x, y, rfl, hbb, hc0, hc1, hc2, hc3, hc4, hx1, hs1⟩ := S.p.el hkn
        have HY := Lib.hid (part_yes HB.out (show (⟨rs, nd, ps⟩ : TX).puts[k]? = some (x, y) from hx1.out) H2.out)
        have HSv := Lib.hid (taL_yes HB.out).1
        obtain rfl : n1 = 15 := by rw [← HX.out]; exact sv_len HSv.out
        obtain ⟨-, -, -, hx0, hx14⟩ := HY.out
        simp only at hx0 hx14
        obtain ⟨X, rfl⟩ := Int.eq_ofNat_of_zero_le hx0
        have X15 : X < 15 := by omega
        have TK : Puts w5 w5.heap.size (some ad) k (ps.take k) := S.p.take (by omega)
        have DR := S.p.cut (k := k + 1) (d := c3) (by omega) HC3.out
        have hslT := fun W => cutPTo_run (some ad) n3 c3 k (by omega) HC3.out W
        have hslD := fun W => cutP_run (some ad) n3 c3 k (by omega) W
        generalize hA0 : (if c3 = k + 1 then some ad else (some ad).map (·.add ((k + 1) * 2))) = A0 at hslD DR
        clear hA0
        have gl1 := S.b.lt
        have hw1 : IntKind.i64.wrap ((k : Int) + 1) = (k : Int) + 1 := IntWalk.i64_in _ (by omega)
        have KS : ∀ W, Below w5.heap.size w5 W → W.cell? ⟨w1.heap.size, 0, none⟩ = some (.slice A2 n2 c2) ∧ W.cell? ⟨w1.heap.size, 1, none⟩ = some (.int .i64 nd) ∧ W.cell? ⟨w1.heap.size, 2, none⟩ = some (.slice (some ad) n3 c3) := fun W h =>
          ⟨((S.step h).b.tri).1, ((S.step h).b.tri).2.1, ((S.step h).b.tri).2.2⟩
        skip
        go_wp2_with fail
        go_region_held3 (fun W => W.cell? ⟨w1.heap.size, 0, none⟩ = some (.slice A2 n2 c2) ∧ W.cell? ⟨w1.heap.size, 1, none⟩ = some (.int .i64 nd) ∧ W.cell? ⟨w1.heap.size, 2, none⟩ = some (.slice (some ad) n3 c3))
          (exact KS _ (by repeat' (first | with_reducible exact st9 | with_reducible exact st8 | with_reducible exact Below.refl _ _ | with_reducible refine Below.setCell ?_ (by first | omega | (simp; done) | (simp; omega)) _ | with_reducible refine Below.alloc ?_ (by first | omega | (simp; done) | (simp; omega)) _ | with_reducible refine Below.drew ?_)))
          (first
            | (refine step_appP rfl (.tmp 92) (.tmp 97) rfl w5.heap.size (A := A8) (n := k) (c := c8) (ps := ps.take k) rfl ?_ w5.heap.size A0 (n3 - (k + 1)) (c3 - (k + 1)) (ps.drop (k + 1)) rfl ?_ ?_ ?_ ?_
               · exact (show OwnP _ w5.heap.size A8 k c8 (ps.take k) from (by repeat' (first | with_reducible exact o8' | with_reducible refine OwnP.alloc ?_ _ | with_reducible refine OwnP.drew ?_)))
               · exact DR.below (by repeat' (first | with_reducible exact st9 | with_reducible exact st8 | with_reducible exact Below.refl _ _ | with_reducible refine Below.setCell ?_ (by first | omega | (simp; done) | (simp; omega)) _ | with_reducible refine Below.alloc ?_ (by first | omega | (simp; done) | (simp; omega)) _ | with_reducible refine Below.drew ?_))
               · omega
               · first | omega | (simp; done) | (simp; omega)
               intro A9 c9 w9 o9 hg9 at9
               have o9' : OwnP w9 w5.heap.size A9 (k + (n3 - (k + 1))) c9 (ps.take k ++ ps.drop (k + 1)) := o9
               have z9 : w8.heap.size ≤ w9.heap.size := by have := hg9.size; first | omega | (simp at this; omega)
               have st9 : Below w5.heap.size w5 w9 := Below.grown (by repeat' (first | with_reducible exact st9 | with_reducible exact st8 | with_reducible exact Below.refl _ _ | with_reducible refine Below.setCell ?_ (by first | omega | (simp; done) | (simp; omega)) _ | with_reducible refine Below.alloc ?_ (by first | omega | (simp; done) | (simp; omega)) _ | with_reducible refine Below.drew ?_)) hg9 (by first | omega | (simp; done) | (simp; omega)) (fun j hj => by have := (OwnP.lt o8' hj).1; omega)
               first
                 | (refine (fun (v9 : Blk w9 (w8.heap.size) 47 #[.slice none 0 0, .int .i64 0, .slice none 0 0]) => ?_) ?_
                    rotate_left
                    · repeat' (first | with_reducible exact v8 | (with_reducible refine Blk.newAt ?_; first | omega | (simp; done) | (simp; omega)) | with_reducible refine Blk.grown ?_ hg9 (fun e => by first | (have := OwnP.lt o8' e.symm; omega) | (rcases at8 with h' | h' <;> (rw [h'] at e; simp [blk] at e <;> omega))) | with_reducible refine Blk.alloc ?_ _ | with_reducible refine Blk.drew ?_)
                    have fv9 := v9.three
                    have lv9 := v9.lt)
                 | (refine (fun (v9 : Blk w9 (w5.heap.size + 1) 47 #[.slice none 0 0, .int .i64 0, .slice none 0 0]) => ?_) ?_
                    rotate_left
                    · repeat' (first | with_reducible exact v8 | (with_reducible refine Blk.newAt ?_; first | omega | (simp; done) | (simp; omega)) | with_reducible refine Blk.grown ?_ hg9 (fun e => by first | (have := OwnP.lt o8' e.symm; omega) | (rcases at8 with h' | h' <;> (rw [h'] at e; simp [blk] at e <;> omega))) | with_reducible refine Blk.alloc ?_ _ | with_reducible refine Blk.drew ?_)
                    have fv9 := v9.three
                    have lv9 := v9.lt)
                 | (refine (fun (v9 : Blk w9 (w5.heap.size) 47 #[.slice none 0 0, .int .i64 0, .slice none 0 0]) => ?_) ?_
                    rotate_left
                    · repeat' (first | with_reducible exact v8 | (with_reducible refine Blk.newAt ?_; first | omega | (simp; done) | (simp; omega)) | with_reducible refine Blk.grown ?_ hg9 (fun e => by first | (have := OwnP.lt o8' e.symm; omega) | (rcases at8 with h' | h' <;> (rw [h'] at e; simp [blk] at e <;> omega))) | with_reducible refine Blk.alloc ?_ _ | with_reducible refine Blk.drew ?_)
                    have fv9 := v9.three
                    have lv9 := v9.lt)
                 | skip)
            | (refine step_appP rfl (.tmp 87) (.tmp 91) rfl w5.heap.size (A := _) (n := _) (c := _) (ps := []) rfl ?_ w5.heap.size (some ad) k c3 (ps.take k) rfl ?_ ?_ ?_ ?_
               · exact (show OwnP _ w5.heap.size _ 0 0 [] from (by repeat' (first | (with_reducible refine OwnP.lit0 ?_ ?_ <;> first | omega | (simp; done) | (simp; omega)) | with_reducible refine OwnP.alloc ?_ _ | with_reducible refine OwnP.drew ?_)))
               · exact TK.below (by repeat' (first | with_reducible exact st9 | with_reducible exact st8 | with_reducible exact Below.refl _ _ | with_reducible refine Below.setCell ?_ (by first | omega | (simp; done) | (simp; omega)) _ | with_reducible refine Below.alloc ?_ (by first | omega | (simp; done) | (simp; omega)) _ | with_reducible refine Below.drew ?_))
               · omega
               · first | omega | (simp; done) | (simp; omega)
               intro A8 c8 w8 o8 hg8 at8
               simp only [Nat.zero_add, List.nil_append] at o8 ⊢
               have o8' : OwnP w8 w5.heap.size A8 k c8 (ps.take k) := o8
               have z8 : w5.heap.size ≤ w8.heap.size := by have := hg8.size; first | omega | (simp at this; omega)
               have st8 : Below w5.heap.size w5 w8 := Below.grown (by repeat' (first | with_reducible exact st9 | with_reducible exact st8 | with_reducible exact Below.refl _ _ | with_reducible refine Below.setCell ?_ (by first | omega | (simp; done) | (simp; omega)) _ | with_reducible refine Below.alloc ?_ (by first | omega | (simp; done) | (simp; omega)) _ | with_reducible refine Below.drew ?_)) hg8 (by first | omega | (simp; done) | (simp; omega)) (fun j hj => by simp [blk] at hj <;> omega)
               first
                 | (refine (fun (v8 : Blk w8 (w5.heap.size + 1) 47 #[.slice none 0 0, .int .i64 0, .slice none 0 0]) => ?_) ?_
                    rotate_left
                    · repeat' (first | (with_reducible refine Blk.newAt ?_; first | omega | (simp; done) | (simp; omega)) | with_reducible refine Blk.grown ?_ hg8 (fun e => by simp [blk] at e <;> omega) | with_reducible refine Blk.alloc ?_ _ | with_reducible refine Blk.drew ?_)
                    have fv8 := v8.three
                    have lv8 := v8.lt)
                 | (refine (fun (v8 : Blk w8 (w5.heap.size) 47 #[.slice none 0 0, .int .i64 0, .slice none 0 0]) => ?_) ?_
                    rotate_left
                    · repeat' (first | (with_reducible refine Blk.newAt ?_; first | omega | (simp; done) | (simp; omega)) | with_reducible refine Blk.grown ?_ hg8 (fun e => by simp [blk] at e <;> omega) | with_reducible refine Blk.alloc ?_ _ | with_reducible refine Blk.drew ?_)
                    have fv8 := v8.three
                    have lv8 := v8.lt)
                 | skip))
        all_goals
          first
            | (generalize hWF : World.setCell (World.setCell (World.setCell _ _ _) _ _) _ _ = wF
               refine (fun (BF : Below w5.heap.size w5 wF) => ?_) ?_
               rotate_left
               · rw [← hWF]
                 repeat' (first | with_reducible exact st9 | with_reducible exact st8 | with_reducible exact Below.refl _ _ | with_reducible refine Below.setCell ?_ (by first | omega | (simp; done) | (simp; omega)) _ | with_reducible refine Below.alloc ?_ (by first | omega | (simp; done) | (simp; omega)) _ | with_reducible refine Below.drew ?_))
            | (generalize hWF : World.alloc w9 (.cells #[.slice A2 n2 c2, .int .i64 nd, .slice A9 (k + (n3 - (k + 1))) c9] 47) = wF
               refine (fun (BF : Below w5.heap.size w5 wF) => ?_) ?_
               rotate_left
               · rw [← hWF]
                 exact st9.alloc (by omega) _)
          have oF : OwnP wF w5.heap.size A9 (k + (n3 - (k + 1))) c9 (ps.take k ++ ps.drop (k + 1)) := by
            rw [← hWF]
            repeat' (first | with_reducible exact o9' | with_reducible refine OwnP.setCell ?_ (fun j hj e => by (try simp at e); first | (have := OwnP.lt o9' hj; omega) | (rcases at9 with h | h <;> (rw [h] at hj; first | (have := OwnP.lt o8' hj; omega) | (simp [blk] at hj <;> omega) | (rcases at8 with h' | h' <;> (rw [h'] at hj; simp [blk] at hj <;> omega))))) _ | with_reducible refine OwnP.alloc ?_ _ | with_reducible refine OwnP.drew ?_)
          have S9 := S.step BF
          have i9 := oF.puts
          first
            | (refine (fun (uF : Blk wF w9.heap.size 47 #[.slice A2 n2 c2, .int .i64 nd, .slice A9 (k + (n3 - (k + 1))) c9]) => ?_) ?_
               rotate_left
               · rw [← hWF]
                 exact Blk.new _ _ _)
            | (refine (fun (uF : Blk wF (w9.heap.size) 47 #[.slice A2 n2 c2, .int .i64 nd, .slice A9 (k + (n3 - (k + 1))) c9]) => ?_) ?_
               rotate_left
               · rw [← hWF]
                 refine Blk.set_ (cs := #[.slice A2 n2 c2, .int .i64 nd, .slice none 0 0]) (Blk.set_ (cs := #[.slice A2 n2 c2, .int .i64 0, .slice none 0 0]) (Blk.set_ (cs := #[.slice none 0 0, .int .i64 0, .slice none 0 0]) ?_ 0 _) 1 _) 2 _
                 repeat' (first | with_reducible exact v9 | with_reducible exact v8 | (with_reducible refine Blk.newAt ?_; first | omega | (simp; done) | (simp; omega)) | with_reducible refine Blk.alloc ?_ _ | with_reducible refine Blk.drew ?_))
            | (refine (fun (uF : Blk wF (w8.heap.size) 47 #[.slice A2 n2 c2, .int .i64 nd, .slice A9 (k + (n3 - (k + 1))) c9]) => ?_) ?_
               rotate_left
               · rw [← hWF]
                 refine Blk.set_ (cs := #[.slice A2 n2 c2, .int .i64 nd, .slice none 0 0]) (Blk.set_ (cs := #[.slice A2 n2 c2, .int .i64 0, .slice none 0 0]) (Blk.set_ (cs := #[.slice none 0 0, .int .i64 0, .slice none 0 0]) ?_ 0 _) 1 _) 2 _
                 repeat' (first | with_reducible exact v9 | with_reducible exact v8 | (with_reducible refine Blk.newAt ?_; first | omega | (simp; done) | (simp; omega)) | with_reducible refine Blk.alloc ?_ _ | with_reducible refine Blk.drew ?_))
            | (refine (fun (uF : Blk wF (w5.heap.size + 1) 47 #[.slice A2 n2 c2, .int .i64 nd, .slice A9 (k + (n3 - (k + 1))) c9]) => ?_) ?_
               rotate_left
               · rw [← hWF]
                 refine Blk.set_ (cs := #[.slice A2 n2 c2, .int .i64 nd, .slice none 0 0]) (Blk.set_ (cs := #[.slice A2 n2 c2, .int .i64 0, .slice none 0 0]) (Blk.set_ (cs := #[.slice none 0 0, .int .i64 0, .slice none 0 0]) ?_ 0 _) 1 _) 2 _
                 repeat' (first | with_reducible exact v9 | with_reducible exact v8 | (with_reducible refine Blk.newAt ?_; first | omega | (simp; done) | (simp; omega)) | with_reducible refine Blk.alloc ?_ _ | with_reducible refine Blk.drew ?_))
            | (refine (fun (uF : Blk wF (w5.heap.size) 47 #[.slice A2 n2 c2, .int .i64 nd, .slice A9 (k + (n3 - (k + 1))) c9]) => ?_) ?_
               rotate_left
               · rw [← hWF]
                 refine Blk.set_ (cs := #[.slice A2 n2 c2, .int .i64 nd, .slice none 0 0]) (Blk.set_ (cs := #[.slice A2 n2 c2, .int .i64 0, .slice none 0 0]) (Blk.set_ (cs := #[.slice none 0 0, .int .i64 0, .slice none 0 0]) ?_ 0 _) 1 _) 2 _
                 repeat' (first | with_reducible exact v9 | with_reducible exact v8 | (with_reducible refine Blk.newAt ?_; first | omega | (simp; done) | (simp; omega)) | with_reducible refine Blk.alloc ?_ _ | with_reducible refine Blk.drew ?_))
          have fu := uF.three
          have f9 := S9.b.three
          clear hWF
          go_wp2_with fail
          refine (implTA_any _ _ _ _ _ _ nd _ _ _ xs rs (ps.take k ++ ps.drop (k + 1)) _ S9.x S9.r i9 (by omega) (by omega) (by omega)).mono ?_
          rintro e w10 ⟨A10, n10, c10, rfl, o10, hb10⟩
          have S10 := S9.step hb10
          rw [show (⟨rs, nd, ps.take k ++ ps.drop (k + 1)⟩ : TX) = partT ⟨rs, nd, ps⟩ k from rfl] at o10 ⊢
          rw [HY.out.1]
          obtain rfl : n10 = 15 := by rw [← o10.len]; exact HY.out.2.1
          have i10 := o10.ints
          obtain ⟨adr, xr, rfl, -, -⟩ := i10.elem (k := 0) (by omega)
          obtain ⟨ad0, x0, rfl, -, -⟩ := S10.x.elem (k := 0) (by omega)
          have hcR := (i10.atD X15).1
          have hcX := (S10.x.atD X15).1
          have hg : (taL xs (partT ⟨rs, nd, ps⟩ k)).getD X 0 = xs.getD X 0 := by simpa using HY.out.2.2.1
          rw [hg] at hcR
          generalize xs.getD X 0 = v at hcR hcX
          obtain ⟨ad', x', y', hA', hbb', hd0, hd1, hd2, hd3, hd4, hx1', hs1'⟩ := S10.p.el hkn
          obtain rfl : ad = ad' := by injection hA'
          obtain ⟨rfl, rfl⟩ : (X : Int) = x' ∧ y = y' := by
            have h1 := hx1.out
            rw [hx1'.out] at h1
            injection h1 with h1
            injection h1 with h2 h3
            exact ⟨h2.symm, h3.symm⟩
          have f10 := S10.b.three
          clear hg hc0 hc1 hc2 hc3 hc4 fu f9 hslT hslD
          go_wp2_with fail
          go_quiet (fail)
          go_wp2
          go_ret
          exact ⟨rfl, below_drewN S10.bl _⟩
end Go.Proofs.Ytaelaldgohppeaa
