/-
  The walk of FnTxnBack: the law returns true and writes nothing that was there.
-/
import Derived.Test.YtaelaldgohppeaaSc
import Derived.Deep.RegionHeld3
import Derived.StillTailTactics
namespace Go.Proofs.Ytaelaldgohppeaa
open Go.RowKit
set_option linter.unusedVariables false

set_option maxRecDepth 100000 in
set_option maxHeartbeats 8000000 in
theorem fnTxnBack_walk (A : Option Addr) (n c : Nat) (bs : List Int) (w : World) (hc : n ≤ c) (hcm : c ≤ 9223372036854775807) (hb : Bytes w w.heap.size A n bs) :
    Calls Try.prog 11 #[.slice A n c] w fun e w' => e = .returned (.bool true) ∧ Below w.heap.size w w' := by
  by_cases hbig : 1048576 < n
  · go_enter Try.func11, Try.ntmps11
    go_wp2
    go_ret
    exact ⟨rfl, Below.refl _ _⟩
  go_enter Try.func11, Try.ntmps11
  go_wp2_with fail
  refine (drawTA_any _ _ _ _ _ hb (by omega) hc hcm).mono ?_
  rintro e w1 ⟨A1, n1, c1, xs, A2, n2, c2, nd, A3, n3, c3, rs, ps, rfl, q1, hq1, q2, q3, hq2, hq3, hb1⟩
  have b2 := Blk.new w1 47 #[.slice A2 n2 c2, .int .i64 nd, .slice A3 n3 c3]
  have x2 := q1.ints.box (.cells #[.slice A2 n2 c2, .int .i64 nd, .slice A3 n3 c3] 47)
  have r2 := q2.ints.box (.cells #[.slice A2 n2 c2, .int .i64 nd, .slice A3 n3 c3] 47)
  have p2 := q3.puts.box (.cells #[.slice A2 n2 c2, .int .i64 nd, .slice A3 n3 c3] 47)
  have B2 := hb1.alloc hb1.size (.cells #[.slice A2 n2 c2, .int .i64 nd, .slice A3 n3 c3] 47)
  have gl := hb1.size
  have HX := Lib.hid q1.len
  have HR := Lib.hid q2.len
  have HP := Lib.hid q3.len
  clear q1 q2 q3 hb1
  go_wp2_with fail
  generalize hW2 : w1.alloc (.cells #[.slice A2 n2 c2, .int .i64 nd, .slice A3 n3 c3] 47) = w2 at b2 x2 r2 p2 B2 ⊢
  clear hW2
  have f2 := b2.three
  go_wp2_with fail
  refine (implTA_any _ _ _ _ _ _ nd _ _ _ xs rs ps _ x2 r2 p2 (by omega) (by omega) (by omega)).mono ?_
  rintro e w3 ⟨Ao, no, co, rfl, oo, hb3⟩
  have b3 := b2.below hb3 b2.lt
  have x3 := x2.up hb3 hb3.size
  have r3 := r2.up hb3 hb3.size
  have p3 := p2.up hb3 hb3.size
  have B3 := B2.trans (hb3.mono B2.size)
  have o3 := oo.ints
  have lo : no ≤ 15 := by have := oo.len; have := taL_len xs ⟨rs, nd, ps⟩; omega
  have HO := Lib.hid oo.len
  clear f2 b2 x2 r2 p2 B2 hb3 oo
  have f3 := b3.three
  go_wp2_with fail
  refine (specTA_any _ _ _ _ _ _ nd _ _ _ xs rs ps _ x3 r3 p3 (by omega) (by omega) (by omega)).mono ?_
  rintro e w4 ⟨Aw, nw, cw, rfl, ov, hb4⟩
  have S : Sc w w1.heap.size A1 n1 xs A2 n2 c2 nd A3 n3 c3 rs ps Ao no Aw nw w4 :=
    ⟨b3.below hb4 b3.lt, x3.up hb4 hb4.size, r3.up hb4 hb4.size, p3.up hb4 hb4.size, o3.up hb4 hb4.size, ov.ints, B3.trans (hb4.mono B3.size), gl, hq1, hq2, hq3, lo, by have := ov.len; have := taL_len xs ⟨rs, nd, ps⟩; omega⟩
  have HW := Lib.hid ov.len
  have lw : nw ≤ 15 := S.hw
  clear f3 b3 x3 r3 p3 B3 o3 hb4 ov gl
  have f4 := S.b.three
  cases hB : taB xs ⟨rs, nd, ps⟩
  · have HB := Lib.hid hB
    clear hB
    go_wp2_with fail
    refine (sameInts_same _ _ _ _ _ _ (taL xs ⟨rs, nd, ps⟩) _ S.o S.v (by omega) (by omega)).mono ?_
    rintro e w5 ⟨rfl, hb5⟩
    replace S := S.step hb5
    clear hb5 f4
    have f5 := S.b.three
    go_wp2_with fail
    refine (sameInts_same _ _ _ _ _ _ (taL xs ⟨rs, nd, ps⟩) _ S.o S.v (by omega) (by omega)).mono ?_
    rintro e w6 ⟨rfl, hb6⟩
    go_wp2
    go_ret
    exact ⟨rfl, S.fin hb6⟩
  · have HB := Lib.hid hB
    clear hB
    go_wp2_with fail
    refine (sameInts_same _ _ _ _ _ _ (taL xs ⟨rs, nd, ps⟩) _ S.o S.v (by omega) (by omega)).mono ?_
    rintro e w5 ⟨rfl, hb5⟩
    replace S := S.step hb5
    clear hb5 f4
    have f5 := S.b.three
    obtain ⟨HSv, HTv, HOk, HEq⟩ := taL_yes HB.out
    have TV := Lib.hid (tv_iff.1 HTv)
    clear HSv HTv HOk HEq
    go_wp2_with fail
    have u6 := Blk.new w5 47 #[.slice none 0 0, .int .i64 0, .slice none 0 0]
    have z6 : (w5.alloc (.cells #[.slice none 0 0, .int .i64 0, .slice none 0 0] 47)).heap.size = w5.heap.size + 1 := by simp
    have B6 : Below w5.heap.size w5 (w5.alloc (.cells #[.slice none 0 0, .int .i64 0, .slice none 0 0] 47)) := (Below.refl _ _).alloc (Nat.le_refl _) _
    generalize hW6 : w5.alloc (.cells #[.slice none 0 0, .int .i64 0, .slice none 0 0] 47) = w6 at u6 z6 B6 ⊢
    clear hW6 f5
    go_loopw [10] (fun i wr => ∃ (k : Nat) (A6 : Option Addr) (c6 : Nat), k ≤ n3 ∧ i = .int .i64 k ∧ Below w5.heap.size w5 wr ∧ Blk wr w5.heap.size 47 #[.slice none 0 0, .int .i64 0, .slice A6 k c6] ∧ OwnP wr w6.heap.size A6 k c6 (negP (ps.take k))) (fun i _ => n3 - (intOf i).toNat)
    case atStart => exact ⟨0, none, 0, Nat.zero_le _, rfl, B6, u6, OwnP.nil _ _⟩
    case round =>
      clear u6 B6
      obtain ⟨k, A6, c6, hk, rfl, hbw, u, o⟩ := hrel
      have S5 := S.step hbw
      have f := S5.b.three
      have fl := S5.b.lt
      have fu := u.three
      have ul := u.lt
      by_cases hlt : k < n3
      · obtain ⟨ad, x, y, rfl, hbb, hc0, hc1, hc2, hc3, hc4, hx1, hs1⟩ := S.p.el hlt
        have gl1 := S.b.lt
        have KS : ∀ W, Below w5.heap.size w5 W → W.cell? ⟨w1.heap.size, 0, none⟩ = some (.slice A2 n2 c2) ∧ W.cell? ⟨w1.heap.size, 1, none⟩ = some (.int .i64 nd) ∧ W.cell? ⟨w1.heap.size, 2, none⟩ = some (.slice (some ad) n3 c3) ∧ W.cell? (ad.add (k * 2)) = some (.int .i64 x) ∧ W.cell? ((ad.add (k * 2)).add 1) = some (.int .i64 y) ∧ W.cell? ⟨(ad.add (k * 2)).block, (ad.add (k * 2)).off + 1, none⟩ = some (.int .i64 y) ∧ W.cell? ((ad.add (k * 2)).add 0) = some (.int .i64 x) := fun W h =>
          ⟨((S.step h).b.tri).1, ((S.step h).b.tri).2.1, ((S.step h).b.tri).2.2, (h.cell (by rw [block_of_add]; exact hbb)).trans hc0, (h.cell (by rw [block_of_add, block_of_add]; exact hbb)).trans hc2, (h.cell (by show (ad.add (k * 2)).block < _; rw [block_of_add]; exact hbb)).trans hc3, (h.cell (by rw [block_of_add, block_of_add]; exact hbb)).trans hc4⟩
        have KR := KS _ hbw
        have hya := TV.out.a _ (List.mem_of_getElem? hx1.out)
        simp only at hya
        obtain ⟨y0, y9⟩ := hya
        have hw1 : IntKind.i64.wrap (-y) = -y := IntWalk.i64_in _ (by omega)
        have k0 : (0 : Int) ≤ (k : Int) := by omega
        have kn : (k : Int) < (n3 : Int) := by omega
        have HNg : Hid (negP (ps.take (k + 1)) = negP (ps.take k) ++ [(x, -y)]) := Lib.hid (by rw [hs1.out, negP_snoc])
        go_wp2_with fail
        go_region_law (refine step_appP rfl (.tmp 63) (.tmp 78) rfl w6.heap.size (by rfl) (OwnP.alloc (OwnP.drew o) _) _ _ _ _ [_] (by rfl) (Puts.one' _ _ (by first | omega | (simp; done) | (simp; omega))) (by omega) (by simp; omega) ?_; intro A8 c8 w8 o8 hg8 at8; have st8 : Below w6.heap.size wr w8 := Below.grown (by repeat' (first | with_reducible exact Below.refl _ _ | with_reducible refine Below.alloc ?_ (by first | omega | (simp; done) | (simp; omega)) _ | with_reducible refine Below.drew ?_)) hg8 (by simp; omega) (fun j hj => (o.lt hj).1); have hb8 : Below w5.heap.size w5 w8 := hbw.trans (st8.mono (by omega)); have u8 := Blk.grown (show Blk _ w5.heap.size 47 #[.slice none 0 0, .int .i64 0, .slice A6 k c6] by repeat' (first | with_reducible exact u | with_reducible refine Blk.alloc ?_ _ | with_reducible refine Blk.drew ?_)) hg8 (fun e => by have := (o.lt e.symm).1; omega); have f8 := u8.three; have l8 := u8.lt)
        all_goals
          go_wp2_with fail
          go_roundw
          case rel => exact ⟨k + 1, A8, c8, by omega, by go_num, hb8.setCell (Nat.le_refl _) _, u8.set_ 2 _, by rw [HNg.out]; exact (show OwnP _ _ _ _ _ _ from o8).setCell (fun j hj e => by have := (OwnP.lt (show OwnP _ _ _ _ _ _ from o8) hj).1; simp at e; omega) _⟩
          case measure => simp [intOf]; omega
      · obtain rfl : n3 = k := by omega
        rw [List.take_of_length_le (by rw [HP.out]; exact Nat.le_refl _)] at o
        have i8 := o.puts
        go_wp2_with fail
        refine (implTA_any _ _ _ _ _ _ 0 _ _ _ (taL xs ⟨rs, nd, ps⟩) [] (negP ps) _ S5.o (Ints.none0 _ _ _) i8 (by omega) (by omega) (by omega)).mono ?_
        rintro e w9 ⟨A9, n9, c9, rfl, o9, hb9⟩
        have S9 := S5.step hb9
        have f9 := S9.b.three
        have i9 := o9.ints
        by_cases hz : n3 = 0
        · have hz' : ((n3 : Int) == 0) = true := by rw [hz]; rfl
          clear hz
          go_wp2
          go_ret
          exact ⟨rfl, S9.bl⟩
        · have hz' : ((n3 : Int) == 0) = false := by rw [beq_eq_false_iff_ne]; omega
          obtain ⟨e1, e2⟩ := back_yes HB.out (show 0 < (⟨rs, nd, ps⟩ : TX).puts.length by show 0 < ps.length; rw [HP.out]; omega)
          rw [show (⟨[], 0, negP ps⟩ : TX) = backT ⟨rs, nd, ps⟩ from rfl] at i9 ⊢
          rw [e2] at i9
          rw [e1]
          have l9 : n9 ≤ 15 := by have h1 := i9.len; rw [HX.out] at h1; omega
          clear hz e1 e2 o9
          go_wp2_with fail
          refine (sameInts_same _ _ _ _ _ _ xs _ i9 S9.x (by omega) (by omega)).mono ?_
          rintro e w10 ⟨rfl, hb10⟩
          go_wp2
          go_ret
          exact ⟨rfl, S9.fin hb10⟩
end Go.Proofs.Ytaelaldgohppeaa
