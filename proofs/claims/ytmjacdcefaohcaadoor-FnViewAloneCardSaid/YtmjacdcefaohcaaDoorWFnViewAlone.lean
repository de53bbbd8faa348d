/-
  The walk of FnViewAlone: the law returns true and writes nothing that was there.
-/
import Derived.Test.YtmjacdcefaohcaaDoorDW
import Derived.Test.YtmjacdcefaohcaaDoorFL
import Derived.Test.YtmjacdcefaohcaaDoorE3
import Derived.Test.YtmjacdcefaohcaaDoorCut
import Derived.Deep.RegionHeld3
import Derived.Deep.RegionWith
import Derived.IntWalk
namespace Go.Proofs.YtmjacdcefaohcaaDoor
open Go.RowKit
set_option linter.unusedVariables false

theorem keep3 {w : World} {g g0 : Nat} {t : TypeId} {a b : Value} {x : Int} {b0 e n c : Nat} {xs : List Int} (h : Blk w g t #[a, b]) (o : RowI w b0 e (some ⟨g0, 0, none⟩) n c xs) (hx : xs[0]? = some x) : w.cell? ⟨g, 0, none⟩ = some a ∧ w.cell? ⟨g, 1, none⟩ = some b ∧ w.cell? ⟨g0, 0, none⟩ = some (.int .i64 x) := ⟨h.two.1, h.two.2.1, (o.cellIs hx).1⟩
theorem Sent.drew1 {w : World} {a : Addr} (h : Sent w a) : Sent w.drew a := h
theorem RowI.above1 {w : World} {b e n c : Nat} {A : Option Addr} {xs : List Int} (h : RowI w b e A n c xs) {p : Addr} (hp : e ≤ p.block) (u : Value) : RowI (w.setCell p u) b e A n c xs := h.keep (fun k _ hk => Below.heap_setCell w p u k (by omega))

set_option maxHeartbeats 4000000 in
theorem fnViewAlone_walk (A : Option Addr) (n c : Nat) (bs : List Int) (ea : Addr) (w : World) (hc : n ≤ c) (hcm : c ≤ 9223372036854775807) (hb : Bytes w w.heap.size A n bs) (hsE : Sent w ea) :
    Calls Tryd.prog 3 #[.slice A n c] w fun e w' => e = .returned (.bool true) ∧ Below w.heap.size w w' := by
  by_cases hn : 1048576 < n
  · go_enter Tryd.func3, Tryd.ntmps3
    go_wp2
    go_ret
    exact ⟨rfl, Below.refl _ _⟩
  go_enter Tryd.func3, Tryd.ntmps3
  have HB0 : Below w.heap.size w w := Below.refl _ _
  go_wp2_with fail
  refine (drawViewValid_any _ _ _ _ _ hb (by omega) hc hcm).mono ?_
  rintro e w1 ⟨q1, A1, n1, c1, xs1, rfl, o1, hn1, hb1⟩
  have z1 : w.heap.size ≤ w1.heap.size := by have := hb1.size; simpa using this
  have st1 : Below w.heap.size w w1 := (by repeat' (first | with_reducible exact Below.refl _ _ | with_reducible refine Below.alloc ?_ (by first | omega | (simp; done) | (simp; omega)) _ | with_reducible refine below_drewN ?_ _ | with_reducible refine Below.drew ?_ | with_reducible refine Below.setCell ?_ (by first | omega | (simp; done) | (simp; omega)) _ | with_reducible refine Below.trans ?_ (Below.mono hb1 (by first | omega | (simp; done) | (simp; omega)))))
  have HB1 : Below w.heap.size w w1 := HB0.trans (st1.mono HB0.size)
  clear HB0
  clear st1
  replace o1 := (rowI o1).mono (b' := w.heap.size) (by first | omega | (simp; done) | (simp; omega)) (Nat.le_refl _)
  have ln1 := Lib.hid o1.len; have cp1 := o1.cap
  have hne : (vvB q1 xs1 != vvB q1 xs1) = false := by simp
  have heq : (vvB q1 xs1 == vvB q1 xs1) = true := by simp
  go_wp2_with fail
  refine (implViewValid_any _ _ _ q1 xs1 _ ((o1.ints (B := w1.heap.size) (by omega)).box _) (by omega)).mono ?_
  rintro e w2 ⟨rfl, hb2⟩
  have z2 : w1.heap.size + 1 ≤ w2.heap.size := by have := hb2.size; simpa using this
  have st2 : Below w1.heap.size w1 w2 := (by repeat' (first | with_reducible exact Below.refl _ _ | with_reducible refine Below.alloc ?_ (by first | omega | (simp; done) | (simp; omega)) _ | with_reducible refine below_drewN ?_ _ | with_reducible refine Below.drew ?_ | with_reducible refine Below.setCell ?_ (by first | omega | (simp; done) | (simp; omega)) _ | with_reducible refine Below.trans ?_ (Below.mono hb2 (by first | omega | (simp; done) | (simp; omega)))))
  have HB2 : Below w.heap.size w w2 := HB1.trans (st2.mono HB1.size)
  have p1 : Blk w2 (w1.heap.size) 25 #[.int .i64 (q1), .slice A1 n1 c1] := by simpa using (Blk.new w1 25 #[.int .i64 (q1), .slice A1 n1 c1]).below hb2 (by first | (simp; done) | (simp; omega))
  replace o1 := o1.keep (same_of_below st2 (by omega))
  clear HB1
  clear st2
  have fp1 := p1.two; have lp1 := p1.lt
  go_wp2_with fail
  refine (specViewValid_any _ _ _ q1 xs1 _ (o1.ints (B := w2.heap.size) (by omega)) (by omega)).mono ?_
  rintro e w3 ⟨rfl, hb3⟩
  clear fp1 lp1
  have z3 : w2.heap.size ≤ w3.heap.size := by have := hb3.size; simpa using this
  have st3 : Below w2.heap.size w2 w3 := (by repeat' (first | with_reducible exact Below.refl _ _ | with_reducible refine Below.alloc ?_ (by first | omega | (simp; done) | (simp; omega)) _ | with_reducible refine below_drewN ?_ _ | with_reducible refine Below.drew ?_ | with_reducible refine Below.setCell ?_ (by first | omega | (simp; done) | (simp; omega)) _ | with_reducible refine Below.trans ?_ (Below.mono hb3 (by first | omega | (simp; done) | (simp; omega)))))
  have HB3 : Below w.heap.size w w3 := HB2.trans (st3.mono HB2.size)
  replace p1 := p1.below st3 p1.lt
  replace o1 := o1.keep (same_of_below st3 (by omega))
  clear HB2
  clear st3
  have fp1 := p1.two; have lp1 := p1.lt
  cases hv : vvB q1 xs1
  · go_wp2
    go_ret
    exact ⟨rfl, HB3⟩
  · have HV := Lib.hid hv
    have hn8 : n1 ≤ 8 := by have := vv_len hv; have := ln1.out; omega
    have hn0 : 0 < n1 := by have := vv_pos hv; have := ln1.out; omega
    clear hne heq hv
    rcases (by omega : n1 ≤ 1 ∨ 1 < n1) with h1 | h1
    · obtain rfl : n1 = 1 := by omega
      obtain ⟨g0, rfl, hg0, hg1⟩ := o1.form (by omega)
      obtain ⟨x0, hx0⟩ : ∃ x, xs1[0]? = some x := ⟨_, List.getElem?_eq_getElem (by have := ln1.out; omega)⟩
      have fx := o1.cellIs hx0
      have HX0 := Lib.hid hx0
      have hleft := alone_left (q := q1) (q' := q1 + 1) ln1.out hx0 (leaveOk q1 xs1 x0)
      have HLEFT := Lib.hid hleft
      have hnone := alone_none q1 xs1
      have hall := alone_all HV.out
      have HN := Lib.hid hnone; have HA := Lib.hid hall
      clear hnone hall
      have hs3 := hsE.below HB3 hsE.lt
      clear hx0 hleft
      go_wp2_with fail
      clear fp1 fx
      go_region_held3 (fun w' => w'.cell? ⟨w1.heap.size, 0, none⟩ = some (.int .i64 q1) ∧ w'.cell? ⟨w1.heap.size, 1, none⟩ = some (.slice (some ⟨g0, 0, none⟩) 1 c1) ∧ w'.cell? ⟨g0, 0, none⟩ = some (.int .i64 x0))
        (exact keep3 (t := 25) (b0 := w.heap.size) (e := w1.heap.size) (n := 1) (c := c1) (xs := xs1) (show Blk _ (w1.heap.size) 25 #[.int .i64 q1, .slice (some ⟨g0, 0, none⟩) 1 c1] by repeat' (first | with_reducible exact p10 | with_reducible exact gp1 | with_reducible exact p1 | with_reducible refine Blk.drew ?_ | with_reducible refine Blk.alloc ?_ _ | with_reducible refine Blk.far ?_ (by first | omega | (simp; done) | (simp; omega)) _)) (show RowI _ (w.heap.size) (w1.heap.size) (some ⟨g0, 0, none⟩) 1 c1 xs1 by repeat' (first | with_reducible exact o10 | with_reducible exact go1 | with_reducible exact o1 | with_reducible refine RowI.drew1 ?_ | with_reducible refine RowI.alloc1 ?_ (by first | omega | (simp; done) | (simp; omega)) _ | with_reducible refine RowI.above1 ?_ (by first | omega | (simp; done) | (simp; omega)) _)) HX0.out)
        (first
          | (go_at_call 20; (with_reducible refine Calls.mono (implLeave_any (some ⟨g0, 0, none⟩) 1 c1 q1 xs1 x0 ea _ ?_ ?_ (by omega)) ?_)
             · (repeat' (first | with_reducible exact hs3 | with_reducible refine Sent.drew1 ?_ | with_reducible refine Sent.alloc ?_ _))
             · exact RowI.ints' (show RowI _ (w.heap.size) (w1.heap.size) (some ⟨g0, 0, none⟩) 1 c1 xs1 by repeat' (first | with_reducible exact o10 | with_reducible exact go1 | with_reducible exact o1 | with_reducible refine RowI.drew1 ?_ | with_reducible refine RowI.alloc1 ?_ (by first | omega | (simp; done) | (simp; omega)) _ | with_reducible refine RowI.above1 ?_ (by first | omega | (simp; done) | (simp; omega)) _)) (by first | omega | (simp; done) | (simp; omega))
             rintro e w9 ⟨A9, n9, c9, rfl, o9, hb9⟩
             have z9 := hb9.size
             try simp at z9
             rw [HLEFT.out]
             have gp1 := Blk.step (show Blk _ (w1.heap.size) 25 #[.int .i64 q1, .slice (some ⟨g0, 0, none⟩) 1 c1] by repeat' (first | with_reducible exact p10 | with_reducible exact gp1 | with_reducible exact p1 | with_reducible refine Blk.drew ?_ | with_reducible refine Blk.alloc ?_ _ | with_reducible refine Blk.far ?_ (by first | omega | (simp; done) | (simp; omega)) _)) hb9
             have go1 := RowI.step (show RowI _ (w.heap.size) (w1.heap.size) (some ⟨g0, 0, none⟩) 1 c1 xs1 by repeat' (first | with_reducible exact o10 | with_reducible exact go1 | with_reducible exact o1 | with_reducible refine RowI.drew1 ?_ | with_reducible refine RowI.alloc1 ?_ (by first | omega | (simp; done) | (simp; omega)) _ | with_reducible refine RowI.above1 ?_ (by first | omega | (simp; done) | (simp; omega)) _)) hb9 (by first | omega | (simp; done) | (simp; omega))
             have HB9 : Below w.heap.size w w9 := Below.step (by repeat' (first | with_reducible exact Below.refl _ _ | with_reducible assumption | with_reducible refine Below.setCell ?_ (by first | omega | (simp; done) | (simp; omega)) _ | with_reducible refine Below.alloc ?_ (by first | omega | (simp; done) | (simp; omega)) _ | with_reducible refine below_drewN ?_ _ | with_reducible refine Below.drew ?_ | (with_reducible refine Below.trans ?_ (Below.mono (by with_reducible assumption) (by first | omega | (simp; done) | (simp; omega)))))) hb9 (by first | omega | (simp; done) | (simp; omega))
             have fp9 := gp1.two
             have lp9 := gp1.lt
             first
               | (have r9 : Blk w9 w3.heap.size 25 #[.int .i64 0, .slice none 0 0] := Blk.step (by (repeat' (first | with_reducible refine Blk.drew ?_ | (with_reducible refine Blk.newAt ?_; rfl) | with_reducible refine Blk.alloc ?_ _)); first | done | fail) hb9
                  have f9 := r9.two
                  have l9 := r9.lt)
               | skip))
      all_goals
        go_wp2_with fail
        refine (implMajority_any _ _ _ _ _ _ q1 xs1 xs1 _ ?_ ?_ (by omega) (by omega)).mono ?_
        · exact RowI.ints' (show RowI _ (w.heap.size) (w1.heap.size) (some ⟨g0, 0, none⟩) 1 c1 xs1 by repeat' (first | with_reducible exact o10 | with_reducible exact go1 | with_reducible exact o1 | with_reducible refine RowI.drew1 ?_ | with_reducible refine RowI.alloc1 ?_ (by first | omega | (simp; done) | (simp; omega)) _ | with_reducible refine RowI.above1 ?_ (by first | omega | (simp; done) | (simp; omega)) _)) (by first | omega | (simp; done) | (simp; omega))
        · exact RowI.ints' (show RowI _ (w.heap.size) (w1.heap.size) (some ⟨g0, 0, none⟩) 1 c1 xs1 by repeat' (first | with_reducible exact o10 | with_reducible exact go1 | with_reducible exact o1 | with_reducible refine RowI.drew1 ?_ | with_reducible refine RowI.alloc1 ?_ (by first | omega | (simp; done) | (simp; omega)) _ | with_reducible refine RowI.above1 ?_ (by first | omega | (simp; done) | (simp; omega)) _)) (by first | omega | (simp; done) | (simp; omega))
        rintro e w10 ⟨rfl, hb10⟩
        rw [HA.out]
        have z10 := hb10.size
        try simp at z10
        have p10 := Blk.step (show Blk _ (w1.heap.size) 25 #[.int .i64 q1, .slice (some ⟨g0, 0, none⟩) 1 c1] by repeat' (first | with_reducible exact p10 | with_reducible exact gp1 | with_reducible exact p1 | with_reducible refine Blk.drew ?_ | with_reducible refine Blk.alloc ?_ _ | with_reducible refine Blk.far ?_ (by first | omega | (simp; done) | (simp; omega)) _)) hb10
        have HB10 : Below w.heap.size w w10 := Below.step (by repeat' (first | with_reducible exact Below.refl _ _ | with_reducible assumption | with_reducible refine Below.setCell ?_ (by first | omega | (simp; done) | (simp; omega)) _ | with_reducible refine Below.alloc ?_ (by first | omega | (simp; done) | (simp; omega)) _ | with_reducible refine below_drewN ?_ _ | with_reducible refine Below.drew ?_ | (with_reducible refine Below.trans ?_ (Below.mono (by with_reducible assumption) (by first | omega | (simp; done) | (simp; omega)))))) hb10 (by first | omega | (simp; done) | (simp; omega))
        have o10 := RowI.step (show RowI _ (w.heap.size) (w1.heap.size) (some ⟨g0, 0, none⟩) 1 c1 xs1 by repeat' (first | with_reducible exact o10 | with_reducible exact go1 | with_reducible exact o1 | with_reducible refine RowI.drew1 ?_ | with_reducible refine RowI.alloc1 ?_ (by first | omega | (simp; done) | (simp; omega)) _ | with_reducible refine RowI.above1 ?_ (by first | omega | (simp; done) | (simp; omega)) _)) hb10 (by first | omega | (simp; done) | (simp; omega))
        have fp10 := p10.two
        have lp10 := p10.lt
        go_wp2_with fail
        refine (implMajority_any _ _ _ _ _ _ q1 xs1 [] _ ?_ ?_ (by omega) (by omega)).mono ?_
        · exact RowI.ints' (show RowI _ (w.heap.size) (w1.heap.size) (some ⟨g0, 0, none⟩) 1 c1 xs1 by repeat' (first | with_reducible exact o10 | with_reducible exact go1 | with_reducible exact o1 | with_reducible refine RowI.drew1 ?_ | with_reducible refine RowI.alloc1 ?_ (by first | omega | (simp; done) | (simp; omega)) _ | with_reducible refine RowI.above1 ?_ (by first | omega | (simp; done) | (simp; omega)) _)) (by first | omega | (simp; done) | (simp; omega))
        · exact Ints.none0 _ _ _
        rintro e w11 ⟨rfl, hb11⟩
        rw [HN.out]
        have HB11 : Below w.heap.size w w11 := Below.step (by repeat' (first | with_reducible exact Below.refl _ _ | with_reducible assumption | with_reducible refine Below.setCell ?_ (by first | omega | (simp; done) | (simp; omega)) _ | with_reducible refine Below.alloc ?_ (by first | omega | (simp; done) | (simp; omega)) _ | with_reducible refine below_drewN ?_ _ | with_reducible refine Below.drew ?_ | (with_reducible refine Below.trans ?_ (Below.mono (by with_reducible assumption) (by first | omega | (simp; done) | (simp; omega)))))) hb11 (by first | omega | (simp; done) | (simp; omega))
        go_wp2
        go_ret
        exact ⟨rfl, HB11⟩
    · have h2 : ((n1 / 2 : Nat) : Int) = (n1 : Int) / 2 := by omega
      have hslT := fun w => cutTo_run A1 n1 c1 (n1 / 2) (by omega) cp1 w
      have cutT := (o1.ints (B := w3.heap.size) (by omega)).takeI (k := n1 / 2) (by omega)
      have hd4 : (n1 : Int).tdiv 2 = ((n1 / 2 : Nat) : Int) := by rw [Int.tdiv_eq_ediv_of_nonneg (by omega)]; omega
      have hd3 : (n1 : Int) / 2 = ((n1 / 2 : Nat) : Int) := h2.symm
      have hd5 : 2 * (n1 / 2) ≤ n1 := by omega
      clear h2
      generalize n1 / 2 = kh at *
      have hd2 : IntKind.i64.wrap (kh : Int) = (kh : Int) := IntWalk.i64_in _ (by omega)
      have hk1 : (kh : Int) ≤ (n1 : Int) := by omega
      have hk2 : (kh : Int) ≤ (c1 : Int) := by omega
      have hk3 : kh ≤ c1 := by omega
      have HM := Lib.hid (alone_half q1 xs1 kh (by rw [ln1.out]; exact hd5))
      go_wp2_with fail
      go_region_held3 (fun w' => w'.cell? ⟨w1.heap.size, 0, none⟩ = some (.int .i64 q1) ∧ w'.cell? ⟨w1.heap.size, 1, none⟩ = some (.slice A1 n1 c1))
        (first | exact ⟨fp1.1, fp1.2.1⟩ | exact ⟨gp1.1, gp1.2.1⟩)
        (first
          | (go_at_call 19; (with_reducible refine Calls.mono (implMajority_any A1 n1 c1 A1 kh c1 q1 xs1 (xs1.take kh) _ ?_ ?_ (by omega) (by omega)) ?_)
             · first | exact o1.ints (by omega) | exact o1.intsD (by omega)
             · first | exact cutT | exact (cutT : Ints w3 w3.heap.size A1 kh (xs1.take kh))
             rintro e w9 ⟨rfl, hb9⟩
             rw [HM.out]
             have z9 : w3.heap.size ≤ w9.heap.size := hb9.size
             have st9 : Below w3.heap.size w3 w9 := (by repeat' (first | with_reducible exact Below.refl _ _ | with_reducible refine Below.alloc ?_ (by first | omega | (simp; done) | (simp; omega)) _ | with_reducible refine below_drewN ?_ _ | with_reducible refine Below.drew ?_ | with_reducible refine Below.setCell ?_ (by first | omega | (simp; done) | (simp; omega)) _ | with_reducible refine Below.trans ?_ (Below.mono hb9 (by first | omega | (simp; done) | (simp; omega)))))
             have gp1 := (p1.below st9 lp1).two))
      go_wp2
      go_ret
      exact ⟨rfl, HB3.trans (st9.mono HB3.size)⟩
end Go.Proofs.YtmjacdcefaohcaaDoor
