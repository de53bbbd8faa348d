/-
  The walk of FnExactViewMerge: the law returns true and writes nothing that was there.
-/
import Derived.Test.YtmjacdcefaohcaaDoorVK
import Derived.Test.YtmjacdcefaohcaaDoorE4M
import Derived.Deep.RegionHeld3
namespace Go.Proofs.YtmjacdcefaohcaaDoor
open Go.RowKit
set_option linter.unusedVariables false

theorem And.assoc2 {w : World} {g g' : Nat} {t t' : TypeId} {a b c d : Value} (h : Blk w g t #[a, b]) (h' : Blk w g' t' #[c, d]) : w.cell? ⟨g, 0, none⟩ = some a ∧ w.cell? ⟨g, 1, none⟩ = some b ∧ w.cell? ⟨g', 0, none⟩ = some c ∧ w.cell? ⟨g', 1, none⟩ = some d := ⟨h.two.1, h.two.2.1, h'.two.1, h'.two.2.1⟩
theorem gen_then {K Q : _} {e : Exit} {a : Act} {W' : World} {F : World → Prop} (h : F W') (k : ∀ W, F W → Exit.then K Q e a W) : Exit.then K Q e a W' := k _ h
theorem markView_t8 (A : Option Addr) (n c : Nat) (q : Int) (xs : List Int) (b e : Nat) (k : Int) (w : World) (hr : RowI w b e A n c xs) (h0 : 0 ≤ k) (hk : k ≤ 8388608) (hn : n ≤ 1048576) :
    Calls Tryd.prog 36 #[.agg #[.int .i64 q, .slice A n c], .int .i64 k] w (MarkedI b e A n c k w) := by
  have hX := hr.own.alloc (.cells #[.int .i64 q, .slice A n c] 25)
  go_enter Tryd.func36, Tryd.ntmps36
  go_wp2_with fail
  refine (markIntS_any _ _ _ b xs k _ hX h0 (by omega) (by omega)).mono ?_
  rintro r w1 ⟨rfl, ho1, hg1⟩
  go_wp2
  go_ret
  have hs1 := hg1.size
  simp at hs1
  refine ⟨rfl, ⟨ho1, hr.2⟩, ⟨hg1.os, hg1.tape, hg1.output, by omega, fun i hi hd => ?_⟩⟩
  refine (hg1.block i (by simp; omega) (fun e' => ?_)).trans (Below.heap_alloc _ _ _ hi)
  have := (hr.own.lt e'.symm).1
  have := hr.2 i e'.symm
  omega
theorem split_key {Q T : Prop} (h : Hid T → Q) (t : T) : Q := h (Lib.hid t)
theorem Sent.drew1 {w : World} {a : Addr} (h : Sent w a) : Sent w.drew a := h
theorem RowI.above1 {w : World} {b e n c : Nat} {A : Option Addr} {xs : List Int} (h : RowI w b e A n c xs) {p : Addr} (hp : e ≤ p.block) (u : Value) : RowI (w.setCell p u) b e A n c xs := h.keep (fun k _ hk => Below.heap_setCell w p u k (by omega))
theorem RowI.below1 {w : World} {b e n c : Nat} {A : Option Addr} {xs : List Int} (h : RowI w b e A n c xs) {p : Addr} (hp : p.block < b) (u : Value) : RowI (w.setCell p u) b e A n c xs := h.keep (fun k hk _ => Below.heap_setCell w p u k (by omega))

set_option maxHeartbeats 40000000 in
theorem exViewMerge_walk (q0 : Int) (A0 : Option Addr) (n0 c0 : Nat) (xs0 : List Int) (q1 : Int) (A1 : Option Addr) (n1 c1 : Nat) (xs1 : List Int) (ea : Addr) (w : World) (wf0 : (Lit.int .i64 q0).wf = true) (hn0 : n0 ≤ 9223372036854775807) (hx0 : Ints w w.heap.size A0 n0 xs0) (wf1 : (Lit.int .i64 q1).wf = true) (hn1 : n1 ≤ 9223372036854775807) (hx1 : Ints w w.heap.size A1 n1 xs1) (hsE : Sent w ea) :
    Calls Tryd.prog 15 #[.agg #[.int .i64 q0, .slice A0 n0 c0], .agg #[.int .i64 q1, .slice A1 n1 c1]] w fun e w' => e = .returned (.bool true) ∧ Below w.heap.size w w' := by
  have p0 := Blk.new w 41 #[.int .i64 (q0), .slice A0 n0 c0]
  have p1 := Blk.new (w.alloc (.cells #[.int .i64 (q0), .slice A0 n0 c0] 41)) 41 #[.int .i64 (q1), .slice A1 n1 c1]
  replace p0 := p0.alloc (.cells #[.int .i64 (q1), .slice A1 n1 c1] 41)
  simp only [World.size_alloc] at p0 p1
  by_cases hsz0 : 1048576 < n0
  · go_enter Tryd.func15, Tryd.ntmps15
    go_wp2_with fail
    refine (szView_no _ _ _ _ _ _ (by omega) (by omega) hn0 (by omega)).mono ?_
    rintro e w1 ⟨rfl, hb1⟩
    have hs1 := hb1.size
    try simp at hs1
    go_wp2
    go_ret
    exact ⟨rfl, (by repeat' (first | with_reducible exact Below.refl _ _ | with_reducible assumption | with_reducible refine Below.setCell ?_ (by first | omega | (simp; done) | (simp; omega)) _ | with_reducible refine Below.alloc ?_ (by first | omega | (simp; done) | (simp; omega)) _ | with_reducible refine below_drewN ?_ _ | with_reducible refine Below.drew ?_ | (with_reducible refine Below.trans ?_ (Below.mono (by with_reducible assumption) (by first | omega | (simp; done) | (simp; omega))))))⟩
  by_cases hsz1 : 1048576 < n0 + n1
  · go_enter Tryd.func15, Tryd.ntmps15
    go_wp2_with fail
    refine (szView_yes _ _ _ _ _ _ (by omega) (by omega)).mono ?_
    rintro e w1 ⟨rfl, hb1⟩
    have hs1 := hb1.size
    try simp at hs1
    have np0 := p0.below hb1 (by first | (simp; done) | (simp; omega)); have nf0 := np0.two; have nl0 := np0.lt
    have np1 := p1.below hb1 (by first | (simp; done) | (simp; omega)); have nf1 := np1.two; have nl1 := np1.lt
    go_wp2_with fail
    refine (szView_no _ _ _ _ _ _ (by omega) (by omega) hn1 (by omega)).mono ?_
    rintro e w2 ⟨rfl, hb2⟩
    have hs2 := hb2.size
    try simp at hs2
    go_wp2
    go_ret
    exact ⟨rfl, (by repeat' (first | with_reducible exact Below.refl _ _ | with_reducible assumption | with_reducible refine Below.setCell ?_ (by first | omega | (simp; done) | (simp; omega)) _ | with_reducible refine Below.alloc ?_ (by first | omega | (simp; done) | (simp; omega)) _ | with_reducible refine below_drewN ?_ _ | with_reducible refine Below.drew ?_ | (with_reducible refine Below.trans ?_ (Below.mono (by with_reducible assumption) (by first | omega | (simp; done) | (simp; omega))))))⟩
  have hsz' : n0 + n1 ≤ 1048576 := by omega
  have HL1 : (gX (mergeOk q0 xs0 q1 xs1) (max q0 q1 + 1) (mergeL xs0 xs1)).length ≤ 1048576 := by have := gX_len (mergeOk q0 xs0 q1 xs1) (max q0 q1 + 1) (mergeL xs0 xs1); omega
  have hne : (gB (mergeOk q0 xs0 q1 xs1) (max q0 q1 + 1) (mergeL xs0 xs1) != gB (mergeOk q0 xs0 q1 xs1) (max q0 q1 + 1) (mergeL xs0 xs1)) = false := by simp
  go_enter Tryd.func15, Tryd.ntmps15
  go_wp2_with fail
  refine (szView_yes _ _ _ _ _ _ (by omega) (by omega)).mono ?_
  rintro e w1 ⟨rfl, hb1⟩
  have z1 : w.heap.size + 1 + 1 ≤ w1.heap.size := by have := hb1.size; simpa using this
  have HB1 : Below w.heap.size w w1 := (by repeat' (first | with_reducible exact Below.refl _ _ | with_reducible refine Below.alloc ?_ (by first | omega | (simp; done) | (simp; omega)) _ | with_reducible refine below_drewN ?_ _ | with_reducible refine Below.drew ?_ | with_reducible refine Below.setCell ?_ (by first | omega | (simp; done) | (simp; omega)) _ | with_reducible refine Below.trans ?_ (Below.mono hb1 (by first | omega | (simp; done) | (simp; omega)))))
  replace p0 := p0.below hb1 (by first | (simp; done) | (simp; omega))
  replace p1 := p1.below hb1 (by first | (simp; done) | (simp; omega))
  have fp0 := p0.two; have lp0 := p0.lt
  have fp1 := p1.two; have lp1 := p1.lt
  go_wp2_with fail
  refine (szView_yes _ _ _ _ _ _ (by omega) (by omega)).mono ?_
  rintro e w2 ⟨rfl, hb2⟩
  have z2 : w1.heap.size ≤ w2.heap.size := by have := hb2.size; simpa using this
  have HB2 : Below w.heap.size w w2 := HB1.trans (hb2.mono HB1.size)
  replace p0 := p0.below hb2 p0.lt
  replace p1 := p1.below hb2 p1.lt
  clear HB1 hb2 fp0 lp0 fp1 lp1
  have fp0 := p0.two; have lp0 := p0.lt
  have fp1 := p1.two; have lp1 := p1.lt
  go_wp2_with fail
  clear fp0 lp0 fp1 lp1
  obtain ⟨lo, hlo⟩ : ∃ lo, lo = w2.heap.size := ⟨_, rfl⟩
  apply split_key
  case h =>
    intro key
    go_region_held3 (fun w' => w'.cell? ⟨w.heap.size, 0, none⟩ = some (.int .i64 (q0)) ∧ w'.cell? ⟨w.heap.size, 1, none⟩ = some (.slice A0 n0 c0) ∧ w'.cell? ⟨w.heap.size + 1, 0, none⟩ = some (.int .i64 (q1)) ∧ w'.cell? ⟨w.heap.size + 1, 1, none⟩ = some (.slice A1 n1 c1))
      (exact And.assoc2 (t := 41) (t' := 41) (show Blk _ (w.heap.size) 41 #[.int .i64 (q0), .slice A0 n0 c0] by (repeat' (first | with_reducible exact c3p0 | with_reducible exact c2p0 | with_reducible exact c1p0 | with_reducible exact p0 | with_reducible refine Blk.drew ?_ | with_reducible refine Blk.alloc ?_ _ | with_reducible refine Blk.far ?_ (by first | omega | (simp; done) | (simp; omega)) _)); first | done | fail) (show Blk _ (w.heap.size + 1) 41 #[.int .i64 (q1), .slice A1 n1 c1] by (repeat' (first | with_reducible exact c3p1 | with_reducible exact c2p1 | with_reducible exact c1p1 | with_reducible exact p1 | with_reducible refine Blk.drew ?_ | with_reducible refine Blk.alloc ?_ _ | with_reducible refine Blk.far ?_ (by first | omega | (simp; done) | (simp; omega)) _)); first | done | fail))
      (first
        | (go_at_call_of 34 A0; with_reducible refine Calls.mono (toView_any A0 n0 c0 q0 xs0 _ ?_ (by omega)) ?_
           · exact Ints.up hx0 (by repeat' (first | with_reducible exact Below.refl _ _ | with_reducible assumption | with_reducible refine Below.setCell ?_ (by first | omega | (simp; done) | (simp; omega)) _ | with_reducible refine Below.alloc ?_ (by first | omega | (simp; done) | (simp; omega)) _ | with_reducible refine below_drewN ?_ _ | with_reducible refine Below.drew ?_ | (with_reducible refine Below.trans ?_ (Below.mono (by with_reducible assumption) (by first | omega | (simp; done) | (simp; omega)))))) (by first | omega | (simp; done) | (simp; omega))
           rintro e w3 ⟨Awu0, nwu0, cwu0, rfl, owu0, hb3⟩
           have z3 := hb3.size
           try simp at z3
           have HBc1 : Below w.heap.size w w3 := Below.step (by repeat' (first | with_reducible exact Below.refl _ _ | with_reducible assumption | with_reducible refine Below.setCell ?_ (by first | omega | (simp; done) | (simp; omega)) _ | with_reducible refine Below.alloc ?_ (by first | omega | (simp; done) | (simp; omega)) _ | with_reducible refine below_drewN ?_ _ | with_reducible refine Below.drew ?_ | (with_reducible refine Below.trans ?_ (Below.mono (by with_reducible assumption) (by first | omega | (simp; done) | (simp; omega)))))) hb3 (by first | omega | (simp; done) | (simp; omega))
           have c1p0 := Blk.step (show Blk _ (w.heap.size) 41 #[.int .i64 (q0), .slice A0 n0 c0] by (repeat' (first | with_reducible exact p0 | with_reducible refine Blk.drew ?_ | with_reducible refine Blk.alloc ?_ _ | with_reducible refine Blk.far ?_ (by first | omega | (simp; done) | (simp; omega)) _)); first | done | fail) hb3
           have c1p1 := Blk.step (show Blk _ (w.heap.size + 1) 41 #[.int .i64 (q1), .slice A1 n1 c1] by (repeat' (first | with_reducible exact p1 | with_reducible refine Blk.drew ?_ | with_reducible refine Blk.alloc ?_ _ | with_reducible refine Blk.far ?_ (by first | omega | (simp; done) | (simp; omega)) _)); first | done | fail) hb3
           have owu01 := (rowI owu0).mono (b' := w2.heap.size) (by first | omega | (simp; done) | (simp; omega)) (Nat.le_refl _)
           first | (have r1 : Blk w3 w2.heap.size 25 #[.int .i64 0, .slice none 0 0] := Blk.step (by (repeat' (first | with_reducible refine Blk.drew ?_ | (with_reducible refine Blk.newAt ?_; rfl) | with_reducible refine Blk.alloc ?_ _)); first | done | fail) hb3; have fr := r1.two; have lr := r1.lt) | skip)
        | (go_at_call_of 34 A1; with_reducible refine Calls.mono (toView_any A1 n1 c1 q1 xs1 _ ?_ (by omega)) ?_
           · exact Ints.up hx1 (by repeat' (first | with_reducible exact Below.refl _ _ | with_reducible assumption | with_reducible refine Below.setCell ?_ (by first | omega | (simp; done) | (simp; omega)) _ | with_reducible refine Below.alloc ?_ (by first | omega | (simp; done) | (simp; omega)) _ | with_reducible refine below_drewN ?_ _ | with_reducible refine Below.drew ?_ | (with_reducible refine Below.trans ?_ (Below.mono (by with_reducible assumption) (by first | omega | (simp; done) | (simp; omega)))))) (by first | omega | (simp; done) | (simp; omega))
           rintro e w4 ⟨Awu1, nwu1, cwu1, rfl, owu1, hb4⟩
           have z4 := hb4.size
           try simp at z4
           have HBc2 : Below w.heap.size w w4 := Below.step (by repeat' (first | with_reducible exact Below.refl _ _ | with_reducible assumption | with_reducible refine Below.setCell ?_ (by first | omega | (simp; done) | (simp; omega)) _ | with_reducible refine Below.alloc ?_ (by first | omega | (simp; done) | (simp; omega)) _ | with_reducible refine below_drewN ?_ _ | with_reducible refine Below.drew ?_ | (with_reducible refine Below.trans ?_ (Below.mono (by with_reducible assumption) (by first | omega | (simp; done) | (simp; omega)))))) hb4 (by first | omega | (simp; done) | (simp; omega))
           have c2p0 := Blk.step (show Blk _ (w.heap.size) 41 #[.int .i64 (q0), .slice A0 n0 c0] by (repeat' (first | with_reducible exact c1p0 | with_reducible exact p0 | with_reducible refine Blk.drew ?_ | with_reducible refine Blk.alloc ?_ _ | with_reducible refine Blk.far ?_ (by first | omega | (simp; done) | (simp; omega)) _)); first | done | fail) hb4
           have c2p1 := Blk.step (show Blk _ (w.heap.size + 1) 41 #[.int .i64 (q1), .slice A1 n1 c1] by (repeat' (first | with_reducible exact c1p1 | with_reducible exact p1 | with_reducible refine Blk.drew ?_ | with_reducible refine Blk.alloc ?_ _ | with_reducible refine Blk.far ?_ (by first | omega | (simp; done) | (simp; omega)) _)); first | done | fail) hb4
           have owu02 := RowI.step (show RowI _ w2.heap.size w3.heap.size Awu0 nwu0 cwu0 (xs0) by (repeat' (first | with_reducible exact owu01 | with_reducible refine RowI.drew1 ?_ | with_reducible refine RowI.alloc1 ?_ (by first | omega | (simp; done) | (simp; omega)) _ | with_reducible refine RowI.above1 ?_ (by first | omega | (simp; done) | (simp; omega)) _)); first | done | fail) hb4 (by first | omega | (simp; done) | (simp; omega))
           have owu12 := (rowI owu1).mono (b' := w3.heap.size) (by first | omega | (simp; done) | (simp; omega)) (Nat.le_refl _)
           first | (have r2 : Blk w4 w2.heap.size 25 #[.int .i64 0, .slice none 0 0] := Blk.step (by (repeat' (first | with_reducible exact r1 | with_reducible refine Blk.drew ?_ | (with_reducible refine Blk.newAt ?_; rfl) | with_reducible refine Blk.alloc ?_ _)); first | done | fail) hb4; have fr := r2.two; have lr := r2.lt) | (have r2 : Blk w4 w3.heap.size 25 #[.int .i64 0, .slice none 0 0] := Blk.step (by (repeat' (first | with_reducible exact r1 | with_reducible refine Blk.drew ?_ | (with_reducible refine Blk.newAt ?_; rfl) | with_reducible refine Blk.alloc ?_ _)); first | done | fail) hb4; have fr := r2.two; have lr := r2.lt) | skip)
        | (go_at_call 39
           with_reducible refine Calls.mono (specMerge_any Awu0 nwu0 cwu0 Awu1 nwu1 cwu1 q0 xs0 q1 xs1 _ ?_ ?_ ?_ ?_) ?_
           · exact RowI.ints' (show RowI _ w2.heap.size w3.heap.size Awu0 nwu0 cwu0 (xs0) by (repeat' (first | with_reducible exact owu02 | with_reducible refine RowI.drew1 ?_ | with_reducible refine RowI.alloc1 ?_ (by first | omega | (simp; done) | (simp; omega)) _ | with_reducible refine RowI.above1 ?_ (by first | omega | (simp; done) | (simp; omega)) _)); first | done | fail) (by first | omega | (simp; done) | (simp; omega))
           · exact RowI.ints' (show RowI _ w3.heap.size w4.heap.size Awu1 nwu1 cwu1 (xs1) by (repeat' (first | with_reducible exact owu12 | with_reducible refine RowI.drew1 ?_ | with_reducible refine RowI.alloc1 ?_ (by first | omega | (simp; done) | (simp; omega)) _ | with_reducible refine RowI.above1 ?_ (by first | omega | (simp; done) | (simp; omega)) _)); first | done | fail) (by first | omega | (simp; done) | (simp; omega))
           · have := (owu02).len; have := (hx0).len; omega
           · have := (owu12).len; have := (hx1).len; omega
           rintro e w5 ⟨Aw0, nw0, cw0, rfl, ow0, hb5⟩
           have z5 := hb5.size
           try simp at z5
           have HBc3 : Below w.heap.size w w5 := Below.step (by repeat' (first | with_reducible exact Below.refl _ _ | with_reducible assumption | with_reducible refine Below.setCell ?_ (by first | omega | (simp; done) | (simp; omega)) _ | with_reducible refine Below.alloc ?_ (by first | omega | (simp; done) | (simp; omega)) _ | with_reducible refine below_drewN ?_ _ | with_reducible refine Below.drew ?_ | (with_reducible refine Below.trans ?_ (Below.mono (by with_reducible assumption) (by first | omega | (simp; done) | (simp; omega)))))) hb5 (by first | omega | (simp; done) | (simp; omega))
           have c3p0 := Blk.step (show Blk _ (w.heap.size) 41 #[.int .i64 (q0), .slice A0 n0 c0] by (repeat' (first | with_reducible exact c2p0 | with_reducible exact c1p0 | with_reducible exact p0 | with_reducible refine Blk.drew ?_ | with_reducible refine Blk.alloc ?_ _ | with_reducible refine Blk.far ?_ (by first | omega | (simp; done) | (simp; omega)) _)); first | done | fail) hb5
           have c3p1 := Blk.step (show Blk _ (w.heap.size + 1) 41 #[.int .i64 (q1), .slice A1 n1 c1] by (repeat' (first | with_reducible exact c2p1 | with_reducible exact c1p1 | with_reducible exact p1 | with_reducible refine Blk.drew ?_ | with_reducible refine Blk.alloc ?_ _ | with_reducible refine Blk.far ?_ (by first | omega | (simp; done) | (simp; omega)) _)); first | done | fail) hb5
           first | have ow03 := (rowI ow0).mono (b' := w4.heap.size + 1) (by first | omega | (simp; done) | (simp; omega)) (Nat.le_refl _) | have ow03 := (rowI ow0).mono (b' := w4.heap.size) (by first | omega | (simp; done) | (simp; omega)) (Nat.le_refl _)
           first | (have r3 : Blk w5 w2.heap.size 25 #[.int .i64 0, .slice none 0 0] := Blk.step (by (repeat' (first | with_reducible exact r2 | with_reducible exact r1 | with_reducible refine Blk.drew ?_ | (with_reducible refine Blk.newAt ?_; rfl) | with_reducible refine Blk.alloc ?_ _)); first | done | fail) hb5; have fr := r3.two; have lr := r3.lt) | (have r3 : Blk w5 w3.heap.size 25 #[.int .i64 0, .slice none 0 0] := Blk.step (by (repeat' (first | with_reducible exact r2 | with_reducible exact r1 | with_reducible refine Blk.drew ?_ | (with_reducible refine Blk.newAt ?_; rfl) | with_reducible refine Blk.alloc ?_ _)); first | done | fail) hb5; have fr := r3.two; have lr := r3.lt) | (have r3 : Blk w5 w4.heap.size 25 #[.int .i64 0, .slice none 0 0] := Blk.step (by (repeat' (first | with_reducible exact r2 | with_reducible exact r1 | with_reducible refine Blk.drew ?_ | (with_reducible refine Blk.newAt ?_; rfl) | with_reducible refine Blk.alloc ?_ _)); first | done | fail) hb5; have fr := r3.two; have lr := r3.lt) | skip))
    all_goals
      first
        | (refine gen_then (F := fun W => Below w.heap.size w W ∧ Blk W (w.heap.size) 41 #[.int .i64 (q0), .slice A0 n0 c0] ∧ Blk W (w.heap.size + 1) 41 #[.int .i64 (q1), .slice A1 n1 c1] ∧ Blk W (w5.heap.size) 25 #[.int .i64 (gQ (mergeOk q0 xs0 q1 xs1) (max q0 q1 + 1) (mergeL xs0 xs1)), .slice Aw0 nw0 cw0] ∧ RowI W (lo) W.heap.size Aw0 nw0 cw0 (gX (mergeOk q0 xs0 q1 xs1) (max q0 q1 + 1) (mergeL xs0 xs1)) ∧ lo ≤ w5.heap.size ∧ lo ≤ W.heap.size) ⟨(by repeat' (first | with_reducible exact Below.refl _ _ | with_reducible assumption | with_reducible refine Below.setCell ?_ (by first | omega | (simp; done) | (simp; omega)) _ | with_reducible refine Below.alloc ?_ (by first | omega | (simp; done) | (simp; omega)) _ | with_reducible refine below_drewN ?_ _ | with_reducible refine Below.drew ?_ | (with_reducible refine Below.trans ?_ (Below.mono (by with_reducible assumption) (by first | omega | (simp; done) | (simp; omega)))))), (show Blk _ (w.heap.size) 41 #[.int .i64 (q0), .slice A0 n0 c0] by (repeat' (first | with_reducible exact c3p0 | with_reducible exact c2p0 | with_reducible exact c1p0 | with_reducible refine Blk.drew ?_ | with_reducible refine Blk.alloc ?_ _ | with_reducible refine Blk.far ?_ (by first | omega | (simp; done) | (simp; omega)) _)); first | done | fail), (show Blk _ (w.heap.size + 1) 41 #[.int .i64 (q1), .slice A1 n1 c1] by (repeat' (first | with_reducible exact c3p1 | with_reducible exact c2p1 | with_reducible exact c1p1 | with_reducible refine Blk.drew ?_ | with_reducible refine Blk.alloc ?_ _ | with_reducible refine Blk.far ?_ (by first | omega | (simp; done) | (simp; omega)) _)); first | done | fail), (by (repeat' (first | with_reducible refine Blk.drew ?_ | (with_reducible refine Blk.newAt ?_; rfl))); first | done | fail), (by first | exact RowI.mono (b' := lo) (show RowI _ (w4.heap.size + 1) (w5.heap.size) Aw0 nw0 cw0 (gX (mergeOk q0 xs0 q1 xs1) (max q0 q1 + 1) (mergeL xs0 xs1)) by (repeat' (first | with_reducible exact ow03 | with_reducible refine RowI.drew1 ?_ | with_reducible refine RowI.alloc1 ?_ (by first | omega | (simp; done) | (simp; omega)) _ | with_reducible refine RowI.below1 ?_ (by first | omega | (simp; done) | (simp; omega)) _)); first | done | fail) (by first | omega | (simp; done) | (simp; omega)) (by first | omega | (simp; done) | (simp; omega)) | exact RowI.mono (b' := lo) (show RowI _ (w4.heap.size) (w5.heap.size) Aw0 nw0 cw0 (gX (mergeOk q0 xs0 q1 xs1) (max q0 q1 + 1) (mergeL xs0 xs1)) by (repeat' (first | with_reducible exact ow03 | with_reducible refine RowI.drew1 ?_ | with_reducible refine RowI.alloc1 ?_ (by first | omega | (simp; done) | (simp; omega)) _ | with_reducible refine RowI.below1 ?_ (by first | omega | (simp; done) | (simp; omega)) _)); first | done | fail) (by first | omega | (simp; done) | (simp; omega)) (by first | omega | (simp; done) | (simp; omega))), (by first | omega | (simp; done) | (simp; omega)), (by first | omega | (simp; done) | (simp; omega))⟩ ?_
           intro w6 HH
           generalize w5.heap.size = gw0 at HH ⊢)
        | (refine gen_then (F := fun W => Below w.heap.size w W ∧ Blk W (w.heap.size) 41 #[.int .i64 (q0), .slice A0 n0 c0] ∧ Blk W (w.heap.size + 1) 41 #[.int .i64 (q1), .slice A1 n1 c1] ∧ Blk W (w2.heap.size) 25 #[.int .i64 (gQ (mergeOk q0 xs0 q1 xs1) (max q0 q1 + 1) (mergeL xs0 xs1)), .slice Aw0 nw0 cw0] ∧ RowI W (lo) W.heap.size Aw0 nw0 cw0 (gX (mergeOk q0 xs0 q1 xs1) (max q0 q1 + 1) (mergeL xs0 xs1)) ∧ lo ≤ w2.heap.size ∧ lo ≤ W.heap.size) ⟨(by repeat' (first | with_reducible exact Below.refl _ _ | with_reducible assumption | with_reducible refine Below.setCell ?_ (by first | omega | (simp; done) | (simp; omega)) _ | with_reducible refine Below.alloc ?_ (by first | omega | (simp; done) | (simp; omega)) _ | with_reducible refine below_drewN ?_ _ | with_reducible refine Below.drew ?_ | (with_reducible refine Below.trans ?_ (Below.mono (by with_reducible assumption) (by first | omega | (simp; done) | (simp; omega)))))), (show Blk _ (w.heap.size) 41 #[.int .i64 (q0), .slice A0 n0 c0] by (repeat' (first | with_reducible exact c3p0 | with_reducible exact c2p0 | with_reducible exact c1p0 | with_reducible refine Blk.drew ?_ | with_reducible refine Blk.alloc ?_ _ | with_reducible refine Blk.far ?_ (by first | omega | (simp; done) | (simp; omega)) _)); first | done | fail), (show Blk _ (w.heap.size + 1) 41 #[.int .i64 (q1), .slice A1 n1 c1] by (repeat' (first | with_reducible exact c3p1 | with_reducible exact c2p1 | with_reducible exact c1p1 | with_reducible refine Blk.drew ?_ | with_reducible refine Blk.alloc ?_ _ | with_reducible refine Blk.far ?_ (by first | omega | (simp; done) | (simp; omega)) _)); first | done | fail), (by (repeat' (first | with_reducible refine Blk.drew ?_ | exact ((r3.set_ 0 _).set_ 1 _))); first | done | fail), (by first | exact RowI.mono (b' := lo) (show RowI _ (w4.heap.size + 1) (w5.heap.size) Aw0 nw0 cw0 (gX (mergeOk q0 xs0 q1 xs1) (max q0 q1 + 1) (mergeL xs0 xs1)) by (repeat' (first | with_reducible exact ow03 | with_reducible refine RowI.drew1 ?_ | with_reducible refine RowI.alloc1 ?_ (by first | omega | (simp; done) | (simp; omega)) _ | with_reducible refine RowI.below1 ?_ (by first | omega | (simp; done) | (simp; omega)) _)); first | done | fail) (by first | omega | (simp; done) | (simp; omega)) (by first | omega | (simp; done) | (simp; omega)) | exact RowI.mono (b' := lo) (show RowI _ (w4.heap.size) (w5.heap.size) Aw0 nw0 cw0 (gX (mergeOk q0 xs0 q1 xs1) (max q0 q1 + 1) (mergeL xs0 xs1)) by (repeat' (first | with_reducible exact ow03 | with_reducible refine RowI.drew1 ?_ | with_reducible refine RowI.alloc1 ?_ (by first | omega | (simp; done) | (simp; omega)) _ | with_reducible refine RowI.below1 ?_ (by first | omega | (simp; done) | (simp; omega)) _)); first | done | fail) (by first | omega | (simp; done) | (simp; omega)) (by first | omega | (simp; done) | (simp; omega))), (by first | omega | (simp; done) | (simp; omega)), (by first | omega | (simp; done) | (simp; omega))⟩ ?_
           intro w6 HH
           generalize w2.heap.size = gw0 at HH ⊢)
        | (refine gen_then (F := fun W => Below w.heap.size w W ∧ Blk W (w.heap.size) 41 #[.int .i64 (q0), .slice A0 n0 c0] ∧ Blk W (w.heap.size + 1) 41 #[.int .i64 (q1), .slice A1 n1 c1] ∧ Blk W (w3.heap.size) 25 #[.int .i64 (gQ (mergeOk q0 xs0 q1 xs1) (max q0 q1 + 1) (mergeL xs0 xs1)), .slice Aw0 nw0 cw0] ∧ RowI W (lo) W.heap.size Aw0 nw0 cw0 (gX (mergeOk q0 xs0 q1 xs1) (max q0 q1 + 1) (mergeL xs0 xs1)) ∧ lo ≤ w3.heap.size ∧ lo ≤ W.heap.size) ⟨(by repeat' (first | with_reducible exact Below.refl _ _ | with_reducible assumption | with_reducible refine Below.setCell ?_ (by first | omega | (simp; done) | (simp; omega)) _ | with_reducible refine Below.alloc ?_ (by first | omega | (simp; done) | (simp; omega)) _ | with_reducible refine below_drewN ?_ _ | with_reducible refine Below.drew ?_ | (with_reducible refine Below.trans ?_ (Below.mono (by with_reducible assumption) (by first | omega | (simp; done) | (simp; omega)))))), (show Blk _ (w.heap.size) 41 #[.int .i64 (q0), .slice A0 n0 c0] by (repeat' (first | with_reducible exact c3p0 | with_reducible exact c2p0 | with_reducible exact c1p0 | with_reducible refine Blk.drew ?_ | with_reducible refine Blk.alloc ?_ _ | with_reducible refine Blk.far ?_ (by first | omega | (simp; done) | (simp; omega)) _)); first | done | fail), (show Blk _ (w.heap.size + 1) 41 #[.int .i64 (q1), .slice A1 n1 c1] by (repeat' (first | with_reducible exact c3p1 | with_reducible exact c2p1 | with_reducible exact c1p1 | with_reducible refine Blk.drew ?_ | with_reducible refine Blk.alloc ?_ _ | with_reducible refine Blk.far ?_ (by first | omega | (simp; done) | (simp; omega)) _)); first | done | fail), (by (repeat' (first | with_reducible refine Blk.drew ?_ | exact ((r3.set_ 0 _).set_ 1 _))); first | done | fail), (by first | exact RowI.mono (b' := lo) (show RowI _ (w4.heap.size + 1) (w5.heap.size) Aw0 nw0 cw0 (gX (mergeOk q0 xs0 q1 xs1) (max q0 q1 + 1) (mergeL xs0 xs1)) by (repeat' (first | with_reducible exact ow03 | with_reducible refine RowI.drew1 ?_ | with_reducible refine RowI.alloc1 ?_ (by first | omega | (simp; done) | (simp; omega)) _ | with_reducible refine RowI.below1 ?_ (by first | omega | (simp; done) | (simp; omega)) _)); first | done | fail) (by first | omega | (simp; done) | (simp; omega)) (by first | omega | (simp; done) | (simp; omega)) | exact RowI.mono (b' := lo) (show RowI _ (w4.heap.size) (w5.heap.size) Aw0 nw0 cw0 (gX (mergeOk q0 xs0 q1 xs1) (max q0 q1 + 1) (mergeL xs0 xs1)) by (repeat' (first | with_reducible exact ow03 | with_reducible refine RowI.drew1 ?_ | with_reducible refine RowI.alloc1 ?_ (by first | omega | (simp; done) | (simp; omega)) _ | with_reducible refine RowI.below1 ?_ (by first | omega | (simp; done) | (simp; omega)) _)); first | done | fail) (by first | omega | (simp; done) | (simp; omega)) (by first | omega | (simp; done) | (simp; omega))), (by first | omega | (simp; done) | (simp; omega)), (by first | omega | (simp; done) | (simp; omega))⟩ ?_
           intro w6 HH
           generalize w3.heap.size = gw0 at HH ⊢)
        | (refine gen_then (F := fun W => Below w.heap.size w W ∧ Blk W (w.heap.size) 41 #[.int .i64 (q0), .slice A0 n0 c0] ∧ Blk W (w.heap.size + 1) 41 #[.int .i64 (q1), .slice A1 n1 c1] ∧ Blk W (w4.heap.size) 25 #[.int .i64 (gQ (mergeOk q0 xs0 q1 xs1) (max q0 q1 + 1) (mergeL xs0 xs1)), .slice Aw0 nw0 cw0] ∧ RowI W (lo) W.heap.size Aw0 nw0 cw0 (gX (mergeOk q0 xs0 q1 xs1) (max q0 q1 + 1) (mergeL xs0 xs1)) ∧ lo ≤ w4.heap.size ∧ lo ≤ W.heap.size) ⟨(by repeat' (first | with_reducible exact Below.refl _ _ | with_reducible assumption | with_reducible refine Below.setCell ?_ (by first | omega | (simp; done) | (simp; omega)) _ | with_reducible refine Below.alloc ?_ (by first | omega | (simp; done) | (simp; omega)) _ | with_reducible refine below_drewN ?_ _ | with_reducible refine Below.drew ?_ | (with_reducible refine Below.trans ?_ (Below.mono (by with_reducible assumption) (by first | omega | (simp; done) | (simp; omega)))))), (show Blk _ (w.heap.size) 41 #[.int .i64 (q0), .slice A0 n0 c0] by (repeat' (first | with_reducible exact c3p0 | with_reducible exact c2p0 | with_reducible exact c1p0 | with_reducible refine Blk.drew ?_ | with_reducible refine Blk.alloc ?_ _ | with_reducible refine Blk.far ?_ (by first | omega | (simp; done) | (simp; omega)) _)); first | done | fail), (show Blk _ (w.heap.size + 1) 41 #[.int .i64 (q1), .slice A1 n1 c1] by (repeat' (first | with_reducible exact c3p1 | with_reducible exact c2p1 | with_reducible exact c1p1 | with_reducible refine Blk.drew ?_ | with_reducible refine Blk.alloc ?_ _ | with_reducible refine Blk.far ?_ (by first | omega | (simp; done) | (simp; omega)) _)); first | done | fail), (by (repeat' (first | with_reducible refine Blk.drew ?_ | exact ((r3.set_ 0 _).set_ 1 _))); first | done | fail), (by first | exact RowI.mono (b' := lo) (show RowI _ (w4.heap.size + 1) (w5.heap.size) Aw0 nw0 cw0 (gX (mergeOk q0 xs0 q1 xs1) (max q0 q1 + 1) (mergeL xs0 xs1)) by (repeat' (first | with_reducible exact ow03 | with_reducible refine RowI.drew1 ?_ | with_reducible refine RowI.alloc1 ?_ (by first | omega | (simp; done) | (simp; omega)) _ | with_reducible refine RowI.below1 ?_ (by first | omega | (simp; done) | (simp; omega)) _)); first | done | fail) (by first | omega | (simp; done) | (simp; omega)) (by first | omega | (simp; done) | (simp; omega)) | exact RowI.mono (b' := lo) (show RowI _ (w4.heap.size) (w5.heap.size) Aw0 nw0 cw0 (gX (mergeOk q0 xs0 q1 xs1) (max q0 q1 + 1) (mergeL xs0 xs1)) by (repeat' (first | with_reducible exact ow03 | with_reducible refine RowI.drew1 ?_ | with_reducible refine RowI.alloc1 ?_ (by first | omega | (simp; done) | (simp; omega)) _ | with_reducible refine RowI.below1 ?_ (by first | omega | (simp; done) | (simp; omega)) _)); first | done | fail) (by first | omega | (simp; done) | (simp; omega)) (by first | omega | (simp; done) | (simp; omega))), (by first | omega | (simp; done) | (simp; omega)), (by first | omega | (simp; done) | (simp; omega))⟩ ?_
           intro w6 HH
           generalize w4.heap.size = gw0 at HH ⊢)
      generalize Awu0 = Awu0' at HH ⊢
      generalize nwu0 = nwu0' at HH ⊢
      generalize cwu0 = cwu0' at HH ⊢
      generalize Awu1 = Awu1' at HH ⊢
      generalize nwu1 = nwu1' at HH ⊢
      generalize cwu1 = cwu1' at HH ⊢
      generalize Aw0 = Aw0' at HH ⊢
      generalize nw0 = nw0' at HH ⊢
      generalize cw0 = cw0' at HH ⊢
      revert HH
      revert w6 gw0 Awu0' nwu0' cwu0' Awu1' nwu1' cwu1' Aw0' nw0' cw0'
      exact key.out
  case t =>
    intro w6 gw0 Awu0 nwu0 cwu0 Awu1 nwu1 cwu1 Aw0 nw0 cw0 ⟨HB6, p0, p1, pw0, ow0, eb1, eb2⟩
    have lgw := pw0.lt
    have fp0 := p0.two; have lp0 := p0.lt
    have fp1 := p1.two; have lp1 := p1.lt
    have fpw0 := pw0.two; have lpw0 := pw0.lt
    go_wp2_with fail
    refine (toView_any _ _ _ q0 xs0 _ (hx0.up HB6 HB6.size) (by omega)).mono ?_
    rintro e w7 ⟨Ax0, nx0, cx0, rfl, ox0, hb7⟩
    clear fp0 lp0 fp1 lp1 fpw0 lpw0
    have z7 : w6.heap.size ≤ w7.heap.size := by have := hb7.size; simpa using this
    have st7 : Below w6.heap.size w6 w7 := (by repeat' (first | with_reducible exact Below.refl _ _ | with_reducible refine Below.alloc ?_ (by first | omega | (simp; done) | (simp; omega)) _ | with_reducible refine below_drewN ?_ _ | with_reducible refine Below.drew ?_ | with_reducible refine Below.setCell ?_ (by first | omega | (simp; done) | (simp; omega)) _ | with_reducible refine Below.trans ?_ (Below.mono hb7 (by first | omega | (simp; done) | (simp; omega)))))
    have HB7 : Below w.heap.size w w7 := HB6.trans (st7.mono HB6.size)
    replace p0 := p0.below st7 p0.lt
    replace p1 := p1.below st7 p1.lt
    replace pw0 := pw0.below st7 pw0.lt
    replace ow0 := ow0.keep (same_of_below st7 (by omega))
    clear HB6
    clear st7
    have fp0 := p0.two; have lp0 := p0.lt
    have fp1 := p1.two; have lp1 := p1.lt
    have fpw0 := pw0.two; have lpw0 := pw0.lt
    replace ox0 := (rowI ox0).mono (b' := w6.heap.size) (by first | omega | (simp; done) | (simp; omega)) (Nat.le_refl _)
    have qnx0 : nx0 ≤ 1048576 := (by have := (ox0).len; have := (hx0).len; omega)
    go_wp2_with fail
    refine (toView_any _ _ _ q1 xs1 _ ((hx1.up HB7 HB7.size).box _) (by omega)).mono ?_
    rintro e w8 ⟨Ax1, nx1, cx1, rfl, ox1, hb8⟩
    clear fp0 lp0 fp1 lp1 fpw0 lpw0
    have z8 : w7.heap.size + 1 ≤ w8.heap.size := by have := hb8.size; simpa using this
    have st8 : Below w7.heap.size w7 w8 := (by repeat' (first | with_reducible exact Below.refl _ _ | with_reducible refine Below.alloc ?_ (by first | omega | (simp; done) | (simp; omega)) _ | with_reducible refine below_drewN ?_ _ | with_reducible refine Below.drew ?_ | with_reducible refine Below.setCell ?_ (by first | omega | (simp; done) | (simp; omega)) _ | with_reducible refine Below.trans ?_ (Below.mono hb8 (by first | omega | (simp; done) | (simp; omega)))))
    have HB8 : Below w.heap.size w w8 := HB7.trans (st8.mono HB7.size)
    replace p0 := p0.below st8 p0.lt
    replace p1 := p1.below st8 p1.lt
    replace pw0 := pw0.below st8 pw0.lt
    have px0 : Blk w8 (w7.heap.size) 25 #[.int .i64 (q0), .slice Ax0 nx0 cx0] := by simpa using (Blk.new w7 25 #[.int .i64 (q0), .slice Ax0 nx0 cx0]).below hb8 (by first | (simp; done) | (simp; omega))
    replace ow0 := ow0.keep (same_of_below st8 (by omega))
    replace ox0 := ox0.keep (same_of_below st8 (by omega))
    clear HB7
    clear st8
    have fp0 := p0.two; have lp0 := p0.lt
    have fp1 := p1.two; have lp1 := p1.lt
    have fpw0 := pw0.two; have lpw0 := pw0.lt
    have fpx0 := px0.two; have lpx0 := px0.lt
    replace ox1 := (rowI ox1).mono (b' := w7.heap.size + 1) (by first | omega | (simp; done) | (simp; omega)) (Nat.le_refl _)
    have qnx1 : nx1 ≤ 1048576 := (by have := (ox1).len; have := (hx1).len; omega)
    go_wp2_with fail
    refine (implMerge_any _ _ _ _ _ _ q0 xs0 q1 xs1 ea _ ((hsE.below HB8 hsE.lt).alloc _) ((ox0.ints (B := w8.heap.size) (by omega)).box _) ((ox1.ints (B := w8.heap.size) (by omega)).box _) (by have := (ox0).len; have := (hx0).len; omega) (by have := (ox1).len; have := (hx1).len; omega)).mono ?_
    rintro e w9 ⟨Ag0, ng0, cg0, rfl, og0, hb9⟩
    clear fp0 lp0 fp1 lp1 fpw0 lpw0 fpx0 lpx0
    have z9 : w8.heap.size + 1 ≤ w9.heap.size := by have := hb9.size; simpa using this
    have st9 : Below w8.heap.size w8 w9 := (by repeat' (first | with_reducible exact Below.refl _ _ | with_reducible refine Below.alloc ?_ (by first | omega | (simp; done) | (simp; omega)) _ | with_reducible refine below_drewN ?_ _ | with_reducible refine Below.drew ?_ | with_reducible refine Below.setCell ?_ (by first | omega | (simp; done) | (simp; omega)) _ | with_reducible refine Below.trans ?_ (Below.mono hb9 (by first | omega | (simp; done) | (simp; omega)))))
    have HB9 : Below w.heap.size w w9 := HB8.trans (st9.mono HB8.size)
    replace p0 := p0.below st9 p0.lt
    replace p1 := p1.below st9 p1.lt
    replace pw0 := pw0.below st9 pw0.lt
    replace px0 := px0.below st9 px0.lt
    have px1 : Blk w9 (w8.heap.size) 25 #[.int .i64 (q1), .slice Ax1 nx1 cx1] := by simpa using (Blk.new w8 25 #[.int .i64 (q1), .slice Ax1 nx1 cx1]).below hb9 (by first | (simp; done) | (simp; omega))
    replace ow0 := ow0.keep (same_of_below st9 (by omega))
    replace ox0 := ox0.keep (same_of_below st9 (by omega))
    replace ox1 := ox1.keep (same_of_below st9 (by omega))
    clear HB8
    clear st9
    have fp0 := p0.two; have lp0 := p0.lt
    have fp1 := p1.two; have lp1 := p1.lt
    have fpw0 := pw0.two; have lpw0 := pw0.lt
    have fpx0 := px0.two; have lpx0 := px0.lt
    have fpx1 := px1.two; have lpx1 := px1.lt
    replace og0 := (rowI og0).mono (b' := w8.heap.size + 1) (by first | omega | (simp; done) | (simp; omega)) (Nat.le_refl _)
    have qng0 : ng0 ≤ 1048576 := (by have := og0.len; omega)
    go_wp2_with fail
    refine (eqView_same _ _ _ (gQ (mergeOk q0 xs0 q1 xs1) (max q0 q1 + 1) (mergeL xs0 xs1)) (gX (mergeOk q0 xs0 q1 xs1) (max q0 q1 + 1) (mergeL xs0 xs1)) _ _ _ _ ((og0.ints (B := w9.heap.size) (by omega)).box _) ((ow0.ints (B := w9.heap.size) (by omega)).box _) (by have := og0.len; omega) (by have := ow0.len; omega)).mono ?_
    rintro e w10 ⟨rfl, hb10⟩
    clear fp0 lp0 fp1 lp1 fpw0 lpw0 fpx0 lpx0 fpx1 lpx1
    have z10 : w9.heap.size + 1 ≤ w10.heap.size := by have := hb10.size; simpa using this
    have st10 : Below w9.heap.size w9 w10 := (by repeat' (first | with_reducible exact Below.refl _ _ | with_reducible refine Below.alloc ?_ (by first | omega | (simp; done) | (simp; omega)) _ | with_reducible refine below_drewN ?_ _ | with_reducible refine Below.drew ?_ | with_reducible refine Below.setCell ?_ (by first | omega | (simp; done) | (simp; omega)) _ | with_reducible refine Below.trans ?_ (Below.mono hb10 (by first | omega | (simp; done) | (simp; omega)))))
    have HB10 : Below w.heap.size w w10 := HB9.trans (st10.mono HB9.size)
    replace p0 := p0.below st10 p0.lt
    replace p1 := p1.below st10 p1.lt
    replace pw0 := pw0.below st10 pw0.lt
    replace px0 := px0.below st10 px0.lt
    replace px1 := px1.below st10 px1.lt
    have pg0 : Blk w10 (w9.heap.size) 25 #[.int .i64 (gQ (mergeOk q0 xs0 q1 xs1) (max q0 q1 + 1) (mergeL xs0 xs1)), .slice Ag0 ng0 cg0] := by simpa using (Blk.new w9 25 #[.int .i64 (gQ (mergeOk q0 xs0 q1 xs1) (max q0 q1 + 1) (mergeL xs0 xs1)), .slice Ag0 ng0 cg0]).below hb10 (by first | (simp; done) | (simp; omega))
    replace ow0 := ow0.keep (same_of_below st10 (by omega))
    replace ox0 := ox0.keep (same_of_below st10 (by omega))
    replace ox1 := ox1.keep (same_of_below st10 (by omega))
    replace og0 := og0.keep (same_of_below st10 (by omega))
    clear HB9
    clear st10
    have fp0 := p0.two; have lp0 := p0.lt
    have fp1 := p1.two; have lp1 := p1.lt
    have fpw0 := pw0.two; have lpw0 := pw0.lt
    have fpx0 := px0.two; have lpx0 := px0.lt
    have fpx1 := px1.two; have lpx1 := px1.lt
    have fpg0 := pg0.two; have lpg0 := pg0.lt
    go_wp2_with fail
    go_region_held3 (fun w' => w'.cell? ⟨w7.heap.size, 0, none⟩ = some (.int .i64 (q0)) ∧ w'.cell? ⟨w7.heap.size, 1, none⟩ = some (.slice Ax0 nx0 cx0) ∧ w'.cell? ⟨w.heap.size, 0, none⟩ = some (.int .i64 (q0)) ∧ w'.cell? ⟨w.heap.size, 1, none⟩ = some (.slice A0 n0 c0))
      (first
        | exact ⟨fpx0.1, fpx0.2.1, fp0.1, fp0.2.1⟩
        | exact ⟨gpx0.1, gpx0.2.1, gp0.1, gp0.2.1⟩
        | exact ⟨kpx0.1, kpx0.2.1, kp0.1, kp0.2.1⟩)
      (first
        | (go_at_call 34; refine (toView_any _ _ _ q0 xs0 _ (hx0.up (by repeat' (first | with_reducible exact Below.refl _ _ | with_reducible assumption | with_reducible refine Below.setCell ?_ (by first | omega | (simp; done) | (simp; omega)) _ | with_reducible refine Below.alloc ?_ (by first | omega | (simp; done) | (simp; omega)) _ | with_reducible refine below_drewN ?_ _ | with_reducible refine Below.drew ?_ | (with_reducible refine Below.trans ?_ (Below.mono (by with_reducible assumption) (by first | omega | (simp; done) | (simp; omega)))))) (by first | omega | (simp; done) | (simp; omega))) (by omega)).mono ?_; rintro e w11 ⟨Ay0, ny0, cy0, rfl, oy0, hb11⟩; have z11 : w10.heap.size ≤ w11.heap.size := hb11.size; have st11 : Below w10.heap.size w10 w11 := (by repeat' (first | with_reducible exact Below.refl _ _ | with_reducible refine Below.alloc ?_ (by first | omega | (simp; done) | (simp; omega)) _ | with_reducible refine below_drewN ?_ _ | with_reducible refine Below.drew ?_ | with_reducible refine Below.setCell ?_ (by first | omega | (simp; done) | (simp; omega)) _ | with_reducible refine Below.trans ?_ (Below.mono hb11 (by first | omega | (simp; done) | (simp; omega))))); have gpx0 := (px0.below st11 (by omega)).two; have gp0 := (p0.below st11 (by omega)).two)
        | (go_at_call 35; refine (eqView_same _ _ _ q0 xs0 _ _ _ _ ((ox0.keep (same_of_below st11 (by omega))).ints (by omega)) oy0.ints (by have := (ox0).len; have := (hx0).len; omega) (by have := (oy0).len; have := (hx0).len; omega)).mono ?_; rintro e w12 ⟨rfl, hb12⟩; have z12 : w11.heap.size ≤ w12.heap.size := hb12.size; have st12 : Below w10.heap.size w10 w12 := st11.trans (((by repeat' (first | with_reducible exact Below.refl _ _ | with_reducible refine Below.alloc ?_ (by first | omega | (simp; done) | (simp; omega)) _ | with_reducible refine below_drewN ?_ _ | with_reducible refine Below.drew ?_ | with_reducible refine Below.setCell ?_ (by first | omega | (simp; done) | (simp; omega)) _ | with_reducible refine Below.trans ?_ (Below.mono hb12 (by first | omega | (simp; done) | (simp; omega))))) : Below w11.heap.size w11 w12).mono z11); have kpx0 := (px0.below st12 (by omega)).two; have kp0 := (p0.below st12 (by omega)).two))
    clear fp0 lp0 fp1 lp1 fpw0 lpw0 fpx0 lpx0 fpx1 lpx1 fpg0 lpg0
    clear gpx0 gp0 kpx0 kp0 oy0 hb11 hb12 st11
    have HB12 : Below w.heap.size w w12 := HB10.trans (st12.mono HB10.size)
    replace p0 := p0.below st12 p0.lt
    replace p1 := p1.below st12 p1.lt
    replace pw0 := pw0.below st12 pw0.lt
    replace px0 := px0.below st12 px0.lt
    replace px1 := px1.below st12 px1.lt
    replace pg0 := pg0.below st12 pg0.lt
    replace ow0 := ow0.keep (same_of_below st12 (by omega))
    replace ox0 := ox0.keep (same_of_below st12 (by omega))
    replace ox1 := ox1.keep (same_of_below st12 (by omega))
    replace og0 := og0.keep (same_of_below st12 (by omega))
    clear HB10
    clear st12
    have fp0 := p0.two; have lp0 := p0.lt
    have fp1 := p1.two; have lp1 := p1.lt
    have fpw0 := pw0.two; have lpw0 := pw0.lt
    have fpx0 := px0.two; have lpx0 := px0.lt
    have fpx1 := px1.two; have lpx1 := px1.lt
    have fpg0 := pg0.two; have lpg0 := pg0.lt
    go_wp2_with fail
    go_region_held3 (fun w' => w'.cell? ⟨w8.heap.size, 0, none⟩ = some (.int .i64 (q1)) ∧ w'.cell? ⟨w8.heap.size, 1, none⟩ = some (.slice Ax1 nx1 cx1) ∧ w'.cell? ⟨w.heap.size + 1, 0, none⟩ = some (.int .i64 (q1)) ∧ w'.cell? ⟨w.heap.size + 1, 1, none⟩ = some (.slice A1 n1 c1))
      (first
        | exact ⟨fpx1.1, fpx1.2.1, fp1.1, fp1.2.1⟩
        | exact ⟨gpx1.1, gpx1.2.1, gp1.1, gp1.2.1⟩
        | exact ⟨kpx1.1, kpx1.2.1, kp1.1, kp1.2.1⟩)
      (first
        | (go_at_call 34; refine (toView_any _ _ _ q1 xs1 _ (hx1.up (by repeat' (first | with_reducible exact Below.refl _ _ | with_reducible assumption | with_reducible refine Below.setCell ?_ (by first | omega | (simp; done) | (simp; omega)) _ | with_reducible refine Below.alloc ?_ (by first | omega | (simp; done) | (simp; omega)) _ | with_reducible refine below_drewN ?_ _ | with_reducible refine Below.drew ?_ | (with_reducible refine Below.trans ?_ (Below.mono (by with_reducible assumption) (by first | omega | (simp; done) | (simp; omega)))))) (by first | omega | (simp; done) | (simp; omega))) (by omega)).mono ?_; rintro e w13 ⟨Ay1, ny1, cy1, rfl, oy1, hb13⟩; have z13 : w12.heap.size ≤ w13.heap.size := hb13.size; have st13 : Below w12.heap.size w12 w13 := (by repeat' (first | with_reducible exact Below.refl _ _ | with_reducible refine Below.alloc ?_ (by first | omega | (simp; done) | (simp; omega)) _ | with_reducible refine below_drewN ?_ _ | with_reducible refine Below.drew ?_ | with_reducible refine Below.setCell ?_ (by first | omega | (simp; done) | (simp; omega)) _ | with_reducible refine Below.trans ?_ (Below.mono hb13 (by first | omega | (simp; done) | (simp; omega))))); have gpx1 := (px1.below st13 (by omega)).two; have gp1 := (p1.below st13 (by omega)).two)
        | (go_at_call 35; refine (eqView_same _ _ _ q1 xs1 _ _ _ _ ((ox1.keep (same_of_below st13 (by omega))).ints (by omega)) oy1.ints (by have := (ox1).len; have := (hx1).len; omega) (by have := (oy1).len; have := (hx1).len; omega)).mono ?_; rintro e w14 ⟨rfl, hb14⟩; have z14 : w13.heap.size ≤ w14.heap.size := hb14.size; have st14 : Below w12.heap.size w12 w14 := st13.trans (((by repeat' (first | with_reducible exact Below.refl _ _ | with_reducible refine Below.alloc ?_ (by first | omega | (simp; done) | (simp; omega)) _ | with_reducible refine below_drewN ?_ _ | with_reducible refine Below.drew ?_ | with_reducible refine Below.setCell ?_ (by first | omega | (simp; done) | (simp; omega)) _ | with_reducible refine Below.trans ?_ (Below.mono hb14 (by first | omega | (simp; done) | (simp; omega))))) : Below w13.heap.size w13 w14).mono z13); have kpx1 := (px1.below st14 (by omega)).two; have kp1 := (p1.below st14 (by omega)).two))
    clear fp0 lp0 fp1 lp1 fpw0 lpw0 fpx0 lpx0 fpx1 lpx1 fpg0 lpg0
    clear gpx1 gp1 kpx1 kp1 oy1 hb13 hb14 st13
    have HB14 : Below w.heap.size w w14 := HB12.trans (st14.mono HB12.size)
    replace p0 := p0.below st14 p0.lt
    replace p1 := p1.below st14 p1.lt
    replace pw0 := pw0.below st14 pw0.lt
    replace px0 := px0.below st14 px0.lt
    replace px1 := px1.below st14 px1.lt
    replace pg0 := pg0.below st14 pg0.lt
    replace ow0 := ow0.keep (same_of_below st14 (by omega))
    replace ox0 := ox0.keep (same_of_below st14 (by omega))
    replace ox1 := ox1.keep (same_of_below st14 (by omega))
    replace og0 := og0.keep (same_of_below st14 (by omega))
    clear HB12
    clear st14
    have fp0 := p0.two; have lp0 := p0.lt
    have fp1 := p1.two; have lp1 := p1.lt
    have fpw0 := pw0.two; have lpw0 := pw0.lt
    have fpx0 := px0.two; have lpx0 := px0.lt
    have fpx1 := px1.two; have lpx1 := px1.lt
    have fpg0 := pg0.two; have lpg0 := pg0.lt
    go_wp2_with fail
    refine (markView_t8 _ _ _ _ _ _ _ (1) _ ox0 (by omega) (by omega) (by have := (ox0).len; have := (hx0).len; omega)).mono ?_
    clear ox0
    rintro e w15 ⟨rfl, ox0, hb15⟩
    clear fp0 lp0 fp1 lp1 fpw0 lpw0 fpx0 lpx0 fpx1 lpx1 fpg0 lpg0
    have z15 : w14.heap.size ≤ w15.heap.size := by have := hb15.size; simpa using this
    have HB15 : Below w.heap.size w w15 := HB14.trans (hb15.below (by omega) (by omega))
    replace p0 := hb15.blk p0 (by omega)
    replace p1 := hb15.blk p1 (by omega)
    replace pw0 := hb15.blk pw0 (by omega)
    replace px0 := hb15.blk px0 (by omega)
    replace px1 := hb15.blk px1 (by omega)
    replace pg0 := hb15.blk pg0 (by omega)
    replace ow0 := ow0.keep (hb15.same (by omega) (by omega))
    replace ox1 := ox1.keep (hb15.same (by omega) (by omega))
    replace og0 := og0.keep (hb15.same (by omega) (by omega))
    clear HB14
    clear hb15
    have fp0 := p0.two; have lp0 := p0.lt
    have fp1 := p1.two; have lp1 := p1.lt
    have fpw0 := pw0.two; have lpw0 := pw0.lt
    have fpx0 := px0.two; have lpx0 := px0.lt
    have fpx1 := px1.two; have lpx1 := px1.lt
    have fpg0 := pg0.two; have lpg0 := pg0.lt
    go_wp2_with fail
    refine (markView_t8 _ _ _ _ _ _ _ (1 + (nx0 : Int)) _ ox1 (by omega) (by omega) (by have := (ox1).len; have := (hx1).len; omega)).mono ?_
    clear ox1
    rintro e w16 ⟨rfl, ox1, hb16⟩
    clear fp0 lp0 fp1 lp1 fpw0 lpw0 fpx0 lpx0 fpx1 lpx1 fpg0 lpg0
    have z16 : w15.heap.size ≤ w16.heap.size := by have := hb16.size; simpa using this
    have HB16 : Below w.heap.size w w16 := HB15.trans (hb16.below (by omega) (by omega))
    replace p0 := hb16.blk p0 (by omega)
    replace p1 := hb16.blk p1 (by omega)
    replace pw0 := hb16.blk pw0 (by omega)
    replace px0 := hb16.blk px0 (by omega)
    replace px1 := hb16.blk px1 (by omega)
    replace pg0 := hb16.blk pg0 (by omega)
    replace ow0 := ow0.keep (hb16.same (by omega) (by omega))
    replace ox0 := ox0.keep (hb16.same (by omega) (by omega))
    replace og0 := og0.keep (hb16.same (by omega) (by omega))
    clear HB15
    clear hb16
    have fp0 := p0.two; have lp0 := p0.lt
    have fp1 := p1.two; have lp1 := p1.lt
    have fpw0 := pw0.two; have lpw0 := pw0.lt
    have fpx0 := px0.two; have lpx0 := px0.lt
    have fpx1 := px1.two; have lpx1 := px1.lt
    have fpg0 := pg0.two; have lpg0 := pg0.lt
    go_wp2_with fail
    refine (eqView_same _ _ _ (gQ (mergeOk q0 xs0 q1 xs1) (max q0 q1 + 1) (mergeL xs0 xs1)) (gX (mergeOk q0 xs0 q1 xs1) (max q0 q1 + 1) (mergeL xs0 xs1)) _ _ _ _ (og0.ints (B := w16.heap.size) (by omega)) (ow0.ints (B := w16.heap.size) (by omega)) (by have := og0.len; omega) (by have := ow0.len; omega)).mono ?_
    rintro e w17 ⟨rfl, hb17⟩
    clear fp0 lp0 fp1 lp1 fpw0 lpw0 fpx0 lpx0 fpx1 lpx1 fpg0 lpg0
    have z17 : w16.heap.size ≤ w17.heap.size := by have := hb17.size; simpa using this
    have st17 : Below w16.heap.size w16 w17 := (by repeat' (first | with_reducible exact Below.refl _ _ | with_reducible refine Below.alloc ?_ (by first | omega | (simp; done) | (simp; omega)) _ | with_reducible refine below_drewN ?_ _ | with_reducible refine Below.drew ?_ | with_reducible refine Below.setCell ?_ (by first | omega | (simp; done) | (simp; omega)) _ | with_reducible refine Below.trans ?_ (Below.mono hb17 (by first | omega | (simp; done) | (simp; omega)))))
    have HB17 : Below w.heap.size w w17 := HB16.trans (st17.mono HB16.size)
    replace p0 := p0.below st17 p0.lt
    replace p1 := p1.below st17 p1.lt
    replace pw0 := pw0.below st17 pw0.lt
    replace px0 := px0.below st17 px0.lt
    replace px1 := px1.below st17 px1.lt
    replace pg0 := pg0.below st17 pg0.lt
    replace ow0 := ow0.keep (same_of_below st17 (by omega))
    replace ox0 := ox0.keep (same_of_below st17 (by omega))
    replace ox1 := ox1.keep (same_of_below st17 (by omega))
    replace og0 := og0.keep (same_of_below st17 (by omega))
    clear HB16
    clear st17
    have fp0 := p0.two; have lp0 := p0.lt
    have fp1 := p1.two; have lp1 := p1.lt
    have fpw0 := pw0.two; have lpw0 := pw0.lt
    have fpx0 := px0.two; have lpx0 := px0.lt
    have fpx1 := px1.two; have lpx1 := px1.lt
    have fpg0 := pg0.two; have lpg0 := pg0.lt
    go_wp2_with fail
    refine (markView_t8 _ _ _ _ _ _ _ (1) _ og0 (by omega) (by omega) (by have := og0.len; omega)).mono ?_
    clear og0
    rintro e w18 ⟨rfl, og0, hb18⟩
    clear fp0 lp0 fp1 lp1 fpw0 lpw0 fpx0 lpx0 fpx1 lpx1 fpg0 lpg0
    have z18 : w17.heap.size ≤ w18.heap.size := by have := hb18.size; simpa using this
    have HB18 : Below w.heap.size w w18 := HB17.trans (hb18.below (by omega) (by omega))
    replace p0 := hb18.blk p0 (by omega)
    replace p1 := hb18.blk p1 (by omega)
    replace pw0 := hb18.blk pw0 (by omega)
    replace px0 := hb18.blk px0 (by omega)
    replace px1 := hb18.blk px1 (by omega)
    replace pg0 := hb18.blk pg0 (by omega)
    replace ow0 := ow0.keep (hb18.same (by omega) (by omega))
    replace ox0 := ox0.keep (hb18.same (by omega) (by omega))
    replace ox1 := ox1.keep (hb18.same (by omega) (by omega))
    clear HB17
    clear hb18
    have fp0 := p0.two; have lp0 := p0.lt
    have fp1 := p1.two; have lp1 := p1.lt
    have fpw0 := pw0.two; have lpw0 := pw0.lt
    have fpx0 := px0.two; have lpx0 := px0.lt
    have fpx1 := px1.two; have lpx1 := px1.lt
    have fpg0 := pg0.two; have lpg0 := pg0.lt
    go_wp2_with fail
    refine (heldView_v _ _ _ (1) _ (og0.ints (B := w18.heap.size) (by omega)) (by omega) (by omega) (by omega)).mono ?_
    rintro e w19 ⟨rfl, hb19⟩
    clear fp0 lp0 fp1 lp1 fpw0 lpw0 fpx0 lpx0 fpx1 lpx1 fpg0 lpg0
    have z19 : w18.heap.size ≤ w19.heap.size := by have := hb19.size; simpa using this
    have st19 : Below w18.heap.size w18 w19 := (by repeat' (first | with_reducible exact Below.refl _ _ | with_reducible refine Below.alloc ?_ (by first | omega | (simp; done) | (simp; omega)) _ | with_reducible refine below_drewN ?_ _ | with_reducible refine Below.drew ?_ | with_reducible refine Below.setCell ?_ (by first | omega | (simp; done) | (simp; omega)) _ | with_reducible refine Below.trans ?_ (Below.mono hb19 (by first | omega | (simp; done) | (simp; omega)))))
    have HB19 : Below w.heap.size w w19 := HB18.trans (st19.mono HB18.size)
    replace p0 := p0.below st19 p0.lt
    replace p1 := p1.below st19 p1.lt
    replace pw0 := pw0.below st19 pw0.lt
    replace px0 := px0.below st19 px0.lt
    replace px1 := px1.below st19 px1.lt
    replace pg0 := pg0.below st19 pg0.lt
    replace ow0 := ow0.keep (same_of_below st19 (by omega))
    replace ox0 := ox0.keep (same_of_below st19 (by omega))
    replace ox1 := ox1.keep (same_of_below st19 (by omega))
    replace og0 := og0.keep (same_of_below st19 (by omega))
    clear HB18
    clear st19
    have fp0 := p0.two; have lp0 := p0.lt
    have fp1 := p1.two; have lp1 := p1.lt
    have fpw0 := pw0.two; have lpw0 := pw0.lt
    have fpx0 := px0.two; have lpx0 := px0.lt
    have fpx1 := px1.two; have lpx1 := px1.lt
    have fpg0 := pg0.two; have lpg0 := pg0.lt
    clear ox0
    clear fpx0 lpx0 px0
    clear ox1
    clear fpx1 lpx1 px1
    go_wp2_with fail
    clear fp0 lp0 fp1 lp1 fpw0 lpw0 fpg0 lpg0
    go_region_held3 (fun w' => w'.cell? ⟨w.heap.size, 0, none⟩ = some (.int .i64 (q0)) ∧ w'.cell? ⟨w.heap.size, 1, none⟩ = some (.slice A0 n0 c0) ∧ w'.cell? ⟨w.heap.size + 1, 0, none⟩ = some (.int .i64 (q1)) ∧ w'.cell? ⟨w.heap.size + 1, 1, none⟩ = some (.slice A1 n1 c1))
      (exact And.assoc2 (t := 41) (t' := 41) (show Blk _ (w.heap.size) 41 #[.int .i64 (q0), .slice A0 n0 c0] by (repeat' (first | with_reducible exact c3p0 | with_reducible exact c2p0 | with_reducible exact c1p0 | with_reducible exact p0 | with_reducible refine Blk.drew ?_ | with_reducible refine Blk.alloc ?_ _ | with_reducible refine Blk.far ?_ (by first | omega | (simp; done) | (simp; omega)) _)); first | done | fail) (show Blk _ (w.heap.size + 1) 41 #[.int .i64 (q1), .slice A1 n1 c1] by (repeat' (first | with_reducible exact c3p1 | with_reducible exact c2p1 | with_reducible exact c1p1 | with_reducible exact p1 | with_reducible refine Blk.drew ?_ | with_reducible refine Blk.alloc ?_ _ | with_reducible refine Blk.far ?_ (by first | omega | (simp; done) | (simp; omega)) _)); first | done | fail))
      (first
        | (go_at_call_of 34 A0; with_reducible refine Calls.mono (toView_any A0 n0 c0 q0 xs0 _ ?_ (by omega)) ?_
           · exact Ints.up hx0 (by repeat' (first | with_reducible exact Below.refl _ _ | with_reducible assumption | with_reducible refine Below.setCell ?_ (by first | omega | (simp; done) | (simp; omega)) _ | with_reducible refine Below.alloc ?_ (by first | omega | (simp; done) | (simp; omega)) _ | with_reducible refine below_drewN ?_ _ | with_reducible refine Below.drew ?_ | (with_reducible refine Below.trans ?_ (Below.mono (by with_reducible assumption) (by first | omega | (simp; done) | (simp; omega)))))) (by first | omega | (simp; done) | (simp; omega))
           rintro e w20 ⟨Ahu0, nhu0, chu0, rfl, ohu0, hb20⟩
           have z20 := hb20.size
           try simp at z20
           have HBc1 : Below w.heap.size w w20 := Below.step (by repeat' (first | with_reducible exact Below.refl _ _ | with_reducible assumption | with_reducible refine Below.setCell ?_ (by first | omega | (simp; done) | (simp; omega)) _ | with_reducible refine Below.alloc ?_ (by first | omega | (simp; done) | (simp; omega)) _ | with_reducible refine below_drewN ?_ _ | with_reducible refine Below.drew ?_ | (with_reducible refine Below.trans ?_ (Below.mono (by with_reducible assumption) (by first | omega | (simp; done) | (simp; omega)))))) hb20 (by first | omega | (simp; done) | (simp; omega))
           have c1p0 := Blk.step (show Blk _ (w.heap.size) 41 #[.int .i64 (q0), .slice A0 n0 c0] by (repeat' (first | with_reducible exact p0 | with_reducible refine Blk.drew ?_ | with_reducible refine Blk.alloc ?_ _ | with_reducible refine Blk.far ?_ (by first | omega | (simp; done) | (simp; omega)) _)); first | done | fail) hb20
           have c1p1 := Blk.step (show Blk _ (w.heap.size + 1) 41 #[.int .i64 (q1), .slice A1 n1 c1] by (repeat' (first | with_reducible exact p1 | with_reducible refine Blk.drew ?_ | with_reducible refine Blk.alloc ?_ _ | with_reducible refine Blk.far ?_ (by first | omega | (simp; done) | (simp; omega)) _)); first | done | fail) hb20
           have c1pw0 := Blk.step (show Blk _ (gw0) 25 #[.int .i64 (gQ (mergeOk q0 xs0 q1 xs1) (max q0 q1 + 1) (mergeL xs0 xs1)), .slice Aw0 nw0 cw0] by (repeat' (first | with_reducible exact pw0 | with_reducible refine Blk.drew ?_ | with_reducible refine Blk.alloc ?_ _ | with_reducible refine Blk.far ?_ (by first | omega | (simp; done) | (simp; omega)) _)); first | done | fail) hb20
           have c1pg0 := Blk.step (show Blk _ (w9.heap.size) 25 #[.int .i64 (gQ (mergeOk q0 xs0 q1 xs1) (max q0 q1 + 1) (mergeL xs0 xs1)), .slice Ag0 ng0 cg0] by (repeat' (first | with_reducible exact pg0 | with_reducible refine Blk.drew ?_ | with_reducible refine Blk.alloc ?_ _ | with_reducible refine Blk.far ?_ (by first | omega | (simp; done) | (simp; omega)) _)); first | done | fail) hb20
           have c1ow0 := RowI.step (show RowI _ (lo) (w6.heap.size) Aw0 nw0 cw0 (gX (mergeOk q0 xs0 q1 xs1) (max q0 q1 + 1) (mergeL xs0 xs1)) by (repeat' (first | with_reducible exact ow0 | with_reducible refine RowI.drew1 ?_ | with_reducible refine RowI.alloc1 ?_ (by first | omega | (simp; done) | (simp; omega)) _ | with_reducible refine RowI.above1 ?_ (by first | omega | (simp; done) | (simp; omega)) _)); first | done | fail) hb20 (by first | omega | (simp; done) | (simp; omega))
           have c1og0 := RowI.step (show RowI _ (w8.heap.size + 1) (w9.heap.size) Ag0 ng0 cg0 (marks (1) ng0) by (repeat' (first | with_reducible exact og0 | with_reducible refine RowI.drew1 ?_ | with_reducible refine RowI.alloc1 ?_ (by first | omega | (simp; done) | (simp; omega)) _ | with_reducible refine RowI.above1 ?_ (by first | omega | (simp; done) | (simp; omega)) _)); first | done | fail) hb20 (by first | omega | (simp; done) | (simp; omega))
           have ohu01 := (rowI ohu0).mono (b' := w19.heap.size) (by first | omega | (simp; done) | (simp; omega)) (Nat.le_refl _)
           first | (have r1 : Blk w20 w19.heap.size 25 #[.int .i64 0, .slice none 0 0] := Blk.step (by (repeat' (first | with_reducible refine Blk.drew ?_ | (with_reducible refine Blk.newAt ?_; rfl) | with_reducible refine Blk.alloc ?_ _)); first | done | fail) hb20; have fr := r1.two; have lr := r1.lt) | skip)
        | (go_at_call_of 34 A1; with_reducible refine Calls.mono (toView_any A1 n1 c1 q1 xs1 _ ?_ (by omega)) ?_
           · exact Ints.up hx1 (by repeat' (first | with_reducible exact Below.refl _ _ | with_reducible assumption | with_reducible refine Below.setCell ?_ (by first | omega | (simp; done) | (simp; omega)) _ | with_reducible refine Below.alloc ?_ (by first | omega | (simp; done) | (simp; omega)) _ | with_reducible refine below_drewN ?_ _ | with_reducible refine Below.drew ?_ | (with_reducible refine Below.trans ?_ (Below.mono (by with_reducible assumption) (by first | omega | (simp; done) | (simp; omega)))))) (by first | omega | (simp; done) | (simp; omega))
           rintro e w21 ⟨Ahu1, nhu1, chu1, rfl, ohu1, hb21⟩
           have z21 := hb21.size
           try simp at z21
           have HBc2 : Below w.heap.size w w21 := Below.step (by repeat' (first | with_reducible exact Below.refl _ _ | with_reducible assumption | with_reducible refine Below.setCell ?_ (by first | omega | (simp; done) | (simp; omega)) _ | with_reducible refine Below.alloc ?_ (by first | omega | (simp; done) | (simp; omega)) _ | with_reducible refine below_drewN ?_ _ | with_reducible refine Below.drew ?_ | (with_reducible refine Below.trans ?_ (Below.mono (by with_reducible assumption) (by first | omega | (simp; done) | (simp; omega)))))) hb21 (by first | omega | (simp; done) | (simp; omega))
           have c2p0 := Blk.step (show Blk _ (w.heap.size) 41 #[.int .i64 (q0), .slice A0 n0 c0] by (repeat' (first | with_reducible exact c1p0 | with_reducible exact p0 | with_reducible refine Blk.drew ?_ | with_reducible refine Blk.alloc ?_ _ | with_reducible refine Blk.far ?_ (by first | omega | (simp; done) | (simp; omega)) _)); first | done | fail) hb21
           have c2p1 := Blk.step (show Blk _ (w.heap.size + 1) 41 #[.int .i64 (q1), .slice A1 n1 c1] by (repeat' (first | with_reducible exact c1p1 | with_reducible exact p1 | with_reducible refine Blk.drew ?_ | with_reducible refine Blk.alloc ?_ _ | with_reducible refine Blk.far ?_ (by first | omega | (simp; done) | (simp; omega)) _)); first | done | fail) hb21
           have c2pw0 := Blk.step (show Blk _ (gw0) 25 #[.int .i64 (gQ (mergeOk q0 xs0 q1 xs1) (max q0 q1 + 1) (mergeL xs0 xs1)), .slice Aw0 nw0 cw0] by (repeat' (first | with_reducible exact c1pw0 | with_reducible exact pw0 | with_reducible refine Blk.drew ?_ | with_reducible refine Blk.alloc ?_ _ | with_reducible refine Blk.far ?_ (by first | omega | (simp; done) | (simp; omega)) _)); first | done | fail) hb21
           have c2pg0 := Blk.step (show Blk _ (w9.heap.size) 25 #[.int .i64 (gQ (mergeOk q0 xs0 q1 xs1) (max q0 q1 + 1) (mergeL xs0 xs1)), .slice Ag0 ng0 cg0] by (repeat' (first | with_reducible exact c1pg0 | with_reducible exact pg0 | with_reducible refine Blk.drew ?_ | with_reducible refine Blk.alloc ?_ _ | with_reducible refine Blk.far ?_ (by first | omega | (simp; done) | (simp; omega)) _)); first | done | fail) hb21
           have c2ow0 := RowI.step (show RowI _ (lo) (w6.heap.size) Aw0 nw0 cw0 (gX (mergeOk q0 xs0 q1 xs1) (max q0 q1 + 1) (mergeL xs0 xs1)) by (repeat' (first | with_reducible exact c1ow0 | with_reducible exact ow0 | with_reducible refine RowI.drew1 ?_ | with_reducible refine RowI.alloc1 ?_ (by first | omega | (simp; done) | (simp; omega)) _ | with_reducible refine RowI.above1 ?_ (by first | omega | (simp; done) | (simp; omega)) _)); first | done | fail) hb21 (by first | omega | (simp; done) | (simp; omega))
           have c2og0 := RowI.step (show RowI _ (w8.heap.size + 1) (w9.heap.size) Ag0 ng0 cg0 (marks (1) ng0) by (repeat' (first | with_reducible exact c1og0 | with_reducible exact og0 | with_reducible refine RowI.drew1 ?_ | with_reducible refine RowI.alloc1 ?_ (by first | omega | (simp; done) | (simp; omega)) _ | with_reducible refine RowI.above1 ?_ (by first | omega | (simp; done) | (simp; omega)) _)); first | done | fail) hb21 (by first | omega | (simp; done) | (simp; omega))
           have ohu02 := RowI.step (show RowI _ w19.heap.size w20.heap.size Ahu0 nhu0 chu0 (xs0) by (repeat' (first | with_reducible exact ohu01 | with_reducible refine RowI.drew1 ?_ | with_reducible refine RowI.alloc1 ?_ (by first | omega | (simp; done) | (simp; omega)) _ | with_reducible refine RowI.above1 ?_ (by first | omega | (simp; done) | (simp; omega)) _)); first | done | fail) hb21 (by first | omega | (simp; done) | (simp; omega))
           have ohu12 := (rowI ohu1).mono (b' := w20.heap.size) (by first | omega | (simp; done) | (simp; omega)) (Nat.le_refl _)
           first | (have r2 : Blk w21 w19.heap.size 25 #[.int .i64 0, .slice none 0 0] := Blk.step (by (repeat' (first | with_reducible exact r1 | with_reducible refine Blk.drew ?_ | (with_reducible refine Blk.newAt ?_; rfl) | with_reducible refine Blk.alloc ?_ _)); first | done | fail) hb21; have fr := r2.two; have lr := r2.lt) | (have r2 : Blk w21 w20.heap.size 25 #[.int .i64 0, .slice none 0 0] := Blk.step (by (repeat' (first | with_reducible exact r1 | with_reducible refine Blk.drew ?_ | (with_reducible refine Blk.newAt ?_; rfl) | with_reducible refine Blk.alloc ?_ _)); first | done | fail) hb21; have fr := r2.two; have lr := r2.lt) | skip)
        | (go_at_call 32
           with_reducible refine Calls.mono (implMerge_any Ahu0 nhu0 chu0 Ahu1 nhu1 chu1 q0 xs0 q1 xs1 ea _ ?_ ?_ ?_ ?_ ?_) ?_
           · (repeat' (first | with_reducible exact (hsE.below HBc2 hsE.lt) | with_reducible refine Sent.drew1 ?_ | with_reducible refine Sent.alloc ?_ _))
           · exact RowI.ints' (show RowI _ w19.heap.size w20.heap.size Ahu0 nhu0 chu0 (xs0) by (repeat' (first | with_reducible exact ohu02 | with_reducible refine RowI.drew1 ?_ | with_reducible refine RowI.alloc1 ?_ (by first | omega | (simp; done) | (simp; omega)) _ | with_reducible refine RowI.above1 ?_ (by first | omega | (simp; done) | (simp; omega)) _)); first | done | fail) (by first | omega | (simp; done) | (simp; omega))
           · exact RowI.ints' (show RowI _ w20.heap.size w21.heap.size Ahu1 nhu1 chu1 (xs1) by (repeat' (first | with_reducible exact ohu12 | with_reducible refine RowI.drew1 ?_ | with_reducible refine RowI.alloc1 ?_ (by first | omega | (simp; done) | (simp; omega)) _ | with_reducible refine RowI.above1 ?_ (by first | omega | (simp; done) | (simp; omega)) _)); first | done | fail) (by first | omega | (simp; done) | (simp; omega))
           · have := (ohu02).len; have := (hx0).len; omega
           · have := (ohu12).len; have := (hx1).len; omega
           rintro e w22 ⟨Ah0, nh0, ch0, rfl, oh0, hb22⟩
           have z22 := hb22.size
           try simp at z22
           have HBc3 : Below w.heap.size w w22 := Below.step (by repeat' (first | with_reducible exact Below.refl _ _ | with_reducible assumption | with_reducible refine Below.setCell ?_ (by first | omega | (simp; done) | (simp; omega)) _ | with_reducible refine Below.alloc ?_ (by first | omega | (simp; done) | (simp; omega)) _ | with_reducible refine below_drewN ?_ _ | with_reducible refine Below.drew ?_ | (with_reducible refine Below.trans ?_ (Below.mono (by with_reducible assumption) (by first | omega | (simp; done) | (simp; omega)))))) hb22 (by first | omega | (simp; done) | (simp; omega))
           have c3p0 := Blk.step (show Blk _ (w.heap.size) 41 #[.int .i64 (q0), .slice A0 n0 c0] by (repeat' (first | with_reducible exact c2p0 | with_reducible exact c1p0 | with_reducible exact p0 | with_reducible refine Blk.drew ?_ | with_reducible refine Blk.alloc ?_ _ | with_reducible refine Blk.far ?_ (by first | omega | (simp; done) | (simp; omega)) _)); first | done | fail) hb22
           have c3p1 := Blk.step (show Blk _ (w.heap.size + 1) 41 #[.int .i64 (q1), .slice A1 n1 c1] by (repeat' (first | with_reducible exact c2p1 | with_reducible exact c1p1 | with_reducible exact p1 | with_reducible refine Blk.drew ?_ | with_reducible refine Blk.alloc ?_ _ | with_reducible refine Blk.far ?_ (by first | omega | (simp; done) | (simp; omega)) _)); first | done | fail) hb22
           have c3pw0 := Blk.step (show Blk _ (gw0) 25 #[.int .i64 (gQ (mergeOk q0 xs0 q1 xs1) (max q0 q1 + 1) (mergeL xs0 xs1)), .slice Aw0 nw0 cw0] by (repeat' (first | with_reducible exact c2pw0 | with_reducible exact c1pw0 | with_reducible exact pw0 | with_reducible refine Blk.drew ?_ | with_reducible refine Blk.alloc ?_ _ | with_reducible refine Blk.far ?_ (by first | omega | (simp; done) | (simp; omega)) _)); first | done | fail) hb22
           have c3pg0 := Blk.step (show Blk _ (w9.heap.size) 25 #[.int .i64 (gQ (mergeOk q0 xs0 q1 xs1) (max q0 q1 + 1) (mergeL xs0 xs1)), .slice Ag0 ng0 cg0] by (repeat' (first | with_reducible exact c2pg0 | with_reducible exact c1pg0 | with_reducible exact pg0 | with_reducible refine Blk.drew ?_ | with_reducible refine Blk.alloc ?_ _ | with_reducible refine Blk.far ?_ (by first | omega | (simp; done) | (simp; omega)) _)); first | done | fail) hb22
           have c3ow0 := RowI.step (show RowI _ (lo) (w6.heap.size) Aw0 nw0 cw0 (gX (mergeOk q0 xs0 q1 xs1) (max q0 q1 + 1) (mergeL xs0 xs1)) by (repeat' (first | with_reducible exact c2ow0 | with_reducible exact c1ow0 | with_reducible exact ow0 | with_reducible refine RowI.drew1 ?_ | with_reducible refine RowI.alloc1 ?_ (by first | omega | (simp; done) | (simp; omega)) _ | with_reducible refine RowI.above1 ?_ (by first | omega | (simp; done) | (simp; omega)) _)); first | done | fail) hb22 (by first | omega | (simp; done) | (simp; omega))
           have c3og0 := RowI.step (show RowI _ (w8.heap.size + 1) (w9.heap.size) Ag0 ng0 cg0 (marks (1) ng0) by (repeat' (first | with_reducible exact c2og0 | with_reducible exact c1og0 | with_reducible exact og0 | with_reducible refine RowI.drew1 ?_ | with_reducible refine RowI.alloc1 ?_ (by first | omega | (simp; done) | (simp; omega)) _ | with_reducible refine RowI.above1 ?_ (by first | omega | (simp; done) | (simp; omega)) _)); first | done | fail) hb22 (by first | omega | (simp; done) | (simp; omega))
           have f3pw0 := c3pw0.two
           have f3pg0 := c3pg0.two
           have l3pw0 := c3pw0.lt
           have l3pg0 := c3pg0.lt
           first | have oh03 := (rowI oh0).mono (b' := w21.heap.size + 1) (by first | omega | (simp; done) | (simp; omega)) (Nat.le_refl _) | have oh03 := (rowI oh0).mono (b' := w21.heap.size) (by first | omega | (simp; done) | (simp; omega)) (Nat.le_refl _)
           first | (have r3 : Blk w22 w19.heap.size 25 #[.int .i64 0, .slice none 0 0] := Blk.step (by (repeat' (first | with_reducible exact r2 | with_reducible exact r1 | with_reducible refine Blk.drew ?_ | (with_reducible refine Blk.newAt ?_; rfl) | with_reducible refine Blk.alloc ?_ _)); first | done | fail) hb22; have fr := r3.two; have lr := r3.lt) | (have r3 : Blk w22 w20.heap.size 25 #[.int .i64 0, .slice none 0 0] := Blk.step (by (repeat' (first | with_reducible exact r2 | with_reducible exact r1 | with_reducible refine Blk.drew ?_ | (with_reducible refine Blk.newAt ?_; rfl) | with_reducible refine Blk.alloc ?_ _)); first | done | fail) hb22; have fr := r3.two; have lr := r3.lt) | (have r3 : Blk w22 w21.heap.size 25 #[.int .i64 0, .slice none 0 0] := Blk.step (by (repeat' (first | with_reducible exact r2 | with_reducible exact r1 | with_reducible refine Blk.drew ?_ | (with_reducible refine Blk.newAt ?_; rfl) | with_reducible refine Blk.alloc ?_ _)); first | done | fail) hb22; have fr := r3.two; have lr := r3.lt) | skip))
    all_goals
      go_wp2_with fail
      refine (eqView_same _ _ _ (gQ (mergeOk q0 xs0 q1 xs1) (max q0 q1 + 1) (mergeL xs0 xs1)) (gX (mergeOk q0 xs0 q1 xs1) (max q0 q1 + 1) (mergeL xs0 xs1)) _ _ _ _ ?_ ?_ (by have := oh03.len; omega) (by have := ow0.len; omega)).mono ?_
      · first | exact RowI.ints' (show RowI _ (w21.heap.size + 1) (w22.heap.size) Ah0 nh0 ch0 (gX (mergeOk q0 xs0 q1 xs1) (max q0 q1 + 1) (mergeL xs0 xs1)) by (repeat' (first | with_reducible exact oh03 | with_reducible refine RowI.drew1 ?_ | with_reducible refine RowI.alloc1 ?_ (by first | omega | (simp; done) | (simp; omega)) _ | with_reducible refine RowI.below1 ?_ (by first | omega | (simp; done) | (simp; omega)) _)); first | done | fail) (by first | omega | (simp; done) | (simp; omega)) | exact RowI.ints' (show RowI _ (w21.heap.size) (w22.heap.size) Ah0 nh0 ch0 (gX (mergeOk q0 xs0 q1 xs1) (max q0 q1 + 1) (mergeL xs0 xs1)) by (repeat' (first | with_reducible exact oh03 | with_reducible refine RowI.drew1 ?_ | with_reducible refine RowI.alloc1 ?_ (by first | omega | (simp; done) | (simp; omega)) _ | with_reducible refine RowI.below1 ?_ (by first | omega | (simp; done) | (simp; omega)) _)); first | done | fail) (by first | omega | (simp; done) | (simp; omega))
      · exact RowI.ints' (show RowI _ (lo) (w6.heap.size) Aw0 nw0 cw0 (gX (mergeOk q0 xs0 q1 xs1) (max q0 q1 + 1) (mergeL xs0 xs1)) by (repeat' (first | with_reducible exact c3ow0 | with_reducible exact c2ow0 | with_reducible exact c1ow0 | with_reducible refine RowI.drew1 ?_ | with_reducible refine RowI.alloc1 ?_ (by first | omega | (simp; done) | (simp; omega)) _ | with_reducible refine RowI.above1 ?_ (by first | omega | (simp; done) | (simp; omega)) _)); first | done | fail) (by first | omega | (simp; done) | (simp; omega))
      rintro e w23 ⟨rfl, hb23⟩
      have z23 := hb23.size
      try simp at z23
      have z23' : w22.heap.size ≤ w23.heap.size := by omega
      have HB23 : Below w.heap.size w w23 := Below.step (by repeat' (first | with_reducible exact Below.refl _ _ | with_reducible assumption | with_reducible refine Below.setCell ?_ (by first | omega | (simp; done) | (simp; omega)) _ | with_reducible refine Below.alloc ?_ (by first | omega | (simp; done) | (simp; omega)) _ | with_reducible refine below_drewN ?_ _ | with_reducible refine Below.drew ?_ | (with_reducible refine Below.trans ?_ (Below.mono (by with_reducible assumption) (by first | omega | (simp; done) | (simp; omega)))))) hb23 (by first | omega | (simp; done) | (simp; omega))
      replace p0 := Blk.step (show Blk _ (w.heap.size) 41 #[.int .i64 (q0), .slice A0 n0 c0] by (repeat' (first | with_reducible exact c3p0 | with_reducible exact c2p0 | with_reducible exact c1p0 | with_reducible refine Blk.drew ?_ | with_reducible refine Blk.alloc ?_ _ | with_reducible refine Blk.far ?_ (by first | omega | (simp; done) | (simp; omega)) _)); first | done | fail) hb23
      replace p1 := Blk.step (show Blk _ (w.heap.size + 1) 41 #[.int .i64 (q1), .slice A1 n1 c1] by (repeat' (first | with_reducible exact c3p1 | with_reducible exact c2p1 | with_reducible exact c1p1 | with_reducible refine Blk.drew ?_ | with_reducible refine Blk.alloc ?_ _ | with_reducible refine Blk.far ?_ (by first | omega | (simp; done) | (simp; omega)) _)); first | done | fail) hb23
      replace pw0 := Blk.step (show Blk _ (gw0) 25 #[.int .i64 (gQ (mergeOk q0 xs0 q1 xs1) (max q0 q1 + 1) (mergeL xs0 xs1)), .slice Aw0 nw0 cw0] by (repeat' (first | with_reducible exact c3pw0 | with_reducible exact c2pw0 | with_reducible exact c1pw0 | with_reducible refine Blk.drew ?_ | with_reducible refine Blk.alloc ?_ _ | with_reducible refine Blk.far ?_ (by first | omega | (simp; done) | (simp; omega)) _)); first | done | fail) hb23
      replace pg0 := Blk.step (show Blk _ (w9.heap.size) 25 #[.int .i64 (gQ (mergeOk q0 xs0 q1 xs1) (max q0 q1 + 1) (mergeL xs0 xs1)), .slice Ag0 ng0 cg0] by (repeat' (first | with_reducible exact c3pg0 | with_reducible exact c2pg0 | with_reducible exact c1pg0 | with_reducible refine Blk.drew ?_ | with_reducible refine Blk.alloc ?_ _ | with_reducible refine Blk.far ?_ (by first | omega | (simp; done) | (simp; omega)) _)); first | done | fail) hb23
      replace ow0 := RowI.step (show RowI _ (lo) (w6.heap.size) Aw0 nw0 cw0 (gX (mergeOk q0 xs0 q1 xs1) (max q0 q1 + 1) (mergeL xs0 xs1)) by (repeat' (first | with_reducible exact c3ow0 | with_reducible exact c2ow0 | with_reducible exact c1ow0 | with_reducible refine RowI.drew1 ?_ | with_reducible refine RowI.alloc1 ?_ (by first | omega | (simp; done) | (simp; omega)) _ | with_reducible refine RowI.above1 ?_ (by first | omega | (simp; done) | (simp; omega)) _)); first | done | fail) hb23 (by first | omega | (simp; done) | (simp; omega))
      replace og0 := RowI.step (show RowI _ (w8.heap.size + 1) (w9.heap.size) Ag0 ng0 cg0 (marks (1) ng0) by (repeat' (first | with_reducible exact c3og0 | with_reducible exact c2og0 | with_reducible exact c1og0 | with_reducible refine RowI.drew1 ?_ | with_reducible refine RowI.alloc1 ?_ (by first | omega | (simp; done) | (simp; omega)) _ | with_reducible refine RowI.above1 ?_ (by first | omega | (simp; done) | (simp; omega)) _)); first | done | fail) hb23 (by first | omega | (simp; done) | (simp; omega))
      first | (have oh0 := RowI.step (show RowI _ (w21.heap.size + 1) (w22.heap.size) Ah0 nh0 ch0 (gX (mergeOk q0 xs0 q1 xs1) (max q0 q1 + 1) (mergeL xs0 xs1)) by (repeat' (first | with_reducible exact oh03 | with_reducible refine RowI.drew1 ?_ | with_reducible refine RowI.alloc1 ?_ (by first | omega | (simp; done) | (simp; omega)) _ | with_reducible refine RowI.below1 ?_ (by first | omega | (simp; done) | (simp; omega)) _)); first | done | fail) hb23 (by first | omega | (simp; done) | (simp; omega))) | (have oh0 := RowI.step (show RowI _ (w21.heap.size) (w22.heap.size) Ah0 nh0 ch0 (gX (mergeOk q0 xs0 q1 xs1) (max q0 q1 + 1) (mergeL xs0 xs1)) by (repeat' (first | with_reducible exact oh03 | with_reducible refine RowI.drew1 ?_ | with_reducible refine RowI.alloc1 ?_ (by first | omega | (simp; done) | (simp; omega)) _ | with_reducible refine RowI.below1 ?_ (by first | omega | (simp; done) | (simp; omega)) _)); first | done | fail) hb23 (by first | omega | (simp; done) | (simp; omega)))
      first
        | (have ph0 : Blk w23 w22.heap.size 25 #[.int .i64 (gQ (mergeOk q0 xs0 q1 xs1) (max q0 q1 + 1) (mergeL xs0 xs1)), .slice Ah0 nh0 ch0] := Blk.step (by (repeat' (first | with_reducible refine Blk.drew ?_ | (with_reducible refine Blk.newAt ?_; rfl))); first | done | fail) hb23; generalize hgh0 : w22.heap.size = gh0 at ph0 ⊢)
        | (have ph0 : Blk w23 w19.heap.size 25 #[.int .i64 (gQ (mergeOk q0 xs0 q1 xs1) (max q0 q1 + 1) (mergeL xs0 xs1)), .slice Ah0 nh0 ch0] := Blk.step (by (repeat' (first | with_reducible refine Blk.drew ?_ | exact ((r3.set_ 0 _).set_ 1 _))); first | done | fail) hb23; generalize hgh0 : w19.heap.size = gh0 at ph0 ⊢)
        | (have ph0 : Blk w23 w20.heap.size 25 #[.int .i64 (gQ (mergeOk q0 xs0 q1 xs1) (max q0 q1 + 1) (mergeL xs0 xs1)), .slice Ah0 nh0 ch0] := Blk.step (by (repeat' (first | with_reducible refine Blk.drew ?_ | exact ((r3.set_ 0 _).set_ 1 _))); first | done | fail) hb23; generalize hgh0 : w20.heap.size = gh0 at ph0 ⊢)
        | (have ph0 : Blk w23 w21.heap.size 25 #[.int .i64 (gQ (mergeOk q0 xs0 q1 xs1) (max q0 q1 + 1) (mergeL xs0 xs1)), .slice Ah0 nh0 ch0] := Blk.step (by (repeat' (first | with_reducible refine Blk.drew ?_ | exact ((r3.set_ 0 _).set_ 1 _))); first | done | fail) hb23; generalize hgh0 : w21.heap.size = gh0 at ph0 ⊢)
      clear c3p0 c3p1 c3pw0 c3pg0 c3ow0 c3og0 c2p0 c2p1 c2pw0 c2pg0 c2ow0 c2og0 c1p0 c1p1 c1pw0 c1pg0 c1ow0 c1og0 hb20 hb21 hb22 hb23 HBc1 HBc2 HBc3 ohu01 ohu02 ohu12 oh03
      have fp0 := p0.two; have lp0 := p0.lt
      have fp1 := p1.two; have lp1 := p1.lt
      have fpw0 := pw0.two; have lpw0 := pw0.lt
      have fpg0 := pg0.two; have lpg0 := pg0.lt
      have fph0 := ph0.two; have lph0 := ph0.lt
      go_wp2_with fail
      refine (heldView_v _ _ _ (1) _ (og0.ints (B := w23.heap.size) (by omega)) (by omega) (by omega) (by omega)).mono ?_
      rintro e w24 ⟨rfl, hb24⟩
      clear fp0 lp0 fp1 lp1 fpw0 lpw0 fpg0 lpg0 fph0 lph0
      have z24 : w23.heap.size ≤ w24.heap.size := by have := hb24.size; simpa using this
      have st24 : Below w23.heap.size w23 w24 := (by repeat' (first | with_reducible exact Below.refl _ _ | with_reducible refine Below.alloc ?_ (by first | omega | (simp; done) | (simp; omega)) _ | with_reducible refine below_drewN ?_ _ | with_reducible refine Below.drew ?_ | with_reducible refine Below.setCell ?_ (by first | omega | (simp; done) | (simp; omega)) _ | with_reducible refine Below.trans ?_ (Below.mono hb24 (by first | omega | (simp; done) | (simp; omega)))))
      have HB24 : Below w.heap.size w w24 := HB23.trans (st24.mono HB23.size)
      replace p0 := p0.below st24 p0.lt
      replace p1 := p1.below st24 p1.lt
      replace pw0 := pw0.below st24 pw0.lt
      replace pg0 := pg0.below st24 pg0.lt
      replace ph0 := ph0.below st24 ph0.lt
      replace ow0 := ow0.keep (same_of_below st24 (by omega))
      replace og0 := og0.keep (same_of_below st24 (by omega))
      replace oh0 := oh0.keep (same_of_below st24 (by omega))
      clear HB23
      clear st24
      have fp0 := p0.two; have lp0 := p0.lt
      have fp1 := p1.two; have lp1 := p1.lt
      have fpw0 := pw0.two; have lpw0 := pw0.lt
      have fpg0 := pg0.two; have lpg0 := pg0.lt
      have fph0 := ph0.two; have lph0 := ph0.lt
      go_wp2
      go_ret
      exact ⟨rfl, HB24⟩
end Go.Proofs.YtmjacdcefaohcaaDoor
