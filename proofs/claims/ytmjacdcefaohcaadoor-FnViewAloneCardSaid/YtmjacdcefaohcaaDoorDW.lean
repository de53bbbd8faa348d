/-
  The draws of the views' laws: a view; a view and a number.
-/
import Derived.Test.YtmjacdcefaohcaaDoorDV
import Derived.Deep.RegionHeld3
import Derived.IntWalk
namespace Go.Proofs.YtmjacdcefaohcaaDoor
open Go.RowKit
set_option linter.unusedVariables false

/-- A view is drawn into memory of the call's own. -/
def DrewVO (w : World) (e : Ending) (w' : World) : Prop := ∃ q A n c xs, e = .returned (.agg #[.int .i64 q, .slice A n c]) ∧ Own w' w.heap.size A n c xs ∧ n ≤ 9 ∧ Below w.heap.size w w'
theorem drawViewValid_any (A : Option Addr) (n c : Nat) (bs : List Int) (w : World) (hb : Bytes w w.heap.size A n bs) (hn : n ≤ 1048576) (hc : n ≤ c) (hc' : c ≤ 9223372036854775807) :
    Calls Tryd.prog 16 #[.slice A n c] w (DrewVO w) := by
  go_enter Tryd.func16, Tryd.ntmps16
  go_wp2_with fail
  refine (open_any _ _ _ _ _ (hb.up _) hn hc hc').mono ?_
  rintro e w0 ⟨g, rfl, hr0, hg0, hb0⟩
  go_wp2_with fail
  refine (l92View_any _ _ _ _ hr0 (by omega) (by omega)).mono ?_
  rintro e w1 ⟨q, A1, n1, c1, xs, p', rfl, ho1, hn1, hr1, hp1, hp2, hgr, hbl⟩
  have hge : w.heap.size + 1 ≤ g := by have := hr0.lt; simpa using this.2
  have hq : Blk w1 w.heap.size 25 #[.int .i64 0, .slice none 0 0] := ((Blk.new w _ _).below hb0 (by simp)).below hbl (by omega)
  have hb0s := hb0.size
  simp at hb0s
  have hB1 : Below w.heap.size w w1 := (by repeat' (first | with_reducible exact Below.refl _ _ | with_reducible assumption | with_reducible refine Below.setCell ?_ (by first | omega | (simp; done) | (simp; omega)) _ | with_reducible refine Below.alloc ?_ (by first | omega | (simp; done) | (simp; omega)) _ | with_reducible refine below_drewN ?_ _ | with_reducible refine Below.drew ?_ | (with_reducible refine Below.trans ?_ (Below.mono (by with_reducible assumption) (by first | omega | (simp; done) | (simp; omega))))))
  have f := hq.two
  have hl := hq.lt
  clear hb0 hbl hgr hr0
  go_wp2_with fail
  exact bodyPost_ret (v := .agg #[.int .i64 q, .slice A1 n1 c1]) (by simp [results, Tryd.results16, go_sem, f]) rfl
    ⟨q, A1, n1, c1, xs, rfl, ((ho1.setBelow (by first | omega | (simp; done) | (simp; omega)) _).setBelow (by first | omega | (simp; done) | (simp; omega)) _).mono (by first | omega | (simp; done) | (simp; omega)), hn1, (hB1.setCell (by first | omega | (simp; done) | (simp; omega)) _).setCell (by first | omega | (simp; done) | (simp; omega)) _⟩
/-- A view and a number are drawn into memory of the call's own. -/
def DrewVN (w : World) (e : Ending) (w' : World) : Prop :=
  ∃ q A n c xs x, e = .returned (.tuple #[.agg #[.int .i64 q, .slice A n c], .int .i64 x]) ∧ Own w' w.heap.size A n c xs ∧ n ≤ 9 ∧ -1 ≤ x ∧ x ≤ 8 ∧ Below w.heap.size w w'
set_option maxHeartbeats 8000000 in
theorem drawViewJoin_any (A : Option Addr) (n c : Nat) (bs : List Int) (w : World) (hb : Bytes w w.heap.size A n bs) (hn : n ≤ 1048576) (hc : n ≤ c) (hc' : c ≤ 9223372036854775807) :
    Calls Tryd.prog 21 #[.slice A n c] w (DrewVN w) := by
  go_enter Tryd.func21, Tryd.ntmps21
  go_wp2_with fail
  refine (open_any _ _ _ _ _ (hb.up _) hn hc hc').mono ?_
  rintro e w0 ⟨g, rfl, hr0, hg0, hb0⟩
  go_wp2_with fail
  refine (l92View_any _ _ _ _ hr0 (by omega) (by omega)).mono ?_
  rintro e w1 ⟨q, A1, n1, c1, xs, p', rfl, ho1, hn1, hr1, hp1, hp2, hgr, hbl⟩
  have hge : w.heap.size + 1 ≤ g := by have := hr0.lt; simpa using this.2
  have hq : Blk w1 w.heap.size 25 #[.int .i64 0, .slice none 0 0] := ((Blk.new w _ _).below hb0 (by simp)).below hbl (by omega)
  have hb0s := hb0.size
  simp at hb0s
  have hgl := hr1.lt
  have hB1 : Below w.heap.size w w1 := (by repeat' (first | with_reducible exact Below.refl _ _ | with_reducible assumption | with_reducible refine Below.setCell ?_ (by first | omega | (simp; done) | (simp; omega)) _ | with_reducible refine Below.alloc ?_ (by first | omega | (simp; done) | (simp; omega)) _ | with_reducible refine below_drewN ?_ _ | with_reducible refine Below.drew ?_ | (with_reducible refine Below.trans ?_ (Below.mono (by with_reducible assumption) (by first | omega | (simp; done) | (simp; omega))))))
  have z1 := hB1.size
  clear hb0 hbl hgr hr0
  have q1 := Blk.new w1 25 #[.int .i64 q, .slice A1 n1 c1]
  have hrb := hr1.alloc (.cells #[.int .i64 q, .slice A1 n1 c1] 25)
  have hqb := hq.alloc (.cells #[.int .i64 q, .slice A1 n1 c1] 25)
  have fq := q1.two
  have lz : w.heap.size < w1.heap.size := hq.lt
  go_wp2_with fail
  go_region_held3 (fun w' => w'.cell? ⟨w1.heap.size, 0, none⟩ = some (.int .i64 q) ∧ w'.cell? ⟨w1.heap.size, 1, none⟩ = some (.slice A1 n1 c1))
    (first | exact ⟨fq.1, fq.2.1⟩ | exact ⟨ft.1, ft.2.1⟩ | exact ⟨far_set (far_set ft.1 (by simp; omega) _) (by simp; omega) _, far_set (far_set ft.2.1 (by simp; omega) _) (by simp; omega) _⟩)
    (first
      | (go_at_call 50; (with_reducible refine (pick_pos _ g _ 10 _ hrb.drew (by omega) (by omega) (by omega) (by omega)).mono ?_); rintro e w2 ⟨v, rfl, hv0, hv1, hr2, hg2, hs2, hb2⟩; have z2 : w1.heap.size + 1 ≤ w2.heap.size := (by have := hg2.size; simpa using this); have q2 := Blk.grown q1.drew hg2 (fun e => by injection e with e; omega); have ft := q2.two; have r2 := Blk.grown hqb.drew hg2 (fun e => by injection e with e; omega); have fr := r2.two; have lr := r2.lt; clear hs2))
  have f1 := fr
  clear fq ft fr
  have r5 := (r2.set_ 0 (.int .i64 q)).set_ 1 (.slice A1 n1 c1)
  have f5 := r5.two
  have hB4 : Below w.heap.size w w2 := ((hB1.alloc z1 _).drew.trans (hb2.mono (by omega)))
  have o1 : Own w2 (w.heap.size + 1) A1 n1 c1 xs := ((ho1.mono (base' := w.heap.size + 1) (by omega)).alloc (.cells #[.int .i64 q, .slice A1 n1 c1] 25)).drew.kept hg2 (fun k hk e => by injection e with e; have := ho1.lt hk; omega)
  have hwv : IntKind.i64.wrap (v - 1) = v - 1 := IntWalk.i64_in _ (by omega)
  go_wp2_with fail
  refine bodyPost_ret (v := .tuple #[.agg #[.int .i64 q, .slice A1 n1 c1], .int .i64 (v - 1)]) (by simp [results, Tryd.results21, go_sem, f5, hwv]) rfl
    ⟨q, A1, n1, c1, xs, v - 1, rfl, ((o1.setBelow (by first | omega | (simp; done) | (simp; omega)) _).setBelow (by first | omega | (simp; done) | (simp; omega)) _).mono (by first | omega | (simp; done) | (simp; omega)), hn1, by omega, by omega, (hB4.setCell (by first | omega | (simp; done) | (simp; omega)) _).setCell (by first | omega | (simp; done) | (simp; omega)) _⟩
theorem drawViewLeave_any (A : Option Addr) (n c : Nat) (bs : List Int) (w : World) (hb : Bytes w w.heap.size A n bs) (hn : n ≤ 1048576) (hc : n ≤ c) (hc' : c ≤ 9223372036854775807) :
    Calls Tryd.prog 26 #[.slice A n c] w (DrewVN w) := by
  go_enter Tryd.func26, Tryd.ntmps26
  go_wp2_with fail
  refine (drawViewJoin_any _ _ _ _ _ (hb.up _) hn hc hc').mono ?_
  rintro e w1 ⟨q, A1, n1, c1, xs, x, rfl, o1, hn1, hx0, hx1, hb1⟩
  have hq : Blk w1 w.heap.size 25 #[.int .i64 0, .slice none 0 0] := (Blk.new w _ _).below hb1 (by simp)
  have f := hq.two
  have hl := hq.lt
  go_wp2_with fail
  exact bodyPost_ret (v := .tuple #[.agg #[.int .i64 q, .slice A1 n1 c1], .int .i64 x]) (by simp [results, Tryd.results26, go_sem, f]) rfl
    ⟨q, A1, n1, c1, xs, x, rfl, ((o1.setBelow (by first | omega | (simp; done) | (simp; omega)) _).setBelow (by first | omega | (simp; done) | (simp; omega)) _).mono (by first | omega | (simp; done) | (simp; omega)), hn1, hx0, hx1, (by repeat' (first | with_reducible exact Below.refl _ _ | with_reducible assumption | with_reducible refine Below.setCell ?_ (by first | omega | (simp; done) | (simp; omega)) _ | with_reducible refine Below.alloc ?_ (by first | omega | (simp; done) | (simp; omega)) _ | with_reducible refine below_drewN ?_ _ | with_reducible refine Below.drew ?_ | (with_reducible refine Below.trans ?_ (Below.mono (by with_reducible assumption) (by first | omega | (simp; done) | (simp; omega))))))⟩
theorem drawViewSplit_any (A : Option Addr) (n c : Nat) (bs : List Int) (w : World) (hb : Bytes w w.heap.size A n bs) (hn : n ≤ 1048576) (hc : n ≤ c) (hc' : c ≤ 9223372036854775807) :
    Calls Tryd.prog 29 #[.slice A n c] w (DrewVN w) := by
  go_enter Tryd.func29, Tryd.ntmps29
  go_wp2_with fail
  refine (drawViewJoin_any _ _ _ _ _ (hb.up _) hn hc hc').mono ?_
  rintro e w1 ⟨q, A1, n1, c1, xs, x, rfl, o1, hn1, hx0, hx1, hb1⟩
  have hq : Blk w1 w.heap.size 25 #[.int .i64 0, .slice none 0 0] := (Blk.new w _ _).below hb1 (by simp)
  have f := hq.two
  have hl := hq.lt
  go_wp2_with fail
  exact bodyPost_ret (v := .tuple #[.agg #[.int .i64 q, .slice A1 n1 c1], .int .i64 x]) (by simp [results, Tryd.results29, go_sem, f]) rfl
    ⟨q, A1, n1, c1, xs, x, rfl, ((o1.setBelow (by first | omega | (simp; done) | (simp; omega)) _).setBelow (by first | omega | (simp; done) | (simp; omega)) _).mono (by first | omega | (simp; done) | (simp; omega)), hn1, hx0, hx1, (by repeat' (first | with_reducible exact Below.refl _ _ | with_reducible assumption | with_reducible refine Below.setCell ?_ (by first | omega | (simp; done) | (simp; omega)) _ | with_reducible refine Below.alloc ?_ (by first | omega | (simp; done) | (simp; omega)) _ | with_reducible refine below_drewN ?_ _ | with_reducible refine Below.drew ?_ | (with_reducible refine Below.trans ?_ (Below.mono (by with_reducible assumption) (by first | omega | (simp; done) | (simp; omega))))))⟩
end Go.Proofs.YtmjacdcefaohcaaDoor
