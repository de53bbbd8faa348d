/-
  The draws of the queue's laws: what each leaves.
-/
import Derived.Test.YtdikfkhblkapjaaDQ
import Derived.Deep.RegionHeld3
namespace Go.Proofs.Ytdikfkhblkapjaa
open Go.RowKit
set_option linter.unusedVariables false

theorem Bytes.up {w : World} {A : Option Addr} {n : Nat} {bs : List Int} (hb : Bytes w w.heap.size A n bs) (o : Obj) : Bytes (w.alloc o) (w.alloc o).heap.size A n bs :=
  ⟨Reads.more (Reads.alloc hb.1 (Nat.le_refl _) o) (by simp), hb.2⟩

/-- A queue is drawn into memory of its own. -/
def DrewQL (w : World) (e : Ending) (w' : World) : Prop :=
  ∃ A n c A' n' c' xs ys, e = .returned (.agg #[.slice A n c, .slice A' n' c']) ∧ Own w' w.heap.size A n c xs ∧ Own w' w.heap.size A' n' c' ys ∧ n ≤ 21 ∧ n' ≤ 21 ∧ Below w.heap.size w w'

theorem drawQueueLeft_any (A : Option Addr) (n c : Nat) (bs : List Int) (w : World) (hb : Bytes w w.heap.size A n bs) (hn : n ≤ 1048576) (hc : n ≤ c) (hc' : c ≤ 9223372036854775807) :
    Calls Try.prog 28 #[.slice A n c] w (DrewQL w) := by
  go_enter Try.func28, Try.ntmps28
  go_wp2_with fail
  refine (open_any _ _ _ _ _ (hb.up _) hn hc hc').mono ?_
  rintro e w0 ⟨g, rfl, hr0, hg0, hb0⟩
  go_wp2_with fail
  refine (l92Queue_any _ _ _ _ hr0 (by omega) (by omega)).mono ?_
  rintro e w1 ⟨A1, n1, c1, A2, n2, c2, xs, ys, p', rfl, ho1, ho2, hn1, hn2, hr1, _, _, hgr, hbl⟩
  have hge : w.heap.size + 1 ≤ g := by have := hr0.lt; simpa using this.2
  have hq : Blk w1 w.heap.size 34 #[.slice none 0 0, .slice none 0 0] := ((Blk.new w _ _).below hb0 (by simp)).below hbl (by omega)
  have f := hq.two
  have hl := hq.lt
  go_wp2_with fail
  have hb0s := hb0.size
  simp at hb0s
  exact bodyPost_ret (v := .agg #[.slice A1 n1 c1, .slice A2 n2 c2]) (by simp [results, Try.results28, go_sem, f]) rfl
    ⟨A1, n1, c1, A2, n2, c2, xs, ys, rfl, ((ho1.setBelow (by first | omega | (simp; done) | (simp; omega)) _).setBelow (by first | omega | (simp; done) | (simp; omega)) _).mono (by first | omega | (simp; done) | (simp; omega)), ((ho2.setBelow (by first | omega | (simp; done) | (simp; omega)) _).setBelow (by first | omega | (simp; done) | (simp; omega)) _).mono (by first | omega | (simp; done) | (simp; omega)), hn1, hn2, (by repeat' (first | with_reducible exact Below.refl _ _ | with_reducible assumption | with_reducible refine Below.setCell ?_ (by first | omega | (simp; done) | (simp; omega)) _ | with_reducible refine Below.alloc ?_ (by first | omega | (simp; done) | (simp; omega)) _ | with_reducible refine below_drewN ?_ _ | with_reducible refine Below.drew ?_ | (with_reducible refine Below.trans ?_ (Below.mono (by with_reducible assumption) (by first | omega | (simp; done) | (simp; omega))))))⟩
/-- A queue and a number are drawn into memory of the call's own. -/
def DrewQI (w : World) (e : Ending) (w' : World) : Prop :=
  ∃ A n c A' n' c' xs ys x, e = .returned (.tuple #[.agg #[.slice A n c, .slice A' n' c'], .int .i64 x]) ∧ Own w' w.heap.size A n c xs ∧ Own w' w.heap.size A' n' c' ys ∧ n ≤ 21 ∧ n' ≤ 21 ∧ Below w.heap.size w w'

set_option maxHeartbeats 8000000 in
theorem drawQueueTake_any (A : Option Addr) (n c : Nat) (bs : List Int) (w : World) (hb : Bytes w w.heap.size A n bs) (hn : n ≤ 1048576) (hc : n ≤ c) (hc' : c ≤ 9223372036854775807) :
    Calls Try.prog 44 #[.slice A n c] w (DrewQI w) := by
  go_enter Try.func44, Try.ntmps44
  go_wp2_with fail
  refine (open_any _ _ _ _ _ (hb.up _) hn hc hc').mono ?_
  rintro e w0 ⟨g, rfl, hr0, hg0, hb0⟩
  go_wp2_with fail
  refine (l92Queue_any _ _ _ _ hr0 (by omega) (by omega)).mono ?_
  rintro e w1 ⟨A1, n1, c1, A2, n2, c2, xs, ys, p', rfl, ho1, ho2, hn1, hn2, hr1, hp1, hp2, hgr, hbl⟩
  have hge : w.heap.size + 1 ≤ g := by have := hr0.lt; simpa using this.2
  have hq : Blk w1 w.heap.size 34 #[.slice none 0 0, .slice none 0 0] := ((Blk.new w _ _).below hb0 (by simp)).below hbl (by omega)
  have hb0s := hb0.size
  simp at hb0s
  have hgl := hr1.lt
  have hB1 : Below w.heap.size w w1 := (by repeat' (first | with_reducible exact Below.refl _ _ | with_reducible assumption | with_reducible refine Below.setCell ?_ (by first | omega | (simp; done) | (simp; omega)) _ | with_reducible refine Below.alloc ?_ (by first | omega | (simp; done) | (simp; omega)) _ | with_reducible refine below_drewN ?_ _ | with_reducible refine Below.drew ?_ | (with_reducible refine Below.trans ?_ (Below.mono (by with_reducible assumption) (by first | omega | (simp; done) | (simp; omega))))))
  have z1 := hB1.size
  clear hb0 hbl hgr hr0
  have q1 := Blk.new w1 34 #[.slice A1 n1 c1, .slice A2 n2 c2]
  have hrb := hr1.alloc (.cells #[.slice A1 n1 c1, .slice A2 n2 c2] 34)
  have hqb := hq.alloc (.cells #[.slice A1 n1 c1, .slice A2 n2 c2] 34)
  have fq := q1.two
  have lz : w.heap.size < w1.heap.size := hq.lt
  go_wp2_with fail
  go_region_held3 (fun w' => w'.cell? ⟨w1.heap.size, 0, none⟩ = some (.slice A1 n1 c1) ∧ w'.cell? ⟨w1.heap.size, 1, none⟩ = some (.slice A2 n2 c2))
    (first | exact ⟨fq.1, fq.2.1⟩ | exact ⟨ft.1, ft.2.1⟩ | exact ⟨fu.1, fu.2.1⟩ | exact ⟨fv.1, fv.2.1⟩ | exact ⟨far_set (far_set fv.1 (by simp; omega) _) (by simp; omega) _, far_set (far_set fv.2.1 (by simp; omega) _) (by simp; omega) _⟩)
    (first
      | (go_at_call 49; (with_reducible refine (pick_pos _ g _ 4 _ hrb.drew (by omega) (by omega) (by omega) (by omega)).mono ?_); rintro e w2 ⟨v, rfl, hv0, hv1, hr2, hg2, hs2, hb2⟩; have z2 : w1.heap.size + 1 ≤ w2.heap.size := (by have := hg2.size; simpa using this); have q2 := Blk.grown q1.drew hg2 (fun e => by injection e with e; omega); have ft := q2.two; have r2 := Blk.grown hqb.drew hg2 (fun e => by injection e with e; omega); clear hs2)
      | (go_at_call 49; (with_reducible refine (pick_pos _ g _ 20 _ hr2 (by omega) (by omega) (by omega) (by omega)).mono ?_); rintro e w3 ⟨u, rfl, hu0, hu1, hr3, hg3, hs3, hb3⟩; have z3 : w2.heap.size ≤ w3.heap.size := hg3.size; have q3 := Blk.grown q2 hg3 (fun e => by injection e with e; omega); have fu := q3.two; have r3 := Blk.grown r2 hg3 (fun e => by injection e with e; omega); clear hs3)
      | (go_at_call 49; (with_reducible refine (pick_pos _ g _ 3 _ hr3 (by omega) (by omega) (by omega) (by omega)).mono ?_); rintro e w4 ⟨x, rfl, hx0, hx1, hr4, hg4, hs4, hb4⟩; have z4 : w3.heap.size ≤ w4.heap.size := hg4.size; have q4 := Blk.grown q3 hg4 (fun e => by injection e with e; omega); have fv := q4.two; have r4 := Blk.grown r3 hg4 (fun e => by injection e with e; omega); have fr := r4.two; have lr := r4.lt; clear hs4))
  have f1 := fr
  clear fq ft fu fv fr
  have r5 := (r4.set_ 0 (.slice A1 n1 c1)).set_ 1 (.slice A2 n2 c2)
  have f5 := r5.two
  have hB4 : Below w.heap.size w w4 := (((hB1.alloc z1 _).drew.trans (hb2.mono (by omega))).trans (hb3.mono (by omega))).trans (hb4.mono (by omega))
  have ow : ∀ {A : Option Addr} {n c : Nat} {xs : List Int}, Own w1 w0.heap.size A n c xs → Own w4 (w.heap.size + 1) A n c xs := by
    intro A n c xs h
    have a := (h.mono (base' := w.heap.size + 1) (by omega)).alloc (.cells #[.slice A1 n1 c1, .slice A2 n2 c2] 34)
    exact ((a.drew.kept hg2 (fun k hk e => by injection e with e; have := h.lt hk; omega)).kept hg3 (fun k hk e => by injection e with e; have := h.lt hk; omega)).kept hg4 (fun k hk e => by injection e with e; have := h.lt hk; omega)
  have o1 := ow ho1
  have o2 := ow ho2
  go_wp2_with fail
  refine bodyPost_ret (v := .tuple #[.agg #[.slice A1 n1 c1, .slice A2 n2 c2], .int .i64 (IntKind.i64.wrap (v + IntKind.i64.wrap (IntKind.i64.wrap (IntKind.i64.wrap (u.tdiv 19) * IntKind.i64.wrap (x - 1)) * 4)))]) (by simp [results, Try.results44, go_sem, f5]) rfl
    ⟨A1, n1, c1, A2, n2, c2, xs, ys, _, rfl, ((o1.setBelow (by first | omega | (simp; done) | (simp; omega)) _).setBelow (by first | omega | (simp; done) | (simp; omega)) _).mono (by first | omega | (simp; done) | (simp; omega)), ((o2.setBelow (by first | omega | (simp; done) | (simp; omega)) _).setBelow (by first | omega | (simp; done) | (simp; omega)) _).mono (by first | omega | (simp; done) | (simp; omega)), hn1, hn2, (by repeat' (first | with_reducible exact Below.refl _ _ | with_reducible assumption | with_reducible refine Below.setCell ?_ (by first | omega | (simp; done) | (simp; omega)) _ | with_reducible refine Below.alloc ?_ (by first | omega | (simp; done) | (simp; omega)) _ | with_reducible refine below_drewN ?_ _ | with_reducible refine Below.drew ?_ | (with_reducible refine Below.trans ?_ (Below.mono (by with_reducible assumption) (by first | omega | (simp; done) | (simp; omega))))))⟩
theorem drawQueueOf_any (A : Option Addr) (n c : Nat) (bs : List Int) (w : World) (hb : Bytes w w.heap.size A n bs) (hn : n ≤ 1048576) (hc : n ≤ c) (hc' : c ≤ 9223372036854775807) :
    Calls Try.prog 32 #[.slice A n c] w (DrewQI w) := by
  go_enter Try.func32, Try.ntmps32
  go_wp2_with fail
  refine (drawQueueTake_any _ _ _ _ _ (hb.up _) hn hc hc').mono ?_
  rintro e w1 ⟨A1, n1, c1, A2, n2, c2, xs, ys, x, rfl, o1, o2, hn1, hn2, hb1⟩
  have hq : Blk w1 w.heap.size 34 #[.slice none 0 0, .slice none 0 0] := (Blk.new w _ _).below hb1 (by simp)
  have f := hq.two
  have hl := hq.lt
  go_wp2_with fail
  exact bodyPost_ret (v := .tuple #[.agg #[.slice A1 n1 c1, .slice A2 n2 c2], .int .i64 x]) (by simp [results, Try.results32, go_sem, f]) rfl
    ⟨A1, n1, c1, A2, n2, c2, xs, ys, x, rfl, ((o1.setBelow (by first | omega | (simp; done) | (simp; omega)) _).setBelow (by first | omega | (simp; done) | (simp; omega)) _).mono (by first | omega | (simp; done) | (simp; omega)), ((o2.setBelow (by first | omega | (simp; done) | (simp; omega)) _).setBelow (by first | omega | (simp; done) | (simp; omega)) _).mono (by first | omega | (simp; done) | (simp; omega)), hn1, hn2, (by repeat' (first | with_reducible exact Below.refl _ _ | with_reducible assumption | with_reducible refine Below.setCell ?_ (by first | omega | (simp; done) | (simp; omega)) _ | with_reducible refine Below.alloc ?_ (by first | omega | (simp; done) | (simp; omega)) _ | with_reducible refine below_drewN ?_ _ | with_reducible refine Below.drew ?_ | (with_reducible refine Below.trans ?_ (Below.mono (by with_reducible assumption) (by first | omega | (simp; done) | (simp; omega))))))⟩
end Go.Proofs.Ytdikfkhblkapjaa
