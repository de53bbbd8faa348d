/-
  Contracts of QueueOf, the program's and the reference's, and of the reference's QueueLeft.
-/
import Derived.Test.YtdikfkhblkapjaaQ2
import Derived.Test.YtdikfkhblkapjaaCut
namespace Go.Proofs.Ytdikfkhblkapjaa
open Go.RowKit
set_option linter.unusedVariables false

/-- What the first k entries tell of a consumer's items. -/
def qofK (xs ys : List Int) (who : Int) (k : Nat) : List Int := ((List.range k).filter fun i => ys.getD i 0 == who).map fun i => xs.getD i 0
def qof (xs ys : List Int) (who : Int) : List Int := if qvB xs ys then qofK xs ys who ys.length else []
theorem qofK_zero (xs ys : List Int) (who : Int) : qofK xs ys who 0 = [] := by simp [qofK]
theorem qofK_yes {xs ys : List Int} {who x y : Int} {k : Nat} (hy : ys[k]? = some y) (hx : xs[k]? = some x) (h : (y == who) = true) : qofK xs ys who (k + 1) = qofK xs ys who k ++ [x] := by
  unfold qofK
  rw [List.range_succ, List.filter_append, List.map_append]
  simp [hy, hx, h]
theorem qofK_no {xs ys : List Int} {who y : Int} {k : Nat} (hy : ys[k]? = some y) (h : (y == who) = false) : qofK xs ys who (k + 1) = qofK xs ys who k := by
  unfold qofK
  rw [List.range_succ, List.filter_append, List.map_append]
  simp [hy, h]
theorem qofK_len (xs ys : List Int) (who : Int) (k : Nat) : (qofK xs ys who k).length ≤ k := by
  unfold qofK
  rw [List.length_map]
  exact Nat.le_trans (List.length_filter_le _ _) (by simp)
theorem qof_len (xs ys : List Int) (who : Int) : (qof xs ys who).length ≤ ys.length := by
  unfold qof; split
  · exact qofK_len _ _ _ _
  · simp
theorem qv_len {xs ys : List Int} (h : qvB xs ys = true) : xs.length ≤ 20 ∧ ys.length ≤ xs.length := by
  simp only [qvB, Bool.and_eq_true, decide_eq_true_eq] at h
  exact ⟨h.1.1.1, h.1.2⟩

theorem RetInts.zero {w w' : World} (h : Below w.heap.size w w') : RetInts [] w (.returned (.slice none 0 0)) w' := ⟨none, 0, 0, rfl, Own.nil _ _, h⟩

set_option maxHeartbeats 1000000 in
theorem implQueueOf_any (A A' : Option Addr) (n c n' c' : Nat) (xs ys : List Int) (who : Int) (w : World) (hx : Ints w w.heap.size A n xs) (hy : Ints w w.heap.size A' n' ys) (hn : n ≤ 1048576) (hn' : n' ≤ 1048576) :
    Calls Try.prog 33 #[.agg #[.slice A n c, .slice A' n' c'], .int .i64 who] w (RetInts (qof xs ys who) w) := by
  have b1 := Blk.new w 34 #[.slice A n c, .slice A' n' c']
  cases h1 : qvB xs ys
  · have e1 : qof xs ys who = [] := by simp [qof, h1]
    rw [e1]
    clear e1
    go_enter Try.func33, Try.ntmps33
    go_wp2_with fail
    refine (implQueueValid_any _ _ _ _ _ _ xs ys _ ((hx.below (by repeat' (first | with_reducible exact Below.refl _ _ | with_reducible assumption | with_reducible refine Below.setCell ?_ (by first | omega | (simp; done) | (simp; omega)) _ | with_reducible refine Below.alloc ?_ (by first | omega | (simp; done) | (simp; omega)) _ | with_reducible refine below_drewN ?_ _ | with_reducible refine Below.drew ?_ | (with_reducible refine Below.trans ?_ (Below.mono (by with_reducible assumption) (by first | omega | (simp; done) | (simp; omega))))))).more (by first | omega | (simp; done) | (simp; omega))) ((hy.below (by repeat' (first | with_reducible exact Below.refl _ _ | with_reducible assumption | with_reducible refine Below.setCell ?_ (by first | omega | (simp; done) | (simp; omega)) _ | with_reducible refine Below.alloc ?_ (by first | omega | (simp; done) | (simp; omega)) _ | with_reducible refine below_drewN ?_ _ | with_reducible refine Below.drew ?_ | (with_reducible refine Below.trans ?_ (Below.mono (by with_reducible assumption) (by first | omega | (simp; done) | (simp; omega))))))).more (by first | omega | (simp; done) | (simp; omega))) hn hn').mono ?_
    rintro e w1 ⟨rfl, hb1⟩
    go_wp2
    go_ret
    exact RetInts.zero (by repeat' (first | with_reducible exact Below.refl _ _ | with_reducible assumption | with_reducible refine Below.setCell ?_ (by first | omega | (simp; done) | (simp; omega)) _ | with_reducible refine Below.alloc ?_ (by first | omega | (simp; done) | (simp; omega)) _ | with_reducible refine below_drewN ?_ _ | with_reducible refine Below.drew ?_ | (with_reducible refine Below.trans ?_ (Below.mono (by with_reducible assumption) (by first | omega | (simp; done) | (simp; omega))))))
  · obtain ⟨hl1, hl2⟩ := qv_len h1
    have HL := Lib.hid hx.len
    have HL' := Lib.hid hy.len
    have hnn : n' ≤ n := by have := HL.out; have := HL'.out; omega
    have hn20 : n ≤ 20 := by have := HL.out; omega
    clear hl1 hl2
    have e1 : qof xs ys who = qofK xs ys who n' := by simp [qof, h1, HL'.out]
    rw [e1]
    clear e1
    go_enter Try.func33, Try.ntmps33
    go_wp2_with fail
    refine (implQueueValid_any _ _ _ _ _ _ xs ys _ ((hx.below (by repeat' (first | with_reducible exact Below.refl _ _ | with_reducible assumption | with_reducible refine Below.setCell ?_ (by first | omega | (simp; done) | (simp; omega)) _ | with_reducible refine Below.alloc ?_ (by first | omega | (simp; done) | (simp; omega)) _ | with_reducible refine below_drewN ?_ _ | with_reducible refine Below.drew ?_ | (with_reducible refine Below.trans ?_ (Below.mono (by with_reducible assumption) (by first | omega | (simp; done) | (simp; omega))))))).more (by first | omega | (simp; done) | (simp; omega))) ((hy.below (by repeat' (first | with_reducible exact Below.refl _ _ | with_reducible assumption | with_reducible refine Below.setCell ?_ (by first | omega | (simp; done) | (simp; omega)) _ | with_reducible refine Below.alloc ?_ (by first | omega | (simp; done) | (simp; omega)) _ | with_reducible refine below_drewN ?_ _ | with_reducible refine Below.drew ?_ | (with_reducible refine Below.trans ?_ (Below.mono (by with_reducible assumption) (by first | omega | (simp; done) | (simp; omega))))))).more (by first | omega | (simp; done) | (simp; omega))) hn hn').mono ?_
    rintro e w1 ⟨rfl, hb1⟩
    have p1 := b1.below hb1 (by first | omega | (simp; done) | (simp; omega))
    have f1 := p1.two
    have hz1 := hb1.size
    simp at hz1
    have g1 : w.heap.size < w1.heap.size := by omega
    go_wp2_with fail
    have hbx : Below w.heap.size w w1 := (by repeat' (first | with_reducible exact Below.refl _ _ | with_reducible assumption | with_reducible refine Below.setCell ?_ (by first | omega | (simp; done) | (simp; omega)) _ | with_reducible refine Below.alloc ?_ (by first | omega | (simp; done) | (simp; omega)) _ | with_reducible refine below_drewN ?_ _ | with_reducible refine Below.drew ?_ | (with_reducible refine Below.trans ?_ (Below.mono (by with_reducible assumption) (by first | omega | (simp; done) | (simp; omega))))))
    clear hb1 h1
    go_loopw [5, 15] (fun v i wr => ∃ (k : Nat) (A2 : Option Addr) (n2 c2 : Nat), k ≤ n' ∧ i = .int .i64 k ∧ v = .slice A2 n2 c2 ∧ Own wr (w.heap.size + 1) A2 n2 c2 (qofK xs ys who k) ∧ Below w.heap.size w wr ∧ Blk wr w.heap.size 34 #[.slice A n c, .slice A' n' c']) (fun _ i _ => n' - (intOf i).toNat)
    case atStart => exact ⟨0, _, _, _, Nat.zero_le _, rfl, rfl, by rw [qofK_zero]; (refine Own.lit0 ?_ ?_ <;> first | omega | (simp; done) | (simp; omega)), (by repeat' (first | with_reducible exact Below.refl _ _ | with_reducible assumption | with_reducible refine Below.setCell ?_ (by first | omega | (simp; done) | (simp; omega)) _ | with_reducible refine Below.alloc ?_ (by first | omega | (simp; done) | (simp; omega)) _ | with_reducible refine below_drewN ?_ _ | with_reducible refine Below.drew ?_ | (with_reducible refine Below.trans ?_ (Below.mono (by with_reducible assumption) (by first | omega | (simp; done) | (simp; omega)))))), p1.alloc _⟩
    case round =>
      obtain ⟨k, A2, n2, c2, hk, rfl, rfl, hown, hbw, hblk⟩ := hrel
      clear f1 p1 hbx
      have hlo : n2 ≤ k := by have := hown.len; have := qofK_len xs ys who k; omega
      have f1 := hblk.two
      by_cases hlt : k < n'
      · obtain ⟨ad, y, rfl, hb, hc, hy1, _⟩ := hy.elem hlt
        obtain ⟨ad2, x, rfl, hb2, hc2, hx1, _⟩ := hx.elem (k := k) (by omega)
        have hcy : wr.cell? (ad.add k) = some (.int .i64 y) := (hbw.cell (by rw [block_of_add]; omega)).trans hc
        have hcx : wr.cell? (ad2.add k) = some (.int .i64 x) := (hbw.cell (by rw [block_of_add]; omega)).trans hc2
        clear hc hc2
        cases hyw : (y == who)
        · go_wp2
          go_roundw
          case rel => exact ⟨k + 1, A2, n2, c2, by omega, by go_num, rfl, by rw [qofK_no hy1.out hyw]; exact hown, hbw, hblk⟩
          case measure => simp [intOf]; omega
        · go_wp2_with (at_builtin; refine app1 rfl _ _ rfl (w.heap.size + 1) rfl (hown.alloc _) _ _ _ _ [x] rfl (Ints.one' _ (by first | omega | (simp; done) | (simp; omega))) (by omega) (by have := hblk.lt; simp; omega) ?_; intro A3 c3 w3 o3 hg3 at3)
          go_roundw
          case rel => exact ⟨k + 1, A3, n2 + 1, c3, by omega, by go_num, rfl, by rw [qofK_yes hy1.out hx1.out hyw]; exact o3, Below.grown (hbw.alloc (by have := hblk.lt; omega) _) hg3 (by have := hblk.lt; simp; omega) (fun j hj => by have := hown.lt hj; omega), Blk.grown (hblk.alloc _) hg3 (fun e => by have := hown.lt e.symm; omega)⟩
          case measure => simp [intOf]; omega
      · have : k = n' := by omega
        subst this
        go_wp2
        go_ret
        exact ⟨A2, n2, c2, rfl, hown.mono (by omega), hbw⟩
set_option maxHeartbeats 1000000 in
theorem specQueueOf_any (A A' : Option Addr) (n c n' c' : Nat) (xs ys : List Int) (who : Int) (w : World) (hx : Ints w w.heap.size A n xs) (hy : Ints w w.heap.size A' n' ys) (hn : n ≤ 1048576) (hn' : n' ≤ 1048576) :
    Calls Try.prog 34 #[.agg #[.slice A n c, .slice A' n' c'], .int .i64 who] w (RetInts (qof xs ys who) w) := by
  have b1 := Blk.new w 34 #[.slice A n c, .slice A' n' c']
  have HL := Lib.hid hx.len
  have HL' := Lib.hid hy.len
  cases h1 : qvB xs ys
  · have e1 : qof xs ys who = [] := by simp [qof, h1]
    rw [e1]
    clear e1
    go_enter Try.func34, Try.ntmps34
    go_wp2_with fail
    go_loopw [5, 6] (fun v i wr => ∃ (A2 : Option Addr) (c2 : Nat), i = .int .i64 0 ∧ v = .slice A2 0 c2 ∧ Own wr (w.heap.size + 1) A2 0 c2 [] ∧ Below w.heap.size w wr ∧ Blk wr w.heap.size 34 #[.slice A n c, .slice A' n' c']) (fun _ _ _ => 0)
    case atStart => exact ⟨_, _, rfl, rfl, by (refine Own.lit0 ?_ ?_ <;> first | omega | (simp; done) | (simp; omega)), (by repeat' (first | with_reducible exact Below.refl _ _ | with_reducible assumption | with_reducible refine Below.setCell ?_ (by first | omega | (simp; done) | (simp; omega)) _ | with_reducible refine Below.alloc ?_ (by first | omega | (simp; done) | (simp; omega)) _ | with_reducible refine below_drewN ?_ _ | with_reducible refine Below.drew ?_ | (with_reducible refine Below.trans ?_ (Below.mono (by with_reducible assumption) (by first | omega | (simp; done) | (simp; omega)))))), b1.alloc _⟩
    case round =>
      obtain ⟨A2, c2, rfl, rfl, hown, hbw, hblk⟩ := hrel
      have f1 := hblk.two
      by_cases hlt : 0 < n'
      · go_wp2_with fail
        refine (specQueueValid_any _ _ _ _ _ _ xs ys _ ((hx.below hbw).more hbw.size) ((hy.below hbw).more hbw.size) hn hn').mono ?_
        rintro e w1 ⟨rfl, hb1⟩
        go_wp2
        go_ret
        exact ⟨A2, 0, c2, rfl, (hown.below hb1).mono (by omega), hbw.trans (hb1.mono hbw.size)⟩
      · have hz : n' = 0 := by omega
        subst hz
        go_wp2
        go_ret
        exact ⟨A2, 0, c2, rfl, hown.mono (by omega), hbw⟩
  · obtain ⟨hl1, hl2⟩ := qv_len h1
    have hnn : n' ≤ n := by have := HL.out; have := HL'.out; omega
    have hn20 : n ≤ 20 := by have := HL.out; omega
    clear hl1 hl2
    have e1 : qof xs ys who = qofK xs ys who n' := by simp [qof, h1, HL'.out]
    rw [e1]
    clear e1
    go_enter Try.func34, Try.ntmps34
    go_wp2_with fail
    go_loopw [5, 6] (fun v i wr => ∃ (k : Nat) (A2 : Option Addr) (n2 c2 : Nat), k ≤ n' ∧ i = .int .i64 k ∧ v = .slice A2 n2 c2 ∧ Own wr (w.heap.size + 1) A2 n2 c2 (qofK xs ys who k) ∧ Below w.heap.size w wr ∧ Blk wr w.heap.size 34 #[.slice A n c, .slice A' n' c']) (fun _ i _ => n' - (intOf i).toNat)
    case atStart => exact ⟨0, _, _, _, Nat.zero_le _, rfl, rfl, by rw [qofK_zero]; (refine Own.lit0 ?_ ?_ <;> first | omega | (simp; done) | (simp; omega)), (by repeat' (first | with_reducible exact Below.refl _ _ | with_reducible assumption | with_reducible refine Below.setCell ?_ (by first | omega | (simp; done) | (simp; omega)) _ | with_reducible refine Below.alloc ?_ (by first | omega | (simp; done) | (simp; omega)) _ | with_reducible refine below_drewN ?_ _ | with_reducible refine Below.drew ?_ | (with_reducible refine Below.trans ?_ (Below.mono (by with_reducible assumption) (by first | omega | (simp; done) | (simp; omega)))))), b1.alloc _⟩
    case round =>
      obtain ⟨k, A2, n2, c2, hk, rfl, rfl, hown, hbw, hblk⟩ := hrel
      have hlo : n2 ≤ k := by have := hown.len; have := qofK_len xs ys who k; omega
      have f1 := hblk.two
      by_cases hlt : k < n'
      · go_wp2_with fail
        refine (specQueueValid_any _ _ _ _ _ _ xs ys _ ((hx.below hbw).more hbw.size) ((hy.below hbw).more hbw.size) hn hn').mono ?_
        rintro e w1 ⟨rfl, hb1⟩
        have hbl := hblk.lt
        replace hblk := hblk.below hb1 hbl
        clear f1
        have f1 := hblk.two
        replace hown := hown.below hb1
        replace hbw := hbw.trans (hb1.mono hbw.size)
        obtain ⟨ad, y, rfl, hb, hc, hy1, _⟩ := hy.elem hlt
        obtain ⟨ad2, x, rfl, hb2, hc2, hx1, _⟩ := hx.elem (k := k) (by omega)
        have hcy : w1.cell? (ad.add k) = some (.int .i64 y) := (hbw.cell (by rw [block_of_add]; omega)).trans hc
        have hcx : w1.cell? (ad2.add k) = some (.int .i64 x) := (hbw.cell (by rw [block_of_add]; omega)).trans hc2
        clear hc hc2
        cases hyw : (y == who)
        · go_wp2
          go_roundw
          case rel => exact ⟨k + 1, A2, n2, c2, by omega, by go_num, rfl, by rw [qofK_no hy1.out hyw]; exact hown, hbw, hblk⟩
          case measure => simp [intOf]; omega
        · go_wp2_with (at_builtin; refine app1 rfl _ _ rfl (w.heap.size + 1) rfl (hown.alloc _) _ _ _ _ [x] rfl (Ints.one' _ (by first | omega | (simp; done) | (simp; omega))) (by omega) (by have := hblk.lt; simp; omega) ?_; intro A3 c3 w3 o3 hg3 at3)
          go_roundw
          case rel => exact ⟨k + 1, A3, n2 + 1, c3, by omega, by go_num, rfl, by rw [qofK_yes hy1.out hx1.out hyw]; exact o3, Below.grown (hbw.alloc (by have := hblk.lt; omega) _) hg3 (by have := hblk.lt; simp; omega) (fun j hj => by have := hown.lt hj; omega), Blk.grown (hblk.alloc _) hg3 (fun e => by have := hown.lt e.symm; omega)⟩
          case measure => simp [intOf]; omega
      · have : k = n' := by omega
        subst this
        go_wp2
        go_ret
        exact ⟨A2, n2, c2, rfl, hown.mono (by omega), hbw⟩
/-- The items that were not taken. -/
def qleft (xs ys : List Int) : List Int := if qvB xs ys then xs.drop ys.length else []
theorem qleft_len (xs ys : List Int) : (qleft xs ys).length ≤ xs.length := by
  unfold qleft; split
  · simp
  · simp
set_option maxHeartbeats 1000000 in
theorem specQueueLeft_any (A A' : Option Addr) (n c n' c' : Nat) (xs ys : List Int) (w : World) (hx : Ints w w.heap.size A n xs) (hy : Ints w w.heap.size A' n' ys) (hn : n ≤ 1048576) (hn' : n' ≤ 1048576) (hnc : n ≤ c) :
    Calls Try.prog 30 #[.agg #[.slice A n c, .slice A' n' c']] w (RetInts (qleft xs ys) w) := by
  have b1 := Blk.new w 34 #[.slice A n c, .slice A' n' c']
  cases h1 : qvB xs ys
  · have e1 : qleft xs ys = [] := by simp [qleft, h1]
    rw [e1]
    clear e1
    go_enter Try.func30, Try.ntmps30
    go_wp2_with fail
    refine (specQueueValid_any _ _ _ _ _ _ xs ys _ ((hx.below (by repeat' (first | with_reducible exact Below.refl _ _ | with_reducible assumption | with_reducible refine Below.setCell ?_ (by first | omega | (simp; done) | (simp; omega)) _ | with_reducible refine Below.alloc ?_ (by first | omega | (simp; done) | (simp; omega)) _ | with_reducible refine below_drewN ?_ _ | with_reducible refine Below.drew ?_ | (with_reducible refine Below.trans ?_ (Below.mono (by with_reducible assumption) (by first | omega | (simp; done) | (simp; omega))))))).more (by first | omega | (simp; done) | (simp; omega))) ((hy.below (by repeat' (first | with_reducible exact Below.refl _ _ | with_reducible assumption | with_reducible refine Below.setCell ?_ (by first | omega | (simp; done) | (simp; omega)) _ | with_reducible refine Below.alloc ?_ (by first | omega | (simp; done) | (simp; omega)) _ | with_reducible refine below_drewN ?_ _ | with_reducible refine Below.drew ?_ | (with_reducible refine Below.trans ?_ (Below.mono (by with_reducible assumption) (by first | omega | (simp; done) | (simp; omega))))))).more (by first | omega | (simp; done) | (simp; omega))) hn hn').mono ?_
    rintro e w1 ⟨rfl, hb1⟩
    have hz1 := hb1.size
    simp at hz1
    go_wp2
    go_ret
    exact ⟨_, _, _, rfl, (by (refine Own.lit0 ?_ ?_ <;> first | omega | (simp; done) | (simp; omega)) : Own _ w.heap.size _ _ _ []), (by repeat' (first | with_reducible exact Below.refl _ _ | with_reducible assumption | with_reducible refine Below.setCell ?_ (by first | omega | (simp; done) | (simp; omega)) _ | with_reducible refine Below.alloc ?_ (by first | omega | (simp; done) | (simp; omega)) _ | with_reducible refine below_drewN ?_ _ | with_reducible refine Below.drew ?_ | (with_reducible refine Below.trans ?_ (Below.mono (by with_reducible assumption) (by first | omega | (simp; done) | (simp; omega))))))⟩
  · obtain ⟨hl1, hl2⟩ := qv_len h1
    have HL := Lib.hid hx.len
    have HL' := Lib.hid hy.len
    have hnn : n' ≤ n := by have := HL.out; have := HL'.out; omega
    have hn20 : n ≤ 20 := by have := HL.out; omega
    clear hl1 hl2
    have e1 : qleft xs ys = xs.drop n' := by simp [qleft, h1, HL'.out]
    rw [e1]
    clear e1
    have hcut := hx.cut (k := n') (cap := c) hnn hnc
    have hsl := fun w => cut_run A n c n' hnn w
    generalize (if c = n' then A else A.map (·.add n')) = A0 at hcut hsl
    go_enter Try.func30, Try.ntmps30
    go_wp2_with fail
    refine (specQueueValid_any _ _ _ _ _ _ xs ys _ ((hx.below (by repeat' (first | with_reducible exact Below.refl _ _ | with_reducible assumption | with_reducible refine Below.setCell ?_ (by first | omega | (simp; done) | (simp; omega)) _ | with_reducible refine Below.alloc ?_ (by first | omega | (simp; done) | (simp; omega)) _ | with_reducible refine below_drewN ?_ _ | with_reducible refine Below.drew ?_ | (with_reducible refine Below.trans ?_ (Below.mono (by with_reducible assumption) (by first | omega | (simp; done) | (simp; omega))))))).more (by first | omega | (simp; done) | (simp; omega))) ((hy.below (by repeat' (first | with_reducible exact Below.refl _ _ | with_reducible assumption | with_reducible refine Below.setCell ?_ (by first | omega | (simp; done) | (simp; omega)) _ | with_reducible refine Below.alloc ?_ (by first | omega | (simp; done) | (simp; omega)) _ | with_reducible refine below_drewN ?_ _ | with_reducible refine Below.drew ?_ | (with_reducible refine Below.trans ?_ (Below.mono (by with_reducible assumption) (by first | omega | (simp; done) | (simp; omega))))))).more (by first | omega | (simp; done) | (simp; omega))) hn hn').mono ?_
    rintro e w1 ⟨rfl, hb1⟩
    have p1 := b1.below hb1 (by first | omega | (simp; done) | (simp; omega))
    have f1 := p1.two
    have hz1 := hb1.size
    simp at hz1
    have g1 : w.heap.size < w1.heap.size := by omega
    go_wp2_with (at_builtin; refine app1 rfl _ _ rfl (w.heap.size + 1) rfl (by (refine Own.lit0 ?_ ?_ <;> first | omega | (simp; done) | (simp; omega)) : Own _ _ _ 0 0 []) _ _ _ _ (xs.drop n') rfl (hcut.below (by repeat' (first | with_reducible exact Below.refl _ _ | with_reducible assumption | with_reducible refine Below.setCell ?_ (by first | omega | (simp; done) | (simp; omega)) _ | with_reducible refine Below.alloc ?_ (by first | omega | (simp; done) | (simp; omega)) _ | with_reducible refine below_drewN ?_ _ | with_reducible refine Below.drew ?_ | (with_reducible refine Below.trans ?_ (Below.mono (by with_reducible assumption) (by first | omega | (simp; done) | (simp; omega))))))) (by omega) (by first | omega | (simp; done) | (simp; omega)) ?_; intro A3 c3 w3 o3 hg3 at3; simp only [Nat.zero_add, List.nil_append] at o3)
    go_ret
    exact ⟨A3, n - n', c3, rfl, o3.mono (by omega), Below.grown (by repeat' (first | with_reducible exact Below.refl _ _ | with_reducible assumption | with_reducible refine Below.setCell ?_ (by first | omega | (simp; done) | (simp; omega)) _ | with_reducible refine Below.alloc ?_ (by first | omega | (simp; done) | (simp; omega)) _ | with_reducible refine below_drewN ?_ _ | with_reducible refine Below.drew ?_ | (with_reducible refine Below.trans ?_ (Below.mono (by with_reducible assumption) (by first | omega | (simp; done) | (simp; omega)))))) hg3 (by first | omega | (simp; done) | (simp; omega)) (fun j hj => by simp [blk] at hj; omega)⟩
end Go.Proofs.Ytdikfkhblkapjaa
