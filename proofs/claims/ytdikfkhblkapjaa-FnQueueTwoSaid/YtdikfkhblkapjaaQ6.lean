/-
  The contract of the reference's QueueTake.
-/
import Derived.Test.YtdikfkhblkapjaaQ3
import Derived.ChangeAlike
namespace Go.Proofs.Ytdikfkhblkapjaa
open Go.RowKit
set_option linter.unusedVariables false

/-- A call hands back a queue in memory of its own, an item and a bool. -/
def RetQIB (xs ys : List Int) (item : Int) (b : Bool) (w : World) (e : Ending) (w' : World) : Prop :=
  ∃ A n c A' n' c', e = .returned (.tuple #[.agg #[.slice A n c, .slice A' n' c'], .int .i64 item, .bool b]) ∧ Own w' w.heap.size A n c xs ∧ Own w' w.heap.size A' n' c' ys ∧ Apart A A' ∧ Below w.heap.size w w'

/-- What QueueTake returns. -/
def takeOk (xs ys : List Int) (who : Int) : Bool := qvB xs ys && inB who 0 3
def takeB (xs ys : List Int) (who : Int) : Bool := takeOk xs ys who && decide (ys.length < xs.length)
def takeItems (xs ys : List Int) (who : Int) : List Int := if takeOk xs ys who then xs else []
def takeTaken (xs ys : List Int) (who : Int) : List Int := if takeOk xs ys who then (if ys.length < xs.length then ys ++ [who] else ys) else []
def takeItem (xs ys : List Int) (who : Int) : Int := if takeB xs ys who then xs.getD ys.length 0 else 0

theorem take_len (xs ys : List Int) (who : Int) : (takeItems xs ys who).length ≤ xs.length ∧ (takeTaken xs ys who).length ≤ ys.length + 1 ∧ (takeTaken xs ys who).length ≤ 20 := by
  unfold takeItems takeTaken
  by_cases h : takeOk xs ys who = true
  · have h2 : xs.length ≤ 20 ∧ ys.length ≤ xs.length := by
      simp only [takeOk, qvB, Bool.and_eq_true, decide_eq_true_eq] at h
      omega
    by_cases h3 : ys.length < xs.length <;> simp [h, h3] <;> omega
  · simp [h]
theorem RetQIB.zero {w w' : World} (h : Below w.heap.size w w') : RetQIB [] [] 0 false w (.returned (.tuple #[.agg #[.slice none 0 0, .slice none 0 0], .int .i64 0, .bool false])) w' :=
  ⟨none, 0, 0, none, 0, 0, rfl, Own.nil _ _, Own.nil _ _, Apart.none_left _, h⟩

theorem take_no {xs ys : List Int} {who : Int} (h : takeOk xs ys who = false) : takeItems xs ys who = [] ∧ takeTaken xs ys who = [] ∧ takeItem xs ys who = 0 ∧ takeB xs ys who = false := by
  simp [takeItems, takeTaken, takeItem, takeB, h]
theorem take_none {xs ys : List Int} {who : Int} (h : takeOk xs ys who = true) (h2 : xs.length ≤ ys.length) : takeItems xs ys who = xs ∧ takeTaken xs ys who = ys ∧ takeItem xs ys who = 0 ∧ takeB xs ys who = false := by
  simp [takeItems, takeTaken, takeItem, takeB, h]; omega
theorem take_yes {xs ys : List Int} {who x : Int} (h : takeOk xs ys who = true) (hx : xs[ys.length]? = some x) : takeItems xs ys who = xs ∧ takeTaken xs ys who = ys ++ [who] ∧ takeItem xs ys who = x ∧ takeB xs ys who = true := by
  have h2 : ys.length < xs.length := (List.getElem?_eq_some_iff.1 hx).1
  have h3 : takeB xs ys who = true := by simp [takeB, h, h2]
  refine ⟨by simp [takeItems, h], by simp [takeTaken, h, h2], ?_, h3⟩
  unfold takeItem
  rw [if_pos h3, List.getD_eq_getElem?_getD, hx]; rfl
theorem qv_len' {xs ys : List Int} (h : qvB xs ys = true) : xs.length ≤ 20 ∧ ys.length ≤ xs.length := by
  simp only [qvB, Bool.and_eq_true, decide_eq_true_eq] at h
  exact ⟨h.1.1.1, h.1.2⟩

set_option maxHeartbeats 4000000 in
theorem specTake_any (A A' : Option Addr) (n c n' c' : Nat) (xs ys : List Int) (who : Int) (w : World) (hx : Ints w w.heap.size A n xs) (hy : Ints w w.heap.size A' n' ys) (hn : n ≤ 1048576) (hn' : n' ≤ 1048576) :
    Calls Try.prog 45 #[.agg #[.slice A n c, .slice A' n' c'], .int .i64 who] w (RetQIB (takeItems xs ys who) (takeTaken xs ys who) (takeItem xs ys who) (takeB xs ys who) w) := by
  have b1 := (Blk.new w 34 #[.slice A n c, .slice A' n' c']).alloc (.cells #[.slice none 0 0, .slice none 0 0] 34)
  have b2 := Blk.new (w.alloc (.cells #[.slice A n c, .slice A' n' c'] 34)) 34 #[.slice none 0 0, .slice none 0 0]
  simp only [World.size_alloc] at b2
  cases h1 : qvB xs ys
  · obtain ⟨e1, e2, e3, e4⟩ := take_no (who := who) (show takeOk xs ys who = false by simp [takeOk, h1])
    rw [e1, e2, e3, e4]
    clear e1 e2 e3 e4
    go_enter Try.func45, Try.ntmps45
    go_wp2_with fail
    refine (specQueueValid_any _ _ _ _ _ _ xs ys _ ((hx.below (by repeat' (first | with_reducible exact Below.refl _ _ | with_reducible assumption | with_reducible refine Below.setCell ?_ (by first | omega | (simp; done) | (simp; omega)) _ | with_reducible refine Below.alloc ?_ (by first | omega | (simp; done) | (simp; omega)) _ | with_reducible refine below_drewN ?_ _ | with_reducible refine Below.drew ?_ | (with_reducible refine Below.trans ?_ (Below.mono (by with_reducible assumption) (by first | omega | (simp; done) | (simp; omega))))))).more (by first | omega | (simp; done) | (simp; omega))) ((hy.below (by repeat' (first | with_reducible exact Below.refl _ _ | with_reducible assumption | with_reducible refine Below.setCell ?_ (by first | omega | (simp; done) | (simp; omega)) _ | with_reducible refine Below.alloc ?_ (by first | omega | (simp; done) | (simp; omega)) _ | with_reducible refine below_drewN ?_ _ | with_reducible refine Below.drew ?_ | (with_reducible refine Below.trans ?_ (Below.mono (by with_reducible assumption) (by first | omega | (simp; done) | (simp; omega))))))).more (by first | omega | (simp; done) | (simp; omega))) hn hn').mono ?_
    rintro e w1 ⟨rfl, hb1⟩
    have p2 := b2.below hb1 (by first | omega | (simp; done) | (simp; omega))
    have f2 := p2.two
    go_wp2
    exact bodyPost_ret (v := .tuple #[.agg #[.slice none 0 0, .slice none 0 0], .int .i64 0, .bool false]) (by simp [results, Try.results45, go_sem, f2]) rfl (RetQIB.zero (by repeat' (first | with_reducible exact Below.refl _ _ | with_reducible assumption | with_reducible refine Below.setCell ?_ (by first | omega | (simp; done) | (simp; omega)) _ | with_reducible refine Below.alloc ?_ (by first | omega | (simp; done) | (simp; omega)) _ | with_reducible refine below_drewN ?_ _ | with_reducible refine Below.drew ?_ | (with_reducible refine Below.trans ?_ (Below.mono (by with_reducible assumption) (by first | omega | (simp; done) | (simp; omega)))))))
  · obtain ⟨hl1, hl2⟩ := qv_len' h1
    have HL := Lib.hid hx.len
    have HL' := Lib.hid hy.len
    have hnn : n' ≤ n := by have := HL.out; have := HL'.out; omega
    have hn20 : n ≤ 20 := by have := HL.out; omega
    clear hl1 hl2
    cases hit : inB who 0 3
    · obtain ⟨e1, e2, e3, e4⟩ := take_no (who := who) (show takeOk xs ys who = false by simp [takeOk, h1, hit])
      rw [e1, e2, e3, e4]
      clear e1 e2 e3 e4
      go_enter Try.func45, Try.ntmps45
      go_wp2_with fail
      refine (specQueueValid_any _ _ _ _ _ _ xs ys _ ((hx.below (by repeat' (first | with_reducible exact Below.refl _ _ | with_reducible assumption | with_reducible refine Below.setCell ?_ (by first | omega | (simp; done) | (simp; omega)) _ | with_reducible refine Below.alloc ?_ (by first | omega | (simp; done) | (simp; omega)) _ | with_reducible refine below_drewN ?_ _ | with_reducible refine Below.drew ?_ | (with_reducible refine Below.trans ?_ (Below.mono (by with_reducible assumption) (by first | omega | (simp; done) | (simp; omega))))))).more (by first | omega | (simp; done) | (simp; omega))) ((hy.below (by repeat' (first | with_reducible exact Below.refl _ _ | with_reducible assumption | with_reducible refine Below.setCell ?_ (by first | omega | (simp; done) | (simp; omega)) _ | with_reducible refine Below.alloc ?_ (by first | omega | (simp; done) | (simp; omega)) _ | with_reducible refine below_drewN ?_ _ | with_reducible refine Below.drew ?_ | (with_reducible refine Below.trans ?_ (Below.mono (by with_reducible assumption) (by first | omega | (simp; done) | (simp; omega))))))).more (by first | omega | (simp; done) | (simp; omega))) hn hn').mono ?_
      rintro e w1 ⟨rfl, hb1⟩
      have p2 := b2.below hb1 (by first | omega | (simp; done) | (simp; omega))
      have f2 := p2.two
      go_wp2_with fail
      refine (l6In_any _ _ _ _).mono ?_
      rintro e w' ⟨rfl, rfl⟩
      go_wp2
      exact bodyPost_ret (v := .tuple #[.agg #[.slice none 0 0, .slice none 0 0], .int .i64 0, .bool false]) (by simp [results, Try.results45, go_sem, f2]) rfl (RetQIB.zero (by repeat' (first | with_reducible exact Below.refl _ _ | with_reducible assumption | with_reducible refine Below.setCell ?_ (by first | omega | (simp; done) | (simp; omega)) _ | with_reducible refine Below.alloc ?_ (by first | omega | (simp; done) | (simp; omega)) _ | with_reducible refine below_drewN ?_ _ | with_reducible refine Below.drew ?_ | (with_reducible refine Below.trans ?_ (Below.mono (by with_reducible assumption) (by first | omega | (simp; done) | (simp; omega)))))))
    · have hok : takeOk xs ys who = true := by simp [takeOk, h1, hit]
      by_cases hfull : n' = n
      · subst hfull
        obtain ⟨e1, e2, e3, e4⟩ := take_none hok (by rw [HL.out, HL'.out]; exact Nat.le_refl _)
        rw [e1, e2, e3, e4]
        clear e1 e2 e3 e4 hok
        go_enter Try.func45, Try.ntmps45
        go_wp2_with fail
        refine (specQueueValid_any _ _ _ _ _ _ xs ys _ ((hx.below (by repeat' (first | with_reducible exact Below.refl _ _ | with_reducible assumption | with_reducible refine Below.setCell ?_ (by first | omega | (simp; done) | (simp; omega)) _ | with_reducible refine Below.alloc ?_ (by first | omega | (simp; done) | (simp; omega)) _ | with_reducible refine below_drewN ?_ _ | with_reducible refine Below.drew ?_ | (with_reducible refine Below.trans ?_ (Below.mono (by with_reducible assumption) (by first | omega | (simp; done) | (simp; omega))))))).more (by first | omega | (simp; done) | (simp; omega))) ((hy.below (by repeat' (first | with_reducible exact Below.refl _ _ | with_reducible assumption | with_reducible refine Below.setCell ?_ (by first | omega | (simp; done) | (simp; omega)) _ | with_reducible refine Below.alloc ?_ (by first | omega | (simp; done) | (simp; omega)) _ | with_reducible refine below_drewN ?_ _ | with_reducible refine Below.drew ?_ | (with_reducible refine Below.trans ?_ (Below.mono (by with_reducible assumption) (by first | omega | (simp; done) | (simp; omega))))))).more (by first | omega | (simp; done) | (simp; omega))) hn hn').mono ?_
        rintro e w1 ⟨rfl, hb1⟩
        have p1 := b1.below hb1 (by first | omega | (simp; done) | (simp; omega))
        have p2 := b2.below hb1 (by first | omega | (simp; done) | (simp; omega))
        have f1 := p1.two
        have hz1 := hb1.size
        simp at hz1
        go_wp2_with fail
        refine (l6In_any _ _ _ _).mono ?_
        rintro e w' ⟨rfl, rfl⟩
        go_wp2_with fail
        refine (l32Copy_any _ _ _ _ _ _ xs ys _ ((hx.below (by repeat' (first | with_reducible exact Below.refl _ _ | with_reducible assumption | with_reducible refine Below.setCell ?_ (by first | omega | (simp; done) | (simp; omega)) _ | with_reducible refine Below.alloc ?_ (by first | omega | (simp; done) | (simp; omega)) _ | with_reducible refine below_drewN ?_ _ | with_reducible refine Below.drew ?_ | (with_reducible refine Below.trans ?_ (Below.mono (by with_reducible assumption) (by first | omega | (simp; done) | (simp; omega))))))).more (by first | omega | (simp; done) | (simp; omega))) ((hy.below (by repeat' (first | with_reducible exact Below.refl _ _ | with_reducible assumption | with_reducible refine Below.setCell ?_ (by first | omega | (simp; done) | (simp; omega)) _ | with_reducible refine Below.alloc ?_ (by first | omega | (simp; done) | (simp; omega)) _ | with_reducible refine below_drewN ?_ _ | with_reducible refine Below.drew ?_ | (with_reducible refine Below.trans ?_ (Below.mono (by with_reducible assumption) (by first | omega | (simp; done) | (simp; omega))))))).more (by first | omega | (simp; done) | (simp; omega))) hn hn').mono ?_
        rintro e w2 ⟨A2, n2, c2, B2, m2, d2, rfl, o2, u2, ap2, hb2⟩
        replace p1 := p1.below hb2 (by first | omega | (simp; done) | (simp; omega))
        replace p2 := p2.below hb2 (by first | omega | (simp; done) | (simp; omega))
        have hz2 := hb2.size
        have g1 : w.heap.size < w2.heap.size := by omega
        have g2 : w.heap.size + 1 < w2.heap.size := by omega
        clear f1
        have f1 := p1.two
        have f2 := p2.two
        go_wp2_with fail
        exact bodyPost_ret (v := .tuple #[.agg #[.slice A2 n2 c2, .slice B2 m2 d2], .int .i64 0, .bool false]) (by simp [results, Try.results45, go_sem, f2, g2]) rfl ⟨A2, n2, c2, B2, m2, d2, rfl, (((o2.setBelow (by first | omega | (simp; done) | (simp; omega)) _).setBelow (by first | omega | (simp; done) | (simp; omega)) _).alloc _).mono (by first | omega | (simp; done) | (simp; omega)), (((u2.setBelow (by first | omega | (simp; done) | (simp; omega)) _).setBelow (by first | omega | (simp; done) | (simp; omega)) _).alloc _).mono (by first | omega | (simp; done) | (simp; omega)), ap2, (by repeat' (first | with_reducible exact Below.refl _ _ | with_reducible assumption | with_reducible refine Below.setCell ?_ (by first | omega | (simp; done) | (simp; omega)) _ | with_reducible refine Below.alloc ?_ (by first | omega | (simp; done) | (simp; omega)) _ | with_reducible refine below_drewN ?_ _ | with_reducible refine Below.drew ?_ | (with_reducible refine Below.trans ?_ (Below.mono (by with_reducible assumption) (by first | omega | (simp; done) | (simp; omega))))))⟩
      · have hfull' : ((n' : Int) == (n : Int)) = false := by simp; omega
        have hlt : n' < n := by omega
        obtain ⟨ad, x, rfl, hb, hc, hx1, _⟩ := hx.elem hlt
        obtain ⟨e1, e2, e3, e4⟩ := take_yes hok (x := x) (by rw [HL'.out]; exact hx1.out)
        rw [e1, e2, e3, e4]
        clear e1 e2 e3 e4 hok hfull
        go_enter Try.func45, Try.ntmps45
        go_wp2_with fail
        refine (specQueueValid_any _ _ _ _ _ _ xs ys _ ((hx.below (by repeat' (first | with_reducible exact Below.refl _ _ | with_reducible assumption | with_reducible refine Below.setCell ?_ (by first | omega | (simp; done) | (simp; omega)) _ | with_reducible refine Below.alloc ?_ (by first | omega | (simp; done) | (simp; omega)) _ | with_reducible refine below_drewN ?_ _ | with_reducible refine Below.drew ?_ | (with_reducible refine Below.trans ?_ (Below.mono (by with_reducible assumption) (by first | omega | (simp; done) | (simp; omega))))))).more (by first | omega | (simp; done) | (simp; omega))) ((hy.below (by repeat' (first | with_reducible exact Below.refl _ _ | with_reducible assumption | with_reducible refine Below.setCell ?_ (by first | omega | (simp; done) | (simp; omega)) _ | with_reducible refine Below.alloc ?_ (by first | omega | (simp; done) | (simp; omega)) _ | with_reducible refine below_drewN ?_ _ | with_reducible refine Below.drew ?_ | (with_reducible refine Below.trans ?_ (Below.mono (by with_reducible assumption) (by first | omega | (simp; done) | (simp; omega))))))).more (by first | omega | (simp; done) | (simp; omega))) hn hn').mono ?_
        rintro e w1 ⟨rfl, hb1⟩
        have p1 := b1.below hb1 (by first | omega | (simp; done) | (simp; omega))
        have p2 := b2.below hb1 (by first | omega | (simp; done) | (simp; omega))
        have f1 := p1.two
        have hz1 := hb1.size
        simp at hz1
        go_wp2_with fail
        refine (l6In_any _ _ _ _).mono ?_
        rintro e w' ⟨rfl, rfl⟩
        go_wp2_with fail
        refine (l32Copy_any _ _ _ _ _ _ xs ys _ ((hx.below (by repeat' (first | with_reducible exact Below.refl _ _ | with_reducible assumption | with_reducible refine Below.setCell ?_ (by first | omega | (simp; done) | (simp; omega)) _ | with_reducible refine Below.alloc ?_ (by first | omega | (simp; done) | (simp; omega)) _ | with_reducible refine below_drewN ?_ _ | with_reducible refine Below.drew ?_ | (with_reducible refine Below.trans ?_ (Below.mono (by with_reducible assumption) (by first | omega | (simp; done) | (simp; omega))))))).more (by first | omega | (simp; done) | (simp; omega))) ((hy.below (by repeat' (first | with_reducible exact Below.refl _ _ | with_reducible assumption | with_reducible refine Below.setCell ?_ (by first | omega | (simp; done) | (simp; omega)) _ | with_reducible refine Below.alloc ?_ (by first | omega | (simp; done) | (simp; omega)) _ | with_reducible refine below_drewN ?_ _ | with_reducible refine Below.drew ?_ | (with_reducible refine Below.trans ?_ (Below.mono (by with_reducible assumption) (by first | omega | (simp; done) | (simp; omega))))))).more (by first | omega | (simp; done) | (simp; omega))) hn hn').mono ?_
        rintro e w2 ⟨A2, n2, c2, B2, m2, d2, rfl, o2, u2, ap2, hb2⟩
        replace p1 := p1.below hb2 (by first | omega | (simp; done) | (simp; omega))
        replace p2 := p2.below hb2 (by first | omega | (simp; done) | (simp; omega))
        have hz2 := hb2.size
        have g1 : w.heap.size < w2.heap.size := by omega
        have g2 : w.heap.size + 1 < w2.heap.size := by omega
        clear f1
        have f1 := p1.two
        have f2 := p2.two
        have hn2 : m2 ≤ 20 := by have := u2.len; have := HL'.out; omega
        have b6 := Blk.new w2 34 #[.slice A2 n2 c2, .slice B2 m2 d2]
        go_wp2_with (at_builtin; refine app1 rfl _ _ rfl w1.heap.size rfl ((u2.alloc _).alloc _) _ _ _ _ [who] rfl (Ints.one' _ (by first | omega | (simp; done) | (simp; omega))) (by omega) (by first | omega | (simp; done) | (simp; omega)) ?_; intro B3 d3 w3 u3 hg3 at3; have q1 := Blk.grown ((p1.alloc _).alloc _) hg3 (fun e => by have := u2.lt e.symm; omega); have q2 := Blk.grown ((p2.alloc _).alloc _) hg3 (fun e => by have := u2.lt e.symm; omega); have q6 := Blk.grown (b6.alloc _) hg3 (fun e => by have := u2.lt e.symm; omega); have h1 := q1.two; have h2 := q2.two; have h6 := q6.two)
        have hb3 : Below w.heap.size w w3 := Below.grown (by repeat' (first | with_reducible exact Below.refl _ _ | with_reducible assumption | with_reducible refine Below.setCell ?_ (by first | omega | (simp; done) | (simp; omega)) _ | with_reducible refine Below.alloc ?_ (by first | omega | (simp; done) | (simp; omega)) _ | with_reducible refine below_drewN ?_ _ | with_reducible refine Below.drew ?_ | (with_reducible refine Below.trans ?_ (Below.mono (by with_reducible assumption) (by first | omega | (simp; done) | (simp; omega)))))) hg3 (by first | omega | (simp; done) | (simp; omega)) (fun k hk => by have := u2.lt hk; omega)
        have hcx : w3.cell? (ad.add n') = some (.int .i64 x) := (hb3.cell (by rw [block_of_add]; exact hb)).trans hc
        have far : ∀ (W : World) (b o : Nat) (u : Value), w.heap.size ≤ b → (W.setCell ⟨b, o, none⟩ u).cell? (ad.add n') = W.cell? (ad.add n') :=
          fun W b o u hbo => World.cell?_setCell_other W _ _ u (fun e => by have := congrArg Addr.block e; rw [block_of_add] at this; simp at this; omega)
        have hzz : w.heap.size ≤ w2.heap.size := by omega
        clear hc
        go_region
        go_wp2
        have o3 : Own w3 w1.heap.size A2 n2 c2 xs := ((o2.alloc _).alloc _).kept hg3 (fun k hk e => ap2 k hk e)
        have ap3 : Apart A2 B3 := by
          intro k hk hk'
          have hl := o2.lt hk
          rcases at3 with h | h
          · rw [h] at hk'; exact ap2 k hk hk'
          · rw [h] at hk'; simp at hk'; omega
        have ne3 : ∀ k, blk B3 = some k → k ≠ (⟨w2.heap.size, 1, none⟩ : Addr).block := by
          intro k hk
          rcases at3 with h | h
          · rw [h] at hk; have := u2.lt hk; simp; omega
          · rw [h] at hk; simp at hk ⊢; omega
        have ne4 : ∀ k, blk A2 = some k → k ≠ (⟨w2.heap.size, 1, none⟩ : Addr).block := by
          intro k hk
          have := o2.lt hk; simp; omega
        exact bodyPost_ret (v := .tuple #[.agg #[.slice A2 n2 c2, .slice B3 (m2 + 1) d3], .int .i64 x, .bool true]) (by simp [results, Try.results45, go_sem, h2]) rfl ⟨A2, n2, c2, B3, m2 + 1, d3, rfl, ((((o3.setCell ne4 _).setBelow (by first | omega | (simp; done) | (simp; omega)) _).setBelow (by first | omega | (simp; done) | (simp; omega)) _).drew).mono (by first | omega | (simp; done) | (simp; omega)), ((((u3.setCell ne3 _).setBelow (by first | omega | (simp; done) | (simp; omega)) _).setBelow (by first | omega | (simp; done) | (simp; omega)) _).drew).mono (by first | omega | (simp; done) | (simp; omega)), ap3, (by repeat' (first | with_reducible exact Below.refl _ _ | with_reducible assumption | with_reducible refine Below.setCell ?_ (by first | omega | (simp; done) | (simp; omega)) _ | with_reducible refine Below.alloc ?_ (by first | omega | (simp; done) | (simp; omega)) _ | with_reducible refine below_drewN ?_ _ | with_reducible refine Below.drew ?_ | (with_reducible refine Below.trans ?_ (Below.mono (by with_reducible assumption) (by first | omega | (simp; done) | (simp; omega))))))⟩
end Go.Proofs.Ytdikfkhblkapjaa
