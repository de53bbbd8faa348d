/-
  Contracts of QueuePut: the program's and the reference's.
-/
import Derived.Test.YtclajknghfnhcaaQ3
namespace Go.Proofs.Ytclajknghfnhcaa
open Go.RowKit
set_option linter.unusedVariables false

/-- A call hands back a queue in memory of its own and a bool. -/
def RetQB (xs ys : List Int) (b : Bool) (w : World) (e : Ending) (w' : World) : Prop :=
  ∃ A n c A' n' c', e = .returned (.tuple #[.agg #[.slice A n c, .slice A' n' c'], .bool b]) ∧ Own w' w.heap.size A n c xs ∧ Own w' w.heap.size A' n' c' ys ∧ Apart A A' ∧ Below w.heap.size w w'

/-- What QueuePut returns. -/
def putOk (xs ys : List Int) (item : Int) : Bool := qvB xs ys && inB item 0 999
def putItems (xs ys : List Int) (item : Int) : List Int := if putOk xs ys item then (if xs.length = 20 then xs else xs ++ [item]) else []
def putTaken (xs ys : List Int) (item : Int) : List Int := if putOk xs ys item then ys else []
def putB (xs ys : List Int) (item : Int) : Bool := putOk xs ys item && decide (xs.length < 20)

theorem RetQB.zero {w w' : World} (h : Below w.heap.size w w') : RetQB [] [] false w (.returned (.tuple #[.agg #[.slice none 0 0, .slice none 0 0], .bool false])) w' :=
  ⟨none, 0, 0, none, 0, 0, rfl, Own.nil _ _, Own.nil _ _, Apart.none_left _, h⟩

theorem put_no {xs ys : List Int} {item : Int} (h : putOk xs ys item = false) : putItems xs ys item = [] ∧ putTaken xs ys item = [] ∧ putB xs ys item = false := by
  simp [putItems, putTaken, putB, h]
theorem put_full {xs ys : List Int} {item : Int} (h : putOk xs ys item = true) (h2 : xs.length = 20) : putItems xs ys item = xs ∧ putTaken xs ys item = ys ∧ putB xs ys item = false := by
  simp [putItems, putTaken, putB, h, h2]
theorem put_yes {xs ys : List Int} {item : Int} (h : putOk xs ys item = true) (h2 : xs.length < 20) : putItems xs ys item = xs ++ [item] ∧ putTaken xs ys item = ys ∧ putB xs ys item = true := by
  simp [putItems, putTaken, putB, h, h2]
  omega
theorem qv_len4 {xs ys : List Int} (h : qvB xs ys = true) : xs.length ≤ 20 ∧ ys.length ≤ xs.length := by
  simp only [qvB, Bool.and_eq_true, decide_eq_true_eq] at h
  exact ⟨h.1.1.1, h.1.2⟩

theorem put_len (xs ys : List Int) (item : Int) : (putItems xs ys item).length ≤ xs.length + 1 ∧ (putItems xs ys item).length ≤ 20 ∧ (putTaken xs ys item).length ≤ ys.length := by
  unfold putItems putTaken
  by_cases h : putOk xs ys item = true
  · have h2 := (qv_len4 (xs := xs) (ys := ys) (by simp only [putOk, Bool.and_eq_true] at h; exact h.1)).1
    by_cases h3 : xs.length = 20 <;> simp [h, h3]
    omega
  · simp [h]
set_option maxHeartbeats 2000000 in
theorem implPut_any (A A' : Option Addr) (n c n' c' : Nat) (xs ys : List Int) (item : Int) (w : World) (hx : Ints w w.heap.size A n xs) (hy : Ints w w.heap.size A' n' ys) (hn : n ≤ 1048576) (hn' : n' ≤ 1048576) :
    Calls Try.prog 5 #[.agg #[.slice A n c, .slice A' n' c'], .int .i64 item] w (RetQB (putItems xs ys item) (putTaken xs ys item) (putB xs ys item) w) := by
  have b1 := (Blk.new w 25 #[.slice A n c, .slice A' n' c']).alloc (.cells #[.slice none 0 0, .slice none 0 0] 25)
  have b2 := Blk.new (w.alloc (.cells #[.slice A n c, .slice A' n' c'] 25)) 25 #[.slice none 0 0, .slice none 0 0]
  simp only [World.size_alloc] at b2
  cases h1 : qvB xs ys
  · obtain ⟨e1, e2, e3⟩ := put_no (item := item) (show putOk xs ys item = false by simp [putOk, h1])
    rw [e1, e2, e3]
    clear e1 e2 e3
    go_enter Try.func5, Try.ntmps5
    go_wp2_with fail
    refine (implQueueValid_any _ _ _ _ _ _ xs ys _ ((hx.below (by repeat' (first | with_reducible exact Below.refl _ _ | with_reducible assumption | with_reducible refine Below.setCell ?_ (by first | omega | (simp; done) | (simp; omega)) _ | with_reducible refine Below.alloc ?_ (by first | omega | (simp; done) | (simp; omega)) _ | with_reducible refine below_drewN ?_ _ | with_reducible refine Below.drew ?_ | (with_reducible refine Below.trans ?_ (Below.mono (by with_reducible assumption) (by first | omega | (simp; done) | (simp; omega))))))).more (by first | omega | (simp; done) | (simp; omega))) ((hy.below (by repeat' (first | with_reducible exact Below.refl _ _ | with_reducible assumption | with_reducible refine Below.setCell ?_ (by first | omega | (simp; done) | (simp; omega)) _ | with_reducible refine Below.alloc ?_ (by first | omega | (simp; done) | (simp; omega)) _ | with_reducible refine below_drewN ?_ _ | with_reducible refine Below.drew ?_ | (with_reducible refine Below.trans ?_ (Below.mono (by with_reducible assumption) (by first | omega | (simp; done) | (simp; omega))))))).more (by first | omega | (simp; done) | (simp; omega))) hn hn').mono ?_
    rintro e w1 ⟨rfl, hb1⟩
    have p2 := b2.below hb1 (by first | omega | (simp; done) | (simp; omega))
    have f2 := p2.two
    go_wp2
    exact bodyPost_ret (v := .tuple #[.agg #[.slice none 0 0, .slice none 0 0], .bool false]) (by simp [results, Try.results5, go_sem, f2]) rfl (RetQB.zero (by repeat' (first | with_reducible exact Below.refl _ _ | with_reducible assumption | with_reducible refine Below.setCell ?_ (by first | omega | (simp; done) | (simp; omega)) _ | with_reducible refine Below.alloc ?_ (by first | omega | (simp; done) | (simp; omega)) _ | with_reducible refine below_drewN ?_ _ | with_reducible refine Below.drew ?_ | (with_reducible refine Below.trans ?_ (Below.mono (by with_reducible assumption) (by first | omega | (simp; done) | (simp; omega)))))))
  · obtain ⟨hl1, hl2⟩ := qv_len4 h1
    have HL := Lib.hid hx.len
    have HL' := Lib.hid hy.len
    by_cases hit : inB item 0 999 = true
    · have hok : putOk xs ys item = true := by simp [putOk, h1, hit]
      have hi1 : 0 ≤ item ∧ item ≤ 999 := by simpa [inB] using hit
      obtain ⟨hi1, hi2⟩ := hi1
      by_cases hfull : n = 20
      · subst hfull
        obtain ⟨e1, e2, e3⟩ := put_full hok HL.out
        rw [e1, e2, e3]
        clear e1 e2 e3 hok hit
        go_enter Try.func5, Try.ntmps5
        go_wp2_with fail
        refine (implQueueValid_any _ _ _ _ _ _ xs ys _ ((hx.below (by repeat' (first | with_reducible exact Below.refl _ _ | with_reducible assumption | with_reducible refine Below.setCell ?_ (by first | omega | (simp; done) | (simp; omega)) _ | with_reducible refine Below.alloc ?_ (by first | omega | (simp; done) | (simp; omega)) _ | with_reducible refine below_drewN ?_ _ | with_reducible refine Below.drew ?_ | (with_reducible refine Below.trans ?_ (Below.mono (by with_reducible assumption) (by first | omega | (simp; done) | (simp; omega))))))).more (by first | omega | (simp; done) | (simp; omega))) ((hy.below (by repeat' (first | with_reducible exact Below.refl _ _ | with_reducible assumption | with_reducible refine Below.setCell ?_ (by first | omega | (simp; done) | (simp; omega)) _ | with_reducible refine Below.alloc ?_ (by first | omega | (simp; done) | (simp; omega)) _ | with_reducible refine below_drewN ?_ _ | with_reducible refine Below.drew ?_ | (with_reducible refine Below.trans ?_ (Below.mono (by with_reducible assumption) (by first | omega | (simp; done) | (simp; omega))))))).more (by first | omega | (simp; done) | (simp; omega))) hn hn').mono ?_
        rintro e w1 ⟨rfl, hb1⟩
        have p1 := b1.below hb1 (by first | omega | (simp; done) | (simp; omega))
        have p2 := b2.below hb1 (by first | omega | (simp; done) | (simp; omega))
        have f1 := p1.two
        have hz1 := hb1.size
        simp at hz1
        go_wp2_with fail
        refine (copyQueue_any _ _ _ _ _ _ xs ys _ ((hx.below (by repeat' (first | with_reducible exact Below.refl _ _ | with_reducible assumption | with_reducible refine Below.setCell ?_ (by first | omega | (simp; done) | (simp; omega)) _ | with_reducible refine Below.alloc ?_ (by first | omega | (simp; done) | (simp; omega)) _ | with_reducible refine below_drewN ?_ _ | with_reducible refine Below.drew ?_ | (with_reducible refine Below.trans ?_ (Below.mono (by with_reducible assumption) (by first | omega | (simp; done) | (simp; omega))))))).more (by first | omega | (simp; done) | (simp; omega))) ((hy.below (by repeat' (first | with_reducible exact Below.refl _ _ | with_reducible assumption | with_reducible refine Below.setCell ?_ (by first | omega | (simp; done) | (simp; omega)) _ | with_reducible refine Below.alloc ?_ (by first | omega | (simp; done) | (simp; omega)) _ | with_reducible refine below_drewN ?_ _ | with_reducible refine Below.drew ?_ | (with_reducible refine Below.trans ?_ (Below.mono (by with_reducible assumption) (by first | omega | (simp; done) | (simp; omega))))))).more (by first | omega | (simp; done) | (simp; omega))) hn hn').mono ?_
        rintro e w2 ⟨A2, n2, c2, B2, m2, d2, rfl, o2, u2, ap2, hb2⟩
        replace p1 := p1.below hb2 (by first | omega | (simp; done) | (simp; omega))
        replace p2 := p2.below hb2 (by first | omega | (simp; done) | (simp; omega))
        have hz2 := hb2.size
        have g1 : w.heap.size < w2.heap.size := by omega
        have g2 : w.heap.size + 1 < w2.heap.size := by omega
        clear f1
        have f1 := p1.two
        have f2 := p2.two
        go_wp2_with fail
        exact bodyPost_ret (v := .tuple #[.agg #[.slice A2 n2 c2, .slice B2 m2 d2], .bool false]) (by simp [results, Try.results5, go_sem, f2, g2]) rfl ⟨A2, n2, c2, B2, m2, d2, rfl, (((o2.setBelow (by first | omega | (simp; done) | (simp; omega)) _).setBelow (by first | omega | (simp; done) | (simp; omega)) _).alloc _).mono (by first | omega | (simp; done) | (simp; omega)), (((u2.setBelow (by first | omega | (simp; done) | (simp; omega)) _).setBelow (by first | omega | (simp; done) | (simp; omega)) _).alloc _).mono (by first | omega | (simp; done) | (simp; omega)), ap2, (by repeat' (first | with_reducible exact Below.refl _ _ | with_reducible assumption | with_reducible refine Below.setCell ?_ (by first | omega | (simp; done) | (simp; omega)) _ | with_reducible refine Below.alloc ?_ (by first | omega | (simp; done) | (simp; omega)) _ | with_reducible refine below_drewN ?_ _ | with_reducible refine Below.drew ?_ | (with_reducible refine Below.trans ?_ (Below.mono (by with_reducible assumption) (by first | omega | (simp; done) | (simp; omega))))))⟩
      · have hfull' : ((n : Int) == 20) = false := by simp; omega
        have hlt20 : n < 20 := by have := HL.out; omega
        obtain ⟨e1, e2, e3⟩ := put_yes hok (show xs.length < 20 by rw [HL.out] at hl1 ⊢; omega)
        rw [e1, e2, e3]
        clear e1 e2 e3 hok hit
        go_enter Try.func5, Try.ntmps5
        go_wp2_with fail
        refine (implQueueValid_any _ _ _ _ _ _ xs ys _ ((hx.below (by repeat' (first | with_reducible exact Below.refl _ _ | with_reducible assumption | with_reducible refine Below.setCell ?_ (by first | omega | (simp; done) | (simp; omega)) _ | with_reducible refine Below.alloc ?_ (by first | omega | (simp; done) | (simp; omega)) _ | with_reducible refine below_drewN ?_ _ | with_reducible refine Below.drew ?_ | (with_reducible refine Below.trans ?_ (Below.mono (by with_reducible assumption) (by first | omega | (simp; done) | (simp; omega))))))).more (by first | omega | (simp; done) | (simp; omega))) ((hy.below (by repeat' (first | with_reducible exact Below.refl _ _ | with_reducible assumption | with_reducible refine Below.setCell ?_ (by first | omega | (simp; done) | (simp; omega)) _ | with_reducible refine Below.alloc ?_ (by first | omega | (simp; done) | (simp; omega)) _ | with_reducible refine below_drewN ?_ _ | with_reducible refine Below.drew ?_ | (with_reducible refine Below.trans ?_ (Below.mono (by with_reducible assumption) (by first | omega | (simp; done) | (simp; omega))))))).more (by first | omega | (simp; done) | (simp; omega))) hn hn').mono ?_
        rintro e w1 ⟨rfl, hb1⟩
        have p1 := b1.below hb1 (by first | omega | (simp; done) | (simp; omega))
        have p2 := b2.below hb1 (by first | omega | (simp; done) | (simp; omega))
        have f1 := p1.two
        have hz1 := hb1.size
        simp at hz1
        go_wp2_with fail
        refine (copyQueue_any _ _ _ _ _ _ xs ys _ ((hx.below (by repeat' (first | with_reducible exact Below.refl _ _ | with_reducible assumption | with_reducible refine Below.setCell ?_ (by first | omega | (simp; done) | (simp; omega)) _ | with_reducible refine Below.alloc ?_ (by first | omega | (simp; done) | (simp; omega)) _ | with_reducible refine below_drewN ?_ _ | with_reducible refine Below.drew ?_ | (with_reducible refine Below.trans ?_ (Below.mono (by with_reducible assumption) (by first | omega | (simp; done) | (simp; omega))))))).more (by first | omega | (simp; done) | (simp; omega))) ((hy.below (by repeat' (first | with_reducible exact Below.refl _ _ | with_reducible assumption | with_reducible refine Below.setCell ?_ (by first | omega | (simp; done) | (simp; omega)) _ | with_reducible refine Below.alloc ?_ (by first | omega | (simp; done) | (simp; omega)) _ | with_reducible refine below_drewN ?_ _ | with_reducible refine Below.drew ?_ | (with_reducible refine Below.trans ?_ (Below.mono (by with_reducible assumption) (by first | omega | (simp; done) | (simp; omega))))))).more (by first | omega | (simp; done) | (simp; omega))) hn hn').mono ?_
        rintro e w2 ⟨A2, n2, c2, B2, m2, d2, rfl, o2, u2, ap2, hb2⟩
        replace p1 := p1.below hb2 (by first | omega | (simp; done) | (simp; omega))
        replace p2 := p2.below hb2 (by first | omega | (simp; done) | (simp; omega))
        have hz2 := hb2.size
        have g1 : w.heap.size < w2.heap.size := by omega
        have g2 : w.heap.size + 1 < w2.heap.size := by omega
        clear f1
        have f1 := p1.two
        have f2 := p2.two
        have hn2 : n2 ≤ 20 := (by have := (o2).len; have := (hx).len; omega)
        have b6 := Blk.new w2 25 #[.slice A2 n2 c2, .slice B2 m2 d2]
        go_wp2_with (at_builtin; refine app1 rfl _ _ rfl w1.heap.size rfl ((o2.alloc _).alloc _) _ _ _ _ [item] rfl (Ints.one' _ (by first | omega | (simp; done) | (simp; omega))) (by omega) (by first | omega | (simp; done) | (simp; omega)) ?_; intro A3 c3 w3 o3 hg3 at3; have q2 := Blk.grown ((p2.alloc _).alloc _) hg3 (fun e => by have := o2.lt e.symm; omega); have q6 := Blk.grown (b6.alloc _) hg3 (fun e => by have := o2.lt e.symm; omega); have h2 := q2.two; have h6 := q6.two)
        have hb3 : Below w.heap.size w w3 := Below.grown (by repeat' (first | with_reducible exact Below.refl _ _ | with_reducible assumption | with_reducible refine Below.setCell ?_ (by first | omega | (simp; done) | (simp; omega)) _ | with_reducible refine Below.alloc ?_ (by first | omega | (simp; done) | (simp; omega)) _ | with_reducible refine below_drewN ?_ _ | with_reducible refine Below.drew ?_ | (with_reducible refine Below.trans ?_ (Below.mono (by with_reducible assumption) (by first | omega | (simp; done) | (simp; omega)))))) hg3 (by first | omega | (simp; done) | (simp; omega)) (fun k hk => by have := o2.lt hk; omega)
        have u3 : Own w3 w1.heap.size B2 m2 d2 ys := ((u2.alloc _).alloc _).kept hg3 (fun k hk e => ap2 k e hk)
        have ap3 : Apart A3 B2 := by
          intro k hk hk'
          have hl := u2.lt hk'
          rcases at3 with h | h
          · rw [h] at hk; exact ap2 k hk hk'
          · rw [h] at hk; simp at hk; omega
        have ne3 : ∀ k, blk A3 = some k → k ≠ (⟨w2.heap.size, 0, none⟩ : Addr).block := by
          intro k hk
          rcases at3 with h | h
          · rw [h] at hk; have := o2.lt hk; simp; omega
          · rw [h] at hk; simp at hk ⊢; omega
        have ne4 : ∀ k, blk B2 = some k → k ≠ (⟨w2.heap.size, 0, none⟩ : Addr).block := by
          intro k hk
          have := u2.lt hk; simp; omega
        exact bodyPost_ret (v := .tuple #[.agg #[.slice A3 (n2 + 1) c3, .slice B2 m2 d2], .bool true]) (by simp [results, Try.results5, go_sem, h2]) rfl ⟨A3, n2 + 1, c3, B2, m2, d2, rfl, (((o3.setCell ne3 _).setBelow (by first | omega | (simp; done) | (simp; omega)) _).setBelow (by first | omega | (simp; done) | (simp; omega)) _).mono (by first | omega | (simp; done) | (simp; omega)), (((u3.setCell ne4 _).setBelow (by first | omega | (simp; done) | (simp; omega)) _).setBelow (by first | omega | (simp; done) | (simp; omega)) _).mono (by first | omega | (simp; done) | (simp; omega)), ap3, (by repeat' (first | with_reducible exact Below.refl _ _ | with_reducible assumption | with_reducible refine Below.setCell ?_ (by first | omega | (simp; done) | (simp; omega)) _ | with_reducible refine Below.alloc ?_ (by first | omega | (simp; done) | (simp; omega)) _ | with_reducible refine below_drewN ?_ _ | with_reducible refine Below.drew ?_ | (with_reducible refine Below.trans ?_ (Below.mono (by with_reducible assumption) (by first | omega | (simp; done) | (simp; omega))))))⟩
    · have hok : putOk xs ys item = false := by simp [putOk, h1, hit]
      obtain ⟨e1, e2, e3⟩ := put_no hok
      rw [e1, e2, e3]
      clear e1 e2 e3 hok
      have hit' : item < 0 ∨ (0 ≤ item ∧ 999 < item) := by simp [inB] at hit; omega
      clear hit
      rcases hit' with hi | ⟨hi0, hi⟩
      all_goals
        go_enter Try.func5, Try.ntmps5
        go_wp2_with fail
        refine (implQueueValid_any _ _ _ _ _ _ xs ys _ ((hx.below (by repeat' (first | with_reducible exact Below.refl _ _ | with_reducible assumption | with_reducible refine Below.setCell ?_ (by first | omega | (simp; done) | (simp; omega)) _ | with_reducible refine Below.alloc ?_ (by first | omega | (simp; done) | (simp; omega)) _ | with_reducible refine below_drewN ?_ _ | with_reducible refine Below.drew ?_ | (with_reducible refine Below.trans ?_ (Below.mono (by with_reducible assumption) (by first | omega | (simp; done) | (simp; omega))))))).more (by first | omega | (simp; done) | (simp; omega))) ((hy.below (by repeat' (first | with_reducible exact Below.refl _ _ | with_reducible assumption | with_reducible refine Below.setCell ?_ (by first | omega | (simp; done) | (simp; omega)) _ | with_reducible refine Below.alloc ?_ (by first | omega | (simp; done) | (simp; omega)) _ | with_reducible refine below_drewN ?_ _ | with_reducible refine Below.drew ?_ | (with_reducible refine Below.trans ?_ (Below.mono (by with_reducible assumption) (by first | omega | (simp; done) | (simp; omega))))))).more (by first | omega | (simp; done) | (simp; omega))) hn hn').mono ?_
        rintro e w1 ⟨rfl, hb1⟩
        have p2 := b2.below hb1 (by first | omega | (simp; done) | (simp; omega))
        have f2 := p2.two
        go_wp2
        exact bodyPost_ret (v := .tuple #[.agg #[.slice none 0 0, .slice none 0 0], .bool false]) (by simp [results, Try.results5, go_sem, f2]) rfl (RetQB.zero (by repeat' (first | with_reducible exact Below.refl _ _ | with_reducible assumption | with_reducible refine Below.setCell ?_ (by first | omega | (simp; done) | (simp; omega)) _ | with_reducible refine Below.alloc ?_ (by first | omega | (simp; done) | (simp; omega)) _ | with_reducible refine below_drewN ?_ _ | with_reducible refine Below.drew ?_ | (with_reducible refine Below.trans ?_ (Below.mono (by with_reducible assumption) (by first | omega | (simp; done) | (simp; omega)))))))
set_option maxHeartbeats 2000000 in
theorem specPut_any (A A' : Option Addr) (n c n' c' : Nat) (xs ys : List Int) (item : Int) (w : World) (hx : Ints w w.heap.size A n xs) (hy : Ints w w.heap.size A' n' ys) (hn : n ≤ 1048576) (hn' : n' ≤ 1048576) :
    Calls Try.prog 6 #[.agg #[.slice A n c, .slice A' n' c'], .int .i64 item] w (RetQB (putItems xs ys item) (putTaken xs ys item) (putB xs ys item) w) := by
  have b1 := (Blk.new w 25 #[.slice A n c, .slice A' n' c']).alloc (.cells #[.slice none 0 0, .slice none 0 0] 25)
  have b2 := Blk.new (w.alloc (.cells #[.slice A n c, .slice A' n' c'] 25)) 25 #[.slice none 0 0, .slice none 0 0]
  simp only [World.size_alloc] at b2
  cases h1 : qvB xs ys
  · obtain ⟨e1, e2, e3⟩ := put_no (item := item) (show putOk xs ys item = false by simp [putOk, h1])
    rw [e1, e2, e3]
    clear e1 e2 e3
    go_enter Try.func6, Try.ntmps6
    go_wp2_with fail
    refine (specQueueValid_any _ _ _ _ _ _ xs ys _ ((hx.below (by repeat' (first | with_reducible exact Below.refl _ _ | with_reducible assumption | with_reducible refine Below.setCell ?_ (by first | omega | (simp; done) | (simp; omega)) _ | with_reducible refine Below.alloc ?_ (by first | omega | (simp; done) | (simp; omega)) _ | with_reducible refine below_drewN ?_ _ | with_reducible refine Below.drew ?_ | (with_reducible refine Below.trans ?_ (Below.mono (by with_reducible assumption) (by first | omega | (simp; done) | (simp; omega))))))).more (by first | omega | (simp; done) | (simp; omega))) ((hy.below (by repeat' (first | with_reducible exact Below.refl _ _ | with_reducible assumption | with_reducible refine Below.setCell ?_ (by first | omega | (simp; done) | (simp; omega)) _ | with_reducible refine Below.alloc ?_ (by first | omega | (simp; done) | (simp; omega)) _ | with_reducible refine below_drewN ?_ _ | with_reducible refine Below.drew ?_ | (with_reducible refine Below.trans ?_ (Below.mono (by with_reducible assumption) (by first | omega | (simp; done) | (simp; omega))))))).more (by first | omega | (simp; done) | (simp; omega))) hn hn').mono ?_
    rintro e w1 ⟨rfl, hb1⟩
    have p2 := b2.below hb1 (by first | omega | (simp; done) | (simp; omega))
    have f2 := p2.two
    go_wp2
    exact bodyPost_ret (v := .tuple #[.agg #[.slice none 0 0, .slice none 0 0], .bool false]) (by simp [results, Try.results6, go_sem, f2]) rfl (RetQB.zero (by repeat' (first | with_reducible exact Below.refl _ _ | with_reducible assumption | with_reducible refine Below.setCell ?_ (by first | omega | (simp; done) | (simp; omega)) _ | with_reducible refine Below.alloc ?_ (by first | omega | (simp; done) | (simp; omega)) _ | with_reducible refine below_drewN ?_ _ | with_reducible refine Below.drew ?_ | (with_reducible refine Below.trans ?_ (Below.mono (by with_reducible assumption) (by first | omega | (simp; done) | (simp; omega)))))))
  · obtain ⟨hl1, hl2⟩ := qv_len4 h1
    have HL := Lib.hid hx.len
    have HL' := Lib.hid hy.len
    by_cases hit : inB item 0 999 = true
    · have hok : putOk xs ys item = true := by simp [putOk, h1, hit]
      have hi1 : 0 ≤ item ∧ item ≤ 999 := by simpa [inB] using hit
      obtain ⟨hi1, hi2⟩ := hi1
      by_cases hfull : n = 20
      · subst hfull
        obtain ⟨e1, e2, e3⟩ := put_full hok HL.out
        rw [e1, e2, e3]
        clear e1 e2 e3 hok
        go_enter Try.func6, Try.ntmps6
        go_wp2_with fail
        refine (specQueueValid_any _ _ _ _ _ _ xs ys _ ((hx.below (by repeat' (first | with_reducible exact Below.refl _ _ | with_reducible assumption | with_reducible refine Below.setCell ?_ (by first | omega | (simp; done) | (simp; omega)) _ | with_reducible refine Below.alloc ?_ (by first | omega | (simp; done) | (simp; omega)) _ | with_reducible refine below_drewN ?_ _ | with_reducible refine Below.drew ?_ | (with_reducible refine Below.trans ?_ (Below.mono (by with_reducible assumption) (by first | omega | (simp; done) | (simp; omega))))))).more (by first | omega | (simp; done) | (simp; omega))) ((hy.below (by repeat' (first | with_reducible exact Below.refl _ _ | with_reducible assumption | with_reducible refine Below.setCell ?_ (by first | omega | (simp; done) | (simp; omega)) _ | with_reducible refine Below.alloc ?_ (by first | omega | (simp; done) | (simp; omega)) _ | with_reducible refine below_drewN ?_ _ | with_reducible refine Below.drew ?_ | (with_reducible refine Below.trans ?_ (Below.mono (by with_reducible assumption) (by first | omega | (simp; done) | (simp; omega))))))).more (by first | omega | (simp; done) | (simp; omega))) hn hn').mono ?_
        rintro e w1 ⟨rfl, hb1⟩
        have p1 := b1.below hb1 (by first | omega | (simp; done) | (simp; omega))
        have p2 := b2.below hb1 (by first | omega | (simp; done) | (simp; omega))
        have f1 := p1.two
        have hz1 := hb1.size
        simp at hz1
        go_wp2_with fail
        refine (l6In_any _ _ _ _).mono ?_
        rintro e w' ⟨rfl, rfl⟩
        go_wp2_with fail
        refine (l32Copy_any _ _ _ _ _ _ xs ys _ ((hx.below (by repeat' (first | with_reducible exact Below.refl _ _ | with_reducible assumption | with_reducible refine Below.setCell ?_ (by first | omega | (simp; done) | (simp; omega)) _ | with_reducible refine Below.alloc ?_ (by first | omega | (simp; done) | (simp; omega)) _ | with_reducible refine below_drewN ?_ _ | with_reducible refine Below.drew ?_ | (with_reducible refine Below.trans ?_ (Below.mono (by with_reducible assumption) (by first | omega | (simp; done) | (simp; omega))))))).more (by first | omega | (simp; done) | (simp; omega))) ((hy.below (by repeat' (first | with_reducible exact Below.refl _ _ | with_reducible assumption | with_reducible refine Below.setCell ?_ (by first | omega | (simp; done) | (simp; omega)) _ | with_reducible refine Below.alloc ?_ (by first | omega | (simp; done) | (simp; omega)) _ | with_reducible refine below_drewN ?_ _ | with_reducible refine Below.drew ?_ | (with_reducible refine Below.trans ?_ (Below.mono (by with_reducible assumption) (by first | omega | (simp; done) | (simp; omega))))))).more (by first | omega | (simp; done) | (simp; omega))) hn hn').mono ?_
        rintro e w2 ⟨A2, n2, c2, B2, m2, d2, rfl, o2, u2, ap2, hb2⟩
        replace p1 := p1.below hb2 (by first | omega | (simp; done) | (simp; omega))
        replace p2 := p2.below hb2 (by first | omega | (simp; done) | (simp; omega))
        have hz2 := hb2.size
        have g1 : w.heap.size < w2.heap.size := by omega
        have g2 : w.heap.size + 1 < w2.heap.size := by omega
        clear f1
        have f1 := p1.two
        have f2 := p2.two
        go_wp2_with fail
        exact bodyPost_ret (v := .tuple #[.agg #[.slice A2 n2 c2, .slice B2 m2 d2], .bool false]) (by simp [results, Try.results6, go_sem, f2, g2]) rfl ⟨A2, n2, c2, B2, m2, d2, rfl, (((o2.setBelow (by first | omega | (simp; done) | (simp; omega)) _).setBelow (by first | omega | (simp; done) | (simp; omega)) _).alloc _).mono (by first | omega | (simp; done) | (simp; omega)), (((u2.setBelow (by first | omega | (simp; done) | (simp; omega)) _).setBelow (by first | omega | (simp; done) | (simp; omega)) _).alloc _).mono (by first | omega | (simp; done) | (simp; omega)), ap2, (by repeat' (first | with_reducible exact Below.refl _ _ | with_reducible assumption | with_reducible refine Below.setCell ?_ (by first | omega | (simp; done) | (simp; omega)) _ | with_reducible refine Below.alloc ?_ (by first | omega | (simp; done) | (simp; omega)) _ | with_reducible refine below_drewN ?_ _ | with_reducible refine Below.drew ?_ | (with_reducible refine Below.trans ?_ (Below.mono (by with_reducible assumption) (by first | omega | (simp; done) | (simp; omega))))))⟩
      · have hfull' : ((n : Int) == 20) = false := by simp; omega
        have hlt20 : n < 20 := by have := HL.out; omega
        obtain ⟨e1, e2, e3⟩ := put_yes hok (show xs.length < 20 by rw [HL.out] at hl1 ⊢; omega)
        rw [e1, e2, e3]
        clear e1 e2 e3 hok
        go_enter Try.func6, Try.ntmps6
        go_wp2_with fail
        refine (specQueueValid_any _ _ _ _ _ _ xs ys _ ((hx.below (by repeat' (first | with_reducible exact Below.refl _ _ | with_reducible assumption | with_reducible refine Below.setCell ?_ (by first | omega | (simp; done) | (simp; omega)) _ | with_reducible refine Below.alloc ?_ (by first | omega | (simp; done) | (simp; omega)) _ | with_reducible refine below_drewN ?_ _ | with_reducible refine Below.drew ?_ | (with_reducible refine Below.trans ?_ (Below.mono (by with_reducible assumption) (by first | omega | (simp; done) | (simp; omega))))))).more (by first | omega | (simp; done) | (simp; omega))) ((hy.below (by repeat' (first | with_reducible exact Below.refl _ _ | with_reducible assumption | with_reducible refine Below.setCell ?_ (by first | omega | (simp; done) | (simp; omega)) _ | with_reducible refine Below.alloc ?_ (by first | omega | (simp; done) | (simp; omega)) _ | with_reducible refine below_drewN ?_ _ | with_reducible refine Below.drew ?_ | (with_reducible refine Below.trans ?_ (Below.mono (by with_reducible assumption) (by first | omega | (simp; done) | (simp; omega))))))).more (by first | omega | (simp; done) | (simp; omega))) hn hn').mono ?_
        rintro e w1 ⟨rfl, hb1⟩
        have p1 := b1.below hb1 (by first | omega | (simp; done) | (simp; omega))
        have p2 := b2.below hb1 (by first | omega | (simp; done) | (simp; omega))
        have f1 := p1.two
        have hz1 := hb1.size
        simp at hz1
        go_wp2_with fail
        refine (l6In_any _ _ _ _).mono ?_
        rintro e w' ⟨rfl, rfl⟩
        go_wp2_with fail
        refine (l32Copy_any _ _ _ _ _ _ xs ys _ ((hx.below (by repeat' (first | with_reducible exact Below.refl _ _ | with_reducible assumption | with_reducible refine Below.setCell ?_ (by first | omega | (simp; done) | (simp; omega)) _ | with_reducible refine Below.alloc ?_ (by first | omega | (simp; done) | (simp; omega)) _ | with_reducible refine below_drewN ?_ _ | with_reducible refine Below.drew ?_ | (with_reducible refine Below.trans ?_ (Below.mono (by with_reducible assumption) (by first | omega | (simp; done) | (simp; omega))))))).more (by first | omega | (simp; done) | (simp; omega))) ((hy.below (by repeat' (first | with_reducible exact Below.refl _ _ | with_reducible assumption | with_reducible refine Below.setCell ?_ (by first | omega | (simp; done) | (simp; omega)) _ | with_reducible refine Below.alloc ?_ (by first | omega | (simp; done) | (simp; omega)) _ | with_reducible refine below_drewN ?_ _ | with_reducible refine Below.drew ?_ | (with_reducible refine Below.trans ?_ (Below.mono (by with_reducible assumption) (by first | omega | (simp; done) | (simp; omega))))))).more (by first | omega | (simp; done) | (simp; omega))) hn hn').mono ?_
        rintro e w2 ⟨A2, n2, c2, B2, m2, d2, rfl, o2, u2, ap2, hb2⟩
        replace p1 := p1.below hb2 (by first | omega | (simp; done) | (simp; omega))
        replace p2 := p2.below hb2 (by first | omega | (simp; done) | (simp; omega))
        have hz2 := hb2.size
        have g1 : w.heap.size < w2.heap.size := by omega
        have g2 : w.heap.size + 1 < w2.heap.size := by omega
        clear f1
        have f1 := p1.two
        have f2 := p2.two
        have hn2 : n2 ≤ 20 := (by have := (o2).len; have := (hx).len; omega)
        have b6 := Blk.new w2 25 #[.slice A2 n2 c2, .slice B2 m2 d2]
        go_wp2_with (at_builtin; refine app1 rfl _ _ rfl w1.heap.size rfl ((o2.alloc _).alloc _) _ _ _ _ [item] rfl (Ints.one' _ (by first | omega | (simp; done) | (simp; omega))) (by omega) (by first | omega | (simp; done) | (simp; omega)) ?_; intro A3 c3 w3 o3 hg3 at3; have q2 := Blk.grown ((p2.alloc _).alloc _) hg3 (fun e => by have := o2.lt e.symm; omega); have q6 := Blk.grown (b6.alloc _) hg3 (fun e => by have := o2.lt e.symm; omega); have h2 := q2.two; have h6 := q6.two)
        have hb3 : Below w.heap.size w w3 := Below.grown (by repeat' (first | with_reducible exact Below.refl _ _ | with_reducible assumption | with_reducible refine Below.setCell ?_ (by first | omega | (simp; done) | (simp; omega)) _ | with_reducible refine Below.alloc ?_ (by first | omega | (simp; done) | (simp; omega)) _ | with_reducible refine below_drewN ?_ _ | with_reducible refine Below.drew ?_ | (with_reducible refine Below.trans ?_ (Below.mono (by with_reducible assumption) (by first | omega | (simp; done) | (simp; omega)))))) hg3 (by first | omega | (simp; done) | (simp; omega)) (fun k hk => by have := o2.lt hk; omega)
        have u3 : Own w3 w1.heap.size B2 m2 d2 ys := ((u2.alloc _).alloc _).kept hg3 (fun k hk e => ap2 k e hk)
        have ap3 : Apart A3 B2 := by
          intro k hk hk'
          have hl := u2.lt hk'
          rcases at3 with h | h
          · rw [h] at hk; exact ap2 k hk hk'
          · rw [h] at hk; simp at hk; omega
        have ne3 : ∀ k, blk A3 = some k → k ≠ (⟨w2.heap.size, 0, none⟩ : Addr).block := by
          intro k hk
          rcases at3 with h | h
          · rw [h] at hk; have := o2.lt hk; simp; omega
          · rw [h] at hk; simp at hk ⊢; omega
        have ne4 : ∀ k, blk B2 = some k → k ≠ (⟨w2.heap.size, 0, none⟩ : Addr).block := by
          intro k hk
          have := u2.lt hk; simp; omega
        exact bodyPost_ret (v := .tuple #[.agg #[.slice A3 (n2 + 1) c3, .slice B2 m2 d2], .bool true]) (by simp [results, Try.results6, go_sem, h2]) rfl ⟨A3, n2 + 1, c3, B2, m2, d2, rfl, (((o3.setCell ne3 _).setBelow (by first | omega | (simp; done) | (simp; omega)) _).setBelow (by first | omega | (simp; done) | (simp; omega)) _).mono (by first | omega | (simp; done) | (simp; omega)), (((u3.setCell ne4 _).setBelow (by first | omega | (simp; done) | (simp; omega)) _).setBelow (by first | omega | (simp; done) | (simp; omega)) _).mono (by first | omega | (simp; done) | (simp; omega)), ap3, (by repeat' (first | with_reducible exact Below.refl _ _ | with_reducible assumption | with_reducible refine Below.setCell ?_ (by first | omega | (simp; done) | (simp; omega)) _ | with_reducible refine Below.alloc ?_ (by first | omega | (simp; done) | (simp; omega)) _ | with_reducible refine below_drewN ?_ _ | with_reducible refine Below.drew ?_ | (with_reducible refine Below.trans ?_ (Below.mono (by with_reducible assumption) (by first | omega | (simp; done) | (simp; omega))))))⟩
    · have hok : putOk xs ys item = false := by simp [putOk, h1, hit]
      obtain ⟨e1, e2, e3⟩ := put_no hok
      rw [e1, e2, e3]
      clear e1 e2 e3 hok
      have hit' : inB item 0 999 = false := by simpa using hit
      clear hit
      all_goals
        go_enter Try.func6, Try.ntmps6
        go_wp2_with fail
        refine (specQueueValid_any _ _ _ _ _ _ xs ys _ ((hx.below (by repeat' (first | with_reducible exact Below.refl _ _ | with_reducible assumption | with_reducible refine Below.setCell ?_ (by first | omega | (simp; done) | (simp; omega)) _ | with_reducible refine Below.alloc ?_ (by first | omega | (simp; done) | (simp; omega)) _ | with_reducible refine below_drewN ?_ _ | with_reducible refine Below.drew ?_ | (with_reducible refine Below.trans ?_ (Below.mono (by with_reducible assumption) (by first | omega | (simp; done) | (simp; omega))))))).more (by first | omega | (simp; done) | (simp; omega))) ((hy.below (by repeat' (first | with_reducible exact Below.refl _ _ | with_reducible assumption | with_reducible refine Below.setCell ?_ (by first | omega | (simp; done) | (simp; omega)) _ | with_reducible refine Below.alloc ?_ (by first | omega | (simp; done) | (simp; omega)) _ | with_reducible refine below_drewN ?_ _ | with_reducible refine Below.drew ?_ | (with_reducible refine Below.trans ?_ (Below.mono (by with_reducible assumption) (by first | omega | (simp; done) | (simp; omega))))))).more (by first | omega | (simp; done) | (simp; omega))) hn hn').mono ?_
        rintro e w1 ⟨rfl, hb1⟩
        have p2 := b2.below hb1 (by first | omega | (simp; done) | (simp; omega))
        have f2 := p2.two
        go_wp2_with fail
        refine (l6In_any _ _ _ _).mono ?_
        rintro e w' ⟨rfl, rfl⟩
        go_wp2
        exact bodyPost_ret (v := .tuple #[.agg #[.slice none 0 0, .slice none 0 0], .bool false]) (by simp [results, Try.results6, go_sem, f2]) rfl (RetQB.zero (by repeat' (first | with_reducible exact Below.refl _ _ | with_reducible assumption | with_reducible refine Below.setCell ?_ (by first | omega | (simp; done) | (simp; omega)) _ | with_reducible refine Below.alloc ?_ (by first | omega | (simp; done) | (simp; omega)) _ | with_reducible refine below_drewN ?_ _ | with_reducible refine Below.drew ?_ | (with_reducible refine Below.trans ?_ (Below.mono (by with_reducible assumption) (by first | omega | (simp; done) | (simp; omega)))))))
end Go.Proofs.Ytclajknghfnhcaa
