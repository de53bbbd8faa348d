/-
  Contracts of the program's ViewJoin, ViewLeave, ViewSplit, ViewMerge. (Printed by gen_e3.py.)
-/
import Derived.Test.YtmjacdcefaohcaaDoorE2
namespace Go.Proofs.YtmjacdcefaohcaaDoor
open Go.RowKit
set_option linter.unusedVariables false

theorem RowI.setBelow {w : World} {b e n c : Nat} {A : Option Addr} {xs : List Int} (h : RowI w b e A n c xs) {p : Addr} (hp : p.block < b) (u : Value) : RowI (w.setCell p u) b e A n c xs := ⟨h.own.setBelow hp u, h.2⟩
/-- Two views in memory of their own, the first below the second, and whether there are. -/
def RetVV (Q Q' : Int) (L L' : List Int) (b : Bool) (w : World) (e : Ending) (w' : World) : Prop :=
  ∃ A n c A' n' c' mid, e = .returned (.tuple #[.agg #[.int .i64 Q, .slice A n c], .agg #[.int .i64 Q', .slice A' n' c'], .bool b]) ∧ RowI w' w.heap.size mid A n c L ∧ RowI w' mid w'.heap.size A' n' c' L' ∧ w.heap.size ≤ mid ∧ mid ≤ w'.heap.size ∧ Below w.heap.size w w'
/-- What splitting a view gives. -/
def sQ (q : Int) (xs : List Int) (m : Int) : Int := if splitOk q xs m then q + 1 else 0
def sLow (q : Int) (xs : List Int) (m : Int) : List Int := if splitOk q xs m then lowL xs m else []
def sHigh (q : Int) (xs : List Int) (m : Int) : List Int := if splitOk q xs m then highL xs m else []
theorem low_len (xs : List Int) (m : Int) : (lowL xs m).length ≤ 8 := by unfold lowL accL; exact accK_len _ 8
theorem high_len (xs : List Int) (m : Int) : (highL xs m).length ≤ 8 := by unfold highL accL; exact accK_len _ 8
theorem sLow_len (q : Int) (xs : List Int) (m : Int) : (sLow q xs m).length ≤ 8 := by
  unfold sLow; split
  · exact low_len xs m
  · simp
theorem sHigh_len (q : Int) (xs : List Int) (m : Int) : (sHigh q xs m).length ≤ 8 := by
  unfold sHigh; split
  · exact high_len xs m
  · simp
theorem RetVV.zero {q : Int} {xs : List Int} {m : Int} {w w' : World} (h : Below w.heap.size w w') (hb : splitOk q xs m = false) : RetVV (sQ q xs m) (sQ q xs m) (sLow q xs m) (sHigh q xs m) (splitOk q xs m) w (.returned (.tuple #[.agg #[.int .i64 0, .slice none 0 0], .agg #[.int .i64 0, .slice none 0 0], .bool false])) w' := by
  refine ⟨none, 0, 0, none, 0, 0, w.heap.size, ?_, ?_, ?_, Nat.le_refl _, h.size, h⟩
  · simp [sQ, hb]
  · simp only [sLow, hb]; exact RowI.nil _ _ _
  · simp only [sHigh, hb]; exact RowI.nil _ _ _
theorem RetVV.yes {q : Int} {xs : List Int} {m : Int} {w w' : World} {A A' : Option Addr} {n c n' c' mid : Nat} (h : Below w.heap.size w w') (h1 : RowI w' w.heap.size mid A n c (lowL xs m)) (h2 : RowI w' mid w'.heap.size A' n' c' (highL xs m)) (hl : w.heap.size ≤ mid) (hr : mid ≤ w'.heap.size) (hb : splitOk q xs m = true) :
    RetVV (sQ q xs m) (sQ q xs m) (sLow q xs m) (sHigh q xs m) (splitOk q xs m) w (.returned (.tuple #[.agg #[.int .i64 (q + 1), .slice A n c], .agg #[.int .i64 (q + 1), .slice A' n' c'], .bool true])) w' := by
  refine ⟨A, n, c, A', n', c', mid, ?_, ?_, ?_, hl, hr, h⟩
  · simp [sQ, hb]
  · simp only [sLow, hb]; exact h1
  · simp only [sHigh, hb]; exact h2
set_option maxHeartbeats 4000000 in
theorem implSplit_any (A : Option Addr) (n c : Nat) (q : Int) (xs : List Int) (m : Int) (a : Addr) (w : World) (hs : Sent w a) (hx : Ints w w.heap.size A n xs) (hn : n ≤ 1048576) :
    Calls Tryd.prog 30 #[.agg #[.int .i64 q, .slice A n c], .int .i64 m] w (RetVV (sQ q xs m) (sQ q xs m) (sLow q xs m) (sHigh q xs m) (splitOk q xs m) w) := by
  have h0 := hs.lt
  have b2 := (((Blk.new w 25 #[.int .i64 q, .slice A n c]).alloc (.cells #[.int .i64 m] 3)).alloc (.cells #[.int .i64 0, .slice none 0 0] 25)).alloc (.cells #[.int .i64 0, .slice none 0 0] 25)
  have b3 := ((Blk.new (w.alloc (.cells #[.int .i64 q, .slice A n c] 25)) 3 #[.int .i64 m]).alloc (.cells #[.int .i64 0, .slice none 0 0] 25)).alloc (.cells #[.int .i64 0, .slice none 0 0] 25)
  have b4 := (Blk.new ((w.alloc (.cells #[.int .i64 q, .slice A n c] 25)).alloc (.cells #[.int .i64 m] 3)) 25 #[.int .i64 0, .slice none 0 0]).alloc (.cells #[.int .i64 0, .slice none 0 0] 25)
  have b5 := Blk.new (((w.alloc (.cells #[.int .i64 q, .slice A n c] 25)).alloc (.cells #[.int .i64 m] 3)).alloc (.cells #[.int .i64 0, .slice none 0 0] 25)) 25 #[.int .i64 0, .slice none 0 0]
  simp only [World.size_alloc] at b3 b4 b5
  have HB0 : Below w.heap.size w ((((w.alloc (.cells #[.int .i64 q, .slice A n c] 25)).alloc (.cells #[.int .i64 m] 3)).alloc (.cells #[.int .i64 0, .slice none 0 0] 25)).alloc (.cells #[.int .i64 0, .slice none 0 0] 25)) := (by repeat' (first | with_reducible exact Below.refl _ _ | with_reducible assumption | with_reducible refine Below.setCell ?_ (by first | omega | (simp; done) | (simp; omega)) _ | with_reducible refine Below.alloc ?_ (by first | omega | (simp; done) | (simp; omega)) _ | with_reducible refine below_drewN ?_ _ | with_reducible refine Below.drew ?_ | (with_reducible refine Below.trans ?_ (Below.mono (by with_reducible assumption) (by first | omega | (simp; done) | (simp; omega))))))
  have S0 : ((((w.alloc (.cells #[.int .i64 q, .slice A n c] 25)).alloc (.cells #[.int .i64 m] 3)).alloc (.cells #[.int .i64 0, .slice none 0 0] 25)).alloc (.cells #[.int .i64 0, .slice none 0 0] 25)).heap.size = w.heap.size + 1 + 1 + 1 + 1 := by simp
  have s0 : Sent ((((w.alloc (.cells #[.int .i64 q, .slice A n c] 25)).alloc (.cells #[.int .i64 m] 3)).alloc (.cells #[.int .i64 0, .slice none 0 0] 25)).alloc (.cells #[.int .i64 0, .slice none 0 0] 25)) a := hs.below HB0 h0
  cases h1 : vvB q xs
  · have hnot : splitOk q xs m = false := by simp [splitOk, h1]
    go_enter Tryd.func30, Tryd.ntmps30
    go_wp2_with fail
    refine (implViewValid_any _ _ _ q xs _ ((hx.below HB0).more (by rw [S0]; omega)) hn).mono ?_
    rintro e w1 ⟨rfl, hb1⟩
    have z1 : w.heap.size + 1 + 1 + 1 + 1 ≤ w1.heap.size := by have := hb1.size; rw [S0] at this; exact this
    have HB1 : Below w.heap.size w w1 := HB0.trans (hb1.mono (by rw [S0]; omega))
    have s1 := s0.step hb1
    have p2 := b2.below hb1 (by rw [S0]; omega)
    have p3 := b3.below hb1 (by rw [S0]; omega)
    have p4 := b4.below hb1 (by rw [S0]; omega)
    have p5 := b5.below hb1 (by rw [S0]; omega)
    clear hb1
    have f2 := p2.two; have l2 := p2.lt; have f3 := p3.one; have l3 := p3.lt; have f4 := p4.two; have l4 := p4.lt
    have f5 := p5.two; have l5 := p5.lt
    go_wp2
    exact bodyPost_ret (v := .tuple #[.agg #[.int .i64 0, .slice none 0 0], .agg #[.int .i64 0, .slice none 0 0], .bool false]) (by simp [results, Tryd.results30, go_sem, f4, f5]) rfl (RetVV.zero (by repeat' (first | with_reducible exact Below.refl _ _ | with_reducible assumption | with_reducible refine Below.setCell ?_ (by first | omega | (simp; done) | (simp; omega)) _ | with_reducible refine Below.alloc ?_ (by first | omega | (simp; done) | (simp; omega)) _ | with_reducible refine below_drewN ?_ _ | with_reducible refine Below.drew ?_ | (with_reducible refine Below.trans ?_ (Below.mono (by with_reducible assumption) (by first | omega | (simp; done) | (simp; omega)))))) hnot)
  obtain ⟨q0, q9⟩ := vv_q h1
  go_enter Tryd.func30, Tryd.ntmps30
  go_wp2_with fail
  refine (implViewValid_any _ _ _ q xs _ ((hx.below HB0).more (by rw [S0]; omega)) hn).mono ?_
  rintro e w1 ⟨rfl, hb1⟩
  have z1 : w.heap.size + 1 + 1 + 1 + 1 ≤ w1.heap.size := by have := hb1.size; rw [S0] at this; exact this
  have HB1 : Below w.heap.size w w1 := HB0.trans (hb1.mono (by rw [S0]; omega))
  have s1 := s0.step hb1
  have p2 := b2.below hb1 (by rw [S0]; omega)
  have p3 := b3.below hb1 (by rw [S0]; omega)
  have p4 := b4.below hb1 (by rw [S0]; omega)
  have p5 := b5.below hb1 (by rw [S0]; omega)
  clear hb1
  have f2 := p2.two; have l2 := p2.lt; have f3 := p3.one; have l3 := p3.lt; have f4 := p4.two; have l4 := p4.lt
  have f5 := p5.two; have l5 := p5.lt
  have X1 := hx.below HB1
  go_wp2_with fail
  refine (viewOf_any (q + 1) 54 _ _ (fun x => decide (x < m) && hasB xs x) a _ s1 (enters_fn Tryd.func54 (by kernel_rfl) rfl) (fun kk w' hk hb => lowAcc_any w.heap.size (w.heap.size + 1) A n c w.heap.size q m kk xs w' (p2.below hb p2.lt) (p3.below hb p3.lt) (X1.below (hb.mono HB1.size)) hn)).mono ?_
  rintro e w2 ⟨A2, n2, c2, hor, hb2⟩
  have HB2 : Below w.heap.size w w2 := HB1.trans (hb2.mono HB1.size)
  have s2 := s1.step hb2
  replace p2 := p2.below hb2 p2.lt
  replace p3 := p3.below hb2 p3.lt
  replace p4 := p4.below hb2 p4.lt
  replace p5 := p5.below hb2 p5.lt
  have z2 := hb2.size
  clear f2 f3 f4 f5 l2 l3 l4 l5
  have hs' : ∃ (va vb : Value) (Q1 : Int) (b1 : Bool) (A3 : Option Addr) (n3 c3 : Nat), e = .returned (.tuple #[va, vb]) ∧ b1 = vvB (q + 1) (lowL xs m) ∧ (b1 = true → Q1 = q + 1 ∧ Own w2 w1.heap.size A3 n3 c3 (lowL xs m)) ∧
      Calls Tryd.prog 47 #[va, vb] w2 (RetV (.tuple #[.agg #[.int .i64 Q1, .slice A3 n3 c3], .bool b1]) w2) := by
    rcases hor with ⟨hv, rfl, o2⟩ | ⟨hv, rfl⟩
    · exact ⟨_, _, q + 1, true, A2, n2, c2, rfl, hv.symm, fun _ => ⟨rfl, o2⟩, succeeded_ok _ _ _ (q + 1) a _ s2⟩
    · exact ⟨_, _, 0, false, none, 0, 0, rfl, hv.symm, fun h => (by cases h), succeeded_no 0 a _ s2 _ _ _⟩
  obtain ⟨va, vb, Q1, b1, A3, n3, c3, rfl, hb1', hy1, hcall⟩ := hs'
  have HC1 := Lib.hid hb1'
  clear hb1'
  have f2 := p2.two; have l2 := p2.lt; have f3 := p3.one; have l3 := p3.lt
  go_wp2_with fail
  refine hcall.mono ?_
  rintro e w3 ⟨rfl, hb3⟩
  have HB3 : Below w.heap.size w w3 := HB2.trans (hb3.mono HB2.size)
  have s3 := s2.step hb3
  replace p2 := p2.below hb3 p2.lt
  replace p3 := p3.below hb3 p3.lt
  replace p4 := p4.below hb3 p4.lt
  replace p5 := p5.below hb3 p5.lt
  have z3 := hb3.size
  have hy2 : b1 = true → Q1 = q + 1 ∧ RowI w3 w1.heap.size w2.heap.size A3 n3 c3 (lowL xs m) := fun h => ⟨(hy1 h).1, (rowI (hy1 h).2).keep (same_of_below hb3 (Nat.le_refl _))⟩
  have HY := Lib.hid hy2
  have p6 := Blk.new w3 25 #[.int .i64 Q1, .slice A3 n3 c3]
  have q2 := p2.alloc (.cells #[.int .i64 Q1, .slice A3 n3 c3] 25)
  have q3 := p3.alloc (.cells #[.int .i64 Q1, .slice A3 n3 c3] 25)
  have q4 := p4.alloc (.cells #[.int .i64 Q1, .slice A3 n3 c3] 25)
  have q5 := p5.alloc (.cells #[.int .i64 Q1, .slice A3 n3 c3] 25)
  have s4 := s3.alloc (.cells #[.int .i64 Q1, .slice A3 n3 c3] 25)
  have HB4 := HB3.alloc HB3.size (.cells #[.int .i64 Q1, .slice A3 n3 c3] 25)
  clear hy1 hy2 hcall f2 f3 l2 l3 hor HB0 HB1 HB2 X1
  have f2 := p2.two; have l2 := p2.lt; have f3 := p3.one; have l3 := p3.lt
  have X4 := hx.below HB4
  go_wp2_with fail
  refine (viewOf_any (q + 1) 55 _ _ (fun x => decide (m ≤ x) && hasB xs x) a _ s4 (enters_fn Tryd.func55 (by kernel_rfl) rfl) (fun kk w' hk hb => highAcc_any w.heap.size (w.heap.size + 1) A n c w.heap.size q m kk xs w' (q2.below hb q2.lt) (q3.below hb q3.lt) (X4.below (hb.mono HB4.size)) hn)).mono ?_
  rintro e w5 ⟨A5, n5, c5, hor, hb5⟩
  have HB5 : Below w.heap.size w w5 := HB4.trans (hb5.mono HB4.size)
  have s5 := s4.step hb5
  replace q2 := q2.below hb5 q2.lt
  replace q3 := q3.below hb5 q3.lt
  replace q4 := q4.below hb5 q4.lt
  replace q5 := q5.below hb5 q5.lt
  replace p6 := p6.below hb5 p6.lt
  have z5 := hb5.size
  simp at z5
  have hs' : ∃ (va vb : Value) (Q2 : Int) (b2 : Bool) (A6 : Option Addr) (n6 c6 : Nat), e = .returned (.tuple #[va, vb]) ∧ b2 = vvB (q + 1) (highL xs m) ∧ (b2 = true → Q2 = q + 1 ∧ Own w5 (w3.alloc (.cells #[.int .i64 Q1, .slice A3 n3 c3] 25)).heap.size A6 n6 c6 (highL xs m)) ∧
      Calls Tryd.prog 47 #[va, vb] w5 (RetV (.tuple #[.agg #[.int .i64 Q2, .slice A6 n6 c6], .bool b2]) w5) := by
    rcases hor with ⟨hv, rfl, o2⟩ | ⟨hv, rfl⟩
    · exact ⟨_, _, q + 1, true, A5, n5, c5, rfl, hv.symm, fun _ => ⟨rfl, o2⟩, succeeded_ok _ _ _ (q + 1) a _ s5⟩
    · exact ⟨_, _, 0, false, none, 0, 0, rfl, hv.symm, fun h => (by cases h), succeeded_no 0 a _ s5 _ _ _⟩
  obtain ⟨va', vb', Q2, b2', A6, n6, c6, rfl, hb2', hy5, hcall⟩ := hs'
  have HC2 := Lib.hid hb2'
  clear hb2'
  clear f2 f3 l2 l3 hor HB4 X4 s4 p2 p3 p4 p5 HB3
  have f2 := q2.two; have l2 := q2.lt; have f6 := p6.two; have l6 := p6.lt
  go_wp2_with fail
  refine hcall.mono ?_
  rintro e w6 ⟨rfl, hb6⟩
  have HB6 : Below w.heap.size w w6 := HB5.trans (hb6.mono HB5.size)
  have z6 := hb6.size
  have r4 := q4.below hb6 q4.lt
  have r5 := q5.below hb6 q5.lt
  have r6 := p6.below hb6 p6.lt
  clear f2 l2 f6 l6 HB5
  have f4 := r4.two; have l4 := r4.lt; have f5 := r5.two; have l5 := r5.lt; have f6 := r6.two; have l6 := r6.lt
  cases b1
  · have hnot : splitOk q xs m = false := by simp [splitOk, ← HC1.out]
    go_wp2
    exact bodyPost_ret (v := .tuple #[.agg #[.int .i64 0, .slice none 0 0], .agg #[.int .i64 0, .slice none 0 0], .bool false]) (by simp [results, Tryd.results30, go_sem, f4, f5, l4, l5]) rfl (RetVV.zero (by repeat' (first | with_reducible exact Below.refl _ _ | with_reducible assumption | with_reducible refine Below.setCell ?_ (by first | omega | (simp; done) | (simp; omega)) _ | with_reducible refine Below.alloc ?_ (by first | omega | (simp; done) | (simp; omega)) _ | with_reducible refine below_drewN ?_ _ | with_reducible refine Below.drew ?_ | (with_reducible refine Below.trans ?_ (Below.mono (by with_reducible assumption) (by first | omega | (simp; done) | (simp; omega)))))) hnot)
  cases b2'
  · have hnot : splitOk q xs m = false := by simp [splitOk, ← HC2.out]
    go_wp2
    exact bodyPost_ret (v := .tuple #[.agg #[.int .i64 0, .slice none 0 0], .agg #[.int .i64 0, .slice none 0 0], .bool false]) (by simp [results, Tryd.results30, go_sem, f4, f5, l4, l5]) rfl (RetVV.zero (by repeat' (first | with_reducible exact Below.refl _ _ | with_reducible assumption | with_reducible refine Below.setCell ?_ (by first | omega | (simp; done) | (simp; omega)) _ | with_reducible refine Below.alloc ?_ (by first | omega | (simp; done) | (simp; omega)) _ | with_reducible refine below_drewN ?_ _ | with_reducible refine Below.drew ?_ | (with_reducible refine Below.trans ?_ (Below.mono (by with_reducible assumption) (by first | omega | (simp; done) | (simp; omega)))))) hnot)
  have hok : splitOk q xs m = true := by simp [splitOk, h1, ← HC1.out, ← HC2.out]
  obtain ⟨rfl, o3⟩ := HY.out rfl
  obtain ⟨rfl, o6⟩ := hy5 rfl
  have o3' : RowI w6 w1.heap.size w2.heap.size A3 n3 c3 (lowL xs m) := ((o3.alloc1 (by omega) _).keep (same_of_below hb5 (by simp; omega))).keep (same_of_below hb6 (by omega))
  have o6' : RowI w6 (w3.heap.size + 1) w5.heap.size A6 n6 c6 (highL xs m) := by simpa using (rowI o6).keep (same_of_below hb6 (Nat.le_refl _))
  clear o3 o6 hy5 HY
  have fin : ∀ W : World, (∃ (a b c d : Value) (p1 p2 p3 p4 : Addr), W = (((((w6.setCell p1 a).setCell p2 b).setCell p3 c).setCell p4 d).alloc (.cells #[.int .i64 (q + 1), .slice A6 n6 c6] 25) |>.drew) ∧ (w.heap.size ≤ p1.block ∧ p1.block < w1.heap.size) ∧ (w.heap.size ≤ p2.block ∧ p2.block < w1.heap.size) ∧ (w.heap.size ≤ p3.block ∧ p3.block < w1.heap.size) ∧ (w.heap.size ≤ p4.block ∧ p4.block < w1.heap.size)) →
      RetVV (sQ q xs m) (sQ q xs m) (sLow q xs m) (sHigh q xs m) (splitOk q xs m) w (.returned (.tuple #[.agg #[.int .i64 (q + 1), .slice A3 n3 c3], .agg #[.int .i64 (q + 1), .slice A6 n6 c6], .bool true])) W := by
    rintro W ⟨a, b, c, d, p1, p2, p3, p4, rfl, h1, h2, h3, h4⟩
    refine RetVV.yes (mid := w3.heap.size + 1) ((((((HB6.setCell h1.1 _).setCell h2.1 _).setCell h3.1 _).setCell h4.1 _).alloc (by have := HB6.size; simpa using this) _).drew) ?_ ?_ (by omega) (by simp; omega) hok
    · exact ((((((o3'.setBelow h1.2 _).setBelow h2.2 _).setBelow h3.2 _).setBelow h4.2 _).alloc1 (by simp; omega) _).drew1).mono (by omega) (by omega)
    · exact ((((((o6'.setBelow (by omega) _).setBelow (by omega) _).setBelow (by omega) _).setBelow (by omega) _).alloc1 (by simp; omega) _).drew1).mono (Nat.le_refl _) (by simp; omega)
  go_wp2_with fail
  go_region
  all_goals (try go_wp2)
  all_goals
    exact bodyPost_ret (v := .tuple #[.agg #[.int .i64 (q + 1), .slice A3 n3 c3], .agg #[.int .i64 (q + 1), .slice A6 n6 c6], .bool true]) (by simp [results, Tryd.results30, go_sem, f4, f5, l4, l5]) rfl (fin _ ⟨_, _, _, _, _, _, _, _, rfl, (by constructor <;> first | omega | (simp; done) | (simp; omega)), (by constructor <;> first | omega | (simp; done) | (simp; omega)), (by constructor <;> first | omega | (simp; done) | (simp; omega)), (by constructor <;> first | omega | (simp; done) | (simp; omega))⟩)
end Go.Proofs.YtmjacdcefaohcaaDoor
