/-
  Contracts of the program's ViewJoin, ViewLeave, ViewSplit, ViewMerge. (Printed by gen_e3.py.)
-/
import Derived.Test.YtmjacdcefaohcaaDoorE2
namespace Go.Proofs.YtmjacdcefaohcaaDoor
open Go.RowKit
set_option linter.unusedVariables false

set_option maxHeartbeats 2000000 in
theorem implJoin_any (A : Option Addr) (n c : Nat) (q : Int) (xs : List Int) (m : Int) (a : Addr) (w : World) (hs : Sent w a) (hx : Ints w w.heap.size A n xs) (hn : n ≤ 1048576) :
    Calls Tryd.prog 22 #[.agg #[.int .i64 q, .slice A n c], .int .i64 m] w (RetVB (gQ (joinOk q xs m) (q + 1) (joinL xs m)) (gX (joinOk q xs m) (q + 1) (joinL xs m)) (gB (joinOk q xs m) (q + 1) (joinL xs m)) w) := by
  have h0 := hs.lt
  have b2 := ((Blk.new w 25 #[.int .i64 q, .slice A n c]).alloc (.cells #[.int .i64 m] 3)).alloc (.cells #[.int .i64 0, .slice none 0 0] 25)
  have b3 := (Blk.new (w.alloc (.cells #[.int .i64 q, .slice A n c] 25)) 3 #[.int .i64 m]).alloc (.cells #[.int .i64 0, .slice none 0 0] 25)
  have b4 := Blk.new ((w.alloc (.cells #[.int .i64 q, .slice A n c] 25)).alloc (.cells #[.int .i64 m] 3)) 25 #[.int .i64 0, .slice none 0 0]
  simp only [World.size_alloc] at b3 b4
  have HB0 : Below w.heap.size w (((w.alloc (.cells #[.int .i64 q, .slice A n c] 25)).alloc (.cells #[.int .i64 m] 3)).alloc (.cells #[.int .i64 0, .slice none 0 0] 25)) := (by repeat' (first | with_reducible exact Below.refl _ _ | with_reducible assumption | with_reducible refine Below.setCell ?_ (by first | omega | (simp; done) | (simp; omega)) _ | with_reducible refine Below.alloc ?_ (by first | omega | (simp; done) | (simp; omega)) _ | with_reducible refine below_drewN ?_ _ | with_reducible refine Below.drew ?_ | (with_reducible refine Below.trans ?_ (Below.mono (by with_reducible assumption) (by first | omega | (simp; done) | (simp; omega))))))
  have S0 : (((w.alloc (.cells #[.int .i64 q, .slice A n c] 25)).alloc (.cells #[.int .i64 m] 3)).alloc (.cells #[.int .i64 0, .slice none 0 0] 25)).heap.size = w.heap.size + 1 + 1 + 1 := by simp
  have s0 : Sent (((w.alloc (.cells #[.int .i64 q, .slice A n c] 25)).alloc (.cells #[.int .i64 m] 3)).alloc (.cells #[.int .i64 0, .slice none 0 0] 25)) a := hs.below HB0 h0
  cases h1 : vvB q xs
  · have hnot : joinOk q xs m = false := by simp [joinOk, h1]
    go_enter Tryd.func22, Tryd.ntmps22
    go_wp2_with fail
    refine (implViewValid_any _ _ _ q xs _ ((hx.below HB0).more (by rw [S0]; omega)) hn).mono ?_
    rintro e w1 ⟨rfl, hb1⟩
    have z1 : w.heap.size + 1 + 1 + 1 ≤ w1.heap.size := by have := hb1.size; rw [S0] at this; exact this
    have HB1 : Below w.heap.size w w1 := HB0.trans (hb1.mono (by rw [S0]; omega))
    have s1 := s0.step hb1
    have p2 := b2.below hb1 (by rw [S0]; omega)
    have p3 := b3.below hb1 (by rw [S0]; omega)
    have p4 := b4.below hb1 (by rw [S0]; omega)
    clear hb1
    have f2 := p2.two; have l2 := p2.lt; have f3 := p3.one; have l3 := p3.lt; have f4 := p4.two; have l4 := p4.lt
    go_wp2
    exact bodyPost_ret (v := .tuple #[.agg #[.int .i64 0, .slice none 0 0], .bool false]) (by simp [results, Tryd.results22, go_sem, f4]) rfl (RetVB.zero (by repeat' (first | with_reducible exact Below.refl _ _ | with_reducible assumption | with_reducible refine Below.setCell ?_ (by first | omega | (simp; done) | (simp; omega)) _ | with_reducible refine Below.alloc ?_ (by first | omega | (simp; done) | (simp; omega)) _ | with_reducible refine below_drewN ?_ _ | with_reducible refine Below.drew ?_ | (with_reducible refine Below.trans ?_ (Below.mono (by with_reducible assumption) (by first | omega | (simp; done) | (simp; omega)))))) (gB_no (by simp [hnot])))
  obtain ⟨q0, q9⟩ := vv_q h1
  by_cases hm0 : m < 0
  · have hnot : joinOk q xs m = false := by simp [joinOk, inB_low hm0]
    go_enter Tryd.func22, Tryd.ntmps22
    go_wp2_with fail
    refine (implViewValid_any _ _ _ q xs _ ((hx.below HB0).more (by rw [S0]; omega)) hn).mono ?_
    rintro e w1 ⟨rfl, hb1⟩
    have z1 : w.heap.size + 1 + 1 + 1 ≤ w1.heap.size := by have := hb1.size; rw [S0] at this; exact this
    have HB1 : Below w.heap.size w w1 := HB0.trans (hb1.mono (by rw [S0]; omega))
    have s1 := s0.step hb1
    have p2 := b2.below hb1 (by rw [S0]; omega)
    have p3 := b3.below hb1 (by rw [S0]; omega)
    have p4 := b4.below hb1 (by rw [S0]; omega)
    clear hb1
    have f2 := p2.two; have l2 := p2.lt; have f3 := p3.one; have l3 := p3.lt; have f4 := p4.two; have l4 := p4.lt
    go_wp2
    exact bodyPost_ret (v := .tuple #[.agg #[.int .i64 0, .slice none 0 0], .bool false]) (by simp [results, Tryd.results22, go_sem, f4]) rfl (RetVB.zero (by repeat' (first | with_reducible exact Below.refl _ _ | with_reducible assumption | with_reducible refine Below.setCell ?_ (by first | omega | (simp; done) | (simp; omega)) _ | with_reducible refine Below.alloc ?_ (by first | omega | (simp; done) | (simp; omega)) _ | with_reducible refine below_drewN ?_ _ | with_reducible refine Below.drew ?_ | (with_reducible refine Below.trans ?_ (Below.mono (by with_reducible assumption) (by first | omega | (simp; done) | (simp; omega)))))) (gB_no (by simp [hnot])))
  by_cases hm7 : 8 ≤ m
  · have hnot : joinOk q xs m = false := by simp [joinOk, inB_high (show 7 < m by omega)]
    go_enter Tryd.func22, Tryd.ntmps22
    go_wp2_with fail
    refine (implViewValid_any _ _ _ q xs _ ((hx.below HB0).more (by rw [S0]; omega)) hn).mono ?_
    rintro e w1 ⟨rfl, hb1⟩
    have z1 : w.heap.size + 1 + 1 + 1 ≤ w1.heap.size := by have := hb1.size; rw [S0] at this; exact this
    have HB1 : Below w.heap.size w w1 := HB0.trans (hb1.mono (by rw [S0]; omega))
    have s1 := s0.step hb1
    have p2 := b2.below hb1 (by rw [S0]; omega)
    have p3 := b3.below hb1 (by rw [S0]; omega)
    have p4 := b4.below hb1 (by rw [S0]; omega)
    clear hb1
    have f2 := p2.two; have l2 := p2.lt; have f3 := p3.one; have l3 := p3.lt; have f4 := p4.two; have l4 := p4.lt
    go_wp2
    exact bodyPost_ret (v := .tuple #[.agg #[.int .i64 0, .slice none 0 0], .bool false]) (by simp [results, Tryd.results22, go_sem, f4]) rfl (RetVB.zero (by repeat' (first | with_reducible exact Below.refl _ _ | with_reducible assumption | with_reducible refine Below.setCell ?_ (by first | omega | (simp; done) | (simp; omega)) _ | with_reducible refine Below.alloc ?_ (by first | omega | (simp; done) | (simp; omega)) _ | with_reducible refine below_drewN ?_ _ | with_reducible refine Below.drew ?_ | (with_reducible refine Below.trans ?_ (Below.mono (by with_reducible assumption) (by first | omega | (simp; done) | (simp; omega)))))) (gB_no (by simp [hnot])))
  cases h2 : hasB xs m
  · have hok : joinOk q xs m = true := by simp [joinOk, h1, h2, inB_in (show 0 ≤ m by omega) (show m ≤ 7 by omega)]
    go_enter Tryd.func22, Tryd.ntmps22
    go_wp2_with fail
    refine (implViewValid_any _ _ _ q xs _ ((hx.below HB0).more (by rw [S0]; omega)) hn).mono ?_
    rintro e w1 ⟨rfl, hb1⟩
    have z1 : w.heap.size + 1 + 1 + 1 ≤ w1.heap.size := by have := hb1.size; rw [S0] at this; exact this
    have HB1 : Below w.heap.size w w1 := HB0.trans (hb1.mono (by rw [S0]; omega))
    have s1 := s0.step hb1
    have p2 := b2.below hb1 (by rw [S0]; omega)
    have p3 := b3.below hb1 (by rw [S0]; omega)
    have p4 := b4.below hb1 (by rw [S0]; omega)
    clear hb1
    have f2 := p2.two; have l2 := p2.lt; have f3 := p3.one; have l3 := p3.lt; have f4 := p4.two; have l4 := p4.lt
    go_wp2_with fail
    refine (contains_any _ _ _ w.heap.size xs _ _ (hx.below HB1) hn).mono ?_
    rintro e w' ⟨rfl, rfl⟩
    go_wp2_with fail
    refine (viewOf_any (q + 1) 51 _ _ (fun x => x == m || hasB xs x) a _ s1 (enters_fn Tryd.func51 (by kernel_rfl) rfl) (fun kk w' hk hb => joinAcc_any w.heap.size (w.heap.size + 1) A n c w.heap.size q m kk xs w' (p2.below hb p2.lt) (p3.below hb p3.lt) ((hx.below HB1).below (hb.mono HB1.size)) hn)).mono ?_
    rintro e w2 ⟨A2, n2, c2, hor, hb2⟩
    have z2 := hb2.size
    have s2 := s1.step hb2
    have r2 := p4.below hb2 p4.lt
    have HB2 : Below w.heap.size w w2 := HB1.trans (hb2.mono HB1.size)
    clear f2 f3 f4 l2 l3 l4
    rcases hor with ⟨hv, rfl, o2⟩ | ⟨hv, rfl⟩
    · go_wp2_with fail
      refine (succeeded_ok _ _ _ (q + 1) a _ s2).mono ?_
      rintro e w3 ⟨rfl, hb3⟩
      have z3 := hb3.size
      have r3 := r2.below hb3 r2.lt
      have f4 := r3.two
      have l4 := r3.lt
      have HB3 : Below w.heap.size w w3 := HB2.trans (hb3.mono HB2.size)
      clear HB0 HB1 HB2
      go_wp2
      exact bodyPost_ret (v := .tuple #[.agg #[.int .i64 (q + 1), .slice A2 n2 c2], .bool true]) (by simp [results, Tryd.results22, go_sem, f4]) rfl (RetVB.yes ((HB3.setCell (by first | omega | (simp; done) | (simp; omega)) _).setCell (by first | omega | (simp; done) | (simp; omega)) _) ((((o2.below hb3).setBelow (by first | omega | (simp; done) | (simp; omega)) _).setBelow (by first | omega | (simp; done) | (simp; omega)) _).mono (by omega)) (gB_is hok hv))
    · go_wp2_with fail
      refine (succeeded_no 0 a _ s2 _ _ _).mono ?_
      rintro e w3 ⟨rfl, hb3⟩
      have z3 := hb3.size
      have r3 := r2.below hb3 r2.lt
      have f4 := r3.two
      have l4 := r3.lt
      have HB3 : Below w.heap.size w w3 := HB2.trans (hb3.mono HB2.size)
      clear HB0 HB1 HB2
      go_wp2
      exact bodyPost_ret (v := .tuple #[.agg #[.int .i64 0, .slice none 0 0], .bool false]) (by simp [results, Tryd.results22, go_sem, f4]) rfl (RetVB.zero ((HB3.setCell (by first | omega | (simp; done) | (simp; omega)) _).setCell (by first | omega | (simp; done) | (simp; omega)) _) (gB_is hok hv))
  · have hnot : joinOk q xs m = false := by simp [joinOk, h2]
    go_enter Tryd.func22, Tryd.ntmps22
    go_wp2_with fail
    refine (implViewValid_any _ _ _ q xs _ ((hx.below HB0).more (by rw [S0]; omega)) hn).mono ?_
    rintro e w1 ⟨rfl, hb1⟩
    have z1 : w.heap.size + 1 + 1 + 1 ≤ w1.heap.size := by have := hb1.size; rw [S0] at this; exact this
    have HB1 : Below w.heap.size w w1 := HB0.trans (hb1.mono (by rw [S0]; omega))
    have s1 := s0.step hb1
    have p2 := b2.below hb1 (by rw [S0]; omega)
    have p3 := b3.below hb1 (by rw [S0]; omega)
    have p4 := b4.below hb1 (by rw [S0]; omega)
    clear hb1
    have f2 := p2.two; have l2 := p2.lt; have f3 := p3.one; have l3 := p3.lt; have f4 := p4.two; have l4 := p4.lt
    go_wp2_with fail
    refine (contains_any _ _ _ w.heap.size xs _ _ (hx.below HB1) hn).mono ?_
    rintro e w' ⟨rfl, rfl⟩
    go_wp2
    exact bodyPost_ret (v := .tuple #[.agg #[.int .i64 0, .slice none 0 0], .bool false]) (by simp [results, Tryd.results22, go_sem, f4]) rfl (RetVB.zero (by repeat' (first | with_reducible exact Below.refl _ _ | with_reducible assumption | with_reducible refine Below.setCell ?_ (by first | omega | (simp; done) | (simp; omega)) _ | with_reducible refine Below.alloc ?_ (by first | omega | (simp; done) | (simp; omega)) _ | with_reducible refine below_drewN ?_ _ | with_reducible refine Below.drew ?_ | (with_reducible refine Below.trans ?_ (Below.mono (by with_reducible assumption) (by first | omega | (simp; done) | (simp; omega)))))) (gB_no (by simp [hnot])))
set_option maxHeartbeats 2000000 in
theorem implLeave_any (A : Option Addr) (n c : Nat) (q : Int) (xs : List Int) (m : Int) (a : Addr) (w : World) (hs : Sent w a) (hx : Ints w w.heap.size A n xs) (hn : n ≤ 1048576) :
    Calls Tryd.prog 20 #[.agg #[.int .i64 q, .slice A n c], .int .i64 m] w (RetVB (gQ (leaveOk q xs m) (q + 1) (leaveL xs m)) (gX (leaveOk q xs m) (q + 1) (leaveL xs m)) (gB (leaveOk q xs m) (q + 1) (leaveL xs m)) w) := by
  have h0 := hs.lt
  have b2 := ((Blk.new w 25 #[.int .i64 q, .slice A n c]).alloc (.cells #[.int .i64 m] 3)).alloc (.cells #[.int .i64 0, .slice none 0 0] 25)
  have b3 := (Blk.new (w.alloc (.cells #[.int .i64 q, .slice A n c] 25)) 3 #[.int .i64 m]).alloc (.cells #[.int .i64 0, .slice none 0 0] 25)
  have b4 := Blk.new ((w.alloc (.cells #[.int .i64 q, .slice A n c] 25)).alloc (.cells #[.int .i64 m] 3)) 25 #[.int .i64 0, .slice none 0 0]
  simp only [World.size_alloc] at b3 b4
  have HB0 : Below w.heap.size w (((w.alloc (.cells #[.int .i64 q, .slice A n c] 25)).alloc (.cells #[.int .i64 m] 3)).alloc (.cells #[.int .i64 0, .slice none 0 0] 25)) := (by repeat' (first | with_reducible exact Below.refl _ _ | with_reducible assumption | with_reducible refine Below.setCell ?_ (by first | omega | (simp; done) | (simp; omega)) _ | with_reducible refine Below.alloc ?_ (by first | omega | (simp; done) | (simp; omega)) _ | with_reducible refine below_drewN ?_ _ | with_reducible refine Below.drew ?_ | (with_reducible refine Below.trans ?_ (Below.mono (by with_reducible assumption) (by first | omega | (simp; done) | (simp; omega))))))
  have S0 : (((w.alloc (.cells #[.int .i64 q, .slice A n c] 25)).alloc (.cells #[.int .i64 m] 3)).alloc (.cells #[.int .i64 0, .slice none 0 0] 25)).heap.size = w.heap.size + 1 + 1 + 1 := by simp
  have s0 : Sent (((w.alloc (.cells #[.int .i64 q, .slice A n c] 25)).alloc (.cells #[.int .i64 m] 3)).alloc (.cells #[.int .i64 0, .slice none 0 0] 25)) a := hs.below HB0 h0
  cases h1 : vvB q xs
  · have hnot : leaveOk q xs m = false := by simp [leaveOk, h1]
    go_enter Tryd.func20, Tryd.ntmps20
    go_wp2_with fail
    refine (implViewValid_any _ _ _ q xs _ ((hx.below HB0).more (by rw [S0]; omega)) hn).mono ?_
    rintro e w1 ⟨rfl, hb1⟩
    have z1 : w.heap.size + 1 + 1 + 1 ≤ w1.heap.size := by have := hb1.size; rw [S0] at this; exact this
    have HB1 : Below w.heap.size w w1 := HB0.trans (hb1.mono (by rw [S0]; omega))
    have s1 := s0.step hb1
    have p2 := b2.below hb1 (by rw [S0]; omega)
    have p3 := b3.below hb1 (by rw [S0]; omega)
    have p4 := b4.below hb1 (by rw [S0]; omega)
    clear hb1
    have f2 := p2.two; have l2 := p2.lt; have f3 := p3.one; have l3 := p3.lt; have f4 := p4.two; have l4 := p4.lt
    go_wp2
    exact bodyPost_ret (v := .tuple #[.agg #[.int .i64 0, .slice none 0 0], .bool false]) (by simp [results, Tryd.results20, go_sem, f4]) rfl (RetVB.zero (by repeat' (first | with_reducible exact Below.refl _ _ | with_reducible assumption | with_reducible refine Below.setCell ?_ (by first | omega | (simp; done) | (simp; omega)) _ | with_reducible refine Below.alloc ?_ (by first | omega | (simp; done) | (simp; omega)) _ | with_reducible refine below_drewN ?_ _ | with_reducible refine Below.drew ?_ | (with_reducible refine Below.trans ?_ (Below.mono (by with_reducible assumption) (by first | omega | (simp; done) | (simp; omega)))))) (gB_no (by simp [hnot])))
  obtain ⟨q0, q9⟩ := vv_q h1
  cases h2 : hasB xs m
  · have hnot : leaveOk q xs m = false := by simp [leaveOk, h2]
    go_enter Tryd.func20, Tryd.ntmps20
    go_wp2_with fail
    refine (implViewValid_any _ _ _ q xs _ ((hx.below HB0).more (by rw [S0]; omega)) hn).mono ?_
    rintro e w1 ⟨rfl, hb1⟩
    have z1 : w.heap.size + 1 + 1 + 1 ≤ w1.heap.size := by have := hb1.size; rw [S0] at this; exact this
    have HB1 : Below w.heap.size w w1 := HB0.trans (hb1.mono (by rw [S0]; omega))
    have s1 := s0.step hb1
    have p2 := b2.below hb1 (by rw [S0]; omega)
    have p3 := b3.below hb1 (by rw [S0]; omega)
    have p4 := b4.below hb1 (by rw [S0]; omega)
    clear hb1
    have f2 := p2.two; have l2 := p2.lt; have f3 := p3.one; have l3 := p3.lt; have f4 := p4.two; have l4 := p4.lt
    go_wp2_with fail
    refine (contains_any _ _ _ w.heap.size xs _ _ (hx.below HB1) hn).mono ?_
    rintro e w' ⟨rfl, rfl⟩
    go_wp2
    exact bodyPost_ret (v := .tuple #[.agg #[.int .i64 0, .slice none 0 0], .bool false]) (by simp [results, Tryd.results20, go_sem, f4]) rfl (RetVB.zero (by repeat' (first | with_reducible exact Below.refl _ _ | with_reducible assumption | with_reducible refine Below.setCell ?_ (by first | omega | (simp; done) | (simp; omega)) _ | with_reducible refine Below.alloc ?_ (by first | omega | (simp; done) | (simp; omega)) _ | with_reducible refine below_drewN ?_ _ | with_reducible refine Below.drew ?_ | (with_reducible refine Below.trans ?_ (Below.mono (by with_reducible assumption) (by first | omega | (simp; done) | (simp; omega)))))) (gB_no (by simp [hnot])))
  · have hok : leaveOk q xs m = true := by simp [leaveOk, h1, h2]
    go_enter Tryd.func20, Tryd.ntmps20
    go_wp2_with fail
    refine (implViewValid_any _ _ _ q xs _ ((hx.below HB0).more (by rw [S0]; omega)) hn).mono ?_
    rintro e w1 ⟨rfl, hb1⟩
    have z1 : w.heap.size + 1 + 1 + 1 ≤ w1.heap.size := by have := hb1.size; rw [S0] at this; exact this
    have HB1 : Below w.heap.size w w1 := HB0.trans (hb1.mono (by rw [S0]; omega))
    have s1 := s0.step hb1
    have p2 := b2.below hb1 (by rw [S0]; omega)
    have p3 := b3.below hb1 (by rw [S0]; omega)
    have p4 := b4.below hb1 (by rw [S0]; omega)
    clear hb1
    have f2 := p2.two; have l2 := p2.lt; have f3 := p3.one; have l3 := p3.lt; have f4 := p4.two; have l4 := p4.lt
    go_wp2_with fail
    refine (contains_any _ _ _ w.heap.size xs _ _ (hx.below HB1) hn).mono ?_
    rintro e w' ⟨rfl, rfl⟩
    go_wp2_with fail
    refine (viewOf_any (q + 1) 49 _ _ (fun x => x != m && hasB xs x) a _ s1 (enters_fn Tryd.func49 (by kernel_rfl) rfl) (fun kk w' hk hb => leaveAcc_any w.heap.size (w.heap.size + 1) A n c w.heap.size q m kk xs w' (p2.below hb p2.lt) (p3.below hb p3.lt) ((hx.below HB1).below (hb.mono HB1.size)) hn)).mono ?_
    rintro e w2 ⟨A2, n2, c2, hor, hb2⟩
    have z2 := hb2.size
    have s2 := s1.step hb2
    have r2 := p4.below hb2 p4.lt
    have HB2 : Below w.heap.size w w2 := HB1.trans (hb2.mono HB1.size)
    clear f2 f3 f4 l2 l3 l4
    rcases hor with ⟨hv, rfl, o2⟩ | ⟨hv, rfl⟩
    · go_wp2_with fail
      refine (succeeded_ok _ _ _ (q + 1) a _ s2).mono ?_
      rintro e w3 ⟨rfl, hb3⟩
      have z3 := hb3.size
      have r3 := r2.below hb3 r2.lt
      have f4 := r3.two
      have l4 := r3.lt
      have HB3 : Below w.heap.size w w3 := HB2.trans (hb3.mono HB2.size)
      clear HB0 HB1 HB2
      go_wp2
      exact bodyPost_ret (v := .tuple #[.agg #[.int .i64 (q + 1), .slice A2 n2 c2], .bool true]) (by simp [results, Tryd.results20, go_sem, f4]) rfl (RetVB.yes ((HB3.setCell (by first | omega | (simp; done) | (simp; omega)) _).setCell (by first | omega | (simp; done) | (simp; omega)) _) ((((o2.below hb3).setBelow (by first | omega | (simp; done) | (simp; omega)) _).setBelow (by first | omega | (simp; done) | (simp; omega)) _).mono (by omega)) (gB_is hok hv))
    · go_wp2_with fail
      refine (succeeded_no 0 a _ s2 _ _ _).mono ?_
      rintro e w3 ⟨rfl, hb3⟩
      have z3 := hb3.size
      have r3 := r2.below hb3 r2.lt
      have f4 := r3.two
      have l4 := r3.lt
      have HB3 : Below w.heap.size w w3 := HB2.trans (hb3.mono HB2.size)
      clear HB0 HB1 HB2
      go_wp2
      exact bodyPost_ret (v := .tuple #[.agg #[.int .i64 0, .slice none 0 0], .bool false]) (by simp [results, Tryd.results20, go_sem, f4]) rfl (RetVB.zero ((HB3.setCell (by first | omega | (simp; done) | (simp; omega)) _).setCell (by first | omega | (simp; done) | (simp; omega)) _) (gB_is hok hv))
end Go.Proofs.YtmjacdcefaohcaaDoor
