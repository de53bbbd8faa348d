/-
  The view's copies, comparisons and marks, in the one form of all laws.
-/
import Derived.Test.YtmjacdcefaohcaaDoorVL
import Derived.Test.YtmjacdcefaohcaaDoorSameK
namespace Go.Proofs.YtmjacdcefaohcaaDoor
open Go.RowKit
set_option linter.unusedVariables false

/-- A call hands back a view in memory of its own, and changes nothing that was there. -/
def RetVw (q : Int) (xs : List Int) (w : World) (e : Ending) (w' : World) : Prop :=
  ∃ A n c, e = .returned (.agg #[.int .i64 q, .slice A n c]) ∧ Own w' w.heap.size A n c xs ∧ Below w.heap.size w w'

theorem toView_any (A : Option Addr) (n c : Nat) (q : Int) (xs : List Int) (w : World) (hx : Ints w w.heap.size A n xs) (hn : n ≤ 1048576) :
    Calls Tryd.prog 34 #[.agg #[.int .i64 q, .slice A n c]] w (RetVw q xs w) := by
  have b1 : Blk (w.alloc (.cells #[.int .i64 q, .slice A n c] 41)) w.heap.size 41 #[.int .i64 q, .slice A n c] := Blk.new _ _ _
  have b2 := Blk.new (w.alloc (.cells #[.int .i64 q, .slice A n c] 41)) 25 #[.int .i64 0, .slice none 0 0]
  have b3 := Blk.new ((w.alloc (.cells #[.int .i64 q, .slice A n c] 41)).alloc (.cells #[.int .i64 0, .slice none 0 0] 25)) 25 #[.int .i64 q, .slice none 0 0]
  replace b2 := b2.alloc (.cells #[.int .i64 q, .slice none 0 0] 25)
  simp only [World.size_alloc] at b2 b3
  go_enter Tryd.func34, Tryd.ntmps34
  go_wp2_with fail
  refine (toIntS_any _ _ _ w.heap.size xs _ (((hx.alloc (Nat.le_refl _) _).alloc (by simp) _).alloc (by first | omega | (simp; done) | (simp; omega)) _) (by first | omega | (simp; done) | (simp; omega)) hn).mono ?_
  rintro e w1 ⟨A1, n1, c1, rfl, hown1, hb1⟩
  have hz1 := hb1.size
  simp at hz1
  replace b2 := b2.below hb1 (by first | omega | (simp; done) | (simp; omega))
  replace b3 := b3.below hb1 (by first | omega | (simp; done) | (simp; omega))
  have f2 := b2.two
  have f3 := b3.two
  go_wp2
  exact bodyPost_ret (v := .agg #[.int .i64 q, .slice A1 n1 c1]) (by simp [results, Tryd.results34, go_sem, f2]) rfl ⟨A1, n1, c1, rfl, by first | exact (((hown1.setBelow (by first | omega | (simp; done) | (simp; omega)) _).setBelow (by first | omega | (simp; done) | (simp; omega)) _).setBelow (by first | omega | (simp; done) | (simp; omega)) _).mono (by first | omega | (simp; done) | (simp; omega)) | exact ((hown1.setBelow (by first | omega | (simp; done) | (simp; omega)) _).setBelow (by first | omega | (simp; done) | (simp; omega)) _).mono (by first | omega | (simp; done) | (simp; omega)), (by repeat' (first | with_reducible exact Below.refl _ _ | with_reducible assumption | with_reducible refine Below.setCell ?_ (by first | omega | (simp; done) | (simp; omega)) _ | with_reducible refine Below.alloc ?_ (by first | omega | (simp; done) | (simp; omega)) _ | with_reducible refine below_drewN ?_ _ | with_reducible refine Below.drew ?_ | (with_reducible refine Below.trans ?_ (Below.mono (by with_reducible assumption) (by first | omega | (simp; done) | (simp; omega))))))⟩

theorem eqView_any (A : Option Addr) (n c : Nat) (q : Int) (xs : List Int) (B : Option Addr) (m d : Nat) (p : Int) (ys : List Int) (w : World) (hx : Ints w w.heap.size A n xs) (hy : Ints w w.heap.size B m ys) (hn : n ≤ 1048576) (hm : m ≤ 1048576) :
    Calls Tryd.prog 35 #[.agg #[.int .i64 q, .slice A n c], .agg #[.int .i64 p, .slice B m d]] w (RetV (.bool (q == p && xs == ys)) w) := by
  have hX : Ints ((w.alloc (.cells #[.int .i64 q, .slice A n c] 25)).alloc (.cells #[.int .i64 p, .slice B m d] 25)) w.heap.size A n xs := (hx.alloc (Nat.le_refl _) _).alloc (by first | omega | (simp; done) | (simp; omega)) _
  have hY : Ints ((w.alloc (.cells #[.int .i64 q, .slice A n c] 25)).alloc (.cells #[.int .i64 p, .slice B m d] 25)) w.heap.size B m ys := (hy.alloc (Nat.le_refl _) _).alloc (by first | omega | (simp; done) | (simp; omega)) _
  by_cases hqp : q = p
  · subst hqp
    have hd : (q != q) = false := by simp
    cases h1 : (xs == ys)
    all_goals
      go_enter Tryd.func35, Tryd.ntmps35
      go_wp2_with fail
      refine (eqIntS_any _ _ _ _ _ _ w.heap.size xs ys _ hX hY hn hm).mono ?_
      rintro e w1 ⟨rfl, k1, rfl⟩
      go_wp2
      go_ret
      exact ⟨ret_bool (by simp), (by repeat' (first | with_reducible exact Below.refl _ _ | with_reducible assumption | with_reducible refine Below.setCell ?_ (by first | omega | (simp; done) | (simp; omega)) _ | with_reducible refine Below.alloc ?_ (by first | omega | (simp; done) | (simp; omega)) _ | with_reducible refine below_drewN ?_ _ | with_reducible refine Below.drew ?_ | (with_reducible refine Below.trans ?_ (Below.mono (by with_reducible assumption) (by first | omega | (simp; done) | (simp; omega))))))⟩
  · have hd : (q != p) = true := by simp [hqp]
    have hd' : (q == p) = false := by simp [hqp]
    clear hqp
    go_enter Tryd.func35, Tryd.ntmps35
    go_wp2
    go_ret
    exact ⟨ret_bool (by simp [hd']), (by repeat' (first | with_reducible exact Below.refl _ _ | with_reducible assumption | with_reducible refine Below.setCell ?_ (by first | omega | (simp; done) | (simp; omega)) _ | with_reducible refine Below.alloc ?_ (by first | omega | (simp; done) | (simp; omega)) _ | with_reducible refine below_drewN ?_ _ | with_reducible refine Below.drew ?_ | (with_reducible refine Below.trans ?_ (Below.mono (by with_reducible assumption) (by first | omega | (simp; done) | (simp; omega))))))⟩
theorem eqView_same (A : Option Addr) (n c : Nat) (q : Int) (xs : List Int) (B : Option Addr) (m d : Nat) (w : World) (hx : Ints w w.heap.size A n xs) (hy : Ints w w.heap.size B m xs) (hn : n ≤ 1048576) (hm : m ≤ 1048576) :
    Calls Tryd.prog 35 #[.agg #[.int .i64 q, .slice A n c], .agg #[.int .i64 q, .slice B m d]] w (RetV (.bool true) w) := by
  have := eqView_any A n c q xs B m d q xs w hx hy hn hm
  simpa using this
theorem sameView_any (A : Option Addr) (n c : Nat) (q : Int) (xs : List Int) (B : Option Addr) (m d : Nat) (p : Int) (ys : List Int) (w : World) (hx : Ints w w.heap.size A n xs) (hy : Ints w w.heap.size B m ys) (hn : n ≤ 1048576) (hm : m ≤ 1048576) :
    Calls Tryd.prog 24 #[.agg #[.int .i64 q, .slice A n c], .agg #[.int .i64 p, .slice B m d]] w (RetV (.bool (q == p && xs == ys)) w) := by
  have hX : Ints ((w.alloc (.cells #[.int .i64 q, .slice A n c] 25)).alloc (.cells #[.int .i64 p, .slice B m d] 25)) w.heap.size A n xs := (hx.alloc (Nat.le_refl _) _).alloc (by first | omega | (simp; done) | (simp; omega)) _
  have hY : Ints ((w.alloc (.cells #[.int .i64 q, .slice A n c] 25)).alloc (.cells #[.int .i64 p, .slice B m d] 25)) w.heap.size B m ys := (hy.alloc (Nat.le_refl _) _).alloc (by first | omega | (simp; done) | (simp; omega)) _
  by_cases hqp : q = p
  · subst hqp
    have hd : (q == q) = true := by simp
    cases h1 : (xs == ys)
    all_goals
      go_enter Tryd.func24, Tryd.ntmps24
      go_wp2_with fail
      refine (sameInts_any _ _ _ _ _ _ w.heap.size xs ys _ hX hY hn hm).mono ?_
      rintro e w1 ⟨rfl, k1, rfl⟩
      go_wp2
      go_ret
      exact ⟨ret_bool (by simp), (by repeat' (first | with_reducible exact Below.refl _ _ | with_reducible assumption | with_reducible refine Below.setCell ?_ (by first | omega | (simp; done) | (simp; omega)) _ | with_reducible refine Below.alloc ?_ (by first | omega | (simp; done) | (simp; omega)) _ | with_reducible refine below_drewN ?_ _ | with_reducible refine Below.drew ?_ | (with_reducible refine Below.trans ?_ (Below.mono (by with_reducible assumption) (by first | omega | (simp; done) | (simp; omega))))))⟩
  · have hd : (q == p) = false := by simp [hqp]
    clear hqp
    go_enter Tryd.func24, Tryd.ntmps24
    go_wp2
    go_ret
    exact ⟨ret_bool (by simp [hd]), (by repeat' (first | with_reducible exact Below.refl _ _ | with_reducible assumption | with_reducible refine Below.setCell ?_ (by first | omega | (simp; done) | (simp; omega)) _ | with_reducible refine Below.alloc ?_ (by first | omega | (simp; done) | (simp; omega)) _ | with_reducible refine below_drewN ?_ _ | with_reducible refine Below.drew ?_ | (with_reducible refine Below.trans ?_ (Below.mono (by with_reducible assumption) (by first | omega | (simp; done) | (simp; omega))))))⟩
theorem sameView_same (A : Option Addr) (n c : Nat) (q : Int) (xs : List Int) (B : Option Addr) (m d : Nat) (w : World) (hx : Ints w w.heap.size A n xs) (hy : Ints w w.heap.size B m xs) (hn : n ≤ 1048576) (hm : m ≤ 1048576) :
    Calls Tryd.prog 24 #[.agg #[.int .i64 q, .slice A n c], .agg #[.int .i64 q, .slice B m d]] w (RetV (.bool true) w) := by
  have := sameView_any A n c q xs B m d q xs w hx hy hn hm
  simpa using this

theorem szView_yes (A : Option Addr) (n c : Nat) (q : Int) (left : Int) (w : World) (h1 : left ≤ 1048576) (h : (n : Int) ≤ left) :
    Calls Tryd.prog 33 #[.agg #[.int .i64 q, .slice A n c], .int .i64 left] w fun e w' => e = .returned (.int .i64 (left - n)) ∧ Below w.heap.size w w' := by
  go_enter Tryd.func33, Tryd.ntmps33
  go_wp2_with fail
  refine (szIntS_yes _ _ _ _ _ h1 h).mono ?_
  rintro e w1 ⟨rfl, rfl⟩
  go_wp2
  go_ret
  exact ⟨rfl, (by repeat' (first | with_reducible exact Below.refl _ _ | with_reducible assumption | with_reducible refine Below.setCell ?_ (by first | omega | (simp; done) | (simp; omega)) _ | with_reducible refine Below.alloc ?_ (by first | omega | (simp; done) | (simp; omega)) _ | with_reducible refine below_drewN ?_ _ | with_reducible refine Below.drew ?_ | (with_reducible refine Below.trans ?_ (Below.mono (by with_reducible assumption) (by first | omega | (simp; done) | (simp; omega))))))⟩
theorem szView_no (A : Option Addr) (n c : Nat) (q : Int) (left : Int) (w : World) (h0 : 0 ≤ left) (h1 : left ≤ 1048576) (hn : n ≤ 9223372036854775807) (h : left < (n : Int)) :
    Calls Tryd.prog 33 #[.agg #[.int .i64 q, .slice A n c], .int .i64 left] w fun e w' => e = .returned (.int .i64 (-1)) ∧ Below w.heap.size w w' := by
  go_enter Tryd.func33, Tryd.ntmps33
  go_wp2_with fail
  refine (szIntS_no _ _ _ _ _ h0 h1 hn h).mono ?_
  rintro e w1 ⟨rfl, rfl⟩
  go_wp2_with fail
  go_ret
  exact ⟨rfl, (by repeat' (first | with_reducible exact Below.refl _ _ | with_reducible assumption | with_reducible refine Below.setCell ?_ (by first | omega | (simp; done) | (simp; omega)) _ | with_reducible refine Below.alloc ?_ (by first | omega | (simp; done) | (simp; omega)) _ | with_reducible refine below_drewN ?_ _ | with_reducible refine Below.drew ?_ | (with_reducible refine Below.trans ?_ (Below.mono (by with_reducible assumption) (by first | omega | (simp; done) | (simp; omega))))))⟩
theorem markView_t (A : Option Addr) (n c : Nat) (q : Int) (xs : List Int) (b e : Nat) (k : Int) (w : World) (hr : RowI w b e A n c xs) (h0 : 0 ≤ k) (hk : k ≤ 1048576) (hn : n ≤ 1048576) :
    Calls Tryd.prog 36 #[.agg #[.int .i64 q, .slice A n c], .int .i64 k] w (MarkedI b e A n c k w) := by
  have hX := hr.own.alloc (.cells #[.int .i64 q, .slice A n c] 25)
  go_enter Tryd.func36, Tryd.ntmps36
  go_wp2_with fail
  refine (markIntS_any _ _ _ b xs k _ hX h0 (by omega) (by omega)).mono ?_
  rintro r w1 ⟨rfl, ho1, hg1⟩
  go_wp2
  go_ret
  have hs1 := hg1.size
  simp at hs1
  refine ⟨rfl, ⟨ho1, hr.2⟩, ⟨hg1.os, hg1.tape, hg1.output, by omega, fun i hi hd => ?_⟩⟩
  refine (hg1.block i (by simp; omega) (fun e' => ?_)).trans (Below.heap_alloc _ _ _ hi)
  have := (hr.own.lt e'.symm).1
  have := hr.2 i e'.symm
  omega
theorem heldView_v (A : Option Addr) (n c : Nat) (k : Int) {q : Int} (w : World) (hx : Ints w w.heap.size A n (marks k n)) (h0 : 0 ≤ k) (hk : k ≤ 1048576) (hn : n ≤ 1048576) :
    Calls Tryd.prog 37 #[.agg #[.int .i64 q, .slice A n c], .int .i64 k] w (RetV (.int .i64 (k + n)) w) := by
  go_enter Tryd.func37, Tryd.ntmps37
  go_wp2_with fail
  refine (heldIntS_any _ _ _ w.heap.size k _ (hx.alloc (Nat.le_refl _) _) h0 (by omega) hn).mono ?_
  rintro e w1 ⟨rfl, rfl⟩
  go_wp2
  go_ret
  exact ⟨rfl, (by repeat' (first | with_reducible exact Below.refl _ _ | with_reducible assumption | with_reducible refine Below.setCell ?_ (by first | omega | (simp; done) | (simp; omega)) _ | with_reducible refine Below.alloc ?_ (by first | omega | (simp; done) | (simp; omega)) _ | with_reducible refine below_drewN ?_ _ | with_reducible refine Below.drew ?_ | (with_reducible refine Below.trans ?_ (Below.mono (by with_reducible assumption) (by first | omega | (simp; done) | (simp; omega))))))⟩
end Go.Proofs.YtmjacdcefaohcaaDoor
