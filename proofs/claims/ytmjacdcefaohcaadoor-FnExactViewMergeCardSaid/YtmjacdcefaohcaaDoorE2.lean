/-
  Contracts of the program's views that are made: viewOf, succeeded, the closures.
-/
import Derived.Test.YtmjacdcefaohcaaDoorEr
import Derived.Test.YtmjacdcefaohcaaDoorV1
namespace Go.Proofs.YtmjacdcefaohcaaDoor
open Go.RowKit
set_option linter.unusedVariables false

/-- A call hands back a view in memory of its own, and whether there is one. -/
def RetVB (Q : Int) (L : List Int) (b : Bool) (w : World) (e : Ending) (w' : World) : Prop :=
  ∃ A n c, e = .returned (.tuple #[.agg #[.int .i64 Q, .slice A n c], .bool b]) ∧ Own w' w.heap.size A n c L ∧ Below w.heap.size w w'
theorem RetVB.zero {b : Bool} {q : Int} {L : List Int} {w w' : World} (h : Below w.heap.size w w') (hb : gB b q L = false) : RetVB (gQ b q L) (gX b q L) (gB b q L) w (.returned (.tuple #[.agg #[.int .i64 0, .slice none 0 0], .bool false])) w' := by
  refine ⟨none, 0, 0, ?_, ?_, h⟩
  · simp [gQ, hb]
  · simp only [gX, hb]; exact Own.nil _ _
theorem RetVB.yes {b : Bool} {q : Int} {L : List Int} {w w' : World} {A : Option Addr} {n c : Nat} (h : Below w.heap.size w w') (ho : Own w' w.heap.size A n c L) (hb : gB b q L = true) : RetVB (gQ b q L) (gX b q L) (gB b q L) w (.returned (.tuple #[.agg #[.int .i64 q, .slice A n c], .bool true])) w' := by
  refine ⟨A, n, c, ?_, ?_, h⟩
  · simp [gQ, hb]
  · simp only [gX, hb]; exact ho
theorem gB_no {b : Bool} {q : Int} {L : List Int} (h : b = false) : gB b q L = false := by simp [gB, h]
theorem gB_is {b : Bool} {q : Int} {L : List Int} {c : Bool} (h : b = true) (h' : vvB q L = c) : gB b q L = c := by simp [gB, h, h']

theorem succeeded_ok (A : Option Addr) (n c : Nat) (q : Int) (a : Addr) (w : World) (hs : Sent w a) :
    Calls Tryd.prog 47 #[.agg #[.int .i64 q, .slice A n c], .nilIface] w (RetV (.tuple #[.agg #[.int .i64 q, .slice A n c], .bool true]) w) := by
  have h0 := hs.lt
  have hs0 : w.cell? ⟨0, 0, none⟩ = some (.iface 84 (.pointer (some a))) := hs
  have b2 := Blk.new (w.alloc (.cells #[.int .i64 q, .slice A n c] 25)) 25 #[.int .i64 0, .slice none 0 0]
  simp only [World.size_alloc] at b2
  go_enter Tryd.func47, Tryd.ntmps47
  go_wp2_with fail
  refine (is_nil a _).mono ?_
  rintro e w1 ⟨rfl, rfl⟩
  have f2 := b2.two
  go_wp2
  exact bodyPost_ret (v := .tuple #[.agg #[.int .i64 q, .slice A n c], .bool true]) (by simp [results, Tryd.results47, go_sem, f2]) rfl ⟨rfl, (by repeat' (first | with_reducible exact Below.refl _ _ | with_reducible assumption | with_reducible refine Below.setCell ?_ (by first | omega | (simp; done) | (simp; omega)) _ | with_reducible refine Below.alloc ?_ (by first | omega | (simp; done) | (simp; omega)) _ | with_reducible refine below_drewN ?_ _ | with_reducible refine Below.drew ?_ | (with_reducible refine Below.trans ?_ (Below.mono (by with_reducible assumption) (by first | omega | (simp; done) | (simp; omega))))))⟩
theorem succeeded_no (q : Int) (a : Addr) (w : World) (hs : Sent w a) (A : Option Addr) (n c : Nat) :
    Calls Tryd.prog 47 #[.agg #[.int .i64 q, .slice A n c], .iface 84 (.pointer (some a))] w (RetV (.tuple #[.agg #[.int .i64 0, .slice none 0 0], .bool false]) w) := by
  have h0 := hs.lt
  have hs0 : w.cell? ⟨0, 0, none⟩ = some (.iface 84 (.pointer (some a))) := hs
  have b2 := Blk.new (w.alloc (.cells #[.int .i64 q, .slice A n c] 25)) 25 #[.int .i64 0, .slice none 0 0]
  simp only [World.size_alloc] at b2
  go_enter Tryd.func47, Tryd.ntmps47
  go_wp2_with fail
  refine (is_same a _).mono ?_
  rintro e w1 ⟨rfl, rfl⟩
  have f2 := b2.two
  go_wp2
  exact bodyPost_ret (v := .tuple #[.agg #[.int .i64 0, .slice none 0 0], .bool false]) (by simp [results, Tryd.results47, go_sem, f2]) rfl ⟨rfl, (by repeat' (first | with_reducible exact Below.refl _ _ | with_reducible assumption | with_reducible refine Below.setCell ?_ (by first | omega | (simp; done) | (simp; omega)) _ | with_reducible refine Below.alloc ?_ (by first | omega | (simp; done) | (simp; omega)) _ | with_reducible refine below_drewN ?_ _ | with_reducible refine Below.drew ?_ | (with_reducible refine Below.trans ?_ (Below.mono (by with_reducible assumption) (by first | omega | (simp; done) | (simp; omega))))))⟩

/-- What stands while a view is gathered. -/
structure VO (w : World) (q : Int) (wr : World) (A2 : Option Addr) (n2 c2 : Nat) (xs : List Int) : Prop where
  q : Blk wr (w.heap.size + 1) 25 #[.int .i64 q, .slice A2 n2 c2]
  r : Blk wr w.heap.size 25 #[.int .i64 0, .slice none 0 0]
  a : Own wr (w.heap.size + 1 + 1) A2 n2 c2 xs
  bl : Below w.heap.size w wr
section
variable {w wr w1 w3 : World} {n2 c2 c3 : Nat} {q v : Int} {A2 A3 : Option Addr} {xs : List Int}
theorem VO.step (h : VO w q wr A2 n2 c2 xs) (hb : Below wr.heap.size wr w1) : VO w q w1 A2 n2 c2 xs :=
  ⟨h.q.below hb h.q.lt, h.r.below hb h.r.lt, h.a.below hb, h.bl.trans (hb.mono h.bl.size)⟩
theorem VO.add (h : VO w q wr A2 n2 c2 xs) (hg : (wr.alloc (.cells #[.int .i64 v] 3)).grownBy w3 (blk A2)) (ho : Own w3 (w.heap.size + 1 + 1) A3 (n2 + 1) c3 (xs ++ [v])) :
    VO w q (w3.setCell ⟨w.heap.size + 1, 1, none⟩ (.slice A3 (n2 + 1) c3)) A3 (n2 + 1) c3 (xs ++ [v]) := by
  have hsz := h.q.lt
  have hrow : ∀ k, blk A2 = some k → w.heap.size + 1 + 1 ≤ k := fun k hk => (h.a.lt hk).1
  have hq3 := Blk.grown (h.q.alloc (.cells #[.int .i64 v] 3)) hg (fun e => by have := hrow _ e.symm; omega)
  exact ⟨hq3.set_ 1 _, (Blk.grown (h.r.alloc (.cells #[.int .i64 v] 3)) hg (fun e => by have := hrow _ e.symm; omega)).far (by simp) _, ho.setBelow (by simp) _,
    (Below.grown (h.bl.alloc (by omega) _) hg (by simp; omega) (fun k hk => by have := hrow k hk; omega)).setCell (by simp) _⟩
end

/-- A view or the sentinel. -/
def RetVE (q : Int) (L : List Int) (a : Addr) (w : World) (e : Ending) (w' : World) : Prop :=
  ∃ A n c, (vvB q L = true ∧ e = .returned (.tuple #[.agg #[.int .i64 q, .slice A n c], .nilIface]) ∧ Own w' w.heap.size A n c L ∨
    vvB q L = false ∧ e = .returned (.tuple #[.agg #[.int .i64 0, .slice none 0 0], .iface 84 (.pointer (some a))])) ∧ Below w.heap.size w w'

set_option maxHeartbeats 1000000 in
theorem viewOf_any (q : Int) (F : FuncId) (c1 c2 : Value) (p : Int → Bool) (a : Addr) (w : World) (hs : Sent w a)
    (he : ∀ args w, (callFunc F args).run Tryd.prog w = .ok (.enter F args) w)
    (hacc : ∀ (m : Nat) (w' : World), m < 8 → Below w.heap.size w w' → Calls Tryd.prog F #[.int .i64 m, c1, c2] w' (RetV (.bool (p m)) w')) :
    Calls Tryd.prog 48 #[.int .i64 q, .func (.func F) #[] #[c1, c2]] w (RetVE q (accL p) a w) := by
  have h0 := hs.lt
  have hV : VO w q ((w.alloc (.cells #[.int .i64 0, .slice none 0 0] 25)).alloc (.cells #[.int .i64 q, .slice none 0 0] 25)) none 0 0 [] := by
    have hq := Blk.new (w.alloc (.cells #[.int .i64 0, .slice none 0 0] 25)) 25 #[.int .i64 q, .slice none 0 0]
    simp only [World.size_alloc] at hq
    exact ⟨hq, (Blk.new _ _ _).alloc _, Own.nil _ _, (by repeat' (first | with_reducible exact Below.refl _ _ | with_reducible assumption | with_reducible refine Below.setCell ?_ (by first | omega | (simp; done) | (simp; omega)) _ | with_reducible refine Below.alloc ?_ (by first | omega | (simp; done) | (simp; omega)) _ | with_reducible refine below_drewN ?_ _ | with_reducible refine Below.drew ?_ | (with_reducible refine Below.trans ?_ (Below.mono (by with_reducible assumption) (by first | omega | (simp; done) | (simp; omega))))))⟩
  go_enter Tryd.func48, Tryd.ntmps48
  go_wp2
  go_loopw [10] (fun i wr => ∃ (k : Nat) (A2 : Option Addr) (n2 c2 : Nat), k ≤ 8 ∧ i = .int .i64 k ∧ n2 ≤ k ∧ VO w q wr A2 n2 c2 (accK p k)) (fun i _ => 8 - (intOf i).toNat)
  case atStart => exact ⟨0, none, 0, 0, by omega, rfl, by omega, by rw [accK_zero]; exact hV⟩
  case round =>
    clear hV
    obtain ⟨k, A2, n2, c2, hk, rfl, hn2, h⟩ := hrel
    by_cases hlt : k < 8
    · go_wp2_with fail
      refine (hacc k _ hlt h.bl).mono ?_
      rintro e w1 ⟨rfl, hb1⟩
      have h1 := h.step hb1
      clear h hb1
      have f1 := h1.q.two
      have z1 := h1.q.lt
      cases hp : p (k : Int)
      · go_wp2
        go_roundw
        case rel => exact ⟨k + 1, A2, n2, c2, by omega, by go_num, by omega, by rw [accK_no hp]; exact h1⟩
        case measure => simp [intOf]; omega
      · go_wp2_with (at_builtin; refine app1 rfl _ _ rfl (w.heap.size + 1 + 1) rfl (h1.a.alloc _) _ _ _ _ [_] rfl (Ints.one' _ (by first | omega | (simp; done) | (simp; omega))) (by omega) (by have := h1.q.lt; simp; omega) ?_; intro A3 c3 w4 o4 hg4 at4; have f4 := (Blk.grown (h1.q.alloc _) hg4 (fun e => by have := h1.a.lt e.symm; omega)).two; have h4 := h1.add hg4 o4)
        go_roundw
        case rel => exact ⟨k + 1, A3, n2 + 1, c3, by omega, by go_num, by omega, by rw [accK_yes hp]; exact h4⟩
        case measure => simp [intOf]; omega
    · have hk8 : k = 8 := by omega
      subst hk8
      have f1 := h.q.two
      have z1 := h.q.lt
      go_wp2_with fail
      refine (implViewValid_any _ _ _ q (accL p) _ h.a.ints (by omega)).mono ?_
      rintro e w1 ⟨rfl, hb1⟩
      have h1 := h.step hb1
      have hs1 : Sent w1 a := hs.step h1.bl
      have hs0 : w1.cell? ⟨0, 0, none⟩ = some (.iface 84 (.pointer (some a))) := hs1
      clear h hb1 f1 z1
      have f1 := h1.q.two
      have r1 := h1.r.two
      have z1 := h1.q.lt
      cases hv : vvB q (accL p)
      · go_wp2_with fail
        go_region
        all_goals (try go_wp2)
        all_goals
          exact bodyPost_ret (v := .tuple #[.agg #[.int .i64 0, .slice none 0 0], .iface 84 (.pointer (some a))]) (by simp [results, Tryd.results48, go_sem, r1]) rfl ⟨none, 0, 0, .inr ⟨hv, rfl⟩, (by have := h1.bl; exact (by repeat' (first | with_reducible exact Below.refl _ _ | with_reducible assumption | with_reducible refine Below.setCell ?_ (by first | omega | (simp; done) | (simp; omega)) _ | with_reducible refine Below.alloc ?_ (by first | omega | (simp; done) | (simp; omega)) _ | with_reducible refine below_drewN ?_ _ | with_reducible refine Below.drew ?_ | (with_reducible refine Below.trans ?_ (Below.mono (by with_reducible assumption) (by first | omega | (simp; done) | (simp; omega)))))))⟩
      · go_wp2
        exact bodyPost_ret (v := .tuple #[.agg #[.int .i64 q, .slice A2 n2 c2], .nilIface]) (by simp [results, Tryd.results48, go_sem, r1]) rfl ⟨A2, n2, c2, .inl ⟨hv, rfl, ((h1.a.setBelow (by first | omega | (simp; done) | (simp; omega)) _).setBelow (by first | omega | (simp; done) | (simp; omega)) _).mono (by first | omega | (simp; done) | (simp; omega))⟩, (h1.bl.setCell (by first | omega | (simp; done) | (simp; omega)) _).setCell (by first | omega | (simp; done) | (simp; omega)) _⟩

/-! The closures. -/
theorem joinAcc_any (g2 g3 : Nat) (A : Option Addr) (n c B : Nat) (q v m : Int) (xs : List Int) (w : World) (b2 : Blk w g2 25 #[.int .i64 q, .slice A n c]) (b3 : Blk w g3 3 #[.int .i64 v]) (hx : Ints w B A n xs) (hn : n ≤ 1048576) :
    Calls Tryd.prog 51 #[.int .i64 m, .pointer (some ⟨g3, 0, none⟩), .pointer (some ⟨g2, 0, none⟩)] w (RetV (.bool (m == v || hasB xs m)) w) := by
  have f2 := b2.two
  have f3 := b3.one
  cases h : (m == v)
  all_goals
    go_enter Tryd.func51, Tryd.ntmps51
    go_wp2_with (go_at_call 46; refine (contains_any _ _ _ B xs _ _ hx hn).mono ?_; rintro e w1 ⟨rfl, rfl⟩)
    go_ret
    exact ⟨ret_bool (by simp), Below.refl _ _⟩
theorem leaveAcc_any (g2 g3 : Nat) (A : Option Addr) (n c B : Nat) (q v m : Int) (xs : List Int) (w : World) (b2 : Blk w g2 25 #[.int .i64 q, .slice A n c]) (b3 : Blk w g3 3 #[.int .i64 v]) (hx : Ints w B A n xs) (hn : n ≤ 1048576) :
    Calls Tryd.prog 49 #[.int .i64 m, .pointer (some ⟨g3, 0, none⟩), .pointer (some ⟨g2, 0, none⟩)] w (RetV (.bool (m != v && hasB xs m)) w) := by
  have f2 := b2.two
  have f3 := b3.one
  cases h : (m != v)
  all_goals
    go_enter Tryd.func49, Tryd.ntmps49
    go_wp2_with (go_at_call 46; refine (contains_any _ _ _ B xs _ _ hx hn).mono ?_; rintro e w1 ⟨rfl, rfl⟩)
    go_ret
    exact ⟨ret_bool (by simp), Below.refl _ _⟩
theorem lowAcc_any (g2 g3 : Nat) (A : Option Addr) (n c B : Nat) (q v m : Int) (xs : List Int) (w : World) (b2 : Blk w g2 25 #[.int .i64 q, .slice A n c]) (b3 : Blk w g3 3 #[.int .i64 v]) (hx : Ints w B A n xs) (hn : n ≤ 1048576) :
    Calls Tryd.prog 54 #[.int .i64 m, .pointer (some ⟨g3, 0, none⟩), .pointer (some ⟨g2, 0, none⟩)] w (RetV (.bool (decide (m < v) && hasB xs m)) w) := by
  have f2 := b2.two
  have f3 := b3.one
  by_cases h : m < v
  all_goals
    go_enter Tryd.func54, Tryd.ntmps54
    go_wp2_with (go_at_call 46; refine (contains_any _ _ _ B xs _ _ hx hn).mono ?_; rintro e w1 ⟨rfl, rfl⟩)
    go_ret
    exact ⟨ret_bool (by first | (simp [h]; done) | (simp [h]; intros; omega)), Below.refl _ _⟩
theorem highAcc_any (g2 g3 : Nat) (A : Option Addr) (n c B : Nat) (q v m : Int) (xs : List Int) (w : World) (b2 : Blk w g2 25 #[.int .i64 q, .slice A n c]) (b3 : Blk w g3 3 #[.int .i64 v]) (hx : Ints w B A n xs) (hn : n ≤ 1048576) :
    Calls Tryd.prog 55 #[.int .i64 m, .pointer (some ⟨g3, 0, none⟩), .pointer (some ⟨g2, 0, none⟩)] w (RetV (.bool (decide (v ≤ m) && hasB xs m)) w) := by
  have f2 := b2.two
  have f3 := b3.one
  by_cases h : v ≤ m
  all_goals
    go_enter Tryd.func55, Tryd.ntmps55
    go_wp2_with (go_at_call 46; refine (contains_any _ _ _ B xs _ _ hx hn).mono ?_; rintro e w1 ⟨rfl, rfl⟩)
    go_ret
    exact ⟨ret_bool (by first | (simp [h]; done) | (simp [h]; intros; omega)), Below.refl _ _⟩
theorem mergeAcc_any (g2 g3 : Nat) (A : Option Addr) (n c B : Nat) (q : Int) (xs : List Int) (A' : Option Addr) (n' c' : Nat) (q' : Int) (ys : List Int) (m : Int) (w : World) (b2 : Blk w g2 25 #[.int .i64 q, .slice A n c]) (b3 : Blk w g3 25 #[.int .i64 q', .slice A' n' c']) (hx : Ints w B A n xs) (hn : n ≤ 1048576) (hy : Ints w B A' n' ys) (hn' : n' ≤ 1048576) :
    Calls Tryd.prog 56 #[.int .i64 m, .pointer (some ⟨g2, 0, none⟩), .pointer (some ⟨g3, 0, none⟩)] w (RetV (.bool (hasB xs m || hasB ys m)) w) := by
  have f2 := b2.two
  have f3 := b3.two
  cases h : hasB xs m
  all_goals
    go_enter Tryd.func56, Tryd.ntmps56
    go_wp2_with fail
    refine (contains_any _ _ _ B xs _ _ hx hn).mono ?_
    rintro e w1 ⟨rfl, rfl⟩
    go_wp2_with (go_at_call 46; refine (contains_any _ _ _ B ys _ _ hy hn').mono ?_; rintro e w1 ⟨rfl, rfl⟩)
    go_ret
    exact ⟨ret_bool (by first | (simp [h]; done) | (simp [h]; intros; omega)), Below.refl _ _⟩
end Go.Proofs.YtmjacdcefaohcaaDoor
