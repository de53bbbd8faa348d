/-
  Contracts of the reference's views that are made: l23View, ViewLeave, ViewMerge, ViewSplit.
-/
import Derived.Test.YtmjacdcefaohcaaDoorE3S
import Derived.Test.YtmjacdcefaohcaaDoorE3M
import Derived.Test.YtmjacdcefaohcaaDoorE3
namespace Go.Proofs.YtmjacdcefaohcaaDoor
open Go.RowKit
set_option linter.unusedVariables false

set_option maxHeartbeats 1000000 in
theorem l23View_any (q q' : Int) (A : Option Addr) (n c : Nat) (xs : List Int) (w : World) (hq : IntKind.i64.wrap (q + 1) = q') (hx : Ints w w.heap.size A n xs) (hn : n ≤ 1048576) :
    Calls Tryd.prog 53 #[.int .i64 q, .slice A n c] w (RetVB (gQ true q' xs) (gX true q' xs) (gB true q' xs) w) := by
  have b1 := (Blk.new w 25 #[.int .i64 0, .slice none 0 0]).alloc (.cells #[] 3)
  have hX := (hx.alloc (Nat.le_refl _) (.cells #[.int .i64 0, .slice none 0 0] 25)).alloc (by simp) (.cells #[] 3)
  go_enter Tryd.func53, Tryd.ntmps53
  go_wp2_with (at_builtin; refine app1 rfl _ _ rfl (w.heap.size + 1) rfl (by (refine Own.lit0 ?_ ?_ <;> first | omega | (simp; done) | (simp; omega))) w.heap.size _ _ _ xs rfl hX (by omega) (by simp) ?_; intro A2 c2 w1 o1 hg1 at1; simp only [Nat.zero_add, List.nil_append] at o1; have p1 := Blk.grown b1 hg1 (fun e => by simp [blk] at e); have z1 := hg1.size; simp at z1)
  have HB1 : Below w.heap.size w w1 := Below.grown (show Below w.heap.size w _ from (by repeat' (first | with_reducible exact Below.refl _ _ | with_reducible assumption | with_reducible refine Below.setCell ?_ (by first | omega | (simp; done) | (simp; omega)) _ | with_reducible refine Below.alloc ?_ (by first | omega | (simp; done) | (simp; omega)) _ | with_reducible refine below_drewN ?_ _ | with_reducible refine Below.drew ?_ | (with_reducible refine Below.trans ?_ (Below.mono (by with_reducible assumption) (by first | omega | (simp; done) | (simp; omega))))))) hg1 (by simp; omega) (fun k hk => by simp [blk] at hk; omega)
  have p2 := Blk.new w1 25 #[.int .i64 q', .slice A2 n c2]
  have q1 := p1.alloc (.cells #[.int .i64 q', .slice A2 n c2] 25)
  have o2 := o1.alloc (.cells #[.int .i64 q', .slice A2 n c2] 25)
  refine (specViewValid_any _ _ _ q' xs _ o2.ints hn).mono ?_
  rintro e w2 ⟨rfl, hb2⟩
  have z2 := hb2.size
  simp at z2
  have r1 := q1.below hb2 q1.lt
  have r2 := p2.below hb2 p2.lt
  have o3 := o2.below hb2
  have HB2 : Below w.heap.size w w2 := (HB1.alloc HB1.size _).trans (hb2.mono (by simp; omega))
  have f1 := r1.two; have l1 := r1.lt; have f2 := r2.two; have l2 := r2.lt
  clear b1 p1 p2 q1 hX hg1 at1 HB1
  cases hv : vvB q' xs
  · go_wp2
    exact bodyPost_ret (v := .tuple #[.agg #[.int .i64 0, .slice none 0 0], .bool false]) (by simp [results, Tryd.results53, go_sem, f1]) rfl (RetVB.zero ((HB2.setCell (by first | omega | (simp; done) | (simp; omega)) _).setCell (by first | omega | (simp; done) | (simp; omega)) _) (gB_is rfl hv))
  · go_wp2
    exact bodyPost_ret (v := .tuple #[.agg #[.int .i64 q', .slice A2 n c2], .bool true]) (by simp [results, Tryd.results53, go_sem, f1]) rfl (RetVB.yes ((HB2.setCell (by first | omega | (simp; done) | (simp; omega)) _).setCell (by first | omega | (simp; done) | (simp; omega)) _) (((o3.setBelow (by first | omega | (simp; done) | (simp; omega)) _).setBelow (by first | omega | (simp; done) | (simp; omega)) _).mono (by first | omega | (simp; done) | (simp; omega))) (gB_is rfl hv))
/-- Blocks that stand, and all that was there. -/
def Kept (w : World) (bs : List (Nat × TypeId × Array Value)) (wr : World) : Prop := Below w.heap.size w wr ∧ ∀ b ∈ bs, Blk wr b.1 b.2.1 b.2.2
section
variable {w wr w1 w3 : World} {bs : List (Nat × TypeId × Array Value)} {row : Option Nat}
theorem Kept.step (h : Kept w bs wr) (hb : Below wr.heap.size wr w1) : Kept w bs w1 := ⟨h.1.trans (hb.mono h.1.size), fun b hm => (h.2 b hm).below hb (h.2 b hm).lt⟩
theorem Kept.alloc (h : Kept w bs wr) (o : Obj) : Kept w bs (wr.alloc o) := ⟨h.1.alloc h.1.size o, fun b hm => (h.2 b hm).alloc o⟩
theorem Kept.drewN (h : Kept w bs wr) (k : Nat) : Kept w bs (wr.drewN k) := ⟨below_drewN h.1 k, fun b hm => (h.2 b hm).drewN k⟩
theorem Kept.grown (h : Kept w bs wr) (hg : wr.grownBy w3 row) (N : Nat) (hN : w.heap.size ≤ N) (hbs : ∀ b ∈ bs, b.1 < N) (hr : ∀ k, row = some k → N ≤ k) : Kept w bs w3 :=
  ⟨h.1.grown hg h.1.size (fun k hk => Nat.le_trans hN (hr k hk)), fun b hm => (h.2 b hm).grown hg (fun e => by have := hr _ e.symm; have := hbs b hm; omega)⟩
theorem Kept.lt (h : Kept w bs wr) {g : Nat} {t : TypeId} {cs : Array Value} (hm : (g, t, cs) ∈ bs) : Blk wr g t cs := h.2 _ hm
theorem Kept.size (h : Kept w bs wr) : w.heap.size ≤ wr.heap.size := h.1.size
end
/-- append(out, v): one element, the row's block from base on. -/
theorem hrow_of {w : World} {b n c : Nat} {A : Option Addr} {xs : List Int} (h : Own w b A n c xs) : ∀ k, blk A = some k → b ≤ k := fun k hk => (h.lt hk).1
theorem filter_yes {xs zs : List Int} {x : Int} {f : Int → Bool} (h : zs = xs ++ [x]) (hf : f x = true) : zs.filter f = xs.filter f ++ [x] := by subst h; simp [hf]
theorem filter_no {xs zs : List Int} {x : Int} {f : Int → Bool} (h : zs = xs ++ [x]) (hf : f x = false) : zs.filter f = xs.filter f := by subst h; simp [hf]
theorem filter_len (xs : List Int) (f : Int → Bool) (k : Nat) : ((xs.take k).filter f).length ≤ k := by
  have h1 := List.length_filter_le f (xs.take k)
  rw [List.length_take] at h1
  omega

set_option maxHeartbeats 2000000 in
theorem specLeave_any (A : Option Addr) (n c : Nat) (q : Int) (xs : List Int) (m : Int) (w : World) (hx : Ints w w.heap.size A n xs) (hn : n ≤ 1048576) :
    Calls Tryd.prog 27 #[.agg #[.int .i64 q, .slice A n c], .int .i64 m] w (RetVB (gQ (leaveOk q xs m) (q + 1) (leaveL xs m)) (gX (leaveOk q xs m) (q + 1) (leaveL xs m)) (gB (leaveOk q xs m) (q + 1) (leaveL xs m)) w) := by
  have HL := Lib.hid hx.len
  have hK : Kept w [(w.heap.size, 25, #[.int .i64 q, .slice A n c]), (w.heap.size + 1, 25, #[.int .i64 0, .slice none 0 0])] (((w.alloc (.cells #[.int .i64 q, .slice A n c] 25)).alloc (.cells #[.int .i64 0, .slice none 0 0] 25)).alloc (.cells #[] 3)) := by
    have a1 := ((Blk.new w 25 #[.int .i64 q, .slice A n c]).alloc (.cells #[.int .i64 0, .slice none 0 0] 25)).alloc (.cells #[] 3)
    have a2 := (Blk.new (w.alloc (.cells #[.int .i64 q, .slice A n c] 25)) 25 #[.int .i64 0, .slice none 0 0]).alloc (.cells #[] 3)
    simp only [World.size_alloc] at a2
    refine ⟨(by repeat' (first | with_reducible exact Below.refl _ _ | with_reducible assumption | with_reducible refine Below.setCell ?_ (by first | omega | (simp; done) | (simp; omega)) _ | with_reducible refine Below.alloc ?_ (by first | omega | (simp; done) | (simp; omega)) _ | with_reducible refine below_drewN ?_ _ | with_reducible refine Below.drew ?_ | (with_reducible refine Below.trans ?_ (Below.mono (by with_reducible assumption) (by first | omega | (simp; done) | (simp; omega)))))), fun b hb => ?_⟩
    simp only [List.mem_cons, List.not_mem_nil, or_false] at hb
    rcases hb with rfl | rfl
    · exact a1
    · exact a2
  have hO : Own (((w.alloc (.cells #[.int .i64 q, .slice A n c] 25)).alloc (.cells #[.int .i64 0, .slice none 0 0] 25)).alloc (.cells #[] 3)) (w.heap.size + 1 + 1) (some ⟨w.heap.size + 1 + 1, 0, none⟩) 0 0 [] := by (refine Own.lit0 ?_ ?_ <;> first | omega | (simp; done) | (simp; omega))
  have hS : (((w.alloc (.cells #[.int .i64 q, .slice A n c] 25)).alloc (.cells #[.int .i64 0, .slice none 0 0] 25)).alloc (.cells #[] 3)).heap.size = w.heap.size + 1 + 1 + 1 := by simp
  cases h1 : vvB q xs
  · have hnot : leaveOk q xs m = false := by simp [leaveOk, h1]
    go_enter Tryd.func27, Tryd.ntmps27
    go_wp2_with fail
    refine (specViewValid_any _ _ _ q xs _ ((hx.below hK.1).more (by rw [hS]; omega)) hn).mono ?_
    rintro e w1 ⟨rfl, hb1⟩
    have k1 := hK.step hb1
    have r1 := k1.lt (.tail _ (.head _))
    have f1 := r1.two; have l1 := r1.lt; have HB1 := k1.1
    clear hb1
    go_wp2
    exact bodyPost_ret (v := .tuple #[.agg #[.int .i64 0, .slice none 0 0], .bool false]) (by simp [results, Tryd.results27, go_sem, f1]) rfl (RetVB.zero (by repeat' (first | with_reducible exact Below.refl _ _ | with_reducible assumption | with_reducible refine Below.setCell ?_ (by first | omega | (simp; done) | (simp; omega)) _ | with_reducible refine Below.alloc ?_ (by first | omega | (simp; done) | (simp; omega)) _ | with_reducible refine below_drewN ?_ _ | with_reducible refine Below.drew ?_ | (with_reducible refine Below.trans ?_ (Below.mono (by with_reducible assumption) (by first | omega | (simp; done) | (simp; omega)))))) (gB_no hnot))
  obtain ⟨q0, q9⟩ := vv_q h1
  cases h2 : hasB xs m
  · have hnot : leaveOk q xs m = false := by simp [leaveOk, h2]
    go_enter Tryd.func27, Tryd.ntmps27
    go_wp2_with fail
    refine (specViewValid_any _ _ _ q xs _ ((hx.below hK.1).more (by rw [hS]; omega)) hn).mono ?_
    rintro e w1 ⟨rfl, hb1⟩
    have k1 := hK.step hb1
    have r0 := k1.lt (.head _)
    have r1 := k1.lt (.tail _ (.head _))
    have f0 := r0.two; have l0 := r0.lt
    have f1 := r1.two; have l1 := r1.lt; have HB1 := k1.1
    clear hb1
    go_wp2_with (go_at_call 52; refine (l1Has_any _ _ _ w.heap.size xs _ _ (hx.below HB1) hn).mono ?_; rintro e w2 ⟨rfl, rfl⟩)
    exact bodyPost_ret (v := .tuple #[.agg #[.int .i64 0, .slice none 0 0], .bool false]) (by simp [results, Tryd.results27, go_sem, f1]) rfl (RetVB.zero (by repeat' (first | with_reducible exact Below.refl _ _ | with_reducible assumption | with_reducible refine Below.setCell ?_ (by first | omega | (simp; done) | (simp; omega)) _ | with_reducible refine Below.alloc ?_ (by first | omega | (simp; done) | (simp; omega)) _ | with_reducible refine below_drewN ?_ _ | with_reducible refine Below.drew ?_ | (with_reducible refine Below.trans ?_ (Below.mono (by with_reducible assumption) (by first | omega | (simp; done) | (simp; omega)))))) (gB_no hnot))
  have hok : leaveOk q xs m = true := by simp [leaveOk, h1, h2]
  have HF := Lib.hid (filter_eq h1 (fun x => x != m))
  go_enter Tryd.func27, Tryd.ntmps27
  go_wp2_with fail
  refine (specViewValid_any _ _ _ q xs _ ((hx.below hK.1).more (by rw [hS]; omega)) hn).mono ?_
  rintro e w1 ⟨rfl, hb1⟩
  have k1 := hK.step hb1
  have o1 := hO.below hb1
  have r0 := k1.lt (.head _)
  have f0 := r0.two; have l0 := r0.lt
  have HB1 := k1.1
  clear hb1 hK hO hS
  go_wp2_with (go_at_call 52; refine (l1Has_any _ _ _ w.heap.size xs _ _ (hx.below HB1) hn).mono ?_; rintro e w2 ⟨rfl, rfl⟩)
  clear HB1 r0 f0 l0
  go_loopw [6, 7] (fun s i wr => ∃ (k : Nat) (A2 : Option Addr) (n2 c2 : Nat), k ≤ n ∧ i = .int .i64 k ∧ s = .slice A2 n2 c2 ∧ n2 ≤ k ∧ Own wr (w.heap.size + 1 + 1) A2 n2 c2 ((xs.take k).filter fun x => x != m) ∧ Kept w [(w.heap.size, 25, #[.int .i64 q, .slice A n c]), (w.heap.size + 1, 25, #[.int .i64 0, .slice none 0 0])] wr) (fun _ i _ => n - (intOf i).toNat)
  case atStart => exact ⟨0, _, 0, 0, by omega, rfl, rfl, by omega, by simpa using o1, k1⟩
  case round =>
    clear k1 o1
    obtain ⟨k, A2, n2, c2, hk, rfl, rfl, hn2, ho, hkp⟩ := hrel
    have r0 := hkp.lt (.head _)
    have f0 := r0.two; have l0 := r0.lt
    have HB := hkp.1
    by_cases hlt : k < n
    · obtain ⟨ad, x, rfl, hb, hc, hx1, hs⟩ := (hx.below HB).elem hlt
      have hrow := hrow_of ho
      cases hd : (x != m)
      · go_wp2
        go_roundw
        case rel => exact ⟨k + 1, A2, n2, c2, by omega, by go_num, rfl, by omega, by rw [filter_no hs.out hd]; exact ho, hkp⟩
        case measure => simp [intOf]; omega
      · go_wp2_with (at_builtin; refine app1 rfl _ _ rfl (w.heap.size + 1 + 1) rfl (ho.alloc _) _ _ _ _ [x] rfl (Ints.one' _ (by first | omega | (simp; done) | (simp; omega))) (by omega) (by have := hkp.lt (.tail _ (.head _)); have := this.lt; simp; omega) ?_; intro A3 c3 w3 o3 hg3 at3)
        go_roundw
        case rel => exact ⟨k + 1, A3, n2 + 1, c3, by omega, by go_num, rfl, by omega, by rw [filter_yes hs.out hd]; exact o3, (hkp.alloc _).grown hg3 (w.heap.size + 1 + 1) (by omega) (by intro b hb; simp only [List.mem_cons, List.not_mem_nil, or_false] at hb; rcases hb with rfl | rfl <;> first | (simp; done) | (simp; omega)) hrow⟩
        case measure => simp [intOf]; omega
    · have hkn : k = n := by omega
      subst hkn
      have zr : w.heap.size + 1 < wr.heap.size := (hkp.lt (.tail _ (.head _))).lt
      have ho' : Own wr (w.heap.size + 1 + 1) A2 n2 c2 (leaveL xs m) := by rw [List.take_of_length_le (by rw [HL.out]; exact Nat.le_refl _), HF.out] at ho; exact ho
      clear ho
      go_wp2_with fail
      refine (l23View_any q (q + 1) A2 n2 c2 (leaveL xs m) _ (IntWalk.i64_in _ (by omega)) ho'.ints (by omega)).mono ?_
      rintro e w3 ⟨A3, n3, c3, rfl, o3, hb3⟩
      have k3 := hkp.step hb3
      have r1 := k3.lt (.tail _ (.head _))
      have z3 := hb3.size
      have HB3 := k3.1
      clear f0 l0 hkp hb3
      have f1 := r1.two; have l1 := r1.lt
      go_wp2
      exact bodyPost_ret (v := .tuple #[.agg #[.int .i64 (gQ true (q + 1) (leaveL xs m)), .slice A3 n3 c3], .bool (gB true (q + 1) (leaveL xs m))]) (by simp [results, Tryd.results27, go_sem, f1]) rfl
        (by rw [hok]; exact ⟨A3, n3, c3, rfl, ((o3.setBelow (by first | omega | (simp; done) | (simp; omega)) _).setBelow (by first | omega | (simp; done) | (simp; omega)) _).mono (by omega), (HB3.setCell (by first | omega | (simp; done) | (simp; omega)) _).setCell (by first | omega | (simp; done) | (simp; omega)) _⟩)
end Go.Proofs.YtmjacdcefaohcaaDoor
