/-
  Contract of the reference's ViewMerge.
-/
import Derived.Test.YtmjacdcefaohcaaDoorE4
namespace Go.Proofs.YtmjacdcefaohcaaDoor
open Go.RowKit
set_option linter.unusedVariables false

theorem both_at {xs ys : List Int} {x : Int} (h : hasB xs x = true) (h' : hasB ys x = true) : bothB xs ys = true := by
  unfold bothB
  rw [List.any_eq_true]
  exact ⟨x, hasB_iff.1 h, h'⟩
theorem both_none {q : Int} {xs ys : List Int} (hv : vvB q xs = true) (h : ∀ k : Nat, k < 8 → (hasB xs k && hasB ys k) = false) : bothB xs ys = false := by
  unfold bothB
  rw [List.any_eq_false]
  intro x hx
  obtain ⟨h0, h7⟩ := (vv_mem hv).1 x hx
  obtain ⟨k, rfl⟩ := Int.eq_ofNat_of_zero_le h0
  have := h k (by omega)
  have h1 : hasB xs (k : Int) = true := hasB_iff.2 hx
  simpa [h1] using this
theorem none_next {xs ys : List Int} {k : Nat} (h : ∀ j : Nat, j < k → (hasB xs j && hasB ys j) = false) (h' : (hasB xs k && hasB ys k) = false) : ∀ j : Nat, j < k + 1 → (hasB xs j && hasB ys j) = false := by
  intro j hj
  by_cases e : j = k
  · subst e; exact h'
  · exact h j (by omega)
set_option maxHeartbeats 4000000 in
theorem specMerge_any (A : Option Addr) (n c : Nat) (B : Option Addr) (m d : Nat) (q : Int) (xs : List Int) (p : Int) (ys : List Int) (w : World) (hx : Ints w w.heap.size A n xs) (hy : Ints w w.heap.size B m ys) (hn : n ≤ 1048576) (hm : m ≤ 1048576) :
    Calls Tryd.prog 39 #[.agg #[.int .i64 q, .slice A n c], .agg #[.int .i64 p, .slice B m d]] w (RetVB (gQ (mergeOk q xs p ys) (max q p + 1) (mergeL xs ys)) (gX (mergeOk q xs p ys) (max q p + 1) (mergeL xs ys)) (gB (mergeOk q xs p ys) (max q p + 1) (mergeL xs ys)) w) := by
  have hK : Kept w [(w.heap.size, 25, #[.int .i64 q, .slice A n c]), (w.heap.size + 1, 25, #[.int .i64 p, .slice B m d]), (w.heap.size + 1 + 1, 25, #[.int .i64 0, .slice none 0 0])] (((w.alloc (.cells #[.int .i64 q, .slice A n c] 25)).alloc (.cells #[.int .i64 p, .slice B m d] 25)).alloc (.cells #[.int .i64 0, .slice none 0 0] 25)) := by
    have a1 := ((Blk.new w 25 #[.int .i64 q, .slice A n c]).alloc (.cells #[.int .i64 p, .slice B m d] 25)).alloc (.cells #[.int .i64 0, .slice none 0 0] 25)
    have a2 := (Blk.new (w.alloc (.cells #[.int .i64 q, .slice A n c] 25)) 25 #[.int .i64 p, .slice B m d]).alloc (.cells #[.int .i64 0, .slice none 0 0] 25)
    have a3 := Blk.new ((w.alloc (.cells #[.int .i64 q, .slice A n c] 25)).alloc (.cells #[.int .i64 p, .slice B m d] 25)) 25 #[.int .i64 0, .slice none 0 0]
    simp only [World.size_alloc] at a2 a3
    refine ⟨(by repeat' (first | with_reducible exact Below.refl _ _ | with_reducible assumption | with_reducible refine Below.setCell ?_ (by first | omega | (simp; done) | (simp; omega)) _ | with_reducible refine Below.alloc ?_ (by first | omega | (simp; done) | (simp; omega)) _ | with_reducible refine below_drewN ?_ _ | with_reducible refine Below.drew ?_ | (with_reducible refine Below.trans ?_ (Below.mono (by with_reducible assumption) (by first | omega | (simp; done) | (simp; omega)))))), fun b hb => ?_⟩
    simp only [List.mem_cons, List.not_mem_nil, or_false] at hb
    rcases hb with rfl | rfl | rfl
    · exact a1
    · exact a2
    · exact a3
  have hS : (((w.alloc (.cells #[.int .i64 q, .slice A n c] 25)).alloc (.cells #[.int .i64 p, .slice B m d] 25)).alloc (.cells #[.int .i64 0, .slice none 0 0] 25)).heap.size = w.heap.size + 1 + 1 + 1 := by simp
  cases h1 : vvB q xs
  · have hnot : mergeOk q xs p ys = false := by simp [mergeOk, h1]
    go_enter Tryd.func39, Tryd.ntmps39
    go_wp2_with fail
    refine (specViewValid_any _ _ _ q xs _ ((hx.below hK.1).more (by rw [hS]; omega)) hn).mono ?_
    rintro e w1 ⟨rfl, hb1⟩
    have k1 := hK.step hb1
    have r1 := k1.lt (.tail _ (.tail _ (.head _)))
    have f1 := r1.two; have l1 := r1.lt; have HB1 := k1.1
    clear hb1
    go_wp2
    exact bodyPost_ret (v := .tuple #[.agg #[.int .i64 0, .slice none 0 0], .bool false]) (by simp [results, Tryd.results39, go_sem, f1]) rfl (RetVB.zero (by repeat' (first | with_reducible exact Below.refl _ _ | with_reducible assumption | with_reducible refine Below.setCell ?_ (by first | omega | (simp; done) | (simp; omega)) _ | with_reducible refine Below.alloc ?_ (by first | omega | (simp; done) | (simp; omega)) _ | with_reducible refine below_drewN ?_ _ | with_reducible refine Below.drew ?_ | (with_reducible refine Below.trans ?_ (Below.mono (by with_reducible assumption) (by first | omega | (simp; done) | (simp; omega)))))) (gB_no hnot))
  obtain ⟨q0, q9⟩ := vv_q h1
  cases h2 : vvB p ys
  · have hnot : mergeOk q xs p ys = false := by simp [mergeOk, h2]
    go_enter Tryd.func39, Tryd.ntmps39
    go_wp2_with fail
    refine (specViewValid_any _ _ _ q xs _ ((hx.below hK.1).more (by rw [hS]; omega)) hn).mono ?_
    rintro e w1 ⟨rfl, hb1⟩
    have k1 := hK.step hb1
    have r0 := k1.lt (.tail _ (.head _))
    have f0 := r0.two; have l0 := r0.lt; have HB1 := k1.1
    clear hb1
    go_wp2_with fail
    refine (specViewValid_any _ _ _ p ys _ ((hy.below HB1).more HB1.size) hm).mono ?_
    rintro e w2 ⟨rfl, hb2⟩
    have k2 := k1.step hb2
    have r1 := k2.lt (.tail _ (.tail _ (.head _)))
    have HB2 := k2.1
    clear hb2 f0 l0
    have f1 := r1.two; have l1 := r1.lt
    go_wp2
    exact bodyPost_ret (v := .tuple #[.agg #[.int .i64 0, .slice none 0 0], .bool false]) (by simp [results, Tryd.results39, go_sem, f1]) rfl (RetVB.zero (by repeat' (first | with_reducible exact Below.refl _ _ | with_reducible assumption | with_reducible refine Below.setCell ?_ (by first | omega | (simp; done) | (simp; omega)) _ | with_reducible refine Below.alloc ?_ (by first | omega | (simp; done) | (simp; omega)) _ | with_reducible refine below_drewN ?_ _ | with_reducible refine Below.drew ?_ | (with_reducible refine Below.trans ?_ (Below.mono (by with_reducible assumption) (by first | omega | (simp; done) | (simp; omega)))))) (gB_no hnot))
  obtain ⟨p0, p9⟩ := vv_q h2
  have hM : 0 ≤ max q p ∧ max q p ≤ 99 := by omega
  go_enter Tryd.func39, Tryd.ntmps39
  go_wp2_with fail
  refine (specViewValid_any _ _ _ q xs _ ((hx.below hK.1).more (by rw [hS]; omega)) hn).mono ?_
  rintro e w1 ⟨rfl, hb1⟩
  have k1 := hK.step hb1
  have r0 := k1.lt (.tail _ (.head _))
  have f0 := r0.two; have l0 := r0.lt; have HB1 := k1.1
  clear hb1 hK hS
  go_wp2_with fail
  refine (specViewValid_any _ _ _ p ys _ ((hy.below HB1).more HB1.size) hm).mono ?_
  rintro e w2 ⟨rfl, hb2⟩
  have k2 := k1.step hb2
  have r1 := k2.lt (.tail _ (.tail _ (.head _)))
  have l1 := r1.lt
  clear hb2 f0 l0 k1 HB1 r0
  go_wp2_with fail
  go_loopw [6, 7] (fun s i wr => ∃ (k : Nat) (A2 : Option Addr) (n2 c2 : Nat), k ≤ 8 ∧ i = .int .i64 k ∧ s = .slice A2 n2 c2 ∧ n2 ≤ k ∧ Hid (∀ j : Nat, j < k → (hasB xs j && hasB ys j) = false) ∧ Own wr (w.heap.size + 1 + 1 + 1) A2 n2 c2 (accK (fun x => hasB xs x || hasB ys x) k) ∧ Kept w [(w.heap.size, 25, #[.int .i64 q, .slice A n c]), (w.heap.size + 1, 25, #[.int .i64 p, .slice B m d]), (w.heap.size + 1 + 1, 25, #[.int .i64 0, .slice none 0 0])] wr) (fun _ i _ => 8 - (intOf i).toNat)
  case atStart => exact ⟨0, _, 0, 0, by omega, rfl, rfl, by omega, Lib.hid (fun j hj => by omega), by rw [accK_zero]; exact (by (refine Own.lit0 ?_ ?_ <;> first | omega | (simp; done) | (simp; omega))), k2.alloc _⟩
  case round =>
    clear k2 r1 l1
    obtain ⟨k, A2, n2, c2, hk, rfl, rfl, hn2, hno, ho, hkp⟩ := hrel
    have r0 := hkp.lt (.head _); have r1 := hkp.lt (.tail _ (.head _)); have r2 := hkp.lt (.tail _ (.tail _ (.head _)))
    have f0 := r0.two; have l0 := r0.lt; have f1 := r1.two; have l1 := r1.lt; have f2 := r2.two; have l2 := r2.lt
    have HB := hkp.1
    have X := hx.below HB
    have Yy := hy.below HB
    have hrow := hrow_of ho
    by_cases hlt : k < 8
    · cases ha : hasB xs (k : Int) <;> cases hb : hasB ys (k : Int)
      · go_wp2_with fail
        refine (l1Has_any A _ _ w.heap.size xs _ _ X hn).mono ?_
        rintro e w5 ⟨rfl, rfl⟩
        go_wp2_with fail
        refine (l1Has_any A _ _ w.heap.size xs _ _ X hn).mono ?_
        rintro e w5 ⟨rfl, rfl⟩
        go_wp2_with fail
        refine (l1Has_any B _ _ w.heap.size ys _ _ Yy hm).mono ?_
        rintro e w5 ⟨rfl, rfl⟩
        go_wp2
        go_roundw
        case rel => exact ⟨k + 1, A2, n2, c2, by omega, by go_num, rfl, by omega, Lib.hid (none_next hno.out (by simp [ha])), by rw [accK_no (by simp [ha, hb])]; exact ho, hkp⟩
        case measure => simp [intOf]; omega
      · go_wp2_with fail
        refine (l1Has_any A _ _ w.heap.size xs _ _ X hn).mono ?_
        rintro e w5 ⟨rfl, rfl⟩
        go_wp2_with fail
        refine (l1Has_any A _ _ w.heap.size xs _ _ X hn).mono ?_
        rintro e w5 ⟨rfl, rfl⟩
        go_wp2_with fail
        refine (l1Has_any B _ _ w.heap.size ys _ _ Yy hm).mono ?_
        rintro e w5 ⟨rfl, rfl⟩
        go_wp2_with (at_builtin; refine app1 rfl _ _ rfl (w.heap.size + 1 + 1 + 1) rfl (ho.alloc _) _ _ _ _ [(k : Int)] rfl (Ints.one' _ (by first | omega | (simp; done) | (simp; omega))) (by omega) (by simp; omega) ?_; intro A3 c3 w3 o3 hg3 at3)
        go_roundw
        case rel => exact ⟨k + 1, A3, n2 + 1, c3, by omega, by go_num, rfl, by omega, Lib.hid (none_next hno.out (by simp [ha, hb])), by rw [accK_yes (by simp [ha, hb])]; exact o3, (hkp.alloc _).grown hg3 (w.heap.size + 1 + 1 + 1) (by omega) (by intro b hb; simp only [List.mem_cons, List.not_mem_nil, or_false] at hb; rcases hb with rfl | rfl | rfl <;> first | (simp; done) | (simp; omega)) hrow⟩
        case measure => simp [intOf]; omega
      · go_wp2_with fail
        refine (l1Has_any A _ _ w.heap.size xs _ _ X hn).mono ?_
        rintro e w5 ⟨rfl, rfl⟩
        go_wp2_with fail
        refine (l1Has_any B _ _ w.heap.size ys _ _ Yy hm).mono ?_
        rintro e w5 ⟨rfl, rfl⟩
        go_wp2_with fail
        refine (l1Has_any A _ _ w.heap.size xs _ _ X hn).mono ?_
        rintro e w5 ⟨rfl, rfl⟩
        go_wp2_with (at_builtin; refine app1 rfl _ _ rfl (w.heap.size + 1 + 1 + 1) rfl (ho.alloc _) _ _ _ _ [(k : Int)] rfl (Ints.one' _ (by first | omega | (simp; done) | (simp; omega))) (by omega) (by simp; omega) ?_; intro A3 c3 w3 o3 hg3 at3)
        go_roundw
        case rel => exact ⟨k + 1, A3, n2 + 1, c3, by omega, by go_num, rfl, by omega, Lib.hid (none_next hno.out (by simp [ha, hb])), by rw [accK_yes (by simp [ha, hb])]; exact o3, (hkp.alloc _).grown hg3 (w.heap.size + 1 + 1 + 1) (by omega) (by intro b hb; simp only [List.mem_cons, List.not_mem_nil, or_false] at hb; rcases hb with rfl | rfl | rfl <;> first | (simp; done) | (simp; omega)) hrow⟩
        case measure => simp [intOf]; omega
      · go_wp2_with fail
        refine (l1Has_any A _ _ w.heap.size xs _ _ X hn).mono ?_
        rintro e w5 ⟨rfl, rfl⟩
        go_wp2_with fail
        refine (l1Has_any B _ _ w.heap.size ys _ _ Yy hm).mono ?_
        rintro e w5 ⟨rfl, rfl⟩
        go_wp2
        exact bodyPost_ret (v := .tuple #[.agg #[.int .i64 0, .slice none 0 0], .bool false]) (by simp [results, Tryd.results39, go_sem, f2, l2]) rfl (RetVB.zero ((HB.setCell (by first | omega | (simp; done) | (simp; omega)) _).setCell (by first | omega | (simp; done) | (simp; omega)) _) (gB_no (by simp [mergeOk, both_at ha hb])))
    · have hk8 : k = 8 := by omega
      subst hk8
      have hok : mergeOk q xs p ys = true := by simp [mergeOk, h1, h2, both_none h1 hno.out]
      have zr : w.heap.size + 1 + 1 < wr.heap.size := l2
      have ho' : Own wr (w.heap.size + 1 + 1 + 1) A2 n2 c2 (mergeL xs ys) := ho
      clear ho f2 l2
      rcases (by omega : q < p ∨ p < q ∨ q = p) with hqp | hqp | hqp
      · have HMX := Lib.hid (show max q p = p by omega)
        clear hM
        go_wp2_with fail
        refine (l23View_any (p) (p + 1) A2 n2 c2 (mergeL xs ys) _ (IntWalk.i64_in _ (by omega)) ho'.ints (by omega)).mono ?_
        rintro e w3 ⟨A3, n3, c3, rfl, o3, hb3⟩
        have k3 := hkp.step hb3
        have r2 := k3.lt (.tail _ (.tail _ (.head _)))
        have z3 := hb3.size
        have HB3 := k3.1
        clear f0 l0 f1 l1 hkp hb3 HB
        have f1 := r2.two; have l1 := r2.lt
        go_wp2
        exact bodyPost_ret (v := .tuple #[.agg #[.int .i64 (gQ true (p + 1) (mergeL xs ys)), .slice A3 n3 c3], .bool (gB true (p + 1) (mergeL xs ys))]) (by simp [results, Tryd.results39, go_sem, f1]) rfl
          (by rw [HMX.out, hok]; exact ⟨A3, n3, c3, rfl, ((o3.setBelow (by first | omega | (simp; done) | (simp; omega)) _).setBelow (by first | omega | (simp; done) | (simp; omega)) _).mono (by omega), (HB3.setCell (by first | omega | (simp; done) | (simp; omega)) _).setCell (by first | omega | (simp; done) | (simp; omega)) _⟩)
      · have HMX := Lib.hid (show max q p = q by omega)
        clear hM
        go_wp2_with fail
        refine (l23View_any (q) (q + 1) A2 n2 c2 (mergeL xs ys) _ (IntWalk.i64_in _ (by omega)) ho'.ints (by omega)).mono ?_
        rintro e w3 ⟨A3, n3, c3, rfl, o3, hb3⟩
        have k3 := hkp.step hb3
        have r2 := k3.lt (.tail _ (.tail _ (.head _)))
        have z3 := hb3.size
        have HB3 := k3.1
        clear f0 l0 f1 l1 hkp hb3 HB
        have f1 := r2.two; have l1 := r2.lt
        go_wp2
        exact bodyPost_ret (v := .tuple #[.agg #[.int .i64 (gQ true (q + 1) (mergeL xs ys)), .slice A3 n3 c3], .bool (gB true (q + 1) (mergeL xs ys))]) (by simp [results, Tryd.results39, go_sem, f1]) rfl
          (by rw [HMX.out, hok]; exact ⟨A3, n3, c3, rfl, ((o3.setBelow (by first | omega | (simp; done) | (simp; omega)) _).setBelow (by first | omega | (simp; done) | (simp; omega)) _).mono (by omega), (HB3.setCell (by first | omega | (simp; done) | (simp; omega)) _).setCell (by first | omega | (simp; done) | (simp; omega)) _⟩)
      · subst hqp
        have HMX := Lib.hid (show max q q = q by omega)
        clear hM
        go_wp2_with fail
        refine (l23View_any (q) (q + 1) A2 n2 c2 (mergeL xs ys) _ (IntWalk.i64_in _ (by omega)) ho'.ints (by omega)).mono ?_
        rintro e w3 ⟨A3, n3, c3, rfl, o3, hb3⟩
        have k3 := hkp.step hb3
        have r2 := k3.lt (.tail _ (.tail _ (.head _)))
        have z3 := hb3.size
        have HB3 := k3.1
        clear f0 l0 f1 l1 hkp hb3 HB
        have f1 := r2.two; have l1 := r2.lt
        go_wp2
        exact bodyPost_ret (v := .tuple #[.agg #[.int .i64 (gQ true (q + 1) (mergeL xs ys)), .slice A3 n3 c3], .bool (gB true (q + 1) (mergeL xs ys))]) (by simp [results, Tryd.results39, go_sem, f1]) rfl
          (by rw [HMX.out, hok]; exact ⟨A3, n3, c3, rfl, ((o3.setBelow (by first | omega | (simp; done) | (simp; omega)) _).setBelow (by first | omega | (simp; done) | (simp; omega)) _).mono (by omega), (HB3.setCell (by first | omega | (simp; done) | (simp; omega)) _).setCell (by first | omega | (simp; done) | (simp; omega)) _⟩)
end Go.Proofs.YtmjacdcefaohcaaDoor
