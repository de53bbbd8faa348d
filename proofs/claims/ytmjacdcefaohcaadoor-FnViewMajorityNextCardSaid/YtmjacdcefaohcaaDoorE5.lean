/-
  Contracts of the reference's ViewSplit and ViewJoin.
-/
import Derived.Test.YtmjacdcefaohcaaDoorE4
import Derived.Test.YtmjacdcefaohcaaDoorCut
import Derived.Test.YtmjacdcefaohcaaDoorRd
namespace Go.Proofs.YtmjacdcefaohcaaDoor
open Go.RowKit
set_option linter.unusedVariables false

theorem apart_app {A A3 B : Option Addr} {n : Nat} (hap : Apart A B) (hat : blk A3 = blk A ∨ blk A3 = some n) (hB : ∀ k, blk B = some k → k < n) : Apart A3 B := by
  intro k hk hk'
  rcases hat with e | e
  · rw [e] at hk; exact hap k hk hk'
  · rw [e] at hk; injection hk with hk; have := hB k hk'; omega
theorem Apart.symm {A B : Option Addr} (h : Apart A B) : Apart B A := fun k hk hk' => h k hk' hk

set_option maxHeartbeats 4000000 in
theorem specSplit_any (A : Option Addr) (n c : Nat) (q : Int) (xs : List Int) (m : Int) (w : World) (hx : Ints w w.heap.size A n xs) (hn : n ≤ 1048576) :
    Calls Tryd.prog 31 #[.agg #[.int .i64 q, .slice A n c], .int .i64 m] w (RetVV (sQ q xs m) (sQ q xs m) (sLow q xs m) (sHigh q xs m) (splitOk q xs m) w) := by
  have HL := Lib.hid hx.len
  have hK : Kept w [(w.heap.size, 25, #[.int .i64 q, .slice A n c]), (w.heap.size + 1, 25, #[.int .i64 0, .slice none 0 0]), (w.heap.size + 1 + 1, 25, #[.int .i64 0, .slice none 0 0])] (((w.alloc (.cells #[.int .i64 q, .slice A n c] 25)).alloc (.cells #[.int .i64 0, .slice none 0 0] 25)).alloc (.cells #[.int .i64 0, .slice none 0 0] 25)) := by
    have a1 := ((Blk.new w 25 #[.int .i64 q, .slice A n c]).alloc (.cells #[.int .i64 0, .slice none 0 0] 25)).alloc (.cells #[.int .i64 0, .slice none 0 0] 25)
    have a2 := (Blk.new (w.alloc (.cells #[.int .i64 q, .slice A n c] 25)) 25 #[.int .i64 0, .slice none 0 0]).alloc (.cells #[.int .i64 0, .slice none 0 0] 25)
    have a3 := Blk.new ((w.alloc (.cells #[.int .i64 q, .slice A n c] 25)).alloc (.cells #[.int .i64 0, .slice none 0 0] 25)) 25 #[.int .i64 0, .slice none 0 0]
    simp only [World.size_alloc] at a2 a3
    refine ⟨(by repeat' (first | with_reducible exact Below.refl _ _ | with_reducible assumption | with_reducible refine Below.setCell ?_ (by first | omega | (simp; done) | (simp; omega)) _ | with_reducible refine Below.alloc ?_ (by first | omega | (simp; done) | (simp; omega)) _ | with_reducible refine below_drewN ?_ _ | with_reducible refine Below.drew ?_ | (with_reducible refine Below.trans ?_ (Below.mono (by with_reducible assumption) (by first | omega | (simp; done) | (simp; omega)))))), fun b hb => ?_⟩
    simp only [List.mem_cons, List.not_mem_nil, or_false] at hb
    rcases hb with rfl | rfl | rfl
    · exact a1
    · exact a2
    · exact a3
  have o1 : Own (((((w.alloc (.cells #[.int .i64 q, .slice A n c] 25)).alloc (.cells #[.int .i64 0, .slice none 0 0] 25)).alloc (.cells #[.int .i64 0, .slice none 0 0] 25)).alloc (.cells #[] 3)).alloc (.cells #[] 3)) (w.heap.size + 1 + 1 + 1) (some ⟨w.heap.size + 1 + 1 + 1, 0, none⟩) 0 0 [] := Own.alloc (by (refine Own.lit0 ?_ ?_ <;> first | omega | (simp; done) | (simp; omega))) _
  have o2 : Own (((((w.alloc (.cells #[.int .i64 q, .slice A n c] 25)).alloc (.cells #[.int .i64 0, .slice none 0 0] 25)).alloc (.cells #[.int .i64 0, .slice none 0 0] 25)).alloc (.cells #[] 3)).alloc (.cells #[] 3)) (w.heap.size + 1 + 1 + 1) (some ⟨w.heap.size + 1 + 1 + 1 + 1, 0, none⟩) 0 0 [] := by (refine Own.lit0 ?_ ?_ <;> first | omega | (simp; done) | (simp; omega))
  have hk5 := (hK.alloc (.cells #[] 3)).alloc (.cells #[] 3)
  go_enter Tryd.func31, Tryd.ntmps31
  go_wp2
  go_loopw [7, 8, 9] (fun s t i wr => ∃ (k : Nat) (A2 : Option Addr) (n2 c2 : Nat) (B2 : Option Addr) (m2 d2 : Nat), k ≤ n ∧ i = .int .i64 k ∧ s = .slice A2 n2 c2 ∧ t = .slice B2 m2 d2 ∧ n2 ≤ k ∧ m2 ≤ k ∧
      Own wr (w.heap.size + 1 + 1 + 1) A2 n2 c2 ((xs.take k).filter fun x => decide (x < m)) ∧ Own wr (w.heap.size + 1 + 1 + 1) B2 m2 d2 ((xs.take k).filter fun x => decide (m ≤ x)) ∧ Apart A2 B2 ∧ Kept w [(w.heap.size, 25, #[.int .i64 q, .slice A n c]), (w.heap.size + 1, 25, #[.int .i64 0, .slice none 0 0]), (w.heap.size + 1 + 1, 25, #[.int .i64 0, .slice none 0 0])] wr) (fun _ _ i _ => n - (intOf i).toNat)
  case atStart => exact ⟨0, _, 0, 0, _, 0, 0, by omega, rfl, rfl, rfl, by omega, by omega, by simpa using o1, by simpa using o2, (fun k hk hk' => by simp [blk] at hk hk'; omega), hk5⟩
  case round =>
    clear o1 o2 hk5 hK
    obtain ⟨k, A2, n2, c2, B2, m2, d2, hk, rfl, rfl, rfl, hn2, hm2, oa, ob, hap, hkp⟩ := hrel
    have r0 := hkp.lt (.head _)
    have f0 := r0.two; have l0 := r0.lt
    have l2 := (hkp.lt (.tail _ (.tail _ (.head _)))).lt
    have HB := hkp.1
    by_cases hlt : k < n
    · obtain ⟨ad, x, rfl, hb, hc, hx1, hs⟩ := (hx.below HB).elem hlt
      have ra := hrow_of oa
      have rb := hrow_of ob
      by_cases hd : x < m
      · go_wp2_with (at_builtin; refine app1 rfl _ _ rfl (w.heap.size + 1 + 1 + 1) rfl (oa.alloc _) _ _ _ _ [x] rfl (Ints.one' _ (by first | omega | (simp; done) | (simp; omega))) (by omega) (by simp; omega) ?_; intro A3 c3 w3 o3 hg3 at3)
        go_roundw
        case rel => exact ⟨k + 1, A3, n2 + 1, c3, B2, m2, d2, by omega, by go_num, rfl, rfl, by omega, by omega, by rw [filter_yes hs.out (by simp [hd])]; exact o3, by rw [filter_no hs.out (by simp; omega)]; exact (ob.alloc _).kept hg3 (fun j hj e => hap j e hj), apart_app hap at3 (fun j hj => by have := (ob.lt hj).2; simp; omega), (hkp.alloc _).grown hg3 (w.heap.size + 1 + 1 + 1) (by omega) (by intro b hb; simp only [List.mem_cons, List.not_mem_nil, or_false] at hb; rcases hb with rfl | rfl | rfl <;> first | (simp; done) | (simp; omega)) ra⟩
        case measure => simp [intOf]; omega
      · go_wp2_with (at_builtin; refine app1 rfl _ _ rfl (w.heap.size + 1 + 1 + 1) rfl (ob.alloc _) _ _ _ _ [x] rfl (Ints.one' _ (by first | omega | (simp; done) | (simp; omega))) (by omega) (by simp; omega) ?_; intro A3 c3 w3 o3 hg3 at3)
        go_roundw
        case rel => exact ⟨k + 1, A2, n2, c2, A3, m2 + 1, c3, by omega, by go_num, rfl, rfl, by omega, by omega, by rw [filter_no hs.out (by simp [hd])]; exact (oa.alloc _).kept hg3 (fun j hj e => hap j hj e), by rw [filter_yes hs.out (by simp; omega)]; exact o3, (apart_app hap.symm at3 (fun j hj => by have := (oa.lt hj).2; simp; omega)).symm, (hkp.alloc _).grown hg3 (w.heap.size + 1 + 1 + 1) (by omega) (by intro b hb; simp only [List.mem_cons, List.not_mem_nil, or_false] at hb; rcases hb with rfl | rfl | rfl <;> first | (simp; done) | (simp; omega)) rb⟩
        case measure => simp [intOf]; omega
    · have hkn : k = n := by omega
      subst hkn
      rw [List.take_of_length_le (by rw [HL.out]; exact Nat.le_refl _)] at oa ob
      obtain ⟨q', hq'⟩ : ∃ q', IntKind.i64.wrap (q + 1) = q' := ⟨_, rfl⟩
      have HQ := Lib.hid hq'
      clear hq'
      have z0 := HB.size
      have zr : w.heap.size + 1 + 1 < wr.heap.size := l2
      go_wp2_with fail
      refine (l23View_any q q' A2 n2 c2 _ _ HQ.out oa.ints (by omega)).mono ?_
      rintro e w3 ⟨A3, n3, c3, rfl, o3, hb3⟩
      have z3 := hb3.size
      have k3 := hkp.step hb3
      have ob3 := ob.below hb3
      have ro3 := rowI o3
      generalize hb1' : gB true q' (xs.filter fun x => decide (x < m)) = b1
      generalize hq1' : gQ true q' (xs.filter fun x => decide (x < m)) = Q1 at *
      generalize hx1' : gX true q' (xs.filter fun x => decide (x < m)) = L1 at *
      have B1 := Lib.hid hb1'; have Q1' := Lib.hid hq1'; have X1' := Lib.hid hx1'
      clear hb1' hq1' hx1' o3 oa ob hap hb3 hkp f0 l0 l2 r0
      have p3 := Blk.new w3 25 #[.int .i64 Q1, .slice A3 n3 c3]
      have k4 := k3.alloc (.cells #[.int .i64 Q1, .slice A3 n3 c3] 25)
      have ob4 := ob3.alloc (.cells #[.int .i64 Q1, .slice A3 n3 c3] 25)
      have ro4 := ro3.alloc1 (Nat.le_refl _) (.cells #[.int .i64 Q1, .slice A3 n3 c3] 25)
      have r0 := k3.lt (.head _)
      have f0 := r0.two; have l0 := r0.lt
      go_wp2_with fail
      refine (l23View_any q q' B2 m2 d2 _ _ HQ.out ob4.ints (by omega)).mono ?_
      rintro e w5 ⟨A5, n5, c5, rfl, o5, hb5⟩
      have z5 := hb5.size
      simp at z5
      have k5 := k4.step hb5
      have p5 := p3.below hb5 (by simp)
      have ro5 := ro4.keep (same_of_below hb5 (by simp))
      have so5 := rowI o5
      generalize hb1' : gB true q' (xs.filter fun x => decide (m ≤ x)) = b2
      generalize hq1' : gQ true q' (xs.filter fun x => decide (m ≤ x)) = Q2 at *
      generalize hx1' : gX true q' (xs.filter fun x => decide (m ≤ x)) = L2 at *
      have B2' := Lib.hid hb1'; have Q2' := Lib.hid hq1'; have X2' := Lib.hid hx1'
      clear hb1' hq1' hx1' o5 ob3 ob4 hb5 k4 k3 p3 ro3 ro4 f0 l0 r0
      have p6 := Blk.new w5 25 #[.int .i64 Q2, .slice A5 n5 c5]
      have k6 := k5.alloc (.cells #[.int .i64 Q2, .slice A5 n5 c5] 25)
      have q6 := p5.alloc (.cells #[.int .i64 Q2, .slice A5 n5 c5] 25)
      have ro6 := ro5.alloc1 (by omega) (.cells #[.int .i64 Q2, .slice A5 n5 c5] 25)
      have so6 := so5.alloc1 (Nat.le_refl _) (.cells #[.int .i64 Q2, .slice A5 n5 c5] 25)
      have r0 := k5.lt (.head _)
      have f0 := r0.two; have l0 := r0.lt
      go_wp2_with fail
      refine (specViewValid_any _ _ _ q xs _ ((hx.below k6.1).more k6.size) hn).mono ?_
      rintro e w7 ⟨rfl, hb7⟩
      have z7 := hb7.size
      simp at z7
      have k7 := k6.step hb7
      have p7 := q6.below hb7 (by simp; omega)
      have s7 := p6.below hb7 (by simp)
      have ro7 := ro6.keep (same_of_below hb7 (by simp; omega))
      have so7 := so6.keep (same_of_below hb7 (by simp))
      clear ro5 ro6 so5 so6 k5 k6 p5 q6 p6 hb7 f0 l0 r0
      have r1 := k7.lt (.tail _ (.head _)); have r2 := k7.lt (.tail _ (.tail _ (.head _)))
      have f1 := r1.two; have l1 := r1.lt; have f2 := r2.two; have l2 := r2.lt
      have f3 := p7.two; have l3 := p7.lt; have f4 := s7.two; have l4 := s7.lt
      have HB7 := k7.1
      cases h1 : vvB q xs
      · have hnot : splitOk q xs m = false := by simp [splitOk, h1]
        go_wp2
        exact bodyPost_ret (v := .tuple #[.agg #[.int .i64 0, .slice none 0 0], .agg #[.int .i64 0, .slice none 0 0], .bool false]) (by simp [results, Tryd.results31, go_sem, f1, f2, l1, l2]) rfl (RetVV.zero (by repeat' (first | with_reducible exact Below.refl _ _ | with_reducible assumption | with_reducible refine Below.setCell ?_ (by first | omega | (simp; done) | (simp; omega)) _ | with_reducible refine Below.alloc ?_ (by first | omega | (simp; done) | (simp; omega)) _ | with_reducible refine below_drewN ?_ _ | with_reducible refine Below.drew ?_ | (with_reducible refine Below.trans ?_ (Below.mono (by with_reducible assumption) (by first | omega | (simp; done) | (simp; omega)))))) hnot)
      obtain ⟨q0, q9⟩ := vv_q h1
      have hqq : q' = q + 1 := by rw [← HQ.out]; exact IntWalk.i64_in _ (by omega)
      have e1 : (xs.filter fun x => decide (x < m)) = lowL xs m := filter_eq h1 _
      have e2 : (xs.filter fun x => decide (m ≤ x)) = highL xs m := filter_eq h1 _
      have g1 : vvB (q + 1) (lowL xs m) = b1 := by rw [← B1.out, hqq, e1]; simp [gB]
      have g2 : vvB (q + 1) (highL xs m) = b2 := by rw [← B2'.out, hqq, e2]; simp [gB]
      have G1 := Lib.hid g1; have G2 := Lib.hid g2; have E1 := Lib.hid e1; have E2 := Lib.hid e2; have HQQ := Lib.hid hqq
      clear e1 e2 g1 g2 hqq
      cases b1
      · have hnot : splitOk q xs m = false := by simp [splitOk, G1.out]
        go_wp2
        exact bodyPost_ret (v := .tuple #[.agg #[.int .i64 0, .slice none 0 0], .agg #[.int .i64 0, .slice none 0 0], .bool false]) (by simp [results, Tryd.results31, go_sem, f1, f2, l1, l2]) rfl (RetVV.zero (by repeat' (first | with_reducible exact Below.refl _ _ | with_reducible assumption | with_reducible refine Below.setCell ?_ (by first | omega | (simp; done) | (simp; omega)) _ | with_reducible refine Below.alloc ?_ (by first | omega | (simp; done) | (simp; omega)) _ | with_reducible refine below_drewN ?_ _ | with_reducible refine Below.drew ?_ | (with_reducible refine Below.trans ?_ (Below.mono (by with_reducible assumption) (by first | omega | (simp; done) | (simp; omega)))))) hnot)
      cases b2
      · have hnot : splitOk q xs m = false := by simp [splitOk, G2.out]
        go_wp2
        exact bodyPost_ret (v := .tuple #[.agg #[.int .i64 0, .slice none 0 0], .agg #[.int .i64 0, .slice none 0 0], .bool false]) (by simp [results, Tryd.results31, go_sem, f1, f2, l1, l2]) rfl (RetVV.zero (by repeat' (first | with_reducible exact Below.refl _ _ | with_reducible assumption | with_reducible refine Below.setCell ?_ (by first | omega | (simp; done) | (simp; omega)) _ | with_reducible refine Below.alloc ?_ (by first | omega | (simp; done) | (simp; omega)) _ | with_reducible refine below_drewN ?_ _ | with_reducible refine Below.drew ?_ | (with_reducible refine Below.trans ?_ (Below.mono (by with_reducible assumption) (by first | omega | (simp; done) | (simp; omega)))))) hnot)
      have hok : splitOk q xs m = true := by simp [splitOk, h1, G1.out, G2.out]
      obtain rfl : Q1 = q + 1 := by rw [← Q1'.out, HQQ.out, E1.out]; simp [gQ, gB, G1.out]
      obtain rfl : Q2 = q + 1 := by rw [← Q2'.out, HQQ.out, E2.out]; simp [gQ, gB, G2.out]
      obtain rfl : L1 = lowL xs m := by rw [← X1'.out, HQQ.out, E1.out]; simp [gX, gB, G1.out]
      obtain rfl : L2 = highL xs m := by rw [← X2'.out, HQQ.out, E2.out]; simp [gX, gB, G2.out]
      have fin : ∀ W : World, (∃ (a b c d : Value) (p1 p2 p3 p4 : Addr), W = ((((w7.setCell p1 a).setCell p2 b).setCell p3 c).setCell p4 d).drew ∧ (w.heap.size ≤ p1.block ∧ p1.block < wr.heap.size) ∧ (w.heap.size ≤ p2.block ∧ p2.block < wr.heap.size) ∧ (w.heap.size ≤ p3.block ∧ p3.block < wr.heap.size) ∧ (w.heap.size ≤ p4.block ∧ p4.block < wr.heap.size)) →
          RetVV (sQ q xs m) (sQ q xs m) (sLow q xs m) (sHigh q xs m) (splitOk q xs m) w (.returned (.tuple #[.agg #[.int .i64 (q + 1), .slice A3 n3 c3], .agg #[.int .i64 (q + 1), .slice A5 n5 c5], .bool true])) W := by
        rintro W ⟨a, b, c, d, p1, p2, p3, p4, rfl, h1, h2, h3, h4⟩
        refine RetVV.yes (mid := w3.heap.size + 1) (((((HB7.setCell h1.1 _).setCell h2.1 _).setCell h3.1 _).setCell h4.1 _).drew) ?_ ?_ (by omega) (by first | omega | (simp; done) | (simp; omega)) hok
        · exact (((((ro7.setBelow h1.2 _).setBelow h2.2 _).setBelow h3.2 _).setBelow h4.2 _).drew1).mono (by omega) (by omega)
        · exact (((((so7.setBelow (by first | omega | (simp; done) | (simp; omega)) _).setBelow (by first | omega | (simp; done) | (simp; omega)) _).setBelow (by first | omega | (simp; done) | (simp; omega)) _).setBelow (by first | omega | (simp; done) | (simp; omega)) _).drew1).mono (by first | omega | (simp; done) | (simp; omega)) (by first | omega | (simp; done) | (simp; omega))
      go_wp2_with fail
      go_region
      all_goals (try go_wp2)
      all_goals
        exact bodyPost_ret (v := .tuple #[.agg #[.int .i64 (q + 1), .slice A3 n3 c3], .agg #[.int .i64 (q + 1), .slice A5 n5 c5], .bool true]) (by simp [results, Tryd.results31, go_sem, f1, f2, l1, l2]) rfl (fin _ ⟨_, _, _, _, _, _, _, _, rfl, (by constructor <;> first | omega | (simp; done) | (simp; omega)), (by constructor <;> first | omega | (simp; done) | (simp; omega)), (by constructor <;> first | omega | (simp; done) | (simp; omega)), (by constructor <;> first | omega | (simp; done) | (simp; omega))⟩)
end Go.Proofs.YtmjacdcefaohcaaDoor
