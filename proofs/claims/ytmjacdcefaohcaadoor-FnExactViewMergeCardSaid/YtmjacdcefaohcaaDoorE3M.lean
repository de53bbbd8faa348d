/-
  Contracts of the program's ViewJoin, ViewLeave, ViewSplit, ViewMerge. (Printed by gen_e3.py.)
-/
import Derived.Test.YtmjacdcefaohcaaDoorE2
namespace Go.Proofs.YtmjacdcefaohcaaDoor
open Go.RowKit
set_option linter.unusedVariables false

theorem both_hit {xs ys : List Int} {k : Nat} {x : Int} (h : xs[k]? = some x) (hy : hasB ys x = true) : bothB xs ys = true := by
  unfold bothB
  rw [List.any_eq_true]
  exact ⟨x, List.mem_of_getElem? h, hy⟩
theorem both_snoc {xs ys zs : List Int} {x : Int} (h : zs = xs ++ [x]) (hy : hasB ys x = false) (ha : bothB xs ys = false) : bothB zs ys = false := by
  subst h
  unfold bothB at *
  simp [List.any_append, ha, hy]
set_option maxHeartbeats 4000000 in
theorem implMerge_any (A : Option Addr) (n c : Nat) (B : Option Addr) (m d : Nat) (q : Int) (xs : List Int) (p : Int) (ys : List Int) (a : Addr) (w : World) (hs : Sent w a) (hx : Ints w w.heap.size A n xs) (hy : Ints w w.heap.size B m ys) (hn : n ≤ 1048576) (hm : m ≤ 1048576) :
    Calls Tryd.prog 32 #[.agg #[.int .i64 q, .slice A n c], .agg #[.int .i64 p, .slice B m d]] w (RetVB (gQ (mergeOk q xs p ys) (max q p + 1) (mergeL xs ys)) (gX (mergeOk q xs p ys) (max q p + 1) (mergeL xs ys)) (gB (mergeOk q xs p ys) (max q p + 1) (mergeL xs ys)) w) := by
  have h0 := hs.lt
  have HL := Lib.hid hx.len
  have b2 := ((Blk.new w 25 #[.int .i64 q, .slice A n c]).alloc (.cells #[.int .i64 p, .slice B m d] 25)).alloc (.cells #[.int .i64 0, .slice none 0 0] 25)
  have b3 := (Blk.new (w.alloc (.cells #[.int .i64 q, .slice A n c] 25)) 25 #[.int .i64 p, .slice B m d]).alloc (.cells #[.int .i64 0, .slice none 0 0] 25)
  have b4 := Blk.new ((w.alloc (.cells #[.int .i64 q, .slice A n c] 25)).alloc (.cells #[.int .i64 p, .slice B m d] 25)) 25 #[.int .i64 0, .slice none 0 0]
  simp only [World.size_alloc] at b3 b4
  have HB0 : Below w.heap.size w (((w.alloc (.cells #[.int .i64 q, .slice A n c] 25)).alloc (.cells #[.int .i64 p, .slice B m d] 25)).alloc (.cells #[.int .i64 0, .slice none 0 0] 25)) := (by repeat' (first | with_reducible exact Below.refl _ _ | with_reducible assumption | with_reducible refine Below.setCell ?_ (by first | omega | (simp; done) | (simp; omega)) _ | with_reducible refine Below.alloc ?_ (by first | omega | (simp; done) | (simp; omega)) _ | with_reducible refine below_drewN ?_ _ | with_reducible refine Below.drew ?_ | (with_reducible refine Below.trans ?_ (Below.mono (by with_reducible assumption) (by first | omega | (simp; done) | (simp; omega))))))
  have S0 : (((w.alloc (.cells #[.int .i64 q, .slice A n c] 25)).alloc (.cells #[.int .i64 p, .slice B m d] 25)).alloc (.cells #[.int .i64 0, .slice none 0 0] 25)).heap.size = w.heap.size + 1 + 1 + 1 := by simp
  have s0 : Sent (((w.alloc (.cells #[.int .i64 q, .slice A n c] 25)).alloc (.cells #[.int .i64 p, .slice B m d] 25)).alloc (.cells #[.int .i64 0, .slice none 0 0] 25)) a := hs.below HB0 h0
  cases h1 : vvB q xs
  · have hnot : mergeOk q xs p ys = false := by simp [mergeOk, h1]
    go_enter Tryd.func32, Tryd.ntmps32
    go_wp2_with fail
    refine (implViewValid_any _ _ _ q xs _ ((hx.below HB0).more (by rw [S0]; omega)) hn).mono ?_
    rintro e w1 ⟨rfl, hb1⟩
    have z1 : w.heap.size + 1 + 1 + 1 ≤ w1.heap.size := by have := hb1.size; rw [S0] at this; exact this
    have HB1 : Below w.heap.size w w1 := HB0.trans (hb1.mono (by rw [S0]; omega))
    have s1 := s0.step hb1
    have p2 := b2.below hb1 (by rw [S0]; omega)
    have p3 := b3.below hb1 (by rw [S0]; omega)
    have p4 := b4.below hb1 (by rw [S0]; omega)
    clear hb1
    have f2 := p2.two; have l2 := p2.lt; have f3 := p3.two; have l3 := p3.lt; have f4 := p4.two; have l4 := p4.lt
    go_wp2
    exact bodyPost_ret (v := .tuple #[.agg #[.int .i64 0, .slice none 0 0], .bool false]) (by simp [results, Tryd.results32, go_sem, f4]) rfl (RetVB.zero (by repeat' (first | with_reducible exact Below.refl _ _ | with_reducible assumption | with_reducible refine Below.setCell ?_ (by first | omega | (simp; done) | (simp; omega)) _ | with_reducible refine Below.alloc ?_ (by first | omega | (simp; done) | (simp; omega)) _ | with_reducible refine below_drewN ?_ _ | with_reducible refine Below.drew ?_ | (with_reducible refine Below.trans ?_ (Below.mono (by with_reducible assumption) (by first | omega | (simp; done) | (simp; omega)))))) (gB_no (by simp [hnot])))
  obtain ⟨q0, q9⟩ := vv_q h1
  cases h2 : vvB p ys
  · have hnot : mergeOk q xs p ys = false := by simp [mergeOk, h2]
    go_enter Tryd.func32, Tryd.ntmps32
    go_wp2_with fail
    refine (implViewValid_any _ _ _ q xs _ ((hx.below HB0).more (by rw [S0]; omega)) hn).mono ?_
    rintro e w1 ⟨rfl, hb1⟩
    have z1 : w.heap.size + 1 + 1 + 1 ≤ w1.heap.size := by have := hb1.size; rw [S0] at this; exact this
    have HB1 : Below w.heap.size w w1 := HB0.trans (hb1.mono (by rw [S0]; omega))
    have s1 := s0.step hb1
    have p2 := b2.below hb1 (by rw [S0]; omega)
    have p3 := b3.below hb1 (by rw [S0]; omega)
    have p4 := b4.below hb1 (by rw [S0]; omega)
    clear hb1
    have f2 := p2.two; have l2 := p2.lt; have f3 := p3.two; have l3 := p3.lt; have f4 := p4.two; have l4 := p4.lt
    go_wp2_with fail
    refine (implViewValid_any _ _ _ p ys _ ((hy.below HB1).more HB1.size) hm).mono ?_
    rintro e w2 ⟨rfl, hb2⟩
    have z2 := hb2.size
    have HB2 : Below w.heap.size w w2 := HB1.trans (hb2.mono HB1.size)
    have s2 := s1.step hb2
    replace p2 := p2.below hb2 p2.lt
    replace p3 := p3.below hb2 p3.lt
    replace p4 := p4.below hb2 p4.lt
    clear f2 f3 f4 l2 l3 l4 HB1 hb2 s1
    have f2 := p2.two; have l2 := p2.lt; have f3 := p3.two; have l3 := p3.lt; have f4 := p4.two; have l4 := p4.lt
    go_wp2
    exact bodyPost_ret (v := .tuple #[.agg #[.int .i64 0, .slice none 0 0], .bool false]) (by simp [results, Tryd.results32, go_sem, f4]) rfl (RetVB.zero (by repeat' (first | with_reducible exact Below.refl _ _ | with_reducible assumption | with_reducible refine Below.setCell ?_ (by first | omega | (simp; done) | (simp; omega)) _ | with_reducible refine Below.alloc ?_ (by first | omega | (simp; done) | (simp; omega)) _ | with_reducible refine below_drewN ?_ _ | with_reducible refine Below.drew ?_ | (with_reducible refine Below.trans ?_ (Below.mono (by with_reducible assumption) (by first | omega | (simp; done) | (simp; omega)))))) (gB_no (by simp [hnot])))
  obtain ⟨p0, p9⟩ := vv_q h2
  have hM : 0 ≤ max q p ∧ max q p ≤ 99 := by omega
  go_enter Tryd.func32, Tryd.ntmps32
  go_wp2_with fail
  refine (implViewValid_any _ _ _ q xs _ ((hx.below HB0).more (by rw [S0]; omega)) hn).mono ?_
  rintro e w1 ⟨rfl, hb1⟩
  have z1 : w.heap.size + 1 + 1 + 1 ≤ w1.heap.size := by have := hb1.size; rw [S0] at this; exact this
  have HB1 : Below w.heap.size w w1 := HB0.trans (hb1.mono (by rw [S0]; omega))
  have s1 := s0.step hb1
  have p2 := b2.below hb1 (by rw [S0]; omega)
  have p3 := b3.below hb1 (by rw [S0]; omega)
  have p4 := b4.below hb1 (by rw [S0]; omega)
  clear hb1
  have f2 := p2.two; have l2 := p2.lt; have f3 := p3.two; have l3 := p3.lt; have f4 := p4.two; have l4 := p4.lt
  go_wp2_with fail
  refine (implViewValid_any _ _ _ p ys _ ((hy.below HB1).more HB1.size) hm).mono ?_
  rintro e w2 ⟨rfl, hb2⟩
  have z2 := hb2.size
  have HB2 : Below w.heap.size w w2 := HB1.trans (hb2.mono HB1.size)
  have s2 := s1.step hb2
  replace p2 := p2.below hb2 p2.lt
  replace p3 := p3.below hb2 p3.lt
  replace p4 := p4.below hb2 p4.lt
  clear f2 f3 f4 l2 l3 l4 HB1 hb2 s1
  have f2 := p2.two; have l2 := p2.lt; have f3 := p3.two; have l3 := p3.lt; have f4 := p4.two; have l4 := p4.lt
  have X2 := hx.below HB2
  have Y2 := hy.below HB2
  go_wp2
  go_loop [20] (fun i => ∃ k : Nat, k ≤ n ∧ i = .int .i64 k ∧ bothB (xs.take k) ys = false) (fun i => n - (intOf i).toNat)
  case atStart => exact ⟨0, Nat.zero_le _, rfl, by simp [bothB]⟩
  case round =>
    obtain ⟨k, hk, rfl, hall⟩ := hrel
    have HA := Lib.hid hall
    clear hall
    by_cases hlt : k < n
    · obtain ⟨ad, x, rfl, hb, hc, hx1, hsn⟩ := X2.elem hlt
      cases hd : hasB ys x
      · go_wp2_with (go_at_call 46; refine (contains_any _ _ _ w.heap.size ys _ _ Y2 hm).mono ?_; rintro e w3 ⟨rfl, rfl⟩)
        go_round
        case rel => exact ⟨k + 1, by omega, by go_num, both_snoc hsn.out hd HA.out⟩
        case measure => simp [intOf]; omega
      · have hnot : mergeOk q xs p ys = false := by simp [mergeOk, both_hit hx1.out hd]
        go_wp2_with (go_at_call 46; refine (contains_any _ _ _ w.heap.size ys _ _ Y2 hm).mono ?_; rintro e w3 ⟨rfl, rfl⟩)
        exact bodyPost_ret (v := .tuple #[.agg #[.int .i64 0, .slice none 0 0], .bool false]) (by simp [results, Tryd.results32, go_sem, f4]) rfl (RetVB.zero ((HB2.setCell (by first | omega | (simp; done) | (simp; omega)) _).setCell (by first | omega | (simp; done) | (simp; omega)) _) (gB_no (by simp [hnot])))
    · have hkn : k = n := by omega
      subst hkn
      have hok : mergeOk q xs p ys = true := by have h := HA.out; rw [List.take_of_length_le (by rw [HL.out]; exact Nat.le_refl _)] at h; simp [mergeOk, h1, h2, h]
      rcases (by omega : q < p ∨ p < q ∨ q = p) with hqp | hqp | hqp
      · have HMX := Lib.hid (show max q p = p by omega)
        clear hM
        go_wp2_with fail
        refine (viewOf_any (p + 1) 56 _ _ (fun x => hasB xs x || hasB ys x) a _ s2 (enters_fn Tryd.func56 (by kernel_rfl) rfl) (fun kk w' hk hb => mergeAcc_any w.heap.size (w.heap.size + 1) A _ c w.heap.size q xs B m d p ys kk w' (p2.below hb p2.lt) (p3.below hb p3.lt) ((hx.below HB2).below (hb.mono HB2.size)) hn ((hy.below HB2).below (hb.mono HB2.size)) hm)).mono ?_
        rintro e w3 ⟨A2, n2, c2, hor, hb3⟩
        have z3 := hb3.size
        have s3 := s2.step hb3
        have r2 := p4.below hb3 p4.lt
        have HB3 : Below w.heap.size w w3 := HB2.trans (hb3.mono HB2.size)
        clear f2 f3 f4 l2 l3 l4
        rcases hor with ⟨hv, rfl, o2⟩ | ⟨hv, rfl⟩
        · go_wp2_with fail
          refine (succeeded_ok _ _ _ (p + 1) a _ s3).mono ?_
          rintro e w4 ⟨rfl, hb4⟩
          have z4 := hb4.size
          have r4 := r2.below hb4 r2.lt
          have f4 := r4.two
          have l4 := r4.lt
          have HB4 : Below w.heap.size w w4 := HB3.trans (hb4.mono HB3.size)
          clear HB0 HB2 HB3
          go_wp2
          exact bodyPost_ret (v := .tuple #[.agg #[.int .i64 (p + 1), .slice A2 n2 c2], .bool true]) (by simp [results, Tryd.results32, go_sem, f4]) rfl (by rw [HMX.out]; exact RetVB.yes ((HB4.setCell (by first | omega | (simp; done) | (simp; omega)) _).setCell (by first | omega | (simp; done) | (simp; omega)) _) ((((o2.below hb4).setBelow (by first | omega | (simp; done) | (simp; omega)) _).setBelow (by first | omega | (simp; done) | (simp; omega)) _).mono (by omega)) (gB_is hok hv))
        · go_wp2_with fail
          refine (succeeded_no 0 a _ s3 _ _ _).mono ?_
          rintro e w4 ⟨rfl, hb4⟩
          have z4 := hb4.size
          have r4 := r2.below hb4 r2.lt
          have f4 := r4.two
          have l4 := r4.lt
          have HB4 : Below w.heap.size w w4 := HB3.trans (hb4.mono HB3.size)
          clear HB0 HB2 HB3
          go_wp2
          exact bodyPost_ret (v := .tuple #[.agg #[.int .i64 0, .slice none 0 0], .bool false]) (by simp [results, Tryd.results32, go_sem, f4]) rfl (by rw [HMX.out]; exact RetVB.zero ((HB4.setCell (by first | omega | (simp; done) | (simp; omega)) _).setCell (by first | omega | (simp; done) | (simp; omega)) _) (gB_is hok hv))
      · have HMX := Lib.hid (show max q p = q by omega)
        clear hM
        go_wp2_with fail
        refine (viewOf_any (q + 1) 56 _ _ (fun x => hasB xs x || hasB ys x) a _ s2 (enters_fn Tryd.func56 (by kernel_rfl) rfl) (fun kk w' hk hb => mergeAcc_any w.heap.size (w.heap.size + 1) A _ c w.heap.size q xs B m d p ys kk w' (p2.below hb p2.lt) (p3.below hb p3.lt) ((hx.below HB2).below (hb.mono HB2.size)) hn ((hy.below HB2).below (hb.mono HB2.size)) hm)).mono ?_
        rintro e w3 ⟨A2, n2, c2, hor, hb3⟩
        have z3 := hb3.size
        have s3 := s2.step hb3
        have r2 := p4.below hb3 p4.lt
        have HB3 : Below w.heap.size w w3 := HB2.trans (hb3.mono HB2.size)
        clear f2 f3 f4 l2 l3 l4
        rcases hor with ⟨hv, rfl, o2⟩ | ⟨hv, rfl⟩
        · go_wp2_with fail
          refine (succeeded_ok _ _ _ (q + 1) a _ s3).mono ?_
          rintro e w4 ⟨rfl, hb4⟩
          have z4 := hb4.size
          have r4 := r2.below hb4 r2.lt
          have f4 := r4.two
          have l4 := r4.lt
          have HB4 : Below w.heap.size w w4 := HB3.trans (hb4.mono HB3.size)
          clear HB0 HB2 HB3
          go_wp2
          exact bodyPost_ret (v := .tuple #[.agg #[.int .i64 (q + 1), .slice A2 n2 c2], .bool true]) (by simp [results, Tryd.results32, go_sem, f4]) rfl (by rw [HMX.out]; exact RetVB.yes ((HB4.setCell (by first | omega | (simp; done) | (simp; omega)) _).setCell (by first | omega | (simp; done) | (simp; omega)) _) ((((o2.below hb4).setBelow (by first | omega | (simp; done) | (simp; omega)) _).setBelow (by first | omega | (simp; done) | (simp; omega)) _).mono (by omega)) (gB_is hok hv))
        · go_wp2_with fail
          refine (succeeded_no 0 a _ s3 _ _ _).mono ?_
          rintro e w4 ⟨rfl, hb4⟩
          have z4 := hb4.size
          have r4 := r2.below hb4 r2.lt
          have f4 := r4.two
          have l4 := r4.lt
          have HB4 : Below w.heap.size w w4 := HB3.trans (hb4.mono HB3.size)
          clear HB0 HB2 HB3
          go_wp2
          exact bodyPost_ret (v := .tuple #[.agg #[.int .i64 0, .slice none 0 0], .bool false]) (by simp [results, Tryd.results32, go_sem, f4]) rfl (by rw [HMX.out]; exact RetVB.zero ((HB4.setCell (by first | omega | (simp; done) | (simp; omega)) _).setCell (by first | omega | (simp; done) | (simp; omega)) _) (gB_is hok hv))
      · subst hqp
        have HMX := Lib.hid (show max q q = q by omega)
        clear hM
        go_wp2_with fail
        refine (viewOf_any (q + 1) 56 _ _ (fun x => hasB xs x || hasB ys x) a _ s2 (enters_fn Tryd.func56 (by kernel_rfl) rfl) (fun kk w' hk hb => mergeAcc_any w.heap.size (w.heap.size + 1) A _ c w.heap.size q xs B m d q ys kk w' (p2.below hb p2.lt) (p3.below hb p3.lt) ((hx.below HB2).below (hb.mono HB2.size)) hn ((hy.below HB2).below (hb.mono HB2.size)) hm)).mono ?_
        rintro e w3 ⟨A2, n2, c2, hor, hb3⟩
        have z3 := hb3.size
        have s3 := s2.step hb3
        have r2 := p4.below hb3 p4.lt
        have HB3 : Below w.heap.size w w3 := HB2.trans (hb3.mono HB2.size)
        clear f2 f3 f4 l2 l3 l4
        rcases hor with ⟨hv, rfl, o2⟩ | ⟨hv, rfl⟩
        · go_wp2_with fail
          refine (succeeded_ok _ _ _ (q + 1) a _ s3).mono ?_
          rintro e w4 ⟨rfl, hb4⟩
          have z4 := hb4.size
          have r4 := r2.below hb4 r2.lt
          have f4 := r4.two
          have l4 := r4.lt
          have HB4 : Below w.heap.size w w4 := HB3.trans (hb4.mono HB3.size)
          clear HB0 HB2 HB3
          go_wp2
          exact bodyPost_ret (v := .tuple #[.agg #[.int .i64 (q + 1), .slice A2 n2 c2], .bool true]) (by simp [results, Tryd.results32, go_sem, f4]) rfl (by rw [HMX.out]; exact RetVB.yes ((HB4.setCell (by first | omega | (simp; done) | (simp; omega)) _).setCell (by first | omega | (simp; done) | (simp; omega)) _) ((((o2.below hb4).setBelow (by first | omega | (simp; done) | (simp; omega)) _).setBelow (by first | omega | (simp; done) | (simp; omega)) _).mono (by omega)) (gB_is hok hv))
        · go_wp2_with fail
          refine (succeeded_no 0 a _ s3 _ _ _).mono ?_
          rintro e w4 ⟨rfl, hb4⟩
          have z4 := hb4.size
          have r4 := r2.below hb4 r2.lt
          have f4 := r4.two
          have l4 := r4.lt
          have HB4 : Below w.heap.size w w4 := HB3.trans (hb4.mono HB3.size)
          clear HB0 HB2 HB3
          go_wp2
          exact bodyPost_ret (v := .tuple #[.agg #[.int .i64 0, .slice none 0 0], .bool false]) (by simp [results, Tryd.results32, go_sem, f4]) rfl (by rw [HMX.out]; exact RetVB.zero ((HB4.setCell (by first | omega | (simp; done) | (simp; omega)) _).setCell (by first | omega | (simp; done) | (simp; omega)) _) (gB_is hok hv))
end Go.Proofs.YtmjacdcefaohcaaDoor
