/-
  A transaction compared, marked, measured (the Exact laws' own functions).
-/
import Derived.Test.YtaelaldgohppeaaXK
namespace Go.Proofs.Ytaelaldgohppeaa
open Go.RowKit
set_option linter.unusedVariables false

theorem eqPut_same (x y : Int) (w : World) : Calls Try.prog 95 #[.agg #[.int .i64 x, .int .i64 y], .agg #[.int .i64 x, .int .i64 y]] w (RetV (.bool true) w) := by
  have h1 : (x != x) = false := by simp
  have h2 : (y != y) = false := by simp
  go_enter Try.func95, Try.ntmps95
  go_wp2
  go_ret
  exact ⟨rfl, (by repeat' (first | with_reducible exact Below.refl _ _ | with_reducible assumption | with_reducible refine Below.setCell ?_ (by first | omega | (simp; done) | (simp; omega)) _ | with_reducible refine Below.alloc ?_ (by first | omega | (simp; done) | (simp; omega)) _ | with_reducible refine below_drewN ?_ _ | with_reducible refine Below.drew ?_ | (with_reducible refine Below.trans ?_ (Below.mono (by with_reducible assumption) (by first | omega | (simp; done) | (simp; omega))))))⟩
set_option maxHeartbeats 1000000 in
theorem eqPutS_same (A A' : Option Addr) (n c m c' : Nat) (ps : List (Int × Int)) (w : World) (hx : Puts w w.heap.size A n ps) (hy : Puts w w.heap.size A' m ps) (hn : n ≤ 1048576) :
    Calls Try.prog 81 #[.slice A n c, .slice A' m c'] w (RetV (.bool true) w) := by
  obtain rfl : n = m := by rw [← hx.len, ← hy.len]
  go_enter Try.func81, Try.ntmps81
  go_wp2
  go_loopw [5] (fun i wr => ∃ k : Nat, k ≤ n ∧ i = .int .i64 k ∧ Below w.heap.size w wr) (fun i _ => n - (intOf i).toNat)
  case atStart => exact ⟨0, Nat.zero_le _, rfl, Below.refl _ _⟩
  case round =>
    obtain ⟨k, hk, rfl, hbw⟩ := hrel
    by_cases hlt : k < n
    · obtain ⟨ad, x, y, rfl, hb, c0, c1, c2, c3, c4, hx1, hs⟩ := (hx.below hbw).el hlt
      obtain ⟨ad', x', y', rfl, hb', d0, d1, d2, d3, d4, hy1, hs'⟩ := (hy.below hbw).el hlt
      obtain ⟨rfl, rfl⟩ : x = x' ∧ y = y' := by have h3 := hx1.out; rw [hy1.out] at h3; injection h3 with h3; injection h3 with h3 h4; exact ⟨h3.symm, h4.symm⟩
      have k0 : (0 : Int) ≤ (k : Int) := by omega
      have kn : (k : Int) < (n : Int) := by omega
      have z := hbw.size
      have K : ∀ W, Below wr.heap.size wr W → W.cell? (ad.add (k * 2)) = some (.int .i64 x) ∧ W.cell? ((ad.add (k * 2)).add 1) = some (.int .i64 y) ∧ W.cell? ⟨(ad.add (k * 2)).block, (ad.add (k * 2)).off + 1, none⟩ = some (.int .i64 y) ∧ W.cell? ((ad.add (k * 2)).add 0) = some (.int .i64 x) ∧ W.cell? (ad'.add (k * 2)) = some (.int .i64 x) ∧ W.cell? ((ad'.add (k * 2)).add 1) = some (.int .i64 y) ∧ W.cell? ⟨(ad'.add (k * 2)).block, (ad'.add (k * 2)).off + 1, none⟩ = some (.int .i64 y) ∧ W.cell? ((ad'.add (k * 2)).add 0) = some (.int .i64 x) := fun W h =>
        ⟨(h.cell (by rw [block_of_add]; omega)).trans c0, (h.cell (by rw [block_of_add, block_of_add]; omega)).trans c2, (h.cell (by show (ad.add (k * 2)).block < _; rw [block_of_add]; omega)).trans c3, (h.cell (by rw [block_of_add, block_of_add]; omega)).trans c4,
         (h.cell (by rw [block_of_add]; omega)).trans d0, (h.cell (by rw [block_of_add, block_of_add]; omega)).trans d2, (h.cell (by show (ad'.add (k * 2)).block < _; rw [block_of_add]; omega)).trans d3, (h.cell (by rw [block_of_add, block_of_add]; omega)).trans d4⟩
      go_wp2_with fail
      go_region_held3 (fun W => W.cell? (ad.add (k * 2)) = some (.int .i64 x) ∧ W.cell? ((ad.add (k * 2)).add 1) = some (.int .i64 y) ∧ W.cell? ⟨(ad.add (k * 2)).block, (ad.add (k * 2)).off + 1, none⟩ = some (.int .i64 y) ∧ W.cell? ((ad.add (k * 2)).add 0) = some (.int .i64 x) ∧ W.cell? (ad'.add (k * 2)) = some (.int .i64 x) ∧ W.cell? ((ad'.add (k * 2)).add 1) = some (.int .i64 y) ∧ W.cell? ⟨(ad'.add (k * 2)).block, (ad'.add (k * 2)).off + 1, none⟩ = some (.int .i64 y) ∧ W.cell? ((ad'.add (k * 2)).add 0) = some (.int .i64 x))
        (first | exact K _ (by repeat' (first | with_reducible exact hb2 | with_reducible exact Below.refl _ _ | with_reducible refine Below.drew ?_)))
        (first
          | (go_at_call 95; (with_reducible refine Calls.mono (eqPut_same x y _) ?_); rintro e w2 ⟨rfl, hb2'⟩; have hb2 : Below wr.heap.size wr w2 := (by repeat' (first | with_reducible exact Below.refl _ _ | with_reducible refine Below.alloc ?_ (by first | omega | (simp; done) | (simp; omega)) _ | with_reducible refine below_drewN ?_ _ | with_reducible refine Below.drew ?_ | with_reducible refine Below.setCell ?_ (by first | omega | (simp; done) | (simp; omega)) _ | with_reducible refine Below.trans ?_ (Below.mono hb2' (by first | omega | (simp; done) | (simp; omega)))))))
      go_wp2
      go_roundw
      case rel => exact ⟨k + 1, by omega, by go_num, hbw.trans (hb2.mono z)⟩
      case measure => simp [intOf]; omega
    · have : k = n := by omega
      subst this
      go_wp2
      go_ret
      exact ⟨rfl, hbw⟩
theorem eqTxn_same (A : Option Addr) (n c : Nat) (nd : Int) (B : Option Addr) (m d : Nat) (A' : Option Addr) (n' c' : Nat) (B' : Option Addr) (m' d' : Nat) (rs : List Int) (ps : List (Int × Int)) (w : World)
    (hr : Ints w w.heap.size A n rs) (hp : Puts w w.heap.size B m ps) (hr' : Ints w w.heap.size A' n' rs) (hp' : Puts w w.heap.size B' m' ps) (hn : n ≤ 1048576) (hm : m ≤ 1048576) (hn' : n' ≤ 1048576) :
    Calls Try.prog 46 #[.agg #[.slice A n c, .int .i64 nd, .slice B m d], .agg #[.slice A' n' c', .int .i64 nd, .slice B' m' d']] w (RetV (.bool true) w) := by
  have hne : (nd != nd) = false := by simp
  have b1 := (Blk.new w 47 #[.slice A n c, .int .i64 nd, .slice B m d]).alloc (.cells #[.slice A' n' c', .int .i64 nd, .slice B' m' d'] 47)
  have b2 := Blk.new (w.alloc (.cells #[.slice A n c, .int .i64 nd, .slice B m d] 47)) 47 #[.slice A' n' c', .int .i64 nd, .slice B' m' d']
  simp only [World.size_alloc] at b2
  have r1 := (hr.box (.cells #[.slice A n c, .int .i64 nd, .slice B m d] 47)).box (.cells #[.slice A' n' c', .int .i64 nd, .slice B' m' d'] 47)
  have r2 := (hr'.box (.cells #[.slice A n c, .int .i64 nd, .slice B m d] 47)).box (.cells #[.slice A' n' c', .int .i64 nd, .slice B' m' d'] 47)
  have p1 := (hp.box (.cells #[.slice A n c, .int .i64 nd, .slice B m d] 47)).box (.cells #[.slice A' n' c', .int .i64 nd, .slice B' m' d'] 47)
  have p2 := (hp'.box (.cells #[.slice A n c, .int .i64 nd, .slice B m d] 47)).box (.cells #[.slice A' n' c', .int .i64 nd, .slice B' m' d'] 47)
  have B0 : Below w.heap.size w ((w.alloc (.cells #[.slice A n c, .int .i64 nd, .slice B m d] 47)).alloc (.cells #[.slice A' n' c', .int .i64 nd, .slice B' m' d'] 47)) := (by repeat' (first | with_reducible exact Below.refl _ _ | with_reducible assumption | with_reducible refine Below.setCell ?_ (by first | omega | (simp; done) | (simp; omega)) _ | with_reducible refine Below.alloc ?_ (by first | omega | (simp; done) | (simp; omega)) _ | with_reducible refine below_drewN ?_ _ | with_reducible refine Below.drew ?_ | (with_reducible refine Below.trans ?_ (Below.mono (by with_reducible assumption) (by first | omega | (simp; done) | (simp; omega))))))
  generalize hW : (w.alloc (.cells #[.slice A n c, .int .i64 nd, .slice B m d] 47)).alloc (.cells #[.slice A' n' c', .int .i64 nd, .slice B' m' d'] 47) = W at b1 b2 r1 r2 p1 p2 B0
  have f1 := b1.three
  have f2 := b2.three
  go_enter Try.func46, Try.ntmps46
  go_wp2_with fail
  refine (eqIntS_same _ _ _ _ _ _ rs _ r1 r2 hn hn').mono ?_
  rintro e w2 ⟨rfl, hb2⟩
  have g1 := (b1.below hb2 b1.lt).three
  have g2 := (b2.below hb2 b2.lt).three
  clear f1 f2
  go_wp2_with fail
  refine (eqPutS_same _ _ _ _ _ _ ps _ (p1.up hb2 hb2.size) (p2.up hb2 hb2.size) hm).mono ?_
  rintro e w3 ⟨rfl, hb3⟩
  go_wp2
  go_ret
  exact ⟨rfl, (B0.trans (hb2.mono B0.size)).trans (hb3.mono (Nat.le_trans B0.size hb2.size))⟩
theorem szPutS_yes (A : Option Addr) (n c : Nat) (left : Int) (w : World) (h1 : left ≤ 1048576) (h : (n : Int) ≤ left) :
    Calls Try.prog 76 #[.slice A n c, .int .i64 left] w fun e w' => e = .returned (.int .i64 (left - n)) ∧ w = w' := by
  go_enter Try.func76, Try.ntmps76
  go_wp2
  go_ret
  exact ⟨rfl, rfl⟩
theorem szPutS_no (A : Option Addr) (n c : Nat) (left : Int) (w : World) (h0 : 0 ≤ left) (h1 : left ≤ 1048576) (hn : n ≤ 9223372036854775807) (h : left < (n : Int)) :
    Calls Try.prog 76 #[.slice A n c, .int .i64 left] w fun e w' => e = .returned (.int .i64 (-1)) ∧ w = w' := by
  go_enter Try.func76, Try.ntmps76
  go_wp2
  go_ret
  exact ⟨rfl, rfl⟩
theorem szTxn_yes (A : Option Addr) (n c : Nat) (nd : Int) (B : Option Addr) (m d : Nat) (left : Int) (w : World) (h1 : left ≤ 1048576) (h : (n : Int) + (m : Int) ≤ left) :
    Calls Try.prog 42 #[.agg #[.slice A n c, .int .i64 nd, .slice B m d], .int .i64 left] w fun e w' => e = .returned (.int .i64 (left - n - m)) ∧ Below w.heap.size w w' := by
  go_enter Try.func42, Try.ntmps42
  go_wp2_with (first | (go_at_call 75; refine (szIntS_yes _ _ _ _ _ (by omega) (by omega)).mono ?_; rintro e w2 ⟨rfl, rfl⟩) | (go_at_call 76; refine (szPutS_yes _ _ _ _ _ (by omega) (by omega)).mono ?_; rintro e w2 ⟨rfl, rfl⟩))
  go_ret
  exact ⟨rfl, (by repeat' (first | with_reducible exact Below.refl _ _ | with_reducible assumption | with_reducible refine Below.setCell ?_ (by first | omega | (simp; done) | (simp; omega)) _ | with_reducible refine Below.alloc ?_ (by first | omega | (simp; done) | (simp; omega)) _ | with_reducible refine below_drewN ?_ _ | with_reducible refine Below.drew ?_ | (with_reducible refine Below.trans ?_ (Below.mono (by with_reducible assumption) (by first | omega | (simp; done) | (simp; omega))))))⟩
theorem szTxn_no (A : Option Addr) (n c : Nat) (nd : Int) (B : Option Addr) (m d : Nat) (left : Int) (w : World) (h0 : 0 ≤ left) (h1 : left ≤ 1048576) (hn : n ≤ 9223372036854775807) (hm : m ≤ 9223372036854775807) (h : left < (n : Int) + (m : Int)) :
    Calls Try.prog 42 #[.agg #[.slice A n c, .int .i64 nd, .slice B m d], .int .i64 left] w fun e w' => e = .returned (.int .i64 (-1)) ∧ Below w.heap.size w w' := by
  rcases Int.lt_or_le left (n : Int) with h2 | h2
  · go_enter Try.func42, Try.ntmps42
    go_wp2_with (go_at_call 75; refine (szIntS_no _ _ _ _ _ h0 h1 hn h2).mono ?_; rintro e w2 ⟨rfl, rfl⟩)
    go_ret
    exact ⟨rfl, (by repeat' (first | with_reducible exact Below.refl _ _ | with_reducible assumption | with_reducible refine Below.setCell ?_ (by first | omega | (simp; done) | (simp; omega)) _ | with_reducible refine Below.alloc ?_ (by first | omega | (simp; done) | (simp; omega)) _ | with_reducible refine below_drewN ?_ _ | with_reducible refine Below.drew ?_ | (with_reducible refine Below.trans ?_ (Below.mono (by with_reducible assumption) (by first | omega | (simp; done) | (simp; omega))))))⟩
  · have h3 : left - (n : Int) < (m : Int) := by omega
    go_enter Try.func42, Try.ntmps42
    go_wp2_with (first | (go_at_call 75; refine (szIntS_yes _ _ _ _ _ (by omega) (by omega)).mono ?_; rintro e w2 ⟨rfl, rfl⟩) | (go_at_call 76; refine (szPutS_no _ _ _ _ _ (by omega) (by omega) hm h3).mono ?_; rintro e w2 ⟨rfl, rfl⟩))
    go_ret
    exact ⟨rfl, (by repeat' (first | with_reducible exact Below.refl _ _ | with_reducible assumption | with_reducible refine Below.setCell ?_ (by first | omega | (simp; done) | (simp; omega)) _ | with_reducible refine Below.alloc ?_ (by first | omega | (simp; done) | (simp; omega)) _ | with_reducible refine below_drewN ?_ _ | with_reducible refine Below.drew ?_ | (with_reducible refine Below.trans ?_ (Below.mono (by with_reducible assumption) (by first | omega | (simp; done) | (simp; omega))))))⟩
theorem markPutS_t (A : Option Addr) (n c base : Nat) (ps : List (Int × Int)) (k : Int) (w : World) (hr : OwnP w base A n c ps) (h0 : 0 ≤ k) (hk : k ≤ 4194304) (hn : n ≤ 1048576) :
    Calls Try.prog 92 #[.slice A n c, .int .i64 k] w fun e w' => e = .returned (.int .i64 (k + 2 * n)) ∧ w.grownBy w' (blk A) := by
  go_enter Try.func92, Try.ntmps92
  go_wp2
  go_loopw [1, 5] (fun q i wr => ∃ (j : Nat) (qs : List (Int × Int)), j ≤ n ∧ i = .int .i64 j ∧ q = .int .i64 (k + 2 * j) ∧ OwnP wr base A n c qs ∧ w.grownBy wr (blk A)) (fun _ i _ => n - (intOf i).toNat)
  case atStart => exact ⟨0, ps, Nat.zero_le _, rfl, by simp, hr, World.grownBy.refl w _⟩
  case round =>
    obtain ⟨j, qs, hj, rfl, rfl, hown, hg⟩ := hrel
    by_cases hlt : j < n
    · have hRP : RowP wr base wr.heap.size A n c qs := ⟨hown, fun j hj => (hown.lt hj).2⟩
      obtain ⟨g, rfl, hb, hgl⟩ := hRP.form (by omega)
      obtain ⟨u, v, q1, q2, q3, q4⟩ := hRP.cellsAt hlt
      go_wp2
      go_roundw
      case rel =>
        exact ⟨j + 1, _, by omega, by go_num, by go_num, (hRP.stored j (k + 2 * j) (k + 2 * j + 1)).1, grown_set (p := ⟨g, j * 2 + 1, none⟩) (grown_set (p := ⟨g, j * 2, none⟩) hg rfl _) rfl _⟩
      case measure => simp [intOf]; omega
    · have : j = n := by omega
      subst this
      go_wp2
      go_ret
      exact ⟨rfl, hg⟩
theorem markTxn_t (A : Option Addr) (n c : Nat) (nd : Int) (B : Option Addr) (m d b e : Nat) (rs : List Int) (ps : List (Int × Int)) (k : Int) (w : World) (hr : RowI w b e A n c rs) (hp : RowP w b e B m d ps) (h0 : 0 ≤ k) (hk : k ≤ 2097152) (hn : n ≤ 1048576) (hm : m ≤ 1048576) (he : e ≤ w.heap.size) :
    Calls Try.prog 60 #[.agg #[.slice A n c, .int .i64 nd, .slice B m d], .int .i64 k] w fun r w' => r = .returned (.int .i64 (k + n + 2 * m)) ∧ Touch b e w w' := by
  have hX := hr.own.alloc (.cells #[.slice A n c, .int .i64 nd, .slice B m d] 47)
  have hP : OwnP (w.alloc (.cells #[.slice A n c, .int .i64 nd, .slice B m d] 47)) b B m d ps := OwnP.alloc hp.1 _
  have b1 := Blk.new w 47 #[.slice A n c, .int .i64 nd, .slice B m d]
  have T0 : Touch b e w (w.alloc (.cells #[.slice A n c, .int .i64 nd, .slice B m d] 47)) := Touch.of_below ((Below.refl _ _).alloc (Nat.le_refl _) _)
  have z0 : (w.alloc (.cells #[.slice A n c, .int .i64 nd, .slice B m d] 47)).heap.size = w.heap.size + 1 := by simp
  generalize hW : w.alloc (.cells #[.slice A n c, .int .i64 nd, .slice B m d] 47) = W at hX hP b1 T0 z0
  have f1 := b1.three
  go_enter Try.func60, Try.ntmps60
  go_wp2_with fail
  refine (markIntS_any _ _ _ b rs k _ hX h0 (by omega) (by omega)).mono ?_
  rintro r w1 ⟨rfl, ho1, hg1⟩
  have hP1 := hP.kept hg1 (fun j hj e' => by
    have := rows_ne hP hX (by decide) (k := j) (by rw [blk_own]; exact hj)
    rw [blk_own] at this; exact this e')
  have b2 := b1.grown hg1 (fun e' => own_ne_blk hX b1 (by decide) e'.symm)
  have f2 := b2.three
  have T1 : Touch b e w w1 := T0.trans ⟨hg1.os, hg1.tape, hg1.output, hg1.size, fun i hi hd => hg1.block i hi (fun e' => by have := (hr.own.lt e'.symm).1; have := hr.2 i e'.symm; omega)⟩
  clear f1
  go_wp2_with fail
  refine (markPutS_t _ _ _ b ps (k + n) _ hP1 (by omega) (by omega) hm).mono ?_
  rintro r w2 ⟨rfl, hg2⟩
  go_wp2
  go_ret
  exact ⟨rfl, T1.trans ⟨hg2.os, hg2.tape, hg2.output, hg2.size, fun i hi hd => hg2.block i hi (fun e' => by have h1 := (OwnP.lt (show OwnP w b B m d ps from hp.1) e'.symm).1; have := hp.2 i e'.symm; omega)⟩⟩
end Go.Proofs.Ytaelaldgohppeaa
