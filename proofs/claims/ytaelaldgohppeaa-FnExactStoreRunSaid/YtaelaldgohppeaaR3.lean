/-
  sameBools; the draw of a state and transactions; what stands behind the common head of the runs' laws.
-/
import Derived.Test.YtaelaldgohppeaaR2
import Derived.Test.YtaelaldgohppeaaDT2
namespace Go.Proofs.Ytaelaldgohppeaa
open Go.RowKit
set_option linter.unusedVariables false

theorem sameBools_same (A A' : Option Addr) (n c m c' : Nat) (bs : List Bool) (w : World) (hx : Bools w w.heap.size A n bs) (hy : Bools w w.heap.size A' m bs) (hn : n ≤ 1048576) :
    Calls Try.prog 59 #[.slice A n c, .slice A' m c'] w (RetV (.bool true) w) := by
  have hlx := Lib.hid hx.len
  have hly := Lib.hid hy.len
  obtain rfl : n = m := by rw [← hlx.out, ← hly.out]
  go_enter Try.func59, Try.ntmps59
  go_wp2
  go_loopw [5] (fun i wr => ∃ k : Nat, k ≤ n ∧ i = .int .i64 k ∧ ∃ d, wr = w.drewN d) (fun i _ => n - (intOf i).toNat)
  case atStart => exact ⟨0, Nat.zero_le _, rfl, 0, rfl⟩
  case round =>
    obtain ⟨k, hk, rfl, d, rfl⟩ := hrel
    by_cases hlt : k < n
    · obtain ⟨ad, x, rfl, hb, hc, hx1, hs⟩ := hx.el hlt
      obtain ⟨ad', y, rfl, hb', hc', hy1, hs'⟩ := hy.el hlt
      obtain rfl : x = y := by have h1 := hx1.out; rw [hy1.out] at h1; injection h1 with h1; exact h1.symm
      have hd : (x != x) = false := by simp
      go_wp2
      go_quiet (fail)
      go_wp2
      go_roundw
      case rel => exact ⟨k + 1, by omega, by go_num, _, rfl⟩
      case measure => simp [intOf]; omega
    · have : k = n := by omega
      subst this
      go_wp2
      go_ret
      exact ⟨rfl, below_drewN (Below.refl _ _) _⟩
/-- A state and transactions are drawn into memory of the call's own. -/
def DrewR (w : World) (e : Ending) (w' : World) : Prop :=
  ∃ A n c xs A' m d R ts, e = .returned (.tuple #[.slice A n c, .slice A' m d]) ∧ Own w' w.heap.size A n c xs ∧ n ≤ 15 ∧ HeldT w' w.heap.size A' m d R ts ∧ m ≤ 11 ∧ Hid (∀ r ∈ R, r.n1 ≤ 16 ∧ r.n2 ≤ 16) ∧ Below w.heap.size w w'
/-- What stands while they are drawn. -/
structure DR (w w1 : World) (g : Nat) (P : Int) (wr : World) (A3 : Option Addr) (n3 c3 : Nat) (xs : List Int) (A6 : Option Addr) (k c6 : Nat) (R : List TR) (ts : List TX) (p' : Int) : Prop where
  x : Own wr w1.heap.size A3 n3 c3 xs
  h : HeldT wr w1.heap.size A6 k c6 R ts
  r : Hid (∀ r ∈ R, r.n1 ≤ 16 ∧ r.n2 ≤ 16)
  rd : Rdr wr w.heap.size g p'
  gl : g < w1.heap.size
  p0 : 0 ≤ p'
  p1 : p' ≤ P
  zz : w1.heap.size ≤ wr.heap.size
  bl : Below w.heap.size w wr
section
variable {w w1 wr w6 w8 : World} {g n3 c3 k c6 c8 n1 c1 n2 c2 : Nat} {P p' p'' nd : Int} {A3 A6 A8 A1 A2 : Option Addr} {xs rs : List Int} {R : List TR} {ts : List TX} {ps : List (Int × Int)}
theorem DR.add (h : DR w w1 g P wr A3 n3 c3 xs A6 k c6 R ts p') (o1 : Own w6 wr.heap.size A1 n1 c1 rs) (o2 : OwnP w6 wr.heap.size A2 n2 c2 ps) (hn1 : n1 ≤ 16) (hn2 : n2 ≤ 16) (hr : Rdr w6 w.heap.size g p'') (h1 : p' ≤ p'') (h2 : p'' ≤ p' + 100) (hg : wr.grownBy w6 (some g)) (hb : Below g wr w6)
    (hg8 : (w6.alloc (.cells #[.slice A1 n1 c1, .int .i64 nd, .slice A2 n2 c2] 47)).grownBy w8 (blk A6)) (o8 : w8.ownsRow w1.heap.size 47 3 (.slice A8 (k + 1) c8) (k + 1) (tcv (R ++ [⟨A1, n1, c1, nd, A2, n2, c2⟩]))) :
    DR w w1 g (P + 100) w8 A3 n3 c3 xs A8 (k + 1) c8 (R ++ [⟨A1, n1, c1, nd, A2, n2, c2⟩]) (ts ++ [⟨rs, nd, ps⟩]) p'' := by
  have hgl := h.gl
  have hw := hr.lt
  have hz := hg.size
  have hz8 := hg8.size
  have hh := h.h.kept hg (fun j e => by injection e with e; omega)
  have hx := h.x.kept hg (fun j hj e => by injection e with e; have := h.x.lt hj; omega)
  have hrow : ∀ j, blk A6 = some j → w1.heap.size ≤ j := fun j hj => (h.h.lt hj).1
  have z := h.zz
  simp at hz8
  refine ⟨(hx.alloc _).kept hg8 (fun j hj e => ?_), (hh.alloc _).app (t := ⟨rs, nd, ps⟩) ((o1.mono z).alloc _) rfl ((o2.mono z).alloc _) hg8 o8, Lib.hid (fun r hr => ?_), (hr.alloc _).grown hg8 (fun j hj => by have := hrow j hj; omega), hgl, by have := h.p0; omega, by have := h.p1; omega, by omega,
    Below.grown ((h.bl.trans (hb.mono hw.2)).alloc (by have := h.bl.size; omega) _) hg8 (by have := h.bl.size; simp; omega) (fun j hj => by have := hrow j hj; have := h.rd.lt; omega)⟩
  · have := rows_ne hx hh.o (by decide) (k := j) (by rw [blk_own]; exact hj)
    rw [blk_own] at this; exact this e
  · rcases List.mem_append.1 hr with h1 | h1
    · exact h.r.out r h1
    · obtain rfl := List.mem_singleton.1 h1; exact ⟨hn1, hn2⟩
end
set_option maxHeartbeats 4000000 in
theorem drawSR_any (A : Option Addr) (n c : Nat) (bs : List Int) (w : World) (hb : Bytes w w.heap.size A n bs) (hn : n ≤ 1048576) (hc : n ≤ c) (hc' : c ≤ 9223372036854775807) :
    Calls Try.prog 56 #[.slice A n c] w (DrewR w) := by
  go_enter Try.func56, Try.ntmps56
  go_wp2_with fail
  refine (open_any _ _ _ _ _ hb hn hc hc').mono ?_
  rintro e w1 ⟨g, rfl, hr1, hg1, hb1⟩
  have hgl := hr1.lt
  go_wp2_with fail
  refine (l92State_any _ g 0 _ hr1 (by omega) (by omega)).mono ?_
  rintro e w3 ⟨A3, n3, c3, xs, p3, rfl, o3, hn3, hr3, hp31, hp32, hgr3, hbl3⟩
  have B3 : Below w.heap.size w w3 := hb1.trans (hbl3.mono (by omega))
  have z3 := hgr3.size
  have zw := hb1.size
  have D3 : DR w w1 g 300 (w3.alloc (.cells #[] 47)) A3 n3 c3 xs (some ⟨w3.heap.size, 0, none⟩) 0 0 [] [] p3 :=
    ⟨o3.alloc _, HeldT.start z3, Lib.hid (by simp), hr3.alloc _, by omega, by omega, by omega, by simp; omega, B3.alloc (by omega) _⟩
  generalize hW4 : w3.alloc (.cells #[] 47) = w4 at D3
  clear hb1 hr1 hr3 hgr3 hbl3 o3 B3
  have K : ∀ {wx wy : World} {p : Int}, DR w w1 g 300 wx A3 n3 c3 xs (some ⟨w3.heap.size, 0, none⟩) 0 0 [] [] p → p ≤ 200 → Rdr wy w.heap.size g (p + 1) → wx.grownBy wy (some g) → Below g wx wy → DR w w1 g 300 wy A3 n3 c3 xs (some ⟨w3.heap.size, 0, none⟩) 0 0 [] [] (p + 1) := by
    intro wx wy p h hp hr hg hb
    have := hr.lt
    exact ⟨h.x.kept hg (fun j hj e => by injection e with e; have := h.x.lt hj; omega), h.h.kept hg (fun j e => by injection e with e; omega), h.r, hr, h.gl, by have := h.p0; omega, by omega, Nat.le_trans h.zz hg.size, h.bl.trans (hb.mono this.2)⟩
  have hp200 : p3 ≤ 100 := by omega
  go_wp2_with fail
  refine (pick_pos _ g _ _ _ D3.rd (by omega) (by omega) (by omega) (by omega)).mono ?_
  rintro e w5 ⟨v5, rfl, hv50, hv51, hr5, hg5, hs5, hb5⟩
  have D5 := K D3 (by omega) hr5 hg5 hb5
  clear D3 hr5 hg5 hb5 hs5 hW4
  go_wp2_with fail
  refine (pick_pos _ g _ _ _ D5.rd (by omega) (by omega) (by omega) (by omega)).mono ?_
  rintro e w6 ⟨v6, rfl, hv60, hv61, hr6, hg6, hs6, hb6⟩
  have D6 := K D5 (by omega) hr6 hg6 hb6
  clear D5 hr6 hg6 hb6 hs6
  cases hu : (v6 == 0)
  · obtain ⟨N, rfl⟩ := Int.eq_ofNat_of_zero_le hv50
    have hN : N ≤ 11 := by omega
    go_wp2_with fail
    go_loopw [6, 8] (fun s i wr => ∃ (k : Nat) (A6 : Option Addr) (c6 : Nat) (R : List TR) (ts : List TX) (p' : Int), k ≤ N ∧ i = .int .i64 k ∧ s = .slice A6 k c6 ∧ DR w w1 g (300 + 100 * (k : Int)) wr A3 n3 c3 xs A6 k c6 R ts p') (fun _ i _ => N - (intOf i).toNat)
    case atStart => exact ⟨0, _, _, _, _, _, Nat.zero_le _, rfl, rfl, by simpa using D6⟩
    case round =>
      clear D6
      obtain ⟨k, A6, c6, R, ts, p', hk, rfl, rfl, h⟩ := hrel
      have hp0 := h.p0
      have hp1 := h.p1
      by_cases hlt : k < N
      · go_wp2_with fail
        refine (l92Txn_any _ g p' _ h.rd (by omega) (by omega)).mono ?_
        rintro e w9 ⟨A1, n1, c1, nd, A2, n2, c2, rs, ps, p'', rfl, o1, o2, hn1, hn2, hr9, hp91, hp92, hgr9, hbl9⟩
        have h9 := h.h.kept hgr9 (fun j e => by injection e with e; have := h.gl; omega)
        go_wp2_with (at_builtin; refine appT rfl _ _ rfl w1.heap.size rfl (h9.alloc _).o _ _ _ _ [⟨A1, n1, c1, nd, A2, n2, c2⟩] rfl (Reads.txn1 ⟨A1, n1, c1, nd, A2, n2, c2⟩ rfl) (by omega) (by have := h.zz; have := hgr9.size; simp; omega) ?_; intro A8 c8 w10 o10 hg10 at10; have h10 := h.add o1 o2 hn1 hn2 hr9 hp91 hp92 hgr9 hbl9 hg10 o10)
        go_roundw
        case rel => exact ⟨k + 1, A8, c8, _, _, _, by omega, by go_num, rfl, by rw [show 300 + 100 * ((k + 1 : Nat) : Int) = 300 + 100 * (k : Int) + 100 by omega]; exact h10⟩
        case measure => simp [intOf]; omega
      · obtain rfl : k = N := by omega
        go_wp2
        go_ret2
        have z := h.zz
        exact ⟨A3, n3, c3, xs, A6, k, c6, R, ts, rfl, h.x.mono zw, hn3, h.h.mono zw, hN, h.r, h.bl⟩
  · go_wp2_with fail
    refine (pick_pos _ g _ _ _ D6.rd (by omega) (by omega) (by omega) (by omega)).mono ?_
    rintro e w7 ⟨v7, rfl, hv70, hv71, hr7, hg7, hs7, hb7⟩
    have D7 := K D6 (by omega) hr7 hg7 hb7
    clear D6 hr7 hg7 hb7 hs7
    obtain ⟨N, hN9⟩ : ∃ N : Nat, 9 + v7 = (N : Int) := ⟨(9 + v7).toNat, by omega⟩
    have hN : N ≤ 11 := by omega
    go_wp2_with fail
    generalize hvv : 9 + v7 = nn
    obtain rfl : nn = (N : Int) := by omega
    clear hvv hN9
    go_loopw [6, 8] (fun s i wr => ∃ (k : Nat) (A6 : Option Addr) (c6 : Nat) (R : List TR) (ts : List TX) (p' : Int), k ≤ N ∧ i = .int .i64 k ∧ s = .slice A6 k c6 ∧ DR w w1 g (300 + 100 * (k : Int)) wr A3 n3 c3 xs A6 k c6 R ts p') (fun _ i _ => N - (intOf i).toNat)
    case atStart => exact ⟨0, _, _, _, _, _, Nat.zero_le _, rfl, rfl, by simpa using D7⟩
    case round =>
      clear D7
      obtain ⟨k, A6, c6, R, ts, p', hk, rfl, rfl, h⟩ := hrel
      have hp0 := h.p0
      have hp1 := h.p1
      by_cases hlt : k < N
      · go_wp2_with fail
        refine (l92Txn_any _ g p' _ h.rd (by omega) (by omega)).mono ?_
        rintro e w9 ⟨A1, n1, c1, nd, A2, n2, c2, rs, ps, p'', rfl, o1, o2, hn1, hn2, hr9, hp91, hp92, hgr9, hbl9⟩
        have h9 := h.h.kept hgr9 (fun j e => by injection e with e; have := h.gl; omega)
        go_wp2_with (at_builtin; refine appT rfl _ _ rfl w1.heap.size rfl (h9.alloc _).o _ _ _ _ [⟨A1, n1, c1, nd, A2, n2, c2⟩] rfl (Reads.txn1 ⟨A1, n1, c1, nd, A2, n2, c2⟩ rfl) (by omega) (by have := h.zz; have := hgr9.size; simp; omega) ?_; intro A8 c8 w10 o10 hg10 at10; have h10 := h.add o1 o2 hn1 hn2 hr9 hp91 hp92 hgr9 hbl9 hg10 o10)
        go_roundw
        case rel => exact ⟨k + 1, A8, c8, _, _, _, by omega, by go_num, rfl, by rw [show 300 + 100 * ((k + 1 : Nat) : Int) = 300 + 100 * (k : Int) + 100 by omega]; exact h10⟩
        case measure => simp [intOf]; omega
      · obtain rfl : k = N := by omega
        go_wp2
        go_ret2
        have z := h.zz
        exact ⟨A3, n3, c3, xs, A6, k, c6, R, ts, rfl, h.x.mono zw, hn3, h.h.mono zw, hN, h.r, h.bl⟩
/-- What stands in memory behind the head of a run's law. -/
structure Sr (w : World) (A : Option Addr) (n : Nat) (xs : List Int) (A1 : Option Addr) (m d : Nat) (R : List TR) (ts : List TX) (Ao : Option Addr) (no : Nat) (Bo : Option Addr) (mo : Nat) (Aw : Option Addr) (nw : Nat) (Bw : Option Addr) (mw : Nat) (W : World) : Prop where
  x : Ints W W.heap.size A n xs
  t : TxnS W W.heap.size A1 m R ts
  o : Ints W W.heap.size Ao no (srL xs ts)
  p : Bools W W.heap.size Bo mo (srB xs ts)
  v : Ints W W.heap.size Aw nw (srL xs ts)
  q : Bools W W.heap.size Bw mw (srB xs ts)
  bl : Below w.heap.size w W
section
variable {w W W' : World} {A A1 Ao Bo Aw Bw : Option Addr} {n m d no mo nw mw : Nat} {xs : List Int} {R : List TR} {ts : List TX}
theorem Sr.step (h : Sr w A n xs A1 m d R ts Ao no Bo mo Aw nw Bw mw W) (hb : Below W.heap.size W W') : Sr w A n xs A1 m d R ts Ao no Bo mo Aw nw Bw mw W' :=
  ⟨h.x.up hb hb.size, h.t.up hb hb.size, h.o.up hb hb.size, h.p.up hb hb.size, h.v.up hb hb.size, h.q.up hb hb.size, h.bl.trans (hb.mono h.bl.size)⟩
theorem Sr.fin (h : Sr w A n xs A1 m d R ts Ao no Bo mo Aw nw Bw mw W) (hb : Below W.heap.size W W') : Below w.heap.size w W' := h.bl.trans (hb.mono h.bl.size)
end
end Go.Proofs.Ytaelaldgohppeaa
