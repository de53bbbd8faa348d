/-
  eqTxnS: two lists of transactions are equal.
-/
import Derived.Test.YtaelaldgohppeaaXS
import Derived.Deep.RegionHeld3
namespace Go.Proofs.Ytaelaldgohppeaa
open Go.RowKit
set_option linter.unusedVariables false

set_option maxHeartbeats 4000000 in
theorem eqTxnS_same (A A' : Option Addr) (n c m c' : Nat) (R R' : List TR) (ts : List TX) (w : World) (hx : TxnS w w.heap.size A n R ts) (hy : TxnS w w.heap.size A' m R' ts) (hl : ∀ r ∈ R, r.n1 ≤ 1048576 ∧ r.n2 ≤ 1048576) (hn : n ≤ 1048576) :
    Calls Try.prog 64 #[.slice A n c, .slice A' m c'] w (RetV (.bool true) w) := by
  obtain rfl : m = n := by have := hx.l; have := hy.l; omega
  have HL := Lib.hid hl
  clear hl
  go_enter Try.func64, Try.ntmps64
  go_wp2
  go_loopw [5] (fun i wr => ∃ k : Nat, k ≤ m ∧ i = .int .i64 k ∧ Below w.heap.size w wr) (fun i _ => m - (intOf i).toNat)
  case atStart => exact ⟨0, Nat.zero_le _, rfl, Below.refl _ _⟩
  case round =>
    obtain ⟨k, hk, rfl, hbw⟩ := hrel
    by_cases hlt : k < m
    · have X1 := hx.up hbw hbw.size
      have Y1 := hy.up hbw hbw.size
      obtain ⟨ad, A1, n1, c1, nd, A2, n2, c2, rs, ps, rfl, hb, hc0, hc1, hc2, hc3, hc4, hc5, hi, hp, ht1, hts, hR⟩ := X1.el hlt
      obtain ⟨ad', A3, n3, c3, nd', A4, n4, c4, rs', ps', rfl, hb', hd0, hd1, hd2, hd3, hd4, hd5, hi', hp', ht1', hts', hR'⟩ := Y1.el hlt
      obtain ⟨rfl, rfl, rfl⟩ : rs = rs' ∧ nd = nd' ∧ ps = ps' := by
        have h1 := ht1.out
        rw [ht1'.out] at h1
        injection h1 with h1
        injection h1 with h2 h3 h4
        exact ⟨h2.symm, h3.symm, h4.symm⟩
      obtain ⟨l1, l2⟩ := HL.out _ (List.mem_of_getElem? hR.out)
      simp only at l1 l2
      have l3 : n3 ≤ 1048576 := by have := hi.len; have := hi'.len; omega
      have l4 : n4 ≤ 1048576 := by have := hp.len; have := hp'.len; omega
      have z0 := hbw.size
      have KS : ∀ W, Below wr.heap.size wr W → W.cell? (ad.add (k * 3)) = some (.slice A1 n1 c1) ∧ W.cell? ((ad.add (k * 3)).add 1) = some (.int .i64 nd) ∧ W.cell? ((ad.add (k * 3)).add 2) = some (.slice A2 n2 c2) ∧ W.cell? ⟨(ad.add (k * 3)).block, (ad.add (k * 3)).off + 1, none⟩ = some (.int .i64 nd) ∧ W.cell? ⟨(ad.add (k * 3)).block, (ad.add (k * 3)).off + 2, none⟩ = some (.slice A2 n2 c2) ∧ W.cell? ((ad.add (k * 3)).add 0) = some (.slice A1 n1 c1) ∧ W.cell? (ad'.add (k * 3)) = some (.slice A3 n3 c3) ∧ W.cell? ((ad'.add (k * 3)).add 1) = some (.int .i64 nd) ∧ W.cell? ((ad'.add (k * 3)).add 2) = some (.slice A4 n4 c4) ∧ W.cell? ⟨(ad'.add (k * 3)).block, (ad'.add (k * 3)).off + 1, none⟩ = some (.int .i64 nd) ∧ W.cell? ⟨(ad'.add (k * 3)).block, (ad'.add (k * 3)).off + 2, none⟩ = some (.slice A4 n4 c4) ∧ W.cell? ((ad'.add (k * 3)).add 0) = some (.slice A3 n3 c3) := fun W h =>
        ⟨(h.cell (by rw [block_of_add]; exact hb)).trans hc0, (h.cell (by rw [block_of_add, block_of_add]; exact hb)).trans hc1, (h.cell (by rw [block_of_add, block_of_add]; exact hb)).trans hc2, (h.cell (by show (ad.add (k * 3)).block < _; rw [block_of_add]; exact hb)).trans hc3, (h.cell (by show (ad.add (k * 3)).block < _; rw [block_of_add]; exact hb)).trans hc4, (h.cell (by rw [block_of_add, block_of_add]; exact hb)).trans hc5,
         (h.cell (by rw [block_of_add]; exact hb')).trans hd0, (h.cell (by rw [block_of_add, block_of_add]; exact hb')).trans hd1, (h.cell (by rw [block_of_add, block_of_add]; exact hb')).trans hd2, (h.cell (by show (ad'.add (k * 3)).block < _; rw [block_of_add]; exact hb')).trans hd3, (h.cell (by show (ad'.add (k * 3)).block < _; rw [block_of_add]; exact hb')).trans hd4, (h.cell (by rw [block_of_add, block_of_add]; exact hb')).trans hd5⟩
      clear hc0 hc1 hc2 hc3 hc4 hc5 hd0 hd1 hd2 hd3 hd4 hd5
      go_wp2_with fail
      go_region_held3 (fun W => W.cell? (ad.add (k * 3)) = some (.slice A1 n1 c1) ∧ W.cell? ((ad.add (k * 3)).add 1) = some (.int .i64 nd) ∧ W.cell? ((ad.add (k * 3)).add 2) = some (.slice A2 n2 c2) ∧ W.cell? ⟨(ad.add (k * 3)).block, (ad.add (k * 3)).off + 1, none⟩ = some (.int .i64 nd) ∧ W.cell? ⟨(ad.add (k * 3)).block, (ad.add (k * 3)).off + 2, none⟩ = some (.slice A2 n2 c2) ∧ W.cell? ((ad.add (k * 3)).add 0) = some (.slice A1 n1 c1) ∧ W.cell? (ad'.add (k * 3)) = some (.slice A3 n3 c3) ∧ W.cell? ((ad'.add (k * 3)).add 1) = some (.int .i64 nd) ∧ W.cell? ((ad'.add (k * 3)).add 2) = some (.slice A4 n4 c4) ∧ W.cell? ⟨(ad'.add (k * 3)).block, (ad'.add (k * 3)).off + 1, none⟩ = some (.int .i64 nd) ∧ W.cell? ⟨(ad'.add (k * 3)).block, (ad'.add (k * 3)).off + 2, none⟩ = some (.slice A4 n4 c4) ∧ W.cell? ((ad'.add (k * 3)).add 0) = some (.slice A3 n3 c3))
        (exact KS _ (by repeat' (first | with_reducible exact st9 | with_reducible exact Below.refl _ _ | with_reducible refine Below.drew ?_)))
        (first
          | (go_at_call 46; (with_reducible refine Calls.mono (eqTxn_x A1 n1 c1 A2 n2 c2 nd rs ps A3 n3 c3 A4 n4 c4 _ ?_ ?_ ?_ ?_ l1 l2 l3 l4) ?_)
             · exact hi
             · exact hp
             · exact hi'
             · exact hp'
             rintro e w9 ⟨rfl, hb9⟩
             have st9 : Below wr.heap.size wr w9 := (by repeat' (first | with_reducible exact Below.refl _ _ | with_reducible refine Below.alloc ?_ (by first | omega | (simp; done) | (simp; omega)) _ | with_reducible refine below_drewN ?_ _ | with_reducible refine Below.drew ?_ | with_reducible refine Below.setCell ?_ (by first | omega | (simp; done) | (simp; omega)) _ | with_reducible refine Below.trans ?_ (Below.mono hb9 (by first | omega | (simp; done) | (simp; omega)))))))
      go_wp2
      go_roundw
      case rel => exact ⟨k + 1, by omega, by go_num, hbw.trans (st9.mono z0)⟩
      case measure => simp [intOf]; omega
    · obtain rfl : k = m := by omega
      go_wp2
      go_ret
      exact ⟨rfl, hbw⟩
end Go.Proofs.Ytaelaldgohppeaa
