/-
  The draws of a transaction's laws.
-/
import Derived.Test.YtaelaldgohppeaaDT2
namespace Go.Proofs.Ytaelaldgohppeaa
open Go.RowKit
set_option linter.unusedVariables false

/-- A transaction is drawn into memory of the call's own. -/
def DrewTx (w : World) (e : Ending) (w' : World) : Prop :=
  ∃ A1 n1 c1 nd A2 n2 c2 rs ps, e = .returned (.agg #[.slice A1 n1 c1, .int .i64 nd, .slice A2 n2 c2]) ∧ Own w' w.heap.size A1 n1 c1 rs ∧ OwnP w' w.heap.size A2 n2 c2 ps ∧ n1 ≤ 16 ∧ n2 ≤ 16 ∧ Below w.heap.size w w'
/-- A state and a transaction are. -/
def DrewA (w : World) (e : Ending) (w' : World) : Prop :=
  ∃ A n c xs A1 n1 c1 nd A2 n2 c2 rs ps, e = .returned (.tuple #[.slice A n c, .agg #[.slice A1 n1 c1, .int .i64 nd, .slice A2 n2 c2]]) ∧ Own w' w.heap.size A n c xs ∧ n ≤ 15 ∧ Own w' w.heap.size A1 n1 c1 rs ∧ OwnP w' w.heap.size A2 n2 c2 ps ∧ n1 ≤ 16 ∧ n2 ≤ 16 ∧ Below w.heap.size w w'
set_option maxHeartbeats 1000000 in
theorem drawTG_any (A : Option Addr) (n c : Nat) (bs : List Int) (w : World) (hb : Bytes w w.heap.size A n bs) (hn : n ≤ 1048576) (hc : n ≤ c) (hc' : c ≤ 9223372036854775807) :
    Calls Try.prog 47 #[.slice A n c] w (DrewTx w) := by
  have z0 := Blk.new w 47 #[.slice none 0 0, .int .i64 0, .slice none 0 0]
  have hb0 := hb.up (.cells #[.slice none 0 0, .int .i64 0, .slice none 0 0] 47)
  have B0 : Below w.heap.size w (w.alloc (.cells #[.slice none 0 0, .int .i64 0, .slice none 0 0] 47)) := (by repeat' (first | with_reducible exact Below.refl _ _ | with_reducible assumption | with_reducible refine Below.setCell ?_ (by first | omega | (simp; done) | (simp; omega)) _ | with_reducible refine Below.alloc ?_ (by first | omega | (simp; done) | (simp; omega)) _ | with_reducible refine below_drewN ?_ _ | with_reducible refine Below.drew ?_ | (with_reducible refine Below.trans ?_ (Below.mono (by with_reducible assumption) (by first | omega | (simp; done) | (simp; omega))))))
  have s0 : (w.alloc (.cells #[.slice none 0 0, .int .i64 0, .slice none 0 0] 47)).heap.size = w.heap.size + 1 := by simp
  generalize hW0 : w.alloc (.cells #[.slice none 0 0, .int .i64 0, .slice none 0 0] 47) = W0 at z0 hb0 B0 s0
  go_enter Try.func47, Try.ntmps47
  go_wp2_with fail
  refine (open_any _ _ _ _ _ hb0 hn hc hc').mono ?_
  rintro e w1 ⟨g, rfl, hr1, hg1, hb1⟩
  have hgl := hr1.lt
  have B1 := B0.trans (hb1.mono B0.size)
  have z1 := z0.below hb1 z0.lt
  go_wp2_with fail
  refine (l92Txn_any _ g 0 _ hr1 (by omega) (by omega)).mono ?_
  rintro e w2 ⟨A1, n1, c1, nd, A2, n2, c2, rs, ps, p', rfl, o1, o2, hn1, hn2, hr2, hp1, hp2, hgr, hbl⟩
  have z2 := z1.below hbl (by omega)
  have f2 := z2.three
  have l2 := z2.lt
  have k1 : ∀ k, blk A1 = some k → k ≠ w.heap.size := fun k hk e => by have := (o1.lt hk).1; omega
  have k2 : ∀ k, blk A2 = some k → k ≠ w.heap.size := fun k hk e => by have := (o2.lt hk).1; omega
  have B2 : Below w.heap.size w w2 := B1.trans (hbl.mono (by omega))
  go_wp2_with fail
  exact bodyPost_ret (v := .agg #[.slice A1 n1 c1, .int .i64 nd, .slice A2 n2 c2]) (by simp [results, Try.results47, go_sem, f2]) rfl
    ⟨A1, n1, c1, nd, A2, n2, c2, rs, ps, rfl, (((o1.setCell k1 _).setCell k1 _).setCell k1 _).mono (by omega), (((o2.setCell k2 _).setCell k2 _).setCell k2 _).mono (by omega), hn1, hn2, ((B2.setCell (by simp) _).setCell (by simp) _).setCell (by simp) _⟩
set_option maxHeartbeats 1000000 in
theorem drawTA_any (A : Option Addr) (n c : Nat) (bs : List Int) (w : World) (hb : Bytes w w.heap.size A n bs) (hn : n ≤ 1048576) (hc : n ≤ c) (hc' : c ≤ 9223372036854775807) :
    Calls Try.prog 52 #[.slice A n c] w (DrewA w) := by
  have z0 := Blk.new w 47 #[.slice none 0 0, .int .i64 0, .slice none 0 0]
  have hb0 := hb.up (.cells #[.slice none 0 0, .int .i64 0, .slice none 0 0] 47)
  have B0 : Below w.heap.size w (w.alloc (.cells #[.slice none 0 0, .int .i64 0, .slice none 0 0] 47)) := (by repeat' (first | with_reducible exact Below.refl _ _ | with_reducible assumption | with_reducible refine Below.setCell ?_ (by first | omega | (simp; done) | (simp; omega)) _ | with_reducible refine Below.alloc ?_ (by first | omega | (simp; done) | (simp; omega)) _ | with_reducible refine below_drewN ?_ _ | with_reducible refine Below.drew ?_ | (with_reducible refine Below.trans ?_ (Below.mono (by with_reducible assumption) (by first | omega | (simp; done) | (simp; omega))))))
  have s0 : (w.alloc (.cells #[.slice none 0 0, .int .i64 0, .slice none 0 0] 47)).heap.size = w.heap.size + 1 := by simp
  generalize hW0 : w.alloc (.cells #[.slice none 0 0, .int .i64 0, .slice none 0 0] 47) = W0 at z0 hb0 B0 s0
  go_enter Try.func52, Try.ntmps52
  go_wp2_with fail
  refine (open_any _ _ _ _ _ hb0 hn hc hc').mono ?_
  rintro e w1 ⟨g, rfl, hr1, hg1, hb1⟩
  have hgl := hr1.lt
  have B1 := B0.trans (hb1.mono B0.size)
  have z1 := z0.below hb1 z0.lt
  go_wp2_with fail
  refine (l92State_any _ g 0 _ hr1 (by omega) (by omega)).mono ?_
  rintro e w3 ⟨A3, n3, c3, xs, p3, rfl, o3, hn3, hr3, hp31, hp32, hgr3, hbl3⟩
  have z3 := z1.below hbl3 (by omega)
  have B3 : Below w.heap.size w w3 := B1.trans (hbl3.mono (by omega))
  have s3 := hgr3.size
  have hgl3 := hr3.lt
  go_wp2_with fail
  refine (l92Txn_any _ g p3 _ hr3 (by omega) (by omega)).mono ?_
  rintro e w2 ⟨A1, n1, c1, nd, A2, n2, c2, rs, ps, p', rfl, o1, o2, hn1, hn2, hr2, hp1, hp2, hgr, hbl⟩
  have z2 := z3.below hbl (by omega)
  have f2 := z2.three
  have l2 := z2.lt
  have o4 := o3.kept hgr (fun k hk e => by injection e with e; have := (o3.lt hk).1; omega)
  have k1 : ∀ k, blk A1 = some k → k ≠ w.heap.size := fun k hk e => by have := (o1.lt hk).1; omega
  have k2 : ∀ k, blk A2 = some k → k ≠ w.heap.size := fun k hk e => by have := (o2.lt hk).1; omega
  have k4 : ∀ k, blk A3 = some k → k ≠ w.heap.size := fun k hk e => by have := (o3.lt hk).1; omega
  have B2 : Below w.heap.size w w2 := B3.trans (hbl.mono (by omega))
  go_wp2_with fail
  exact bodyPost_ret (v := .tuple #[.slice A3 n3 c3, .agg #[.slice A1 n1 c1, .int .i64 nd, .slice A2 n2 c2]]) (by simp [results, Try.results52, go_sem, f2]) rfl
    ⟨A3, n3, c3, xs, A1, n1, c1, nd, A2, n2, c2, rs, ps, rfl, (((o4.setCell k4 _).setCell k4 _).setCell k4 _).mono (by omega), hn3, (((o1.setCell k1 _).setCell k1 _).setCell k1 _).mono (by omega), (((o2.setCell k2 _).setCell k2 _).setCell k2 _).mono (by omega), hn1, hn2, ((B2.setCell (by simp) _).setCell (by simp) _).setCell (by simp) _⟩
end Go.Proofs.Ytaelaldgohppeaa
