/-
  A transaction's copies, comparisons and marks (the Exact laws' own functions).
-/
import Derived.Test.YtaelaldgohppeaaSame
import Derived.Test.YtaelaldgohppeaaSameK
import Derived.Test.YtaelaldgohppeaaT3
import Derived.Test.YtaelaldgohppeaaDT
import Derived.Deep.RegionHeld3
namespace Go.Proofs.Ytaelaldgohppeaa
open Go.RowKit
set_option linter.unusedVariables false

/-- What a copy of puts holds when k of them have been copied. -/
def partP (ps : List (Int × Int)) (k : Nat) : List (Int × Int) := ps.take k ++ List.replicate (ps.length - k) (0, 0)
theorem partP_zero (ps : List (Int × Int)) : partP ps 0 = List.replicate ps.length (0, 0) := by simp [partP]
theorem partP_all (ps : List (Int × Int)) (k : Nat) (h : ps.length ≤ k) : partP ps k = ps := by simp [partP, List.take_of_length_le h, show ps.length - k = 0 by omega]
theorem partP_set (ps : List (Int × Int)) (k : Nat) (p : Int × Int) (h : k < ps.length) (hs : ps.take (k + 1) = ps.take k ++ [p]) : (partP ps k).set k p = partP ps (k + 1) := by
  unfold partP
  rw [hs, List.set_append_right _ _ (by simp; omega)]
  have e1 : k - (ps.take k).length = 0 := by simp; omega
  rw [e1, show ps.length - k = (ps.length - (k + 1)) + 1 by omega, List.replicate_succ, List.set_cons_zero, List.append_assoc, List.singleton_append]
def RetPuts (ps : List (Int × Int)) (w : World) (e : Ending) (w' : World) : Prop := ∃ A n c, e = .returned (.slice A n c) ∧ OwnP w' w.heap.size A n c ps ∧ Below w.heap.size w w'
theorem toPut_any (x y : Int) (w : World) : Calls Try.prog 93 #[.agg #[.int .i64 x, .int .i64 y]] w fun e w' => e = .returned (.agg #[.int .i64 x, .int .i64 y]) ∧ Below w.heap.size w w' := by
  go_enter Try.func93, Try.ntmps93
  go_wp2_with fail
  exact bodyPost_ret (v := .agg #[.int .i64 x, .int .i64 y]) (by simp [results, Try.results93, go_sem]) rfl ⟨rfl, (by repeat' (first | with_reducible exact Below.refl _ _ | with_reducible assumption | with_reducible refine Below.setCell ?_ (by first | omega | (simp; done) | (simp; omega)) _ | with_reducible refine Below.alloc ?_ (by first | omega | (simp; done) | (simp; omega)) _ | with_reducible refine below_drewN ?_ _ | with_reducible refine Below.drew ?_ | (with_reducible refine Below.trans ?_ (Below.mono (by with_reducible assumption) (by first | omega | (simp; done) | (simp; omega))))))⟩
set_option maxHeartbeats 1000000 in
theorem toPutS_r (A : Option Addr) (n c : Nat) (ps : List (Int × Int)) (w : World) (hr : Puts w w.heap.size A n ps) (hn : n ≤ 1048576) :
    Calls Try.prog 78 #[.slice A n c] w (RetPuts ps w) := by
  have hlx := Lib.hid hr.len
  go_enter Try.func78, Try.ntmps78
  go_wp2_with (at_make; refine mknP rfl _ _ rfl w.heap.size _ _ _ _ n rfl rfl rfl rfl (by omega) (Nat.le_refl _) ?_; intro w1 hown1 hg1)
  have hb1 : Below w.heap.size w w1 := (Below.refl _ _).grown hg1 (Nat.le_refl _) (by simp)
  go_loopw [4] (fun i wr => ∃ k : Nat, k ≤ n ∧ i = .int .i64 k ∧ OwnP wr w.heap.size (some ⟨w.heap.size, 0, none⟩) n n (partP ps k) ∧ Below w.heap.size w wr) (fun i _ => n - (intOf i).toNat)
  case atStart => exact ⟨0, Nat.zero_le _, rfl, by rw [partP_zero, hlx.out]; exact hown1, hb1⟩
  case round =>
    obtain ⟨k, hk, rfl, hown, hbw⟩ := hrel
    clear hown1 hg1 hb1
    by_cases hlt : k < n
    · obtain ⟨ad, x, y, rfl, hb, hc0, hc1, hc2, hc3, hc4, hx1, hs⟩ := (hr.below hbw).el hlt
      go_wp2_with fail
      refine (toPut_any x y _).mono ?_
      rintro e w2 ⟨rfl, hb2⟩
      have hown2 := hown.below hb2
      have hbw2 := hbw.trans (hb2.mono hbw.size)
      obtain ⟨u, v, q1, q2, q3, q4⟩ := RowP.cellsAt (b := w.heap.size) (e := w2.heap.size) ⟨hown2, fun j hj => (hown2.lt hj).2⟩ hlt
      clear hown hbw hb2 hc0 hc1 hc2 hc3 hc4
      go_wp2_with fail
      go_roundw
      case rel =>
        refine ⟨k + 1, by omega, by go_num, ?_, (hbw2.setCell (Nat.le_refl _) _).setCell (Nat.le_refl _) _⟩
        rw [← partP_set ps k (x, y) (by rw [hlx.out]; exact hlt) hs.out]
        exact (RowP.stored (b := w.heap.size) (e := w2.heap.size) ⟨hown2, fun j hj => (hown2.lt hj).2⟩ k x y).1
      case measure => simp [intOf]; omega
    · have : k = n := by omega
      subst this
      go_wp2
      go_ret
      exact ⟨_, _, _, rfl, by rw [partP_all ps k (by rw [hlx.out]; exact Nat.le_refl _)] at hown; exact hown, hbw⟩
/-- A transaction in memory of the call's own. -/
def RetTx (rs : List Int) (nd : Int) (ps : List (Int × Int)) (w : World) (e : Ending) (w' : World) : Prop :=
  ∃ A n c B m d, e = .returned (.agg #[.slice A n c, .int .i64 nd, .slice B m d]) ∧ Own w' w.heap.size A n c rs ∧ OwnP w' w.heap.size B m d ps ∧ Below w.heap.size w w'
set_option maxHeartbeats 1000000 in
theorem toTxn_r (A : Option Addr) (n c : Nat) (nd : Int) (B : Option Addr) (m d : Nat) (rs : List Int) (ps : List (Int × Int)) (w : World) (hr : Ints w w.heap.size A n rs) (hp : Puts w w.heap.size B m ps) (hn : n ≤ 1048576) (hm : m ≤ 1048576) :
    Calls Try.prog 44 #[.agg #[.slice A n c, .int .i64 nd, .slice B m d]] w (RetTx rs nd ps w) := by
  have b1 := ((Blk.new w 42 #[.slice A n c, .int .i64 nd, .slice B m d]).alloc (.cells #[.slice none 0 0, .int .i64 0, .slice none 0 0] 47)).alloc (.cells #[.slice none 0 0, .int .i64 0, .slice none 0 0] 47)
  have b2 := (Blk.new (w.alloc (.cells #[.slice A n c, .int .i64 nd, .slice B m d] 42)) 47 #[.slice none 0 0, .int .i64 0, .slice none 0 0]).alloc (.cells #[.slice none 0 0, .int .i64 0, .slice none 0 0] 47)
  have b3 := Blk.new ((w.alloc (.cells #[.slice A n c, .int .i64 nd, .slice B m d] 42)).alloc (.cells #[.slice none 0 0, .int .i64 0, .slice none 0 0] 47)) 47 #[.slice none 0 0, .int .i64 0, .slice none 0 0]
  simp only [World.size_alloc] at b2 b3
  have B0 : Below w.heap.size w (((w.alloc (.cells #[.slice A n c, .int .i64 nd, .slice B m d] 42)).alloc (.cells #[.slice none 0 0, .int .i64 0, .slice none 0 0] 47)).alloc (.cells #[.slice none 0 0, .int .i64 0, .slice none 0 0] 47)) := (by repeat' (first | with_reducible exact Below.refl _ _ | with_reducible assumption | with_reducible refine Below.setCell ?_ (by first | omega | (simp; done) | (simp; omega)) _ | with_reducible refine Below.alloc ?_ (by first | omega | (simp; done) | (simp; omega)) _ | with_reducible refine below_drewN ?_ _ | with_reducible refine Below.drew ?_ | (with_reducible refine Below.trans ?_ (Below.mono (by with_reducible assumption) (by first | omega | (simp; done) | (simp; omega))))))
  have z0 : (((w.alloc (.cells #[.slice A n c, .int .i64 nd, .slice B m d] 42)).alloc (.cells #[.slice none 0 0, .int .i64 0, .slice none 0 0] 47)).alloc (.cells #[.slice none 0 0, .int .i64 0, .slice none 0 0] 47)).heap.size = w.heap.size + 3 := by simp
  generalize hW : ((w.alloc (.cells #[.slice A n c, .int .i64 nd, .slice B m d] 42)).alloc (.cells #[.slice none 0 0, .int .i64 0, .slice none 0 0] 47)).alloc (.cells #[.slice none 0 0, .int .i64 0, .slice none 0 0] 47) = W at b1 b2 b3 B0 z0
  have f1 := b1.three
  have f3 := b3.three
  go_enter Try.func44, Try.ntmps44
  go_wp2_with fail
  refine (toIntS_r A n c rs W (hr.up B0 B0.size) hn).mono ?_
  rintro e w2 ⟨A2, n2, c2, rfl, o2, hb2⟩
  have z2 : w.heap.size + 3 ≤ w2.heap.size := by have := hb2.size; omega
  have d1 := b1.below hb2 b1.lt
  have d2 := b2.below hb2 b2.lt
  have d3 := b3.below hb2 b3.lt
  have B2 := B0.trans (hb2.mono B0.size)
  clear b1 b2 b3 f1 f3 B0
  have g1 := d1.three
  have g3 := d3.three
  go_wp2_with fail
  have d1' : Blk _ w.heap.size 42 #[.slice A n c, .int .i64 nd, .slice B m d] := (d1.far (p := ⟨w.heap.size + 1 + 1, 0, none⟩) (by simp; omega) (.slice A2 n2 c2)).far (p := ⟨w.heap.size + 1 + 1, 1, none⟩) (by simp; omega) (.int .i64 nd)
  have d2' : Blk _ (w.heap.size + 1) 47 #[.slice none 0 0, .int .i64 0, .slice none 0 0] := (d2.far (p := ⟨w.heap.size + 1 + 1, 0, none⟩) (by simp) (.slice A2 n2 c2)).far (p := ⟨w.heap.size + 1 + 1, 1, none⟩) (by simp) (.int .i64 nd)
  have d3' : Blk _ (w.heap.size + 1 + 1) 47 #[.slice A2 n2 c2, .int .i64 nd, .slice none 0 0] := (d3.set_ 0 (.slice A2 n2 c2)).set_ 1 (.int .i64 nd)
  have o2' : Own _ (w.heap.size + 3) A2 n2 c2 rs := ((o2.mono (base' := w.heap.size + 3) (by omega)).setBelow (p := ⟨w.heap.size + 1 + 1, 0, none⟩) (by simp) (.slice A2 n2 c2)).setBelow (p := ⟨w.heap.size + 1 + 1, 1, none⟩) (by simp) (.int .i64 nd)
  have B2' : Below w.heap.size w _ := (B2.setCell (p := ⟨w.heap.size + 1 + 1, 0, none⟩) (by simp; omega) (.slice A2 n2 c2)).setCell (p := ⟨w.heap.size + 1 + 1, 1, none⟩) (by simp; omega) (.int .i64 nd)
  have z3 : ((w2.setCell ⟨w.heap.size + 1 + 1, 0, none⟩ (.slice A2 n2 c2)).setCell ⟨w.heap.size + 1 + 1, 1, none⟩ (.int .i64 nd)).heap.size = w2.heap.size := by simp
  generalize hW3 : (w2.setCell ⟨w.heap.size + 1 + 1, 0, none⟩ (.slice A2 n2 c2)).setCell ⟨w.heap.size + 1 + 1, 1, none⟩ (.int .i64 nd) = W3 at d1' d2' d3' o2' B2' z3 ⊢
  clear g1 g3 d1 d2 d3 o2 B2
  refine (toPutS_r B m d ps W3 (hp.up B2' B2'.size) hm).mono ?_
  rintro e w4 ⟨A4, n4, c4, rfl, o4, hb4⟩
  have z4 := hb4.size
  have e2 := d2'.below hb4 d2'.lt
  have e3 := d3'.below hb4 d3'.lt
  have o5 := o2'.below hb4
  have o6 := o4.mono (base' := w.heap.size + 3) (by omega)
  have B4 := B2'.trans (hb4.mono B2'.size)
  have g2 := e2.three
  have g3 := e3.three
  have k1 : ∀ k, blk A2 = some k → k ≠ w.heap.size + 1 := fun k hk e => by have := (o5.lt hk).1; omega
  have k1' : ∀ k, blk A2 = some k → k ≠ w.heap.size + 1 + 1 := fun k hk e => by have := (o5.lt hk).1; omega
  have k2 : ∀ k, blk A4 = some k → k ≠ w.heap.size + 1 := fun k hk e => by have := (o6.lt hk).1; omega
  have k2' : ∀ k, blk A4 = some k → k ≠ w.heap.size + 1 + 1 := fun k hk e => by have := (o6.lt hk).1; omega
  go_wp2_with fail
  exact bodyPost_ret (v := .agg #[.slice A2 n2 c2, .int .i64 nd, .slice A4 n4 c4]) (by simp [results, Try.results44, go_sem, g2]) rfl
    ⟨A2, n2, c2, A4, n4, c4, rfl, ((((o5.setCell k1' _).setCell k1 _).setCell k1 _).setCell k1 _).mono (by omega), ((((o6.setCell k2' _).setCell k2 _).setCell k2 _).setCell k2 _).mono (by omega), (((B4.setCell (by simp; omega) _).setCell (by simp) _).setCell (by simp) _).setCell (by simp) _⟩
end Go.Proofs.Ytaelaldgohppeaa
