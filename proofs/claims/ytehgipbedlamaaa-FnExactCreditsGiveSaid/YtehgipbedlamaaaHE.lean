/-
  waiters, the program's.
-/
import Derived.Test.YtehgipbedlamaaaHD
namespace Go.Proofs.Ytehgipbedlamaaa
open Go.RowKit
set_option linter.unusedVariables false

/-- The first waiter from the j-th sender on. -/
def FwAt (w : World) (hs : List HX) (g : Int) (j n : Nat) (p : Value) : Prop :=
  (p = .pointer none ∧ ∀ k, j ≤ k → k < n → (hAt hs k).wait ≠ g) ∨
  (∃ (q m : Nat) (y : Value), p = .pointer (some ⟨q, 0, none⟩) ∧ Blk w q 60 #[.int .i64 m, y] ∧ j ≤ m ∧ m < n ∧ (hAt hs m).wait = g ∧ ∀ k, j ≤ k → k < m → (hAt hs k).wait ≠ g)
theorem FwAt.below {w w' : World} {hs : List HX} {g : Int} {j n : Nat} {p : Value} (h : FwAt w hs g j n p) (hb : Below w.heap.size w w') : FwAt w' hs g j n p := by
  rcases h with h | ⟨q, m, y, h1, h2, h3⟩
  · exact .inl h
  · exact .inr ⟨q, m, y, h1, h2.below hb h2.lt, h3⟩
theorem FwAt.skip {w : World} {hs : List HX} {g : Int} {j n : Nat} {p : Value} (h : FwAt w hs g (j + 1) n p) (hne : (hAt hs j).wait ≠ g) : FwAt w hs g j n p := by
  rcases h with ⟨h1, h2⟩ | ⟨q, m, y, h1, h2, h3, h4, h5, h6⟩
  · refine .inl ⟨h1, fun k hk hn => ?_⟩
    rcases Nat.eq_or_lt_of_le hk with rfl | e
    · exact hne
    · exact h2 k e hn
  · refine .inr ⟨q, m, y, h1, h2, by omega, h4, h5, fun k hk hn => ?_⟩
    rcases Nat.eq_or_lt_of_le hk with rfl | e
    · exact hne
    · exact h6 k e hn
def RetFw (hs : List HX) (g : Int) (w : World) (e : Ending) (w' : World) : Prop :=
  Below w.heap.size w w' ∧ ((e = .returned (.pointer none) ∧ firstW hs g = none) ∨ ∃ (q m : Nat) (y : Value), e = .returned (.pointer (some ⟨q, 0, none⟩)) ∧ Blk w' q 60 #[.int .i64 m, y] ∧ firstW hs g = some m)
set_option maxHeartbeats 4000000 in
theorem waiters_any (F : Option Addr) (nf cf : Nat) (A : Option Addr) (n c : Nat) (R : List HR) (cx : CX) (g : Int) (w : World) (hc : Cr w w.heap.size F nf A n R cx) (hn : n ≤ 1048576) :
    Calls Try.prog 35 #[.agg #[.slice F nf cf, .slice A n c], .int .i64 g] w (RetFw cx.holds g w) := by
  have b0 := Blk.new w 26 #[.slice F nf cf, .slice A n c]
  have X0 := hc.box (.cells #[.slice F nf cf, .slice A n c] 26)
  have B0 : Below w.heap.size w (w.alloc (.cells #[.slice F nf cf, .slice A n c] 26)) := (Below.refl _ _).alloc (Nat.le_refl _) _
  have z0 : w.heap.size ≤ (w.alloc (.cells #[.slice F nf cf, .slice A n c] 26)).heap.size := by simp
  have hnl := Lib.hid hc.h.l
  generalize hW : w.alloc (.cells #[.slice F nf cf, .slice A n c] 26) = W at b0 X0 B0 z0
  have f0 := b0.two
  have hw : IntKind.i64.wrap ((n : Int) - 1) = (n : Int) - 1 := IntWalk.i64_in _ (by omega)
  clear hc
  go_enter Try.func35, Try.ntmps35
  go_wp2_with fail
  go_loopw [5, 6] (fun p i wr => ∃ (j : Nat) (i' : Int) (P : Option Addr), p = .pointer P ∧ j ≤ n ∧ i = .int .i64 i' ∧ i' + 1 = (j : Int) ∧ Below W.heap.size W wr ∧ FwAt wr cx.holds g j n (.pointer P)) (fun _ i _ => (intOf i + 1).toNat)
  case atStart => exact ⟨n, (n : Int) - 1, _, rfl, Nat.le_refl _, rfl, by omega, Below.refl _ _, .inl ⟨rfl, fun k h1 h2 => by omega⟩⟩
  case round =>
    obtain ⟨j, i', P, rfl, hj, rfl, hij, hbw, hp⟩ := hrel
    have HB : Below w.heap.size w wr := B0.trans (hbw.mono (by omega))
    have b := b0.below hbw b0.lt
    have f := b.two
    clear f0
    obtain _ | j := j
    · have hp' := Lib.hid hp
      clear hp
      have hi1 : i' = -1 := by omega
      subst hi1
      go_wp2_with fail
      go_ret
      refine ⟨HB, ?_⟩
      rcases hp'.out with ⟨h0, h2⟩ | ⟨q, m, y, h0, h2, h3, h4, h5, h6⟩
      all_goals injection h0 with h0; subst h0
      · exact .inl ⟨rfl, firstW_none.2 fun k hk => h2 k (Nat.zero_le _) (by rw [← hnl.out]; exact hk)⟩
      · exact .inr ⟨q, m, y, rfl, h2, firstW_mk (by rw [hnl.out]; exact h4) h5 fun k hk => h6 k (Nat.zero_le _) hk⟩
    · obtain rfl : i' = (j : Int) := by omega
      have X := X0.up hbw hbw.size
      obtain ⟨ad, A1, n1, c1, v, xs, rfl, hbb, hc0, hc1, hc2, hc3, hi, hn1, hk1, hs1, hR1⟩ := X.h.el (k := j) (by omega)
      have HT := Lib.hid (hAt_of hk1.out)
      have HP := Lib.hid hp
      have gj : (j : Int) < (n : Int) := by omega
      have hw2 : IntKind.i64.wrap ((j : Int) - 1) = (j : Int) - 1 := IntWalk.i64_in _ (by omega)
      clear hp
      by_cases hv : v = g
      · have hv' : (v == g) = true := by simp [hv]
        have HV := Lib.hid hv
        clear hv
        go_wp2_with fail
        go_roundw
        case rel => exact ⟨j, (j : Int) - 1, _, rfl, by omega, rfl, by omega, hbw.alloc hbw.size _, .inr ⟨_, j, _, rfl, Blk.new wr _ _, Nat.le_refl _, by omega, by rw [HT.out]; exact HV.out, fun k h1 h2 => by omega⟩⟩
        case measure => first | (simp [intOf]; done) | (simp [intOf]; omega)
      · have hv' : (v == g) = false := by simp [hv]
        have HV := Lib.hid hv
        clear hv
        go_wp2_with fail
        go_roundw
        case rel => exact ⟨j, (j : Int) - 1, _, rfl, by omega, rfl, by omega, hbw, HP.out.skip (by rw [HT.out]; exact HV.out)⟩
        case measure => first | (simp [intOf]; done) | (simp [intOf]; omega)
end Go.Proofs.Ytehgipbedlamaaa
