/-
  markCredits, heldCredits.
-/
import Derived.Test.YtehgipbedlamaaaHX
namespace Go.Proofs.Ytehgipbedlamaaa
open Go.RowKit
set_option linter.unusedVariables false

theorem mkHs_get (k : Int) (L : List Nat) (j : Nat) {m : Nat} (h : L[j]? = some m) : (mkHs k L)[j]? = some ⟨marks (k + mkN (L.take j)) m, k + mkN (L.take j) + m⟩ ∧ mkN (L.take (j + 1)) = mkN (L.take j) + m + 1 := by
  have hl := (List.getElem?_eq_some_iff.1 h).1
  have he := (List.getElem?_eq_some_iff.1 h).2
  have hs : L = L.take j ++ m :: L.drop (j + 1) := by
    rw [← he, ← List.drop_eq_getElem_cons hl, List.take_append_drop]
  have ht : L.take (j + 1) = L.take j ++ [m] := by rw [List.take_succ_eq_append_getElem hl, he]
  have hlen : (mkHs k (L.take j)).length = j := by rw [mkHs_length, List.length_take]; omega
  refine ⟨?_, by rw [ht, mkN_append]; simp [mkN]; omega⟩
  have e : mkHs k L = mkHs k (L.take j) ++ mkHs (k + mkN (L.take j)) (m :: L.drop (j + 1)) := by rw [← mkHs_append, ← hs]
  rw [e, List.getElem?_append_right (by omega), hlen, Nat.sub_self]
  rfl
set_option maxHeartbeats 4000000 in
theorem heldHS_any (A : Option Addr) (n c : Nat) (R : List HR) (L : List Nat) (k : Int) (w : World) (hx : HoldS w w.heap.size A n R (mkHs k L)) (h0 : 0 ≤ k) (hk : k ≤ 2097152) (hT : mkN L ≤ 4194304) (hn : n ≤ 1048576) :
    Calls Try.prog 56 #[.slice A n c, .int .i64 k] w (RetV (.int .i64 (k + mkN L)) w) := by
  have HLn := Lib.hid (show L.length = n by rw [← hx.l, mkHs_length])
  have t0 := mkN_nonneg L
  go_enter Try.func56, Try.ntmps56
  go_wp2_with fail
  go_loopw [1, 5] (fun q i wr => ∃ (j : Nat) (x : Int), j ≤ n ∧ i = .int .i64 j ∧ q = .int .i64 (k + x) ∧ 0 ≤ x ∧ x ≤ 4194304 ∧ Hid (x = mkN (L.take j)) ∧ w = wr) (fun _ i _ => n - (intOf i).toNat)
  case atStart => exact ⟨0, 0, Nat.zero_le _, rfl, by simp, by omega, by omega, Lib.hid (by simp [mkN]), rfl⟩
  case round =>
    obtain ⟨j, x, hj, rfl, rfl, hx0, hx1, hxe, rfl⟩ := hrel
    by_cases hlt : j < n
    · obtain ⟨ad, A1, n1, c1, v, xs, rfl, hb, hc0, hc1, hc2, hc3, hi, l1, ht1, hts, hR⟩ := hx.el hlt
      have gj : (j : Int) < (n : Int) := by omega
      obtain ⟨m, hm⟩ : ∃ m, L[j]? = some m := ⟨L[j]'(by rw [HLn.out]; exact hlt), List.getElem?_eq_getElem _⟩
      have HG := Lib.hid (mkHs_get k L j hm)
      obtain ⟨e1, e2⟩ : xs = marks (k + x) m ∧ v = k + x + m := by
        have h1 := HG.out.1
        rw [ht1.out, ← hxe.out] at h1
        injection h1 with h1
        injection h1 with h1 h2
        exact ⟨h1, h2⟩
      subst e1
      obtain rfl : m = n1 := by have h1 := hi.len; rw [marks_length] at h1; exact h1
      subst e2
      have hle : x + (m : Int) + 1 ≤ 4194304 := by
        have h1 := HG.out.2
        have h2 := mkN_take_le L (j + 1)
        have h3 := hxe.out
        omega
      have hw1 : IntKind.i64.wrap (k + x + (m : Int) + 1) = k + x + (m : Int) + 1 := IntWalk.i64_in _ (by omega)
      have hneg : ¬ (k + x + (m : Int) < 0) := by omega
      have hvv : (k + x + (m : Int) != k + x + (m : Int)) = false := by simp
      clear hm
      go_wp2_with (go_at_call 55; refine (heldIntS_any A1 m c1 w.heap.size (k + x) _ hi (by omega) (by omega) l1).mono ?_; rintro e w9 ⟨rfl, rfl⟩)
      go_roundw
      case rel => exact ⟨j + 1, x + (m : Int) + 1, by omega, by go_num, by go_num, by omega, by omega, Lib.hid (by rw [HG.out.2, hxe.out]), by simp⟩
      case measure => first | (simp [intOf]; done) | (simp [intOf]; omega)
    · obtain rfl : n = j := by omega
      have he : x = mkN L := by have h := hxe.out; rwa [List.take_of_length_le (by rw [HLn.out]; exact Nat.le_refl _)] at h
      subst he
      go_wp2_with fail
      go_ret
      exact ⟨rfl, Below.refl _ _⟩
set_option maxHeartbeats 4000000 in
theorem heldC_any (F : Option Addr) (nf cf : Nat) (A : Option Addr) (n c : Nat) (R : List HR) (L : List Nat) (k : Int) (w : World) (hc : Cr w w.heap.size F nf A n R ⟨marks k nf, mkHs (k + nf) L⟩) (h0 : 0 ≤ k) (hk : k + nf ≤ 2097152) (hT : mkN L ≤ 4194304) (hnf : nf ≤ 1048576) (hn : n ≤ 1048576) :
    Calls Try.prog 26 #[.agg #[.slice F nf cf, .slice A n c], .int .i64 k] w (RetV (.int .i64 (k + nf + mkN L)) w) := by
  have b0 := Blk.new w 26 #[.slice F nf cf, .slice A n c]
  have X0 := hc.box (.cells #[.slice F nf cf, .slice A n c] 26)
  have B0 : Below w.heap.size w (w.alloc (.cells #[.slice F nf cf, .slice A n c] 26)) := (Below.refl _ _).alloc (Nat.le_refl _) _
  have z0 := B0.size
  generalize hW : w.alloc (.cells #[.slice F nf cf, .slice A n c] 26) = W at b0 X0 B0 z0
  have f0 := b0.two
  have t0 := mkN_nonneg L
  have hn1 : ¬ (k + (nf : Int) < 0) := by omega
  have hn2 : ¬ (k + (nf : Int) + mkN L < 0) := by omega
  clear hc
  go_enter Try.func26, Try.ntmps26
  go_wp2_with (first
    | (go_at_call 55; refine (heldIntS_any F nf cf W.heap.size k _ X0.f (by omega) (by omega) hnf).mono ?_; rintro e w9 ⟨rfl, rfl⟩)
    | (go_at_call 56; refine (heldHS_any A n c R L (k + nf) _ X0.h (by omega) (by omega) hT hn).mono ?_; rintro e w9 ⟨rfl, hb9⟩))
  go_ret
  exact ⟨rfl, B0.trans (hb9.mono z0)⟩
set_option maxHeartbeats 4000000 in
theorem markC_any (F A : Option Addr) (nf cf n c base : Nat) (R : List HR) (cx : CX) (k : Int) (w : World) (ho : OwnC w base F nf cf A n c R cx) (h0 : 0 ≤ k) (hk : k + nf ≤ 2097152) (hT : mkN (lensH cx.holds) ≤ 4194304) (hnf : nf ≤ 1048576) (hn : n ≤ 1048576) :
    Calls Try.prog 25 #[.agg #[.slice F nf cf, .slice A n c], .int .i64 k] w fun e w' => e = .returned (.int .i64 (k + nf + mkN (lensH cx.holds))) ∧
      ∃ R', OwnC w' base F nf cf A n c R' ⟨marks k nf, mkHs (k + nf) (lensH cx.holds)⟩ ∧ Wrote (IsRow F A R) w w' ∧ ∀ j, IsRow F A R' j → IsRow F A R j := by
  have b0 := Blk.new w 26 #[.slice F nf cf, .slice A n c]
  have o0 := ho.alloc (.cells #[.slice F nf cf, .slice A n c] 26)
  have B0 : Wrote (IsRow F A R) w (w.alloc (.cells #[.slice F nf cf, .slice A n c] 26)) := Wrote.of_below ((Below.refl _ _).alloc (Nat.le_refl _) _)
  generalize hW : w.alloc (.cells #[.slice F nf cf, .slice A n c] 26) = W at b0 o0 B0
  have f0 := b0.two
  clear ho
  go_enter Try.func25, Try.ntmps25
  go_wp2_with fail
  refine (markIntS_any F nf cf base cx.free k W o0.f (by omega) (by omega) hnf).mono ?_
  rintro e w2 ⟨rfl, o2, hg2⟩
  have oi := o0.free' hg2 o2
  have hw2 := B0.trans (Wrote.of_grown hg2 (fun g hg => .inl hg))
  have b2 := b0.grown hg2 (fun e => own_ne_box o0.f b0 (by decide) e.symm)
  have f2 := b2.two
  clear hW f0
  go_wp2_with fail
  refine (markHS_any F A nf cf n c base R _ (k + nf) w2 oi (by omega) (by omega) hT hn).mono ?_
  rintro e w3 ⟨rfl, R', o3, hw3, hr3⟩
  go_wp2_with fail
  go_ret
  exact ⟨rfl, R', o3, hw2.trans hw3, hr3⟩
end Go.Proofs.Ytehgipbedlamaaa
