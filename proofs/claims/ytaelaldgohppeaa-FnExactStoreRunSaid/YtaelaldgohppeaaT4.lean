/-
  Contracts: the program's transaction (a closure that fills a map), and TxnApply.
-/
import Derived.Test.YtaelaldgohppeaaT2
import Derived.Test.YtaelaldgohppeaaT3
import Derived.Maps.OwnOps
import Derived.Maps.Views
namespace Go.Proofs.Ytaelaldgohppeaa
open Go.RowKit Go.Maps
set_option linter.unusedVariables false

/-- What the map of a state's values holds behind k stores. -/
def mapD (xs : List Int) : Nat → DataW Unit
  | 0 => .map []
  | k + 1 => (mapD xs k).put (.int .i64 k) (.lit (.int .i64 (xs.getD k 0)))
theorem mapD_isMap (xs : List Int) : ∀ k, IsMap (mapD xs k)
  | 0 => isMap_empty
  | k + 1 => (mapD_isMap xs k).put _ _
theorem mapD_at (xs : List Int) : ∀ (k j : Nat), j < k → (mapD xs k).atKey (.int .i64 j) (.lit (.int .i64 0)) = .lit (.int .i64 (xs.getD j 0))
  | 0, _, h => by omega
  | k + 1, j, h => by
    show ((mapD xs k).put _ _).atKey _ _ = _
    by_cases e : j = k
    · subst e; exact atKey_put_same (mapD_isMap xs j) (show WideAt.IsKeyLit (.int .i64 j) from trivial) _ _
    · rw [atKey_put_other (fun h => by injection h with _ h; omega)]
      exact mapD_at xs k j (by omega)
theorem mapD_val {xs : List Int} {k : Nat} {x c : Int} (h0 : 0 ≤ x) (hx : x.toNat < k) (hat : (mapD xs k).atKey (.int .i64 x) (.lit (.int .i64 0)) = .lit (.int .i64 c)) : xs.getD x.toNat 0 = c := by
  have h := mapD_at xs k x.toNat hx
  rw [show ((x.toNat : Nat) : Int) = x by omega, hat] at h
  injection h with h
  injection h with _ h
  exact h.symm
theorem lawI : Keyed Try.prog 3 := int_keyed Try.underlying3
theorem zeroI (w : World) : (zeroValue 3).run Try.prog w = .ok (.int .i64 0) w := by kernel_rfl
theorem wfI {x : Int} (h0 : -1000 ≤ x) (h1 : x ≤ 1000000) : (Lit.int .i64 x).wf = true := WalkArith.wf_i64 (by omega)
/-- A call hands back a list in memory of its own and a bool. -/
def RetIB (L : List Int) (b : Bool) (w : World) (e : Ending) (w' : World) : Prop :=
  ∃ A n c, e = .returned (.tuple #[.slice A n c, .bool b]) ∧ Own w' w.heap.size A n c L ∧ Below w.heap.size w w'
theorem ownsMap_below {w w' : World} {b n : Nat} {D : DataW Unit} (h : w.ownsMap Try.prog 3 (plainElem Try.prog 3) b n D) (hb : Below w.heap.size w w') : w'.ownsMap Try.prog 3 (plainElem Try.prog 3) b n D :=
  h.kept (row := none) ⟨hb.os, hb.tape, hb.output, hb.size, fun k hk _ => hb.block k hk⟩ (by simp)
theorem ownsMap_set {w : World} {b n : Nat} {D : DataW Unit} (h : w.ownsMap Try.prog 3 (plainElem Try.prog 3) b n D) {p : Addr} (hp : b ≠ p.block) (u : Value) : (w.setCell p u).ownsMap Try.prog 3 (plainElem Try.prog 3) b n D :=
  h.kept (row := some p.block) ⟨rfl, rfl, rfl, by simp, fun i _ hi => Below.heap_setCell w _ _ i (fun e => hi (by rw [e]))⟩ (by simp; exact hp)
theorem ret_ib {v : Value} {a b : Bool} (h : a = b) : Ending.returned (.tuple #[v, .bool a]) = .returned (.tuple #[v, .bool b]) := by rw [h]
set_option maxHeartbeats 8000000 in
theorem trans1_any (g : Nat) (A : Option Addr) (n c : Nat) (A1 : Option Addr) (n1 c1 : Nat) (nd : Int) (A2 : Option Addr) (n2 c2 : Nat) (xs rs : List Int) (ps : List (Int × Int)) (w : World)
    (b : Blk w g 47 #[.slice A1 n1 c1, .int .i64 nd, .slice A2 n2 c2]) (hx : Ints w w.heap.size A n xs) (hr : Ints w w.heap.size A1 n1 rs) (hp : Puts w w.heap.size A2 n2 ps) (hs : svB xs = true) (ht : tvB ⟨rs, nd, ps⟩ = true) :
    Calls Try.prog 97 #[.slice A n c, .pointer (some ⟨g, 0, none⟩)] w (RetIB (tstep xs ⟨rs, nd, ps⟩) (tOk xs ⟨rs, nd, ps⟩) w) := by
  have HS := Lib.hid hs
  have HT := Lib.hid ht
  have TV := Lib.hid (tv_iff.1 ht)
  have HX := Lib.hid hx.len
  have HR := Lib.hid hr.len
  have HP := Lib.hid hp.len
  obtain rfl : n = 15 := by rw [← HX.out]; exact sv_len hs
  have l1 : n1 ≤ 15 := by have := HR.out; have := TV.out.rl; simp at this; omega
  have l2 : n2 ≤ 15 := by have := HP.out; have := TV.out.pl; simp at this; omega
  have gl := b.lt
  clear hs ht
  have hmm := @run_makeMap Try.prog
  go_enter Try.func97, Try.ntmps97
  go_wp2_with fail
  go_loopw [17] (fun i wr => ∃ k : Nat, k ≤ 15 ∧ i = .int .i64 k ∧ wr.ownsMap Try.prog 3 (plainElem Try.prog 3) w.heap.size k (mapD xs k) ∧ Below w.heap.size w wr) (fun i _ => 15 - (intOf i).toNat)
  case atStart => exact ⟨0, Nat.zero_le _, rfl, World.ownsMap_made _ _ _ _, (Below.refl _ _).alloc (Nat.le_refl _) _⟩
  case round =>
    obtain ⟨k, hk, rfl, hown, hbw⟩ := hrel
    have z := hbw.size
    by_cases hlt : k < 15
    · obtain ⟨ad, x, rfl, hb, hc, hx1, hs1⟩ := (hx.below hbw).elem hlt
      have hv : xs.getD k 0 = x := by rw [List.getD_eq_getElem?_getD, hx1.out]; rfl
      have hr9 := sv_getD HS.out k
      rw [hv] at hr9
      have HV := Lib.hid hv
      clear hv
      go_wp2_with (first
        | (at_mapUpdate; refine wpList_mapUpdate_own _ rfl _ _ _ 100 rfl 3 3 lawI Try.underlying100 _ w.heap.size k _ rfl hown (by unfold maxLen; omega) _ _ _ rfl rfl (keyOf_int_mk Try.underlying3 (wfI (by omega) (by omega))) _ [] (plainElem_int Try.underlying3 (wfI (by omega) (by omega))) ?_; intro w1 hown1 hgrow1)
        | go_in)
      go_roundw
      case rel => exact ⟨k + 1, by omega, by go_num, by rw [mapD, HV.out]; exact hown1, hbw.grown hgrow1 z (fun j hj => by cases hj; exact Nat.le_refl _)⟩
      case measure => simp [intOf]; omega
    · have hown15 : wr.ownsMap Try.prog 3 (plainElem Try.prog 3) w.heap.size 15 (mapD xs 15) := by
        have e : k = 15 := by omega
        subst e; exact hown
      have hlt' : ¬ ((k : Int) < 15) := by omega
      clear hown
      rename wr.ownsMap Try.prog 3 (plainElem Try.prog 3) w.heap.size 15 (mapD xs 15) => hown
      generalize (k : Int) = kI at hlt'
      have b1 := b.below hbw gl
      have f1 := b1.three
      have R1 := hr.below hbw
      have P1 := hp.below hbw
      have X1 := hx.below hbw
      have ml := hown.lt
      clear hlt hk
      obtain ⟨W0, rfl⟩ : ∃ W0, W0 = wr := ⟨_, rfl⟩
      go_wp2_with fail
      go_loopw [8, 29] (fun s i wv => ∃ k : Nat, k ≤ n1 ∧ i = .int .i64 k ∧ s = .int .i64 (sumR xs (rs.take k)) ∧ wv = W0) (fun _ i _ => n1 - (intOf i).toNat)
      case atStart => exact ⟨0, Nat.zero_le _, rfl, by simp [sumR], rfl⟩
      case round =>
        obtain ⟨k, hk, rfl, rfl, rfl⟩ := hrel
        have hsb := sumR_bound HS.out (rs.take k)
        have hsl : (rs.take k).length ≤ 15 := by simp; omega
        generalize hS : sumR xs (rs.take k) = S at *
        have HSS := Lib.hid hS
        have s0 : 0 ≤ S := hsb.1
        have s9 : S ≤ 14985 := by omega
        clear hS hsb hsl
        by_cases hlt : k < n1
        · obtain ⟨ad, x, rfl, hb, hc, hx1, hs1⟩ := R1.elem hlt
          have hxr := TV.out.rk x (List.mem_of_getElem? hx1.out)
          obtain ⟨hx0, hx14⟩ := hxr
          go_wp2_with (first
            | (at_lookup; refine wpList_lookup_own_int _ rfl _ _ 100 rfl 3 3 .i64 lawI Try.underlying100 Try.underlying3 (zeroI _) w.heap.size 15 _ rfl hown _ _ rfl (keyOf_int_mk Try.underlying3 (wfI (by omega) (by omega))) ?_; intro v hat hwc; have hv := mapD_val hx0 (by omega) hat; have hv9 := sv_getD HS.out x.toNat; rw [hv] at hv9; obtain ⟨v0, v9⟩ := hv9; have HV := Lib.hid hv; clear hv hat hwc)
            | go_in)
          go_roundw
          case rel => exact ⟨k + 1, by omega, by go_num, by rw [hs1.out, sumR_snoc, HSS.out, HV.out], by simp⟩
          case measure => simp [intOf]; omega
        · obtain rfl : k = n1 := by omega
          have HQ : Hid (sumR xs rs = S) := by
            rw [List.take_of_length_le (by rw [HR.out]; exact Nat.le_refl _)] at HSS
            exact HSS
          clear HSS hlt hk
          go_wp2_with fail
          refine (clone_any A 15 c w.heap.size xs _ X1 z (by omega)).mono ?_
          rintro e w4 ⟨A4, n4, c4, rfl, o4, hb4⟩
          obtain rfl : n4 = 15 := by have h1 := o4.len; rw [HX.out] at h1; omega
          obtain ⟨g4, rfl, hg1, hg2⟩ := o4.form (by omega)
          have hown4 := ownsMap_below hown hb4
          have B4 := hbw.trans (hb4.mono z)
          have b4 := b1.below hb4 b1.lt
          have f4 := b4.three
          have z4 := hb4.size
          clear f1 b1 R1 P1 X1 hown
          obtain ⟨W1, rfl⟩ : ∃ W1, W1 = wr := ⟨_, rfl⟩
          go_wp2_with fail
          go_loopw [44] (fun i wq => ∃ k : Nat, k ≤ n2 ∧ i = .int .i64 k ∧ wq.ownsMap Try.prog 3 (plainElem Try.prog 3) w.heap.size 15 (mapD xs 15) ∧ Own wq W1.heap.size (some ⟨g4, 0, none⟩) 15 c4 (putL xs (ps.take k)) ∧ Below w.heap.size w wq) (fun i _ => n2 - (intOf i).toNat)
          case atStart => exact ⟨0, Nat.zero_le _, rfl, hown4, by simpa [putL] using o4, B4⟩
          case round =>
            clear hown4 o4 B4 b4 f4
            obtain ⟨k, hk, rfl, hown, ho, hbq⟩ := hrel
            have zq := hbq.size
            have gq := (ho.lt (k := g4) rfl).2
            by_cases hlt : k < n2
            · obtain ⟨ad, x, y, rfl, hb, hc0, hc1, hc2, hc3, hc4, hx1, hs1⟩ := (hp.below hbq).el hlt
              have hmem := List.mem_of_getElem? hx1.out
              obtain ⟨hx0, hx14⟩ := TV.out.pk _ hmem
              obtain ⟨hy0, hy9⟩ := TV.out.a _ hmem
              simp only at hx0 hx14 hy0 hy9
              obtain ⟨X, rfl⟩ := Int.eq_ofNat_of_zero_le hx0
              have hcl := ho.cellAt (k := X) (by omega)
              have X15 : X < 15 := by omega
              clear hmem
              go_wp2_with (first
                | (at_lookup; refine wpList_lookup_own_int _ rfl _ _ 100 rfl 3 3 .i64 lawI Try.underlying100 Try.underlying3 (zeroI _) w.heap.size 15 _ rfl (hown.alloc _) _ _ rfl (keyOf_int_mk Try.underlying3 (wfI (by omega) (by omega))) ?_; intro v hat hwc; have hv := mapD_val hx0 (by omega) hat; have hv9 := sv_getD HS.out ((X : Int)).toNat; rw [hv] at hv9; obtain ⟨v0, v9⟩ := hv9; have HV := Lib.hid hv; clear hv hat hwc)
                | go_in)
              go_roundw
              case rel => exact ⟨k + 1, by omega, by go_num, (ownsMap_set hown (by simp; omega) _).alloc _, by rw [hs1.out, putL_snoc]; have h1 := HV.out; simp only [Int.toNat_natCast] at h1 ⊢; rw [h1]; exact (ho.stored X (v + y)).alloc _, (hbq.setCell (by simp; omega) _).alloc (by simpa using zq) _⟩
              case measure => simp [intOf]; omega
            · obtain rfl : k = n2 := by omega
              have ho' : Own wr W1.heap.size (some ⟨g4, 0, none⟩) 15 c4 (addL xs ps) := by
                rw [List.take_of_length_le (by rw [HP.out]; exact Nat.le_refl _), putL_eq HX.out (fun p hp => (TV.out.pk p hp).1)] at ho
                exact ho
              have b5 := b.below hbq gl
              have f5 := b5.three
              have hxq := hx.below hbq
              have zr := z
              clear ho hown hlt hk
              by_cases hl2 : S < nd
              · have e1 := Lib.hid (ok_less (t := ⟨rs, nd, ps⟩) (st := xs) (by show sumR xs rs < nd; rw [HQ.out]; exact hl2))
                go_wp2_with fail
                refine (clone_any A 15 c w.heap.size xs _ hxq zq (by omega)).mono ?_
                rintro e w5 ⟨A5, n5, c5, rfl, o5, hb5⟩
                go_wp2
                go_ret2
                exact ⟨A5, n5, c5, ret_ib e1.out.symm, by simp only [tstep, e1.out]; exact o5.mono zq, hbq.trans (hb5.mono zq)⟩
              · go_wp2_with fail
                refine (implStoreValid_any _ 15 c4 _ (addL xs ps) _ ho'.ints (by omega)).mono ?_
                rintro e w' ⟨rfl, rfl⟩
                cases hv : svB (addL xs ps)
                · have e1 : Hid (tOk xs ⟨rs, nd, ps⟩ = false) := Lib.hid (by simp only [tOk, ← sv_addL, hv, Bool.and_false])
                  go_wp2_with fail
                  refine (clone_any A 15 c w.heap.size xs _ hxq zq (by omega)).mono ?_
                  rintro e w5 ⟨A5, n5, c5, rfl, o5, hb5⟩
                  go_wp2
                  go_ret2
                  exact ⟨A5, n5, c5, ret_ib e1.out.symm, by simp only [tstep, e1.out]; exact o5.mono zq, hbq.trans (hb5.mono zq)⟩
                · have e1 : Hid (tOk xs ⟨rs, nd, ps⟩ = true) := Lib.hid (by
                    have : nd ≤ sumR xs rs := by rw [HQ.out]; omega
                    simp only [tOk, ← sv_addL, hv, Bool.and_true, decide_eq_true_eq]; exact this)
                  go_wp2
                  go_ret2
                  exact ⟨_, 15, c4, ret_ib e1.out.symm, by simp only [tstep, e1.out, if_true]; exact ho'.mono zr, hbq⟩
end Go.Proofs.Ytaelaldgohppeaa
