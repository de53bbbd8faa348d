/-
  The walk of FnExactStoreJoin: the law returns true and writes nothing that was there.
-/
import Derived.Test.YtaelaldgohppeaaSSz
import Derived.Test.YtaelaldgohppeaaSSq
import Derived.Test.YtaelaldgohppeaaSSt
import Derived.Test.YtaelaldgohppeaaSSm
import Derived.Test.YtaelaldgohppeaaSJ
namespace Go.Proofs.Ytaelaldgohppeaa
open Go.RowKit
set_option linter.unusedVariables false

theorem tot_one {R : List (Option Addr × Nat × Nat)} {k : Nat} {r : Option Addr × Nat × Nat} (h : R[k]? = some r) : (r.2.1 : Int) ≤ tot R := by
  have h1 := tot_next h
  have h2 := tot_take_le R (k + 1)
  have h3 := tot_nonneg (R.take k)
  omega
theorem IntSS.lens {w : World} {B n : Nat} {A : Option Addr} {R : List (Option Addr × Nat × Nat)} {xss : List (List Int)} (h : IntSS w B A n R xss) {T : Nat} (hT : tot R ≤ (T : Int)) : ∀ (k : Nat) (xs : List Int), xss[k]? = some xs → xs.length ≤ T := by
  intro k xs hk
  have hlt : k < n := by rw [← h.len]; exact (List.getElem?_eq_some_iff.1 hk).1
  obtain ⟨_, r, ys, _, _, _, hr, hy, _, _, hi⟩ := h.elem hlt
  rw [hk] at hy
  obtain rfl := Option.some.inj hy
  have h1 := tot_one hr
  have h2 := hi.len
  omega
/-- The lengths' sum is told by the lists. -/
theorem tot_of_lens : ∀ {R : List (Option Addr × Nat × Nat)} {xss : List (List Int)}, R.length = xss.length → (∀ (k : Nat) (r : Option Addr × Nat × Nat) (xs : List Int), R[k]? = some r → xss[k]? = some xs → r.2.1 = xs.length) → tot R = (xss.map fun xs => (xs.length : Int)).sum
  | [], [], _, _ => by simp [tot]
  | r :: R, x :: xss, hl, h => by
    have h0 := h 0 r x (by simp) (by simp)
    have ih := tot_of_lens (R := R) (xss := xss) (by simpa using hl) (fun k r' x' h1 h2 => h (k + 1) r' x' (by simpa using h1) (by simpa using h2))
    simp only [tot, List.map_cons, List.sum_cons, ih, h0]
  | [], _ :: _, hl, _ => by simp at hl
  | _ :: _, [], hl, _ => by simp at hl
theorem IntSS.tot_eq {w : World} {B n : Nat} {A : Option Addr} {R : List (Option Addr × Nat × Nat)} {xss : List (List Int)} (h : IntSS w B A n R xss) : tot R = (xss.map fun xs => (xs.length : Int)).sum :=
  tot_of_lens (by rw [h.rlen, h.len]) (fun k r xs hr hx => ((h.2.2 k r xs hr hx).2.len).symm)
theorem sjL_len (xss : List (List Int)) : (sjL xss).length ≤ 15 := by unfold sjL; split <;> simp [fillP]

set_option maxHeartbeats 4000000 in
theorem exStoreJoin_walk (A0 : Option Addr) (n0 c0 : Nat) (R0 : List (Option Addr × Nat × Nat)) (xss0 : List (List Int)) (w : World) (hn0 : n0 ≤ 9223372036854775807) (hx0 : IntSS w w.heap.size A0 n0 R0 xss0) :
    Calls Try.prog 6 #[.slice A0 n0 c0] w fun e w' => e = .returned (.bool true) ∧ Below w.heap.size w w' := by
  rcases Int.lt_or_le 1048576 ((n0 : Int) + tot R0) with hsz | hsz
  · go_enter Try.func6, Try.ntmps6
    go_wp2_with fail
    refine (szIntSS_no _ _ _ _ R0 xss0 _ _ hx0 (by omega) (by omega) hn0 hsz).mono ?_
    rintro e w1 ⟨rfl, rfl⟩
    go_wp2
    go_ret
    exact ⟨rfl, Below.refl _ _⟩
  have ht0 := tot_nonneg R0
  have HL := Lib.hid (hx0.lens (T := 1048576) (by omega))
  have HM : Hid (∀ (k : Nat) (xs : List Int), xss0[k]? = some xs → xs.length ≤ 9223372036854775807) := Lib.hid (fun k xs h => by have := HL.out k xs h; omega)
  have TE := Lib.hid hx0.tot_eq
  have LE := Lib.hid hx0.len
  have hn : n0 ≤ 1048576 := by omega
  have hL1 : (sjL xss0).length ≤ 1048576 := by have := sjL_len xss0; omega
  go_enter Try.func6, Try.ntmps6
  go_wp2_with fail
  refine (szIntSS_yes _ _ _ _ R0 xss0 _ _ hx0 (by omega) hsz).mono ?_
  rintro e w0 ⟨rfl, rfl⟩
  go_wp2_with fail
  refine (toIntSS_r A0 n0 c0 R0 xss0 _ hx0 hn HL.out).mono ?_
  rintro e w1 ⟨Aa, na, ca, Ra, rfl, oa, hb1⟩
  have la : na ≤ 1048576 := by have := oa.len; have := LE.out; omega
  have B1 := hb1
  have z1 := hb1.size
  go_wp2_with fail
  have ra := oa.reads (Nat.le_refl _) HM.out
  refine (specSJ_any Aa na ca Ra xss0 _ ra (by omega)).mono ?_
  rintro e w2 ⟨Aw, nw, cw, rfl, ow, hb2⟩
  have B2 := B1.trans (hb2.mono z1)
  have z2 := hb2.size
  replace ow := rowI ow
  go_wp2_with fail
  refine (toIntSS_r A0 n0 c0 R0 xss0 _ (hx0.up B2 B2.size) hn HL.out).mono ?_
  rintro e w3 ⟨Ax, nx, cx, Rx, rfl, ox, hb3⟩
  have lx : nx ≤ 1048576 := by have := ox.len; have := LE.out; omega
  have B3 := B2.trans (hb3.mono B2.size)
  have z3 := hb3.size
  replace ow := ow.keep (same_of_below hb3 (Nat.le_refl _))
  have tx : tot Rx ≤ tot R0 := by have h1 := (ox.reads (Nat.le_refl _) HM.out).tot_eq; have := TE.out; omega
  go_wp2_with fail
  refine (implSJ_any Ax nx cx Rx xss0 _ (ox.reads (Nat.le_refl _) HM.out) (by omega)).mono ?_
  rintro e w4 ⟨Ag, ng, cg, rfl, og, hb4⟩
  have B4 := B3.trans (hb4.mono B3.size)
  have z4 := hb4.size
  replace og := rowI og
  replace ow := ow.keep (same_of_below hb4 (by omega))
  replace ox := ox.keep (same_of_below hb4 (Nat.le_refl _))
  have lg : ng ≤ 1048576 := by have := og.len; omega
  have lw : nw ≤ 1048576 := by have := ow.len; omega
  go_wp2_with fail
  refine (eqIntS_same _ _ _ _ _ _ (sjL xss0) _ (og.ints (by omega)) (ow.ints (by omega)) lg lw).mono ?_
  rintro e w5 ⟨rfl, hb5⟩
  have B5 := B4.trans (hb5.mono B4.size)
  have z5 := hb5.size
  replace ow := ow.keep (same_of_below hb5 (by omega))
  replace ox := ox.keep (same_of_below hb5 (by omega))
  replace og := og.keep (same_of_below hb5 (by omega))
  go_wp2_with fail
  refine (toIntSS_r A0 n0 c0 R0 xss0 _ (hx0.up B5 B5.size) hn HL.out).mono ?_
  rintro e w6 ⟨Ay, ny, cy, Ry, rfl, oy, hb6⟩
  have B6 := B5.trans (hb6.mono B5.size)
  have z6 := hb6.size
  replace ow := ow.keep (same_of_below hb6 (by omega))
  replace ox := ox.keep (same_of_below hb6 (by omega))
  replace og := og.keep (same_of_below hb6 (by omega))
  go_wp2_with fail
  refine (eqIntSS_same _ _ _ _ _ _ Rx Ry xss0 _ (ox.reads (by omega) HM.out) (oy.reads (by omega) HM.out) HL.out (by omega)).mono ?_
  rintro e w7 ⟨rfl, d7, rfl⟩
  clear oy
  go_wp2_with fail
  refine (markIntSS_t Ax nx cx w2.heap.size w3.heap.size Rx xss0 1 (w6.drewN d7) (ox.keep (Same.drewN w6 d7)) (by simp; omega) (by omega) (by omega) (by omega) (by omega)).mono ?_
  rintro e w8 ⟨rfl, ox8, t8⟩
  have z8 : w6.heap.size ≤ w8.heap.size := by have := t8.size; simpa using this
  have B8 : Below w.heap.size w w8 := (below_drewN B6 d7).trans (t8.below (by omega) (by simp; omega))
  have og8 := RowI.keep (RowI.drewN1 og d7) (t8.same (by simp; omega) (by omega))
  have ow8 := RowI.keep (RowI.drewN1 ow d7) (t8.same (by simp; omega) (by omega))
  clear og ow ox
  have ht1 : 0 ≤ tot Rx := tot_nonneg Rx
  go_wp2_with fail
  refine (eqIntS_same _ _ _ _ _ _ (sjL xss0) _ (og8.ints (by omega)) (ow8.ints (by omega)) lg lw).mono ?_
  rintro e w9 ⟨rfl, hb9⟩
  have B9 := B8.trans (hb9.mono B8.size)
  have z9 := hb9.size
  have og9 := og8.keep (same_of_below hb9 (by omega))
  have ow9 := ow8.keep (same_of_below hb9 (by omega))
  clear og8 ow8
  go_wp2_with fail
  refine (markIntS_t Ag ng cg w3.heap.size w4.heap.size (sjL xss0) 1 w9 og9 (by omega) (by omega) lg).mono ?_
  rintro e w10 ⟨rfl, og10, t10⟩
  have z10 := t10.size
  have B10 : Below w.heap.size w w10 := B9.trans (t10.below (by omega) (by omega))
  have ow10 := ow9.keep (t10.same (by omega) (by omega))
  clear og9 ow9
  go_wp2_with fail
  refine (heldIntS_v Ag ng cg 1 w10 (og10.ints (by omega)) (by omega) (by omega) lg).mono ?_
  rintro e w11 ⟨rfl, hb11⟩
  have B11 := B10.trans (hb11.mono B10.size)
  have z11 := hb11.size
  have og11 := og10.keep (same_of_below hb11 (by omega))
  have ow11 := ow10.keep (same_of_below hb11 (by omega))
  clear og10 ow10
  go_wp2_with fail
  refine (toIntSS_r A0 n0 c0 R0 xss0 _ (hx0.up B11 B11.size) hn HL.out).mono ?_
  rintro e w12 ⟨Ab, nb, cb, Rb, rfl, ob, hb12⟩
  have lb : nb ≤ 1048576 := by have := ob.len; have := LE.out; omega
  have B12 := B11.trans (hb12.mono B11.size)
  have z12 := hb12.size
  have og12 := og11.keep (same_of_below hb12 (by omega))
  have ow12 := ow11.keep (same_of_below hb12 (by omega))
  clear og11 ow11
  go_wp2_with fail
  refine (implSJ_any Ab nb cb Rb xss0 _ (ob.reads (Nat.le_refl _) HM.out) lb).mono ?_
  rintro e w13 ⟨Ah, nh, ch, rfl, oh, hb13⟩
  have B13 := B12.trans (hb13.mono B12.size)
  have z13 := hb13.size
  have lh : nh ≤ 1048576 := by have := oh.len; omega
  have og13 := og12.keep (same_of_below hb13 (by omega))
  have ow13 := ow12.keep (same_of_below hb13 (by omega))
  clear og12 ow12
  go_wp2_with fail
  refine (eqIntS_same _ _ _ _ _ _ (sjL xss0) _ oh.ints (ow13.ints (by omega)) lh lw).mono ?_
  rintro e w14 ⟨rfl, hb14⟩
  have B14 := B13.trans (hb14.mono B13.size)
  have z14 := hb14.size
  have og14 := og13.keep (same_of_below hb14 (by omega))
  clear og13 ow13
  go_wp2_with fail
  refine (heldIntS_v Ag ng cg 1 w14 (og14.ints (by omega)) (by omega) (by omega) lg).mono ?_
  rintro e w15 ⟨rfl, hb15⟩
  go_wp2
  go_ret
  exact ⟨rfl, B14.trans (hb15.mono B14.size)⟩
end Go.Proofs.Ytaelaldgohppeaa
