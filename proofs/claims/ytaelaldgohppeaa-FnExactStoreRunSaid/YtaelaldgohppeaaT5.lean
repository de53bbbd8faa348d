/-
  Contracts: TxnApply, the program's and the reference's.
-/
import Derived.Test.YtaelaldgohppeaaT4
namespace Go.Proofs.Ytaelaldgohppeaa
open Go.RowKit
set_option linter.unusedVariables false

theorem trans_any (a b c : Value) (w : World) : Calls Try.prog 88 #[.agg #[a, b, c]] w fun e w' => e = .returned (.func (.func 97) #[] #[.pointer (some ⟨w.heap.size, 0, none⟩)]) ∧ w' = w.alloc (.cells #[a, b, c] 47) := by
  go_enter Try.func88, Try.ntmps88
  go_wp2
  go_ret
  exact ⟨rfl, rfl⟩
theorem RetIB.no {xs : List Int} {t : TX} {w w' : World} {A : Option Addr} {c : Nat} (h : (svB xs && tvB t) = false) (ho : Own w' w.heap.size A 0 c []) (hb : Below w.heap.size w w') : RetIB (taL xs t) (taB xs t) w (.returned (.tuple #[.slice A 0 c, .bool false])) w' := by
  obtain ⟨e1, e2⟩ := taL_nil h
  rw [e1, e2]
  exact ⟨A, 0, c, rfl, ho, hb⟩
set_option maxHeartbeats 2000000 in
theorem implTA_any (A : Option Addr) (n c : Nat) (A1 : Option Addr) (n1 c1 : Nat) (nd : Int) (A2 : Option Addr) (n2 c2 : Nat) (xs rs : List Int) (ps : List (Int × Int)) (w : World)
    (hx : Ints w w.heap.size A n xs) (hr : Ints w w.heap.size A1 n1 rs) (hp : Puts w w.heap.size A2 n2 ps) (hn : n ≤ 1048576) (hn1 : n1 ≤ 1048576) (hn2 : n2 ≤ 1048576) :
    Calls Try.prog 53 #[.slice A n c, .agg #[.slice A1 n1 c1, .int .i64 nd, .slice A2 n2 c2]] w (RetIB (taL xs ⟨rs, nd, ps⟩) (taB xs ⟨rs, nd, ps⟩) w) := by
  have S0 := Seen.start (T := 47) (c := c1) (d := c2) (nd := nd) hr hp
  have hX := hx.alloc (Nat.le_refl _) (.cells #[.slice A1 n1 c1, .int .i64 nd, .slice A2 n2 c2] 47)
  have z0 : w.heap.size ≤ (w.alloc (.cells #[.slice A1 n1 c1, .int .i64 nd, .slice A2 n2 c2] 47)).heap.size := by simp
  generalize hW : w.alloc (.cells #[.slice A1 n1 c1, .int .i64 nd, .slice A2 n2 c2] 47) = W at S0 z0 hX
  have f0 := S0.b.three
  clear hr hp hx
  cases hs : svB xs
  · go_enter Try.func53, Try.ntmps53
    go_wp2_with fail
    refine (implStoreValid_any _ _ _ _ xs _ hX hn).mono ?_
    rintro e w1 ⟨rfl, rfl⟩
    rw [hs]
    go_wp2
    go_ret2
    exact RetIB.no (by rw [hs]; rfl) (Own.nil _ _) S0.bl
  have HS := Lib.hid hs
  go_enter Try.func53, Try.ntmps53
  go_wp2_with fail
  refine (implStoreValid_any _ _ _ _ xs _ hX hn).mono ?_
  rintro e w1 ⟨rfl, rfl⟩
  rw [hs]
  clear hs
  go_wp2_with fail
  refine (implTV_any _ _ _ nd _ _ _ rs ps W (S0.r.more z0) (S0.p.more z0) hn1 hn2).mono ?_
  rintro e w1 ⟨rfl, hb1⟩
  have S1 := S0.step hb1
  have hX1 := hX.below (hb1.mono z0)
  have f1 := S1.b.three
  clear S0 f0 hX hb1 z0 hW
  cases hv : tvB ⟨rs, nd, ps⟩
  · go_wp2
    go_ret2
    exact RetIB.no (by rw [hv, Bool.and_false]) (Own.nil _ _) S1.bl
  have HV := Lib.hid hv
  clear hv
  go_wp2_with fail
  refine (trans_any _ _ _ _).mono ?_
  rintro e w2 ⟨rfl, rfl⟩
  have S2 := S1.alloc (.cells #[.slice A1 n1 c1, .int .i64 nd, .slice A2 n2 c2] 47)
  have hX2 := hX1.alloc S1.bl.size (.cells #[.slice A1 n1 c1, .int .i64 nd, .slice A2 n2 c2] 47)
  have b2 := Blk.new w1 47 #[.slice A1 n1 c1, .int .i64 nd, .slice A2 n2 c2]
  clear f1
  go_wp2_with fail
  refine (trans1_any w1.heap.size A n c A1 n1 c1 nd A2 n2 c2 xs rs ps _ b2 (hX2.more S2.bl.size) (S2.r.more S2.bl.size) (S2.p.more S2.bl.size) HS.out HV.out).mono ?_
  rintro e w3 ⟨A3, n3, c3, rfl, o3, hb3⟩
  go_wp2
  go_ret2
  obtain ⟨e1, e2⟩ := taL_step HS.out HV.out
  rw [e1, e2]
  exact ⟨A3, n3, c3, rfl, o3.mono S2.bl.size, S2.bl.trans (hb3.mono S2.bl.size)⟩
theorem Ints.atD {w : World} {B n : Nat} {ad : Addr} {xs : List Int} (h : Ints w B (some ad) n xs) {k : Nat} (hk : k < n) : w.cell? (ad.add k) = some (.int .i64 (xs.getD k 0)) ∧ ad.block < B := by
  obtain ⟨ad', hA, hb, hc⟩ := h.at_ hk
  obtain rfl : ad = ad' := by injection hA
  exact ⟨hc, hb⟩
theorem RetIB.last {xs rs : List Int} {nd S : Int} {ps : List (Int × Int)} {w w' : World} {A : Option Addr} {n c b : Nat} (hs : svB xs = true) (ht : tvB ⟨rs, nd, ps⟩ = true) (hS : S = sumR xs rs) (hin : ∀ p ∈ ps, inB (xs.getD p.1.toNat 0 + p.2) 0 999 = true) (hor : ps = [] ∨ nd ≤ sumR xs rs)
    (ho : Own w' b A n c (addL xs ps)) (hb : w.heap.size ≤ b) (hB : Below w.heap.size w w') : RetIB (tstep xs ⟨rs, nd, ps⟩) (tOk xs ⟨rs, nd, ps⟩) w (.returned (.tuple #[.slice A n c, .bool (decide (nd ≤ S))])) w' := by
  subst hS
  by_cases h : nd ≤ sumR xs rs
  · have e := ok_all (t := ⟨rs, nd, ps⟩) hs ht h hin
    refine ⟨A, n, c, ret_ib (by rw [e]; simp [h]), ?_, hB⟩
    simp only [tstep, e, if_true]
    exact ho.mono hb
  · have e := ok_less (t := ⟨rs, nd, ps⟩) (st := xs) (by show sumR xs rs < nd; omega)
    refine ⟨A, n, c, ret_ib (by rw [e]; simp [h]), ?_, hB⟩
    have e2 : ps = [] := hor.resolve_right h
    subst e2
    have e3 : addL xs [] = xs := by rw [← putL_eq (sv_iff.1 hs).1 (fun p hp => by cases hp)]; rfl
    rw [e3] at ho
    simp only [tstep, e]
    exact ho.mono hb
set_option maxHeartbeats 8000000 in
theorem l31Apply_any (A : Option Addr) (n c : Nat) (A1 : Option Addr) (n1 c1 : Nat) (nd : Int) (A2 : Option Addr) (n2 c2 : Nat) (xs rs : List Int) (ps : List (Int × Int)) (w : World)
    (hx : Ints w w.heap.size A n xs) (hr : Ints w w.heap.size A1 n1 rs) (hp : Puts w w.heap.size A2 n2 ps) (hs : svB xs = true) (ht : tvB ⟨rs, nd, ps⟩ = true) :
    Calls Try.prog 89 #[.slice A n c, .agg #[.slice A1 n1 c1, .int .i64 nd, .slice A2 n2 c2]] w (RetIB (tstep xs ⟨rs, nd, ps⟩) (tOk xs ⟨rs, nd, ps⟩) w) := by
  have HS := Lib.hid hs
  have HT := Lib.hid ht
  have TV := Lib.hid (tv_iff.1 ht)
  have HX := Lib.hid hx.len
  have HR := Lib.hid hr.len
  have HP := Lib.hid hp.len
  obtain rfl : n = 15 := by rw [← HX.out]; exact sv_len hs
  have l1 : n1 ≤ 15 := by have := HR.out; have := TV.out.rl; simp at this; omega
  have l2 : n2 ≤ 15 := by have := HP.out; have := TV.out.pl; simp at this; omega
  clear hs ht
  have S0 := Seen.start (T := 47) (c := c1) (d := c2) (nd := nd) hr hp
  have hX := hx.alloc (Nat.le_refl _) (.cells #[.slice A1 n1 c1, .int .i64 nd, .slice A2 n2 c2] 47)
  have z0 : (w.alloc (.cells #[.slice A1 n1 c1, .int .i64 nd, .slice A2 n2 c2] 47)).heap.size = w.heap.size + 1 := by simp
  generalize hW : w.alloc (.cells #[.slice A1 n1 c1, .int .i64 nd, .slice A2 n2 c2] 47) = W at S0 z0 hX
  have f0 := S0.b.three
  clear hr hp hx
  go_enter Try.func89, Try.ntmps89
  go_wp2_with (at_builtin; refine app1 (xs := []) (n := 0) (c := 0) rfl _ _ rfl W.heap.size rfl (by (refine Own.lit0 ?_ ?_ <;> first | omega | (simp; done) | (simp; omega))) w.heap.size _ _ _ xs rfl (hX.alloc (by omega) _) (by omega) (by simp) ?_; intro A4 c4 w4 o4 hg4 at4; simp only [Nat.zero_add, List.nil_append] at o4 ⊢; have S4 := (S0.alloc (.cells #[] 3)).grown hg4 (fun k hk => by simp [blk] at hk; omega))
  have hX4 : Ints w4 w.heap.size A 15 xs := (hX.alloc (by omega) (.cells #[] 3)).grown hg4 (by simp; omega) (fun k hk => by simp [blk] at hk; omega)
  have z4 : W.heap.size ≤ w4.heap.size := by have := hg4.size; simp at this; omega
  obtain ⟨g4, rfl, hg1, hg2⟩ := o4.form (by omega)
  obtain ⟨ad0, x0, rfl, hb00, -⟩ := hX4.elem (k := 0) (by omega)
  clear S0 f0 hX hg4 at4
  have f4 := S4.b.three
  go_loopw [7, 8] (fun s i wv => ∃ k : Nat, k ≤ n1 ∧ i = .int .i64 k ∧ s = .int .i64 (sumR xs (rs.take k)) ∧ wv = w4) (fun _ i _ => n1 - (intOf i).toNat)
  case atStart => exact ⟨0, Nat.zero_le _, rfl, by simp [sumR], rfl⟩
  case round =>
    obtain ⟨k, hk, rfl, rfl, rfl⟩ := hrel
    have hsb := sumR_bound HS.out (rs.take k)
    have hsl : (rs.take k).length ≤ 15 := by simp; omega
    generalize hS : sumR xs (rs.take k) = Sm at *
    have HSS := Lib.hid hS
    have s0 : 0 ≤ Sm := hsb.1
    have s9 : Sm ≤ 14985 := by omega
    clear hS hsb hsl
    by_cases hlt : k < n1
    · obtain ⟨ad, x, rfl, hb, hc, hx1, hs1⟩ := (S4.r).elem hlt
      have hxr := TV.out.rk x (List.mem_of_getElem? hx1.out)
      obtain ⟨hx0, hx14⟩ := hxr
      obtain ⟨X, rfl⟩ := Int.eq_ofNat_of_zero_le hx0
      have X15 : X < 15 := by omega
      obtain ⟨hcX, hbX⟩ := hX4.atD X15
      have hv9 := sv_getD HS.out X
      generalize hV : xs.getD X 0 = v at hcX hv9
      obtain ⟨v0, v9⟩ := hv9
      have HV := Lib.hid hV
      clear hV
      go_wp2
      go_roundw
      case rel => exact ⟨k + 1, by omega, by go_num, by rw [hs1.out, sumR_snoc, HSS.out, Int.toNat_natCast, HV.out], by simp⟩
      case measure => simp [intOf]; omega
    · obtain rfl : n1 = k := by omega
      have HQ : Hid (sumR xs rs = Sm) := by
        rw [List.take_of_length_le (by rw [HR.out]; exact Nat.le_refl _)] at HSS
        exact HSS
      clear HSS hlt hk
      obtain ⟨W1, rfl⟩ : ∃ W1, W1 = wr := ⟨_, rfl⟩
      go_wp2_with fail
      clear f4
      go_loopw [9] (fun i wq => ∃ k : Nat, k ≤ n2 ∧ i = .int .i64 k ∧ Own wq W.heap.size (some ⟨g4, 0, none⟩) 15 c4 (putL xs (ps.take k)) ∧ Seen w 47 n1 n2 c1 c2 A1 A2 rs ps nd wq ∧ Ints wq w.heap.size (some ad0) 15 xs ∧ Hid (∀ p ∈ ps.take k, inB (xs.getD p.1.toNat 0 + p.2) 0 999 = true) ∧ (k = 0 ∨ nd ≤ Sm)) (fun i _ => n2 - (intOf i).toNat)
      case atStart => exact ⟨0, Nat.zero_le _, rfl, by simpa [putL] using o4, S4, hX4, Lib.hid (by simp), .inl rfl⟩
      case round =>
        clear o4 S4 hX4 z4 hg2
        obtain ⟨k, hk, rfl, ho, S, hXr, hin, hor⟩ := hrel
        have zr := S.bl.size
        have gr := (ho.lt (k := g4) rfl).2
        have f := S.b.three
        have fl := S.b.lt
        by_cases hlt : k < n2
        · obtain ⟨ad, x, y, rfl, hb, hc0, hc1, hc2, hc3, hc4, hx1, hs1⟩ := S.p.el hlt
          have hmem := List.mem_of_getElem? hx1.out
          obtain ⟨hx0, hx14⟩ := TV.out.pk _ hmem
          obtain ⟨hy0, hy9⟩ := TV.out.a _ hmem
          simp only at hx0 hx14 hy0 hy9
          obtain ⟨X, rfl⟩ := Int.eq_ofNat_of_zero_le hx0
          have X15 : X < 15 := by omega
          have XI0 : (0 : Int) ≤ (X : Int) := by omega
          have XI : (X : Int) < 15 := by omega
          have hv9 := sv_getD HS.out X
          have hcX := (hXr.atD X15).1
          generalize hV : xs.getD X 0 = v at hv9 hcX
          obtain ⟨v0, v9⟩ := hv9
          have HV := Lib.hid hV
          have HM := Lib.hid hmem
          clear hV hmem hcX
          have hw1 : IntKind.i64.wrap (v + y) = v + y := IntWalk.i64_in _ (by omega)
          have HIN : Hid (inB (xs.getD X 0 + y) 0 999 = inB (v + y) 0 999) := Lib.hid (by rw [HV.out])
          go_wp2_with fail
          have S2 := S.alloc (.cells #[.int .i64 (X : Int), .int .i64 y] 54)
          have hX2 := hXr.alloc S.bl.size (.cells #[.int .i64 (X : Int), .int .i64 y] 54)
          have o2 := ho.alloc (.cells #[.int .i64 (X : Int), .int .i64 y] 54)
          have b2 := Blk.new wr 54 #[.int .i64 (X : Int), .int .i64 y]
          have z2 : wr.heap.size < (wr.alloc (.cells #[.int .i64 (X : Int), .int .i64 y] 54)).heap.size := by simp
          generalize hW2 : wr.alloc (.cells #[.int .i64 (X : Int), .int .i64 y] 54) = W2 at S2 hX2 o2 b2 z2
          clear ho hXr S f fl hc0 hc1 hc2 hc3 hc4 hb
          obtain ⟨hcX, hbX⟩ := hX2.atD X15
          rw [HV.out] at hcX
          have hcl := o2.cellAt (k := X) (by omega)
          have f := S2.b.three
          have fx := b2.two
          have zr := S2.bl.size
          cases h1 : inB (v + y) 0 999
          · have e1 : Hid (tOk xs ⟨rs, nd, ps⟩ = false) := Lib.hid (ok_bad (t := ⟨rs, nd, ps⟩) HT.out HM.out (by simp only [Int.toNat_natCast]; rw [HV.out]; exact h1))
            go_quiet ((go_at_call 68; exact Calls.quiet_of_same ((l6In_any _ _ _ _).mono fun e w' h => ⟨h.1, h.2.symm⟩)))
            go_wp2_with (at_builtin; refine app1 (xs := []) (n := 0) (c := 0) rfl _ _ rfl W2.heap.size rfl (by (refine Own.lit0 ?_ ?_ <;> first | omega | (simp; done) | (simp; omega))) w.heap.size _ _ _ xs rfl ((hX2.drewN _).alloc (by simp; omega) _) (by omega) (by simp) ?_; intro A6 c6 w6 o6 hg6 at6; simp only [Nat.zero_add, List.nil_append] at o6 ⊢)
            go_ret2
            exact ⟨A6, 15, c6, ret_ib e1.out.symm, by simp only [tstep, e1.out]; exact o6.mono zr, Below.grown (show Below w.heap.size w _ by repeat' (first | with_reducible exact S2.bl | with_reducible refine Below.alloc ?_ (by first | omega | (simp; done) | (simp; omega)) _ | with_reducible refine below_drewN ?_ _ | with_reducible refine Below.drew ?_)) hg6 (by simp; omega) (fun k hk => by simp [blk] at hk; omega)⟩
          · by_cases hl2 : Sm < nd
            · have e1 := Lib.hid (ok_less (t := ⟨rs, nd, ps⟩) (st := xs) (by show sumR xs rs < nd; rw [HQ.out]; exact hl2))
              go_quiet ((go_at_call 68; exact Calls.quiet_of_same ((l6In_any _ _ _ _).mono fun e w' h => ⟨h.1, h.2.symm⟩)))
              go_wp2_with (at_builtin; refine app1 (xs := []) (n := 0) (c := 0) rfl _ _ rfl W2.heap.size rfl (by (refine Own.lit0 ?_ ?_ <;> first | omega | (simp; done) | (simp; omega))) w.heap.size _ _ _ xs rfl ((hX2.drewN _).alloc (by simp; omega) _) (by omega) (by simp) ?_; intro A6 c6 w6 o6 hg6 at6; simp only [Nat.zero_add, List.nil_append] at o6 ⊢)
              go_ret2
              exact ⟨A6, 15, c6, ret_ib e1.out.symm, by simp only [tstep, e1.out]; exact o6.mono zr, Below.grown (show Below w.heap.size w _ by repeat' (first | with_reducible exact S2.bl | with_reducible refine Below.alloc ?_ (by first | omega | (simp; done) | (simp; omega)) _ | with_reducible refine below_drewN ?_ _ | with_reducible refine Below.drew ?_)) hg6 (by simp; omega) (fun k hk => by simp [blk] at hk; omega)⟩
            · go_quiet ((go_at_call 68; exact Calls.quiet_of_same ((l6In_any _ _ _ _).mono fun e w' h => ⟨h.1, h.2.symm⟩)))
              go_wp2_with fail
              go_region
              go_wp2
              go_roundw
              case rel =>
                refine ⟨k + 1, by omega, by go_num, ?_, ?_, ?_, ?_, .inr (by omega)⟩
                · rw [hs1.out, putL_snoc]
                  have h1 := HV.out
                  simp only [Int.toNat_natCast] at h1 ⊢
                  rw [h1]
                  exact Own.stored (by repeat' (first | with_reducible exact o2 | with_reducible refine Own.drewN ?_ _ | with_reducible refine Own.drew ?_)) X (v + y)
                · exact Seen.set (by repeat' (first | with_reducible exact S2 | with_reducible refine Seen.drewN ?_ _ | with_reducible refine Seen.drew ?_)) (by simp; omega) _
                · exact Ints.setCell (by repeat' (first | with_reducible exact hX2 | with_reducible refine Ints.drewN ?_ _ | with_reducible refine Ints.drew1 ?_)) (by simp; omega) _
                · refine Lib.hid fun p hp => ?_
                  rw [hs1.out] at hp
                  rcases List.mem_append.1 hp with h2 | h2
                  · exact hin.out p h2
                  · obtain rfl : p = ((X : Int), y) := by simpa using h2
                    simp only [Int.toNat_natCast]
                    rw [HIN.out]; exact h1
              case measure => simp [intOf]; omega
        · obtain rfl : k = n2 := by omega
          go_wp2_with fail
          go_quiet (fail)
          go_wp2
          go_ret2
          have hin' : ∀ p ∈ ps, inB (xs.getD p.1.toNat 0 + p.2) 0 999 = true := by
            have h1 := hin.out
            rwa [List.take_of_length_le (by rw [HP.out]; exact Nat.le_refl _)] at h1
          rw [List.take_of_length_le (by rw [HP.out]; exact Nat.le_refl _), putL_eq HX.out (fun p hp => (TV.out.pk p hp).1)] at ho
          refine RetIB.last HS.out HT.out (by rw [← HQ.out]) hin' ?_ (ho.drewN _) (by omega) (below_drewN S.bl _)
          rcases hor with h1 | h1
          · exact .inl (by apply List.eq_nil_of_length_eq_zero; rw [HP.out]; exact h1)
          · exact .inr (by rw [HQ.out]; exact h1)
end Go.Proofs.Ytaelaldgohppeaa
