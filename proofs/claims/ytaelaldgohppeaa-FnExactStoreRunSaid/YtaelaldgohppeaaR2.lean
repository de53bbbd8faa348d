/-
  Contracts of StoreRun, the program's and the reference's.
-/
import Derived.Test.YtaelaldgohppeaaR1
import Derived.Test.YtaelaldgohppeaaT5
namespace Go.Proofs.Ytaelaldgohppeaa
open Go.RowKit
set_option linter.unusedVariables false

/-- A call hands back a list of ints and a list of bools in memory of its own. -/
def RetSB (L : List Int) (Bs : List Bool) (w : World) (e : Ending) (w' : World) : Prop :=
  ∃ A n c A' m d, e = .returned (.tuple #[.slice A n c, .slice A' m d]) ∧ Own w' w.heap.size A n c L ∧ OwnB w' w.heap.size A' m d Bs ∧ Below w.heap.size w w'
theorem RetSB.no {xs : List Int} {ts : List TX} {w w' : World} {A A' : Option Addr} {c d : Nat} (h : rvB xs ts = false) (ho : Own w' w.heap.size A 0 c []) (ho' : OwnB w' w.heap.size A' 0 d []) (hb : Below w.heap.size w w') : RetSB (srL xs ts) (srB xs ts) w (.returned (.tuple #[.slice A 0 c, .slice A' 0 d])) w' := by
  obtain ⟨e1, e2⟩ := sr_no h
  rw [e1, e2]
  exact ⟨A, 0, c, A', 0, d, rfl, ho, ho', hb⟩
theorem runB_take_succ {st : List Int} {ts : List TX} {k : Nat} {t : TX} (h : ts.take (k + 1) = ts.take k ++ [t]) : runL st (ts.take (k + 1)) = tstep (runL st (ts.take k)) t ∧ runB st (ts.take (k + 1)) = runB st (ts.take k) ++ [tOk (runL st (ts.take k)) t] := by
  rw [h, runL_snoc, runB_snoc]
  exact ⟨rfl, rfl⟩
set_option maxHeartbeats 4000000 in
theorem implSR_any (A : Option Addr) (n c : Nat) (A' : Option Addr) (m d : Nat) (xs : List Int) (R : List TR) (ts : List TX) (w : World)
    (hx : Ints w w.heap.size A n xs) (ht : TxnS w w.heap.size A' m R ts) (hn : n ≤ 1048576) (hl : ∀ r ∈ R, r.n1 ≤ 1048576 ∧ r.n2 ≤ 1048576) :
    Calls Try.prog 57 #[.slice A n c, .slice A' m d] w (RetSB (srL xs ts) (srB xs ts) w) := by
  have HL := Lib.hid hl
  have HM := Lib.hid ht.l
  have HX := Lib.hid hx.len
  clear hl
  cases hs : svB xs
  · have hr : rvB xs ts = false := by simp [rvB, hs]
    go_enter Try.func57, Try.ntmps57
    go_wp2_with fail
    refine (implStoreValid_any _ _ _ _ xs _ hx hn).mono ?_
    rintro e w1 ⟨rfl, rfl⟩
    rw [hs]
    go_wp2
    go_ret2
    exact RetSB.no hr (Own.nil _ _) (OwnB.nil _ _) (Below.refl _ _)
  have HS := Lib.hid hs
  by_cases hbig : 10 < m
  · have hr : rvB xs ts = false := by
      have : ¬ ts.length ≤ 10 := by rw [HM.out]; omega
      simp [rvB, this]
    have hbig' : (10 : Int) < (m : Int) := by omega
    go_enter Try.func57, Try.ntmps57
    go_wp2_with fail
    refine (implStoreValid_any _ _ _ _ xs _ hx hn).mono ?_
    rintro e w1 ⟨rfl, rfl⟩
    rw [hs]
    go_wp2
    go_ret2
    exact RetSB.no hr (Own.nil _ _) (OwnB.nil _ _) (Below.refl _ _)
  have hm : m ≤ 10 := by omega
  have hm' : ¬ ((10 : Int) < (m : Int)) := by omega
  obtain rfl : n = 15 := by rw [← HX.out]; exact sv_len hs
  go_enter Try.func57, Try.ntmps57
  go_wp2_with fail
  refine (implStoreValid_any _ _ _ _ xs _ hx hn).mono ?_
  rintro e w1 ⟨rfl, rfl⟩
  rw [hs]
  clear hs hbig
  go_wp2_with fail
  go_loopw [24] (fun i wr => ∃ k : Nat, k ≤ m ∧ i = .int .i64 k ∧ Below w.heap.size w wr ∧ Hid (∀ t ∈ ts.take k, tvB t = true)) (fun i _ => m - (intOf i).toNat)
  case atStart => exact ⟨0, Nat.zero_le _, rfl, Below.refl _ _, Lib.hid (by simp)⟩
  case round =>
    obtain ⟨k, hk, rfl, hbw, hall⟩ := hrel
    have z := hbw.size
    by_cases hlt : k < m
    · obtain ⟨ad, A1, n1, c1, nd, A2, n2, c2, rs, ps, rfl, hb, g0, g1, g2, g3, g4, g5, i1, i2, ht1, hts, hR⟩ := (ht.below hbw).el hlt
      obtain ⟨q1, q2⟩ := HL.out _ (List.mem_of_getElem? hR.out)
      simp only at q1 q2
      have j1 := i1.alloc z (.cells #[.slice A1 n1 c1, .int .i64 nd, .slice A2 n2 c2] 47)
      have j2 := i2.alloc z (.cells #[.slice A1 n1 c1, .int .i64 nd, .slice A2 n2 c2] 47)
      have zz : w.heap.size ≤ (wr.alloc (.cells #[.slice A1 n1 c1, .int .i64 nd, .slice A2 n2 c2] 47)).heap.size := by simp; omega
      have B1 := hbw.alloc z (.cells #[.slice A1 n1 c1, .int .i64 nd, .slice A2 n2 c2] 47)
      go_wp2_with fail
      refine (implTV_any _ _ _ nd _ _ _ rs ps _ (j1.more zz) (j2.more zz) q1 q2).mono ?_
      rintro e w2 ⟨rfl, hb2⟩
      have B2 := B1.trans (hb2.mono zz)
      cases hv : tvB ⟨rs, nd, ps⟩
      · go_wp2
        go_ret2
        exact RetSB.no (rv_bad ht1.out hv) (Own.nil _ _) (OwnB.nil _ _) B2
      · go_wp2_with fail
        go_roundw
        case rel => exact ⟨k + 1, by omega, by go_num, B2, Lib.hid (fun t h => by
          rw [hts.out] at h
          rcases List.mem_append.1 h with h | h
          · exact hall.out t h
          · obtain rfl := List.mem_singleton.1 h; exact hv)⟩
        case measure => simp [intOf]; omega
    · obtain rfl : m = k := by omega
      have HV : Hid (∀ t ∈ ts, tvB t = true) := by
        rw [List.take_of_length_le (by rw [HM.out]; exact Nat.le_refl _)] at hall
        exact hall
      have HR := Lib.hid (rv_iff.2 ⟨HS.out, by rw [HM.out]; exact hm, HV.out⟩)
      clear hall hlt hk
      go_wp2_with fail
      refine (clone_any A 15 c w.heap.size xs _ (hx.below hbw) z (by omega)).mono ?_
      rintro e w4 ⟨A4, n4, c4, rfl, o4, hb4⟩
      obtain rfl : n4 = 15 := by have h1 := o4.len; rw [HX.out] at h1; omega
      have B4 := hbw.trans (hb4.mono z)
      have z4 := hb4.size
      replace o4 := o4.mono z
      clear hbw hb4
      go_wp2_with fail
      go_loopw [8, 9, 37] (fun s b i wv => ∃ (k : Nat) (A5 : Option Addr) (c5 : Nat) (A6 : Option Addr) (c6 : Nat), k ≤ m ∧ i = .int .i64 k ∧ s = .slice A5 15 c5 ∧ b = .slice A6 k c6 ∧ Own wv w.heap.size A5 15 c5 (runL xs (ts.take k)) ∧ OwnB wv w.heap.size A6 k c6 (runB xs (ts.take k)) ∧ Below w.heap.size w wv) (fun _ _ i _ => m - (intOf i).toNat)
      case atStart => exact ⟨0, A4, c4, _, _, Nat.zero_le _, rfl, rfl, rfl, o4.alloc _, OwnB.lit0 rfl (by omega), B4.alloc (by omega) _⟩
      case round =>
        clear o4 B4
        obtain ⟨k, A5, c5, A6, c6, hk, rfl, rfl, rfl, o5, o6, hbw⟩ := hrel
        have z5 := hbw.size
        by_cases hlt : k < m
        · obtain ⟨ad, A1, n1, c1, nd, A2, n2, c2, rs, ps, rfl, hb, g0, g1, g2, g3, g4, g5, i1, i2, ht1, hts, hR⟩ := (ht.below hbw).el hlt
          have HV1 := Lib.hid (HV.out _ (List.mem_of_getElem? ht1.out))
          have HSk := Lib.hid (runL_sv HS.out (ts.take k))
          have HN := Lib.hid (runB_take_succ (st := xs) hts.out)
          go_wp2_with fail
          refine (trans_any _ _ _ _).mono ?_
          rintro e w7 ⟨rfl, rfl⟩
          have b7 := Blk.new (wr.alloc (.cells #[.slice A1 n1 c1, .int .i64 nd, .slice A2 n2 c2] 47)) 47 #[.slice A1 n1 c1, .int .i64 nd, .slice A2 n2 c2]
          have j1 := (i1.alloc z5 (.cells #[.slice A1 n1 c1, .int .i64 nd, .slice A2 n2 c2] 47)).alloc (by simp; omega) (.cells #[.slice A1 n1 c1, .int .i64 nd, .slice A2 n2 c2] 47)
          have j2 := (i2.alloc z5 (.cells #[.slice A1 n1 c1, .int .i64 nd, .slice A2 n2 c2] 47)).alloc (by simp; omega) (.cells #[.slice A1 n1 c1, .int .i64 nd, .slice A2 n2 c2] 47)
          have j5 := ((o5.alloc (.cells #[.slice A1 n1 c1, .int .i64 nd, .slice A2 n2 c2] 47)).alloc (.cells #[.slice A1 n1 c1, .int .i64 nd, .slice A2 n2 c2] 47)).ints
          have j6 := (o6.alloc (.cells #[.slice A1 n1 c1, .int .i64 nd, .slice A2 n2 c2] 47)).alloc (.cells #[.slice A1 n1 c1, .int .i64 nd, .slice A2 n2 c2] 47)
          have B7 := (hbw.alloc z5 (.cells #[.slice A1 n1 c1, .int .i64 nd, .slice A2 n2 c2] 47)).alloc (by simp; omega) (.cells #[.slice A1 n1 c1, .int .i64 nd, .slice A2 n2 c2] 47)
          simp only [World.size_alloc] at b7
          go_wp2_with fail
          refine (trans1_any _ A5 15 c5 A1 n1 c1 nd A2 n2 c2 (runL xs (ts.take k)) rs ps _ b7 j5 (j1.more B7.size) (j2.more B7.size) HSk.out HV1.out).mono ?_
          rintro e w8 ⟨A8, n8, c8, rfl, o8, hb8⟩
          have o9 := j6.below hb8
          have B8 := B7.trans (hb8.mono B7.size)
          have z8 := B8.size
          replace o8 := o8.mono B7.size
          obtain rfl : n8 = 15 := by rw [← o8.len]; exact sv_len (tstep_sv HSk.out)
          clear j1 j2 j5 j6 b7 hb8 o5 o6
          go_wp2_with (at_builtin; refine appB rfl _ _ rfl w.heap.size rfl (o9.alloc _) _ _ _ _ [_] rfl (Bools.one' _ rfl) (by omega) (by simp; omega) ?_; intro A10 c10 w10 o10 hg10 at10)
          go_roundw
          case rel => exact ⟨k + 1, A8, c8, A10, c10, by omega, by go_num, rfl, rfl, by rw [HN.out.1]; exact (o8.alloc _).kept hg10 (fun j hj e => by
              have := OwnB.ne o9 o8 (by decide) (k := j) e
              rw [blk_own] at this; exact this hj), by rw [HN.out.2]; exact o10, Below.grown (B8.alloc z8 _) hg10 (by simp; omega) (fun j hj => (o9.lt hj).1)⟩
          case measure => simp [intOf]; omega
        · obtain rfl : m = k := by omega
          rw [List.take_of_length_le (by rw [HM.out]; exact Nat.le_refl _)] at o5 o6
          go_wp2
          go_ret2
          obtain ⟨e1, e2⟩ := sr_yes HR.out
          rw [e1, e2]
          exact ⟨A5, 15, c5, A6, m, c6, rfl, o5, o6, hbw⟩
set_option maxHeartbeats 4000000 in
theorem specSR_any (A : Option Addr) (n c : Nat) (A' : Option Addr) (m d : Nat) (xs : List Int) (R : List TR) (ts : List TX) (w : World)
    (hx : Ints w w.heap.size A n xs) (ht : TxnS w w.heap.size A' m R ts) (hn : n ≤ 1048576) (hl : ∀ r ∈ R, r.n1 ≤ 1048576 ∧ r.n2 ≤ 1048576) :
    Calls Try.prog 58 #[.slice A n c, .slice A' m d] w (RetSB (srL xs ts) (srB xs ts) w) := by
  have HL := Lib.hid hl
  have HM := Lib.hid ht.l
  have HX := Lib.hid hx.len
  clear hl
  have hX := hx.alloc (Nat.le_refl _) (.cells #[] 4)
  have B0 : Below w.heap.size w (w.alloc (.cells #[] 4)) := (by repeat' (first | with_reducible exact Below.refl _ _ | with_reducible assumption | with_reducible refine Below.setCell ?_ (by first | omega | (simp; done) | (simp; omega)) _ | with_reducible refine Below.alloc ?_ (by first | omega | (simp; done) | (simp; omega)) _ | with_reducible refine below_drewN ?_ _ | with_reducible refine Below.drew ?_ | (with_reducible refine Below.trans ?_ (Below.mono (by with_reducible assumption) (by first | omega | (simp; done) | (simp; omega))))))
  have oB : OwnB (w.alloc (.cells #[] 4)) w.heap.size (some ⟨w.heap.size, 0, none⟩) 0 0 [] := OwnB.lit0 rfl (Nat.le_refl _)
  have z0 : (w.alloc (.cells #[] 4)).heap.size = w.heap.size + 1 := by simp
  generalize hW : w.alloc (.cells #[] 4) = W at hX B0 oB z0
  cases hs : svB xs
  · have hr : rvB xs ts = false := by simp [rvB, hs]
    go_enter Try.func58, Try.ntmps58
    go_wp2_with fail
    refine (specStoreValid_any _ _ _ _ xs _ hX hn).mono ?_
    rintro e w1 ⟨rfl, rfl⟩
    rw [hs]
    go_wp2
    go_ret2
    exact RetSB.no hr (by (refine Own.lit0 ?_ ?_ <;> first | omega | (simp; done) | (simp; omega))) (oB.alloc _) (B0.alloc (by omega) _)
  have HS := Lib.hid hs
  by_cases hbig : 10 < m
  · have hr : rvB xs ts = false := by
      have : ¬ ts.length ≤ 10 := by rw [HM.out]; omega
      simp [rvB, this]
    have hbig' : (10 : Int) < (m : Int) := by omega
    go_enter Try.func58, Try.ntmps58
    go_wp2_with fail
    refine (specStoreValid_any _ _ _ _ xs _ hX hn).mono ?_
    rintro e w1 ⟨rfl, rfl⟩
    rw [hs]
    go_wp2
    go_ret2
    exact RetSB.no hr (by (refine Own.lit0 ?_ ?_ <;> first | omega | (simp; done) | (simp; omega))) (oB.alloc _) (B0.alloc (by omega) _)
  have hm : m ≤ 10 := by omega
  have hm' : ¬ ((10 : Int) < (m : Int)) := by omega
  obtain rfl : n = 15 := by rw [← HX.out]; exact sv_len hs
  go_enter Try.func58, Try.ntmps58
  go_wp2_with fail
  refine (specStoreValid_any _ _ _ _ xs _ hX hn).mono ?_
  rintro e w1 ⟨rfl, rfl⟩
  rw [hs]
  clear hs hbig
  go_wp2_with fail
  go_loopw [7] (fun i wr => ∃ k : Nat, k ≤ m ∧ i = .int .i64 k ∧ Below w.heap.size w wr ∧ OwnB wr w.heap.size (some ⟨w.heap.size, 0, none⟩) 0 0 [] ∧ Hid (∀ t ∈ ts.take k, tvB t = true)) (fun i _ => m - (intOf i).toNat)
  case atStart => exact ⟨0, Nat.zero_le _, rfl, B0, oB, Lib.hid (by simp)⟩
  case round =>
    clear oB
    obtain ⟨k, hk, rfl, hbw, oB, hall⟩ := hrel
    have z := hbw.size
    by_cases hlt : k < m
    · obtain ⟨ad, A1, n1, c1, nd, A2, n2, c2, rs, ps, rfl, hb, g0, g1, g2, g3, g4, g5, i1, i2, ht1, hts, hR⟩ := (ht.below hbw).el hlt
      obtain ⟨q1, q2⟩ := HL.out _ (List.mem_of_getElem? hR.out)
      simp only at q1 q2
      go_wp2_with fail
      refine (specTV_any _ _ _ nd _ _ _ rs ps _ (i1.more z) (i2.more z) q1 q2).mono ?_
      rintro e w2 ⟨rfl, hb2⟩
      have B2 := hbw.trans (hb2.mono z)
      have z2 := B2.size
      cases hv : tvB ⟨rs, nd, ps⟩
      · go_wp2
        go_ret2
        exact RetSB.no (rv_bad ht1.out hv) (Own.alloc (by (refine Own.lit0 ?_ ?_ <;> first | omega | (simp; done) | (simp; omega))) _) (OwnB.lit0 (by simp) (by simp; omega)) ((B2.alloc z2 _).alloc (by simp; omega) _)
      · go_wp2_with fail
        go_roundw
        case rel => exact ⟨k + 1, by omega, by go_num, B2, oB.below hb2, Lib.hid (fun t h => by
          rw [hts.out] at h
          rcases List.mem_append.1 h with h | h
          · exact hall.out t h
          · obtain rfl := List.mem_singleton.1 h; exact hv)⟩
        case measure => simp [intOf]; omega
    · obtain rfl : m = k := by omega
      have HV : Hid (∀ t ∈ ts, tvB t = true) := by
        rw [List.take_of_length_le (by rw [HM.out]; exact Nat.le_refl _)] at hall
        exact hall
      have HR := Lib.hid (rv_iff.2 ⟨HS.out, by rw [HM.out]; exact hm, HV.out⟩)
      clear hall hlt hk
      have hXr := hx.below hbw
      obtain ⟨W3, rfl⟩ : ∃ W3, W3 = wr := ⟨_, rfl⟩
      go_wp2_with (at_builtin; refine app1 (xs := []) (n := 0) (c := 0) rfl _ _ rfl w.heap.size rfl (by (refine Own.lit0 ?_ ?_ <;> first | omega | (simp; done) | (simp; omega))) w.heap.size _ _ _ xs rfl (hXr.alloc z _) (by omega) (by simp; omega) ?_; intro A4 c4 w4 o4 hg4 at4; simp only [Nat.zero_add, List.nil_append] at o4 ⊢)
      have B4 : Below w.heap.size w w4 := Below.grown (hbw.alloc z _) hg4 (by simp; omega) (fun j hj => by simp [blk] at hj; omega)
      have oB4 := (oB.alloc (.cells #[] 3)).kept hg4 (fun j hj e => by simp [blk] at hj e; have h1 := (oB.lt (k := w.heap.size) rfl).2; omega)
      clear oB hbw hXr hg4 at4
      go_loopw [6, 8, 9] (fun b s i wv => ∃ (k : Nat) (A5 : Option Addr) (c5 : Nat) (A6 : Option Addr) (c6 : Nat), k ≤ m ∧ i = .int .i64 k ∧ s = .slice A5 15 c5 ∧ b = .slice A6 k c6 ∧ Own wv w.heap.size A5 15 c5 (runL xs (ts.take k)) ∧ OwnB wv w.heap.size A6 k c6 (runB xs (ts.take k)) ∧ Below w.heap.size w wv) (fun _ _ i _ => m - (intOf i).toNat)
      case atStart => exact ⟨0, A4, c4, _, _, Nat.zero_le _, rfl, rfl, rfl, o4, oB4, B4⟩
      case round =>
        clear o4 oB4 B4
        obtain ⟨k, A5, c5, A6, c6, hk, rfl, rfl, rfl, o5, o6, hbw⟩ := hrel
        have z5 := hbw.size
        by_cases hlt : k < m
        · obtain ⟨ad, A1, n1, c1, nd, A2, n2, c2, rs, ps, rfl, hb, g0, g1, g2, g3, g4, g5, i1, i2, ht1, hts, hR⟩ := (ht.below hbw).el hlt
          have HV1 := Lib.hid (HV.out _ (List.mem_of_getElem? ht1.out))
          have HSk := Lib.hid (runL_sv HS.out (ts.take k))
          have HN := Lib.hid (runB_take_succ (st := xs) hts.out)
          go_wp2_with fail
          refine (l31Apply_any A5 15 c5 A1 n1 c1 nd A2 n2 c2 (runL xs (ts.take k)) rs ps _ o5.ints (i1.more z5) (i2.more z5) HSk.out HV1.out).mono ?_
          rintro e w8 ⟨A8, n8, c8, rfl, o8, hb8⟩
          have o9 := o6.below hb8
          have B8 := hbw.trans (hb8.mono z5)
          have z8 := B8.size
          replace o8 := o8.mono z5
          obtain rfl : n8 = 15 := by rw [← o8.len]; exact sv_len (tstep_sv HSk.out)
          clear hb8 o5 o6
          go_wp2_with (at_builtin; refine appB rfl _ _ rfl w.heap.size rfl (o9.alloc _) _ _ _ _ [_] rfl (Bools.one' _ rfl) (by omega) (by simp; omega) ?_; intro A10 c10 w10 o10 hg10 at10)
          go_roundw
          case rel => exact ⟨k + 1, A8, c8, A10, c10, by omega, by go_num, rfl, rfl, by rw [HN.out.1]; exact (o8.alloc _).kept hg10 (fun j hj e => by
              have := OwnB.ne o9 o8 (by decide) (k := j) e
              rw [blk_own] at this; exact this hj), by rw [HN.out.2]; exact o10, Below.grown (B8.alloc z8 _) hg10 (by simp; omega) (fun j hj => (o9.lt hj).1)⟩
          case measure => simp [intOf]; omega
        · obtain rfl : m = k := by omega
          rw [List.take_of_length_le (by rw [HM.out]; exact Nat.le_refl _)] at o5 o6
          go_wp2
          go_ret2
          obtain ⟨e1, e2⟩ := sr_yes HR.out
          rw [e1, e2]
          exact ⟨A5, 15, c5, A6, m, c6, rfl, o5, o6, hbw⟩
end Go.Proofs.Ytaelaldgohppeaa
