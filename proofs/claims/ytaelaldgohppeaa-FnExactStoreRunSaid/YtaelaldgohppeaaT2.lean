/-
  Contracts of a transaction's tests.
-/
import Derived.Test.YtaelaldgohppeaaTL
import Derived.Test.YtaelaldgohppeaaT1
import Derived.Test.YtaelaldgohppeaaV1
import Derived.Deep.RegionHeld3
import Derived.Deep.DeepCutAuto
import Derived.IntWalk
namespace Go.Proofs.Ytaelaldgohppeaa
open Go.RowKit
set_option linter.unusedVariables false

theorem pkeys_snoc {ps qs : List (Int × Int)} {x y : Int} (h : qs = ps ++ [(x, y)]) : pkeys qs = pkeys ps ++ [x] := by subst h; simp [pkeys]
/-- A store into a block that is newer than the rows. -/
theorem Own.setNew {w : World} {b n c : Nat} {A : Option Addr} {xs : List Int} (h : Own w b A n c xs) {W : World} {p : Addr} (hp : W.heap.size ≤ p.block) (hA : ∀ k, blk A = some k → k < W.heap.size) (u : Value) : Own (w.setCell p u) b A n c xs :=
  h.setCell (fun k hk e => by have := hA k hk; omega) u
set_option maxHeartbeats 1000000 in
theorem keysOf_any (A : Option Addr) (n c : Nat) (ps : List (Int × Int)) (w : World) (hr : Puts w w.heap.size A n ps) (hn : n ≤ 1048576) :
    Calls Try.prog 80 #[.slice A n c] w (RetInts (pkeys ps) w) := by
  have hlen := Lib.hid hr.len
  go_enter Try.func80, Try.ntmps80
  go_wp2
  go_loopw [3, 9] (fun s i wr => ∃ (k : Nat) (A2 : Option Addr) (c2 : Nat), k ≤ n ∧ i = .int .i64 k ∧ s = .slice A2 k c2 ∧ Own wr w.heap.size A2 k c2 (pkeys (ps.take k)) ∧ Below w.heap.size w wr) (fun _ i _ => n - (intOf i).toNat)
  case atStart => exact ⟨0, _, _, Nat.zero_le _, rfl, rfl, by (refine Own.lit0 ?_ ?_ <;> first | omega | (simp; done) | (simp; omega)), (by repeat' (first | with_reducible exact Below.refl _ _ | with_reducible assumption | with_reducible refine Below.setCell ?_ (by first | omega | (simp; done) | (simp; omega)) _ | with_reducible refine Below.alloc ?_ (by first | omega | (simp; done) | (simp; omega)) _ | with_reducible refine below_drewN ?_ _ | with_reducible refine Below.drew ?_ | (with_reducible refine Below.trans ?_ (Below.mono (by with_reducible assumption) (by first | omega | (simp; done) | (simp; omega))))))⟩
  case round =>
    obtain ⟨k, A2, c2, hk, rfl, rfl, ho, hbw⟩ := hrel
    have z := hbw.size
    by_cases hlt : k < n
    · obtain ⟨ad, x, y, rfl, hb, hc0, hc1, hc2, hc3, hc4, hx, hs⟩ := (hr.below hbw).el hlt
      go_wp2_with (at_builtin; refine app1 rfl _ _ rfl w.heap.size rfl ((ho.alloc _).alloc _) _ _ _ _ [x] rfl (Ints.one' _ (by first | omega | (simp; done) | (simp; omega))) (by omega) (by simp; omega) ?_; intro A3 c3 w3 o3 hg3 at3)
      go_roundw
      case rel => exact ⟨k + 1, A3, c3, by omega, by go_num, rfl, by rw [pkeys_snoc hs.out]; exact o3, Below.grown ((hbw.alloc z _).alloc (by simp; omega) _) hg3 (by simp; omega) (fun i hi => (ho.lt hi).1)⟩
      case measure => simp [intOf]; omega
    · obtain rfl : k = n := by omega
      go_wp2
      go_ret
      exact ⟨A2, k, c2, rfl, by rw [← List.take_of_length_le (l := ps) (i := k) (by rw [hlen.out]; exact Nat.le_refl _)]; exact ho, hbw⟩
theorem areKeys_any (A : Option Addr) (n c B : Nat) (xs : List Int) (w : World) (hr : Ints w B A n xs) (hn : n ≤ 1048576) :
    Calls Try.prog 79 #[.slice A n c] w (RetB (keysB xs) w) := by
  cases h : ascB xs
  all_goals
    go_enter Try.func79, Try.ntmps79
    go_wp2_with (first
      | (go_at_call 94; refine (ascending_any _ _ _ B xs _ hr hn).mono ?_; rintro e w' ⟨rfl, d, rfl⟩)
      | (go_at_call 69; refine (inRange_any _ _ _ B xs _ _ _ (hr.drewN _) hn).mono ?_; rintro e w' ⟨rfl, rfl⟩))
    go_ret
    exact RetB.mk (by simp [keysB, h]) ⟨_, rfl⟩
/-- All numbers of puts so far are in range. -/
theorem adds_bad {ps : List (Int × Int)} {k : Nat} {x y : Int} (h : ps[k]? = some (x, y)) (hy : inB y (-999) 999 = false) : addsB ps = false := by
  unfold addsB
  rw [List.all_eq_false]
  exact ⟨(x, y), List.mem_of_getElem? h, by simp [hy]⟩
theorem adds_snoc {ps qs : List (Int × Int)} {x y : Int} (h : qs = ps ++ [(x, y)]) (hy : inB y (-999) 999 = true) (ha : addsB ps = true) : addsB qs = true := by
  subst h
  unfold addsB at *
  simp [ha, hy]
set_option maxHeartbeats 2000000 in
theorem implTV_any (A : Option Addr) (n c : Nat) (nd : Int) (Bp : Option Addr) (m d : Nat) (rs : List Int) (ps : List (Int × Int)) (w : World) (hr : Ints w w.heap.size A n rs) (hp : Puts w w.heap.size Bp m ps) (hn : n ≤ 1048576) (hm : m ≤ 1048576) :
    Calls Try.prog 45 #[.agg #[.slice A n c, .int .i64 nd, .slice Bp m d]] w (RetV (.bool (tvB ⟨rs, nd, ps⟩)) w) := by
  have HL := Lib.hid hr.len
  have HM := Lib.hid hp.len
  have b0 := Blk.new w 47 #[.slice A n c, .int .i64 nd, .slice Bp m d]
  have hR := hr.box (.cells #[.slice A n c, .int .i64 nd, .slice Bp m d] 47)
  have hP := hp.box (.cells #[.slice A n c, .int .i64 nd, .slice Bp m d] 47)
  cases h1 : keysB rs
  · go_enter Try.func45, Try.ntmps45
    go_wp2_with fail
    refine (areKeys_any _ _ _ _ rs _ hR hn).mono ?_
    rintro e w1 ⟨rfl, d1, rfl⟩
    rw [h1]
    go_wp2
    go_ret
    exact ⟨ret_bool (by simp [tvB, h1]), (by repeat' (first | with_reducible exact Below.refl _ _ | with_reducible assumption | with_reducible refine Below.setCell ?_ (by first | omega | (simp; done) | (simp; omega)) _ | with_reducible refine Below.alloc ?_ (by first | omega | (simp; done) | (simp; omega)) _ | with_reducible refine below_drewN ?_ _ | with_reducible refine Below.drew ?_ | (with_reducible refine Below.trans ?_ (Below.mono (by with_reducible assumption) (by first | omega | (simp; done) | (simp; omega))))))⟩
  go_enter Try.func45, Try.ntmps45
  go_wp2_with fail
  refine (areKeys_any _ _ _ _ rs _ hR hn).mono ?_
  rintro e w1 ⟨rfl, d1, rfl⟩
  rw [h1]
  have b1 := b0.drewN d1
  have f1 := b1.three
  go_wp2_with fail
  refine (keysOf_any _ _ _ ps _ (hP.drewN d1) hm).mono ?_
  rintro e w2 ⟨A2, n2, c2, rfl, o2, hb2⟩
  have z2 : w.heap.size + 1 ≤ w2.heap.size := by have := hb2.size; simpa using this
  have b2 := b1.below hb2 (by simp)
  have f2 := b2.three
  have HB2 : Below w.heap.size w w2 := (by repeat' (first | with_reducible exact Below.refl _ _ | with_reducible refine Below.alloc ?_ (by first | omega | (simp; done) | (simp; omega)) _ | with_reducible refine below_drewN ?_ _ | with_reducible refine Below.drew ?_ | with_reducible refine Below.setCell ?_ (by first | omega | (simp; done) | (simp; omega)) _ | with_reducible refine Below.trans ?_ (Below.mono hb2 (by first | omega | (simp; done) | (simp; omega)))))
  have l2 : n2 ≤ 1048576 := by have := o2.len; rw [pkeys_len, HM.out] at this; omega
  clear f1
  go_wp2_with fail
  refine (areKeys_any _ _ _ _ (pkeys ps) _ o2.ints l2).mono ?_
  rintro e w3 ⟨rfl, d3, rfl⟩
  have b3 := b2.drewN d3
  have f3 := b3.three
  clear f2
  cases h2 : keysB (pkeys ps)
  · go_wp2
    go_ret
    exact ⟨ret_bool (by simp [tvB, h2]), (by repeat' (first | with_reducible exact Below.refl _ _ | with_reducible assumption | with_reducible refine Below.setCell ?_ (by first | omega | (simp; done) | (simp; omega)) _ | with_reducible refine Below.alloc ?_ (by first | omega | (simp; done) | (simp; omega)) _ | with_reducible refine below_drewN ?_ _ | with_reducible refine Below.drew ?_ | (with_reducible refine Below.trans ?_ (Below.mono (by with_reducible assumption) (by first | omega | (simp; done) | (simp; omega))))))⟩
  by_cases hz : n = 0 ∧ m = 0
  · obtain ⟨rfl, rfl⟩ := hz
    go_wp2
    go_ret
    exact ⟨ret_bool (by simp [tvB, HL.out, HM.out]), (by repeat' (first | with_reducible exact Below.refl _ _ | with_reducible assumption | with_reducible refine Below.setCell ?_ (by first | omega | (simp; done) | (simp; omega)) _ | with_reducible refine Below.alloc ?_ (by first | omega | (simp; done) | (simp; omega)) _ | with_reducible refine below_drewN ?_ _ | with_reducible refine Below.drew ?_ | (with_reducible refine Below.trans ?_ (Below.mono (by with_reducible assumption) (by first | omega | (simp; done) | (simp; omega))))))⟩
  have hz' : ((n : Int) + (m : Int) == 0) = false := by rw [beq_eq_false_iff_ne]; omega
  have HZ := Lib.hid hz
  clear hz
  by_cases h3 : nd < 0
  · go_wp2
    go_ret
    exact ⟨ret_bool (by simp [tvB, inB_low h3]), (by repeat' (first | with_reducible exact Below.refl _ _ | with_reducible assumption | with_reducible refine Below.setCell ?_ (by first | omega | (simp; done) | (simp; omega)) _ | with_reducible refine Below.alloc ?_ (by first | omega | (simp; done) | (simp; omega)) _ | with_reducible refine below_drewN ?_ _ | with_reducible refine Below.drew ?_ | (with_reducible refine Below.trans ?_ (Below.mono (by with_reducible assumption) (by first | omega | (simp; done) | (simp; omega))))))⟩
  by_cases h4 : 14985 < nd
  · go_wp2
    go_ret
    exact ⟨ret_bool (by simp [tvB, inB_high h4]), (by repeat' (first | with_reducible exact Below.refl _ _ | with_reducible assumption | with_reducible refine Below.setCell ?_ (by first | omega | (simp; done) | (simp; omega)) _ | with_reducible refine Below.alloc ?_ (by first | omega | (simp; done) | (simp; omega)) _ | with_reducible refine below_drewN ?_ _ | with_reducible refine Below.drew ?_ | (with_reducible refine Below.trans ?_ (Below.mono (by with_reducible assumption) (by first | omega | (simp; done) | (simp; omega))))))⟩
  have H1 := Lib.hid h1
  have H2 := Lib.hid h2
  have H3 := Lib.hid (inB_in (show 0 ≤ nd by omega) (show nd ≤ 14985 by omega))
  have hPr := (hP.drewN d1).up hb2 hb2.size
  clear h1 h2
  go_wp2_with fail
  go_loopw [39] (fun i wr => ∃ (k : Nat), k ≤ m ∧ i = .int .i64 k ∧ addsB (ps.take k) = true ∧ Below w2.heap.size w2 wr) (fun i _ => m - (intOf i).toNat)
  case atStart => exact ⟨0, Nat.zero_le _, rfl, by simp [addsB], below_drewN (Below.refl _ _) _⟩
  case round =>
    obtain ⟨k, hk, rfl, hall, hbw⟩ := hrel
    have HA := Lib.hid hall
    have z := hbw.size
    clear hall
    by_cases hlt : k < m
    · obtain ⟨ad, x, y, rfl, hb, hc0, hc1, hc2, hc3, hc4, hx, hs⟩ := (hPr.below hbw).el hlt
      by_cases h5 : y < -999
      · go_wp2
        go_ret
        exact ⟨ret_bool (by simp [tvB, adds_bad hx.out (inB_low h5)]), HB2.trans (((by repeat' (first | with_reducible exact Below.refl _ _ | with_reducible assumption | with_reducible refine Below.setCell ?_ (by first | omega | (simp; done) | (simp; omega)) _ | with_reducible refine Below.alloc ?_ (by first | omega | (simp; done) | (simp; omega)) _ | with_reducible refine below_drewN ?_ _ | with_reducible refine Below.drew ?_ | (with_reducible refine Below.trans ?_ (Below.mono (by with_reducible assumption) (by first | omega | (simp; done) | (simp; omega)))))) : Below w2.heap.size w2 _).mono (by omega))⟩
      by_cases h6 : 999 < y
      · go_wp2
        go_ret
        exact ⟨ret_bool (by simp [tvB, adds_bad hx.out (inB_high h6)]), HB2.trans (((by repeat' (first | with_reducible exact Below.refl _ _ | with_reducible assumption | with_reducible refine Below.setCell ?_ (by first | omega | (simp; done) | (simp; omega)) _ | with_reducible refine Below.alloc ?_ (by first | omega | (simp; done) | (simp; omega)) _ | with_reducible refine below_drewN ?_ _ | with_reducible refine Below.drew ?_ | (with_reducible refine Below.trans ?_ (Below.mono (by with_reducible assumption) (by first | omega | (simp; done) | (simp; omega)))))) : Below w2.heap.size w2 _).mono (by omega))⟩
      go_wp2
      go_roundw
      case rel => exact ⟨k + 1, by omega, by go_num, adds_snoc hs.out (inB_in (by omega) (by omega)) HA.out, (by repeat' (first | with_reducible exact Below.refl _ _ | with_reducible assumption | with_reducible refine Below.setCell ?_ (by first | omega | (simp; done) | (simp; omega)) _ | with_reducible refine Below.alloc ?_ (by first | omega | (simp; done) | (simp; omega)) _ | with_reducible refine below_drewN ?_ _ | with_reducible refine Below.drew ?_ | (with_reducible refine Below.trans ?_ (Below.mono (by with_reducible assumption) (by first | omega | (simp; done) | (simp; omega))))))⟩
      case measure => simp [intOf]; omega
    · obtain rfl : k = m := by omega
      go_wp2
      go_ret
      exact ⟨ret_bool (by
        rw [List.take_of_length_le (by rw [HM.out]; exact Nat.le_refl _)] at HA
        simp [tvB, H1.out, H2.out, H3.out, HA.out, HL.out, HM.out]
        have := HZ.out; omega), HB2.trans (hbw.mono (by omega))⟩
theorem l31Key_any (x : Int) (w : World) : Calls Try.prog 77 #[.int .i64 x] w fun e w' => e = .returned (.bool (inB x 0 14)) ∧ w = w' := by
  go_enter Try.func77, Try.ntmps77
  go_wp2_with (go_at_call 68; refine (l6In_any _ _ _ _).mono ?_; rintro e w' ⟨rfl, rfl⟩)
  go_ret
  exact ⟨rfl, rfl⟩
theorem pkeys_get {ps : List (Int × Int)} {k : Nat} {x y : Int} (h : ps[k]? = some (x, y)) : (pkeys ps)[k]? = some x := by simp [pkeys, h]
theorem keys_bad1 {xs : List Int} {k : Nat} {x : Int} (h : xs[k]? = some x) (hx : inB x 0 14 = false) : keysB xs = false := by simp [keysB, inR_false h hx]
theorem keys_bad2 {xs : List Int} (h : ascB xs = false) : keysB xs = false := by simp [keysB, h]
theorem pkeys_take (ps : List (Int × Int)) (k : Nat) : (pkeys ps).take k = pkeys (ps.take k) := by simp [pkeys, List.map_take]
/-- What a transaction's test has seen. -/
structure Seen (w : World) (T : TypeId) (n m c d : Nat) (A Bp : Option Addr) (rs : List Int) (ps : List (Int × Int)) (nd : Int) (wr : World) : Prop where
  b : Blk wr w.heap.size T #[.slice A n c, .int .i64 nd, .slice Bp m d]
  r : Ints wr w.heap.size A n rs
  p : Puts wr w.heap.size Bp m ps
  bl : Below w.heap.size w wr
theorem Seen.drewN {w wr : World} {T : TypeId} {n m c d : Nat} {A Bp : Option Addr} {rs : List Int} {ps : List (Int × Int)} {nd : Int} (h : Seen w T n m c d A Bp rs ps nd wr) (j : Nat) : Seen w T n m c d A Bp rs ps nd (wr.drewN j) :=
  ⟨h.b.drewN j, h.r.drewN j, h.p.drewN j, below_drewN h.bl j⟩
set_option maxHeartbeats 4000000 in
theorem specTV_any (A : Option Addr) (n c : Nat) (nd : Int) (Bp : Option Addr) (m d : Nat) (rs : List Int) (ps : List (Int × Int)) (w : World) (hr : Ints w w.heap.size A n rs) (hp : Puts w w.heap.size Bp m ps) (hn : n ≤ 1048576) (hm : m ≤ 1048576) :
    Calls Try.prog 43 #[.agg #[.slice A n c, .int .i64 nd, .slice Bp m d]] w (RetV (.bool (tvB ⟨rs, nd, ps⟩)) w) := by
  have HL := Lib.hid hr.len
  have HM := Lib.hid hp.len
  have S0 : Seen w 47 n m c d A Bp rs ps nd (w.alloc (.cells #[.slice A n c, .int .i64 nd, .slice Bp m d] 47)) :=
    ⟨Blk.new w _ _, hr.alloc (Nat.le_refl _) _, hp.alloc (Nat.le_refl _) _, (by repeat' (first | with_reducible exact Below.refl _ _ | with_reducible assumption | with_reducible refine Below.setCell ?_ (by first | omega | (simp; done) | (simp; omega)) _ | with_reducible refine Below.alloc ?_ (by first | omega | (simp; done) | (simp; omega)) _ | with_reducible refine below_drewN ?_ _ | with_reducible refine Below.drew ?_ | (with_reducible refine Below.trans ?_ (Below.mono (by with_reducible assumption) (by first | omega | (simp; done) | (simp; omega))))))⟩
  have f0 := S0.b.three
  clear hr hp
  go_enter Try.func43, Try.ntmps43
  go_wp2_with fail
  go_loopw [3] (fun i wr => ∃ (k : Nat), k ≤ n ∧ i = .int .i64 k ∧ AscTo rs k ∧ inR (rs.take k) 0 14 = true ∧ Seen w 47 n m c d A Bp rs ps nd wr) (fun i _ => n - (intOf i).toNat)
  case atStart => exact ⟨0, Nat.zero_le _, rfl, asc_zero _, by simp [inR], S0⟩
  case round =>
    clear S0 f0
    obtain ⟨k, hk, rfl, hall, hin, S⟩ := hrel
    have HA := Lib.hid hall
    have HI := Lib.hid hin
    have f := S.b.three
    have fl := S.b.lt
    clear hall hin
    by_cases hlt : k < n
    · obtain ⟨ad', x, rfl, hb', hc', hx, hs⟩ := S.r.elem hlt
      cases h1 : inB x 0 14
      · go_wp2
        go_quiet ((go_at_call 77; exact Calls.quiet_of_same ((l31Key_any _ _).mono fun e w' h => ⟨h.1, h.2.symm⟩)))
        go_wp2
        go_ret
        exact ⟨ret_bool (by simp [tvB, keys_bad1 hx.out h1]), (S.drewN _).bl⟩
      · obtain _ | j := k
        · have hc0 : wr.cell? ad' = some (.int .i64 x) := by
            have e : ad'.add 0 = ad' := by unfold Addr.add; simp
            rw [← e]
            exact hc'
          go_wp2
          go_quiet ((go_at_call 77; exact Calls.quiet_of_same ((l31Key_any _ _).mono fun e w' h => ⟨h.1, h.2.symm⟩)))
          go_wp2
          go_roundw
          case rel => exact ⟨1, by omega, by go_num, asc_one _, inR_snoc hs.out h1 HI.out, S.drewN _⟩
          case measure => simp [intOf]; omega
        · generalize hkj : j + 1 = k at *
          obtain ⟨ad, y, hA', hb, hc, hy, _⟩ := S.r.elem (k := j) (by omega)
          obtain rfl : ad' = ad := by injection hA'
          have hw1 : IntKind.i64.wrap ((k : Int) - 1) = (j : Int) := by rw [show (k : Int) - 1 = (j : Int) by omega]; exact IntWalk.i64_in _ (by omega)
          have k0 : (0 : Int) < (k : Int) := by omega
          have k0' : decide (0 < k) = true := by simp; omega
          have kn : (j : Int) < (n : Int) := by omega
          have kn' : j < n := by omega
          have KJ := Lib.hid hkj.symm
          clear hA' hkj
          by_cases hxy : x ≤ y
          · have HXY := Lib.hid hxy
            have hd : decide (x ≤ y) = true := by simp [hxy]
            clear hxy
            go_wp2
            go_quiet ((go_at_call 77; exact Calls.quiet_of_same ((l31Key_any _ _).mono fun e w' h => ⟨h.1, h.2.symm⟩)))
            go_wp2
            go_ret
            exact ⟨ret_bool (by simp [tvB, keys_bad2 (asc_break hy.out (by rw [← KJ.out]; exact hx.out) HXY.out)]), (S.drewN _).bl⟩
          · have HXY := Lib.hid hxy
            have hd : decide (x ≤ y) = false := by simp; omega
            clear hxy
            go_wp2
            go_quiet ((go_at_call 77; exact Calls.quiet_of_same ((l31Key_any _ _).mono fun e w' h => ⟨h.1, h.2.symm⟩)))
            go_wp2
            go_roundw
            case rel => exact ⟨k + 1, by omega, by go_num, asc_step' HA.out KJ.out hy.out hx.out (by have := HXY.out; omega), inR_snoc hs.out h1 HI.out, S.drewN _⟩
            case measure => simp [intOf]; omega
    · obtain rfl : n = k := by omega
      have HK : Hid (keysB rs = true) := by
        rw [List.take_of_length_le (by rw [HL.out]; exact Nat.le_refl _)] at HI
        exact Lib.hid (by simp [keysB, HI.out, asc_all HA.out (by rw [HL.out]; exact Nat.le_refl _)])
      clear HA HI hlt hk
      go_wp2_with fail
      go_loopw [4] (fun i wr => ∃ (k : Nat), k ≤ m ∧ i = .int .i64 k ∧ AscTo (pkeys ps) k ∧ inR (pkeys (ps.take k)) 0 14 = true ∧ addsB (ps.take k) = true ∧ Seen w 47 n m c d A Bp rs ps nd wr) (fun i _ => m - (intOf i).toNat)
      case atStart => exact ⟨0, Nat.zero_le _, rfl, asc_zero _, by simp [inR, pkeys], by simp [addsB], S⟩
      case round =>
        clear S f fl
        obtain ⟨k, hk, rfl, hall, hin, hadd, S⟩ := hrel
        have HA := Lib.hid hall
        have HI := Lib.hid hin
        have HD := Lib.hid hadd
        have f := S.b.three
        have fl := S.b.lt
        clear hall hin hadd
        by_cases hlt : k < m
        · obtain ⟨ad', x, u, rfl, hb', hc0, hc1, hc2, hc3, hc4, hx, hs⟩ := S.p.el hlt
          cases h1 : inB x 0 14
          · go_wp2
            go_quiet (first | (go_at_call 77; exact Calls.quiet_of_same ((l31Key_any _ _).mono fun e w' h => ⟨h.1, h.2.symm⟩)) | (go_at_call 68; exact Calls.quiet_of_same ((l6In_any _ _ _ _).mono fun e w' h => ⟨h.1, h.2.symm⟩)))
            go_wp2
            go_ret
            exact ⟨ret_bool (by simp [tvB, keys_bad1 (pkeys_get hx.out) h1]), (S.drewN _).bl⟩
          cases h2 : inB u (-999) 999
          · go_wp2
            go_quiet (first | (go_at_call 77; exact Calls.quiet_of_same ((l31Key_any _ _).mono fun e w' h => ⟨h.1, h.2.symm⟩)) | (go_at_call 68; exact Calls.quiet_of_same ((l6In_any _ _ _ _).mono fun e w' h => ⟨h.1, h.2.symm⟩)))
            go_wp2
            go_ret
            exact ⟨ret_bool (by simp [tvB, adds_bad hx.out h2]), (S.drewN _).bl⟩
          obtain _ | j := k
          · obtain ⟨ad, x', u', hA', hb, g0, g1, g2, hx', hs'⟩ := S.p.el0 hlt
            obtain rfl : ad' = ad := by injection hA'
            obtain ⟨rfl, rfl⟩ : x = x' ∧ u = u' := by have h3 := hx.out; rw [hx'.out] at h3; injection h3 with h3; injection h3 with h3 h4; exact ⟨h3.symm, h4.symm⟩
            clear hA'
            go_wp2
            go_quiet (first | (go_at_call 77; exact Calls.quiet_of_same ((l31Key_any _ _).mono fun e w' h => ⟨h.1, h.2.symm⟩)) | (go_at_call 68; exact Calls.quiet_of_same ((l6In_any _ _ _ _).mono fun e w' h => ⟨h.1, h.2.symm⟩)))
            go_wp2
            go_roundw
            case rel => exact ⟨1, by omega, by go_num, asc_one _, by rw [pkeys_snoc hs.out]; exact inR_snoc rfl h1 HI.out, adds_snoc hs.out h2 HD.out, S.drewN _⟩
            case measure => simp [intOf]; omega
          · generalize hkj : j + 1 = k at *
            obtain ⟨ad, y, v, hA', hb, g0, g1, g2, g3, g4, hy, _⟩ := S.p.el (k := j) (by omega)
            obtain rfl : ad' = ad := by injection hA'
            have hw1 : IntKind.i64.wrap ((k : Int) - 1) = (j : Int) := by rw [show (k : Int) - 1 = (j : Int) by omega]; exact IntWalk.i64_in _ (by omega)
            have k0 : (0 : Int) < (k : Int) := by omega
            have k0' : decide (0 < k) = true := by simp; omega
            have kn : (j : Int) < (m : Int) := by omega
            have kn' : j < m := by omega
            have KJ := Lib.hid hkj.symm
            clear hA' hkj
            by_cases hxy : x ≤ y
            · have HXY := Lib.hid hxy
              have hd : decide (x ≤ y) = true := by simp [hxy]
              clear hxy
              go_wp2
              go_quiet (first | (go_at_call 77; exact Calls.quiet_of_same ((l31Key_any _ _).mono fun e w' h => ⟨h.1, h.2.symm⟩)) | (go_at_call 68; exact Calls.quiet_of_same ((l6In_any _ _ _ _).mono fun e w' h => ⟨h.1, h.2.symm⟩)))
              go_wp2
              go_ret
              exact ⟨ret_bool (by simp [tvB, keys_bad2 (asc_break (pkeys_get hy.out) (by rw [← KJ.out]; exact pkeys_get hx.out) HXY.out)]), (S.drewN _).bl⟩
            · have HXY := Lib.hid hxy
              have hd : decide (x ≤ y) = false := by simp; omega
              clear hxy
              go_wp2
              go_quiet (first | (go_at_call 77; exact Calls.quiet_of_same ((l31Key_any _ _).mono fun e w' h => ⟨h.1, h.2.symm⟩)) | (go_at_call 68; exact Calls.quiet_of_same ((l6In_any _ _ _ _).mono fun e w' h => ⟨h.1, h.2.symm⟩)))
              go_wp2
              go_roundw
              case rel => exact ⟨k + 1, by omega, by go_num, asc_step' HA.out KJ.out (pkeys_get hy.out) (pkeys_get hx.out) (by have := HXY.out; omega), by rw [pkeys_snoc hs.out]; exact inR_snoc rfl h1 HI.out, adds_snoc hs.out h2 HD.out, S.drewN _⟩
              case measure => simp [intOf]; omega
        · obtain rfl : k = m := by omega
          have HP : Hid (keysB (pkeys ps) = true) := by
            rw [List.take_of_length_le (by rw [HM.out]; exact Nat.le_refl _)] at HI
            exact Lib.hid (by simp [keysB, HI.out, asc_all HA.out (by rw [pkeys_len, HM.out]; exact Nat.le_refl _)])
          have HD' : Hid (addsB ps = true) := by
            rw [List.take_of_length_le (by rw [HM.out]; exact Nat.le_refl _)] at HD
            exact HD
          clear HA HI HD
          by_cases hz : n = 0 ∧ k = 0
          · obtain ⟨rfl, rfl⟩ := hz
            go_wp2
            go_ret
            exact ⟨ret_bool (by simp [tvB, HL.out, HM.out]), S.bl⟩
          have hz1 : (0 : Int) < (n : Int) + (k : Int) := by omega
          have hz2 : 0 < n + k := by omega
          have HZ := Lib.hid hz2
          clear hz
          go_wp2_with (go_at_call 68; refine (l6In_any _ _ _ _).mono ?_; rintro e w' ⟨rfl, rfl⟩)
          go_ret
          exact ⟨ret_bool (by simp [tvB, HL.out, HM.out, HK.out, HP.out, HD'.out, HZ.out]), S.bl⟩
end Go.Proofs.Ytaelaldgohppeaa
