/-
  Contracts of the reference: TxnApply, TxnGroups.
-/
import Derived.Test.YtaelaldgohppeaaT5
namespace Go.Proofs.Ytaelaldgohppeaa
open Go.RowKit
set_option linter.unusedVariables false

set_option maxHeartbeats 2000000 in
theorem specTA_any (A : Option Addr) (n c : Nat) (A1 : Option Addr) (n1 c1 : Nat) (nd : Int) (A2 : Option Addr) (n2 c2 : Nat) (xs rs : List Int) (ps : List (Int × Int)) (w : World)
    (hx : Ints w w.heap.size A n xs) (hr : Ints w w.heap.size A1 n1 rs) (hp : Puts w w.heap.size A2 n2 ps) (hn : n ≤ 1048576) (hn1 : n1 ≤ 1048576) (hn2 : n2 ≤ 1048576) :
    Calls Try.prog 54 #[.slice A n c, .agg #[.slice A1 n1 c1, .int .i64 nd, .slice A2 n2 c2]] w (RetIB (taL xs ⟨rs, nd, ps⟩) (taB xs ⟨rs, nd, ps⟩) w) := by
  have S0 := Seen.start (T := 47) (c := c1) (d := c2) (nd := nd) hr hp
  have hX := hx.alloc (Nat.le_refl _) (.cells #[.slice A1 n1 c1, .int .i64 nd, .slice A2 n2 c2] 47)
  have z0 : w.heap.size ≤ (w.alloc (.cells #[.slice A1 n1 c1, .int .i64 nd, .slice A2 n2 c2] 47)).heap.size := by simp
  generalize hW : w.alloc (.cells #[.slice A1 n1 c1, .int .i64 nd, .slice A2 n2 c2] 47) = W at S0 z0 hX
  have f0 := S0.b.three
  clear hr hp hx
  cases hs : svB xs
  · go_enter Try.func54, Try.ntmps54
    go_wp2_with fail
    refine (specStoreValid_any _ _ _ _ xs _ hX hn).mono ?_
    rintro e w1 ⟨rfl, rfl⟩
    rw [hs]
    go_wp2
    go_ret2
    exact RetIB.no (by rw [hs]; rfl) (by (refine Own.lit0 ?_ ?_ <;> first | omega | (simp; done) | (simp; omega))) (S0.bl.alloc z0 _)
  have HS := Lib.hid hs
  go_enter Try.func54, Try.ntmps54
  go_wp2_with fail
  refine (specStoreValid_any _ _ _ _ xs _ hX hn).mono ?_
  rintro e w1 ⟨rfl, rfl⟩
  rw [hs]
  clear hs
  go_wp2_with fail
  refine (specTV_any _ _ _ nd _ _ _ rs ps W (S0.r.more z0) (S0.p.more z0) hn1 hn2).mono ?_
  rintro e w1 ⟨rfl, hb1⟩
  have S1 := S0.step hb1
  have hX1 := hX.below (hb1.mono z0)
  have f1 := S1.b.three
  clear S0 f0 hX hb1 z0 hW
  cases hv : tvB ⟨rs, nd, ps⟩
  · have z1 := S1.bl.size
    go_wp2
    go_ret2
    exact RetIB.no (by rw [hv, Bool.and_false]) (by (refine Own.lit0 ?_ ?_ <;> first | omega | (simp; done) | (simp; omega))) (S1.bl.alloc z1 _)
  have HV := Lib.hid hv
  clear hv
  go_wp2_with fail
  refine (l31Apply_any A n c A1 n1 c1 nd A2 n2 c2 xs rs ps _ (hX1.more S1.bl.size) (S1.r.more S1.bl.size) (S1.p.more S1.bl.size) HS.out HV.out).mono ?_
  rintro e w3 ⟨A3, n3, c3, rfl, o3, hb3⟩
  go_wp2
  go_ret2
  obtain ⟨e1, e2⟩ := taL_step HS.out HV.out
  rw [e1, e2]
  exact ⟨A3, n3, c3, rfl, o3.mono S1.bl.size, S1.bl.trans (hb3.mono S1.bl.size)⟩
theorem un_step' {ks ks' : List Int} {k : Int} (h : ks' = ks ++ [k]) : unL (accK (inG ks) 5) [k % 5] = accK (inG ks') 5 := by rw [h]; exact un_step ks k
theorem unL_len (a b : List Int) : (unL a b).length ≤ 5 := accK_len _ _
set_option maxHeartbeats 4000000 in
theorem specTG_any (A : Option Addr) (n c : Nat) (nd : Int) (Bp : Option Addr) (m d : Nat) (rs : List Int) (ps : List (Int × Int)) (w : World) (hr : Ints w w.heap.size A n rs) (hp : Puts w w.heap.size Bp m ps) (hn : n ≤ 1048576) (hm : m ≤ 1048576) :
    Calls Try.prog 49 #[.agg #[.slice A n c, .int .i64 nd, .slice Bp m d]] w (RetInts (tgL ⟨rs, nd, ps⟩) w) := by
  have HL := Lib.hid hr.len
  have HM := Lib.hid hp.len
  have S0 := Seen.start (T := 47) (c := c) (d := d) (nd := nd) hr hp
  have z0 : (w.alloc (.cells #[.slice A n c, .int .i64 nd, .slice Bp m d] 47)).heap.size = w.heap.size + 1 := by simp
  generalize hW : w.alloc (.cells #[.slice A n c, .int .i64 nd, .slice Bp m d] 47) = W at S0 z0
  have f0 := S0.b.three
  clear hr hp
  cases hv : tvB ⟨rs, nd, ps⟩
  · have HV := Lib.hid hv
    clear hv
    go_enter Try.func49, Try.ntmps49
    go_wp2_with fail
    go_loopw [3, 4] (fun s i wr => ∃ (A2 : Option Addr) (c2 : Nat), i = .int .i64 0 ∧ s = .slice A2 0 c2 ∧ Own wr W.heap.size A2 0 c2 [] ∧ Seen w 47 n m c d A Bp rs ps nd wr) (fun _ _ _ => 0)
    case atStart => exact ⟨_, _, rfl, rfl, by (refine Own.lit0 ?_ ?_ <;> first | omega | (simp; done) | (simp; omega)), S0.alloc _⟩
    case round =>
      clear S0 f0
      obtain ⟨A2, c2, rfl, rfl, ho, S⟩ := hrel
      have f := S.b.three
      rcases Nat.eq_zero_or_pos n with hn0 | hn0
      · have hn0' : ¬ ((0 : Int) < (n : Int)) := by omega
        have hn0'' : ¬ (0 < n) := by omega
        clear hn0
        go_wp2_with fail
        go_loopw [3, 5] (fun s i wr => ∃ (A2 : Option Addr) (c2 : Nat), i = .int .i64 0 ∧ s = .slice A2 0 c2 ∧ Own wr W.heap.size A2 0 c2 [] ∧ Seen w 47 n m c d A Bp rs ps nd wr) (fun _ _ _ => 0)
        case atStart => exact ⟨_, _, rfl, rfl, ho, S⟩
        case round =>
          clear ho S f
          obtain ⟨A2, c2, rfl, rfl, ho, S⟩ := hrel
          have f := S.b.three
          rcases Nat.eq_zero_or_pos m with hm0 | hm0
          · have hm0' : ¬ ((0 : Int) < (m : Int)) := by omega
            have hm0'' : ¬ (0 < m) := by omega
            clear hm0
            go_wp2
            go_ret
            exact ⟨A2, 0, c2, rfl, by rw [tgL_no HV.out]; exact ho.mono (by omega), S.bl⟩
          · have hm0' : (0 : Int) < (m : Int) := by omega
            go_wp2_with fail
            refine (specTV_any _ _ _ nd _ _ _ rs ps _ (S.r.more S.bl.size) (S.p.more S.bl.size) hn hm).mono ?_
            rintro e w2 ⟨rfl, hb2⟩
            rw [HV.out]
            go_wp2
            go_ret
            exact ⟨A2, 0, c2, rfl, by rw [tgL_no HV.out]; exact (ho.below hb2).mono (by omega), S.bl.trans (hb2.mono S.bl.size)⟩
      · have hn0' : (0 : Int) < (n : Int) := by omega
        go_wp2_with fail
        refine (specTV_any _ _ _ nd _ _ _ rs ps _ (S.r.more S.bl.size) (S.p.more S.bl.size) hn hm).mono ?_
        rintro e w1 ⟨rfl, hb1⟩
        rw [HV.out]
        have S1 := S.step hb1
        have ho1 := ho.below hb1
        clear f
        have f := S1.b.three
        go_wp2_with fail
        go_loopw [3, 5] (fun s i wr => ∃ (A2 : Option Addr) (c2 : Nat), i = .int .i64 0 ∧ s = .slice A2 0 c2 ∧ Own wr W.heap.size A2 0 c2 [] ∧ Seen w 47 n m c d A Bp rs ps nd wr) (fun _ _ _ => 0)
        case atStart => exact ⟨_, _, rfl, rfl, ho1, S1⟩
        case round =>
          clear ho S f ho1 S1
          obtain ⟨A2, c2, rfl, rfl, ho, S⟩ := hrel
          have f := S.b.three
          rcases Nat.eq_zero_or_pos m with hm0 | hm0
          · have hm0' : ¬ ((0 : Int) < (m : Int)) := by omega
            have hm0'' : ¬ (0 < m) := by omega
            clear hm0
            go_wp2
            go_ret
            exact ⟨A2, 0, c2, rfl, by rw [tgL_no HV.out]; exact ho.mono (by omega), S.bl⟩
          · have hm0' : (0 : Int) < (m : Int) := by omega
            go_wp2_with fail
            refine (specTV_any _ _ _ nd _ _ _ rs ps _ (S.r.more S.bl.size) (S.p.more S.bl.size) hn hm).mono ?_
            rintro e w2 ⟨rfl, hb2⟩
            rw [HV.out]
            go_wp2
            go_ret
            exact ⟨A2, 0, c2, rfl, by rw [tgL_no HV.out]; exact (ho.below hb2).mono (by omega), S.bl.trans (hb2.mono S.bl.size)⟩
  · have TV := Lib.hid (tv_iff.1 hv)
    have ln : n ≤ 15 := by have := HL.out; have := TV.out.rl; simp at this; omega
    have lm : m ≤ 15 := by have := HM.out; have := TV.out.pl; simp at this; omega
    have HV := Lib.hid hv
    clear hv
    go_enter Try.func49, Try.ntmps49
    go_wp2_with fail
    go_loopw [3, 4] (fun s i wr => ∃ (k : Nat) (A2 : Option Addr) (n2 c2 : Nat), k ≤ n ∧ i = .int .i64 k ∧ s = .slice A2 n2 c2 ∧ Own wr W.heap.size A2 n2 c2 (accK (inG (rs.take k)) 5) ∧ Seen w 47 n m c d A Bp rs ps nd wr) (fun _ i _ => n - (intOf i).toNat)
    case atStart => exact ⟨0, _, _, _, Nat.zero_le _, rfl, rfl, by rw [show accK (inG (rs.take 0)) 5 = [] from rfl]; exact (by (refine Own.lit0 ?_ ?_ <;> first | omega | (simp; done) | (simp; omega))), S0.alloc _⟩
    case round =>
      clear S0 f0
      obtain ⟨k, A2, n2, c2, hk, rfl, rfl, ho, S⟩ := hrel
      have f := S.b.three
      have fl := S.b.lt
      have zr := S.bl.size
      have l2 : n2 ≤ 5 := by have := ho.len; have := accK_len (inG (rs.take k)) 5; omega
      by_cases hlt : k < n
      · have hlt' : (k : Int) < (n : Int) := by omega
        have k0 : (0 : Int) ≤ (k : Int) := by omega
        go_wp2_with fail
        refine (specTV_any _ _ _ nd _ _ _ rs ps _ (S.r.more S.bl.size) (S.p.more S.bl.size) hn hm).mono ?_
        rintro e w1 ⟨rfl, hb1⟩
        rw [HV.out]
        have S1 := S.step hb1
        have ho1 := ho.below hb1
        have z1 : wr.heap.size ≤ w1.heap.size := hb1.size
        clear f S ho hb1
        have f := S1.b.three
        have fl1 := S1.b.lt
        obtain ⟨ad, x, rfl, hb, hc, hx1, hs1⟩ := S1.r.elem hlt
        obtain ⟨hx0, hx14⟩ := TV.out.rk x (List.mem_of_getElem? hx1.out)
        have ZW : W.heap.size ≤ w1.heap.size := by rw [z0]; have := S1.b.lt; omega
        go_wp2_with fail
        refine (l1Union_any A2 _ n2 c2 1 1 (accK (inG (rs.take k)) 5) [x % 5] _ (ho1.alloc _).ints ((Ints.one' _ rfl).more (by simp)) (by omega) (by omega)).mono ?_
        rintro e w2 ⟨A3, n3, c3, rfl, o3, hb3⟩
        rw [un_step' hs1.out] at o3
        go_wp2_with fail
        go_roundw
        case rel => exact ⟨k + 1, A3, n3, c3, by omega, by go_num, rfl, o3.mono (by have := ZW; simp; omega), (S1.alloc _).step hb3⟩
        case measure => simp [intOf]; omega
      · obtain rfl : n = k := by omega
        have hno : ¬ ((n : Int) < (n : Int)) := by omega
        rw [List.take_of_length_le (by rw [HL.out]; exact Nat.le_refl _)] at ho
        go_wp2_with fail
        clear hlt hk
        go_loopw [3, 5] (fun s i wr => ∃ (k : Nat) (A2 : Option Addr) (n2 c2 : Nat), k ≤ m ∧ i = .int .i64 k ∧ s = .slice A2 n2 c2 ∧ Own wr W.heap.size A2 n2 c2 (accK (inG (rs ++ pkeys (ps.take k))) 5) ∧ Seen w 47 n m c d A Bp rs ps nd wr) (fun _ i _ => m - (intOf i).toNat)
        case atStart => exact ⟨0, _, _, _, Nat.zero_le _, rfl, rfl, by simpa [pkeys] using ho, S⟩
        case round =>
          clear S f fl zr ho l2
          obtain ⟨k, A2, n2, c2, hk, rfl, rfl, ho, S⟩ := hrel
          have f := S.b.three
          have fl := S.b.lt
          have zr := S.bl.size
          have l2 : n2 ≤ 5 := by have := ho.len; have := accK_len (inG (rs ++ pkeys (ps.take k))) 5; omega
          by_cases hlt : k < m
          · have hlt' : (k : Int) < (m : Int) := by omega
            have k0 : (0 : Int) ≤ (k : Int) := by omega
            go_wp2_with fail
            refine (specTV_any _ _ _ nd _ _ _ rs ps _ (S.r.more S.bl.size) (S.p.more S.bl.size) hn hm).mono ?_
            rintro e w1 ⟨rfl, hb1⟩
            rw [HV.out]
            have S1 := S.step hb1
            have ho1 := ho.below hb1
            have z1 : wr.heap.size ≤ w1.heap.size := hb1.size
            clear f S ho hb1
            have f := S1.b.three
            have fl1 := S1.b.lt
            obtain ⟨ad, x, y, rfl, hb, hc0, hc1, hc2, hc3, hc4, hx1, hs1⟩ := S1.p.el hlt
            obtain ⟨hx0, hx14⟩ := TV.out.pk _ (List.mem_of_getElem? hx1.out)
            simp only at hx0 hx14
            have ZW : W.heap.size ≤ w1.heap.size := by rw [z0]; have := S1.b.lt; omega
            go_wp2_with fail
            refine (l1Union_any A2 _ n2 c2 1 1 (accK (inG (rs ++ pkeys (ps.take k))) 5) [x % 5] _ (ho1.alloc _).ints ((Ints.one' _ rfl).more (by simp)) (by omega) (by omega)).mono ?_
            rintro e w2 ⟨A3, n3, c3, rfl, o3, hb3⟩
            rw [un_step' (ks' := rs ++ pkeys (ps.take (k + 1))) (by rw [pkeys_snoc hs1.out, List.append_assoc])] at o3
            go_wp2_with fail
            go_roundw
            case rel => exact ⟨k + 1, A3, n3, c3, by omega, by go_num, rfl, o3.mono (by have := ZW; simp; omega), (S1.alloc _).step hb3⟩
            case measure => simp [intOf]; omega
          · obtain rfl : m = k := by omega
            have hno : ¬ ((m : Int) < (m : Int)) := by omega
            rw [List.take_of_length_le (by rw [HM.out]; exact Nat.le_refl _)] at ho
            go_wp2
            go_ret
            exact ⟨A2, n2, c2, rfl, by rw [tgL_yes HV.out]; exact ho.mono (by omega), S.bl⟩
end Go.Proofs.Ytaelaldgohppeaa
