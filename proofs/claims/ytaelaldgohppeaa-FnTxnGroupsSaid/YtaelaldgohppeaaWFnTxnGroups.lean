/-
  The walk of FnTxnGroups: the law returns true and writes nothing that was there.
-/
import Derived.Test.YtaelaldgohppeaaSc
import Derived.Deep.RegionHeld3
namespace Go.Proofs.Ytaelaldgohppeaa
open Go.RowKit
set_option linter.unusedVariables false

set_option maxRecDepth 100000 in
set_option maxHeartbeats 8000000 in
theorem fnTxnGroups_walk (A : Option Addr) (n c : Nat) (bs : List Int) (w : World) (hc : n ≤ c) (hcm : c ≤ 9223372036854775807) (hb : Bytes w w.heap.size A n bs) :
    Calls Try.prog 9 #[.slice A n c] w fun e w' => e = .returned (.bool true) ∧ Below w.heap.size w w' := by
  by_cases hbig : 1048576 < n
  · go_enter Try.func9, Try.ntmps9
    go_wp2
    go_ret
    exact ⟨rfl, Below.refl _ _⟩
  go_enter Try.func9, Try.ntmps9
  go_wp2_with fail
  refine (drawTG_any _ _ _ _ _ hb (by omega) hc hcm).mono ?_
  rintro e w1 ⟨A2, n2, c2, nd, A3, n3, c3, rs, ps, rfl, q2, q3, hq2, hq3, hb1⟩
  have S := Seen.start (T := 47) (c := c2) (d := c3) (nd := nd) q2.ints q3.puts
  have HR := Lib.hid q2.len
  have HP := Lib.hid q3.len
  clear q2 q3
  go_wp2_with fail
  generalize hW2 : w1.alloc (.cells #[.slice A2 n2 c2, .int .i64 nd, .slice A3 n3 c3] 47) = w2 at S ⊢
  clear hW2
  have f2 := S.b.three
  go_wp2_with fail
  refine (implTG_any _ _ _ nd _ _ _ rs ps _ (S.r.more S.bl.size) (S.p.more S.bl.size) (by omega) (by omega)).mono ?_
  rintro e w3 ⟨Ao, no, co, rfl, oo, hb3⟩
  replace S := S.step hb3
  have lo : no ≤ 5 := by have := oo.len; have := tgL_len ⟨rs, nd, ps⟩; omega
  have o3 := oo.ints
  clear f2 hb3 oo
  have f3 := S.b.three
  go_wp2_with fail
  refine (specTG_any _ _ _ nd _ _ _ rs ps _ (S.r.more S.bl.size) (S.p.more S.bl.size) (by omega) (by omega)).mono ?_
  rintro e w4 ⟨Aw, nw, cw, rfl, ov, hb4⟩
  replace S := S.step hb4
  have lw : nw ≤ 5 := by have := ov.len; have := tgL_len ⟨rs, nd, ps⟩; omega
  have o4 := o3.up hb4 hb4.size
  have v4 := ov.ints
  clear f3 hb4 ov o3
  have f4 := S.b.three
  go_wp2_with fail
  refine (sameInts_same _ _ _ _ _ _ (tgL ⟨rs, nd, ps⟩) _ o4 v4 (by omega) (by omega)).mono ?_
  rintro e w5 ⟨rfl, hb5⟩
  replace S := S.step hb5
  have o5 := o4.up hb5 hb5.size
  have v5 := v4.up hb5 hb5.size
  clear f4 o4 v4 hb5
  have f5 := S.b.three
  go_wp2_with fail
  refine (specTV_any _ _ _ nd _ _ _ rs ps _ (S.r.more S.bl.size) (S.p.more S.bl.size) (by omega) (by omega)).mono ?_
  rintro e w6 ⟨rfl, hb6⟩
  replace S := S.step hb6
  have o6 := o5.up hb6 hb6.size
  have v6 := v5.up hb6 hb6.size
  clear f5 o5 v5 hb6
  have f6 := S.b.three
  cases hv : tvB ⟨rs, nd, ps⟩
  · have HV := Lib.hid hv
    clear hv
    go_wp2_with fail
    refine (sameInts_same _ _ _ _ _ _ (tgL ⟨rs, nd, ps⟩) _ o6 v6 (by omega) (by omega)).mono ?_
    rintro e w7 ⟨rfl, hb7⟩
    go_wp2
    go_ret
    exact ⟨rfl, (hb1.trans (S.bl.mono hb1.size)).trans (hb7.mono (Nat.le_trans hb1.size S.bl.size))⟩
  · have HV := Lib.hid hv
    have TV := Lib.hid (tv_iff.1 hv)
    clear hv v6 f6
    go_wp2_with fail
    go_loopw [6] (fun i wr => ∃ k : Nat, k ≤ 5 ∧ i = .int .i64 k ∧ Seen w1 47 n2 n3 c2 c3 A2 A3 rs ps nd wr ∧ Ints wr w6.heap.size Ao no (tgL ⟨rs, nd, ps⟩) ∧ w6.heap.size ≤ wr.heap.size) (fun i _ => 5 - (intOf i).toNat)
    case atStart => exact ⟨0, Nat.zero_le _, rfl, S, o6, Nat.le_refl _⟩
    case round =>
      clear S o6
      obtain ⟨k, hk, rfl, S, o6, z6⟩ := hrel
      have f := S.b.three
      by_cases hlt : k < 5
      · go_wp2_with fail
        obtain ⟨V, rfl⟩ : ∃ V, V = wr := ⟨_, rfl⟩
        go_loopw [7, 8] (fun d i wv => ∃ j : Nat, j ≤ n2 ∧ i = .int .i64 j ∧ d = .bool (inG (rs.take j) (k : Int)) ∧ wv = V) (fun _ i _ => n2 - (intOf i).toNat)
        case atStart => exact ⟨0, Nat.zero_le _, rfl, rfl, rfl⟩
        case round =>
          obtain ⟨j, hj, rfl, rfl, rfl⟩ := hrel
          cases hD : inG (rs.take j) (k : Int)
          all_goals
            have HD := Lib.hid hD
            clear hD
          all_goals
            by_cases hlj : j < n2
          · obtain ⟨ad, x, rfl, hbb, hcc, hx1, hs1⟩ := S.r.elem hlj
            have hx0 := (TV.out.rk x (List.mem_of_getElem? hx1.out)).1
            cases hxk : (x % 5 == (k : Int))
            · have HN : Hid (inG (rs.take (j + 1)) (k : Int) = false) := Lib.hid (by rw [hs1.out, inG_snoc, HD.out, hxk]; rfl)
              go_wp2
              go_roundw
              case rel => exact ⟨j + 1, by omega, by go_num, by rw [HN.out], by simp⟩
              case measure => simp [intOf]; omega
            · have HN : Hid (inG (rs.take (j + 1)) (k : Int) = true) := Lib.hid (by rw [hs1.out, inG_snoc, hxk]; simp)
              go_wp2
              go_roundw
              case rel => exact ⟨j + 1, by omega, by go_num, by rw [HN.out], by simp⟩
              case measure => simp [intOf]; omega
          · obtain rfl : n2 = j := by omega
            have HQ : Hid (inG rs (k : Int) = false) := by
              rw [List.take_of_length_le (by rw [HR.out]; exact Nat.le_refl _)] at HD
              exact HD
            clear HD hlj hj
            obtain ⟨V, rfl⟩ : ∃ V, V = wr := ⟨_, rfl⟩
            go_wp2_with fail
            go_loopw [7, 9] (fun d i wv => ∃ j : Nat, j ≤ n3 ∧ i = .int .i64 j ∧ d = .bool (inG (rs ++ pkeys (ps.take j)) (k : Int)) ∧ wv = V) (fun _ i _ => n3 - (intOf i).toNat)
            case atStart => exact ⟨0, Nat.zero_le _, rfl, by rw [show pkeys (ps.take 0) = [] from rfl, List.append_nil, HQ.out], rfl⟩
            case round =>
              clear HQ
              obtain ⟨j, hj, rfl, rfl, rfl⟩ := hrel
              cases hD : inG (rs ++ pkeys (ps.take j)) (k : Int)
              all_goals
                have HD := Lib.hid hD
                clear hD
              all_goals
                by_cases hlj : j < n3
              · obtain ⟨ad, x, y, rfl, hbb, hc0, hc1, hc2, hc3, hc4, hx1, hs1⟩ := S.p.el hlj
                have hx0 := (TV.out.pk _ (List.mem_of_getElem? hx1.out)).1
                simp only at hx0
                have HK : Hid (inG (rs ++ pkeys (ps.take (j + 1))) (k : Int) = (inG (rs ++ pkeys (ps.take j)) (k : Int) || (x % 5 == (k : Int)))) := Lib.hid (by rw [pkeys_snoc hs1.out, ← List.append_assoc, inG_snoc])
                cases hxk : (x % 5 == (k : Int))
                · have HN : Hid (inG (rs ++ pkeys (ps.take (j + 1))) (k : Int) = false) := Lib.hid (by rw [HK.out, HD.out, hxk]; rfl)
                  go_wp2
                  go_roundw
                  case rel => exact ⟨j + 1, by omega, by go_num, by rw [HN.out], by simp⟩
                  case measure => simp [intOf]; omega
                · have HN : Hid (inG (rs ++ pkeys (ps.take (j + 1))) (k : Int) = true) := Lib.hid (by rw [HK.out, hxk]; simp)
                  go_wp2
                  go_roundw
                  case rel => exact ⟨j + 1, by omega, by go_num, by rw [HN.out], by simp⟩
                  case measure => simp [intOf]; omega
              · obtain rfl : n3 = j := by omega
                have HG : Hid (hasB (tgL ⟨rs, nd, ps⟩) (k : Int) = false) := by
                  rw [List.take_of_length_le (by rw [HP.out]; exact Nat.le_refl _)] at HD
                  exact Lib.hid ((tg_has HV.out (by omega) (by omega)).trans HD.out)
                clear HD
                go_wp2_with fail
                refine (hasInt_any _ _ _ _ _ _ _ o6 (by omega)).mono ?_
                rintro e w' ⟨rfl, rfl⟩
                rw [HG.out]
                go_wp2_with fail
                go_roundw
                case rel => exact ⟨k + 1, by omega, by go_num, S, o6, z6⟩
                case measure => simp [intOf]; omega
              · obtain ⟨ad, x, y, rfl, hbb, hc0, hc1, hc2, hc3, hc4, hx1, hs1⟩ := S.p.el hlj
                have HN : Hid (inG (rs ++ pkeys (ps.take (j + 1))) (k : Int) = true) := Lib.hid (by rw [pkeys_snoc hs1.out, ← List.append_assoc, inG_snoc, HD.out]; simp)
                go_wp2
                go_roundw
                case rel => exact ⟨j + 1, by omega, by go_num, by rw [HN.out], by simp⟩
                case measure => simp [intOf]; omega
              · obtain rfl : n3 = j := by omega
                have HG : Hid (hasB (tgL ⟨rs, nd, ps⟩) (k : Int) = true) := by
                  rw [List.take_of_length_le (by rw [HP.out]; exact Nat.le_refl _)] at HD
                  exact Lib.hid ((tg_has HV.out (by omega) (by omega)).trans HD.out)
                clear HD
                go_wp2_with fail
                refine (hasInt_any _ _ _ _ _ _ _ o6 (by omega)).mono ?_
                rintro e w' ⟨rfl, rfl⟩
                rw [HG.out]
                go_wp2_with fail
                go_roundw
                case rel => exact ⟨k + 1, by omega, by go_num, S, o6, z6⟩
                case measure => simp [intOf]; omega
          · obtain ⟨ad, x, rfl, hbb, hcc, hx1, hs1⟩ := S.r.elem hlj
            have HN : Hid (inG (rs.take (j + 1)) (k : Int) = true) := Lib.hid (by rw [hs1.out, inG_snoc, HD.out]; simp)
            go_wp2
            go_roundw
            case rel => exact ⟨j + 1, by omega, by go_num, by rw [HN.out], by simp⟩
            case measure => simp [intOf]; omega
          · obtain rfl : n2 = j := by omega
            have HQ : Hid (inG rs (k : Int) = true) := by
              rw [List.take_of_length_le (by rw [HR.out]; exact Nat.le_refl _)] at HD
              exact HD
            clear HD hlj hj
            obtain ⟨V, rfl⟩ : ∃ V, V = wr := ⟨_, rfl⟩
            go_wp2_with fail
            go_loopw [7, 9] (fun d i wv => ∃ j : Nat, j ≤ n3 ∧ i = .int .i64 j ∧ d = .bool (inG (rs ++ pkeys (ps.take j)) (k : Int)) ∧ wv = V) (fun _ i _ => n3 - (intOf i).toNat)
            case atStart => exact ⟨0, Nat.zero_le _, rfl, by rw [show pkeys (ps.take 0) = [] from rfl, List.append_nil, HQ.out], rfl⟩
            case round =>
              clear HQ
              obtain ⟨j, hj, rfl, rfl, rfl⟩ := hrel
              cases hD : inG (rs ++ pkeys (ps.take j)) (k : Int)
              all_goals
                have HD := Lib.hid hD
                clear hD
              all_goals
                by_cases hlj : j < n3
              · obtain ⟨ad, x, y, rfl, hbb, hc0, hc1, hc2, hc3, hc4, hx1, hs1⟩ := S.p.el hlj
                have hx0 := (TV.out.pk _ (List.mem_of_getElem? hx1.out)).1
                simp only at hx0
                have HK : Hid (inG (rs ++ pkeys (ps.take (j + 1))) (k : Int) = (inG (rs ++ pkeys (ps.take j)) (k : Int) || (x % 5 == (k : Int)))) := Lib.hid (by rw [pkeys_snoc hs1.out, ← List.append_assoc, inG_snoc])
                cases hxk : (x % 5 == (k : Int))
                · have HN : Hid (inG (rs ++ pkeys (ps.take (j + 1))) (k : Int) = false) := Lib.hid (by rw [HK.out, HD.out, hxk]; rfl)
                  go_wp2
                  go_roundw
                  case rel => exact ⟨j + 1, by omega, by go_num, by rw [HN.out], by simp⟩
                  case measure => simp [intOf]; omega
                · have HN : Hid (inG (rs ++ pkeys (ps.take (j + 1))) (k : Int) = true) := Lib.hid (by rw [HK.out, hxk]; simp)
                  go_wp2
                  go_roundw
                  case rel => exact ⟨j + 1, by omega, by go_num, by rw [HN.out], by simp⟩
                  case measure => simp [intOf]; omega
              · obtain rfl : n3 = j := by omega
                have HG : Hid (hasB (tgL ⟨rs, nd, ps⟩) (k : Int) = false) := by
                  rw [List.take_of_length_le (by rw [HP.out]; exact Nat.le_refl _)] at HD
                  exact Lib.hid ((tg_has HV.out (by omega) (by omega)).trans HD.out)
                clear HD
                go_wp2_with fail
                refine (hasInt_any _ _ _ _ _ _ _ o6 (by omega)).mono ?_
                rintro e w' ⟨rfl, rfl⟩
                rw [HG.out]
                go_wp2_with fail
                go_roundw
                case rel => exact ⟨k + 1, by omega, by go_num, S, o6, z6⟩
                case measure => simp [intOf]; omega
              · obtain ⟨ad, x, y, rfl, hbb, hc0, hc1, hc2, hc3, hc4, hx1, hs1⟩ := S.p.el hlj
                have HN : Hid (inG (rs ++ pkeys (ps.take (j + 1))) (k : Int) = true) := Lib.hid (by rw [pkeys_snoc hs1.out, ← List.append_assoc, inG_snoc, HD.out]; simp)
                go_wp2
                go_roundw
                case rel => exact ⟨j + 1, by omega, by go_num, by rw [HN.out], by simp⟩
                case measure => simp [intOf]; omega
              · obtain rfl : n3 = j := by omega
                have HG : Hid (hasB (tgL ⟨rs, nd, ps⟩) (k : Int) = true) := by
                  rw [List.take_of_length_le (by rw [HP.out]; exact Nat.le_refl _)] at HD
                  exact Lib.hid ((tg_has HV.out (by omega) (by omega)).trans HD.out)
                clear HD
                go_wp2_with fail
                refine (hasInt_any _ _ _ _ _ _ _ o6 (by omega)).mono ?_
                rintro e w' ⟨rfl, rfl⟩
                rw [HG.out]
                go_wp2_with fail
                go_roundw
                case rel => exact ⟨k + 1, by omega, by go_num, S, o6, z6⟩
                case measure => simp [intOf]; omega
      · obtain rfl : k = 5 := by omega
        have HG := Lib.hid (tg_valid HV.out)
        go_wp2_with fail
        refine (implGV_any _ _ _ _ (tgL ⟨rs, nd, ps⟩) _ o6 (by omega)).mono ?_
        rintro e w9 ⟨rfl, d9, rfl⟩
        rw [HG.out]
        go_wp2
        go_ret
        exact ⟨rfl, below_drewN (hb1.trans (S.bl.mono hb1.size)) _⟩
end Go.Proofs.Ytaelaldgohppeaa
