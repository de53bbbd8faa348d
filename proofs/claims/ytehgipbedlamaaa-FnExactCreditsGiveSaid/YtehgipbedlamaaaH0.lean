/-
  GroupsValid, the reference's.
-/
import Derived.Test.YtehgipbedlamaaaH1
import Derived.Test.YtehgipbedlamaaaV1
import Derived.Test.YtehgipbedlamaaaG1
namespace Go.Proofs.Ytehgipbedlamaaa
open Go.RowKit
set_option linter.unusedVariables false

theorem specGV_any (A : Option Addr) (n c B : Nat) (xs : List Int) (w : World) (hr : Ints w B A n xs) (hn : n ≤ 1048576) :
    Calls Try.prog 63 #[.slice A n c] w (RetB (gvB xs) w) := by
  have hlen := Lib.hid hr.len
  go_enter Try.func63, Try.ntmps63
  go_wp2
  go_loopw [3] (fun i wr => ∃ k : Nat, k ≤ n ∧ i = .int .i64 (k : Int) ∧ AscTo xs k ∧ inR (xs.take k) 0 4 = true ∧ Hid (∃ d, wr = w.drewN d) ∧ Ints wr B A n xs) (fun i _ => n - (intOf i).toNat)
  case atStart => exact ⟨0, Nat.zero_le _, rfl, asc_zero _, by simp [inR], Lib.hid ⟨0, rfl⟩, hr⟩
  case round =>
    clear hr
    obtain ⟨k, hk, rfl, hall, hin, hwd, hr⟩ := hrel
    have HA := Lib.hid hall
    have HI := Lib.hid hin
    clear hall hin
    by_cases hlt : k < n
    · obtain ⟨ad', x, rfl, hb', hc', hx, hs⟩ := hr.elem hlt
      cases h1 : inB x 0 4
      · go_wp2
        go_quiet ((go_at_call 43; exact Calls.quiet_of_same ((l1Group_any _ _).mono fun e w' h => ⟨h.1, h.2.symm⟩)))
        go_wp2
        go_ret
        exact RetB.mk (by simp [gvB, inR_false hx.out h1]) (drew_more hwd.out _)
      · obtain _ | j := k
        · have hc0 : wr.cell? ad' = some (.int .i64 x) := by
            have e : ad'.add 0 = ad' := by unfold Addr.add; simp
            rw [← e]
            exact hc'
          go_wp2
          go_quiet ((go_at_call 43; exact Calls.quiet_of_same ((l1Group_any _ _).mono fun e w' h => ⟨h.1, h.2.symm⟩)))
          go_wp2
          go_roundw
          case rel => exact ⟨1, by omega, by go_num, asc_one _, inR_snoc hs.out h1 HI.out, Lib.hid (drew_more hwd.out _), hr.drewN _⟩
          case measure => simp [intOf]; omega
        · generalize hkj : j + 1 = k at *
          obtain ⟨ad, y, hA', hb, hc, hy, _⟩ := hr.elem (k := j) (by omega)
          obtain rfl : ad' = ad := by injection hA'
          have hw1 : IntKind.i64.wrap ((k : Int) - 1) = (j : Int) := by rw [show (k : Int) - 1 = (j : Int) by omega]; exact IntWalk.i64_in _ (by omega)
          have k0 : (0 : Int) < (k : Int) := by omega
          have k0' : decide (0 < k) = true := by simp; omega
          have kn : (j : Int) < (n : Int) := by omega
          have kn' : j < n := by omega
          have KJ := Lib.hid hkj.symm
          clear hA' hkj
          by_cases hxy : x ≤ y
          · have HXY := Lib.hid hxy
            have hd : decide (x ≤ y) = true := by simp [hxy]
            clear hxy
            go_wp2
            go_quiet ((go_at_call 43; exact Calls.quiet_of_same ((l1Group_any _ _).mono fun e w' h => ⟨h.1, h.2.symm⟩)))
            go_wp2
            go_ret
            exact RetB.mk (by have := asc_break hy.out (by rw [← KJ.out]; exact hx.out) HXY.out; simp [gvB, this]) (drew_more hwd.out _)
          · have HXY := Lib.hid hxy
            have hd : decide (x ≤ y) = false := by simp; omega
            clear hxy
            go_wp2
            go_quiet ((go_at_call 43; exact Calls.quiet_of_same ((l1Group_any _ _).mono fun e w' h => ⟨h.1, h.2.symm⟩)))
            go_wp2
            go_roundw
            case rel => exact ⟨k + 1, by omega, by go_num, asc_step' HA.out KJ.out hy.out hx.out (by have := HXY.out; omega), inR_snoc hs.out h1 HI.out, Lib.hid (drew_more hwd.out _), hr.drewN _⟩
            case measure => simp [intOf]; omega
    · have : k = n := by omega
      subst this
      go_wp2
      go_ret
      exact RetB.mk (by rw [List.take_of_length_le (by rw [hlen.out]; exact Nat.le_refl _)] at HI; have h1 := HI.out; have h2 := asc_all HA.out (by rw [hlen.out]; exact Nat.le_refl _); rw [show gvB xs = decide (0 < k) by simp [gvB, h1, h2, hlen.out]]) hwd.out
end Go.Proofs.Ytehgipbedlamaaa
