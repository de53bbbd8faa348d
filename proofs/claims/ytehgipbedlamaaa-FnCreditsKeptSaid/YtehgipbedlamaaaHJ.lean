/-
  CreditsNew, the reference's, where it makes credits.
-/
import Derived.Test.YtehgipbedlamaaaHC
namespace Go.Proofs.Ytehgipbedlamaaa
open Go.RowKit
set_option linter.unusedVariables false

set_option maxHeartbeats 8000000 in
theorem new_any (F : Option Addr) (nf cf : Nat) (free : List Int) (m : Nat) (w : World) (hF : Ints w w.heap.size F nf free) (hfr : frB free = true) (hm1 : 1 ≤ m) (hm6 : m ≤ 6) :
    Calls Try.prog 57 #[.slice F nf cf, .int .i64 m] w (RetCB ⟨free, List.replicate m hz⟩ true w) := by
  obtain rfl : nf = 5 := by have h1 := hF.len; have h2 := hfr; simp only [frB, Bool.and_eq_true, decide_eq_true_eq] at h2; omega
  have b1 := Blk.new w 26 #[.slice none 0 0, .slice none 0 0]
  have iF := hF.box (.cells #[.slice none 0 0, .slice none 0 0] 26)
  have B0 : Below w.heap.size w (w.alloc (.cells #[.slice none 0 0, .slice none 0 0] 26)) := (by repeat' (first | with_reducible exact Below.refl _ _ | with_reducible assumption | with_reducible refine Below.setCell ?_ (by first | omega | (simp; done) | (simp; omega)) _ | with_reducible refine Below.alloc ?_ (by first | omega | (simp; done) | (simp; omega)) _ | with_reducible refine below_drewN ?_ _ | with_reducible refine Below.drew ?_ | (with_reducible refine Below.trans ?_ (Below.mono (by with_reducible assumption) (by first | omega | (simp; done) | (simp; omega))))))
  have z0 : w.heap.size + 1 ≤ (w.alloc (.cells #[.slice none 0 0, .slice none 0 0] 26)).heap.size := by simp
  generalize hW : w.alloc (.cells #[.slice none 0 0, .slice none 0 0] 26) = W at b1 iF B0 z0
  have l1 := b1.lt
  have iA := iF.alloc (Nat.le_refl _) (.cells #[] 3)
  have oL : Own (W.alloc (.cells #[] 3)) W.heap.size (some ⟨W.heap.size, 0, none⟩) 0 0 [] := Own.lit0 rfl (Nat.le_refl _)
  have bL : Below W.heap.size W (W.alloc (.cells #[] 3)) := (Below.refl _ _).alloc (Nat.le_refl _) _
  have zL : W.heap.size ≤ (W.alloc (.cells #[] 3)).heap.size := by simp
  have HM := Lib.hid (show inB (m : Int) 1 6 = true by simp [inB]; omega)
  go_enter Try.func57, Try.ntmps57
  go_wp2_with (first
    | (go_at_call 62; refine (l22Free_any F 5 cf W.heap.size free _ iF (by omega)).mono ?_; rintro e w' ⟨rfl, rfl⟩; rw [hfr])
    | (go_at_call 38; refine (l6In_any _ _ _ _).mono ?_; rintro e w' ⟨rfl, rfl⟩; rw [HM.out])
    | (at_builtin; refine app1 rfl _ _ rfl W.heap.size rfl oL W.heap.size F 5 cf free rfl iA (by omega) (by omega) ?_
       intro F2 c2 w2 o2 hg2 at2
       have hb2 : Below W.heap.size W w2 := Below.grown bL hg2 zL (fun j hj => (oL.lt hj).1)
       have s2 := hb2.size
       simp only [Nat.zero_add, List.nil_append] at o2 ⊢))
  clear hW iA oL bL zL hg2 at2
  have u3 := Blk.new w2 26 #[.slice F2 5 c2, .slice none 0 0]
  have hbG : Below W.heap.size W (w2.alloc (.cells #[.slice F2 5 c2, .slice none 0 0] 26)) := hb2.alloc hb2.size _
  have oG : OwnC (w2.alloc (.cells #[.slice F2 5 c2, .slice none 0 0] 26)) W.heap.size F2 5 c2 none 0 0 [] ⟨free, List.replicate 0 hz⟩ := OwnC.alloc (OwnC.nil o2) _
  go_loopw [7] (fun i wr => ∃ (k : Nat) (A6 : Option Addr) (c6 : Nat) (R6 : List HR), k ≤ m ∧ i = .int .i64 k ∧ Below W.heap.size W wr ∧ Blk wr w2.heap.size 26 #[.slice F2 5 c2, .slice A6 k c6] ∧ OwnC wr W.heap.size F2 5 c2 A6 k c6 R6 ⟨free, List.replicate k hz⟩) (fun i _ => m - (intOf i).toNat)
  case atStart => exact ⟨0, none, 0, [], Nat.zero_le _, rfl, hbG, u3, oG⟩
  case round =>
    obtain ⟨k, A6, c6, R6, hk, rfl, hbw, u, o⟩ := hrel
    clear u3 hbG oG
    have zz := hbw.size
    by_cases hlt : k < m
    · have fu := u.two
      have gk : (k : Int) < (m : Int) := by omega
      have oL : Own (wr.alloc (.cells #[] 3)) wr.heap.size (some ⟨wr.heap.size, 0, none⟩) 0 0 [] := Own.lit0 rfl (Nat.le_refl _)
      have bL : Below wr.heap.size wr (wr.alloc (.cells #[] 3)) := (Below.refl _ _).alloc (Nat.le_refl _) _
      have zL : wr.heap.size ≤ (wr.alloc (.cells #[] 3)).heap.size := by simp
      have uB := (u.alloc (.cells #[] 3)).alloc (.cells #[.slice (some ⟨wr.heap.size, 0, none⟩) 0 0, .int .i64 (-1)] 47)
      have oB := (o.alloc (.cells #[] 3)).alloc (.cells #[.slice (some ⟨wr.heap.size, 0, none⟩) 0 0, .int .i64 (-1)] 47)
      have BB : Below wr.heap.size wr ((wr.alloc (.cells #[] 3)).alloc (.cells #[.slice (some ⟨wr.heap.size, 0, none⟩) 0 0, .int .i64 (-1)] 47)) := bL.alloc zL _
      have oLL := oL.alloc (.cells #[.slice (some ⟨wr.heap.size, 0, none⟩) 0 0, .int .i64 (-1)] 47)
      have hR := Reads.hold1 (w := wr.alloc (.cells #[] 3)) (g := (wr.alloc (.cells #[] 3)).heap.size) ⟨some ⟨wr.heap.size, 0, none⟩, 0, 0, -1⟩ rfl
      simp only [World.size_alloc] at hR
      have fuB := uB.two
      go_wp2_with (first
        | (at_builtin; refine appH rfl _ _ rfl W.heap.size (A := A6) (n := k) (c := c6) (R := R6) rfl oB.o (wr.heap.size + 1 + 1) (some ⟨wr.heap.size + 1, 0, none⟩) 1 _ [⟨some ⟨wr.heap.size, 0, none⟩, 0, 0, -1⟩] (by rfl) hR (by omega) (by simp; omega) ?_
           intro A8 c8 w8 o8 hg8 at8
           have u8 := Blk.grown uB hg8 (fun e => own_ne_box o.o u (by decide) e.symm)
           have f8 := u8.two
           have l8 := u8.lt
           have st8 : Below W.heap.size W w8 := Below.grown (hbw.trans (BB.mono zz)) hg8 (by simp; omega) (fun j hj => (OwnC.lt oB hj).1)
           have P8 := OwnC.push (h := hz) (v := -1) o (show W.heap.size ≤ wr.heap.size by omega) BB oLL rfl (by omega) hg8 o8))
      rw [show (List.replicate k hz ++ [hz] : List HX) = List.replicate (k + 1) hz from List.replicate_succ'.symm] at P8
      go_roundw
      case rel => exact ⟨k + 1, A8, c8, _, by omega, by go_num, st8.setCell (show W.heap.size ≤ w2.heap.size from s2) _, u8.set_ 1 _, OwnC.setBox P8 u8 (by decide) (by decide) 1 _⟩
      case measure => first | (simp [intOf]; done) | (simp [intOf]; omega)
    · obtain rfl : k = m := by omega
      have r := b1.below hbw l1
      have fu := u.two
      have fr := r.two
      have HB : Below w.heap.size w wr := B0.trans (hbw.mono (by omega))
      have r9 := (r.set_ 0 (.slice F2 5 c2)).set_ 1 (.slice A6 k c6)
      have f9 := r9.two
      go_wp2_with fail
      exact bodyPost_ret (v := .tuple #[.agg #[.slice F2 5 c2, .slice A6 k c6], .bool true]) (by simp [results, Try.results57, go_sem, f9]) rfl
        (RetCB.mk (OwnC.setBelow (OwnC.setBelow o (by first | omega | (simp; done) | (simp; omega)) _) (by first | omega | (simp; done) | (simp; omega)) _) ((HB.setCell (by simp) _).setCell (by simp) _) (by omega) rfl rfl)
end Go.Proofs.Ytehgipbedlamaaa
