/-
  l22Copy, the reference's.
-/
import Derived.Test.YtehgipbedlamaaaH8
namespace Go.Proofs.Ytehgipbedlamaaa
open Go.RowKit
set_option linter.unusedVariables false

set_option maxHeartbeats 8000000 in
theorem l22Copy_any (F : Option Addr) (nf cf : Nat) (A : Option Addr) (n c : Nat) (R : List HR) (cx : CX) (w : World) (hc : Cr w w.heap.size F nf A n R cx) (hnf : nf ≤ 1048576) (hn : n ≤ 1048576) :
    Calls Try.prog 39 #[.agg #[.slice F nf cf, .slice A n c]] w (RetC cx w) := by
  have b0 := (Blk.new w 26 #[.slice F nf cf, .slice A n c]).alloc (.cells #[.slice none 0 0, .slice none 0 0] 26)
  have b1 := Blk.new (w.alloc (.cells #[.slice F nf cf, .slice A n c] 26)) 26 #[.slice none 0 0, .slice none 0 0]
  simp only [World.size_alloc] at b1
  have X0 := (hc.box (.cells #[.slice F nf cf, .slice A n c] 26)).box (.cells #[.slice none 0 0, .slice none 0 0] 26)
  have B0 : Below w.heap.size w ((w.alloc (.cells #[.slice F nf cf, .slice A n c] 26)).alloc (.cells #[.slice none 0 0, .slice none 0 0] 26)) := (by repeat' (first | with_reducible exact Below.refl _ _ | with_reducible assumption | with_reducible refine Below.setCell ?_ (by first | omega | (simp; done) | (simp; omega)) _ | with_reducible refine Below.alloc ?_ (by first | omega | (simp; done) | (simp; omega)) _ | with_reducible refine below_drewN ?_ _ | with_reducible refine Below.drew ?_ | (with_reducible refine Below.trans ?_ (Below.mono (by with_reducible assumption) (by first | omega | (simp; done) | (simp; omega))))))
  have z0 : w.heap.size + 2 ≤ ((w.alloc (.cells #[.slice F nf cf, .slice A n c] 26)).alloc (.cells #[.slice none 0 0, .slice none 0 0] 26)).heap.size := by simp
  have hnl := Lib.hid hc.h.l
  generalize hW : (w.alloc (.cells #[.slice F nf cf, .slice A n c] 26)).alloc (.cells #[.slice none 0 0, .slice none 0 0] 26) = W at b0 b1 X0 B0 z0
  have f0 := (b0.alloc (.cells #[] 3)).two
  have iF := X0.f.alloc (Nat.le_refl _) (.cells #[] 3)
  have l0 := b0.lt
  have l1 := b1.lt
  have zF : W.heap.size ≤ (W.alloc (.cells #[] 3)).heap.size := by simp
  have oL : Own (W.alloc (.cells #[] 3)) W.heap.size (some ⟨W.heap.size, 0, none⟩) 0 0 [] := Own.lit0 rfl (Nat.le_refl _)
  have bL : Below W.heap.size W (W.alloc (.cells #[] 3)) := (Below.refl _ _).alloc (Nat.le_refl _) _
  clear hc
  go_enter Try.func39, Try.ntmps39
  go_wp2_with (first
    | (at_builtin; refine app1 rfl _ _ rfl W.heap.size rfl oL W.heap.size F nf cf cx.free rfl iF (by omega) (by omega) ?_
       intro F2 c2 w2 o2 hg2 at2
       have hb2 : Below W.heap.size W w2 := Below.grown bL hg2 zF (fun j hj => (oL.lt hj).1)
       have s2 := hb2.size
       simp only [Nat.zero_add, List.nil_append] at o2 ⊢
       have f2 := (b0.below hb2 l0).two
       have f3 := ((b0.below hb2 l0).alloc (.cells #[.slice F2 nf c2, .slice none 0 0] 26)).two))
  clear hW f0 iF f2 f3 oL bL zF hg2 at2
  have u3 := Blk.new w2 26 #[.slice F2 nf c2, .slice none 0 0]
  have hbG : Below W.heap.size W (w2.alloc (.cells #[.slice F2 nf c2, .slice none 0 0] 26)) := hb2.alloc hb2.size _
  have oG : OwnC (w2.alloc (.cells #[.slice F2 nf c2, .slice none 0 0] 26)) W.heap.size F2 nf c2 none 0 0 [] ⟨cx.free, cx.holds.take 0⟩ := OwnC.alloc (OwnC.nil o2) _
  go_loopw [4] (fun i wr => ∃ (k : Nat) (A6 : Option Addr) (c6 : Nat) (R6 : List HR), k ≤ n ∧ i = .int .i64 k ∧ Below W.heap.size W wr ∧ Blk wr w2.heap.size 26 #[.slice F2 nf c2, .slice A6 k c6] ∧ OwnC wr W.heap.size F2 nf c2 A6 k c6 R6 ⟨cx.free, cx.holds.take k⟩) (fun i _ => n - (intOf i).toNat)
  case atStart => exact ⟨0, none, 0, [], Nat.zero_le _, rfl, hbG, u3, oG⟩
  case round =>
    obtain ⟨k, A6, c6, R6, hk, rfl, hbw, u, o⟩ := hrel
    clear u3 hbG oG
    have lu := u.lt
    have zz := hbw.size
    have p := b0.below hbw l0
    have f := p.two
    by_cases hlt : k < n
    · have X := X0.up hbw hbw.size
      obtain ⟨ad, A1, n1, c1, v, xs, rfl, hbb, hc0, hc1, hc2, hc3, hi, hn1, hk1, hs1, hR1⟩ := X.h.el hlt
      have hxl : Hid (xs.length = n1) := Lib.hid hi.len
      have hB := Blk.new wr 47 #[.slice A1 n1 c1, .int .i64 v]
      have oB := OwnC.alloc o (.cells #[.slice A1 n1 c1, .int .i64 v] 47)
      have uB := u.alloc (.cells #[.slice A1 n1 c1, .int .i64 v] 47)
      have iB := hi.alloc (Nat.le_refl _) (.cells #[.slice A1 n1 c1, .int .i64 v] 47)
      have BB : Below W.heap.size W (wr.alloc (.cells #[.slice A1 n1 c1, .int .i64 v] 47)) := hbw.alloc hbw.size _
      have zb : wr.heap.size < (wr.alloc (.cells #[.slice A1 n1 c1, .int .i64 v] 47)).heap.size := by simp
      go_upto_region 6 with (fail)
      have hbB : Below wr.heap.size wr (wr.alloc (.cells #[.slice A1 n1 c1, .int .i64 v] 47)) := (Below.refl _ _).alloc (Nat.le_refl _) _
      generalize hwb : wr.alloc (.cells #[.slice A1 n1 c1, .int .i64 v] 47) = wb at hB oB uB iB BB zb hbB ⊢
      clear hwb
      have fC := (hB.alloc (.cells #[] 3)).two
      have iC := iB.alloc (Nat.le_of_lt zb) (.cells #[] 3)
      have oL : Own (wb.alloc (.cells #[] 3)) wb.heap.size (some ⟨wb.heap.size, 0, none⟩) 0 0 [] := Own.lit0 rfl (Nat.le_refl _)
      have bL : Below wb.heap.size wb (wb.alloc (.cells #[] 3)) := (Below.refl _ _).alloc (Nat.le_refl _) _
      have zL : wb.heap.size ≤ (wb.alloc (.cells #[] 3)).heap.size := by simp
      go_wp2_with (first
        | (at_builtin
           refine app1 rfl _ _ rfl wb.heap.size rfl oL wr.heap.size A1 n1 c1 xs rfl iC (by omega) zL ?_
           intro A7 c7 w5 o7 hg7 at7
           have hb5 : Below wb.heap.size wb w5 := Below.grown bL hg7 zL (fun j hj => (oL.lt hj).1)
           have s5 := hb5.size
           simp only [Nat.zero_add, List.nil_append] at o7 ⊢
           have h5 := hB.below hb5 hB.lt
           have u5 := uB.below hb5 uB.lt
           have f5 := h5.two
           have l5 := h5.lt
           have o6 := OwnC.below o ((hbB.trans (hb5.mono (show wr.heap.size ≤ _ by omega))).setCell (Nat.le_refl wr.heap.size) (p := ⟨wr.heap.size, 0, none⟩) (.slice A7 n1 c7))
           have h6 := h5.set_ 0 (.slice A7 n1 c7)
           have u6 := u5.far (p := ⟨wr.heap.size, 0, none⟩) (by simp; omega) (.slice A7 n1 c7)
           have fh6 := h6.two
           have fu6 := u6.two
           have fh7 := (h6.alloc (.cells #[.slice A7 n1 c7, .int .i64 v] 47)).two
           have fu7 := (u6.alloc (.cells #[.slice A7 n1 c7, .int .i64 v] 47)).two)
        | (at_builtin
           go_loud (
           refine appH rfl _ _ rfl W.heap.size (A := A6) (n := k) (c := c6) (R := R6) rfl ?_ ((w5.setCell ⟨wr.heap.size, 0, none⟩ (.slice A7 n1 c7)).heap.size + 1) (some ⟨w5.heap.size, 0, none⟩) 1 1 [⟨A7, n1, c7, v⟩] ?_ ?_ ?_ ?_ ?_
           · exact (OwnC.alloc o6 (.cells #[.slice A7 n1 c7, .int .i64 v] 47)).o
           · rfl
           · exact Reads.hold1 ⟨A7, n1, c7, v⟩ (by simp)
           · omega
           · simp; omega
           intro A8 c8 w8 o8 hg8 at8
           have u8 := Blk.grown (show Blk _ w2.heap.size 26 #[.slice F2 nf c2, .slice A6 k c6] from u6.alloc (.cells #[.slice A7 n1 c7, .int .i64 v] 47)) hg8 (fun e => own_ne_box o.o u (by decide) e.symm)
           have f8 := u8.two
           have l8 := u8.lt
           have st8 : Below W.heap.size W w8 := Below.grown (((BB.trans (hb5.mono (show W.heap.size ≤ _ by omega))).setCell (show W.heap.size ≤ wr.heap.size from zz) _).alloc (show W.heap.size ≤ _ by simp; omega) (.cells #[.slice A7 n1 c7, .int .i64 v] 47)) hg8 (by simp; omega) (fun j hj => (OwnC.lt oB hj).1)
           have P8 := OwnC.push (h := ⟨xs, v⟩) (v := v) o (show W.heap.size ≤ wr.heap.size by omega) (((hbB.trans (hb5.mono (show wr.heap.size ≤ _ by omega))).setCell (Nat.le_refl _) _).alloc (show wr.heap.size ≤ _ by simp; omega) (.cells #[.slice A7 n1 c7, .int .i64 v] 47)) (Own.alloc ((Own.mono o7 (Nat.le_of_lt zb)).setCell (fun j hj e => by have := (o7.lt hj).1; simp at e; omega) _) _) rfl hn1 hg8 o8
           rw [show (cx.holds.take k ++ [⟨xs, v⟩] : List HX) = cx.holds.take (k + 1) from hs1.out.symm] at P8)))
      go_roundw
      case rel => exact ⟨k + 1, A8, c8, _, by omega, by go_num, st8.setCell (show W.heap.size ≤ w2.heap.size from s2) _, u8.set_ 1 _, OwnC.setBox P8 u8 (by decide) (by decide) 1 _⟩
      case measure => simp [intOf]; omega
    · obtain rfl : k = n := by omega
      rw [List.take_of_length_le (by rw [hnl.out]; exact Nat.le_refl _)] at o
      have r := b1.below hbw l1
      have fu := u.two
      have fr := r.two
      have HB : Below w.heap.size w wr := B0.trans (hbw.mono (by omega))
      have r9 := (r.set_ 0 (.slice F2 nf c2)).set_ 1 (.slice A6 k c6)
      have f9 := r9.two
      go_wp2_with fail
      exact bodyPost_ret (v := .agg #[.slice F2 nf c2, .slice A6 k c6]) (by simp [results, Try.results39, go_sem, f9]) rfl
        ⟨F2, nf, c2, A6, k, c6, R6, rfl, (OwnC.setBelow (OwnC.setBelow o (by first | omega | (simp; done) | (simp; omega)) _) (by first | omega | (simp; done) | (simp; omega)) _).mono (by first | omega | (simp; done) | (simp; omega)), (by repeat' (first | with_reducible exact Below.refl _ _ | with_reducible assumption | with_reducible refine Below.setCell ?_ (by first | omega | (simp; done) | (simp; omega)) _ | with_reducible refine Below.alloc ?_ (by first | omega | (simp; done) | (simp; omega)) _ | with_reducible refine below_drewN ?_ _ | with_reducible refine Below.drew ?_ | (with_reducible refine Below.trans ?_ (Below.mono (by with_reducible assumption) (by first | omega | (simp; done) | (simp; omega))))))⟩
end Go.Proofs.Ytehgipbedlamaaa
