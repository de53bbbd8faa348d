/-
  copyCredits, the program's.
-/
import Derived.Test.YtehgipbedlamaaaH7
import Derived.Test.YtehgipbedlamaaaRd2
namespace Go.Proofs.Ytehgipbedlamaaa
open Go.RowKit
set_option linter.unusedVariables false

theorem OwnC.nil {w : World} {base nf cf : Nat} {F : Option Addr} {free : List Int} (h : Own w base F nf cf free) : OwnC w base F nf cf none 0 0 [] ⟨free, []⟩ :=
  ⟨h, World.ownsRow_nil w base _ _, rfl, fun k r t hr => by simp at hr, fun i j r s x _ hr => by simp at hr, fun k r x hr => by simp at hr⟩
section
variable {w w' w1 w3 w4 : World} {base nf cf n c n7 c7 c3 : Nat} {F A A7 A3 : Option Addr} {R : List HR} {cx : CX} {h : HX} {k x : Nat} {r : HR}
theorem OwnC.at_ (hc : OwnC w base F nf cf A n c R cx) (hr : R[k]? = some r) : ∃ h, cx.holds[k]? = some h ∧ Own w base r.A r.n r.c h.has ∧ r.wait = h.wait ∧ r.n ≤ 1048576 := by
  have hl : k < cx.holds.length := by rw [hc.l, ← hc.rlen]; exact (List.getElem?_eq_some_iff.1 hr).1
  exact ⟨_, List.getElem?_eq_getElem hl, hc.i k r _ hr (List.getElem?_eq_getElem hl)⟩
theorem OwnC.ltR (hc : OwnC w base F nf cf A n c R cx) (hr : R[k]? = some r) (hx : blk r.A = some x) : base ≤ x ∧ x < w.heap.size := by
  obtain ⟨h, _, h2, _⟩ := hc.at_ hr
  exact h2.lt hx
theorem OwnC.lt (hc : OwnC w base F nf cf A n c R cx) (hx : blk A = some x) : base ≤ x ∧ x < w.heap.size := World.ownsRow.lt hc.o x (by rw [blk_own]; exact hx)
theorem OwnC.ltF (hc : OwnC w base F nf cf A n c R cx) (hx : blk F = some x) : base ≤ x ∧ x < w.heap.size := hc.f.lt hx
theorem OwnC.drew (hc : OwnC w base F nf cf A n c R cx) : OwnC w.drew base F nf cf A n c R cx := hc.kept (row := none) ⟨rfl, rfl, rfl, Nat.le_refl _, fun _ _ _ => rfl⟩ (fun k e => by cases e)
theorem OwnC.setBelow (hc : OwnC w base F nf cf A n c R cx) {p : Addr} (hp : p.block < base) (u : Value) : OwnC (w.setCell p u) base F nf cf A n c R cx :=
  hc.kept (row := some p.block) ⟨rfl, rfl, rfl, by simp [World.setCell], fun k _ hk => Below.heap_setCell w p u k (fun e => hk (by rw [e]))⟩ (fun k e => by injection e with e; omega)
theorem OwnC.setBox {g : Nat} {t : TypeId} {cs : Array Value} (hc : OwnC w base F nf cf A n c R cx) (hb : Blk w g t cs) (h1 : 3 ≠ t) (h2 : 47 ≠ t) (i : Nat) (u : Value) : OwnC (w.setCell ⟨g, i, none⟩ u) base F nf cf A n c R cx :=
  hc.box (g := g) ⟨rfl, rfl, rfl, by simp [World.setCell], fun k _ hk => Below.heap_setCell w ⟨g, i, none⟩ u k (fun e => hk (by rw [e]))⟩ hb h1 h2
/-- A sender's state more, whose set has been made since. -/
theorem OwnC.push {v : Int} (hc : OwnC w1 base F nf cf A n c R cx) (hB : base ≤ w1.heap.size) (hb : Below w1.heap.size w1 w4) (h1 : Own w4 w1.heap.size A7 n7 c7 h.has) (hv : v = h.wait) (hn : n7 ≤ 1048576)
    (hg : w4.grownBy w3 (blk A)) (ho : w3.ownsRow base 47 2 (.slice A3 (n + 1) c3) (n + 1) (hcv (R ++ [⟨A7, n7, c7, v⟩]))) :
    OwnC w3 base F nf cf A3 (n + 1) c3 (R ++ [⟨A7, n7, c7, v⟩]) ⟨cx.free, cx.holds ++ [h]⟩ :=
  OwnC.app (r := ⟨A7, n7, c7, v⟩) (hc.below hb) (h1.mono hB) hv hn (fun x hx => ⟨fun k s hs e => by
    have a := (hc.ltR hs e).2
    have b := (h1.lt hx).1
    omega, fun e => by
    have a := (hc.ltF e).2
    have b := (h1.lt hx).1
    omega⟩) hg ho
end
set_option maxHeartbeats 8000000 in
theorem copyC_any (F : Option Addr) (nf cf : Nat) (A : Option Addr) (n c : Nat) (R : List HR) (cx : CX) (w : World) (hc : Cr w w.heap.size F nf A n R cx) (hnf : nf ≤ 1048576) (hn : n ≤ 1048576) :
    Calls Try.prog 34 #[.agg #[.slice F nf cf, .slice A n c]] w (RetC cx w) := by
  have b0 := (Blk.new w 26 #[.slice F nf cf, .slice A n c]).alloc (.cells #[.slice none 0 0, .slice none 0 0] 26)
  have b1 := Blk.new (w.alloc (.cells #[.slice F nf cf, .slice A n c] 26)) 26 #[.slice none 0 0, .slice none 0 0]
  simp only [World.size_alloc] at b1
  have X0 := (hc.box (.cells #[.slice F nf cf, .slice A n c] 26)).box (.cells #[.slice none 0 0, .slice none 0 0] 26)
  have B0 : Below w.heap.size w ((w.alloc (.cells #[.slice F nf cf, .slice A n c] 26)).alloc (.cells #[.slice none 0 0, .slice none 0 0] 26)) := (by repeat' (first | with_reducible exact Below.refl _ _ | with_reducible assumption | with_reducible refine Below.setCell ?_ (by first | omega | (simp; done) | (simp; omega)) _ | with_reducible refine Below.alloc ?_ (by first | omega | (simp; done) | (simp; omega)) _ | with_reducible refine below_drewN ?_ _ | with_reducible refine Below.drew ?_ | (with_reducible refine Below.trans ?_ (Below.mono (by with_reducible assumption) (by first | omega | (simp; done) | (simp; omega))))))
  have z0 : w.heap.size + 2 ≤ ((w.alloc (.cells #[.slice F nf cf, .slice A n c] 26)).alloc (.cells #[.slice none 0 0, .slice none 0 0] 26)).heap.size := by simp
  have hnl := Lib.hid hc.h.l
  generalize hW : (w.alloc (.cells #[.slice F nf cf, .slice A n c] 26)).alloc (.cells #[.slice none 0 0, .slice none 0 0] 26) = W at b0 b1 X0 B0 z0
  have f0 := b0.two
  have l0 := b0.lt
  have l1 := b1.lt
  clear hc
  go_enter Try.func34, Try.ntmps34
  go_wp2_with fail
  refine (clone_any F nf cf W.heap.size cx.free W X0.f (Nat.le_refl _) hnf).mono ?_
  rintro e w2 ⟨F2, n2, c2, rfl, o2, hb2⟩
  have s2 := hb2.size
  have B2 : Below w.heap.size w w2 := B0.trans (hb2.mono (by omega))
  have p2 := b0.below hb2 l0
  have r2 := b1.below hb2 l1
  have X2 := X0.up hb2 hb2.size
  have f2 := p2.two
  have f3 := (p2.alloc (.cells #[.slice F2 n2 c2, .slice none 0 0] 26)).two
  clear hW f0
  go_wp2_with fail
  have u3 := Blk.new w2 26 #[.slice F2 n2 c2, .slice none 0 0]
  have hbG : Below W.heap.size W (w2.alloc (.cells #[.slice F2 n2 c2, .slice none 0 0] 26)) := hb2.alloc hb2.size _
  have oG : OwnC (w2.alloc (.cells #[.slice F2 n2 c2, .slice none 0 0] 26)) W.heap.size F2 n2 c2 none 0 0 [] ⟨cx.free, cx.holds.take 0⟩ := OwnC.alloc (OwnC.nil o2) _
  go_loopw [13] (fun i wr => ∃ (k : Nat) (A6 : Option Addr) (c6 : Nat) (R6 : List HR), k ≤ n ∧ i = .int .i64 k ∧ Below W.heap.size W wr ∧ Blk wr w2.heap.size 26 #[.slice F2 n2 c2, .slice A6 k c6] ∧ OwnC wr W.heap.size F2 n2 c2 A6 k c6 R6 ⟨cx.free, cx.holds.take k⟩) (fun i _ => n - (intOf i).toNat)
  case atStart => exact ⟨0, none, 0, [], Nat.zero_le _, rfl, hbG, u3, oG⟩
  case round =>
    obtain ⟨k, A6, c6, R6, hk, rfl, hbw, u, o⟩ := hrel
    clear u3 hbG oG
    have lu := u.lt
    by_cases hlt : k < n
    · have zz := hbw.size
      have X := X0.up hbw hbw.size
      have p := b0.below hbw l0
      have f := p.two
      have fu := u.two
      clear f2 f3
      obtain ⟨ad, A1, n1, c1, v, xs, rfl, hbb, hc0, hc1, hc2, hc3, hi, hn1, hk1, hs1, hR1⟩ := X.h.el hlt
      have hB := Blk.new wr 47 #[.slice A1 n1 c1, .int .i64 v]
      have oB := OwnC.alloc o (.cells #[.slice A1 n1 c1, .int .i64 v] 47)
      have uB := u.alloc (.cells #[.slice A1 n1 c1, .int .i64 v] 47)
      have iB := hi.alloc (Nat.le_refl _) (.cells #[.slice A1 n1 c1, .int .i64 v] 47)
      have BB : Below W.heap.size W (wr.alloc (.cells #[.slice A1 n1 c1, .int .i64 v] 47)) := hbw.alloc hbw.size _
      have zb : wr.heap.size < (wr.alloc (.cells #[.slice A1 n1 c1, .int .i64 v] 47)).heap.size := by simp
      go_wp2_with fail
      generalize hwb : wr.alloc (.cells #[.slice A1 n1 c1, .int .i64 v] 47) = wb at hB oB uB iB BB zb ⊢
      have KS : ∀ W', Below wb.heap.size wb W' → W'.cell? ⟨w2.heap.size, 1, none⟩ = some (.slice A6 k c6) ∧ W'.cell? ⟨wr.heap.size, 0, none⟩ = some (.slice A1 n1 c1) ∧ W'.cell? ⟨wr.heap.size, 1, none⟩ = some (.int .i64 v) := fun W' h =>
        ⟨(uB.below h uB.lt).two.2.1, (hB.below h hB.lt).two.1, (hB.below h hB.lt).two.2.1⟩
      have zbl : wr.heap.size ≤ wb.drew.heap.size := Nat.le_of_lt zb
      have iD : Ints wb.drew wr.heap.size A1 n1 xs := Reads.drew iB
      have WRW : IntKind.i64.wrap ((k : Int) + 1) = (k : Int) + 1 := IntWalk.i64_in _ (by omega)
      have fuB := uB.two
      have fhB := hB.two
      go_region_law
        (first
          | (go_simp; go_at_call 59; (with_reducible refine Calls.mono (clone_any A1 n1 c1 wr.heap.size xs _ iD zbl hn1) ?_)
             rintro e w5 ⟨A7, n7, c7, rfl, o7, hb5⟩
             have o7' : Own w5 wb.heap.size A7 n7 c7 xs := o7
             have hb5' : Below wb.heap.size wb w5 := ((Below.refl _ _).drew).trans hb5
             have s5 := hb5'.size
             have u5 := uB.below hb5' uB.lt
             have h5 := hB.below hb5' hB.lt
             have fu5 := u5.two
             have fh5 := h5.two
             have fu6 := (u5.alloc (.cells #[.slice A7 n7 c7, .int .i64 v] 47)).two
             have fh6 := (h5.alloc (.cells #[.slice A7 n7 c7, .int .i64 v] 47)).two
             have hn7 : n7 ≤ 1048576 := (by have h1 := o7'.len; have h2 := hi.len; omega))
          | (refine step_appH rfl (.tmp 18) (.tmp 25) rfl W.heap.size (A := A6) (n := k) (c := c6) (R := R6) rfl (show World.ownsRow _ _ _ _ _ _ _ from (OwnC.alloc (OwnC.below oB hb5') (.cells #[.slice A7 n7 c7, .int .i64 v] 47)).o) (w5.heap.size + 1) (some ⟨w5.heap.size, 0, none⟩) 1 _ [⟨A7, n7, c7, v⟩] (by rfl) (Reads.hold1 ⟨A7, n7, c7, v⟩ (by first | omega | (simp; done) | (simp; omega))) (by omega) (by simp; omega) ?_
             intro A8 c8 w8 o8 hg8 at8
             have u8 := Blk.grown (show Blk _ w2.heap.size 26 #[.slice F2 n2 c2, .slice A6 k c6] from (uB.below hb5' uB.lt).alloc (.cells #[.slice A7 n7 c7, .int .i64 v] 47)) hg8 (fun e => own_ne_box o.o u (by decide) e.symm)
             have f8 := u8.two
             have l8 := u8.lt
             have h8 := Blk.grown (show Blk _ wr.heap.size 47 #[.slice A1 n1 c1, .int .i64 v] from (hB.below hb5' hB.lt).alloc (.cells #[.slice A7 n7 c7, .int .i64 v] 47)) hg8 (fun e => by have := (OwnC.lt o e.symm).2; omega)
             have st8 : Below W.heap.size W w8 := Below.grown ((BB.trans (hb5'.mono (show W.heap.size ≤ _ by omega))).alloc (show W.heap.size ≤ _ by omega) (.cells #[.slice A7 n7 c7, .int .i64 v] 47)) hg8 (by simp; omega) (fun j hj => (OwnC.lt oB hj).1)
             have P8 := OwnC.push (h := ⟨xs, v⟩) (v := v) oB (show W.heap.size ≤ wb.heap.size by omega) (hb5'.alloc s5 (.cells #[.slice A7 n7 c7, .int .i64 v] 47)) (Own.alloc o7' _) rfl hn7 hg8 o8
             rw [show (cx.holds.take k ++ [⟨xs, v⟩] : List HX) = cx.holds.take (k + 1) from hs1.out.symm] at P8))
      all_goals
        go_wp2_with fail
        go_roundw
        case rel => exact ⟨k + 1, A8, c8, _, by omega, by go_num, st8.setCell (show W.heap.size ≤ w2.heap.size from s2) _, u8.set_ 1 _, OwnC.setBox P8 u8 (by decide) (by decide) 1 _⟩
        case measure => simp [intOf]; omega
    · obtain rfl : k = n := by omega
      rw [List.take_of_length_le (by rw [hnl.out]; exact Nat.le_refl _)] at o
      have r := b1.below hbw l1
      have f := (b0.below hbw l0).two
      have fu := u.two
      have fr := r.two
      have HB : Below w.heap.size w wr := B0.trans (hbw.mono (by omega))
      have r9 := (r.set_ 0 (.slice F2 n2 c2)).set_ 1 (.slice A6 k c6)
      have f9 := r9.two
      go_wp2_with fail
      exact bodyPost_ret (v := .agg #[.slice F2 n2 c2, .slice A6 k c6]) (by simp [results, Try.results34, go_sem, f9]) rfl
        ⟨F2, n2, c2, A6, k, c6, R6, rfl, (OwnC.setBelow (OwnC.setBelow o (by first | omega | (simp; done) | (simp; omega)) _) (by first | omega | (simp; done) | (simp; omega)) _).mono (by first | omega | (simp; done) | (simp; omega)), (by repeat' (first | with_reducible exact Below.refl _ _ | with_reducible assumption | with_reducible refine Below.setCell ?_ (by first | omega | (simp; done) | (simp; omega)) _ | with_reducible refine Below.alloc ?_ (by first | omega | (simp; done) | (simp; omega)) _ | with_reducible refine below_drewN ?_ _ | with_reducible refine Below.drew ?_ | (with_reducible refine Below.trans ?_ (Below.mono (by with_reducible assumption) (by first | omega | (simp; done) | (simp; omega))))))⟩
end Go.Proofs.Ytehgipbedlamaaa
