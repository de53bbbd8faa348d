/-
  Copies in the program's types: toCredits.
-/
import Derived.Test.YtehgipbedlamaaaHV
import Derived.Test.YtehgipbedlamaaaHB
namespace Go.Proofs.Ytehgipbedlamaaa
open Go.RowKit
set_option linter.unusedVariables false

def zeroHR : HR := ⟨none, 0, 0, 0⟩
def zeroHX : HX := ⟨[], 0⟩
section
variable {ops : Array Oper} {rest : List Oper} {Q : Exit → Act → World → Prop} {o : Oper} {a : Act} {w : World}
/-- make([]Hold, n). -/
theorem mknH (hgd : o.guard = none) (l c : Operand) (hop : o.op = Op.makeSlice 24 l c) (base : Nat) (kl kc : IntKind) (L C : Int) (n : Nat)
    (hl : a.eval l = .int kl L) (hc : a.eval c = .int kc C) (hL : L = (n : Int)) (hC : C = (n : Int)) (hn : n ≤ 1048576) (hb : base ≤ w.heap.size)
    (h : ∀ w', w'.ownsRow base 47 2 (.slice (some ⟨w.heap.size, 0, none⟩) n n) n (hcv (List.replicate n zeroHR)) → w.grownBy w' none → wpList Try.prog ops Q rest (a.put o.dst (.slice (some ⟨w.heap.size, 0, none⟩) n n)) w') :
    wpList Try.prog ops Q (o :: rest) a w := by
  obtain ⟨i0, hi, hz0, hz1, hz2⟩ := info_parts hold_info
  refine wpList_make_full w hgd l c 24 hop base 47 i0 (.agg #[.slice none 0 0, .int .i64 0]) 2 Try.underlying24 hi hz0 hz1 kl kc L C n hl hc hL hC (by rw [hz2]; omega) (by unfold maxLen; omega) hb ?_
  intro w' ho hg
  refine h w' ?_ hg
  have hx : ∀ n : Nat, (hcv (List.replicate n zeroHR)).length = n * 2 := fun n => by rw [hcv_length]; simp
  have hy : ∀ (n i : Nat), i < n → (hcv (List.replicate n zeroHR))[i * 2]? = some (.slice none 0 0) ∧ (hcv (List.replicate n zeroHR))[i * 2 + 1]? = some (.int .i64 0) := fun n i hi => hcv_get (R := List.replicate n zeroHR) (k := i) (r := zeroHR) (by simp [hi])
  have e : (madeCells (Value.agg #[.slice none 0 0, .int .i64 0]).cells (n * 2)).toList = hcv (List.replicate n zeroHR) := by
    simp only [madeCells, Value.cells]
    refine List.ext_getElem? (fun i => ?_)
    by_cases hi : i < n * 2
    · obtain ⟨y0, y1⟩ := hy n (i / 2) (by omega)
      rcases (by omega : i % 2 = 0 ∨ i % 2 = 1) with e | e
      · have hi3 : i = i / 2 * 2 := by omega
        rw [← hi3] at y0
        rw [y0]; simp [hi, e]
      · have hi3 : i = i / 2 * 2 + 1 := by omega
        rw [← hi3] at y1
        rw [y1]; simp [hi, e]
    · rw [List.getElem?_eq_none (by simp; omega), List.getElem?_eq_none (by rw [hx]; omega)]
  rw [← e]
  exact ho
end
theorem OwnC.made {w : World} {base g n : Nat} (h : w.ownsRow base 47 2 (.slice (some ⟨g, 0, none⟩) n n) n (hcv (List.replicate n zeroHR))) : OwnC w base none 0 0 (some ⟨g, 0, none⟩) n n (List.replicate n zeroHR) ⟨[], List.replicate n zeroHX⟩ := by
  have key : ∀ {k : Nat} {r : HR}, (List.replicate n zeroHR)[k]? = some r → r = zeroHR := fun h => List.eq_of_mem_replicate (List.mem_of_getElem? h)
  refine ⟨Own.nil _ _, h, by simp, fun k r t hr ht => ?_, fun i j r s x _ hr _ hx => ?_, fun k r x hr hx => ?_⟩
  · rw [key hr, List.eq_of_mem_replicate (List.mem_of_getElem? ht)]
    exact ⟨Own.nil _ _, rfl, by simp [zeroHR]⟩
  · rw [key hr] at hx; simp [zeroHR, blk] at hx
  · rw [key hr] at hx; simp [zeroHR, blk] at hx
theorem OwnC.withF {w : World} {base base' nf cf n c : Nat} {F A : Option Addr} {R : List HR} {hs : List HX} {free : List Int} (h : OwnC w base' none 0 0 A n c R ⟨[], hs⟩) (hF : Own w base F nf cf free) (hb : base ≤ base') (hlt : ∀ x, blk F = some x → x < base') : OwnC w base F nf cf A n c R ⟨free, hs⟩ :=
  ⟨hF, (h.mono hb).o, h.l, (h.mono hb).i, h.d, fun k r x hr hx e => by have := (h.ltR hr hx).1; have := hlt x e; omega⟩
/-- What a sender's copy hands back. -/
def RetH (xs : List Int) (v : Int) (w : World) (e : Ending) (w' : World) : Prop := ∃ A n c, e = .returned (.agg #[.slice A n c, .int .i64 v]) ∧ Own w' w.heap.size A n c xs ∧ Below w.heap.size w w'
set_option maxHeartbeats 2000000 in
theorem toHold_any (A : Option Addr) (n c : Nat) (v : Int) (xs : List Int) (w : World) (hx : Ints w w.heap.size A n xs) (hn : n ≤ 1048576) :
    Calls Try.prog 68 #[.agg #[.slice A n c, .int .i64 v]] w (RetH xs v w) := by
  have b0 := ((Blk.new w 83 #[.slice A n c, .int .i64 v]).alloc (.cells #[.slice none 0 0, .int .i64 0] 47)).alloc (.cells #[.slice none 0 0, .int .i64 0] 47)
  have b1 := (Blk.new (w.alloc (.cells #[.slice A n c, .int .i64 v] 83)) 47 #[.slice none 0 0, .int .i64 0]).alloc (.cells #[.slice none 0 0, .int .i64 0] 47)
  have b2 := Blk.new ((w.alloc (.cells #[.slice A n c, .int .i64 v] 83)).alloc (.cells #[.slice none 0 0, .int .i64 0] 47)) 47 #[.slice none 0 0, .int .i64 0]
  simp only [World.size_alloc] at b1 b2
  have X0 := ((hx.box (.cells #[.slice A n c, .int .i64 v] 83)).box (.cells #[.slice none 0 0, .int .i64 0] 47)).box (.cells #[.slice none 0 0, .int .i64 0] 47)
  have B0 : Below w.heap.size w (((w.alloc (.cells #[.slice A n c, .int .i64 v] 83)).alloc (.cells #[.slice none 0 0, .int .i64 0] 47)).alloc (.cells #[.slice none 0 0, .int .i64 0] 47)) := (by repeat' (first | with_reducible exact Below.refl _ _ | with_reducible assumption | with_reducible refine Below.setCell ?_ (by first | omega | (simp; done) | (simp; omega)) _ | with_reducible refine Below.alloc ?_ (by first | omega | (simp; done) | (simp; omega)) _ | with_reducible refine below_drewN ?_ _ | with_reducible refine Below.drew ?_ | (with_reducible refine Below.trans ?_ (Below.mono (by with_reducible assumption) (by first | omega | (simp; done) | (simp; omega))))))
  have z0 : w.heap.size + 3 ≤ (((w.alloc (.cells #[.slice A n c, .int .i64 v] 83)).alloc (.cells #[.slice none 0 0, .int .i64 0] 47)).alloc (.cells #[.slice none 0 0, .int .i64 0] 47)).heap.size := by simp
  generalize hW : ((w.alloc (.cells #[.slice A n c, .int .i64 v] 83)).alloc (.cells #[.slice none 0 0, .int .i64 0] 47)).alloc (.cells #[.slice none 0 0, .int .i64 0] 47) = W at b0 b1 b2 X0 B0 z0
  have f0 := b0.two
  have f1 := b1.two
  have f2 := b2.two
  go_enter Try.func68, Try.ntmps68
  go_wp2_with fail
  refine (toIntS_r A n c xs W X0 hn).mono ?_
  rintro e w2 ⟨A7, n7, c7, rfl, o7, hb2⟩
  have c0 := b0.below hb2 b0.lt
  have c1 := b1.below hb2 b1.lt
  have c2 := b2.below hb2 b2.lt
  have HB : Below w.heap.size w w2 := B0.trans (hb2.mono (by omega))
  have z2 := HB.size
  clear hW f0 f1 f2
  have g0 := c0.two
  have g1 := c1.two
  have g2 := c2.two
  have d0 := (c0.far (p := ⟨w.heap.size + 1 + 1, 0, none⟩) (show w.heap.size ≠ w.heap.size + 1 + 1 by omega) (.slice A7 n7 c7)).two
  have d2 := (c2.set_ 0 (.slice A7 n7 c7)).two
  have e2 := ((c2.set_ 0 (.slice A7 n7 c7)).set_ 1 (.int .i64 v)).two
  have c1' := (c1.far (p := ⟨w.heap.size + 1 + 1, 0, none⟩) (show w.heap.size + 1 ≠ w.heap.size + 1 + 1 by omega) (.slice A7 n7 c7)).far (p := ⟨w.heap.size + 1 + 1, 1, none⟩) (show w.heap.size + 1 ≠ w.heap.size + 1 + 1 by omega) (.int .i64 v)
  have e1 := c1'.two
  have q1 := ((c1'.set_ 0 (.slice A7 n7 c7)).set_ 1 (.int .i64 v)).two
  go_wp2_with fail
  refine bodyPost_ret (v := .agg #[.slice A7 n7 c7, .int .i64 v]) (by simp [results, Try.results68, go_sem, q1]) rfl ⟨A7, n7, c7, rfl, ?_, ?_⟩
  · exact ((((o7.setBelow (by simp; omega) _).setBelow (by simp; omega) _).setBelow (by simp; omega) _).setBelow (by simp; omega) _).mono (by omega)
  · exact (((HB.setCell (by simp; omega) _).setCell (by simp; omega) _).setCell (by simp) _).setCell (by simp) _
def RetHS (hs : List HX) (w : World) (e : Ending) (w' : World) : Prop := ∃ A n c R, e = .returned (.slice A n c) ∧ OwnC w' w.heap.size none 0 0 A n c R ⟨[], hs⟩ ∧ Below w.heap.size w w'
theorem set_mid' {α : Type} (S : List α) (z x : α) (n k : Nat) (hS : S.length = k) (hk : k < n) : (S ++ List.replicate (n - k) z).set k x = S ++ [x] ++ List.replicate (n - (k + 1)) z := by
  rw [List.set_append_right _ _ (by omega), hS, Nat.sub_self, show n - k = (n - (k + 1)) + 1 by omega, List.replicate_succ, List.set_cons_zero, List.append_assoc]
  rfl
set_option maxHeartbeats 4000000 in
theorem toHoldS_any (A : Option Addr) (n c : Nat) (R : List HR) (ts : List HX) (w : World) (hx : HoldS w w.heap.size A n R ts) (hn : n ≤ 1048576) :
    Calls Try.prog 50 #[.slice A n c] w (RetHS ts w) := by
  have HTL := Lib.hid hx.l
  go_enter Try.func50, Try.ntmps50
  go_wp2_with (at_make; refine mknH rfl _ _ rfl w.heap.size _ _ _ _ n rfl rfl rfl rfl (by omega) (Nat.le_refl _) ?_; intro w1 hown1 hg1)
  have hb1 : Below w.heap.size w w1 := (Below.refl _ _).grown hg1 (Nat.le_refl _) (by simp)
  have o1 := OwnC.made hown1
  have l1 := (o1.lt rfl).2
  go_loopw [4] (fun i wr => ∃ (k : Nat) (S : List HR), k ≤ n ∧ i = .int .i64 k ∧ OwnC wr w.heap.size none 0 0 (some ⟨w.heap.size, 0, none⟩) n n S ⟨[], ts.take k ++ List.replicate (n - k) zeroHX⟩ ∧ Below w.heap.size w wr) (fun i _ => n - (intOf i).toNat)
  case atStart => exact ⟨0, _, Nat.zero_le _, rfl, by simpa using o1, hb1⟩
  case round =>
    obtain ⟨k, S, hk, rfl, o, hbw⟩ := hrel
    clear hown1 hg1 hb1 o1
    by_cases hlt : k < n
    · have X := hx.up hbw hbw.size
      obtain ⟨ad, A1, n1, c1, v, xs, rfl, hb, hc0, hc1, hc2, hc3, hi, l2, ht1, hts, hR⟩ := X.el hlt
      have gk : (k : Int) < (n : Int) := by omega
      have hsz := (o.lt rfl).2
      go_wp2_with fail
      refine (toHold_any A1 n1 c1 v xs wr hi l2).mono ?_
      rintro e w9 ⟨A9, n9, c9, rfl, o9, hb9⟩
      have oa := o.below hb9
      obtain ⟨A8, n8, c8, v8, xs8, o8, hn8, g0, g1, y0, y1, hR8, hk8, hA8⟩ := oa.cells hlt
      have hn9 : n9 ≤ 1048576 := by have h1 := o9.len; have h2 := hi.len; omega
      have ob := oa.setHold (v := v) hR8.out hk8.out (o9.mono (show w.heap.size ≤ wr.heap.size by omega)) hn9 (o.fresh o9)
      have hset := set_mid' (ts.take k) zeroHX ⟨xs, v⟩ n k (by rw [List.length_take, HTL.out]; omega) hlt
      simp only at ob
      rw [hset, ← hts.out] at ob
      have z9 := hb9.size
      clear hc0 hc1 hc2 hc3 hset
      go_wp2_with fail
      go_roundw
      case rel => exact ⟨k + 1, _, by omega, by go_num, ob, ((hbw.trans (hb9.mono hbw.size)).setCell (Nat.le_refl w.heap.size) _).setCell (Nat.le_refl w.heap.size) _⟩
      case measure => first | (simp [intOf]; done) | (simp [intOf]; omega)
    · obtain rfl : n = k := by omega
      rw [List.take_of_length_le (by rw [HTL.out]; exact Nat.le_refl _), Nat.sub_self] at o
      simp only [List.replicate_zero, List.append_nil] at o
      go_wp2_with fail
      go_ret
      exact ⟨_, _, _, S, rfl, o, hbw⟩
set_option maxHeartbeats 4000000 in
theorem toC_any (F : Option Addr) (nf cf : Nat) (A : Option Addr) (n c : Nat) (R : List HR) (cx : CX) (w : World) (hc : Cr w w.heap.size F nf A n R cx) (hnf : nf ≤ 1048576) (hn : n ≤ 1048576) :
    Calls Try.prog 23 #[.agg #[.slice F nf cf, .slice A n c]] w (RetC cx w) := by
  have b0 := ((Blk.new w 42 #[.slice F nf cf, .slice A n c]).alloc (.cells #[.slice none 0 0, .slice none 0 0] 26)).alloc (.cells #[.slice none 0 0, .slice none 0 0] 26)
  have b1 := (Blk.new (w.alloc (.cells #[.slice F nf cf, .slice A n c] 42)) 26 #[.slice none 0 0, .slice none 0 0]).alloc (.cells #[.slice none 0 0, .slice none 0 0] 26)
  have b2 := Blk.new ((w.alloc (.cells #[.slice F nf cf, .slice A n c] 42)).alloc (.cells #[.slice none 0 0, .slice none 0 0] 26)) 26 #[.slice none 0 0, .slice none 0 0]
  simp only [World.size_alloc] at b1 b2
  have X0 := ((hc.box (.cells #[.slice F nf cf, .slice A n c] 42)).box (.cells #[.slice none 0 0, .slice none 0 0] 26)).box (.cells #[.slice none 0 0, .slice none 0 0] 26)
  have B0 : Below w.heap.size w (((w.alloc (.cells #[.slice F nf cf, .slice A n c] 42)).alloc (.cells #[.slice none 0 0, .slice none 0 0] 26)).alloc (.cells #[.slice none 0 0, .slice none 0 0] 26)) := (by repeat' (first | with_reducible exact Below.refl _ _ | with_reducible assumption | with_reducible refine Below.setCell ?_ (by first | omega | (simp; done) | (simp; omega)) _ | with_reducible refine Below.alloc ?_ (by first | omega | (simp; done) | (simp; omega)) _ | with_reducible refine below_drewN ?_ _ | with_reducible refine Below.drew ?_ | (with_reducible refine Below.trans ?_ (Below.mono (by with_reducible assumption) (by first | omega | (simp; done) | (simp; omega))))))
  have z0 : w.heap.size + 3 ≤ (((w.alloc (.cells #[.slice F nf cf, .slice A n c] 42)).alloc (.cells #[.slice none 0 0, .slice none 0 0] 26)).alloc (.cells #[.slice none 0 0, .slice none 0 0] 26)).heap.size := by simp
  generalize hW : ((w.alloc (.cells #[.slice F nf cf, .slice A n c] 42)).alloc (.cells #[.slice none 0 0, .slice none 0 0] 26)).alloc (.cells #[.slice none 0 0, .slice none 0 0] 26) = W at b0 b1 b2 X0 B0 z0
  have f0 := b0.two
  have f1 := b1.two
  have f2 := b2.two
  go_enter Try.func23, Try.ntmps23
  go_wp2_with fail
  refine (toIntS_r F nf cf cx.free W X0.f hnf).mono ?_
  rintro e w2 ⟨A7, n7, c7, rfl, o7, hb2⟩
  have c0 := b0.below hb2 b0.lt
  have c1 := b1.below hb2 b1.lt
  have c2 := b2.below hb2 b2.lt
  have HB : Below w.heap.size w w2 := B0.trans (hb2.mono (by omega))
  have s2 := hb2.size
  have X2 := X0.up hb2 hb2.size
  clear hW f0 f1 f2
  have g2 := c2.two
  have c0' := c0.far (p := ⟨w.heap.size + 1 + 1, 0, none⟩) (show w.heap.size ≠ w.heap.size + 1 + 1 by omega) (.slice A7 n7 c7)
  have c2' := c2.set_ 0 (.slice A7 n7 c7)
  have c1' := c1.far (p := ⟨w.heap.size + 1 + 1, 0, none⟩) (show w.heap.size + 1 ≠ w.heap.size + 1 + 1 by omega) (.slice A7 n7 c7)
  have d0 := c0'.two
  have d2 := c2'.two
  have HB' : Below w.heap.size w (w2.setCell ⟨w.heap.size + 1 + 1, 0, none⟩ (.slice A7 n7 c7)) := HB.setCell (by simp; omega) _
  have o7' : Own (w2.setCell ⟨w.heap.size + 1 + 1, 0, none⟩ (.slice A7 n7 c7)) W.heap.size A7 n7 c7 cx.free := o7.setBelow (by simp; omega) _
  have s2' := HB'.size
  have X3 := hc.up HB' HB'.size
  have zz : (w2.setCell ⟨w.heap.size + 1 + 1, 0, none⟩ (.slice A7 n7 c7)).heap.size = w2.heap.size := by simp
  have z2 : W.heap.size ≤ (w2.setCell ⟨w.heap.size + 1 + 1, 0, none⟩ (.slice A7 n7 c7)).heap.size := by rw [zz]; exact s2
  clear zz
  have hth := fun W' (h : W' = w2.setCell ⟨w.heap.size + 1 + 1, 0, none⟩ (.slice A7 n7 c7)) => toHoldS_any A n c R cx.holds W' (by rw [h]; exact X3.h) hn
  go_wp2_with fail
  refine (hth _ rfl).mono ?_
  generalize w2.setCell ⟨w.heap.size + 1 + 1, 0, none⟩ (.slice A7 n7 c7) = w3 at c0' c1' c2' d0 d2 HB' o7' s2' X3 z2 ⊢
  rintro e w4 ⟨A9, n9, c9, R9, rfl, o9, hb4⟩
  have e1 := c1'.below hb4 c1'.lt
  have e2 := c2'.below hb4 c2'.lt
  have o8 := o7'.below hb4
  have OO := o9.withF o8 z2 (fun x hx => (o7'.lt hx).2)
  have HB4 : Below w.heap.size w w4 := HB'.trans (hb4.mono s2')
  have s4 := hb4.size
  have h2 := e2.two
  have h1 := (e1.far (p := ⟨w.heap.size + 1 + 1, 1, none⟩) (show w.heap.size + 1 ≠ w.heap.size + 1 + 1 by omega) (.slice A9 n9 c9))
  have h1t := h1.two
  have k2 := (e2.set_ 1 (.slice A9 n9 c9)).two
  have q1 := ((h1.set_ 0 (.slice A7 n7 c7)).set_ 1 (.slice A9 n9 c9)).two
  clear d0 d2 hth
  go_wp2_with fail
  refine bodyPost_ret (v := .agg #[.slice A7 n7 c7, .slice A9 n9 c9]) (by simp [results, Try.results23, go_sem, q1]) rfl ⟨A7, n7, c7, A9, n9, c9, R9, rfl, ?_, ?_⟩
  · exact (((OO.setBelow (by simp; omega) _).setBelow (by simp; omega) _).setBelow (by simp; omega) _).mono (by omega)
  · exact ((HB4.setCell (by simp; omega) _).setCell (by simp) _).setCell (by simp) _
end Go.Proofs.Ytehgipbedlamaaa
