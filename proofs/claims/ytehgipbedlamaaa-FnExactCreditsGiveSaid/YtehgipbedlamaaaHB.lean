/-
  l22Take, the reference's.
-/
import Derived.Test.YtehgipbedlamaaaHA
import Derived.Deep.DeepCutAuto
namespace Go.Proofs.Ytehgipbedlamaaa
open Go.RowKit
set_option linter.unusedVariables false

/-- Boxes of kinds that credits' rows are not of stay as they are. -/
def Boxes (w w' : World) : Prop := ∀ (j : Nat) (t : TypeId) (cs : Array Value), 3 ≠ t → 47 ≠ t → Blk w j t cs → Blk w' j t cs
theorem Boxes.refl (w : World) : Boxes w w := fun _ _ _ _ _ h => h
theorem Boxes.below {w w' : World} (h : Below w.heap.size w w') : Boxes w w' := fun _ _ _ _ _ h1 => h1.below h h1.lt
theorem Boxes.trans {a b c : World} (h : Boxes a b) (h' : Boxes b c) : Boxes a c := fun j t cs h1 h2 hb => h' j t cs h1 h2 (h j t cs h1 h2 hb)
theorem Boxes.row {w : World} {base g i n c s : Nat} {e : TypeId} {xs : List Value} (h : w.ownsRow base e s (.slice (some ⟨g, 0, none⟩) n c) n xs) (u : Value) (he : e = 3 ∨ e = 47) : Boxes w (w.setCell ⟨g, i, none⟩ u) := fun j t cs h1 h2 hb => hb.far (fun e2 => by
  have := own_ne_box h hb (by rcases he with rfl | rfl <;> assumption)
  exact this (by simp [blk]; exact e2.symm)) u
/-- A sender's state is replaced by one whose set has been made since. -/
theorem OwnC.put {w0 w : World} {base nf cf g n c S n7 c7 n1 c1 : Nat} {F A7 A1 : Option Addr} {R : List HR} {cx cx' : CX} {ys xs : List Int} {v v1 : Int} (h0 : OwnC w0 base F nf cf (some ⟨g, 0, none⟩) n c R cx') (h : OwnC w base F nf cf (some ⟨g, 0, none⟩) n c R cx)
    (hr : R[S]? = some ⟨A1, n1, c1, v1⟩) (ht : cx.holds[S]? = some ⟨xs, v1⟩) (h7 : Own w w0.heap.size A7 n7 c7 ys) (hb : base ≤ w0.heap.size) (hy : ys.length ≤ 5) :
    OwnC ((w.setCell ⟨g, S * 2, none⟩ (.slice A7 n7 c7)).setCell ⟨g, S * 2 + 1, none⟩ (.int .i64 v)) base F nf cf (some ⟨g, 0, none⟩) n c (R.set S ⟨A7, n7, c7, v⟩) ⟨cx.free, cx.holds.set S ⟨ys, v⟩⟩ ∧
    Boxes w ((w.setCell ⟨g, S * 2, none⟩ (.slice A7 n7 c7)).setCell ⟨g, S * 2 + 1, none⟩ (.int .i64 v)) ∧
    Below base w ((w.setCell ⟨g, S * 2, none⟩ (.slice A7 n7 c7)).setCell ⟨g, S * 2 + 1, none⟩ (.int .i64 v)) := by
  have hn7 : n7 ≤ 1048576 := by have h1 := h7.len; omega
  have hd := h0.fresh (s := S) h7
  have X6 := h.setHas hr ht (h7.mono hb) hn7 hd
  have X9 := h.setHold (v := v) hr ht (h7.mono hb) hn7 hd
  have hl : base ≤ g := (h.lt rfl).1
  exact ⟨X9, (Boxes.row (i := S * 2) h.o (.slice A7 n7 c7) (.inr rfl)).trans (Boxes.row (i := S * 2 + 1) X6.o (.int .i64 v) (.inr rfl)), ((Below.refl _ _).setCell (p := ⟨g, S * 2, none⟩) hl _).setCell (p := ⟨g, S * 2 + 1, none⟩) hl _⟩
/-- What l22Take comes to. -/
def Took (base gF nf cf g n c : Nat) (cx : CX) (w : World) (e : Ending) (w' : World) : Prop :=
  ∃ R', e = .returned (.agg #[.slice (some ⟨gF, 0, none⟩) nf cf, .slice (some ⟨g, 0, none⟩) n c]) ∧ OwnC w' base (some ⟨gF, 0, none⟩) nf cf (some ⟨g, 0, none⟩) n c R' cx ∧ Below base w w' ∧ w.heap.size ≤ w'.heap.size ∧ Boxes w w'
set_option maxHeartbeats 8000000 in
theorem l22Take_any (gF nf cf g n c : Nat) (R : List HR) (cx : CX) (S G base : Nat) (w : World) (hc : OwnC w base (some ⟨gF, 0, none⟩) nf cf (some ⟨g, 0, none⟩) n c R cx) (hb : base ≤ w.heap.size) (hS : S < n) (hG : G < nf)
    (hnf : nf ≤ 1048576) (hn : n ≤ 1048576) (h0 : 0 < cx.free.getD G 0) (h9 : cx.free.getD G 0 ≤ 10) :
    Calls Try.prog 40 #[.agg #[.slice (some ⟨gF, 0, none⟩) nf cf, .slice (some ⟨g, 0, none⟩) n c], .int .i64 S, .int .i64 G] w
      (Took base gF nf cf g n c ⟨cx.free.set G (cx.free.getD G 0 - 1), cx.holds.set S ⟨wiL (hAt cx.holds S).has G, -1⟩⟩ w) := by
  have b0 := (Blk.new w 26 #[.slice (some ⟨gF, 0, none⟩) nf cf, .slice (some ⟨g, 0, none⟩) n c]).alloc (.cells #[.slice none 0 0, .slice none 0 0] 26)
  have b1 := Blk.new (w.alloc (.cells #[.slice (some ⟨gF, 0, none⟩) nf cf, .slice (some ⟨g, 0, none⟩) n c] 26)) 26 #[.slice none 0 0, .slice none 0 0]
  simp only [World.size_alloc] at b1
  have X0 := (hc.alloc (.cells #[.slice (some ⟨gF, 0, none⟩) nf cf, .slice (some ⟨g, 0, none⟩) n c] 26)).alloc (.cells #[.slice none 0 0, .slice none 0 0] 26)
  have B0 : Below w.heap.size w ((w.alloc (.cells #[.slice (some ⟨gF, 0, none⟩) nf cf, .slice (some ⟨g, 0, none⟩) n c] 26)).alloc (.cells #[.slice none 0 0, .slice none 0 0] 26)) := (by repeat' (first | with_reducible exact Below.refl _ _ | with_reducible assumption | with_reducible refine Below.setCell ?_ (by first | omega | (simp; done) | (simp; omega)) _ | with_reducible refine Below.alloc ?_ (by first | omega | (simp; done) | (simp; omega)) _ | with_reducible refine below_drewN ?_ _ | with_reducible refine Below.drew ?_ | (with_reducible refine Below.trans ?_ (Below.mono (by with_reducible assumption) (by first | omega | (simp; done) | (simp; omega))))))
  have z0 : w.heap.size + 2 ≤ ((w.alloc (.cells #[.slice (some ⟨gF, 0, none⟩) nf cf, .slice (some ⟨g, 0, none⟩) n c] 26)).alloc (.cells #[.slice none 0 0, .slice none 0 0] 26)).heap.size := by simp
  generalize hW : (w.alloc (.cells #[.slice (some ⟨gF, 0, none⟩) nf cf, .slice (some ⟨g, 0, none⟩) n c] 26)).alloc (.cells #[.slice none 0 0, .slice none 0 0] 26) = W at b0 b1 X0 B0 z0
  have f0 := b0.two
  have l0 := b0.lt
  have hF := X0.f.cellAt hG
  have gG1 : (G : Int) < (nf : Int) := by omega
  have gS1 : (S : Int) < (n : Int) := by omega
  have HV := Lib.hid (show (0 < cx.free.getD G 0 ∧ cx.free.getD G 0 ≤ 10) from ⟨h0, h9⟩)
  clear h0 h9 hc
  generalize hvG : cx.free.getD G 0 = vG at hF HV ⊢
  have HW : IntKind.i64.wrap (vG - 1) = vG - 1 := IntWalk.i64_in _ (by have := HV.out; omega)
  go_enter Try.func40, Try.ntmps40
  go_wp2_with fail
  go_region
  have X1 : OwnC (W.setCell ⟨gF, G, none⟩ (.int .i64 (vG - 1))).drew base (some ⟨gF, 0, none⟩) nf cf (some ⟨g, 0, none⟩) n c R ⟨cx.free.set G (vG - 1), cx.holds⟩ := OwnC.drew (X0.setFree G (vG - 1))
  have Bx1 : Boxes W (W.setCell ⟨gF, G, none⟩ (.int .i64 (vG - 1))).drew := Boxes.trans (Boxes.row X0.f _ (.inl rfl)) (Boxes.below ((Below.refl _ _).drew))
  have B1 : Below base w (W.setCell ⟨gF, G, none⟩ (.int .i64 (vG - 1))).drew := ((B0.mono hb).setCell (p := ⟨gF, G, none⟩) (show base ≤ gF from (X0.ltF rfl).1) _).drew
  have z1 : W.heap.size ≤ (W.setCell ⟨gF, G, none⟩ (.int .i64 (vG - 1))).drew.heap.size := by simp
  generalize (W.setCell ⟨gF, G, none⟩ (.int .i64 (vG - 1))).drew = W1 at X1 Bx1 B1 z1 ⊢
  have b2 := Bx1 _ _ _ (by decide) (by decide) b0
  have r2 := Bx1 _ _ _ (by decide) (by decide) b1
  obtain ⟨A1, n1, c1, v, xs, o1, hn1, hc0, hc1, hz0, hz1, hR1, hk1, hA1⟩ := X1.cells hS
  have i1 := o1.ints
  have f2 := b2.two
  clear f0 hF hW
  have iL := Ints.one W1 (G : Int)
  have iA := i1.box (.cells #[.int .i64 (G : Int)] 3)
  have iG : Ints (W1.alloc (.cells #[.int .i64 (G : Int)] 3)) (W1.alloc (.cells #[.int .i64 (G : Int)] 3)).heap.size (some ⟨W1.heap.size, 0, none⟩) 1 [(G : Int)] := iL.more (by simp)
  have fA := (b2.alloc (.cells #[.int .i64 (G : Int)] 3)).two
  have XA := X1.alloc (.cells #[.int .i64 (G : Int)] 3)
  have bA : Below W1.heap.size W1 (W1.alloc (.cells #[.int .i64 (G : Int)] 3)) := (Below.refl _ _).alloc (Nat.le_refl _) _
  have zA : W1.heap.size ≤ (W1.alloc (.cells #[.int .i64 (G : Int)] 3)).heap.size := by simp
  obtain ⟨_, _, _, _, _, _, _, hd0, hd1, _, _, _, _, _⟩ := XA.cells hS
  have HA := (World.ownsRow.cellAt XA.o (S * 2) (by omega))
  clear hd0 hd1
  rw [(hcv_get hR1.out).1] at HA
  go_wp2_with fail
  go_cut [28] (fun s28 wx => ∃ (R' : List HR), OwnC wx base (some ⟨gF, 0, none⟩) nf cf (some ⟨g, 0, none⟩) n c R' ⟨cx.free.set G (vG - 1), cx.holds.set S ⟨wiL (hAt cx.holds S).has G, -1⟩⟩ ∧ Boxes W wx ∧ Below base w wx ∧ w.heap.size + 2 ≤ wx.heap.size)
  case first =>
      go_region_law (first
        | (go_simp; go_at_call 64
           refine Calls.mono (l1Union_any A1 _ n1 c1 1 1 xs [(G : Int)] _ ?_ ?_ hn1 (by omega)) ?_
           · first | exact iA | exact Reads.drew iA
           · first | exact iG | exact Reads.drew iG
           rintro e w5 ⟨A7, n7, c7, rfl, o7, hb7⟩
           have hb5 : Below W1.heap.size W1 w5 := bA.trans ((((Below.refl _ _).drew).trans hb7).mono zA)
           have o5 : Own w5 W1.heap.size A7 n7 c7 (unL xs [(G : Int)]) := o7.mono zA
           have X5 := X1.below hb5
           have f5 := (b2.below hb5 b2.lt).two
           obtain ⟨_, _, _, _, _, _, _, g5, g6, q5, q6, _, _, _⟩ := X5.cells hS))
      all_goals
        obtain ⟨X9, hx1, hx2⟩ := X1.put (v := -1) X5 hR1.out hk1.out o5 (show base ≤ W1.heap.size by omega) (by rw [wi_un]; exact wi_len _ _)
        have hs5 := hb5.size
        rw [wi_un, show xs = (hAt cx.holds S).has by rw [hA1.out]] at X9
        clear f5 g5 g6 q5 q6 fA HA f2 hc0 hc1 hz0 hz1
        go_wp2_with fail
        go_meet
        exact ⟨_, X9, (Bx1.trans (Boxes.below hb5)).trans hx1, (B1.trans (hb5.mono (show base ≤ _ by omega))).trans hx2, by simp; omega⟩
  case rest =>
    obtain ⟨R', X9, Bx9, B9, z9⟩ := hcut
    have b9 := Bx9 _ _ _ (by decide) (by decide) b0
    have r9 := Bx9 _ _ _ (by decide) (by decide) b1
    have f9 := b9.two
    have g9 := r9.two
    have q9 := ((r9.set_ 0 (.slice (some ⟨gF, 0, none⟩) nf cf)).set_ 1 (.slice (some ⟨g, 0, none⟩) n c)).two
    have bb : Boxes w W := Boxes.below B0
    clear fA HA f2 hc0 hc1 hz0 hz1
    go_wp2_with fail
    exact bodyPost_ret (v := .agg #[.slice (some ⟨gF, 0, none⟩) nf cf, .slice (some ⟨g, 0, none⟩) n c]) (by simp [results, Try.results40, go_sem, q9]) rfl
      ⟨_, rfl, OwnC.setBox (OwnC.setBox X9 r9 (by decide) (by decide) 0 _) (r9.set_ 0 _) (by decide) (by decide) 1 _, (B9.setCell (show base ≤ w.heap.size + 1 by omega) _).setCell (show base ≤ w.heap.size + 1 by omega) _, by simp; omega, fun j t cs h1 h2 hb => ((Bx9 j t cs h1 h2 (bb j t cs h1 h2 hb)).far (by have := hb.lt; simp; omega) _).far (by have := hb.lt; simp; omega) _⟩
end Go.Proofs.Ytehgipbedlamaaa
