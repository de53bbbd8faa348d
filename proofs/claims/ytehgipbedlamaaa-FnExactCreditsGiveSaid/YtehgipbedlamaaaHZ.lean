/-
  The scene of the exact laws about credits.
-/
import Derived.Test.YtehgipbedlamaaaHY
import Derived.Test.YtehgipbedlamaaaHG
namespace Go.Proofs.Ytehgipbedlamaaa
open Go.RowKit
set_option linter.unusedVariables false

theorem OwnC.isRow {w : World} {base nf cf n c j : Nat} {F A : Option Addr} {R : List HR} {cx : CX} (h : OwnC w base F nf cf A n c R cx) (hj : IsRow F A R j) : base ≤ j ∧ j < w.heap.size := by
  rcases hj with hj | hj | ⟨k, r, hr, hj⟩
  · exact h.ltF hj
  · exact h.lt hj
  · exact h.ltR hr hj
theorem OwnC.noBox {w : World} {base nf cf n c j g : Nat} {F A : Option Addr} {R : List HR} {cx : CX} {t : TypeId} {cs : Array Value} (h : OwnC w base F nf cf A n c R cx) (hb : Blk w g t cs) (h1 : 3 ≠ t) (h2 : 47 ≠ t) (hj : IsRow F A R j) : j ≠ g := by
  intro e
  subst e
  rcases hj with hj | hj | ⟨k, r, hr, hj⟩
  · exact own_ne_box h.f hb h1 hj
  · exact own_ne_box h.o hb h2 hj
  · obtain ⟨t, _, ho, _⟩ := h.at_ hr
    exact own_ne_box ho hb h1 hj
theorem Wrote.boxes {P : Nat → Prop} {w w' : World} {g : Nat} {t : TypeId} {cs : Array Value} (h : Wrote P w w') (hb : Blk w g t cs) (hn : ¬ P g) : Blk w' g t cs := (h.block g hb.lt hn).trans hb
theorem Wrote.below {P : Nat → Prop} {w w' : World} {B : Nat} (h : Wrote P w w') (hB : B ≤ w.heap.size) (hp : ∀ j, P j → B ≤ j) : Below B w w' :=
  ⟨h.os, h.tape, h.output, h.size, fun j hj => h.block j (by omega) (fun e => by have := hp j e; omega)⟩
/-- A box of credits of the call's own, its rows from base to top. -/
structure Bo (wr : World) (g base top : Nat) (F : Option Addr) (nf cf : Nat) (A : Option Addr) (n c : Nat) (R : List HR) (cx : CX) : Prop where
  b : Blk wr g 26 #[.slice F nf cf, .slice A n c]
  o : OwnC wr base F nf cf A n c R cx
  t : ∀ j, IsRow F A R j → j < top
  tl : top ≤ wr.heap.size
section
variable {w wr w1 : World} {g base top nf cf n c : Nat} {F A : Option Addr} {R : List HR} {cx : CX}
theorem Bo.start (o : OwnC w1 base F nf cf A n c R cx) : Bo (w1.alloc (.cells #[.slice F nf cf, .slice A n c] 26)) w1.heap.size base w1.heap.size F nf cf A n c R cx :=
  ⟨Blk.new _ _ _, o.alloc _, fun j hj => (o.isRow hj).2, by simp⟩
theorem Bo.step (h : Bo wr g base top F nf cf A n c R cx) (hb : Below wr.heap.size wr w1) : Bo w1 g base top F nf cf A n c R cx :=
  ⟨h.b.below hb h.b.lt, h.o.below hb, h.t, Nat.le_trans h.tl hb.size⟩
theorem Bo.alloc (h : Bo wr g base top F nf cf A n c R cx) (o : Obj) : Bo (wr.alloc o) g base top F nf cf A n c R cx := h.step ((Below.refl _ _).alloc (Nat.le_refl _) o)
theorem Bo.reads (h : Bo wr g base top F nf cf A n c R cx) : Cr wr wr.heap.size F nf A n R cx := h.o.reads
/-- Another's rows have been written. -/
theorem Bo.other {g' base' top' nf' cf' n' c' : Nat} {F' A' : Option Addr} {R' : List HR} {cx' : CX} (h : Bo wr g base top F nf cf A n c R cx) (h' : Bo wr g' base' top' F' nf' cf' A' n' c' R' cx') (hw : Wrote (IsRow F' A' R') wr w1) (hd : top ≤ base' ∨ top' ≤ base) : Bo w1 g base top F nf cf A n c R cx :=
  ⟨hw.boxes h.b (fun e => h'.o.noBox h.b (by decide) (by decide) e rfl), h.o.wrote hw (fun j hj e => by
    have h1 := h.o.isRow hj
    have h2 := h.t j hj
    have h3 := h'.o.isRow e
    have h4 := h'.t j e
    omega), h.t, Nat.le_trans h.tl hw.size⟩
/-- Its own rows have been marked. -/
theorem Bo.marked {R' : List HR} {cx' : CX} (h : Bo wr g base top F nf cf A n c R cx) (hw : Wrote (IsRow F A R) wr w1) (o : OwnC w1 base F nf cf A n c R' cx') (hr : ∀ j, IsRow F A R' j → IsRow F A R j) : Bo w1 g base top F nf cf A n c R' cx' :=
  ⟨hw.boxes h.b (fun e => h.o.noBox h.b (by decide) (by decide) e rfl), o, fun j hj => h.t j (hr j hj), Nat.le_trans h.tl hw.size⟩
end
/-- The parameter's box and what it reads as. -/
structure Bp (w wr : World) (F : Option Addr) (nf cf : Nat) (A : Option Addr) (n c : Nat) (R : List HR) (cx : CX) : Prop where
  b : Blk wr w.heap.size 42 #[.slice F nf cf, .slice A n c]
  x : Cr wr w.heap.size F nf A n R cx
  bl : Below w.heap.size w wr
section
variable {w wr w1 : World} {nf cf n c : Nat} {F A : Option Addr} {R : List HR} {cx : CX}
theorem Bp.step (h : Bp w wr F nf cf A n c R cx) (hb : Below wr.heap.size wr w1) : Bp w w1 F nf cf A n c R cx :=
  ⟨h.b.below hb h.b.lt, h.x.below (hb.mono h.bl.size), h.bl.trans (hb.mono h.bl.size)⟩
theorem Bp.alloc (h : Bp w wr F nf cf A n c R cx) (o : Obj) : Bp w (wr.alloc o) F nf cf A n c R cx := h.step ((Below.refl _ _).alloc (Nat.le_refl _) o)
theorem Bp.cr (h : Bp w wr F nf cf A n c R cx) : Cr wr wr.heap.size F nf A n R cx := h.x.more h.bl.size
theorem Bp.other {g' base' top' nf' cf' n' c' : Nat} {F' A' : Option Addr} {R' : List HR} {cx' : CX} (h : Bp w wr F nf cf A n c R cx) (h' : Bo wr g' base' top' F' nf' cf' A' n' c' R' cx') (hw : Wrote (IsRow F' A' R') wr w1) (hd : w.heap.size ≤ base') : Bp w w1 F nf cf A n c R cx := by
  have hb : Below w.heap.size wr w1 := hw.below h.bl.size (fun j hj => by have := (h'.o.isRow hj).1; omega)
  exact ⟨hw.boxes h.b (fun e => h'.o.noBox h.b (by decide) (by decide) e rfl), h.x.below hb, h.bl.trans hb⟩
end
theorem askRes (c : CX) (s g : Int) : askC c s g = cNo ∨ Cv (askC c s g) := by
  cases hO : askOk c s g
  · exact .inl (ask_no hO).1
  · right
    have hc : Cv c := cv_iff.1 (by simp only [askOk, Bool.and_eq_true] at hO; exact hO.1.1)
    cases hS : stopA c s g
    · have e := ask_go hO hS
      rw [e.1]; exact ask_cv e.2
    · rw [(ask_stop hO hS).1]; exact hc
theorem giveRes (c : CX) (s : Int) : giveC c s = cNo ∨ Cv (giveC c s) := by
  cases hO : giveOk c s
  · exact .inl (give_no hO).1
  · right
    have hc : Cv c := cv_iff.1 (by simp only [giveOk, Bool.and_eq_true] at hO; exact hO.1)
    cases hS : stopG c s
    · have e := give_go hO hS
      rw [e.2.1]; exact give_cv e.1
    · rw [(give_stop hO hS).1]; exact hc
theorem mkN_le {L : List Nat} {b : Nat} (h : ∀ m ∈ L, m ≤ b) : mkN L ≤ L.length * ((b : Int) + 1) := by
  induction L with
  | nil => simp [mkN]
  | cons m L ih =>
    have h1 := h m (by simp)
    have h2 := ih (fun x hx => h x (by simp [hx]))
    simp only [mkN, List.length_cons]
    rw [Int.natCast_add, Int.add_mul]
    omega
theorem resSmall {c : CX} (h : c = cNo ∨ Cv c) : mkN (lensH c.holds) ≤ 36 ∧ c.free.length ≤ 5 ∧ c.holds.length ≤ 6 := by
  rcases h with rfl | h
  · simp [cNo, lensH, mkN]
  · have h1 := mkN_le (L := lensH c.holds) (b := 5) (fun m hm => by
      simp only [lensH, List.mem_map] at hm
      obtain ⟨x, hx, rfl⟩ := hm
      exact hv_len (h.h x hx))
    have h2 := h.l6
    have h3 := h.f
    have h4 : (lensH c.holds).length = c.holds.length := by simp [lensH]
    rw [h4] at h1
    refine ⟨?_, by omega, h2⟩
    omega
theorem totR_lens {w : World} {B n : Nat} {A : Option Addr} : ∀ {R : List HR} {hs : List HX}, R.length = hs.length → (∀ (k : Nat) (r : HR) (h : HX), R[k]? = some r → hs[k]? = some h → h.has.length = r.n) → mkN (lensH hs) = totR R + hs.length
  | [], [], _, _ => by simp [lensH, mkN, totR]
  | [], _ :: _, h, _ => by simp at h
  | _ :: _, [], h, _ => by simp at h
  | r :: R, h :: hs, hl, hx => by
    have h0 := hx 0 r h rfl rfl
    have ih := totR_lens (w := w) (B := B) (n := n) (A := A) (R := R) (hs := hs) (by simpa using hl) (fun k a b h1 h2 => hx (k + 1) a b h1 h2)
    simp only [lensH, List.map_cons, mkN, totR, List.length_cons] at ih ⊢
    rw [ih, h0]
    omega
theorem HoldW.tot {w : World} {B n : Nat} {A : Option Addr} {R : List HR} {hs : List HX} (h : HoldW w B A n R hs) : mkN (lensH hs) = totR R + n := by
  rw [totR_lens (w := w) (B := B) (n := n) (A := A) (R := R) (hs := hs) (by rw [h.rlen, h.l]) (fun k r t hr ht => (h.i k r t hr ht).1.len), h.l]
theorem small_totR {R : List HR} (h : totR R ≤ 1048576) : ∀ r ∈ R, r.n ≤ 1048576 := fun r hr => by
  obtain ⟨k, hk, rfl⟩ := List.mem_iff_getElem.1 hr
  have := totR_mem (List.getElem?_eq_getElem hk)
  omega
end Go.Proofs.Ytehgipbedlamaaa
