/-
  Credits of the call's own where one of their rows is written; l22Take, the reference's.
-/
import Derived.Test.YtehgipbedlamaaaH9
namespace Go.Proofs.Ytehgipbedlamaaa
open Go.RowKit
set_option linter.unusedVariables false

theorem grow_set (w : World) (g i : Nat) (u : Value) : w.grownBy (w.setCell ⟨g, i, none⟩ u) (some g) :=
  ⟨rfl, rfl, rfl, by simp [World.setCell], fun k _ hk => Below.heap_setCell w ⟨g, i, none⟩ u k (fun e => hk (by rw [e]))⟩
section
variable {w w' : World} {base nf cf n c g s : Nat} {F A : Option Addr} {R : List HR} {cx : CX} {r q : HR} {t t' : HX}
theorem OwnC.setFree (h : OwnC w base (some ⟨g, 0, none⟩) nf cf A n c R cx) (k : Nat) (x : Int) : OwnC (w.setCell ⟨g, k, none⟩ (.int .i64 x)) base (some ⟨g, 0, none⟩) nf cf A n c R ⟨cx.free.set k x, cx.holds⟩ := by
  have hg := grow_set w g k (.int .i64 x)
  refine ⟨h.f.stored k x, World.ownsRow.kept h.o hg (.inr (own_ne_own h.f h.o (by decide) (k := g) rfl)), h.l, fun j r t hr ht => ⟨(h.i j r t hr ht).1.kept hg (fun y hy e => ?_), (h.i j r t hr ht).2⟩, h.d, h.e⟩
  injection e with e
  subst e
  exact h.e j r _ hr hy rfl
/-- A sender's row is written. -/
theorem OwnC.row (h : OwnC w base F nf cf (some ⟨g, 0, none⟩) n c R cx) (hg : w.grownBy w' (some g)) (ho : w'.ownsRow base 47 2 (.slice (some ⟨g, 0, none⟩) n c) n (hcv (R.set s q))) (hs : s < n)
    (h7 : Own w base q.A q.n q.c t.has) (hw : q.wait = t.wait) (hn : q.n ≤ 1048576) (hd : ∀ x, blk q.A = some x → (∀ (k : Nat) (p : HR), k ≠ s → R[k]? = some p → blk p.A ≠ some x) ∧ blk F ≠ some x) :
    OwnC w' base F nf cf (some ⟨g, 0, none⟩) n c (R.set s q) ⟨cx.free, cx.holds.set s t⟩ := by
  have key : ∀ {B : Option Addr} {m d : Nat} {xs : List Int}, Own w base B m d xs → Own w' base B m d xs := fun {B m d xs} h2 => h2.kept hg (fun k hk e => by
    have := own_ne_own h2 h.o (by decide) (k := k) (by rw [blk_own]; exact hk)
    rw [blk_own] at this
    exact this e)
  have hl := h.rlen
  have hsl : s < cx.holds.length := by rw [h.l]; exact hs
  have at_ : ∀ (j : Nat) (p : HR), (R.set s q)[j]? = some p → (j ≠ s ∧ R[j]? = some p) ∨ (j = s ∧ p = q) := fun j p hp => by
    rw [List.getElem?_set] at hp
    split at hp
    · rename_i e
      subst e
      rw [if_pos (by omega)] at hp
      exact .inr ⟨rfl, by injection hp with hp; exact hp.symm⟩
    · rename_i e
      exact .inl ⟨fun h => e h.symm, hp⟩
  refine ⟨key h.f, ho, by simp [h.l], fun j r' u hr hu => ?_, fun i j a b x hij ha hb hx => ?_, fun k a x ha hx => ?_⟩
  · simp only at hu
    rcases at_ j r' hr with ⟨hj, hr2⟩ | ⟨rfl, rfl⟩
    · rw [List.getElem?_set, if_neg (fun e => hj e.symm)] at hu
      obtain ⟨p, q⟩ := h.i j r' u hr2 hu
      exact ⟨key p, q⟩
    · rw [List.getElem?_set, if_pos rfl, if_pos hsl] at hu
      injection hu with hu
      subst hu
      exact ⟨key h7, hw, hn⟩
  · rcases at_ i a ha with ⟨hi, ha2⟩ | ⟨rfl, rfl⟩
    · rcases at_ j b hb with ⟨_, hb2⟩ | ⟨rfl, rfl⟩
      · exact h.d i j a b x hij ha2 hb2 hx
      · intro hbx
        exact (hd x hbx).1 i a hi ha2 hx
    · rcases at_ j b hb with ⟨hj, hb2⟩ | ⟨rfl, rfl⟩
      · exact (hd x hx).1 j b hj hb2
      · exact absurd rfl hij
  · rcases at_ k a ha with ⟨_, ha2⟩ | ⟨rfl, rfl⟩
    · exact h.e k a x ha2 hx
    · exact (hd x hx).2
theorem set_same {α : Type} {l : List α} {i : Nat} {x : α} (h : l[i]? = some x) : l.set i x = l := by
  refine List.ext_getElem? (fun j => ?_)
  rw [List.getElem?_set]
  split
  · rename_i e
    subst e
    have := (List.getElem?_eq_some_iff.1 h).1
    rw [if_pos this, h]
  · rfl
theorem OwnC.own (h : OwnC w base F nf cf (some ⟨g, 0, none⟩) n c R cx) (hr : R[s]? = some r) : ∀ x, blk r.A = some x → (∀ (k : Nat) (p : HR), k ≠ s → R[k]? = some p → blk p.A ≠ some x) ∧ blk F ≠ some x :=
  fun x hx => ⟨fun k p hk hp e => h.d s k r p x (fun e => hk e.symm) hr hp hx e, h.e s r x hr hx⟩
/-- What a sender waits for is written. -/
theorem OwnC.setWait (h : OwnC w base F nf cf (some ⟨g, 0, none⟩) n c R cx) (hr : R[s]? = some r) (ht : cx.holds[s]? = some t) (v : Int) :
    OwnC (w.setCell ⟨g, s * 2 + 1, none⟩ (.int .i64 v)) base F nf cf (some ⟨g, 0, none⟩) n c (R.set s ⟨r.A, r.n, r.c, v⟩) ⟨cx.free, cx.holds.set s ⟨t.has, v⟩⟩ := by
  obtain ⟨i1, i2, i3⟩ := h.i s r t hr ht
  have hs : s < n := by rw [← h.rlen]; exact (List.getElem?_eq_some_iff.1 hr).1
  have hst := World.ownsRow.stored h.o (s * 2 + 1) (.int .i64 v)
  refine h.row hst.2 ?_ hs (q := ⟨r.A, r.n, r.c, v⟩) i1 rfl i3 (fun x hx => h.own hr x hx)
  have e := hcv_set (R := R) (k := s) ⟨r.A, r.n, r.c, v⟩
  rw [set_same (hcv_get hr).1] at e
  rw [← e]
  exact hst.1
/-- What a sender has is replaced. -/
theorem OwnC.setHas {A7 : Option Addr} {n7 c7 : Nat} {xs : List Int} (h : OwnC w base F nf cf (some ⟨g, 0, none⟩) n c R cx) (hr : R[s]? = some r) (ht : cx.holds[s]? = some t) (h7 : Own w base A7 n7 c7 xs) (hn : n7 ≤ 1048576)
    (hd : ∀ x, blk A7 = some x → (∀ (k : Nat) (p : HR), k ≠ s → R[k]? = some p → blk p.A ≠ some x) ∧ blk F ≠ some x) :
    OwnC (w.setCell ⟨g, s * 2, none⟩ (.slice A7 n7 c7)) base F nf cf (some ⟨g, 0, none⟩) n c (R.set s ⟨A7, n7, c7, r.wait⟩) ⟨cx.free, cx.holds.set s ⟨xs, t.wait⟩⟩ := by
  obtain ⟨i1, i2, i3⟩ := h.i s r t hr ht
  have hs : s < n := by rw [← h.rlen]; exact (List.getElem?_eq_some_iff.1 hr).1
  have hst := World.ownsRow.stored h.o (s * 2) (.slice A7 n7 c7)
  refine h.row hst.2 ?_ hs (q := ⟨A7, n7, c7, r.wait⟩) (t := ⟨xs, t.wait⟩) h7 i2 hn hd
  have e := hcv_set (R := R) (k := s) ⟨A7, n7, c7, r.wait⟩
  rw [set_same (i := s * 2 + 1) (by rw [List.getElem?_set, if_neg (by omega)]; exact (hcv_get hr).2)] at e
  rw [← e]
  exact hst.1
/-- A sender's state is replaced. -/
theorem OwnC.setHold {A7 : Option Addr} {n7 c7 : Nat} {xs : List Int} {v : Int} (h : OwnC w base F nf cf (some ⟨g, 0, none⟩) n c R cx) (hr : R[s]? = some r) (ht : cx.holds[s]? = some t) (h7 : Own w base A7 n7 c7 xs) (hn : n7 ≤ 1048576)
    (hd : ∀ x, blk A7 = some x → (∀ (k : Nat) (p : HR), k ≠ s → R[k]? = some p → blk p.A ≠ some x) ∧ blk F ≠ some x) :
    OwnC ((w.setCell ⟨g, s * 2, none⟩ (.slice A7 n7 c7)).setCell ⟨g, s * 2 + 1, none⟩ (.int .i64 v)) base F nf cf (some ⟨g, 0, none⟩) n c (R.set s ⟨A7, n7, c7, v⟩) ⟨cx.free, cx.holds.set s ⟨xs, v⟩⟩ := by
  have h1 := h.setHas hr ht h7 hn hd
  have hs : s < R.length := (List.getElem?_eq_some_iff.1 hr).1
  have hs' : s < cx.holds.length := (List.getElem?_eq_some_iff.1 ht).1
  have h2 := h1.setWait (s := s) (r := ⟨A7, n7, c7, r.wait⟩) (t := ⟨xs, t.wait⟩) (by simp [hs]) (by simp [hs']) v
  simpa using h2
/-- Rows that were laid since. -/
theorem OwnC.fresh {A7 : Option Addr} {n7 c7 : Nat} {xs : List Int} (h : OwnC w base F nf cf A n c R cx) (h7 : Own w' w.heap.size A7 n7 c7 xs) : ∀ x, blk A7 = some x → (∀ (k : Nat) (p : HR), k ≠ s → R[k]? = some p → blk p.A ≠ some x) ∧ blk F ≠ some x :=
  fun x hx => by
    have b := (h7.lt hx).1
    exact ⟨fun k p _ hp e => by have := (h.ltR hp e).2; omega, fun e => by have := (h.ltF e).2; omega⟩
/-- A sender's cells, for the walk. -/
theorem OwnC.cells (h : OwnC w base F nf cf (some ⟨g, 0, none⟩) n c R cx) (hs : s < n) : ∃ (A1 : Option Addr) (n1 c1 : Nat) (v : Int) (xs : List Int), Own w base A1 n1 c1 xs ∧ n1 ≤ 1048576 ∧
    w.cell? ⟨g, s * 2, none⟩ = some (.slice A1 n1 c1) ∧ w.cell? ⟨g, s * 2 + 1, none⟩ = some (.int .i64 v) ∧ w.frozen? ⟨g, s * 2, none⟩ = false ∧ w.frozen? ⟨g, s * 2 + 1, none⟩ = false ∧
    Hid (R[s]? = some ⟨A1, n1, c1, v⟩) ∧ Hid (cx.holds[s]? = some ⟨xs, v⟩) ∧ Hid (hAt cx.holds s = ⟨xs, v⟩) := by
  have hl : s < R.length := by rw [h.rlen]; exact hs
  have e : R[s]? = some R[s] := List.getElem?_eq_getElem hl
  obtain ⟨t, ht, o1, o2, o3⟩ := h.at_ e
  have hv : t = ⟨t.has, R[s].wait⟩ := by rw [o2]
  have g1 := World.ownsRow.cellAt h.o (s * 2) (by omega)
  have g2 := World.ownsRow.cellAt h.o (s * 2 + 1) (by omega)
  rw [(hcv_get e).1] at g1
  rw [(hcv_get e).2] at g2
  exact ⟨_, _, _, _, t.has, o1, o3, g1, g2, World.ownsRow.frozenAt h.o _, World.ownsRow.frozenAt h.o _, Lib.hid e, Lib.hid (by rw [ht, ← hv]), Lib.hid (by rw [hAt_of ht, ← hv])⟩
end
theorem OwnC.form {w : World} {base nf cf n c : Nat} {F A : Option Addr} {R : List HR} {cx : CX} (h : OwnC w base F nf cf A n c R cx) (hn : 0 < n) : ∃ g, A = some ⟨g, 0, none⟩ ∧ base ≤ g ∧ g < w.heap.size := by
  obtain ⟨g, cap, hv, hb, hlt⟩ := World.ownsRow.form h.o hn
  injection hv with hA
  exact ⟨g, hA, hb, hlt⟩
end Go.Proofs.Ytehgipbedlamaaa
