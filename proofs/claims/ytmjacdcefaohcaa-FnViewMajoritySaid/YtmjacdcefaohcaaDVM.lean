/-
  The draw of a view and some members.
-/
import Derived.Test.YtmjacdcefaohcaaDV
namespace Go.Proofs.Ytmjacdcefaohcaa
open Go.RowKit
set_option linter.unusedVariables false

/-- A view and some ints are drawn into memory of the call's own. -/
def DrewVI (w : World) (e : Ending) (w' : World) : Prop :=
  ∃ q A n c xs A' n' c' ys, e = .returned (.tuple #[.agg #[.int .i64 q, .slice A n c], .slice A' n' c']) ∧ Own w' w.heap.size A n c xs ∧ Own w' w.heap.size A' n' c' ys ∧ n ≤ 9 ∧ n' ≤ 10 ∧ Below w.heap.size w w'

structure DVM (w : World) (G g Sv : Nat) (q : Int) (A : Option Addr) (n c : Nat) (xs : List Int) (wr : World) (B : Option Addr) (m d : Nat) (ys : List Int) (p : Int) : Prop where
  q : Blk wr Sv 27 #[.int .i64 q, .slice A n c]
  r : Blk wr w.heap.size 27 #[.int .i64 0, .slice none 0 0]
  a : RowI wr (w.heap.size + 1) Sv A n c xs
  o : Own wr (Sv + 1) B m d ys
  rd : Rdr wr G g p
  bl : Below w.heap.size w wr
  gS : w.heap.size < g ∧ g < Sv
  na : blk A ≠ some g

section
variable {w wr w1 w3 : World} {G g Sv n c m d c3 : Nat} {p q v : Int} {A B A3 : Option Addr} {xs ys : List Int}
theorem DVM.picked (h : DVM w G g Sv q A n c xs wr B m d ys p) (hr : Rdr w1 G g (p + 1)) (hg : wr.grownBy w1 (some g)) (hb : Below g wr w1) : DVM w G g Sv q A n c xs w1 B m d ys (p + 1) := by
  have hgS := h.gS
  exact ⟨h.q.grown hg (fun e => by injection e with e; omega), h.r.grown hg (fun e => by injection e with e; omega), ⟨h.a.own.kept hg (fun k hk e => h.na (by rw [hk, e])), h.a.2⟩,
    h.o.kept hg (fun k hk e => by injection e with e; have := h.o.lt hk; omega), hr, h.bl.trans (hb.mono (by omega)), hgS, h.na⟩
theorem DVM.add (h : DVM w G g Sv q A n c xs wr B m d ys p) (hg : (wr.alloc (.cells #[.int .i64 v] 3)).grownBy w3 (blk B)) (ho : Own w3 (Sv + 1) A3 (m + 1) c3 (ys ++ [v])) :
    DVM w G g Sv q A n c xs w3 A3 (m + 1) c3 (ys ++ [v]) p := by
  have hgS := h.gS
  have hsz := h.q.lt
  have hrow : ∀ k, blk B = some k → Sv < k := fun k hk => by have := h.o.lt hk; omega
  exact ⟨(h.q.alloc _).grown hg (fun e => by have := hrow _ e.symm; omega), (h.r.alloc _).grown hg (fun e => by have := hrow _ e.symm; omega), ⟨(h.a.own.alloc _).kept hg (fun k hk e => by have := hrow _ e; have := h.a.2 k hk; omega), h.a.2⟩,
    ho, (h.rd.alloc _).grown hg (fun k hk => by have := hrow k hk; omega), (h.bl.alloc (by omega) _).grown hg (by simp; omega) (fun k hk => by have := hrow k hk; omega), hgS, h.na⟩
theorem DVM.finish (h : DVM w G g Sv q A n c xs wr B m d ys p) (hn : n ≤ 9) (hm : m ≤ 10) :
    DrewVI w (.returned (.tuple #[.agg #[.int .i64 q, .slice A n c], .slice B m d])) ((wr.setCell ⟨w.heap.size, 0, none⟩ (.int .i64 q)).setCell ⟨w.heap.size, 1, none⟩ (.slice A n c)) := by
  have hgS := h.gS
  have ho := h.o.mono (base' := w.heap.size + 1) (by omega)
  exact ⟨q, A, n, c, xs, B, m, d, ys, rfl, ((h.a.own.setBelow (by first | omega | (simp; done) | (simp; omega)) _).setBelow (by first | omega | (simp; done) | (simp; omega)) _).mono (by first | omega | (simp; done) | (simp; omega)), ((ho.setBelow (by first | omega | (simp; done) | (simp; omega)) _).setBelow (by first | omega | (simp; done) | (simp; omega)) _).mono (by first | omega | (simp; done) | (simp; omega)), hn, hm, (h.bl.setCell (by first | omega | (simp; done) | (simp; omega)) _).setCell (by first | omega | (simp; done) | (simp; omega)) _⟩
end

set_option maxHeartbeats 4000000 in
theorem drawViewMajority_any (A : Option Addr) (n c : Nat) (bs : List Int) (w : World) (hb : Bytes w w.heap.size A n bs) (hn : n ≤ 1048576) (hc : n ≤ c) (hc' : c ≤ 9223372036854775807) :
    Calls Try.prog 15 #[.slice A n c] w (DrewVI w) := by
  go_enter Try.func15, Try.ntmps15
  go_wp2_with fail
  refine (open_any _ _ _ _ _ (hb.up _) hn hc hc').mono ?_
  rintro e w0 ⟨g, rfl, hr0, hg0, hb0⟩
  go_wp2_with fail
  refine (l92View_any _ _ _ _ hr0 (by omega) (by omega)).mono ?_
  rintro e w1 ⟨q, A1, n1, c1, xs, p', rfl, ho1, hn1, hr1, hp1, hp2, hgr, hbl⟩
  have hge : w.heap.size + 1 ≤ g := by have := hr0.lt; simpa using this.2
  have hb0s := hb0.size
  simp at hb0s
  have hgl := hr1.lt.1
  have hD : DVM w (w.alloc (.cells #[.int .i64 0, .slice none 0 0] 27)).heap.size g w1.heap.size q A1 n1 c1 xs ((w1.alloc (.cells #[.int .i64 q, .slice A1 n1 c1] 27)).alloc (.cells #[] 3)) (some ⟨w1.heap.size + 1, 0, none⟩) 0 0 [] p' := by
    have hB1 : Below w.heap.size w w1 := (by repeat' (first | with_reducible exact Below.refl _ _ | with_reducible assumption | with_reducible refine Below.setCell ?_ (by first | omega | (simp; done) | (simp; omega)) _ | with_reducible refine Below.alloc ?_ (by first | omega | (simp; done) | (simp; omega)) _ | with_reducible refine below_drewN ?_ _ | with_reducible refine Below.drew ?_ | (with_reducible refine Below.trans ?_ (Below.mono (by with_reducible assumption) (by first | omega | (simp; done) | (simp; omega))))))
    have z1 := hB1.size
    exact ⟨(Blk.new _ _ _).alloc _, ((((Blk.new w _ _).below hb0 (by simp)).below hbl (by omega)).alloc _).alloc _, ⟨((ho1.mono (by omega)).alloc _).alloc _, fun k hk => (ho1.lt hk).2⟩, by (refine Own.lit0 ?_ ?_ <;> first | omega | (simp; done) | (simp; omega)),
      (hr1.alloc _).alloc _, (hB1.alloc z1 _).alloc (by simp; omega) _, ⟨by omega, hgl⟩, fun e => by have := ho1.lt e; omega⟩
  have HL := Lib.hid ho1.len
  clear hb0 hbl hgr hr0 ho1 hr1
  go_wp2_with fail
  generalize ((w1.alloc (.cells #[.int .i64 q, .slice A1 n1 c1] 27)).alloc (.cells #[] 3)) = w2 at hD ⊢
  go_loopw [6, 7] (fun s i wr => ∃ (k : Nat) (B : Option Addr) (m d : Nat) (ys : List Int), k ≤ n1 ∧ i = .int .i64 k ∧ s = .slice B m d ∧ m ≤ k ∧ DVM w (w.alloc (.cells #[.int .i64 0, .slice none 0 0] 27)).heap.size g w1.heap.size q A1 n1 c1 xs wr B m d ys (p' + k)) (fun _ i _ => n1 - (intOf i).toNat)
  case atStart => exact ⟨0, _, 0, _, _, by omega, rfl, rfl, by omega, by simpa using hD⟩
  case round =>
    clear hD
    obtain ⟨k, B, m, d, ys, hk, rfl, rfl, hm, h⟩ := hrel
    have f0 := h.q.two
    have z0 := h.q.lt
    by_cases hlt : k < n1
    · go_wp2_with fail
      refine (pick_pos _ g _ _ _ h.rd (by omega) (by omega) (by omega) (by omega)).mono ?_
      rintro e w3 ⟨u, rfl, hu0, hu1, hr3, hg3, hs3, hb3⟩
      have h3 := h.picked hr3 hg3 hb3
      clear h hr3 hg3 hb3 hs3 f0 z0
      have f3 := h3.q.two
      have z3 := h3.q.lt
      by_cases hu : 0 < u
      · obtain ⟨ad, x, rfl, hb, hcx, hx1, hs⟩ := (h3.a.own.ints).elem hlt
        go_wp2_with (at_builtin; refine app1 rfl _ _ rfl (w1.heap.size + 1) rfl (h3.o.alloc _) _ _ _ _ [_] rfl (Ints.one' _ (by first | omega | (simp; done) | (simp; omega))) (by omega) (by have := h3.q.lt; simp; omega) ?_; intro A3 c3 w4 o4 hg4 at4; have h4 := h3.add hg4 o4)
        go_roundw
        case rel => exact ⟨k + 1, A3, m + 1, c3, _, by omega, by go_num, rfl, by omega, by rw [show p' + ((k + 1 : Nat) : Int) = p' + (k : Int) + 1 by omega]; exact h4⟩
        case measure => simp [intOf]; omega
      · go_wp2
        go_roundw
        case rel => exact ⟨k + 1, B, m, d, ys, by omega, by go_num, rfl, by omega, by rw [show p' + ((k + 1 : Nat) : Int) = p' + (k : Int) + 1 by omega]; exact h3⟩
        case measure => simp [intOf]; omega
    · have hkn : k = n1 := by omega
      subst hkn
      go_wp2_with fail
      refine (pick_pos _ g _ _ _ h.rd (by omega) (by omega) (by omega) (by omega)).mono ?_
      rintro e w3 ⟨u, rfl, hu0, hu1, hr3, hg3, hs3, hb3⟩
      have h3 := h.picked hr3 hg3 hb3
      clear h hr3 hg3 hb3 hs3 f0 z0
      have f3 := h3.q.two
      have r3 := h3.r.two
      have z3 := h3.q.lt
      have z4 := h3.r.lt
      cases hu : (u == 0)
      · go_wp2_with fail
        exact bodyPost_ret (v := .tuple #[.agg #[.int .i64 q, .slice A1 k c1], .slice B m d]) (by simp [results, Try.results15, go_sem, r3]) rfl (h3.finish (by omega) (by omega))
      · go_wp2_with fail
        refine (pick_pos _ g _ _ _ h3.rd (by omega) (by omega) (by omega) (by omega)).mono ?_
        rintro e w5 ⟨v, rfl, hv0, hv1, hr5, hg5, hs5, hb5⟩
        have h5 := h3.picked hr5 hg5 hb5
        clear h3 hr5 hg5 hb5 hs5 f3 r3 z3 z4
        have z5 := h5.q.lt
        go_wp2_with (at_builtin; refine app1 rfl _ _ rfl (w1.heap.size + 1) rfl (h5.o.alloc _) _ _ _ _ [_] rfl (Ints.one' _ (by first | omega | (simp; done) | (simp; omega))) (by omega) (by have := h5.q.lt; simp; omega) ?_; intro A3 c3 w4 o4 hg4 at4; have h6 := h5.add hg4 o4; have f6 := h6.q.two; have r6 := h6.r.two; have z6 := h6.q.lt; have z7 := h6.r.lt)
        exact bodyPost_ret (v := .tuple #[.agg #[.int .i64 q, .slice A1 k c1], .slice A3 (m + 1) c3]) (by simp [results, Try.results15, go_sem, r6]) rfl (h6.finish (by omega) (by omega))
end Go.Proofs.Ytmjacdcefaohcaa
