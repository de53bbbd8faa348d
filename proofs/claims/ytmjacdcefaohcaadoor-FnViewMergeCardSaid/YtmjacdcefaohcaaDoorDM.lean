/-
  The draw of two views. (Printed by gen_dm.py.)
-/
import Derived.Test.YtmjacdcefaohcaaDoorDW
import Derived.Test.YtmjacdcefaohcaaDoorE3S
import Derived.Test.YtmjacdcefaohcaaDoorV1
namespace Go.Proofs.YtmjacdcefaohcaaDoor
open Go.RowKit
set_option linter.unusedVariables false

/-- Two views are drawn into memory of the call's own. -/
def DrewV2 (w : World) (e : Ending) (w' : World) : Prop :=
  ∃ q A n c xs p B m d ys, e = .returned (.tuple #[.agg #[.int .i64 q, .slice A n c], .agg #[.int .i64 p, .slice B m d]]) ∧ Own w' w.heap.size A n c xs ∧ Own w' w.heap.size B m d ys ∧ n ≤ 9 ∧ m ≤ 9 ∧ Below w.heap.size w w'

structure DM (w : World) (G g Sa Sb : Nat) (qa : Int) (A : Option Addr) (n c : Nat) (xs : List Int) (qb : Int) (B : Option Addr) (m d : Nat) (ys : List Int) (wr : World) (p : Int) : Prop where
  qa : Blk wr Sa 25 #[.int .i64 qa, .slice A n c]
  qb : Blk wr Sb 25 #[.int .i64 qb, .slice B m d]
  r1 : Blk wr w.heap.size 25 #[.int .i64 0, .slice none 0 0]
  r2 : Blk wr (w.heap.size + 1) 25 #[.int .i64 0, .slice none 0 0]
  a : RowI wr (w.heap.size + 1 + 1) Sa A n c xs
  b : RowI wr (Sa + 1) Sb B m d ys
  rd : Rdr wr G g p
  bl : Below w.heap.size w wr
  gS : w.heap.size + 1 < g ∧ g < Sa ∧ Sa < Sb
  na : blk A ≠ some g
section
variable {w wr w1 w3 : World} {G g Sa Sb n c m d k c3 : Nat} {p qa qb v : Int} {A B C A3 : Option Addr} {xs ys zs : List Int}
theorem DM.picked (h : DM w G g Sa Sb qa A n c xs qb B m d ys wr p) (hr : Rdr w1 G g (p + 1)) (hg : wr.grownBy w1 (some g)) (hb : Below g wr w1) : DM w G g Sa Sb qa A n c xs qb B m d ys w1 (p + 1) := by
  have hgS := h.gS
  exact ⟨h.qa.grown hg (fun e => by injection e with e; omega), h.qb.grown hg (fun e => by injection e with e; omega), h.r1.grown hg (fun e => by injection e with e; omega), h.r2.grown hg (fun e => by injection e with e; omega),
    ⟨h.a.own.kept hg (fun k hk e => h.na (by rw [hk, e])), h.a.2⟩, ⟨h.b.own.kept hg (fun k hk e => by injection e with e; have := (h.b.own.lt hk).1; omega), h.b.2⟩, hr, h.bl.trans (hb.mono (by omega)), hgS, h.na⟩
theorem DM.alloc (h : DM w G g Sa Sb qa A n c xs qb B m d ys wr p) (o : Obj) : DM w G g Sa Sb qa A n c xs qb B m d ys (wr.alloc o) p :=
  ⟨h.qa.alloc o, h.qb.alloc o, h.r1.alloc o, h.r2.alloc o, ⟨h.a.own.alloc o, h.a.2⟩, ⟨h.b.own.alloc o, h.b.2⟩, h.rd.alloc o, h.bl.alloc h.bl.size o, h.gS, h.na⟩
/-- A row above all of it grows. -/
theorem DM.grown (h : DM w G g Sa Sb qa A n c xs qb B m d ys wr p) {row : Option Nat} (hg : wr.grownBy w3 row) (hr : ∀ k, row = some k → Sb < k) : DM w G g Sa Sb qa A n c xs qb B m d ys w3 p := by
  have hgS := h.gS
  exact ⟨h.qa.grown hg (fun e => by have := hr _ e.symm; omega), h.qb.grown hg (fun e => by have := hr _ e.symm; omega), h.r1.grown hg (fun e => by have := hr _ e.symm; omega), h.r2.grown hg (fun e => by have := hr _ e.symm; omega),
    ⟨h.a.own.kept hg (fun k hk e => by have := hr _ e; have := h.a.2 k hk; omega), h.a.2⟩, ⟨h.b.own.kept hg (fun k hk e => by have := hr _ e; have := h.b.2 k hk; omega), h.b.2⟩,
    h.rd.grown hg (fun k hk => by have := hr k hk; omega), h.bl.grown hg h.bl.size (fun k hk => by have := hr k hk; omega), hgS, h.na⟩
/-- What the four stores leave. -/
theorem DM.fin (h : DM w G g Sa Sb qa A n c xs qb B m d ys wr p) {W : World} {B' : Option Addr} {m' d' : Nat} {zs : List Int} (ho : Own wr (w.heap.size + 1 + 1) B' m' d' zs) (hn : n ≤ 9) (hm : m' ≤ 9)
    (hW : ∃ (a b c e f : Value) (p1 p2 p3 p4 : Addr), (W = (((wr.setCell p1 a).setCell p2 b).setCell p3 c).setCell p4 e ∨ W = ((((wr.setCell p1 a).setCell p2 b).setCell p3 c).setCell p4 e).drew ∨ W = (((((wr.setCell ⟨Sb, 1, none⟩ f).setCell p1 a).setCell p2 b).setCell p3 c).setCell p4 e) ∨ W = (((((wr.setCell ⟨Sb, 1, none⟩ f).setCell p1 a).setCell p2 b).setCell p3 c).setCell p4 e).drew) ∧
      (w.heap.size ≤ p1.block ∧ p1.block < w.heap.size + 1 + 1) ∧ (w.heap.size ≤ p2.block ∧ p2.block < w.heap.size + 1 + 1) ∧ (w.heap.size ≤ p3.block ∧ p3.block < w.heap.size + 1 + 1) ∧ (w.heap.size ≤ p4.block ∧ p4.block < w.heap.size + 1 + 1)) :
    DrewV2 w (.returned (.tuple #[.agg #[.int .i64 qa, .slice A n c], .agg #[.int .i64 qb, .slice B' m' d']])) W := by
  have hgS := h.gS
  obtain ⟨a, b, c', e, f, p1, p2, p3, p4, hW, h1, h2, h3, h4⟩ := hW
  have ha := h.a.own
  have hb0 := h.bl
  have ha' : Own (wr.setCell ⟨Sb, 1, none⟩ f) (w.heap.size + 1 + 1) A n c xs := ha.setCell (fun k hk e => own_ne_blk ha h.qb (by decide) (by rw [hk]; simp at e; rw [e])) _
  have ho' : Own (wr.setCell ⟨Sb, 1, none⟩ f) (w.heap.size + 1 + 1) B' m' d' zs := ho.setCell (fun k hk e => own_ne_blk ho h.qb (by decide) (by rw [hk]; simp at e; rw [e])) _
  have hb' : Below w.heap.size w (wr.setCell ⟨Sb, 1, none⟩ f) := hb0.setCell (by simp; omega) _
  rcases hW with rfl | rfl | rfl | rfl
  · exact ⟨qa, A, n, c, xs, qb, B', m', d', zs, rfl, ((((ha.setBelow h1.2 _).setBelow h2.2 _).setBelow h3.2 _).setBelow h4.2 _).mono (by omega), ((((ho.setBelow h1.2 _).setBelow h2.2 _).setBelow h3.2 _).setBelow h4.2 _).mono (by omega), hn, hm, (((hb0.setCell h1.1 _).setCell h2.1 _).setCell h3.1 _).setCell h4.1 _⟩
  · exact ⟨qa, A, n, c, xs, qb, B', m', d', zs, rfl, (((((ha.setBelow h1.2 _).setBelow h2.2 _).setBelow h3.2 _).setBelow h4.2 _).drew).mono (by omega), (((((ho.setBelow h1.2 _).setBelow h2.2 _).setBelow h3.2 _).setBelow h4.2 _).drew).mono (by omega), hn, hm, ((((hb0.setCell h1.1 _).setCell h2.1 _).setCell h3.1 _).setCell h4.1 _).drew⟩
  · exact ⟨qa, A, n, c, xs, qb, B', m', d', zs, rfl, ((((ha'.setBelow h1.2 _).setBelow h2.2 _).setBelow h3.2 _).setBelow h4.2 _).mono (by omega), ((((ho'.setBelow h1.2 _).setBelow h2.2 _).setBelow h3.2 _).setBelow h4.2 _).mono (by omega), hn, hm, (((hb'.setCell h1.1 _).setCell h2.1 _).setCell h3.1 _).setCell h4.1 _⟩
  · exact ⟨qa, A, n, c, xs, qb, B', m', d', zs, rfl, (((((ha'.setBelow h1.2 _).setBelow h2.2 _).setBelow h3.2 _).setBelow h4.2 _).drew).mono (by omega), (((((ho'.setBelow h1.2 _).setBelow h2.2 _).setBelow h3.2 _).setBelow h4.2 _).drew).mono (by omega), hn, hm, ((((hb'.setCell h1.1 _).setCell h2.1 _).setCell h3.1 _).setCell h4.1 _).drew⟩
end

set_option maxHeartbeats 8000000 in
theorem drawViewMerge_any (A : Option Addr) (n c : Nat) (bs : List Int) (w : World) (hb : Bytes w w.heap.size A n bs) (hn : n ≤ 1048576) (hc : n ≤ c) (hc' : c ≤ 9223372036854775807) :
    Calls Tryd.prog 38 #[.slice A n c] w (DrewV2 w) := by
  go_enter Tryd.func38, Tryd.ntmps38
  go_wp2_with fail
  refine (open_any _ _ _ _ _ ((hb.up _).up _) hn hc hc').mono ?_
  rintro e w0 ⟨g, rfl, hr0, hg0, hb0⟩
  go_wp2_with fail
  refine (l92View_any _ _ _ _ hr0 (by omega) (by omega)).mono ?_
  rintro e w1 ⟨q, A1, n1, c1, xs, p', rfl, ho1, hn1, hr1, hp1, hp2, hgr, hbl⟩
  have hge : w.heap.size + 1 + 1 ≤ g := by have := hr0.lt; simpa using this.2
  have hb0s := hb0.size
  simp at hb0s
  have hgl := hr1.lt.1
  go_wp2_with fail
  refine (l92View_any _ _ _ _ (hr1.alloc _) (by omega) (by omega)).mono ?_
  rintro e w2 ⟨qb, B1, m1, d1, ys, p'', rfl, ho2, hm1, hr2, hp3, hp4, hgr2, hbl2⟩
  have zz := hgr2.size
  simp at zz
  have hD : DM w ((w.alloc (.cells #[.int .i64 0, .slice none 0 0] 25)).alloc (.cells #[.int .i64 0, .slice none 0 0] 25)).heap.size g w1.heap.size w2.heap.size q A1 n1 c1 xs qb B1 m1 d1 ys (w2.alloc (.cells #[.int .i64 qb, .slice B1 m1 d1] 25)) p'' := by
    have hB0 : Below w.heap.size w w0 := (by repeat' (first | with_reducible exact Below.refl _ _ | with_reducible assumption | with_reducible refine Below.setCell ?_ (by first | omega | (simp; done) | (simp; omega)) _ | with_reducible refine Below.alloc ?_ (by first | omega | (simp; done) | (simp; omega)) _ | with_reducible refine below_drewN ?_ _ | with_reducible refine Below.drew ?_ | (with_reducible refine Below.trans ?_ (Below.mono (by with_reducible assumption) (by first | omega | (simp; done) | (simp; omega))))))
    have hB1 : Below w.heap.size w w1 := hB0.trans (hbl.mono (by omega))
    have hB2 : Below w.heap.size w w2 := (hB1.alloc hB1.size (.cells #[.int .i64 q, .slice A1 n1 c1] 25)).trans (hbl2.mono (by omega))
    have x1 := ((Blk.new w 25 #[.int .i64 0, .slice none 0 0]).alloc (.cells #[.int .i64 0, .slice none 0 0] 25)).below hb0 (by first | omega | (simp; done) | (simp; omega))
    have x2 := (Blk.new (w.alloc (.cells #[.int .i64 0, .slice none 0 0] 25)) 25 #[.int .i64 0, .slice none 0 0]).below hb0 (by first | omega | (simp; done) | (simp; omega))
    simp only [World.size_alloc] at x2
    have y1 := (x1.below hbl (by omega)).alloc (.cells #[.int .i64 q, .slice A1 n1 c1] 25)
    have y2 := (x2.below hbl (by omega)).alloc (.cells #[.int .i64 q, .slice A1 n1 c1] 25)
    have y3 := Blk.new w1 25 #[.int .i64 q, .slice A1 n1 c1]
    have oA : Own w2 (w.heap.size + 1 + 1) A1 n1 c1 xs := ((ho1.mono (by omega)).alloc _).kept hgr2 (fun k hk e => by injection e with e; have := ho1.lt hk; omega)
    simp only [World.size_alloc] at ho2
    exact ⟨(y3.grown hgr2 (fun e => by injection e with e; omega)).alloc _, Blk.new _ _ _, (y1.below hbl2 (by omega)).alloc _, (y2.below hbl2 (by omega)).alloc _, ⟨oA.alloc _, fun k hk => (ho1.lt hk).2⟩, ⟨ho2.alloc _, fun k hk => (ho2.lt hk).2⟩,
      hr2.alloc _, hB2.alloc hB2.size _, ⟨by omega, hgl, by omega⟩, fun e => by have := ho1.lt e; omega⟩
  clear hb0 hbl hgr hr0 ho1 hr1 hgr2 hbl2 ho2 hr2
  have hL1 := hD.a.len
  go_wp2_with fail
  generalize (w2.alloc (.cells #[.int .i64 qb, .slice B1 m1 d1] 25)) = w3 at hD ⊢
  generalize w1.heap.size = Sa at hD ⊢
  generalize w2.heap.size = Sb at hD ⊢
  clear zz hgl hb0s hL1
  refine (pick_pos _ g _ _ _ hD.rd (by omega) (by omega) (by omega) (by omega)).mono ?_
  rintro e w4 ⟨u, rfl, hu0, hu1, hr3, hg3, hs3, hb3⟩
  have h4 := hD.picked hr3 hg3 hb3
  clear hD hr3 hg3 hb3 hs3
  by_cases hu : 0 < u
  · have za := h4.qb.lt
    have go0 : Own (w4.alloc (.cells #[] 3)) (Sb + 1) (some ⟨w4.heap.size, 0, none⟩) 0 0 [] := by (refine Own.lit0 ?_ ?_ <;> first | omega | (simp; done) | (simp; omega))
    go_wp2_with fail
    go_loopw [7, 8] (fun s i wr => ∃ (k : Nat) (C : Option Addr) (r s' : Nat) (zs : List Int), k ≤ 8 ∧ i = .int .i64 k ∧ s = .slice C r s' ∧ r ≤ k ∧ Own wr (Sb + 1) C r s' zs ∧ ∃ j : Nat, j ≤ k ∧ DM w ((w.alloc (.cells #[.int .i64 0, .slice none 0 0] 25)).alloc (.cells #[.int .i64 0, .slice none 0 0] 25)).heap.size g Sa Sb q A1 n1 c1 xs qb B1 m1 d1 ys wr (p'' + 1 + j)) (fun _ i _ => 8 - (intOf i).toNat)
    case atStart => exact ⟨0, _, 0, _, _, by omega, rfl, rfl, by omega, go0, 0, by omega, by simpa using h4.alloc _⟩
    case round =>
      clear h4 go0 za
      obtain ⟨k, C, r, s', zs, hk, rfl, rfl, hr, ho, j, hj, h⟩ := hrel
      have f1 := h.qa.two; have l1 := h.qa.lt
      have f2 := h.qb.two; have l2 := h.qb.lt
      have RA := h.a.own.ints
      have hrow : ∀ i, blk C = some i → Sb < i := fun i hi => by have := (ho.lt hi).1; omega
      by_cases hlt : k < 8
      · cases hh : hasB xs (k : Int)
        · go_wp2_with fail
          refine (l1Has_any _ _ _ wr.heap.size xs _ _ RA (by omega)).mono ?_
          rintro e w5 ⟨rfl, rfl⟩
          go_wp2_with fail
          refine (pick_pos _ g _ _ _ h.rd (by omega) (by omega) (by omega) (by omega)).mono ?_
          rintro e w5 ⟨v, rfl, hv0, hv1, hr5, hg5, hs5, hb5⟩
          have h5 := h.picked hr5 hg5 hb5
          have ho5 : Own w5 (Sb + 1) C r s' zs := ho.kept hg5 (fun i hi e => by injection e with e; have := hrow i hi; have := h.gS; omega)
          have hp5 : p'' + 1 + ((j + 1 : Nat) : Int) = p'' + 1 + (j : Int) + 1 := by omega
          clear h hr5 hg5 hb5 hs5 f1 f2 l1 l2 RA
          by_cases hv : 0 < v
          · go_wp2_with (at_builtin; refine app1 rfl _ _ rfl (Sb + 1) rfl (ho5.alloc _) _ _ _ _ [_] rfl (Ints.one' _ (by first | omega | (simp; done) | (simp; omega))) (by omega) (by have := h5.qb.lt; simp; omega) ?_; intro C3 c3 w6 o6 hg6 at6)
            go_roundw
            case rel => exact ⟨k + 1, C3, r + 1, c3, _, by omega, by go_num, rfl, by omega, o6, j + 1, by omega, by rw [hp5]; exact (h5.alloc _).grown hg6 hrow⟩
            case measure => simp [intOf]; omega
          · go_wp2
            go_roundw
            case rel => exact ⟨k + 1, C, r, s', zs, by omega, by go_num, rfl, by omega, ho5, j + 1, by omega, by rw [hp5]; exact h5⟩
            case measure => simp [intOf]; omega
        · go_wp2_with fail
          refine (l1Has_any _ _ _ wr.heap.size xs _ _ RA (by omega)).mono ?_
          rintro e w5 ⟨rfl, rfl⟩
          go_wp2
          go_roundw
          case rel => exact ⟨k + 1, C, r, s', zs, by omega, by go_num, rfl, by omega, ho, j, by omega, h⟩
          case measure => simp [intOf]; omega
      · have hk8 : k = 8 := by omega
        subst hk8
        have g1 := h.r1.two; have m1' := h.r1.lt; have g2 := h.r2.two; have m2' := h.r2.lt
        have hgS := h.gS
        obtain ⟨gs1, gs2, gs3⟩ := hgS
        go_wp2_with fail
        go_region
        all_goals (try go_wp2)
        all_goals
          exact bodyPost_ret (v := .tuple #[.agg #[.int .i64 q, .slice A1 n1 c1], .agg #[.int .i64 qb, .slice C r s']]) (by simp [results, Tryd.results38, go_sem, g1, g2, m1', m2']) rfl
            (h.fin (ho.mono (by omega)) (by omega) (by omega) ⟨_, _, _, _, _, _, _, _, _, (by first | exact .inr (.inr (.inr rfl)) | exact .inr (.inr (.inl rfl))), (by constructor <;> first | omega | (simp; done) | (simp; omega)), (by constructor <;> first | omega | (simp; done) | (simp; omega)), (by constructor <;> first | omega | (simp; done) | (simp; omega)), (by constructor <;> first | omega | (simp; done) | (simp; omega))⟩)
  · have f1 := h4.qa.two; have l1 := h4.qa.lt
    have f2 := h4.qb.two; have l2 := h4.qb.lt
    have g1 := h4.r1.two; have m1' := h4.r1.lt; have g2 := h4.r2.two; have m2' := h4.r2.lt
    obtain ⟨gs1, gs2, gs3⟩ := h4.gS
    go_wp2_with fail
    go_region
    all_goals (try go_wp2)
    all_goals
      exact bodyPost_ret (v := .tuple #[.agg #[.int .i64 q, .slice A1 n1 c1], .agg #[.int .i64 qb, .slice B1 m1 d1]]) (by simp [results, Tryd.results38, go_sem, g1, g2, m1', m2']) rfl
        (h4.fin (h4.b.own.mono (by omega)) (by omega) (by omega) ⟨_, _, _, _, .bool false, _, _, _, _, (by first | exact .inr (.inl rfl) | exact .inl rfl), (by constructor <;> first | omega | (simp; done) | (simp; omega)), (by constructor <;> first | omega | (simp; done) | (simp; omega)), (by constructor <;> first | omega | (simp; done) | (simp; omega)), (by constructor <;> first | omega | (simp; done) | (simp; omega))⟩)
end Go.Proofs.YtmjacdcefaohcaaDoor
