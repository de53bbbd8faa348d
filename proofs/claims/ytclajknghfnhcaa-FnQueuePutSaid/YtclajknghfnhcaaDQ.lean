/-
  The drawn queue: whatever the code, two short lists of ints in memory of its own.
-/
import Derived.Test.YtclajknghfnhcaaRd
import Derived.Test.YtclajknghfnhcaaQ2
import Derived.Deep.RegionLaw
import Derived.Deep.DeepCutAuto
namespace Go.Proofs.Ytclajknghfnhcaa
open Go.RowKit
set_option linter.unusedVariables false

/-- What drawing a queue leaves. -/
def DrewQ (p : Int) (B g : Nat) (w : World) (e : Ending) (w' : World) : Prop :=
  ∃ A n c A' n' c' xs ys p', e = .returned (.agg #[.slice A n c, .slice A' n' c']) ∧ Own w' w.heap.size A n c xs ∧ Own w' w.heap.size A' n' c' ys ∧ n ≤ 21 ∧ n' ≤ 21 ∧
    Rdr w' B g p' ∧ p ≤ p' ∧ p' ≤ p + 100 ∧ w.grownBy w' (some g) ∧ Below g w w'

/-- What stands in memory while a queue is drawn. -/
structure DQ (w : World) (B g : Nat) (p : Int) (wr : World) (A2 : Option Addr) (n2 c2 : Nat) (xs : List Int) (B2 : Option Addr) (m2 d2 : Nat) (ys : List Int) (p' : Int) : Prop where
  q : Blk wr (w.heap.size + 1 + 1 + 1) 25 #[.slice A2 n2 c2, .slice B2 m2 d2]
  r : Blk wr w.heap.size 25 #[.slice none 0 0, .slice none 0 0]
  a : Own wr (w.heap.size + 1) A2 n2 c2 xs
  b : Own wr (w.heap.size + 1) B2 m2 d2 ys
  ap : Apart A2 B2
  rd : Rdr wr B g p'
  gl : g < w.heap.size
  p0 : p ≤ p'
  gr : w.grownBy wr (some g)
  bl : Below g w wr
  sz : w.heap.size + 1 + 1 + 1 < wr.heap.size

section
variable {w wr w1 w3 : World} {B g n2 c2 m2 d2 c3 : Nat} {p p' : Int} {A2 B2 A3 : Option Addr} {xs ys : List Int} {v : Int}
theorem DQ.picked (h : DQ w B g p wr A2 n2 c2 xs B2 m2 d2 ys p') (hr : Rdr w1 B g (p' + 1)) (hg : wr.grownBy w1 (some g)) (hb : Below g wr w1) : DQ w B g p w1 A2 n2 c2 xs B2 m2 d2 ys (p' + 1) := by
  have hgl := h.gl
  refine ⟨h.q.grown hg (fun e => by injection e with e; omega), h.r.grown hg (fun e => by injection e with e; omega), h.a.kept hg (fun k hk e => by injection e with e; have := h.a.lt hk; omega),
    h.b.kept hg (fun k hk e => by injection e with e; have := h.b.lt hk; omega), h.ap, hr, hgl, by have := h.p0; omega, grown_trans' h.gr hg (fun k hk => .inl hk), h.bl.trans hb, Nat.lt_of_lt_of_le h.sz hg.size⟩
theorem DQ.addA (h : DQ w B g p w1 A2 n2 c2 xs B2 m2 d2 ys p') (hg : (w1.alloc (.cells #[.int .i64 v] 3)).grownBy w3 (blk A2)) (ho : Own w3 (w.heap.size + 1) A3 (n2 + 1) c3 (xs ++ [v])) (hat : blk A3 = blk A2 ∨ blk A3 = some (w1.alloc (.cells #[.int .i64 v] 3)).heap.size) :
    DQ w B g p (w3.setCell ⟨w.heap.size + 1 + 1 + 1, 0, none⟩ (.slice A3 (n2 + 1) c3)) A3 (n2 + 1) c3 (xs ++ [v]) B2 m2 d2 ys p' := by
  have hgl := h.gl
  have hsz := h.sz
  have hq3 : Blk w3 (w.heap.size + 1 + 1 + 1) 25 #[.slice A2 n2 c2, .slice B2 m2 d2] := Blk.grown (h.q.alloc _) hg (fun e => own_ne_blk h.a h.q (by decide) e.symm)
  have hr3 : Blk w3 w.heap.size 25 #[.slice none 0 0, .slice none 0 0] := Blk.grown (h.r.alloc _) hg (fun e => own_ne_blk h.a h.r (by decide) e.symm)
  have hb3 : Own w3 (w.heap.size + 1) B2 m2 d2 ys := (h.b.alloc _).kept hg (fun k hk e => h.ap k e hk)
  have hrow : ∀ k, blk A2 = some k → w.heap.size ≤ k := fun k hk => by have := h.a.lt hk; omega
  have hs3 := hg.size
  simp at hs3
  refine ⟨hq3.set_ 0 _, hr3.far (by first | omega | (simp; done) | (simp; omega)) _, ho.setCell (fun k hk e => own_ne_blk ho hq3 (by decide) (by rw [hk]; simp at e; rw [e])) _, hb3.setCell (fun k hk e => own_ne_blk hb3 hq3 (by decide) (by rw [hk]; simp at e; rw [e])) _, ?_, ?_, hgl, h.p0, ?_, ?_, by simp; omega⟩
  · intro k hk hk'
    have hl := h.b.lt hk'
    rcases hat with e | e
    · rw [e] at hk; exact h.ap k hk hk'
    · rw [e] at hk; simp at hk; omega
  · exact ((h.rd.alloc _).grown hg (fun k hk => by have := hrow k hk; omega)).setCell (by simp; omega) _
  · exact only_set (grown_trans' (grown_trans' h.gr (World.grownBy_alloc w1 _ none) (by simp)) hg (fun k hk => .inr (hrow k hk))) (by first | omega | (simp; done) | (simp; omega)) _
  · exact ((h.bl.alloc (by have := h.rd.lt; omega) _).grown hg (by have := h.rd.lt; simp; omega) (fun k hk => by have := hrow k hk; omega)).setCell (by simp; omega) _
theorem DQ.addB (h : DQ w B g p w1 A2 n2 c2 xs B2 m2 d2 ys p') (hg : (w1.alloc (.cells #[.int .i64 v] 3)).grownBy w3 (blk B2)) (ho : Own w3 (w.heap.size + 1) A3 (m2 + 1) c3 (ys ++ [v])) (hat : blk A3 = blk B2 ∨ blk A3 = some (w1.alloc (.cells #[.int .i64 v] 3)).heap.size) :
    DQ w B g p (w3.setCell ⟨w.heap.size + 1 + 1 + 1, 1, none⟩ (.slice A3 (m2 + 1) c3)) A2 n2 c2 xs A3 (m2 + 1) c3 (ys ++ [v]) p' := by
  have hgl := h.gl
  have hsz := h.sz
  have hq3 : Blk w3 (w.heap.size + 1 + 1 + 1) 25 #[.slice A2 n2 c2, .slice B2 m2 d2] := Blk.grown (h.q.alloc _) hg (fun e => own_ne_blk h.b h.q (by decide) e.symm)
  have hr3 : Blk w3 w.heap.size 25 #[.slice none 0 0, .slice none 0 0] := Blk.grown (h.r.alloc _) hg (fun e => own_ne_blk h.b h.r (by decide) e.symm)
  have ha3 : Own w3 (w.heap.size + 1) A2 n2 c2 xs := (h.a.alloc _).kept hg (fun k hk e => h.ap k hk e)
  have hrow : ∀ k, blk B2 = some k → w.heap.size ≤ k := fun k hk => by have := h.b.lt hk; omega
  have hs3 := hg.size
  simp at hs3
  refine ⟨hq3.set_ 1 _, hr3.far (by first | omega | (simp; done) | (simp; omega)) _, ha3.setCell (fun k hk e => own_ne_blk ha3 hq3 (by decide) (by rw [hk]; simp at e; rw [e])) _, ho.setCell (fun k hk e => own_ne_blk ho hq3 (by decide) (by rw [hk]; simp at e; rw [e])) _, ?_, ?_, hgl, h.p0, ?_, ?_, by simp; omega⟩
  · intro k hk hk'
    have hl := h.a.lt hk
    rcases hat with e | e
    · rw [e] at hk'; exact h.ap k hk hk'
    · rw [e] at hk'; simp at hk'; omega
  · exact ((h.rd.alloc _).grown hg (fun k hk => by have := hrow k hk; omega)).setCell (by simp; omega) _
  · exact only_set (grown_trans' (grown_trans' h.gr (World.grownBy_alloc w1 _ none) (by simp)) hg (fun k hk => .inr (hrow k hk))) (by first | omega | (simp; done) | (simp; omega)) _
  · exact ((h.bl.alloc (by have := h.rd.lt; omega) _).grown hg (by have := h.rd.lt; simp; omega) (fun k hk => by have := hrow k hk; omega)).setCell (by simp; omega) _
theorem DQ.alloc (h : DQ w B g p wr A2 n2 c2 xs B2 m2 d2 ys p') (o : Obj) : DQ w B g p (wr.alloc o) A2 n2 c2 xs B2 m2 d2 ys p' :=
  ⟨h.q.alloc o, h.r.alloc o, h.a.alloc o, h.b.alloc o, h.ap, h.rd.alloc o, h.gl, h.p0, grown_trans' h.gr (World.grownBy_alloc wr o none) (by simp), h.bl.alloc (by have := h.rd.lt; omega) o, by have := h.sz; simp; omega⟩
theorem DQ.drew (h : DQ w B g p wr A2 n2 c2 xs B2 m2 d2 ys p') : DQ w B g p wr.drew A2 n2 c2 xs B2 m2 d2 ys p' :=
  ⟨h.q, h.r, h.a, h.b, h.ap, h.rd, h.gl, h.p0, ⟨h.gr.os, h.gr.tape, h.gr.output, h.gr.size, h.gr.block⟩, h.bl.drew, h.sz⟩
theorem DQ.start (hr : Rdr w B g p) : DQ w B g p ((((w.alloc (.cells #[.slice none 0 0, .slice none 0 0] 25)).alloc (.cells #[] 3)).alloc (.cells #[] 3)).alloc
      (.cells #[.slice (some ⟨w.heap.size + 1, 0, none⟩) 0 0, .slice (some ⟨w.heap.size + 1 + 1, 0, none⟩) 0 0] 25)) (some ⟨w.heap.size + 1, 0, none⟩) 0 0 [] (some ⟨w.heap.size + 1 + 1, 0, none⟩) 0 0 [] p := by
  obtain ⟨hgl, hB⟩ := hr.lt
  have hq := Blk.new (((w.alloc (.cells #[.slice none 0 0, .slice none 0 0] 25)).alloc (.cells #[] 3)).alloc (.cells #[] 3)) 25 #[.slice (some ⟨w.heap.size + 1, 0, none⟩) 0 0, .slice (some ⟨w.heap.size + 1 + 1, 0, none⟩) 0 0]
  simp only [World.size_alloc] at hq
  refine ⟨hq, (((Blk.new w _ _).alloc _).alloc _).alloc _, ?_, ?_, ?_, (((hr.alloc _).alloc _).alloc _).alloc _, hgl, Int.le_refl _, ?_, (by repeat' (first | with_reducible exact Below.refl _ _ | with_reducible assumption | with_reducible refine Below.setCell ?_ (by first | omega | (simp; done) | (simp; omega)) _ | with_reducible refine Below.alloc ?_ (by first | omega | (simp; done) | (simp; omega)) _ | with_reducible refine below_drewN ?_ _ | with_reducible refine Below.drew ?_ | (with_reducible refine Below.trans ?_ (Below.mono (by with_reducible assumption) (by first | omega | (simp; done) | (simp; omega)))))), (by first | omega | (simp; done) | (simp; omega))⟩
  · exact Own.alloc (Own.alloc (by (refine Own.lit0 ?_ ?_ <;> first | omega | (simp; done) | (simp; omega))) _) _
  · exact Own.alloc (by (refine Own.lit0 ?_ ?_ <;> first | omega | (simp; done) | (simp; omega))) _
  · intro k hk hk'; simp only [blk, Option.map_some, Option.some.injEq] at hk hk'; omega
  · exact grown_trans' (grown_trans' (grown_trans' (World.grownBy_alloc w _ (some g)) (World.grownBy_alloc _ _ none) (by simp)) (World.grownBy_alloc _ _ none) (by simp)) (World.grownBy_alloc _ _ none) (by simp)
end

theorem DQ.finish {w wr : World} {B g n2 c2 m2 d2 : Nat} {p p' : Int} {A2 B2 : Option Addr} {xs ys : List Int} (h : DQ w B g p wr A2 n2 c2 xs B2 m2 d2 ys p') (hn : n2 ≤ 21) (hm : m2 ≤ 21) (hp : p' ≤ p + 100) :
    DrewQ p B g w (.returned (.agg #[.slice A2 n2 c2, .slice B2 m2 d2])) ((wr.setCell ⟨w.heap.size, 0, none⟩ (.slice A2 n2 c2)).setCell ⟨w.heap.size, 1, none⟩ (.slice B2 m2 d2)) := by
  have hgl := h.gl
  exact ⟨A2, n2, c2, B2, m2, d2, xs, ys, p', rfl, ((h.a.setBelow (by first | omega | (simp; done) | (simp; omega)) _).setBelow (by first | omega | (simp; done) | (simp; omega)) _).mono (by first | omega | (simp; done) | (simp; omega)), ((h.b.setBelow (by first | omega | (simp; done) | (simp; omega)) _).setBelow (by first | omega | (simp; done) | (simp; omega)) _).mono (by first | omega | (simp; done) | (simp; omega)), hn, hm, (h.rd.setCell (by simpa using hgl) _).setCell (by simpa using hgl) _, h.p0, hp,
    only_set (only_set h.gr (by first | omega | (simp; done) | (simp; omega)) _) (by first | omega | (simp; done) | (simp; omega)) _, (h.bl.setCell (by simp; omega) _).setCell (by simp; omega) _⟩

set_option maxHeartbeats 8000000 in
theorem l92Queue_any (B g : Nat) (p : Int) (w : World) (hr : Rdr w B g p) (hp0 : 0 ≤ p) (hp1 : p ≤ 1048576) :
    Calls Try.prog 12 #[.pointer (some ⟨g, 0, none⟩)] w (DrewQ p B g w) := by
  have hgl := hr.lt
  obtain ⟨hgl, hBg⟩ := hgl
  have h0 := DQ.start hr
  go_enter Try.func12, Try.ntmps12
  go_wp2_with fail
  refine (pick_pos B g p _ _ h0.rd (by omega) (by omega) (by omega) (by omega)).mono ?_
  rintro e w1 ⟨v1, rfl, hv1, hv1', hr1, hg1, hs1, hb1⟩
  have h1 := h0.picked hr1 hg1 hb1
  clear h0 hr1 hg1 hb1 hs1 hr
  obtain ⟨N, rfl⟩ := Int.eq_ofNat_of_zero_le hv1
  go_wp2_with fail
  refine (pick_pos B g _ _ _ h1.rd (by omega) (by omega) (by omega) (by omega)).mono ?_
  rintro e w2 ⟨v2, rfl, hv2, hv2', hr2, hg2, hs2, hb2⟩
  have h2 := h1.picked hr2 hg2 hb2
  clear h1 hr2 hg2 hb2 hs2
  go_upto_if 14 with fail
  go_cut [4] (fun s4 wx => ∃ M : Nat, M ≤ 20 ∧ s4 = .int .i64 M ∧ DQ w B g p wx (some ⟨w.heap.size + 1, 0, none⟩) 0 0 [] (some ⟨w.heap.size + 1 + 1, 0, none⟩) 0 0 [] (p + 1 + 1))
  case first =>
    cases hz : (v2 == 0)
    · go_wp2_with fail
      go_meet
      exact ⟨N, by omega, rfl, h2⟩
    · go_wp2_with fail
      go_meet
      exact ⟨20, by omega, rfl, h2⟩
  case rest =>
    clear h2 hv1 hv1' hv2 hv2'
    obtain ⟨M, hM, rfl, h2⟩ := hcut
    go_wp2_with fail
    go_loopw [5] (fun i wr => ∃ (k : Nat) (A2 : Option Addr) (c2 : Nat) (xs : List Int) (B2 : Option Addr) (d2 : Nat) (p' : Int), k ≤ M ∧ i = .int .i64 k ∧ DQ w B g p wr A2 k c2 xs B2 0 d2 [] p' ∧ p' ≤ p + 2 + k) (fun i _ => M - (intOf i).toNat)
    case atStart => exact ⟨0, _, _, _, _, _, _, by omega, rfl, h2, by omega⟩
    case round =>
      clear h2
      obtain ⟨k, A2, c2, xs, B2, d2, p', hk, rfl, h, hp'⟩ := hrel
      have hpp := h.p0
      by_cases hlt : k < M
      · have f1 := h.q.two
        go_wp2_with fail
        go_region_law (first
          | (refine step_calls 13 #[.pointer (some ⟨g, 0, none⟩), .int .i64 250] rfl (by simp [go_sem, Act.eval, Act.put]) ?_; refine (pick_pos B g p' 250 _ (h.rd.drew) (by omega) (by omega) (by omega) (by omega)).mono ?_; rintro e w3 ⟨v, rfl, hv0, hv1, hr3, hg3, hs3, hb3⟩; refine ⟨_, rfl, ?_⟩; have h3 := h.drew.picked hr3 hg3 hb3; have f3 := h3.q.two; have z3 := h3.sz; clear hs3)
          | (refine step_app1 rfl (.tmp 21) (.tmp 24) rfl (w.heap.size + 1) (by rfl) (h3.a.alloc _) _ _ _ _ [v] (by rfl) (Ints.one' _ (by first | omega | (simp; done) | (simp; omega))) (by omega) (by have := h3.sz; simp; omega) ?_; intro A3 c3 w4 o4 hg4 at4; have h4 := h3.addA hg4 o4 at4; have f4 := (Blk.grown (h3.q.alloc _) hg4 (fun e => own_ne_blk h3.a h3.q (by decide) e.symm)).two))
        all_goals
          go_wp2_with fail
          go_roundw
        all_goals first
          | (exact ⟨k + 1, A3, c3, _, B2, d2, _, by omega, by go_num, h4, by omega⟩)
          | (simp [intOf]; omega)
      · have hkM : k = M := by omega
        subst hkM
        go_wp2_with fail
        go_loopw [6] (fun i wr => ∃ (j : Nat) (B2 : Option Addr) (d2 : Nat) (ys : List Int) (p' : Int), j ≤ k ∧ i = .int .i64 j ∧ DQ w B g p wr A2 k c2 xs B2 j d2 ys p' ∧ p' ≤ p + 2 + k + 2 * j) (fun i _ => k - (intOf i).toNat)
        case atStart => exact ⟨0, B2, d2, [], p', by omega, rfl, h, by omega⟩
        case round =>
          clear h hp' hpp
          obtain ⟨j, B2, d2, ys, p', hj, rfl, h, hp'⟩ := hrel
          have hpp := h.p0
          go_wp2_with fail
          refine (pick_pos B g p' _ _ h.rd (by omega) (by omega) (by omega) (by omega)).mono ?_
          rintro e w1 ⟨u, rfl, hu0, hu1, hr1, hg1, hs1, hb1⟩
          have h1 := h.picked hr1 hg1 hb1
          clear h hr1 hg1 hb1 hs1
          by_cases hlt2 : (j : Int) < u
          · have f1 := h1.q.two
            go_wp2_with fail
            go_region_law (first
              | (refine step_calls 13 #[.pointer (some ⟨g, 0, none⟩), .int .i64 4] rfl (by simp [go_sem, Act.eval, Act.put]) ?_; refine (pick_pos B g (p' + 1) 4 _ (h1.rd.drew) (by omega) (by omega) (by omega) (by omega)).mono ?_; rintro e w3 ⟨v, rfl, hv0, hv1, hr3, hg3, hs3, hb3⟩; refine ⟨_, rfl, ?_⟩; have h3 := h1.drew.picked hr3 hg3 hb3; have f3 := h3.q.two; have z3 := h3.sz; clear hs3)
              | (refine step_app1 rfl (.tmp 36) (.tmp 39) rfl (w.heap.size + 1) (by rfl) (h3.b.alloc _) _ _ _ _ [v] (by rfl) (Ints.one' _ (by first | omega | (simp; done) | (simp; omega))) (by omega) (by have := h3.sz; simp; omega) ?_; intro A3 c3 w4 o4 hg4 at4; have h4 := h3.addB hg4 o4 at4; have f4 := (Blk.grown (h3.q.alloc _) hg4 (fun e => own_ne_blk h3.b h3.q (by decide) e.symm)).two))
            all_goals
              go_wp2_with fail
              go_roundw
            all_goals first
              | (exact ⟨j + 1, A3, c3, _, _, by omega, by go_num, h4, by omega⟩)
              | (simp [intOf]; omega)
          · go_wp2_with fail
            refine (pick_pos B g _ _ _ h1.rd (by omega) (by omega) (by omega) (by omega)).mono ?_
            rintro e w2 ⟨q, rfl, hq0, hq1, hr2, hg2, hs2, hb2⟩
            have h2 := h1.picked hr2 hg2 hb2
            clear h1 hr2 hg2 hb2 hs2 hlt2 hu0 hu1
            have f1 := h2.q.two
            have r1 := h2.r.two
            cases hq : (q == 0)
            · cases hq' : (q == 1)
              · go_wp2_with fail
                exact bodyPost_ret (v := .agg #[.slice A2 k c2, .slice B2 j d2]) (by simp [results, Try.results12, go_sem, r1]) rfl (h2.finish (by omega) (by omega) (by omega))
              · go_wp2_with fail
                go_region_law (first
                  | (refine step_calls 13 #[.pointer (some ⟨g, 0, none⟩), .int .i64 6] rfl (by simp [go_sem, Act.eval, Act.put]) ?_; refine (pick_pos B g (p' + 1 + 1) 6 _ (h2.rd.drew) (by omega) (by omega) (by omega) (by omega)).mono ?_; rintro e w3 ⟨v, rfl, hv0, hv1, hr3, hg3, hs3, hb3⟩; refine ⟨_, rfl, ?_⟩; have h3 := h2.drew.picked hr3 hg3 hb3; have f3 := h3.q.two; have z3 := h3.sz; clear hs3)
                  | (refine step_app1 rfl (.tmp 59) (.tmp 63) rfl (w.heap.size + 1) (by rfl) (h3.b.alloc _) _ _ _ _ [_] (by rfl) (Ints.one' _ (by first | omega | (simp; done) | (simp; omega))) (by omega) (by have := h3.sz; simp; omega) ?_; intro A3 c3 w4 o4 hg4 at4; have h4 := h3.addB hg4 o4 at4; have f4 := (Blk.grown (h3.q.alloc _) hg4 (fun e => own_ne_blk h3.b h3.q (by decide) e.symm)).two))
                all_goals
                  clear f1 r1 f3 f4
                  generalize hw5 : World.setCell _ _ _ = w5 at h4 ⊢
                  clear hw5
                  have f5 := h4.q.two
                  have r5 := h4.r.two
                  go_wp2_with fail
                  exact bodyPost_ret (v := .agg #[.slice A2 k c2, .slice A3 (j + 1) c3]) (by simp [results, Try.results12, go_sem, r5]) rfl (h4.finish (by omega) (by omega) (by omega))
            · go_wp2_with fail
              have hsz2 := h2.sz
              have hlit : ∀ (wx : World) (gx : Nat) (m : Nat), m < 3 → Blk wx gx 3 #[.int .i64 (-1), .int .i64 999, .int .i64 1000] → ∃ x : Int, wx.cell? ⟨gx, m, none⟩ = some (.int .i64 x) ∧ wx.frozen? ⟨gx, m, none⟩ = false := by
                intro wx gx m hm hb
                obtain ⟨c0, c1, c2⟩ : (∃ x : Int, (#[.int .i64 (-1), .int .i64 999, .int .i64 1000] : Array Value)[m]? = some (.int .i64 x)) ∧ True ∧ True := by
                  rcases (by omega : m = 0 ∨ m = 1 ∨ m = 2) with rfl | rfl | rfl
                  · exact ⟨⟨-1, rfl⟩, trivial, trivial⟩
                  · exact ⟨⟨999, rfl⟩, trivial, trivial⟩
                  · exact ⟨⟨1000, rfl⟩, trivial, trivial⟩
                obtain ⟨x, hx⟩ := c0
                exact ⟨x, (hb.cell m).trans hx, hb.frozen m⟩
              have cA : Calls Try.prog 13 #[.pointer (some ⟨g, 0, none⟩), .int .i64 3] w2.drew (fun e w3 => ∃ m : Nat, e = .returned (.int .i64 m) ∧ m < 3 ∧ DQ w B g p w3 A2 k c2 xs B2 j d2 ys (p' + 1 + 1 + 1) ∧ ∃ x : Int, (w3.alloc (.cells #[.int .i64 (-1), .int .i64 999, .int .i64 1000] 3)).cell? ⟨w3.heap.size, m, none⟩ = some (.int .i64 x) ∧ (w3.alloc (.cells #[.int .i64 (-1), .int .i64 999, .int .i64 1000] 3)).frozen? ⟨w3.heap.size, m, none⟩ = false) := by
                refine (pick_pos B g (p' + 1 + 1) 3 _ h2.drew.rd (by omega) (by omega) (by omega) (by omega)).mono ?_
                rintro e w3 ⟨v, rfl, hv0, hv1, hr3, hg3, hs3, hb3⟩
                obtain ⟨m, rfl⟩ := Int.eq_ofNat_of_zero_le hv0
                exact ⟨m, rfl, by omega, h2.drew.picked hr3 hg3 hb3, hlit _ _ m (by omega) (Blk.new w3 _ _)⟩
              have cB : Calls Try.prog 13 #[.pointer (some ⟨g, 0, none⟩), .int .i64 3] (w2.alloc (.cells #[.int .i64 (-1), .int .i64 999, .int .i64 1000] 3)).drew (fun e w3 => ∃ m : Nat, e = .returned (.int .i64 m) ∧ m < 3 ∧ DQ w B g p w3 A2 k c2 xs B2 j d2 ys (p' + 1 + 1 + 1) ∧ w2.heap.size < w3.heap.size ∧ ∃ x : Int, w3.cell? ⟨w2.heap.size, m, none⟩ = some (.int .i64 x) ∧ w3.frozen? ⟨w2.heap.size, m, none⟩ = false) := by
                refine (pick_pos B g (p' + 1 + 1) 3 _ (h2.alloc _).drew.rd (by omega) (by omega) (by omega) (by omega)).mono ?_
                rintro e w3 ⟨v, rfl, hv0, hv1, hr3, hg3, hs3, hb3⟩
                obtain ⟨m, rfl⟩ := Int.eq_ofNat_of_zero_le hv0
                have l3 := Blk.grown ((Blk.new w2 3 #[.int .i64 (-1), .int .i64 999, .int .i64 1000]).drew) hg3 (fun e => by injection e with e; omega)
                exact ⟨m, rfl, by omega, (h2.alloc _).drew.picked hr3 hg3 hb3, l3.lt, hlit _ _ m (by omega) l3⟩
              clear hlit
              go_region_law (first
                | (refine step_calls 13 #[.pointer (some ⟨g, 0, none⟩), .int .i64 3] rfl (by simp [go_sem, Act.eval, Act.put]) ?_; refine cA.mono ?_; rintro e w3 ⟨m, rfl, hm3, h3, x, hx1, hx2⟩; refine ⟨_, rfl, ?_⟩; have hm3i : (m : Int) < 3 := (by omega); have f3 := h3.q.two; have z3 := h3.sz; have z3b : w.heap.size + 1 + 1 < w3.heap.size := (by omega); have z3c : w.heap.size + 1 + 1 + 1 < w3.heap.size + 1 := (by omega))
                | (refine step_calls 13 #[.pointer (some ⟨g, 0, none⟩), .int .i64 3] rfl (by simp [go_sem, Act.eval]) ?_; refine cB.mono ?_; rintro e w3 ⟨m, rfl, hm3, h3, hlt3, x, hx1, hx2⟩; refine ⟨_, rfl, ?_⟩; have hm3i : (m : Int) < 3 := (by omega); have f3 := h3.q.two; have z3 := h3.sz; have z3b : w.heap.size + 1 + 1 < w3.heap.size := (by omega); have z3c : w.heap.size + 1 + 1 + 1 < w3.heap.size + 1 := (by omega))
                | (refine step_app1 rfl (.tmp 47) (.tmp 53) rfl (w.heap.size + 1) (by rfl) (h3.a.alloc _) _ _ _ _ [_] (by rfl) (Ints.one' _ (by first | omega | (simp; done) | (simp; omega))) (by omega) (by have := h3.sz; simp; omega) ?_; intro A3 c3 w4 o4 hg4 at4; have h4 := h3.addA hg4 o4 at4; have f4 := (Blk.grown (h3.q.alloc _) hg4 (fun e => own_ne_blk h3.a h3.q (by decide) e.symm)).two)
                | (refine step_app1 rfl (.tmp 47) (.tmp 53) rfl (w.heap.size + 1) (by rfl) ((h3.alloc _).a.alloc _) _ _ _ _ [_] (by rfl) (Ints.one' _ (by first | omega | (simp; done) | (simp; omega))) (by omega) (by have := h3.sz; simp; omega) ?_; intro A3 c3 w4 o4 hg4 at4; have h4 := (h3.alloc _).addA hg4 o4 at4; have f4 := (Blk.grown ((h3.alloc _).q.alloc _) hg4 (fun e => own_ne_blk h3.a h3.q (by decide) e.symm)).two))
              all_goals
                clear f1 r1 f3 f4 cA cB
                generalize hw5 : World.setCell _ _ _ = w5 at h4 ⊢
                clear hw5
                have f5 := h4.q.two
                have r5 := h4.r.two
                go_wp2_with fail
                exact bodyPost_ret (v := .agg #[.slice A3 (k + 1) c3, .slice B2 j d2]) (by simp [results, Try.results12, go_sem, r5]) rfl (h4.finish (by omega) (by omega) (by omega))
end Go.Proofs.Ytclajknghfnhcaa
