/-
  l91Set: whatever the code, a short list of ints in memory of its own.
-/
import Derived.Test.YtehgipbedlamaaaRd2
import Derived.Test.YtehgipbedlamaaaCut
import Derived.Test.YtehgipbedlamaaaH7
namespace Go.Proofs.Ytehgipbedlamaaa
open Go.RowKit
set_option linter.unusedVariables false

/-- What drawing a list leaves. -/
def DrewSet (p : Int) (B g : Nat) (w : World) (e : Ending) (w' : World) : Prop :=
  ∃ A n c xs p', e = .returned (.slice A n c) ∧ Own w' w.heap.size A n c xs ∧ n ≤ 6 ∧ Rdr w' B g p' ∧ p ≤ p' ∧ p' ≤ p + 8 ∧ w.grownBy w' (some g) ∧ Below g w w'
/-- What stands in memory while a list is drawn. -/
structure DS (w : World) (B g : Nat) (p : Int) (wr : World) (A2 : Option Addr) (n2 c2 : Nat) (xs : List Int) (p' : Int) : Prop where
  a : Own wr w.heap.size A2 n2 c2 xs
  rd : Rdr wr B g p'
  gl : g < w.heap.size
  p0 : p ≤ p'
  gr : w.grownBy wr (some g)
  bl : Below g w wr
section
variable {w wr w1 w3 : World} {B g n2 c2 c3 : Nat} {p p' v : Int} {A2 A3 : Option Addr} {xs : List Int}
theorem DS.picked (h : DS w B g p wr A2 n2 c2 xs p') (hr : Rdr w1 B g (p' + 1)) (hg : wr.grownBy w1 (some g)) (hb : Below g wr w1) : DS w B g p w1 A2 n2 c2 xs (p' + 1) := by
  have hgl := h.gl
  exact ⟨h.a.kept hg (fun k hk e => by injection e with e; have := h.a.lt hk; omega), hr, hgl, by have := h.p0; omega, grown_trans' h.gr hg (fun k hk => .inl hk), h.bl.trans hb⟩
theorem DS.alloc (h : DS w B g p wr A2 n2 c2 xs p') (o : Obj) : DS w B g p (wr.alloc o) A2 n2 c2 xs p' :=
  ⟨h.a.alloc o, h.rd.alloc o, h.gl, h.p0, grown_trans' h.gr (World.grownBy_alloc wr o none) (by simp), h.bl.alloc (by have := h.rd.lt; omega) o⟩
theorem DS.add (h : DS w B g p w1 A2 n2 c2 xs p') (hg : (w1.alloc (.cells #[.int .i64 v] 3)).grownBy w3 (blk A2)) (ho : Own w3 w.heap.size A3 (n2 + 1) c3 (xs ++ [v])) : DS w B g p w3 A3 (n2 + 1) c3 (xs ++ [v]) p' := by
  have hgl := h.gl
  have h2 := h.alloc (.cells #[.int .i64 v] 3)
  have hrow : ∀ k, blk A2 = some k → w.heap.size ≤ k := fun k hk => (h.a.lt hk).1
  exact ⟨ho, h2.rd.grown hg (fun k hk => by have := hrow k hk; omega), hgl, h.p0, grown_trans' h2.gr hg (fun k hk => .inr (hrow k hk)), h2.bl.grown hg (by have := h2.rd.lt; omega) (fun k hk => by have := hrow k hk; omega)⟩
theorem DS.zero (h : DS w B g p wr A2 n2 c2 xs p') : DS w B g p wr A2 0 c2 [] p' := by
  refine ⟨?_, h.rd, h.gl, h.p0, h.gr, h.bl⟩
  obtain ⟨h1, h2⟩ := h.a
  refine ⟨by simp [iv], ?_⟩
  rcases h2 with ⟨h3, h4⟩ | ⟨q, cap, cur, hv, hb, hh, hn, hm, hs, ht⟩
  · injection h3 with e1 e2 e3
    subst e1; subst e3
    exact .inl ⟨rfl, rfl⟩
  · injection hv with e1 e2 e3
    subst e1; subst e3
    exact .inr ⟨q, c2, cur, rfl, hb, hh, Nat.zero_le _, hm, hs, by simp [iv]⟩
theorem DS.one (h : DS w B g p wr A2 n2 c2 xs p') (hB : w.heap.size ≤ wr.heap.size) (x : Int) : DS w B g p (wr.alloc (.cells #[.int .i64 x] 3)) (some ⟨wr.heap.size, 0, none⟩) 1 1 [x] p' := by
  have h2 := h.alloc (.cells #[.int .i64 x] 3)
  refine ⟨?_, h2.rd, h2.gl, h2.p0, h2.gr, h2.bl⟩
  have := World.ownsRow_lit (e := 3) (size := 1) wr #[.int .i64 x] 1 hB (by unfold maxLen; omega) (by simp)
  exact this
theorem DS.finish (h : DS w B g p wr A2 n2 c2 xs p') (hn : n2 ≤ 6) (hp : p' ≤ p + 8) : DrewSet p B g w (.returned (.slice A2 n2 c2)) wr := ⟨A2, n2, c2, xs, p', rfl, h.a, hn, h.rd, h.p0, hp, h.gr, h.bl⟩
end
set_option maxHeartbeats 8000000 in
theorem l91Set_any (B g : Nat) (p : Int) (w : World) (hr : Rdr w B g p) (hp0 : 0 ≤ p) (hp1 : p ≤ 1073700000) :
    Calls Try.prog 58 #[.pointer (some ⟨g, 0, none⟩)] w (DrewSet p B g w) := by
  obtain ⟨hgl, hBg⟩ := hr.lt
  have h0 : DS w B g p (w.alloc (.cells #[] 3)) (some ⟨w.heap.size, 0, none⟩) 0 0 [] p :=
    ⟨Own.lit0 rfl (Nat.le_refl _), hr.alloc _, hgl, Int.le_refl _, World.grownBy_alloc w _ _, (Below.refl _ _).alloc (by omega) _⟩
  go_enter Try.func58, Try.ntmps58
  go_wp2_with fail
  go_loopw [3, 4] (fun s i wr => ∃ (k : Nat) (A2 : Option Addr) (n2 c2 : Nat) (xs : List Int), k ≤ 5 ∧ i = .int .i64 k ∧ s = .slice A2 n2 c2 ∧ n2 ≤ k ∧ DS w B g p wr A2 n2 c2 xs (p + k)) (fun _ i _ => 5 - (intOf i).toNat)
  case atStart => exact ⟨0, _, 0, _, _, by omega, rfl, rfl, by omega, by simpa using h0⟩
  case round =>
    clear h0 hr
    obtain ⟨k, A2, n2, c2, xs, hk, rfl, rfl, hn2, h⟩ := hrel
    by_cases hlt : k < 5
    · go_wp2_with fail
      refine (pick_pos B g _ _ _ h.rd (by omega) (by omega) (by omega) (by omega)).mono ?_
      rintro e w3 ⟨u, rfl, hu0, hu1, hr3, hg3, hs3, hb3⟩
      have h3 := h.picked hr3 hg3 hb3
      have z3 := h3.gr.size
      clear h hr3 hg3 hb3 hs3
      by_cases hu : 1 < u
      · go_wp2_with (at_builtin; refine app1 rfl _ _ rfl w.heap.size rfl (h3.a.alloc _) _ _ _ _ [_] rfl (Ints.one' _ (by first | omega | (simp; done) | (simp; omega))) (by omega) (by simp; omega) ?_; intro A3 c3 w4 o4 hg4 at4; have h4 := h3.add hg4 o4)
        go_roundw
        case rel => exact ⟨k + 1, A3, n2 + 1, c3, _, by omega, by go_num, rfl, by omega, by rw [show p + ((k + 1 : Nat) : Int) = p + (k : Int) + 1 by omega]; exact h4⟩
        case measure => first | (simp [intOf]; done) | (simp [intOf]; omega)
      · go_wp2
        go_roundw
        case rel => exact ⟨k + 1, A2, n2, c2, xs, by omega, by go_num, rfl, by omega, by rw [show p + ((k + 1 : Nat) : Int) = p + (k : Int) + 1 by omega]; exact h3⟩
        case measure => first | (simp [intOf]; done) | (simp [intOf]; omega)
    · have hk5 : k = 5 := by omega
      subst hk5
      have z3 := h.gr.size
      go_upto_if 19 with fail
      go_cut [3] (fun s3 wx => ∃ (A2 : Option Addr) (n2 c2 : Nat) (xs : List Int) (p' : Int), s3 = .slice A2 n2 c2 ∧ n2 ≤ 5 ∧ p' ≤ p + 6 ∧ DS w B g p wx A2 n2 c2 xs p')
      case first =>
        by_cases h0 : n2 = 0
        · subst h0
          go_wp2_with fail
          refine (pick_pos B g _ _ _ h.rd (by omega) (by omega) (by omega) (by omega)).mono ?_
          rintro e w3 ⟨u, rfl, hu0, hu1, hr3, hg3, hs3, hb3⟩
          have h3 := h.picked hr3 hg3 hb3
          go_wp2_with fail
          go_meet
          exact ⟨_, 1, 1, _, p + ((5 : Nat) : Int) + 1, rfl, by omega, by omega, by
            have h4 := h3.one (by have := h3.gr.size; omega) u
            rw [hs3] at h4
            exact h4⟩
        · have hz : ((n2 : Int) == 0) = false := by rw [beq_eq_false_iff_ne]; omega
          go_wp2_with fail
          go_meet
          exact ⟨_, n2, c2, _, p + ((5 : Nat) : Int), rfl, by omega, by omega, h⟩
      case rest =>
        clear h z3
        obtain ⟨A2, n2, c2, xs, p', rfl, hn5, hp', h⟩ := hcut
        have z3 := h.gr.size
        have hp := h.p0
        go_wp2_with fail
        refine (pick_pos B g _ _ _ h.rd (by omega) (by omega) (by omega) (by omega)).mono ?_
        rintro e w3 ⟨u, rfl, hu0, hu1, hr3, hg3, hs3, hb3⟩
        have h3 := h.picked hr3 hg3 hb3
        have hcap := h3.a.cap
        have z3 := h3.gr.size
        clear h hr3 hg3 hb3 hs3
        cases hu : (u == 0)
        · cases hu1 : (u == 1)
          · go_wp2_with fail
            go_ret
            exact h3.finish (by omega) (by omega)
          · have hsl : ∀ w, (Instr.slice 23 (.slice A2 n2 c2) none (some (.int .i64 0)) none).run Try.prog w = .ok (.slice A2 0 c2) w := fun w => cutTo_run A2 n2 c2 0 (Nat.zero_le _) hcap w
            go_wp2_with fail
            go_ret
            exact h3.zero.finish (by omega) (by omega)
        · go_wp2_with fail
          refine (pick_pos B g _ _ _ h3.rd (by omega) (by omega) (by omega) (by omega)).mono ?_
          rintro e w5 ⟨v, rfl, hv0, hv1, hr5, hg5, hs5, hb5⟩
          have h5 := h3.picked hr5 hg5 hb5
          have z5 := h5.gr.size
          clear h3 hr5 hg5 hb5 hs5
          have hvw : IntKind.i64.wrap (v - 1) = v - 1 := IntWalk.i64_in _ (by omega)
          go_wp2_with (at_builtin; refine app1 rfl _ _ rfl w.heap.size rfl (h5.a.alloc _) _ _ _ _ [_] rfl (Ints.one' _ (by first | omega | (simp; done) | (simp; omega))) (by omega) (by simp; omega) ?_; intro A3 c3 w4 o4 hg4 at4; have h4 := h5.add hg4 o4)
          go_ret
          exact h4.finish (by omega) (by omega)
end Go.Proofs.Ytehgipbedlamaaa
