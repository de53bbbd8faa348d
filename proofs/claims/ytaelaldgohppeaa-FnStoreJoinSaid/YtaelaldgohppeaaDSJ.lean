/-
  The draw of the parts of a state: whatever the code, at most five short lists in memory of the call's own.
-/
import Derived.Test.YtaelaldgohppeaaDS
import Derived.Test.YtaelaldgohppeaaSH
import Derived.Test.YtaelaldgohppeaaS1
import Derived.Deep.RegionWith
namespace Go.Proofs.Ytaelaldgohppeaa
open Go.RowKit
set_option linter.unusedVariables false

theorem Own.lit {w : World} {base g : Nat} (xs : List Int) (hg : g = w.heap.size) (hb : base ≤ w.heap.size) (hl : xs.length ≤ 1048576) : Own (w.alloc (.cells (iv xs).toArray 3)) base (some ⟨g, 0, none⟩) xs.length xs.length xs := by
  subst hg
  have := World.ownsRow_lit (e := 3) (size := 1) (base := base) w (iv xs).toArray xs.length hb (by unfold maxLen; omega) (by simp [iv])
  simpa [Own] using this
/-- Lists are drawn into memory of the call's own. -/
def DrewSSl (w : World) (e : Ending) (w' : World) : Prop := ∃ A n c R xss, e = .returned (.slice A n c) ∧ HeldSS w' w.heap.size A n c R xss ∧ n ≤ 5 ∧ Hid (∀ xs ∈ xss, xs.length ≤ 3) ∧ Below w.heap.size w w'
theorem short_snoc {xss : List (List Int)} {xs : List Int} (h : ∀ xs ∈ xss, xs.length ≤ 3) (hx : xs.length ≤ 3) : ∀ ys ∈ xss ++ [xs], ys.length ≤ 3 := by
  intro ys hy
  simp only [List.mem_append, List.mem_singleton] at hy
  rcases hy with hy | hy
  · exact h ys hy
  · rw [hy]; exact hx
/-- What stands in memory while the lists are drawn. -/
structure DJ (w : World) (B g : Nat) (base : Nat) (p : Int) (A1 : Option Addr) (n1 c1 : Nat) (xs : List Int) (wr : World) (A2 : Option Addr) (n2 c2 : Nat) (R : List (Option Addr × Nat × Nat)) (xss : List (List Int)) (p' : Int) : Prop where
  s : Own wr base A1 n1 c1 xs
  h : HeldSS wr base A2 n2 c2 R xss
  rd : Rdr wr B g p'
  gl : g < base
  wl : w.heap.size ≤ base
  sz : base ≤ wr.heap.size
  bg : w.heap.size ≤ B
  bl : Below w.heap.size w wr
section
variable {w wr w1 w3 : World} {B g n1 n2 c1 c2 c3 base : Nat} {p p' : Int} {A1 A2 A3 : Option Addr} {xs ys : List Int} {R : List (Option Addr × Nat × Nat)} {xss : List (List Int)} {r : Option Addr × Nat × Nat}
theorem DJ.picked (h : DJ w B g base p A1 n1 c1 xs wr A2 n2 c2 R xss p') (hr : Rdr w1 B g (p' + 1)) (hg : wr.grownBy w1 (some g)) (hb : Below g wr w1) : DJ w B g base p A1 n1 c1 xs w1 A2 n2 c2 R xss (p' + 1) := by
  have hgl := h.gl
  have hB := h.rd.lt
  have := h.bg
  exact ⟨h.s.kept hg (fun k hk e => by injection e with e; have := h.s.lt hk; omega), h.h.low hg (fun k hk => by injection hk with hk; omega), hr, hgl, h.wl, Nat.le_trans h.sz hg.size, h.bg, h.bl.trans (hb.mono (by omega))⟩
theorem DJ.below (h : DJ w B g base p A1 n1 c1 xs wr A2 n2 c2 R xss p') (hb : Below wr.heap.size wr w1) : DJ w B g base p A1 n1 c1 xs w1 A2 n2 c2 R xss p' :=
  ⟨h.s.below hb, h.h.below hb, h.rd.keep (fun k hk => hb.block k (by have := h.rd.lt; omega)), h.gl, h.wl, Nat.le_trans h.sz hb.size, h.bg, h.bl.trans (hb.mono h.bl.size)⟩
theorem DJ.alloc (h : DJ w B g base p A1 n1 c1 xs wr A2 n2 c2 R xss p') (o : Obj) : DJ w B g base p A1 n1 c1 xs (wr.alloc o) A2 n2 c2 R xss p' := h.below ((Below.refl _ _).alloc (Nat.le_refl _) o)
theorem DJ.drew (h : DJ w B g base p A1 n1 c1 xs wr A2 n2 c2 R xss p') : DJ w B g base p A1 n1 c1 xs wr.drew A2 n2 c2 R xss p' := h.below ((Below.refl _ _).drew)
theorem DJ.app (h : DJ w B g base p A1 n1 c1 xs w1 A2 n2 c2 R xss p') (hr : Own w1 base r.1 r.2.1 r.2.2 ys) (hg : w1.grownBy w3 (blk A2)) (ho : w3.ownsRow base 22 1 (.slice A3 (n2 + 1) c3) (n2 + 1) (R.map sv ++ [sv r])) :
    DJ w B g base p A1 n1 c1 xs w3 A3 (n2 + 1) c3 (R ++ [r]) (xss ++ [ys]) p' := by
  have hgl := h.gl
  have hrow : ∀ k, blk A2 = some k → base ≤ k := fun k hk => (h.h.lt hk).1
  refine ⟨h.s.kept hg (fun k hk e => ?_), h.h.app hr hg ho, h.rd.grown hg (fun k hk => by have := hrow k hk; omega), hgl, h.wl, Nat.le_trans h.sz hg.size, h.bg, h.bl.grown hg h.bl.size (fun k hk => Nat.le_trans h.wl (hrow k hk))⟩
  have := rows_ne h.s h.h.o (by decide) (k := k) (by rw [blk_own]; exact hk)
  rw [blk_own] at this
  exact this e
end
theorem short_set {xss : List (List Int)} {xs : List Int} {k : Nat} (h : ∀ xs ∈ xss, xs.length ≤ 3) (hx : xs.length ≤ 3) : ∀ ys ∈ xss.set k xs, ys.length ≤ 3 := by
  intro ys hy
  rcases List.mem_or_eq_of_mem_set hy with hy | hy
  · exact h ys hy
  · rw [hy]; exact hx
theorem short_take {xss : List (List Int)} {k : Nat} (h : ∀ xs ∈ xss, xs.length ≤ 3) : ∀ ys ∈ xss.take k, ys.length ≤ 3 := fun ys hy => h ys (List.mem_of_mem_take hy)
theorem DJ.fin {w wr : World} {B g n1 n2 c1 c2 base : Nat} {p p' : Int} {A1 A2 : Option Addr} {xs : List Int} {R : List (Option Addr × Nat × Nat)} {xss : List (List Int)}
    (h : DJ w B g base p A1 n1 c1 xs wr A2 n2 c2 R xss p') (hn : n2 ≤ 5) (hs : Hid (∀ xs ∈ xss, xs.length ≤ 3)) : DrewSSl w (.returned (.slice A2 n2 c2)) wr := ⟨A2, n2, c2, R, xss, rfl, h.h.mono h.wl, hn, hs, h.bl⟩
set_option maxHeartbeats 8000000 in
theorem drawStoreJoin_any (A : Option Addr) (n c : Nat) (bs : List Int) (w : World) (hb : Bytes w w.heap.size A n bs) (hn : n ≤ 1048576) (hc : n ≤ c) (hc' : c ≤ 9223372036854775807) :
    Calls Try.prog 41 #[.slice A n c] w (DrewSSl w) := by
  go_enter Try.func41, Try.ntmps41
  go_wp2_with fail
  refine (open_any _ _ _ _ _ hb hn hc hc').mono ?_
  rintro e w0 ⟨g, rfl, hr0, hg0, hb0⟩
  go_wp2_with fail
  refine (l92State_any _ _ _ _ hr0 (by omega) (by omega)).mono ?_
  rintro e w1 ⟨A1, n1, c1, xs, p', rfl, ho1, hn1, hr1, hp1, hp2, hgr, hbl⟩
  have hgl := hr0.lt
  have hB1 : Below w.heap.size w w1 := hb0.trans (hbl.mono hgl.2)
  have h0 : DJ w w.heap.size g w0.heap.size 0 A1 n1 c1 xs (w1.alloc (.cells #[] 22)) (some ⟨w1.heap.size, 0, none⟩) 0 0 [] [] p' :=
    ⟨ho1.alloc _, HeldSS.start hgr.size, hr1.alloc _, hg0, hb0.size, by have := hgr.size; simp; omega, Nat.le_refl _, hB1.alloc hB1.size _⟩
  clear hb0 hbl hgr hr0 hB1 hr1 ho1
  go_wp2_with fail
  go_loopw [5, 6] (fun s i wr => ∃ (k : Nat) (A2 : Option Addr) (c2 : Nat) (R : List (Option Addr × Nat × Nat)) (xss : List (List Int)) (p'' : Int), k ≤ 5 ∧ i = .int .i64 k ∧ s = .slice A2 k c2 ∧ DJ w w.heap.size g w0.heap.size 0 A1 n1 c1 xs wr A2 k c2 R xss p'' ∧ p' ≤ p'' ∧ p'' ≤ p' + 3 * (k : Int) ∧ Hid (∀ xs ∈ xss, xs.length ≤ 3)) (fun _ i _ => 5 - (intOf i).toNat)
  case atStart => exact ⟨0, _, _, [], [], p', by omega, rfl, rfl, h0, by omega, by omega, Lib.hid (by simp)⟩
  case round =>
    clear h0
    obtain ⟨k, A2, c2, R, xss, p'', hk, rfl, rfl, h, hq1, hq2, hsh⟩ := hrel
    by_cases hlt : k < 5
    · go_wp2_with fail
      refine (specPart_any _ _ _ xs k _ h.s.ints (by omega)).mono ?_
      rintro e w2 ⟨A6, n6, c6, rfl, o6, hb2⟩
      have h2 := h.below hb2
      have ho6 : Own w2 w0.heap.size A6 n6 c6 (spart xs k) := o6.mono h.sz
      have l6 := Lib.hid ho6.len
      have l3 : n6 ≤ 3 := by have := o6.len; have := spart_len xs (k : Int); omega
      clear h o6 hb2
      by_cases hz : n6 = 0
      · subst hz
        go_wp2_with fail
        refine (pick_pos _ g _ _ _ h2.rd (by omega) (by omega) (by omega) (by omega)).mono ?_
        rintro e w3 ⟨x1, rfl, hx10, hx11, hr3, hg3, hs3, hb3⟩
        have h3 := h2.picked hr3 hg3 hb3
        clear h2 ho6 hr3 hg3 hb3 hs3
        go_wp2_with fail
        refine (pick_pos _ g _ _ _ h3.rd (by omega) (by omega) (by omega) (by omega)).mono ?_
        rintro e w4 ⟨x2, rfl, hx20, hx21, hr4, hg4, hs4, hb4⟩
        have h4 := h3.picked hr4 hg4 hb4
        clear h3 hr4 hg4 hb4 hs4
        go_wp2_with fail
        refine (pick_pos _ g _ _ _ h4.rd (by omega) (by omega) (by omega) (by omega)).mono ?_
        rintro e w5 ⟨x3, rfl, hx30, hx31, hr5, hg5, hs5, hb5⟩
        have h5 := (h4.picked hr5 hg5 hb5).alloc (.cells #[.int .i64 x1, .int .i64 x2, .int .i64 x3] 3)
        have ho5 : Own (w5.alloc (.cells #[.int .i64 x1, .int .i64 x2, .int .i64 x3] 3)) w0.heap.size (some ⟨w5.heap.size, 0, none⟩) 3 3 [x1, x2, x3] := Own.lit [x1, x2, x3] rfl (by have := (h4.picked hr5 hg5 hb5).sz; exact this) (by simp)
        have z5 := (h4.picked hr5 hg5 hb5).sz
        clear h4 hr5 hg5 hb5 hs5
        go_wp2_with (at_builtin; refine appSS rfl _ _ rfl w0.heap.size rfl (h5.alloc _).h.o _ _ _ _ [sv (some ⟨w5.heap.size, 0, none⟩, 3, 3)] rfl (Reads.one' _ (by simp)) (sv_one _) (by omega) (by simp; omega) ?_; intro B3 d3 w7 o7 hg7 at7; have hh7 := (h5.alloc _).app (r := (some ⟨w5.heap.size, 0, none⟩, 3, 3)) (ho5.alloc _) hg7 o7)
        go_roundw
        case rel => exact ⟨k + 1, B3, d3, _, _, _, by omega, by go_num, rfl, hh7, by omega, by omega, Lib.hid (short_snoc hsh.out (by simp))⟩
        case measure => simp [intOf]; omega
      · have hz' : ((n6 : Int) == 0) = false := by rw [beq_eq_false_iff_ne]; omega
        have z2 := h2.sz
        go_wp2_with (at_builtin; refine appSS rfl _ _ rfl w0.heap.size rfl (h2.alloc _).h.o _ _ _ _ [sv (A6, n6, c6)] rfl (Reads.one' _ rfl) (sv_one _) (by omega) (by simp; omega) ?_; intro B3 d3 w7 o7 hg7 at7; have hh7 := (h2.alloc _).app (r := (A6, n6, c6)) (ho6.alloc _) hg7 o7)
        go_roundw
        case rel => exact ⟨k + 1, B3, d3, _, _, _, by omega, by go_num, rfl, hh7, by omega, by omega, Lib.hid (short_snoc hsh.out (by rw [l6.out]; exact l3))⟩
        case measure => simp [intOf]; omega
    · obtain rfl : k = 5 := by omega
      go_wp2_with fail
      refine (pick_pos _ g _ _ _ h.rd (by omega) (by omega) (by omega) (by omega)).mono ?_
      rintro e w3 ⟨u, rfl, hu0, hu1, hr3, hg3, hs3, hb3⟩
      have h3 := h.picked hr3 hg3 hb3
      clear h hr3 hg3 hb3 hs3
      cases hu : (u == 0)
      · cases hu' : (u == 1)
        · go_wp2
          go_ret
          exact h3.fin (by omega) hsh
        · go_wp2_with fail
          refine (pick_pos _ g _ _ _ h3.rd (by omega) (by omega) (by omega) (by omega)).mono ?_
          rintro e w4 ⟨v, rfl, hv0, hv1, hr4, hg4, hs4, hb4⟩
          obtain ⟨m, rfl⟩ := Int.eq_ofNat_of_zero_le hv0
          have h4 := (h3.picked hr4 hg4 hb4).alloc (.cells #[.int .i64 1, .int .i64 2] 3)
          have z4 := (h3.picked hr4 hg4 hb4).sz
          have ho4 : Own (w4.alloc (.cells #[.int .i64 1, .int .i64 2] 3)) w0.heap.size (some ⟨w4.heap.size, 0, none⟩) 2 2 [1, 2] := Own.lit [1, 2] rfl z4 (by simp)
          obtain ⟨g', rfl, hg1, hg2⟩ := h4.h.form (by omega)
          obtain ⟨r', hc1, hc2⟩ := h4.h.cellAt (k := m) (by omega)
          have hgl := h4.gl
          have hwl := h4.wl
          have hput := h4.h.put (r := (some ⟨w4.heap.size, 0, none⟩, 2, 2)) ho4 m
          have hbl := h4.bl
          clear h3 hr4 hg4 hb4 hs4 h4
          go_wp2
          go_ret
          exact ⟨_, _, _, _, _, rfl, hput.mono hwl, by omega, Lib.hid (short_set hsh.out (by simp)), hbl.setCell (by simp; omega) _⟩
      · go_wp2_with fail
        refine (pick_pos _ g _ _ _ h3.rd (by omega) (by omega) (by omega) (by omega)).mono ?_
        rintro e w4 ⟨v, rfl, hv0, hv1, hr4, hg4, hs4, hb4⟩
        obtain ⟨m, rfl⟩ := Int.eq_ofNat_of_zero_le hv0
        have h4 := h3.picked hr4 hg4 hb4
        have hcap := h4.h.cap
        have hT := h4.h.take (k := m) (by omega)
        clear h3 hr4 hg4 hb4 hs4
        go_wp2
        go_ret
        exact ⟨_, _, _, _, _, rfl, hT.mono h4.wl, by omega, Lib.hid (short_take hsh.out), h4.bl⟩
end Go.Proofs.Ytaelaldgohppeaa
