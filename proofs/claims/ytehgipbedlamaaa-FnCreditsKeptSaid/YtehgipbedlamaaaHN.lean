/-
  The draws of the laws about credits.
-/
import Derived.Test.YtehgipbedlamaaaHM
namespace Go.Proofs.Ytehgipbedlamaaa
open Go.RowKit
set_option linter.unusedVariables false

/-- What the draw for giving leaves. -/
def DrewCG (w : World) (e : Ending) (w' : World) : Prop :=
  ∃ F nf cf A n c R cx s, e = .returned (.tuple #[.agg #[.slice F nf cf, .slice A n c], .int .i64 s]) ∧ Cr w' w'.heap.size F nf A n R cx ∧ nf ≤ 5 ∧ n ≤ 6 ∧ Below w.heap.size w w'
def DrewCA (w : World) (e : Ending) (w' : World) : Prop :=
  ∃ F nf cf A n c R cx s g, e = .returned (.tuple #[.agg #[.slice F nf cf, .slice A n c], .int .i64 s, .int .i64 g]) ∧ Cr w' w'.heap.size F nf A n R cx ∧ nf ≤ 5 ∧ n ≤ 6 ∧ Below w.heap.size w w'
theorem Cr.grown {w w' : World} {B nf n g : Nat} {F A : Option Addr} {R : List HR} {cx : CX} (h : Cr w B F nf A n R cx) (hk : ∀ k, k < B → w'.heap[k]? = w.heap[k]?) : Cr w' B F nf A n R cx :=
  ⟨h.f.keep fun q hq => World.cell?_of_block (hk q.block hq), ⟨Reads.keep h.h.o fun q hq => World.cell?_of_block (hk q.block hq), h.h.l, fun k r t hr ht => ⟨(h.h.i k r t hr ht).1.keep fun q hq => World.cell?_of_block (hk q.block hq), (h.h.i k r t hr ht).2⟩⟩⟩
set_option maxHeartbeats 8000000 in
theorem drawCG_any (A : Option Addr) (n c : Nat) (bs : List Int) (w : World) (hb : Bytes w w.heap.size A n bs) (hn : n ≤ 1048576) (hc : n ≤ c) (hc' : c ≤ 9223372036854775807) :
    Calls Try.prog 11 #[.slice A n c] w (DrewCG w) := by
  have r0 := Blk.new w 26 #[.slice none 0 0, .slice none 0 0]
  have hbW := hb.up (.cells #[.slice none 0 0, .slice none 0 0] 26)
  have BW : Below w.heap.size w (w.alloc (.cells #[.slice none 0 0, .slice none 0 0] 26)) := (Below.refl _ _).alloc (Nat.le_refl _) _
  have zW : w.heap.size < (w.alloc (.cells #[.slice none 0 0, .slice none 0 0] 26)).heap.size := by simp
  generalize hW : w.alloc (.cells #[.slice none 0 0, .slice none 0 0] 26) = W at r0 hbW BW zW
  go_enter Try.func11, Try.ntmps11
  go_wp2_with fail
  refine (open_any A n c bs W hbW hn hc hc').mono ?_
  rintro e w1 ⟨g, rfl, hr1, hgl, hb1⟩
  clear hW
  have hgB := hr1.lt
  go_wp2_with fail
  refine (l92Credits_any _ g 0 w1 hr1 (by omega) (by omega)).mono ?_
  rintro e w3 ⟨F, nf, cf, A3, n3, c3, R, cx, p', rfl, o3, hnf, hn6, hr3, hp0, hp', hg3, hb3⟩
  have z3 : w1.heap.size ≤ w3.heap.size := hg3.size
  have r3 := (r0.below hb1 r0.lt).below hb3 (by omega)
  have B3 : Below w.heap.size w w3 := (BW.trans (hb1.mono (by omega))).trans (hb3.mono (by omega))
  have o4 := o3.alloc (.cells #[.slice F nf cf, .slice A3 n3 c3] 26)
  have r4 := r3.alloc (.cells #[.slice F nf cf, .slice A3 n3 c3] 26)
  have u4 := Blk.new w3 26 #[.slice F nf cf, .slice A3 n3 c3]
  have rd4 := hr3.alloc (.cells #[.slice F nf cf, .slice A3 n3 c3] 26)
  have B4 : Below w.heap.size w (w3.alloc (.cells #[.slice F nf cf, .slice A3 n3 c3] 26)) := B3.alloc (by omega) _
  have z4 : w3.heap.size < (w3.alloc (.cells #[.slice F nf cf, .slice A3 n3 c3] 26)).heap.size := by simp
  clear o3 r3 hr3 hb3 hg3
  go_upto_region 3 with (fail)
  generalize w3.alloc (.cells #[.slice F nf cf, .slice A3 n3 c3] 26) = w4 at o4 r4 u4 rd4 B4 z4 ⊢
  have f4 := u4.two
  by_cases h0 : n3 = 0
  · subst h0
    go_region_held3 (fun w' => w'.cell? ⟨w3.heap.size, 0, none⟩ = some (.slice F nf cf) ∧ w'.cell? ⟨w3.heap.size, 1, none⟩ = some (.slice A3 0 c3))
      (first | exact ⟨f4.1, f4.2.1⟩ | exact ⟨f5.1, f5.2.1⟩ | exact ⟨f6.1, f6.2.1⟩ | exact ⟨f9.1, f9.2.1⟩)
      (first
        | (go_at_call 32; (with_reducible refine Calls.mono (pick_pos _ g _ 1 _ rd4.drew (by omega) (by omega) (by omega) (by omega)) ?_)
           rintro e w5 ⟨v, rfl, hv0, hv1, hr5, hg5, hs5, hb5⟩
           have u5 := Blk.grown u4.drew hg5 (fun e => by injection e with e; omega)
           have o5 := o4.drew.kept hg5 (fun k e => by injection e with e; omega)
           have B5 : Below w.heap.size w w5 := (B4.drew).trans (hb5.mono (by omega))
           have f5 := u5.two)
        | (go_at_call 32; (with_reducible refine Calls.mono (pick_pos _ g _ 20 _ hr5 (by omega) (by omega) (by omega) (by omega)) ?_)
           rintro e w6 ⟨u, rfl, hu0, hu1, hr6, hg6, hs6, hb6⟩
           have u6 := Blk.grown u5 hg6 (fun e => by injection e with e; omega)
           have o6 := o5.kept hg6 (fun k e => by injection e with e; omega)
           have B6 : Below w.heap.size w w6 := B5.trans (hb6.mono (by omega))
           have r6 := Blk.grown (Blk.grown r4.drew hg5 (fun e => by injection e with e; omega)) hg6 (fun e => by injection e with e; omega)
           have f6 := u6.two
           have q6 := r6.two
           have l6 := r6.lt
           have u9 := (u6.far (p := ⟨w.heap.size, 0, none⟩) (by simp; omega) (.slice F nf cf)).far (p := ⟨w.heap.size, 1, none⟩) (by simp; omega) (.slice A3 0 c3)
           have f9 := u9.two))
    all_goals
      have q9 := ((r6.set_ 0 (.slice F nf cf)).set_ 1 (.slice A3 0 c3)).two
      have OO := (((o6.setBelow (p := ⟨w.heap.size, 0, none⟩) (show w.heap.size < w1.heap.size by omega) (.slice F nf cf)).setBelow (p := ⟨w.heap.size, 1, none⟩) (show w.heap.size < w1.heap.size by omega) (.slice A3 0 c3))).reads
      have BB := (B6.setCell (p := ⟨w.heap.size, 0, none⟩) (Nat.le_refl _) (.slice F nf cf)).setCell (p := ⟨w.heap.size, 1, none⟩) (Nat.le_refl _) (.slice A3 0 c3)
      go_wp2_with fail
      exact bodyPost_ret (v := .tuple #[.agg #[.slice F nf cf, .slice A3 0 c3], .int .i64 (IntKind.i64.wrap (v - IntKind.i64.wrap (u.tdiv 19)))]) (by simp [results, Try.results11, go_sem, q9]) rfl
        ⟨F, nf, cf, A3, 0, c3, R, cx, _, rfl, OO, hnf, by omega, BB⟩
  · have hm : ¬ ((n3 : Int) < 1) := by omega
    go_region_held3 (fun w' => w'.cell? ⟨w3.heap.size, 0, none⟩ = some (.slice F nf cf) ∧ w'.cell? ⟨w3.heap.size, 1, none⟩ = some (.slice A3 n3 c3))
      (first | exact ⟨f4.1, f4.2.1⟩ | exact ⟨f5.1, f5.2.1⟩ | exact ⟨f6.1, f6.2.1⟩ | exact ⟨f9.1, f9.2.1⟩)
      (first
        | (go_at_call 32; (with_reducible refine Calls.mono (pick_pos _ g _ (n3 : Int) _ rd4.drew (by omega) (by omega) (by omega) (by omega)) ?_)
           rintro e w5 ⟨v, rfl, hv0, hv1, hr5, hg5, hs5, hb5⟩
           have u5 := Blk.grown u4.drew hg5 (fun e => by injection e with e; omega)
           have o5 := o4.drew.kept hg5 (fun k e => by injection e with e; omega)
           have B5 : Below w.heap.size w w5 := (B4.drew).trans (hb5.mono (by omega))
           have f5 := u5.two)
        | (go_at_call 32; (with_reducible refine Calls.mono (pick_pos _ g _ 20 _ hr5 (by omega) (by omega) (by omega) (by omega)) ?_)
           rintro e w6 ⟨u, rfl, hu0, hu1, hr6, hg6, hs6, hb6⟩
           have u6 := Blk.grown u5 hg6 (fun e => by injection e with e; omega)
           have o6 := o5.kept hg6 (fun k e => by injection e with e; omega)
           have B6 : Below w.heap.size w w6 := B5.trans (hb6.mono (by omega))
           have r6 := Blk.grown (Blk.grown r4.drew hg5 (fun e => by injection e with e; omega)) hg6 (fun e => by injection e with e; omega)
           have f6 := u6.two
           have q6 := r6.two
           have l6 := r6.lt
           have u9 := (u6.far (p := ⟨w.heap.size, 0, none⟩) (by simp; omega) (.slice F nf cf)).far (p := ⟨w.heap.size, 1, none⟩) (by simp; omega) (.slice A3 n3 c3)
           have f9 := u9.two))
    all_goals
      have q9 := ((r6.set_ 0 (.slice F nf cf)).set_ 1 (.slice A3 n3 c3)).two
      have OO := (((o6.setBelow (p := ⟨w.heap.size, 0, none⟩) (show w.heap.size < w1.heap.size by omega) (.slice F nf cf)).setBelow (p := ⟨w.heap.size, 1, none⟩) (show w.heap.size < w1.heap.size by omega) (.slice A3 n3 c3))).reads
      have BB := (B6.setCell (p := ⟨w.heap.size, 0, none⟩) (Nat.le_refl _) (.slice F nf cf)).setCell (p := ⟨w.heap.size, 1, none⟩) (Nat.le_refl _) (.slice A3 n3 c3)
      go_wp2_with fail
      exact bodyPost_ret (v := .tuple #[.agg #[.slice F nf cf, .slice A3 n3 c3], .int .i64 (IntKind.i64.wrap (v - IntKind.i64.wrap (u.tdiv 19)))]) (by simp [results, Try.results11, go_sem, q9]) rfl
        ⟨F, nf, cf, A3, n3, c3, R, cx, _, rfl, OO, hnf, by omega, BB⟩
set_option maxHeartbeats 8000000 in
theorem drawCA_any (A : Option Addr) (n c : Nat) (bs : List Int) (w : World) (hb : Bytes w w.heap.size A n bs) (hn : n ≤ 1048576) (hc : n ≤ c) (hc' : c ≤ 9223372036854775807) :
    Calls Try.prog 17 #[.slice A n c] w (DrewCA w) := by
  have r0 := Blk.new w 26 #[.slice none 0 0, .slice none 0 0]
  have hbW := hb.up (.cells #[.slice none 0 0, .slice none 0 0] 26)
  have BW : Below w.heap.size w (w.alloc (.cells #[.slice none 0 0, .slice none 0 0] 26)) := (Below.refl _ _).alloc (Nat.le_refl _) _
  have zW : w.heap.size < (w.alloc (.cells #[.slice none 0 0, .slice none 0 0] 26)).heap.size := by simp
  generalize hW : w.alloc (.cells #[.slice none 0 0, .slice none 0 0] 26) = W at r0 hbW BW zW
  go_enter Try.func17, Try.ntmps17
  go_wp2_with fail
  refine (open_any A n c bs W hbW hn hc hc').mono ?_
  rintro e w1 ⟨g, rfl, hr1, hgl, hb1⟩
  clear hW
  have hgB := hr1.lt
  go_wp2_with fail
  refine (l92Credits_any _ g 0 w1 hr1 (by omega) (by omega)).mono ?_
  rintro e w3 ⟨F, nf, cf, A3, n3, c3, R, cx, p', rfl, o3, hnf, hn6, hr3, hp0, hp', hg3, hb3⟩
  have z3 : w1.heap.size ≤ w3.heap.size := hg3.size
  have r3 := (r0.below hb1 r0.lt).below hb3 (by omega)
  have B3 : Below w.heap.size w w3 := (BW.trans (hb1.mono (by omega))).trans (hb3.mono (by omega))
  have o4 := o3.alloc (.cells #[.slice F nf cf, .slice A3 n3 c3] 26)
  have r4 := r3.alloc (.cells #[.slice F nf cf, .slice A3 n3 c3] 26)
  have u4 := Blk.new w3 26 #[.slice F nf cf, .slice A3 n3 c3]
  have rd4 := hr3.alloc (.cells #[.slice F nf cf, .slice A3 n3 c3] 26)
  have B4 : Below w.heap.size w (w3.alloc (.cells #[.slice F nf cf, .slice A3 n3 c3] 26)) := B3.alloc (by omega) _
  have z4 : w3.heap.size < (w3.alloc (.cells #[.slice F nf cf, .slice A3 n3 c3] 26)).heap.size := by simp
  clear o3 r3 hr3 hb3 hg3
  go_upto_region 3 with (fail)
  generalize w3.alloc (.cells #[.slice F nf cf, .slice A3 n3 c3] 26) = w4 at o4 r4 u4 rd4 B4 z4 ⊢
  have f4 := u4.two
  by_cases h0 : n3 = 0
  · subst h0
    go_region_held3 (fun w' => w'.cell? ⟨w3.heap.size, 0, none⟩ = some (.slice F nf cf) ∧ w'.cell? ⟨w3.heap.size, 1, none⟩ = some (.slice A3 0 c3))
      (first | exact ⟨f4.1, f4.2.1⟩ | exact ⟨f5.1, f5.2.1⟩ | exact ⟨f6.1, f6.2.1⟩ | exact ⟨f7.1, f7.2.1⟩ | exact ⟨f8.1, f8.2.1⟩ | exact ⟨f9.1, f9.2.1⟩)
      (first
        | (go_at_call 32; (with_reducible refine Calls.mono (pick_pos _ g _ 1 _ rd4.drew (by omega) (by omega) (by omega) (by omega)) ?_)
           rintro e w5 ⟨v, rfl, hv0, hv1, hr5, hg5, hs5, hb5⟩
           have u5 := Blk.grown u4.drew hg5 (fun e => by injection e with e; omega)
           have o5 := o4.drew.kept hg5 (fun k e => by injection e with e; omega)
           have B5 : Below w.heap.size w w5 := (B4.drew).trans (hb5.mono (by omega))
           have f5 := u5.two)
        | (go_at_call 32; (with_reducible refine Calls.mono (pick_pos _ g _ 20 _ hr5 (by omega) (by omega) (by omega) (by omega)) ?_)
           rintro e w6 ⟨u, rfl, hu0, hu1, hr6, hg6, hs6, hb6⟩
           have u6 := Blk.grown u5 hg6 (fun e => by injection e with e; omega)
           have o6 := o5.kept hg6 (fun k e => by injection e with e; omega)
           have B6 : Below w.heap.size w w6 := B5.trans (hb6.mono (by omega))
           have r6 := Blk.grown (Blk.grown r4.drew hg5 (fun e => by injection e with e; omega)) hg6 (fun e => by injection e with e; omega)
           have f6 := u6.two)
        | (go_at_call 32; (with_reducible refine Calls.mono (pick_pos _ g _ 5 _ hr6 (by omega) (by omega) (by omega) (by omega)) ?_)
           rintro e w7 ⟨y, rfl, hy0, hy1, hr7, hg7, hs7, hb7⟩
           have u7 := Blk.grown u6 hg7 (fun e => by injection e with e; omega)
           have o7 := o6.kept hg7 (fun k e => by injection e with e; omega)
           have B7 : Below w.heap.size w w7 := B6.trans (hb7.mono (by omega))
           have r7 := Blk.grown r6 hg7 (fun e => by injection e with e; omega)
           have f7 := u7.two)
        | (go_at_call 32; (with_reducible refine Calls.mono (pick_pos _ g _ 20 _ hr7 (by omega) (by omega) (by omega) (by omega)) ?_)
           rintro e w8 ⟨x, rfl, hx0, hx1, hr8, hg8, hs8, hb8⟩
           have u8 := Blk.grown u7 hg8 (fun e => by injection e with e; omega)
           have o8 := o7.kept hg8 (fun k e => by injection e with e; omega)
           have B8 : Below w.heap.size w w8 := B7.trans (hb8.mono (by omega))
           have r8 := Blk.grown r7 hg8 (fun e => by injection e with e; omega)
           have f8 := u8.two
           have q8 := r8.two
           have l8 := r8.lt
           have u9 := (u8.far (p := ⟨w.heap.size, 0, none⟩) (by simp; omega) (.slice F nf cf)).far (p := ⟨w.heap.size, 1, none⟩) (by simp; omega) (.slice A3 0 c3)
           have f9 := u9.two))
    all_goals
      have q9 := ((r8.set_ 0 (.slice F nf cf)).set_ 1 (.slice A3 0 c3)).two
      have OO := (((o8.setBelow (p := ⟨w.heap.size, 0, none⟩) (show w.heap.size < w1.heap.size by omega) (.slice F nf cf)).setBelow (p := ⟨w.heap.size, 1, none⟩) (show w.heap.size < w1.heap.size by omega) (.slice A3 0 c3))).reads
      have BB := (B8.setCell (p := ⟨w.heap.size, 0, none⟩) (Nat.le_refl _) (.slice F nf cf)).setCell (p := ⟨w.heap.size, 1, none⟩) (Nat.le_refl _) (.slice A3 0 c3)
      go_wp2_with fail
      exact bodyPost_ret (v := .tuple #[.agg #[.slice F nf cf, .slice A3 0 c3], .int .i64 (IntKind.i64.wrap (v + IntKind.i64.wrap (IntKind.i64.wrap (u.tdiv 19) * 7))), .int .i64 (IntKind.i64.wrap (y - IntKind.i64.wrap (x.tdiv 19)))]) (by simp [results, Try.results17, go_sem, q9]) rfl
        ⟨F, nf, cf, A3, 0, c3, R, cx, _, _, rfl, OO, hnf, by omega, BB⟩
  · have hm : ¬ ((n3 : Int) < 1) := by omega
    go_region_held3 (fun w' => w'.cell? ⟨w3.heap.size, 0, none⟩ = some (.slice F nf cf) ∧ w'.cell? ⟨w3.heap.size, 1, none⟩ = some (.slice A3 n3 c3))
      (first | exact ⟨f4.1, f4.2.1⟩ | exact ⟨f5.1, f5.2.1⟩ | exact ⟨f6.1, f6.2.1⟩ | exact ⟨f7.1, f7.2.1⟩ | exact ⟨f8.1, f8.2.1⟩ | exact ⟨f9.1, f9.2.1⟩)
      (first
        | (go_at_call 32; (with_reducible refine Calls.mono (pick_pos _ g _ (n3 : Int) _ rd4.drew (by omega) (by omega) (by omega) (by omega)) ?_)
           rintro e w5 ⟨v, rfl, hv0, hv1, hr5, hg5, hs5, hb5⟩
           have u5 := Blk.grown u4.drew hg5 (fun e => by injection e with e; omega)
           have o5 := o4.drew.kept hg5 (fun k e => by injection e with e; omega)
           have B5 : Below w.heap.size w w5 := (B4.drew).trans (hb5.mono (by omega))
           have f5 := u5.two)
        | (go_at_call 32; (with_reducible refine Calls.mono (pick_pos _ g _ 20 _ hr5 (by omega) (by omega) (by omega) (by omega)) ?_)
           rintro e w6 ⟨u, rfl, hu0, hu1, hr6, hg6, hs6, hb6⟩
           have u6 := Blk.grown u5 hg6 (fun e => by injection e with e; omega)
           have o6 := o5.kept hg6 (fun k e => by injection e with e; omega)
           have B6 : Below w.heap.size w w6 := B5.trans (hb6.mono (by omega))
           have r6 := Blk.grown (Blk.grown r4.drew hg5 (fun e => by injection e with e; omega)) hg6 (fun e => by injection e with e; omega)
           have f6 := u6.two)
        | (go_at_call 32; (with_reducible refine Calls.mono (pick_pos _ g _ 5 _ hr6 (by omega) (by omega) (by omega) (by omega)) ?_)
           rintro e w7 ⟨y, rfl, hy0, hy1, hr7, hg7, hs7, hb7⟩
           have u7 := Blk.grown u6 hg7 (fun e => by injection e with e; omega)
           have o7 := o6.kept hg7 (fun k e => by injection e with e; omega)
           have B7 : Below w.heap.size w w7 := B6.trans (hb7.mono (by omega))
           have r7 := Blk.grown r6 hg7 (fun e => by injection e with e; omega)
           have f7 := u7.two)
        | (go_at_call 32; (with_reducible refine Calls.mono (pick_pos _ g _ 20 _ hr7 (by omega) (by omega) (by omega) (by omega)) ?_)
           rintro e w8 ⟨x, rfl, hx0, hx1, hr8, hg8, hs8, hb8⟩
           have u8 := Blk.grown u7 hg8 (fun e => by injection e with e; omega)
           have o8 := o7.kept hg8 (fun k e => by injection e with e; omega)
           have B8 : Below w.heap.size w w8 := B7.trans (hb8.mono (by omega))
           have r8 := Blk.grown r7 hg8 (fun e => by injection e with e; omega)
           have f8 := u8.two
           have q8 := r8.two
           have l8 := r8.lt
           have u9 := (u8.far (p := ⟨w.heap.size, 0, none⟩) (by simp; omega) (.slice F nf cf)).far (p := ⟨w.heap.size, 1, none⟩) (by simp; omega) (.slice A3 n3 c3)
           have f9 := u9.two))
    all_goals
      have q9 := ((r8.set_ 0 (.slice F nf cf)).set_ 1 (.slice A3 n3 c3)).two
      have OO := (((o8.setBelow (p := ⟨w.heap.size, 0, none⟩) (show w.heap.size < w1.heap.size by omega) (.slice F nf cf)).setBelow (p := ⟨w.heap.size, 1, none⟩) (show w.heap.size < w1.heap.size by omega) (.slice A3 n3 c3))).reads
      have BB := (B8.setCell (p := ⟨w.heap.size, 0, none⟩) (Nat.le_refl _) (.slice F nf cf)).setCell (p := ⟨w.heap.size, 1, none⟩) (Nat.le_refl _) (.slice A3 n3 c3)
      go_wp2_with fail
      exact bodyPost_ret (v := .tuple #[.agg #[.slice F nf cf, .slice A3 n3 c3], .int .i64 (IntKind.i64.wrap (v + IntKind.i64.wrap (IntKind.i64.wrap (u.tdiv 19) * 7))), .int .i64 (IntKind.i64.wrap (y - IntKind.i64.wrap (x.tdiv 19)))]) (by simp [results, Try.results17, go_sem, q9]) rfl
        ⟨F, nf, cf, A3, n3, c3, R, cx, _, _, rfl, OO, hnf, by omega, BB⟩
end Go.Proofs.Ytehgipbedlamaaa
