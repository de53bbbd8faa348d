/-
  The contracts of the program's QueueTake and QueueLeft: they receive from the channel that left hands back.
-/
import Derived.Test.YtdikfkhblkapjaaQ5
import Derived.Test.YtdikfkhblkapjaaQ6
import Derived.Test.YtdikfkhblkapjaaLeft
namespace Go.Proofs.Ytdikfkhblkapjaa
open Go.RowKit Go.Conc
set_option linter.unusedVariables false

theorem isConsumer_any (who : Int) (w : World) : Calls Try.prog 57 #[.int .i64 who] w fun e w' => e = .returned (.bool (inB who 0 3)) ∧ w = w' := by
  by_cases h : 0 ≤ who
  · go_enter Try.func57, Try.ntmps57
    go_wp2
    go_ret
    exact ⟨ret_bool (by simp [inB, h]; omega), rfl⟩
  · go_enter Try.func57, Try.ntmps57
    go_wp2
    go_ret
    exact ⟨ret_bool (by simp [inB]; omega), rfl⟩
/-- What stands in QueueTake's frame when the arguments have been found valid. -/
def TakeOk (q : Value) (who : Int) (W0 w : World) (a : Act) (w' : World) : Prop :=
  ∃ u10 u11 u12 u13 u14 u15 u16 u17 : Value, a = ⟨#[q, .int .i64 who, .pointer (some ⟨w.heap.size, 0, none⟩), undef, .pointer (some ⟨w.heap.size + 1, 0, none⟩), .int .i64 0, .bool false, undef, undef, undef, u10, u11, u12, u13, u14, u15, u16, u17, undef, undef, undef, undef, undef, undef, undef, undef, undef, undef, undef, undef, undef, undef, undef, undef, undef, undef, undef, undef], []⟩ ∧ Below W0.heap.size W0 w'
theorem grown_setChan (w : World) (c cap : Nat) (buf : Array Value) (cl : Bool) (s r : Nat) (tm : Bool) : w.grownBy (w.setChan c cap buf cl s r tm) (some c) :=
  ⟨rfl, rfl, rfl, by simp [World.setChan], fun k _ hk => setChan_far (fun e => hk (by rw [e]))⟩
noncomputable def takeBody : Code := Try.f39.body.getD .skip

theorem implTake_any (A A' : Option Addr) (n c n' c' : Nat) (xs ys : List Int) (who : Int) (w : World) (hx : Ints w w.heap.size A n xs) (hy : Ints w w.heap.size A' n' ys) (hn : n ≤ 1048576) (hn' : n' ≤ 1048576) (hnc : n ≤ c) :
    Calls Try.prog 39 #[.agg #[.slice A n c, .slice A' n' c'], .int .i64 who] w (RetQIB (takeItems xs ys who) (takeTaken xs ys who) (takeItem xs ys who) (takeB xs ys who) w) := by
  have b1 := (Blk.new w 34 #[.slice A n c, .slice A' n' c']).alloc (.cells #[.slice none 0 0, .slice none 0 0] 34)
  have b2 := Blk.new (w.alloc (.cells #[.slice A n c, .slice A' n' c'] 34)) 34 #[.slice none 0 0, .slice none 0 0]
  simp only [World.size_alloc] at b2
  cases h1 : qvB xs ys
  · obtain ⟨e1, e2, e3, e4⟩ := take_no (who := who) (show takeOk xs ys who = false by simp [takeOk, h1])
    rw [e1, e2, e3, e4]
    clear e1 e2 e3 e4
    go_enter Try.func39, Try.ntmps39
    go_wp2_with fail
    refine (implQueueValid_any _ _ _ _ _ _ xs ys _ ((hx.below (by repeat' (first | with_reducible exact Below.refl _ _ | with_reducible assumption | with_reducible refine Below.setCell ?_ (by first | omega | (simp; done) | (simp; omega)) _ | with_reducible refine Below.alloc ?_ (by first | omega | (simp; done) | (simp; omega)) _ | with_reducible refine below_drewN ?_ _ | with_reducible refine Below.drew ?_ | (with_reducible refine Below.trans ?_ (Below.mono (by with_reducible assumption) (by first | omega | (simp; done) | (simp; omega))))))).more (by first | omega | (simp; done) | (simp; omega))) ((hy.below (by repeat' (first | with_reducible exact Below.refl _ _ | with_reducible assumption | with_reducible refine Below.setCell ?_ (by first | omega | (simp; done) | (simp; omega)) _ | with_reducible refine Below.alloc ?_ (by first | omega | (simp; done) | (simp; omega)) _ | with_reducible refine below_drewN ?_ _ | with_reducible refine Below.drew ?_ | (with_reducible refine Below.trans ?_ (Below.mono (by with_reducible assumption) (by first | omega | (simp; done) | (simp; omega))))))).more (by first | omega | (simp; done) | (simp; omega))) hn hn').mono ?_
    rintro e w1 ⟨rfl, hb1⟩
    have p2 := b2.below hb1 (by first | omega | (simp; done) | (simp; omega))
    have f2 := p2.two
    go_wp2_with fail
    exact bodyPost_ret (v := .tuple #[.agg #[.slice none 0 0, .slice none 0 0], .int .i64 0, .bool false]) (by simp [results, Try.results39, go_sem, f2]) rfl (RetQIB.zero (by repeat' (first | with_reducible exact Below.refl _ _ | with_reducible assumption | with_reducible refine Below.setCell ?_ (by first | omega | (simp; done) | (simp; omega)) _ | with_reducible refine Below.alloc ?_ (by first | omega | (simp; done) | (simp; omega)) _ | with_reducible refine below_drewN ?_ _ | with_reducible refine Below.drew ?_ | (with_reducible refine Below.trans ?_ (Below.mono (by with_reducible assumption) (by first | omega | (simp; done) | (simp; omega)))))))
  obtain ⟨hl1, hl2⟩ := qv_len' h1
  have HL := Lib.hid hx.len
  have HL' := Lib.hid hy.len
  have hnn : n' ≤ n := by have := HL.out; have := HL'.out; omega
  have hn20 : n ≤ 20 := by have := HL.out; omega
  clear hl1 hl2
  cases hit : inB who 0 3
  · obtain ⟨e1, e2, e3, e4⟩ := take_no (who := who) (show takeOk xs ys who = false by simp [takeOk, h1, hit])
    rw [e1, e2, e3, e4]
    clear e1 e2 e3 e4
    go_enter Try.func39, Try.ntmps39
    go_wp2_with fail
    refine (implQueueValid_any _ _ _ _ _ _ xs ys _ ((hx.below (by repeat' (first | with_reducible exact Below.refl _ _ | with_reducible assumption | with_reducible refine Below.setCell ?_ (by first | omega | (simp; done) | (simp; omega)) _ | with_reducible refine Below.alloc ?_ (by first | omega | (simp; done) | (simp; omega)) _ | with_reducible refine below_drewN ?_ _ | with_reducible refine Below.drew ?_ | (with_reducible refine Below.trans ?_ (Below.mono (by with_reducible assumption) (by first | omega | (simp; done) | (simp; omega))))))).more (by first | omega | (simp; done) | (simp; omega))) ((hy.below (by repeat' (first | with_reducible exact Below.refl _ _ | with_reducible assumption | with_reducible refine Below.setCell ?_ (by first | omega | (simp; done) | (simp; omega)) _ | with_reducible refine Below.alloc ?_ (by first | omega | (simp; done) | (simp; omega)) _ | with_reducible refine below_drewN ?_ _ | with_reducible refine Below.drew ?_ | (with_reducible refine Below.trans ?_ (Below.mono (by with_reducible assumption) (by first | omega | (simp; done) | (simp; omega))))))).more (by first | omega | (simp; done) | (simp; omega))) hn hn').mono ?_
    rintro e w1 ⟨rfl, hb1⟩
    have p2 := b2.below hb1 (by first | omega | (simp; done) | (simp; omega))
    have f2 := p2.two
    go_wp2_with fail
    refine (isConsumer_any _ _).mono ?_
    rintro e w' ⟨rfl, rfl⟩
    go_wp2_with fail
    exact bodyPost_ret (v := .tuple #[.agg #[.slice none 0 0, .slice none 0 0], .int .i64 0, .bool false]) (by simp [results, Try.results39, go_sem, f2]) rfl (RetQIB.zero (by repeat' (first | with_reducible exact Below.refl _ _ | with_reducible assumption | with_reducible refine Below.setCell ?_ (by first | omega | (simp; done) | (simp; omega)) _ | with_reducible refine Below.alloc ?_ (by first | omega | (simp; done) | (simp; omega)) _ | with_reducible refine below_drewN ?_ _ | with_reducible refine Below.drew ?_ | (with_reducible refine Below.trans ?_ (Below.mono (by with_reducible assumption) (by first | omega | (simp; done) | (simp; omega)))))))
  have hok : takeOk xs ys who = true := by simp [takeOk, h1, hit]
  refine calls_of_loneTo (fun cs => ?_) (by rintro _ ⟨_, _, _, _, _, _, h, _⟩; cases h)
  have e : Frame.enter Try.prog 39 #[.agg #[.slice A n c, .slice A' n' c'], .int .i64 who] .normal = (base 39).at ⟨#[.agg #[.slice A n c, .slice A' n' c'], .int .i64 who, undef, undef, undef, undef, undef, undef, undef, undef, undef, undef, undef, undef, undef, undef, undef, undef, undef, undef, undef, undef, undef, undef, undef, undef, undef, undef, undef, undef, undef, undef, undef, undef, undef, undef, undef, undef], []⟩ [.code takeBody] := by
    simp [Frame.enter, Frame.at, Try.func39, base, Try.f39, takeBody]
  rw [e]
  delta takeBody
  dsimp only [Try.f39, Option.getD_some]
  refine LoneTo.goes (n := 10) ?_
  s_c stepG_seq
  s_reg
  s_op
  s_op
  s_op
  s_op
  s_c stepG_region_end
  s_c stepG_seq
  s_stop
  refine LoneTo.piece (Q := TakeOk (.agg #[.slice A n c, .slice A' n' c']) who ((w.alloc (.cells #[.slice A n c, .slice A' n' c'] 34)).alloc (.cells #[.slice none 0 0, .slice none 0 0] 34)) w) ?_ ?_
  · go_wp2_with fail
    refine (implQueueValid_any _ _ _ _ _ _ xs ys _ ((hx.below (by repeat' (first | with_reducible exact Below.refl _ _ | with_reducible assumption | with_reducible refine Below.setCell ?_ (by first | omega | (simp; done) | (simp; omega)) _ | with_reducible refine Below.alloc ?_ (by first | omega | (simp; done) | (simp; omega)) _ | with_reducible refine below_drewN ?_ _ | with_reducible refine Below.drew ?_ | (with_reducible refine Below.trans ?_ (Below.mono (by with_reducible assumption) (by first | omega | (simp; done) | (simp; omega))))))).more (by first | omega | (simp; done) | (simp; omega))) ((hy.below (by repeat' (first | with_reducible exact Below.refl _ _ | with_reducible assumption | with_reducible refine Below.setCell ?_ (by first | omega | (simp; done) | (simp; omega)) _ | with_reducible refine Below.alloc ?_ (by first | omega | (simp; done) | (simp; omega)) _ | with_reducible refine below_drewN ?_ _ | with_reducible refine Below.drew ?_ | (with_reducible refine Below.trans ?_ (Below.mono (by with_reducible assumption) (by first | omega | (simp; done) | (simp; omega))))))).more (by first | omega | (simp; done) | (simp; omega))) hn hn').mono ?_
    rintro e w1 ⟨rfl, hb1⟩
    go_wp2_with fail
    refine (isConsumer_any _ _).mono ?_
    rintro e w' ⟨rfl, rfl⟩
    go_wp2_with fail
    exact ⟨_, _, _, _, _, _, _, _, rfl, hb1⟩
  rintro a' w1 ⟨u10, u11, u12, u13, u14, u15, u16, u17, rfl, hb1⟩
  have p1 := b1.below hb1 (by first | omega | (simp; done) | (simp; omega))
  have p2 := b2.below hb1 (by first | omega | (simp; done) | (simp; omega))
  have f1 := p1.two
  have hz1 := hb1.size
  simp at hz1
  refine LoneTo.goes (n := 3) ?_
  s_c stepG_seq
  s_reg
  s_op
  s_stop
  refine LoneTo.enter rfl rfl (w' := w1) (by simp [go_sem, execOp, Act.eval]) (copyQueue_any A A' n c n' c' xs ys _ ((hx.below (by repeat' (first | with_reducible exact Below.refl _ _ | with_reducible assumption | with_reducible refine Below.setCell ?_ (by first | omega | (simp; done) | (simp; omega)) _ | with_reducible refine Below.alloc ?_ (by first | omega | (simp; done) | (simp; omega)) _ | with_reducible refine below_drewN ?_ _ | with_reducible refine Below.drew ?_ | (with_reducible refine Below.trans ?_ (Below.mono (by with_reducible assumption) (by first | omega | (simp; done) | (simp; omega))))))).more (by first | omega | (simp; done) | (simp; omega))) ((hy.below (by repeat' (first | with_reducible exact Below.refl _ _ | with_reducible assumption | with_reducible refine Below.setCell ?_ (by first | omega | (simp; done) | (simp; omega)) _ | with_reducible refine Below.alloc ?_ (by first | omega | (simp; done) | (simp; omega)) _ | with_reducible refine below_drewN ?_ _ | with_reducible refine Below.drew ?_ | (with_reducible refine Below.trans ?_ (Below.mono (by with_reducible assumption) (by first | omega | (simp; done) | (simp; omega))))))).more (by first | omega | (simp; done) | (simp; omega))) hn hn') ?_
  rintro e w2 ⟨A2, n2, c2, B2, m2, d2, rfl, o2, u2, ap2, hb2⟩
  refine ⟨_, rfl, ?_⟩
  replace p1 := p1.below hb2 (by first | omega | (simp; done) | (simp; omega))
  replace p2 := p2.below hb2 (by first | omega | (simp; done) | (simp; omega))
  have hz2 := hb2.size
  have g1 : w.heap.size < w2.heap.size := by omega
  have g2 : w.heap.size + 1 < w2.heap.size := by omega
  clear f1
  have f1 := p1.two
  have f2 := p2.two
  refine LoneTo.goes (n := 6) ?_
  s_op
  s_op
  s_c stepG_region_end
  s_c stepG_seq
  s_reg
  s_op
  s_stop
  have b6 := Blk.new w2 34 #[.slice A2 n2 c2, .slice B2 m2 d2]
  refine LoneTo.enter rfl rfl (w' := w2.alloc (.cells #[.slice A2 n2 c2, .slice B2 m2 d2] 34)) (by simp [go_sem, execOp, Act.eval]) (left_any A A' n c n' c' xs ys _ ((hx.below (by repeat' (first | with_reducible exact Below.refl _ _ | with_reducible assumption | with_reducible refine Below.setCell ?_ (by first | omega | (simp; done) | (simp; omega)) _ | with_reducible refine Below.alloc ?_ (by first | omega | (simp; done) | (simp; omega)) _ | with_reducible refine below_drewN ?_ _ | with_reducible refine Below.drew ?_ | (with_reducible refine Below.trans ?_ (Below.mono (by with_reducible assumption) (by first | omega | (simp; done) | (simp; omega))))))).more (by first | omega | (simp; done) | (simp; omega))) hnn hn20 hnc) ?_
  rintro e w3 ⟨g, rfl, hg, ⟨s, r, hblk⟩, hb3⟩
  refine ⟨_, rfl, ?_⟩
  have hz3 := hb3.size
  simp at hz3 hg
  replace p1 := (p1.alloc _).below hb3 (by first | omega | (simp; done) | (simp; omega))
  replace p2 := (p2.alloc _).below hb3 (by first | omega | (simp; done) | (simp; omega))
  have p6 := b6.below hb3 (by first | omega | (simp; done) | (simp; omega))
  have o3 := (o2.alloc _).below hb3
  have u3 := (u2.alloc _).below hb3
  have hbw3 : Below w.heap.size w w3 := (by repeat' (first | with_reducible exact Below.refl _ _ | with_reducible assumption | with_reducible refine Below.setCell ?_ (by first | omega | (simp; done) | (simp; omega)) _ | with_reducible refine Below.alloc ?_ (by first | omega | (simp; done) | (simp; omega)) _ | with_reducible refine below_drewN ?_ _ | with_reducible refine Below.drew ?_ | (with_reducible refine Below.trans ?_ (Below.mono (by with_reducible assumption) (by first | omega | (simp; done) | (simp; omega))))))
  have lo : ∀ k, blk A2 = some k → k < w2.heap.size := fun k hk => (o2.lt hk).2
  have lu : ∀ k, blk B2 = some k → k < w2.heap.size := fun k hk => (u2.lt hk).2
  clear f1 f2 b1 b2 b6 hb1 hb2 hb3 o2 u2
  by_cases hfull : n' = n
  · subst hfull
    obtain ⟨e1, e2, e3, e4⟩ := take_none hok (by rw [HL.out, HL'.out]; exact Nat.le_refl _)
    rw [e1, e2, e3, e4]
    clear e1 e2 e3 e4 hok hit h1
    have hnil : xs.drop n' = [] := List.drop_eq_nil_of_le (by rw [HL.out]; exact Nat.le_refl _)
    rw [hnil] at hblk
    refine LoneTo.step (step_lone_recv_shut true (c := g) (z := .int .i64 0) (cap := 20) (s := s) (r := r) (tm := false) (stepG_comm (cases := #[rcase g (.int .i64 0)]) (blocking := true) (shape := .recv true) (w' := w3) rfl rfl (by decide) (by simp [go_sem, execOp, rcase, Act.eval])) hblk) ?_
    rw [Frame.finish_at]
    simp only [got]
    walk_nrm
    refine LoneTo.goes (n := 8) ?_
    s_op
    s_op
    s_op
    s_op
    s_op
    s_c stepG_region_end
    s_stop
    refine LoneTo.tail Try.func39 ?_ (by rintro _ ⟨_, _, _, _, _, _, h, _⟩; cases h)
    have f1 := p1.two
    have f2 := p2.two
    have f6 := p6.two
    go_wp2
    exact bodyPost_ret (v := .tuple #[.agg #[.slice A2 n2 c2, .slice B2 m2 d2], .int .i64 0, .bool false]) (by simp [results, Try.results39, go_sem, f2]) rfl ⟨A2, n2, c2, B2, m2, d2, rfl, ((o3.setBelow (by first | omega | (simp; done) | (simp; omega)) _).setBelow (by first | omega | (simp; done) | (simp; omega)) _).mono (by first | omega | (simp; done) | (simp; omega)), ((u3.setBelow (by first | omega | (simp; done) | (simp; omega)) _).setBelow (by first | omega | (simp; done) | (simp; omega)) _).mono (by first | omega | (simp; done) | (simp; omega)), ap2, (by repeat' (first | with_reducible exact Below.refl _ _ | with_reducible assumption | with_reducible refine Below.setCell ?_ (by first | omega | (simp; done) | (simp; omega)) _ | with_reducible refine Below.alloc ?_ (by first | omega | (simp; done) | (simp; omega)) _ | with_reducible refine below_drewN ?_ _ | with_reducible refine Below.drew ?_ | (with_reducible refine Below.trans ?_ (Below.mono (by with_reducible assumption) (by first | omega | (simp; done) | (simp; omega))))))⟩
  · have hlt : n' < n := by omega
    obtain ⟨ad, x, rfl, hb, hc, hx1, _⟩ := hx.elem hlt
    obtain ⟨e1, e2, e3, e4⟩ := take_yes hok (x := x) (by rw [HL'.out]; exact hx1.out)
    rw [e1, e2, e3, e4]
    clear e1 e2 e3 e4 hok hfull hit h1
    have hd0 : (iv (xs.drop n')).toArray.getD 0 undef = .int .i64 x := by
      have := hx1.out
      simp [iv, this]
    have hpos : 0 < (iv (xs.drop n')).toArray.size := by
      have := HL.out
      simp [iv]; omega
    refine LoneTo.step (step_lone_recv_buf true (c := g) (z := .int .i64 0) (cap := 20) (buf := (iv (xs.drop n')).toArray) (closed := true) (s := s) (r := r) (tm := false) (stepG_comm (cases := #[rcase g (.int .i64 0)]) (blocking := true) (shape := .recv true) (w' := w3) rfl rfl (by decide) (by simp [go_sem, execOp, rcase, Act.eval])) hblk hpos) ?_
    rw [Frame.finish_at, hd0]
    simp only [got]
    have hgr := grown_setChan w3 g 20 ((iv (xs.drop n')).toArray.extract 1 (iv (xs.drop n')).toArray.size) true s (r + 1) false
    have hgl : g < w3.heap.size := by
      rcases Nat.lt_or_ge g w3.heap.size with h | h
      · exact h
      · rw [Array.getElem?_eq_none h] at hblk; cases hblk
    have hbw4 := below_setChan hbw3 (c := g) (by omega) 20 ((iv (xs.drop n')).toArray.extract 1 (iv (xs.drop n')).toArray.size) true s (r + 1) false
    have hs4 := size_setChan w3 g 20 ((iv (xs.drop n')).toArray.extract 1 (iv (xs.drop n')).toArray.size) true s (r + 1) false
    generalize w3.setChan g 20 ((iv (xs.drop n')).toArray.extract 1 (iv (xs.drop n')).toArray.size) true s (r + 1) false = w4 at hgr hbw4 hs4 ⊢
    have o4 := o3.kept hgr (fun k hk e => by injection e with e; have := lo k hk; omega)
    have u4 := u3.kept hgr (fun k hk e => by injection e with e; have := lu k hk; omega)
    replace p2 := p2.grown hgr (fun e => by injection e with e; omega)
    replace p6 := p6.grown hgr (fun e => by injection e with e; omega)
    clear o3 u3 hgr hblk hbw3 hd0 hpos
    walk_nrm
    refine LoneTo.goes (n := 8) ?_
    s_op
    s_op
    s_op
    s_op
    s_op
    s_c stepG_region_end
    s_stop
    refine LoneTo.tail Try.func39 ?_ (by rintro _ ⟨_, _, _, _, _, _, h, _⟩; cases h)
    have f2 := p2.two
    have f6 := p6.two
    have hn2 : m2 ≤ 20 := by have := u4.len; have := HL'.out; omega
    have hz4 : w1.heap.size ≤ w4.heap.size := by omega
    have hz6 : w2.heap.size < w4.heap.size := by omega
    have hz7 : w.heap.size + 1 < w4.heap.size := by omega
    clear hs4
    go_wp2_with (at_builtin; refine app1 rfl _ _ rfl w1.heap.size rfl (u4.alloc _) _ _ _ _ [who] rfl (Ints.one' _ (by first | omega | (simp; done) | (simp; omega))) (by omega) (by first | omega | (simp; done) | (simp; omega)) ?_; intro B3 d3 w5 u5 hg5 at5; have q2 := Blk.grown (p2.alloc _) hg5 (fun e => by have := u4.lt e.symm; omega); have q6 := Blk.grown (p6.alloc _) hg5 (fun e => by have := lu _ e.symm; omega); have h2 := q2.two; have h6 := q6.two)
    have hbw5 : Below w.heap.size w w5 := Below.grown (by repeat' (first | with_reducible exact Below.refl _ _ | with_reducible assumption | with_reducible refine Below.setCell ?_ (by first | omega | (simp; done) | (simp; omega)) _ | with_reducible refine Below.alloc ?_ (by first | omega | (simp; done) | (simp; omega)) _ | with_reducible refine below_drewN ?_ _ | with_reducible refine Below.drew ?_ | (with_reducible refine Below.trans ?_ (Below.mono (by with_reducible assumption) (by first | omega | (simp; done) | (simp; omega)))))) hg5 (by first | omega | (simp; done) | (simp; omega)) (fun k hk => by have := u4.lt hk; omega)
    have o5 : Own w5 w1.heap.size A2 n2 c2 xs := (o4.alloc _).kept hg5 (fun k hk e => ap2 k hk e)
    have ap3 : Apart A2 B3 := by
      intro k hk hk'
      have hl := o4.lt hk
      rcases at5 with h | h
      · rw [h] at hk'; exact ap2 k hk hk'
      · rw [h] at hk'; simp at hk'; omega
    have ne3 : ∀ k, blk B3 = some k → k ≠ (⟨w2.heap.size, 1, none⟩ : Addr).block := by
      intro k hk
      rcases at5 with h | h
      · rw [h] at hk; have := lu k hk; simp; omega
      · rw [h] at hk; simp at hk ⊢; omega
    have ne4 : ∀ k, blk A2 = some k → k ≠ (⟨w2.heap.size, 1, none⟩ : Addr).block := by
      intro k hk
      have := lo k hk; simp; omega
    exact bodyPost_ret (v := .tuple #[.agg #[.slice A2 n2 c2, .slice B3 (m2 + 1) d3], .int .i64 x, .bool true]) (by simp [results, Try.results39, go_sem, h2]) rfl ⟨A2, n2, c2, B3, m2 + 1, d3, rfl, (((o5.setCell ne4 _).setBelow (by first | omega | (simp; done) | (simp; omega)) _).setBelow (by first | omega | (simp; done) | (simp; omega)) _).mono (by first | omega | (simp; done) | (simp; omega)), (((u5.setCell ne3 _).setBelow (by first | omega | (simp; done) | (simp; omega)) _).setBelow (by first | omega | (simp; done) | (simp; omega)) _).mono (by first | omega | (simp; done) | (simp; omega)), ap3, (by repeat' (first | with_reducible exact Below.refl _ _ | with_reducible assumption | with_reducible refine Below.setCell ?_ (by first | omega | (simp; done) | (simp; omega)) _ | with_reducible refine Below.alloc ?_ (by first | omega | (simp; done) | (simp; omega)) _ | with_reducible refine below_drewN ?_ _ | with_reducible refine Below.drew ?_ | (with_reducible refine Below.trans ?_ (Below.mono (by with_reducible assumption) (by first | omega | (simp; done) | (simp; omega))))))⟩
end Go.Proofs.Ytdikfkhblkapjaa
