/-
  The contract of the program's QueueLeft: it receives all that left has sent.
-/
import Derived.Test.YtclajknghfnhcaaQ7
namespace Go.Proofs.Ytclajknghfnhcaa
open Go.RowKit Go.Conc
set_option linter.unusedVariables false

noncomputable def qlBody : Code := Try.f9.body.getD .skip
noncomputable def qlLoop : Code := insideOf (insideOf (secondOf (firstOf (secondOf (secondOf (secondOf qlBody))))))
noncomputable def qlRest : Code := secondOf (secondOf (secondOf (secondOf qlBody)))

theorem extract_iv (l : List Int) (hl : 0 < l.length) : (iv l).toArray.extract 1 (iv l).toArray.size = (iv (l.drop 1)).toArray := by
  simp [iv]
  cases l with
  | nil => simp at hl
  | cons x l => simp; exact List.take_of_length_le (by simp)

/-- What the append leaves. -/
def QlRound (W : World) (g : Nat) (vs : List Int) (i : Nat) (fr : Value → Value → Value → Value → Value → Act) (w0 : World) (a : Act) (w' : World) : Prop :=
  ∃ (A2 : Option Addr) (c2 : Nat) (u14 u15 u16 u17 : Value), a = fr (.slice A2 (i + 1) c2) u14 u15 u16 u17 ∧ Own w' W.heap.size A2 (i + 1) c2 (vs.take (i + 1)) ∧ blk A2 ≠ some g ∧ Below W.heap.size W w' ∧ w'.heap[g]? = w0.heap[g]?

theorem qlLoop_any (W : World) (g m : Nat) (vs : List Int) (cs : List Frame) (hch : W.heap.size ≤ g) (hm : m ≤ 20) (hl : Hid (vs.length = m)) (j : Nat) :
    ∀ (i : Nat) (A : Option Addr) (c : Nat) (v0 v1 v2 v4 v5 v6 v7 v8 v9 v11 v12 v13 v14 v15 v16 v17 v18 : Value) (w0 : World), m - i = j → i ≤ m → ChanAt w0 g (vs.drop i) true → Own w0 W.heap.size A i c (vs.take i) → blk A ≠ some g → Below W.heap.size W w0 →
      LoneTo Try.prog (fun g' w' => ∃ e fr, g' = G fr cs ∧ RetInts vs W e w' ∧ fr.fn = 9 ∧ Frame.leaving Try.prog fr w' e)
        (G ((base 9).at ⟨#[v0, v1, v2, .slice A i c, v4, v5, v6, v7, v8, v9, .chan (some g), v11, v12, v13, v14, v15, v16, v17, v18], []⟩ [.code qlLoop, .inLoop qlLoop, .inBlock 0, .code qlRest]) cs) w0 := by
  induction j with
  | zero =>
    intro i A c v0 v1 v2 v4 v5 v6 v7 v8 v9 v11 v12 v13 v14 v15 v16 v17 v18 w0 hj hi hc hown hne hbw
    have : i = m := by omega
    subst this
    have hnil : vs.drop i = [] := List.drop_eq_nil_of_le (by rw [hl.out]; exact Nat.le_refl _)
    rw [hnil] at hc
    obtain ⟨s, r, hblk⟩ := hc
    rw [List.take_of_length_le (by rw [hl.out]; exact Nat.le_refl _)] at hown
    delta qlLoop qlRest qlBody
    dsimp only [Try.f9, Option.getD_some, firstOf, secondOf, insideOf]
    refine LoneTo.goes (n := 3) ?_
    s_c stepG_seq
    s_reg
    s_stop
    refine LoneTo.step (step_lone_recv_shut true (c := g) (z := .int .i64 0) (cap := 20) (s := s) (r := r) (tm := false) (stepG_comm (cases := #[rcase g (.int .i64 0)]) (blocking := true) (shape := .recv true) (w' := w0) rfl rfl (by decide) (by simp [go_sem, execOp, rcase, Act.eval])) hblk) ?_
    rw [Frame.finish_at]
    simp only [got]
    walk_nrm
    refine LoneTo.goes (n := 8) ?_
    s_op
    s_c stepG_region_end
    s_c stepG_seq
    s_cond false
    s_exit
    s_stop
    refine LoneTo.tail Try.func9 ?_ (by rintro _ ⟨_, _, _, h, _⟩; cases h)
    go_wp2
    go_ret
    exact ⟨A, i, c, rfl, hown, hbw⟩
  | succ j ih =>
    intro i A c v0 v1 v2 v4 v5 v6 v7 v8 v9 v11 v12 v13 v14 v15 v16 v17 v18 w0 hj hi hc hown hne hbw
    have hlt : i < m := by omega
    obtain ⟨x, hx⟩ : ∃ x, vs[i]? = some x := ⟨_, List.getElem?_eq_getElem (by rw [hl.out]; exact hlt)⟩
    have hx1 := Lib.hid hx
    clear hx
    obtain ⟨s, r, hblk⟩ := hc
    have hd0 : (iv (vs.drop i)).toArray.getD 0 undef = .int .i64 x := by
      have := hx1.out
      simp [iv, this]
    have hll : 0 < (vs.drop i).length := by have := hl.out; simp; omega
    have hpos : 0 < (iv (vs.drop i)).toArray.size := by simpa [iv] using hll
    delta qlLoop qlRest qlBody
    dsimp only [Try.f9, Option.getD_some, firstOf, secondOf, insideOf]
    refine LoneTo.goes (n := 3) ?_
    s_c stepG_seq
    s_reg
    s_stop
    refine LoneTo.step (step_lone_recv_buf true (c := g) (z := .int .i64 0) (cap := 20) (buf := (iv (vs.drop i)).toArray) (closed := true) (s := s) (r := r) (tm := false) (stepG_comm (cases := #[rcase g (.int .i64 0)]) (blocking := true) (shape := .recv true) (w' := w0) rfl rfl (by decide) (by simp [go_sem, execOp, rcase, Act.eval])) hblk hpos) ?_
    rw [Frame.finish_at, hd0, extract_iv _ hll, List.drop_drop]
    simp only [got]
    have hgl : g < w0.heap.size := by
      rcases Nat.lt_or_ge g w0.heap.size with h | h
      · exact h
      · rw [Array.getElem?_eq_none h] at hblk; cases hblk
    have hgr := grown_setChan w0 g 20 (iv (vs.drop (i + 1))).toArray true s (r + 1) false
    have hb1 := below_setChan hbw hch 20 (iv (vs.drop (i + 1))).toArray true s (r + 1) false
    have hs1 := size_setChan w0 g 20 (iv (vs.drop (i + 1))).toArray true s (r + 1) false
    have hc1 := heap_setChan w0 g 20 (iv (vs.drop (i + 1))).toArray true s (r + 1) false hgl
    generalize w0.setChan g 20 (iv (vs.drop (i + 1))).toArray true s (r + 1) false = w1 at hgr hb1 hs1 hc1 ⊢
    have o1 := hown.kept hgr (fun k hk e => hne (by rw [hk, e]))
    have hgl1 : g < w1.heap.size := by omega
    have hsz1 : W.heap.size ≤ w1.heap.size := hb1.size
    clear hown hgr hblk hd0 hpos hll hs1 hgl
    walk_nrm
    refine LoneTo.goes (n := 16) ?_
    s_op
    s_c stepG_region_end
    s_c stepG_seq
    s_cond true
    s_c stepG_skip
    s_c stepG_block
    s_c stepG_seq
    s_reg
    s_op
    s_op
    s_c stepG_region_end
    s_stop
    refine LoneTo.piece (Q := QlRound W g vs i (fun o u14 u15 u16 u17 => ⟨#[v0, v1, v2, o, .int .i64 x, v5, v6, v7, v8, v9, .chan (some g), .tuple #[.int .i64 x, .bool true], .bool true, .int .i64 x, u14, u15, u16, u17, v18], []⟩) w1) ?_ ?_
    · have h20 : i ≤ 20 := by omega
      go_wp2_with (at_builtin; refine app1 rfl _ _ rfl W.heap.size rfl (o1.alloc _) _ _ _ _ [x] rfl (Ints.one' _ (by first | omega | (simp; done) | (simp; omega))) (by omega) (by first | omega | (simp; done) | (simp; omega)) ?_; intro A2 c2 w2 o2 hg2 at2)
      have hb2 : Below W.heap.size W w2 := Below.grown (by repeat' (first | with_reducible exact Below.refl _ _ | with_reducible assumption | with_reducible refine Below.setCell ?_ (by first | omega | (simp; done) | (simp; omega)) _ | with_reducible refine Below.alloc ?_ (by first | omega | (simp; done) | (simp; omega)) _ | with_reducible refine below_drewN ?_ _ | with_reducible refine Below.drew ?_ | (with_reducible refine Below.trans ?_ (Below.mono (by with_reducible assumption) (by first | omega | (simp; done) | (simp; omega)))))) hg2 (by first | omega | (simp; done) | (simp; omega)) (fun k hk => by have := o1.lt hk; omega)
      refine ⟨A2, c2, _, _, _, _, rfl, ?_, ?_, hb2, ?_⟩
      · have e : vs.take (i + 1) = vs.take i ++ [x] := by
          have h1 := hx1.out
          rw [List.take_add_one, h1]; rfl
        rw [e]; exact o2
      · intro e
        rcases at2 with h | h
        · rw [h] at e; exact hne e
        · rw [h] at e; simp at e; omega
      · exact (hg2.block g (by simp; omega) (fun e => hne e.symm)).trans (Below.heap_alloc _ _ _ hgl1)
    rintro a' w2 ⟨A2, c2, u14, u15, u16, u17, rfl, o2, hne2, hb2, hg2⟩
    refine LoneTo.inBlock (LoneTo.inLoop ?_)
    exact ih (i + 1) A2 c2 _ _ _ _ _ _ _ _ _ _ _ _ _ _ _ _ _ w2 (by omega) (by omega) ⟨s, r + 1, hg2.trans hc1⟩ o2 hne2 hb2

/-- What stands in QueueLeft's frame when the queue has been found valid. -/
def QlOk (q : Value) (p : Value) (W0 : World) (a : Act) (w' : World) : Prop :=
  ∃ u5 u6 u7 : Value, a = ⟨#[q, p, .slice none 0 0, undef, undef, u5, u6, u7, undef, undef, undef, undef, undef, undef, undef, undef, undef, undef, undef], []⟩ ∧ Below W0.heap.size W0 w'

theorem implQueueLeft_any (A A' : Option Addr) (n c n' c' : Nat) (xs ys : List Int) (w : World) (hx : Ints w w.heap.size A n xs) (hy : Ints w w.heap.size A' n' ys) (hn : n ≤ 1048576) (hn' : n' ≤ 1048576) (hnc : n ≤ c) :
    Calls Try.prog 9 #[.agg #[.slice A n c, .slice A' n' c']] w (RetInts (qleft xs ys) w) := by
  have b1 := Blk.new w 25 #[.slice A n c, .slice A' n' c']
  cases h1 : qvB xs ys
  · have e1 : qleft xs ys = [] := by simp [qleft, h1]
    rw [e1]
    clear e1
    go_enter Try.func9, Try.ntmps9
    go_wp2_with fail
    refine (implQueueValid_any _ _ _ _ _ _ xs ys _ ((hx.below (by repeat' (first | with_reducible exact Below.refl _ _ | with_reducible assumption | with_reducible refine Below.setCell ?_ (by first | omega | (simp; done) | (simp; omega)) _ | with_reducible refine Below.alloc ?_ (by first | omega | (simp; done) | (simp; omega)) _ | with_reducible refine below_drewN ?_ _ | with_reducible refine Below.drew ?_ | (with_reducible refine Below.trans ?_ (Below.mono (by with_reducible assumption) (by first | omega | (simp; done) | (simp; omega))))))).more (by first | omega | (simp; done) | (simp; omega))) ((hy.below (by repeat' (first | with_reducible exact Below.refl _ _ | with_reducible assumption | with_reducible refine Below.setCell ?_ (by first | omega | (simp; done) | (simp; omega)) _ | with_reducible refine Below.alloc ?_ (by first | omega | (simp; done) | (simp; omega)) _ | with_reducible refine below_drewN ?_ _ | with_reducible refine Below.drew ?_ | (with_reducible refine Below.trans ?_ (Below.mono (by with_reducible assumption) (by first | omega | (simp; done) | (simp; omega))))))).more (by first | omega | (simp; done) | (simp; omega))) hn hn').mono ?_
    rintro e w1 ⟨rfl, hb1⟩
    go_wp2_with fail
    go_ret
    exact RetInts.zero (by repeat' (first | with_reducible exact Below.refl _ _ | with_reducible assumption | with_reducible refine Below.setCell ?_ (by first | omega | (simp; done) | (simp; omega)) _ | with_reducible refine Below.alloc ?_ (by first | omega | (simp; done) | (simp; omega)) _ | with_reducible refine below_drewN ?_ _ | with_reducible refine Below.drew ?_ | (with_reducible refine Below.trans ?_ (Below.mono (by with_reducible assumption) (by first | omega | (simp; done) | (simp; omega))))))
  obtain ⟨hl1, hl2⟩ := qv_len h1
  have HL := Lib.hid hx.len
  have HL' := Lib.hid hy.len
  have hnn : n' ≤ n := by have := HL.out; have := HL'.out; omega
  have hn20 : n ≤ 20 := by have := HL.out; omega
  clear hl1 hl2
  have e1 : qleft xs ys = xs.drop n' := by simp [qleft, h1, HL'.out]
  rw [e1]
  clear e1
  refine calls_of_loneTo (fun cs => ?_) (by rintro _ ⟨_, _, _, h, _⟩; cases h)
  have e : Frame.enter Try.prog 9 #[.agg #[.slice A n c, .slice A' n' c']] .normal = (base 9).at ⟨#[.agg #[.slice A n c, .slice A' n' c'], undef, undef, undef, undef, undef, undef, undef, undef, undef, undef, undef, undef, undef, undef, undef, undef, undef, undef], []⟩ [.code qlBody] := by
    simp [Frame.enter, Frame.at, Try.func9, base, Try.f9, qlBody]
  rw [e]
  delta qlBody
  dsimp only [Try.f9, Option.getD_some]
  refine LoneTo.goes (n := 10) ?_
  s_c stepG_seq
  s_reg
  s_op
  s_op
  s_c stepG_region_end
  s_c stepG_seq
  s_stop
  refine LoneTo.piece (Q := QlOk (.agg #[.slice A n c, .slice A' n' c']) (.pointer (some ⟨w.heap.size, 0, none⟩)) (w.alloc (.cells #[.slice A n c, .slice A' n' c'] 25))) ?_ ?_
  · go_wp2_with fail
    refine (implQueueValid_any _ _ _ _ _ _ xs ys _ ((hx.below (by repeat' (first | with_reducible exact Below.refl _ _ | with_reducible assumption | with_reducible refine Below.setCell ?_ (by first | omega | (simp; done) | (simp; omega)) _ | with_reducible refine Below.alloc ?_ (by first | omega | (simp; done) | (simp; omega)) _ | with_reducible refine below_drewN ?_ _ | with_reducible refine Below.drew ?_ | (with_reducible refine Below.trans ?_ (Below.mono (by with_reducible assumption) (by first | omega | (simp; done) | (simp; omega))))))).more (by first | omega | (simp; done) | (simp; omega))) ((hy.below (by repeat' (first | with_reducible exact Below.refl _ _ | with_reducible assumption | with_reducible refine Below.setCell ?_ (by first | omega | (simp; done) | (simp; omega)) _ | with_reducible refine Below.alloc ?_ (by first | omega | (simp; done) | (simp; omega)) _ | with_reducible refine below_drewN ?_ _ | with_reducible refine Below.drew ?_ | (with_reducible refine Below.trans ?_ (Below.mono (by with_reducible assumption) (by first | omega | (simp; done) | (simp; omega))))))).more (by first | omega | (simp; done) | (simp; omega))) hn hn').mono ?_
    rintro e w1 ⟨rfl, hb1⟩
    go_wp2_with fail
    exact ⟨_, _, _, rfl, hb1⟩
  rintro a' w1 ⟨u5, u6, u7, rfl, hb1⟩
  have p1 := b1.below hb1 (by first | omega | (simp; done) | (simp; omega))
  have hz1 := hb1.size
  simp at hz1
  have f1 := p1.two
  have g1 : w.heap.size < w1.heap.size := by omega
  refine LoneTo.goes (n := 12) ?_
  s_c stepG_seq
  s_reg
  s_op
  s_op
  s_c stepG_region_end
  s_c stepG_seq
  s_c stepG_seq
  s_reg
  s_op
  s_stop
  refine LoneTo.enter rfl rfl (w' := w1.alloc (.cells #[] 3)) (by simp [go_sem, execOp, Act.eval]) (left_any A A' n c n' c' xs ys _ ((hx.below (by repeat' (first | with_reducible exact Below.refl _ _ | with_reducible assumption | with_reducible refine Below.setCell ?_ (by first | omega | (simp; done) | (simp; omega)) _ | with_reducible refine Below.alloc ?_ (by first | omega | (simp; done) | (simp; omega)) _ | with_reducible refine below_drewN ?_ _ | with_reducible refine Below.drew ?_ | (with_reducible refine Below.trans ?_ (Below.mono (by with_reducible assumption) (by first | omega | (simp; done) | (simp; omega))))))).more (by first | omega | (simp; done) | (simp; omega))) hnn hn20 hnc) ?_
  rintro e w3 ⟨g, rfl, hg, hch, hb3⟩
  refine ⟨_, rfl, ?_⟩
  have hz3 := hb3.size
  simp at hz3 hg
  refine LoneTo.goes (n := 3) ?_
  s_c stepG_region_end
  s_c stepG_block
  s_stop
  refine LoneTo.loop ?_
  have o3 : Own w3 w.heap.size (some ⟨w1.heap.size, 0, none⟩) 0 0 ((xs.drop n').take 0) := Own.below (by (refine Own.lit0 ?_ ?_ <;> first | omega | (simp; done) | (simp; omega))) hb3
  exact qlLoop_any w g (n - n') (xs.drop n') cs (by omega) (by omega) (by show _ = _; have := HL.out; simp; omega) (n - n') 0 (some ⟨w1.heap.size, 0, none⟩) 0 _ _ _ _ _ _ _ _ _ _ _ _ _ _ _ _ _ w3 (by omega) (by omega) hch o3 (by simp [blk]; omega) (by repeat' (first | with_reducible exact Below.refl _ _ | with_reducible assumption | with_reducible refine Below.setCell ?_ (by first | omega | (simp; done) | (simp; omega)) _ | with_reducible refine Below.alloc ?_ (by first | omega | (simp; done) | (simp; omega)) _ | with_reducible refine below_drewN ?_ _ | with_reducible refine Below.drew ?_ | (with_reducible refine Below.trans ?_ (Below.mono (by with_reducible assumption) (by first | omega | (simp; done) | (simp; omega))))))
end Go.Proofs.Ytclajknghfnhcaa
