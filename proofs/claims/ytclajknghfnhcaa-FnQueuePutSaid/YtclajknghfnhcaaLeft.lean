/-
  The contract of left: a closed channel of the items that were not taken.
-/
import Derived.Test.YtclajknghfnhcaaChan
import Derived.Test.YtclajknghfnhcaaCut
import Derived.KernelRfl
import Derived.Laws.Rows
namespace Go.Proofs.Ytclajknghfnhcaa
open Go.RowKit Go.Conc
set_option linter.unusedVariables false

/-- Block g holds a channel of ints with nothing but these values in its buffer. -/
def ChanAt (w : World) (g : Nat) (vs : List Int) (closed : Bool) : Prop := ∃ s r, w.heap[g]? = some (.chan 20 (iv vs).toArray closed s r false)

theorem bytes_int : ∃ i, Try.prog.info? 3 = some i ∧ i.bytes = 8 := by
  have h : (Try.prog.info? 3).map (·.bytes) = some 8 := by kernel_rfl
  obtain ⟨i, hi, hb⟩ := Option.map_eq_some_iff.1 h
  exact ⟨i, hi, hb⟩
theorem mkChan20 (w : World) : (Instr.makeChan 47 (.int .i64 20)).run Try.prog w = .ok (.chan (some w.heap.size)) (w.alloc (.chan 20 #[] false 0 0 false)) := by
  obtain ⟨i, hi, hb⟩ := bytes_int
  simpa using run_makeChan (P := Try.prog) (w := w) Try.underlying47 hi .i64 20 (by omega) (by rw [hb]; omega)

/-- What left hands back. -/
def RetChan (vs : List Int) (w : World) (e : Ending) (w' : World) : Prop :=
  ∃ g, e = .returned (.chan (some g)) ∧ w.heap.size ≤ g ∧ ChanAt w' g vs true ∧ Below w.heap.size w w'

noncomputable def leftBody : Code := Try.f18.body.getD .skip
noncomputable def leftLoop : Code := insideOf (insideOf (secondOf (firstOf (secondOf (secondOf leftBody)))))
noncomputable def leftRest : Code := secondOf (secondOf (secondOf leftBody))

theorem heap_alloc_new' {w : World} {o : Obj} {g : Nat} (hg : g = w.heap.size) : (w.alloc o).heap[g]? = some o := by subst hg; exact heap_alloc_new w o
theorem setChan_far {w : World} {c cap g : Nat} {buf : Array Value} {cl : Bool} {s r : Nat} {tm : Bool} (h : c ≠ g) : (w.setChan c cap buf cl s r tm).heap[g]? = w.heap[g]? := by
  simp [World.setChan, Array.getElem?_setIfInBounds_ne h]

theorem leftLoop_any (W : World) (ch : Nat) (A0 : Option Addr) (m c0 : Nat) (vs : List Int) (cs : List Frame) (hch : W.heap.size ≤ ch) (hr : Ints W W.heap.size A0 m vs) (hm : m ≤ 20) (j : Nat) :
    ∀ (i : Nat) (v0 v1 v2 v4 v5 v6 v7 v8 v9 v10 v11 v15 v16 v17 v18 v19 v20 v21 v22 : Value) (w0 : World), m - i = j → i ≤ m → ChanAt w0 ch (vs.take i) false → Below W.heap.size W w0 →
      LoneTo Try.prog (fun g' w' => ∃ e fr, g' = G fr cs ∧ RetChan vs W e w' ∧ fr.fn = 18 ∧ Frame.leaving Try.prog fr w' e)
        (G ((base 18).at ⟨#[v0, v1, v2, .chan (some ch), v4, v5, v6, v7, v8, v9, v10, v11, .slice A0 m c0, .int .i64 (m : Int), .int .i64 (i : Int), v15, v16, v17, v18, v19, v20, v21, v22], []⟩ [.code leftLoop, .inLoop leftLoop, .inBlock 0, .code leftRest]) cs) w0 := by
  have hlen := Lib.hid hr.len
  induction j with
  | zero =>
    intro i v0 v1 v2 v4 v5 v6 v7 v8 v9 v10 v11 v15 v16 v17 v18 v19 v20 v21 v22 w0 hj hi hc hbw
    have : i = m := by omega
    subst this
    have hck : ChanAt w0 ch vs false := by rw [List.take_of_length_le (by rw [hlen.out]; exact Nat.le_refl _)] at hc; exact hc
    obtain ⟨s, r, hblk⟩ := hck
    have hcl := fun ats ty => run_close_open (P := Try.prog) (w := w0) ats ty hblk
    delta leftLoop leftRest leftBody
    dsimp only [Try.f18, Option.getD_some, firstOf, secondOf, insideOf]
    refine LoneTo.goes (n := 30) ?_
    s_c stepG_seq
    s_reg
    s_op
    s_c stepG_region_end
    s_c stepG_seq
    s_cond false
    s_exit
    s_c stepG_seq
    s_reg
    s_op
    s_op
    s_c stepG_region_end
    s_c stepG_seq
    s_reg
    s_op
    s_op
    s_c stepG_region_end
    s_c stepG_ret'
    s_stop
    refine LoneTo.done ⟨.returned (.chan (some ch)), _, rfl, ⟨ch, rfl, hch, ⟨s, r, ?_⟩, ?_⟩, rfl, rfl, rfl, rfl, _, Try.func18, by simp [results, Try.f18, Frame.at]⟩
    · exact heap_setChan w0 ch 20 (iv vs).toArray true s r false (by rcases Nat.lt_or_ge ch w0.heap.size with h | h; exact h; rw [Array.getElem?_eq_none h] at hblk; cases hblk)
    · exact below_setChan hbw hch 20 (iv vs).toArray true s r false
  | succ j ih =>
    intro i v0 v1 v2 v4 v5 v6 v7 v8 v9 v10 v11 v15 v16 v17 v18 v19 v20 v21 v22 w0 hj hi hc hbw
    have hlt : i < m := by omega
    obtain ⟨ad, x, rfl, hb, hcx, hx1, hs⟩ := hr.elem hlt
    have hcell : w0.cell? (ad.add i) = some (.int .i64 x) := (hbw.cell (by rw [block_of_add]; exact hb)).trans hcx
    obtain ⟨s, r, hblk⟩ := hc
    have hchl : ch < w0.heap.size := by
      rcases Nat.lt_or_ge ch w0.heap.size with h | h
      · exact h
      · rw [Array.getElem?_eq_none h] at hblk; cases hblk
    have hroom : (iv (vs.take i)).toArray.size < 20 := by simp [iv, hlen.out]; omega
    clear hcx
    delta leftLoop leftRest leftBody
    dsimp only [Try.f18, Option.getD_some, firstOf, secondOf, insideOf]
    refine LoneTo.goes (n := 30) ?_
    s_c stepG_seq
    s_reg
    s_op
    s_c stepG_region_end
    s_c stepG_seq
    s_cond true
    s_c stepG_skip
    s_c stepG_seq
    s_c stepG_block
    s_c stepG_seq
    s_reg
    s_op
    s_op
    s_op
    s_c stepG_region_end
    s_reg
    s_op
    s_op
    s_stop
    refine LoneTo.step (step_lone_send_room (c := ch) (cap := 20) (buf := (iv (vs.take i)).toArray) (s := s) (r := r) (tm := false) (stepG_comm (cases := #[scase ch (.int .i64 x) (.tuple #[])]) (blocking := true) (shape := .send) (w' := w0) rfl rfl (by decide) (by simp [execOp, scase, Act.eval])) hblk hroom) ?_
    rw [Frame.finish_at]
    walk_nrm
    refine LoneTo.goes (n := 12) ?_
    s_c stepG_region_end
    s_c stepG_inBlock
    s_reg
    s_op
    s_op
    s_c stepG_region_end
    s_stop
    have hw : IntKind.i64.wrap ((i : Int) + 1) = ((i + 1 : Nat) : Int) := by rw [IntKind.wrap_i64]; omega
    rw [hw]
    refine LoneTo.inLoop ?_
    refine ih (i + 1) _ _ _ _ _ _ _ _ _ _ _ _ _ _ _ _ _ _ _ _ (by omega) (by omega) ⟨s + 1, r, ?_⟩ (below_setChan hbw hch 20 _ false (s + 1) r false)
    rw [heap_setChan w0 ch 20 _ false (s + 1) r false hchl, hs.out, iv_append]
    simp [iv]

theorem left_any (A A' : Option Addr) (n c n' c' : Nat) (xs ys : List Int) (w : World) (hx : Ints w w.heap.size A n xs) (hnn : n' ≤ n) (hn : n ≤ 20) (hnc : n ≤ c) :
    Calls Try.prog 18 #[.agg #[.slice A n c, .slice A' n' c']] w (RetChan (xs.drop n') w) := by
  have hcut := hx.cut (k := n') (cap := c) hnn hnc
  have hsl := fun w => cut_run A n c n' hnn w
  generalize (if c = n' then A else A.map (·.add n')) = A0 at hcut hsl
  have hmc := mkChan20
  refine calls_of_loneTo (fun cs => ?_) (by rintro _ ⟨_, h, _⟩; cases h)
  have e : Frame.enter Try.prog 18 #[.agg #[.slice A n c, .slice A' n' c']] .normal = (base 18).at ⟨#[.agg #[.slice A n c, .slice A' n' c'], undef, undef, undef, undef, undef, undef, undef, undef, undef, undef, undef, undef, undef, undef, undef, undef, undef, undef, undef, undef, undef, undef], []⟩ [.code leftBody] := by
    simp [Frame.enter, Frame.at, Try.func18, base, Try.f18, leftBody]
  rw [e]
  delta leftBody
  dsimp only [Try.f18, Option.getD_some]
  refine LoneTo.goes (n := 60) ?_
  s_c stepG_seq
  s_reg
  s_op
  s_op
  s_c stepG_region_end
  s_c stepG_seq
  s_reg
  s_op
  s_op
  s_c stepG_region_end
  s_c stepG_seq
  s_c stepG_seq
  s_reg
  s_op
  s_op
  s_op
  s_op
  s_op
  s_op
  s_op
  s_op
  s_c stepG_region_end
  s_c stepG_block
  s_stop
  refine LoneTo.loop ?_
  exact leftLoop_any w (w.heap.size + 1) A0 (n - n') (c - n') (xs.drop n') cs (by omega) hcut (by omega) (n - n') 0 _ _ _ _ _ _ _ _ _ _ _ _ _ _ _ _ _ _ _ _ (by omega) (by omega) ⟨0, 0, heap_alloc_new' (by simp)⟩ (((Below.refl _ _).alloc (Nat.le_refl _) _).alloc (by first | omega | (simp; done) | (simp; omega)) _)
theorem grown_setChan (w : World) (c cap : Nat) (buf : Array Value) (cl : Bool) (s r : Nat) (tm : Bool) : w.grownBy (w.setChan c cap buf cl s r tm) (some c) :=
  ⟨rfl, rfl, rfl, by simp [World.setChan], fun k _ hk => setChan_far (fun e => hk (by rw [e]))⟩
end Go.Proofs.Ytclajknghfnhcaa
