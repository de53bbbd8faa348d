/-
  A function that communicates over a channel of its own, nobody else being there: pieces walked by the kit's walk, communications by the machine's steps.
-/
import Derived.Test.YtclajknghfnhcaaMem
import Derived.Conc.LoneCalls
namespace Go.Proofs.Ytclajknghfnhcaa
open Go.RowKit Go.Conc
set_option linter.unusedVariables false

section
variable {P : Program} {R : Goroutine → World → Prop} {b : Frame} {a : Act} {k : List Item} {cs : List Frame} {w : World}

theorem LoneTo.steps {fr fr' : Frame} {cs' : List Frame} {w' : World} (h : Steps P (lone fr cs w) (lone fr' cs' w')) (h' : LoneTo P R (G fr' cs') w') : LoneTo P R (G fr cs) w :=
  let ⟨g₂, w₂, hs, hq⟩ := h'; ⟨g₂, w₂, Steps.trans h hs, hq⟩

/-- A piece of code that ends only by falling off its end. -/
theorem LoneTo.piece {c : Code} {Q : Act → World → Prop} (h : c.wp P (fun e a' w' => e = .normal ∧ Q a' w') a w)
    (hn : ∀ a' w', Q a' w' → LoneTo P R (G (b.at a' k) cs) w') : LoneTo P R (G (b.at a (.code c :: k)) cs) w := by
  obtain ⟨e, a', w', ⟨rfl, hq⟩, harr⟩ := h b k cs
  exact LoneTo.steps harr (hn a' w' hq)

theorem LoneTo.seq {x y : Code} (h : LoneTo P R (G (b.at a (.code x :: .code y :: k)) cs) w) : LoneTo P R (G (b.at a (.code (.seq x y) :: k)) cs) w :=
  LoneTo.step step_seq h
theorem LoneTo.block {id : Nat} {c : Code} (h : LoneTo P R (G (b.at a (.code c :: .inBlock id :: k)) cs) w) : LoneTo P R (G (b.at a (.code (.block id c) :: k)) cs) w :=
  LoneTo.step step_block h
theorem LoneTo.loop {c : Code} (h : LoneTo P R (G (b.at a (.code c :: .inLoop c :: k)) cs) w) : LoneTo P R (G (b.at a (.code (.loop c) :: k)) cs) w :=
  LoneTo.step step_loop h
theorem LoneTo.inLoop {c : Code} (h : LoneTo P R (G (b.at a (.code c :: .inLoop c :: k)) cs) w) : LoneTo P R (G (b.at a (.inLoop c :: k)) cs) w :=
  LoneTo.step step_inLoop h
theorem LoneTo.inBlock {id : Nat} (h : LoneTo P R (G (b.at a k) cs) w) : LoneTo P R (G (b.at a (.inBlock id :: k)) cs) w :=
  LoneTo.step step_inBlock h
theorem LoneTo.skip (h : LoneTo P R (G (b.at a k) cs) w) : LoneTo P R (G (b.at a (.code .skip :: k)) cs) w :=
  LoneTo.step step_skip h
theorem LoneTo.cond {c : Operand} {x y : Code} (t : Bool) (hc : a.eval c = .bool t) (h : LoneTo P R (G (b.at a (.code (if t then x else y) :: k)) cs) w) : LoneTo P R (G (b.at a (.code (.cond c x y) :: k)) cs) w :=
  LoneTo.step (step_cond hc) h
theorem LoneTo.exit {id : Nat} {k' : List Item} (hk : exitTo id k = some k') (h : LoneTo P R (G (b.at a k') cs) w) : LoneTo P R (G (b.at a (.code (.exit id) :: k)) cs) w :=
  LoneTo.step (step_exit hk) h
end

/-- What is left of a function's body, walked by the kit's walk to the function's end. -/
theorem LoneTo.tail {P : Program} {f : FuncId} {fn : Func} {c : Code} {a : Act} {cs : List Frame} {w : World} {Rr : Ending → World → Prop} (hf : P.funcs[f]? = some fn)
    (h : c.wp P (bodyPost P fn Rr) a w) (hno : ∀ w', ¬ Rr .outgrown w') :
    LoneTo P (fun g' w' => ∃ e fr, g' = G fr cs ∧ Rr e w' ∧ fr.fn = f ∧ fr.leaving P w' e) (G ((base f).at a [.code c]) cs) w := by
  obtain ⟨e, a', w', hq, harr⟩ := h (base f) [] cs
  cases e with
  | normal =>
    obtain ⟨hd, v, hr, hR⟩ := hq
    exact LoneTo.steps (Steps.trans harr (.one step_end)) (LoneTo.done ⟨.returned v, _, rfl, hR, rfl, rfl, hd, rfl, fn, hf, hr⟩)
  | ret =>
    obtain ⟨hd, v, hr, hR⟩ := hq
    obtain ⟨todo, hs⟩ := harr
    exact LoneTo.steps hs (LoneTo.done ⟨.returned v, _, rfl, hR, rfl, rfl, hd, rfl, fn, hf, hr⟩)
  | panic chain =>
    obtain ⟨hd, hR⟩ := hq
    obtain ⟨todo, hs⟩ := harr
    exact LoneTo.steps hs (LoneTo.done ⟨.panicked chain, _, rfl, hR, rfl, rfl, hd, fn, hf⟩)
  | exit id => exact hq.elim
  | goto l => exact hq.elim
  | outgrown => exact absurd hq (hno _)

/-- A call of a Go function by its contract, in a region that does not draw. -/
theorem LoneTo.enter {P : Program} {R : Goroutine → World → Prop} {b : Frame} {a : Act} {k : List Item} {cs : List Frame} {w w' : World} {ops : Array Oper} {i : Nat} {rest : List Nat} {o : Oper} {f : FuncId} {args : Array Value} {Rc : Ending → World → Prop}
    (ho : ops[i]? = some o) (hw : Region.wanted o (yielded ops a.tmps) = true) (hr : (execOp a.eval o).run P w = .ok (.enter f args) w') (hc : Calls P f args w' Rc)
    (h : ∀ e w'', Rc e w'' → ∃ v, e = .returned v ∧ LoneTo P R (G (b.at (a.put o.dst v) (.inRegion ops rest :: k)) cs) w'') :
    LoneTo P R (G (b.at a (.inRegion ops (i :: rest) :: k)) cs) w := by
  have hg := stepG_op (P := P) (b := b) (k := k) (cs := cs) (w := w) (rest := rest) ho hw
  obtain ⟨e, w'', fr, hR, hsteps, _, hleave⟩ := hc (b.at a (.inRegion ops (i :: rest) :: k) :: cs)
  have henter : step P (lone (b.at a (.inRegion ops (i :: rest) :: k)) cs w) =
      .next (lone (Frame.enter P f args .normal) (b.at a (.inRegion ops (i :: rest) :: k) :: cs) w') :=
    step_lone_go (by rw [hg]; simp [stepG.apply, hr, Frame.at])
  obtain ⟨v, rfl, hgo⟩ := h e w'' hR
  have hfin : (b.at a (.inRegion ops (i :: rest) :: k)).finish v = b.at (a.put o.dst v) (.inRegion ops rest :: k) := by
    rw [Frame.finish_at, ho]; rfl
  refine LoneTo.steps (.head henter (Steps.trans hsteps (.one ?_))) hgo
  rw [← hfin]
  exact step_leave_returned hleave

def firstOf : Code → Code
  | .seq x _ => x
  | c => c
def secondOf : Code → Code
  | .seq _ y => y
  | c => c
def insideOf : Code → Code
  | .block _ c => c
  | .loop c => c
  | c => c
end Go.Proofs.Ytclajknghfnhcaa
