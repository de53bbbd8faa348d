/-
  A call as a step of a region, told by its operation's own form.
-/
import Derived.Test.YtehgipbedlamaaaRd
namespace Go.Proofs.Ytehgipbedlamaaa
open Go.RowKit
set_option linter.unusedVariables false
/-- A call of a Go function by its contract, as one step of a region that draws its order: the operation is looked at first. -/
theorem step_callv {P : Program} {ops : Array Oper} {o : Oper} {a : Act} {w : World} {K : Act → World → Prop} {Q : Exit → Act → World → Prop} {E : Prop} (f : FuncId) (xs : Array Operand) (ts : Array TypeId) (args : Array Value)
    (ho : o.op = .call { callee := .value (.func f), args := xs, argTypes := ts }) (he : ∀ args w, (callFunc f args).run P w = .ok (.enter f args) w) (hg : o.guard = none) (hx : xs.map a.eval = args) (h : Calls P f args w fun e w' => ∃ v, e = .returned v ∧ K (a.put o.dst v) w') :
    if Region.wanted o (yielded ops a.tmps) = true then Oper.wp P o a w K Q else E := by
  refine step_calls f args hg ?_ h
  subst hx
  simp [execOp, ho, go_sem, Act.eval]
  exact he _ _
end Go.Proofs.Ytehgipbedlamaaa
