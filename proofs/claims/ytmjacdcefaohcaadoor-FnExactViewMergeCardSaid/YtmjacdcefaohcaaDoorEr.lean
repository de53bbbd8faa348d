/-
  errors.Is at the one sentinel and at nil, by Go's own text (the two contracts are turned from the guide's worked text on errors.Is); a function value that enters its function.
-/
import Derived.Test.YtmjacdcefaohcaaDoorChecked
import Derived.Test.YtmjacdcefaohcaaDoorVL
import Derived.Test.YtmjacdcefaohcaaDoorSameK
import Derived.WalkKit
import Derived.LaidEql
import Derived.RowKitTokens
namespace Go.Proofs.YtmjacdcefaohcaaDoor
open Go.RowKit Go.Extern
set_option linter.unusedVariables false

theorem is_typeOf (v : Value) (w : World) : (Extern.ReflectliteType.typeOf #[.iface 84 v]).run Tryd.prog w = .ok (.iface 74 (.agg #[.pointer (some ⟨1, 84, none⟩)])) w := by kernel_rfl
theorem is_comparable (w : World) : ((Extern.ReflectliteType.method fun t => do Extern.Rtype.noPackHeld "Comparable" t; (fun a => Value.bool a.comparable) <$> typeInfo t) #[.agg #[.pointer (some ⟨1, 84, none⟩)]]).run Tryd.prog w = .ok (.bool true) w := by kernel_rfl
theorem is_method (v : Value) (w : World) : (Go.method 222 74 v "Comparable").run Tryd.prog w = .ok (83, v) w := by kernel_rfl
theorem is_comp : (Tryd.prog.info? 84).map (·.comparable) = some true := by kernel_rfl
theorem is_size : (Tryd.prog.info? 110).map (·.size) = some 1 := by kernel_rfl

set_option maxRecDepth 100000 in
/-- errors.Is(x, x), x a pointer to an errors.errorString. -/
theorem is_same (a : Addr) (w : World) :
    Calls Tryd.prog 62 #[.iface 84 (.pointer (some a)), .iface 84 (.pointer (some a))] w fun e w' => e = .returned (.bool true) ∧ w' = w := by
  obtain ⟨i, hi, hcmp⟩ := Option.map_eq_some_iff.1 is_comp
  obtain ⟨j, hj, hjs⟩ := Option.map_eq_some_iff.1 is_size
  have h8 := @run_callFunc_extern Tryd.prog 63 _ Extern.ReflectliteType.typeOf Tryd.func63 (by kernel_rfl) (by kernel_rfl) (by kernel_rfl) (by kernel_rfl)
  have h32 := @run_callFunc_extern Tryd.prog 83 _ (Extern.ReflectliteType.method fun t => do Extern.Rtype.noPackHeld "Comparable" t; pure (.bool (← typeInfo t).comparable)) Tryd.func83 (by kernel_rfl) (by kernel_rfl) (by kernel_rfl) (by kernel_rfl)
  have tT := is_typeOf
  have cT := is_comparable
  have mR := is_method
  have heq := run_eql_iface_ptr_same (P := Tryd.prog) w a Tryd.underlying57 Tryd.underlying84 hi hcmp hj
  go_enter Tryd.func62, Tryd.ntmps62
  go_wp2
  refine wp_loop_rounds 1 ?_
  rw [rounds_succ]
  go_wp2
  go_ret
  exact ⟨rfl, rfl⟩

/-- errors.Is(nil, x). -/
theorem is_nil (b : Addr) (w : World) :
    Calls Tryd.prog 62 #[.nilIface, .iface 84 (.pointer (some b))] w fun e w' => e = .returned (.bool false) ∧ w' = w := by
  have hn := run_eql_iface_nil_left (P := Tryd.prog) w 84 (.pointer (some b)) Tryd.underlying57
  go_enter Tryd.func62, Tryd.ntmps62
  go_wp2
  go_ret
  exact ⟨rfl, rfl⟩

/-- The sentinel lies at its variable. -/
def Sent (w : World) (a : Addr) : Prop := w.cell? ⟨0, 0, none⟩ = some (.iface 84 (.pointer (some a)))
theorem Sent.lt {w : World} {a : Addr} (h : Sent w a) : 0 < w.heap.size := World.block_lt_of_cell? w ⟨0, 0, none⟩ h
theorem Sent.below {w w' : World} {a : Addr} {B : Nat} (h : Sent w a) (hb : Below B w w') (h0 : 0 < B) : Sent w' a := (hb.cell (p := ⟨0, 0, none⟩) h0).trans h
theorem Sent.alloc {w : World} {a : Addr} (h : Sent w a) (o : Obj) : Sent (w.alloc o) a := (World.cell?_alloc_lt w o ⟨0, 0, none⟩ h.lt).trans h
theorem Sent.drewN {w : World} {a : Addr} (h : Sent w a) (n : Nat) : Sent (w.drewN n) a := h
theorem Sent.step {w w' : World} {a : Addr} (h : Sent w a) (hb : Below w.heap.size w w') : Sent w' a := h.below hb h.lt

/-- A call of function f enters it. -/
theorem enters_fn {P : Program} {f : FuncId} {fn : Func} {c : Code} (hf : P.funcs[f]? = some fn) (hname : (fn.name == "runtime.NumGoroutine") = false) (hb : fn.body = some c) (args : Array Value) (w : World) : (callFunc f args).run P w = .ok (.enter f args) w := by
  have h1 : fn.name ≠ "runtime.NumGoroutine" := by simpa using hname
  simp [callFunc, hf, h1, hb]
end Go.Proofs.YtmjacdcefaohcaaDoor
