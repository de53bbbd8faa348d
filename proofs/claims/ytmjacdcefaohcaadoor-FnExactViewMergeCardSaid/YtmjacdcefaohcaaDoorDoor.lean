/-
  What the laws with the listed sentinel have in common: the variable's facts; a world that meets the condition; what the condition gives a walk.
-/
import Derived.Test.YtmjacdcefaohcaaDoorRows
import Derived.Test.YtmjacdcefaohcaaDoorHead
import Derived.Test.YtmjacdcefaohcaaDoorOpen
import Derived.Test.YtmjacdcefaohcaaDoorEr
import Derived.ProofKit
import Derived.ChangeSame
import Derived.ChangeVars
import Derived.LaidMore
import Derived.LaidLaws
import Derived.LaidHandle
import Derived.Stop.Joined
import Derived.Stop.LaidErr
import Derived.Below
namespace Go.Proofs.YtmjacdcefaohcaaDoor
open Go.ChangeShapes Go.WideShapes Go.ChangeAt Go.RowKit

def laidE : List (String × DataW Unit) := Rows.fnViewAloneRow.laid
def vn : String := Rows.fnViewAloneSpec.vars.headD ""
theorem gE : Tryd.prog.globalNamed vn = some 0 := by kernel_rfl
theorem gEType : (Tryd.prog.globals[0]?).map (·.type) = some 57 := by kernel_rfl
theorem cellsES : Tryd.prog.cellsOf 110 = 1 := by kernel_rfl
theorem cellsStr : Tryd.prog.cellsOf 9 = 1 := by kernel_rfl
theorem starES : "*" ++ "errors.errorString" = "*errors.errorString" := by decide
theorem rowES (u : TypeId) (h : Tryd.prog.typeName? 3 u = some "*errors.errorString") : u = 84 :=
  typeName_ptr_named (nm := "errors.errorString") (by rw [starES]; kernel_rfl) (by kernel_rfl) (by decide) u (by rw [starES]; exact h)

/-- The door's own heap meets the condition. -/
theorem door_met (os : Os) (args : Array Value) : laidMetH Tryd.prog laidE ((World.doorLaid Tryd.prog 28 os).forCall (fun _ _ => 0) ⟨#[], args, []⟩).memory :=
  laidMetH_of_parts3 (fuel := 8) (laidMet_of_run' 8 (by kernel_rfl) (by kernel_rfl)) (by kernel_rfl) (by kernel_rfl)
/-- What the condition gives a walk: the sentinel at its variable. -/
theorem sent_of_laid {W : World} (h : laidMetH Tryd.prog laidE W) : ∃ a, W.var? Tryd.prog vn = some #[.iface 84 (.pointer (some a))] ∧ Sent W a := by
  have h' : laidMet Tryd.prog laidE W := h
  obtain ⟨a, s, hv, _, _, _⟩ := laid_sentinel (n := vn) (r := []) h' gE gEType Tryd.underlying57 rowES Tryd.underlying84 Tryd.underlying110 rfl rfl Tryd.underlying9 cellsES cellsStr
  exact ⟨a, hv, by simpa [Sent] using World.var?_cell gE hv 0⟩
theorem var?_below {P : Program} {W W' : World} {n : String} {g B : Nat} {cs : Array Value} (hg : P.globalNamed n = some g) (h : W.var? P n = some cs) (hb : Below B W W') (hB : g < B) : W'.var? P n = some cs := by
  unfold World.var? at h ⊢
  simp only [hg, Option.bind_some] at h ⊢
  rw [hb.block g hB]
  exact h
end Go.Proofs.YtmjacdcefaohcaaDoor
