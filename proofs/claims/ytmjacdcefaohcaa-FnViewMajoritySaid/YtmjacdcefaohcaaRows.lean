/-
  No cell of these rows narrows 'for every input' (looked for: loops, veiled, ifaces, maps, wideKeys, modest, calm, conditions, laid).
  DERIVED. THE GIVEN ROWS OF THIS SEAT. 3 by the template 'for every input the law returns true; each argument reads behind the call as it read before'; 0 by the template 'total and deterministic' (their statements: YtmjacdcefaohcaaTotals.lean).
  GIVEN WITH THE SEED: the statements are not yours to turn. If you find one false, say at which input.
  Laid BY PROGRAM, IN A SANDBOX (cutbox-rows.mjs): the forced cells as the released guide's own fill.sh prints them over the translation a574ae956e9f741b… (all of the seat's roots in one cut). By AI agents, Wed Nov 11 2026. No macro, syntax, notation, axiom, sorry.
-/
import Derived.Test.YtmjacdcefaohcaaChecked
import GoSem.Claim
import GoSem.ClaimJoined
import GoSem.ClaimMapViews
import Derived.JoinedTies
import Derived.KernelRfl
namespace Go.Proofs.Ytmjacdcefaohcaa
/- THE CELL 'sum', in the pinned program and in every row, IS THE sha256 OF THE DUMP (.gsa) THAT YtmjacdcefaohcaaProg.lean LOADS. Nothing in Lean hashes anything: it is a label: what it is worth is what the hold of that sum in a sandbox is worth. -/
noncomputable def Try.pinned : Pinned := { name := "ytmjacdcefaohcaa", sum := "a574ae956e9f741b326a9f5064169135a2e56a02c7d1fc051c1e44ab948cd5a3", checked := Try.checked }
namespace Rows
def none {H : Type} : Left H := { results := [], args := [] }

/-- 'laws.FnExactViewValid': WHATEVER THE INPUT: true; the input reads as it did. -/
def fnExactViewValidSpec : ChangeSpec := { name := "fnExactViewValid", fn := fun _ => fun
  | [d] => { results := [.lit (.bool true)], args := [d] }
  | _ => none }
def fnExactViewValidRow : OpenClaim := { program := "ytmjacdcefaohcaa", sum := "a574ae956e9f741b326a9f5064169135a2e56a02c7d1fc051c1e44ab948cd5a3", func := "loop.example/groupmulticast/laws.FnExactViewValid", spec := "fnExactViewValid", apart := false }
def FnExactViewValidSaid : Prop := fnExactViewValidRow.holds Try.pinned (OpenSpec.ofChange fnExactViewValidSpec)

/-- ITS FALSE NEIGHBOUR: 'it returns false'. Refute it at one input. -/
def fnExactViewValidWrong : ChangeSpec := { name := "fnExactViewValid", fn := fun _ => fun
  | [d] => { results := [.lit (.bool false)], args := [d] }
  | _ => none }
def FnExactViewValidWrongFalsely : Prop := fnExactViewValidRow.holds Try.pinned (OpenSpec.ofChange fnExactViewValidWrong)

/-- 'laws.FnExactViewMajority': WHATEVER THE INPUT: true; the input reads as it did. -/
def fnExactViewMajoritySpec : ChangeSpec := { name := "fnExactViewMajority", fn := fun _ => fun
  | [d1, d2] => { results := [.lit (.bool true)], args := [d1, d2] }
  | _ => none }
def fnExactViewMajorityRow : OpenClaim := { program := "ytmjacdcefaohcaa", sum := "a574ae956e9f741b326a9f5064169135a2e56a02c7d1fc051c1e44ab948cd5a3", func := "loop.example/groupmulticast/laws.FnExactViewMajority", spec := "fnExactViewMajority", apart := false }
def FnExactViewMajoritySaid : Prop := fnExactViewMajorityRow.holds Try.pinned (OpenSpec.ofChange fnExactViewMajoritySpec)

/-- ITS FALSE NEIGHBOUR: 'it returns false'. Refute it at one input. -/
def fnExactViewMajorityWrong : ChangeSpec := { name := "fnExactViewMajority", fn := fun _ => fun
  | [d1, d2] => { results := [.lit (.bool false)], args := [d1, d2] }
  | _ => none }
def FnExactViewMajorityWrongFalsely : Prop := fnExactViewMajorityRow.holds Try.pinned (OpenSpec.ofChange fnExactViewMajorityWrong)

/-- 'laws.FnViewMajority': WHATEVER THE INPUT: true; the input reads as it did. -/
def fnViewMajoritySpec : ChangeSpec := { name := "fnViewMajority", fn := fun _ => fun
  | [d1, d2] => { results := [.lit (.bool true)], args := [d1, d2] }
  | _ => none }
def fnViewMajorityRow : OpenClaim := { program := "ytmjacdcefaohcaa", sum := "a574ae956e9f741b326a9f5064169135a2e56a02c7d1fc051c1e44ab948cd5a3", func := "loop.example/groupmulticast/laws.FnViewMajority", spec := "fnViewMajority", apart := false }
def FnViewMajoritySaid : Prop := fnViewMajorityRow.holds Try.pinned (OpenSpec.ofChange fnViewMajoritySpec)

/-- ITS FALSE NEIGHBOUR: 'it returns false'. Refute it at one input. -/
def fnViewMajorityWrong : ChangeSpec := { name := "fnViewMajority", fn := fun _ => fun
  | [d1, d2] => { results := [.lit (.bool false)], args := [d1, d2] }
  | _ => none }
def FnViewMajorityWrongFalsely : Prop := fnViewMajorityRow.holds Try.pinned (OpenSpec.ofChange fnViewMajorityWrong)

/- THE SECOND FORM. 'bulk': how many values and letters a reading holds, each counted each time it is reached (what is shared counts as often as it is met; a slice's spare places count too). A statement '..UptoSaid' is the law's where the arguments, and the package variables that the reading takes, are together of bulk at most 1048576: NARROWER than '..Said'. Prove '..Said' where nothing that the law and all that it calls make is longer than what came in: it says more and counts as full. Else prove '..UptoSaid'. A law counts once. -/
mutual
def uptoBulk {H : Type} : DataW H → Nat
  | .lit (.string bytes) => bytes.length + 1
  | .lit _ => 1
  | .nil => 1
  | .ptr d => uptoBulk d + 1
  | .slice elems spare => uptoBulkAll elems + uptoBulkAll spare + 1
  | .agg parts => uptoBulkAll parts + 1
  | .iface _ d => uptoBulk d + 1
  | .map entries => uptoBulkEntries entries + 1
  | .held _ => 1
def uptoBulkAll {H : Type} : List (DataW H) → Nat
  | [] => 0
  | d :: r => uptoBulk d + uptoBulkAll r
def uptoBulkEntries {H : Type} : List (Lit × DataW H) → Nat
  | [] => 0
  | x :: r => uptoBulkEntry x + uptoBulkEntries r
def uptoBulkEntry {H : Type} : Lit × DataW H → Nat
  | (.string bytes, d) => bytes.length + uptoBulk d + 1
  | (_, d) => uptoBulk d + 1
 end
def uptoSmall : (H : Type) → List (DataW H) → Bool := fun _ ds => decide (uptoBulkAll ds ≤ 1048576)
def OpenSpec.upto (s : _root_.Go.ChangeSpec) : _root_.Go.OpenSpec := { _root_.Go.OpenSpec.ofChange s with cond := some uptoSmall }

/-- 'laws.FnExactViewValid', WHERE WHAT IT READS IS OF BULK AT MOST 1048576: true; the input reads as it did. -/
def fnExactViewValidUptoRow : OpenClaim := { program := "ytmjacdcefaohcaa", sum := "a574ae956e9f741b326a9f5064169135a2e56a02c7d1fc051c1e44ab948cd5a3", func := "loop.example/groupmulticast/laws.FnExactViewValid", spec := "fnExactViewValid", apart := false, narrowed := true }
def FnExactViewValidUptoSaid : Prop := fnExactViewValidUptoRow.holds Try.pinned (OpenSpec.upto fnExactViewValidSpec)

/-- 'laws.FnExactViewMajority', WHERE WHAT IT READS IS OF BULK AT MOST 1048576: true; the input reads as it did. -/
def fnExactViewMajorityUptoRow : OpenClaim := { program := "ytmjacdcefaohcaa", sum := "a574ae956e9f741b326a9f5064169135a2e56a02c7d1fc051c1e44ab948cd5a3", func := "loop.example/groupmulticast/laws.FnExactViewMajority", spec := "fnExactViewMajority", apart := false, narrowed := true }
def FnExactViewMajorityUptoSaid : Prop := fnExactViewMajorityUptoRow.holds Try.pinned (OpenSpec.upto fnExactViewMajoritySpec)

/-- 'laws.FnViewMajority', WHERE WHAT IT READS IS OF BULK AT MOST 1048576: true; the input reads as it did. -/
def fnViewMajorityUptoRow : OpenClaim := { program := "ytmjacdcefaohcaa", sum := "a574ae956e9f741b326a9f5064169135a2e56a02c7d1fc051c1e44ab948cd5a3", func := "loop.example/groupmulticast/laws.FnViewMajority", spec := "fnViewMajority", apart := false, narrowed := true }
def FnViewMajorityUptoSaid : Prop := fnViewMajorityUptoRow.holds Try.pinned (OpenSpec.upto fnViewMajoritySpec)

end Rows
end Go.Proofs.Ytmjacdcefaohcaa
