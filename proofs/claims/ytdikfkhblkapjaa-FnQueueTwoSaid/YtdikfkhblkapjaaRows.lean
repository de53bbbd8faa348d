/-
  No cell of these rows narrows 'for every input' (looked for: loops, veiled, ifaces, maps, wideKeys, modest, calm, conditions, laid).
  DERIVED. THE GIVEN ROWS OF THIS SEAT. 17 by the template 'for every input the law returns true; each argument reads behind the call as it read before'; 0 by the template 'total and deterministic' (their statements: YtdikfkhblkapjaaTotals.lean).
  GIVEN WITH THE SEED: the statements are not yours to turn. If you find one false, say at which input.
  Laid BY PROGRAM, IN A SANDBOX (cutbox-rows.mjs): the forced cells as the released guide's own fill.sh prints them over the translation b0ef68c1b6e5eb35… (all of the seat's roots in one cut). By AI agents, Wed Nov 11 2026. No macro, syntax, notation, axiom, sorry.
-/
import Derived.Test.YtdikfkhblkapjaaChecked
import GoSem.Claim
import GoSem.ClaimJoined
import GoSem.ClaimMapViews
import Derived.JoinedTies
import Derived.KernelRfl
namespace Go.Proofs.Ytdikfkhblkapjaa
/- THE CELL 'sum', in the pinned program and in every row, IS THE sha256 OF THE DUMP (.gsa) THAT YtdikfkhblkapjaaProg.lean LOADS. Nothing in Lean hashes anything: it is a label: what it is worth is what the hold of that sum in a sandbox is worth. -/
noncomputable def Try.pinned : Pinned := { name := "ytdikfkhblkapjaa", sum := "b0ef68c1b6e5eb35423d78f42ddc694b07a05fa585aa1f0f5431897e5c28a538", checked := Try.checked }
namespace Rows
def none {H : Type} : Left H := { results := [], args := [] }

/-- 'laws.FnExactGuardCheck': WHATEVER THE INPUT: true; the input reads as it did. -/
def fnExactGuardCheckSpec : ChangeSpec := { name := "fnExactGuardCheck", fn := fun _ => fun
  | [d1, d2] => { results := [.lit (.bool true)], args := [d1, d2] }
  | _ => none }
def fnExactGuardCheckRow : OpenClaim := { program := "ytdikfkhblkapjaa", sum := "b0ef68c1b6e5eb35423d78f42ddc694b07a05fa585aa1f0f5431897e5c28a538", func := "loop.example/groupmulticast/laws.FnExactGuardCheck", spec := "fnExactGuardCheck", apart := false }
def FnExactGuardCheckSaid : Prop := fnExactGuardCheckRow.holds Try.pinned (OpenSpec.ofChange fnExactGuardCheckSpec)

/-- ITS FALSE NEIGHBOUR: 'it returns false'. Refute it at one input. -/
def fnExactGuardCheckWrong : ChangeSpec := { name := "fnExactGuardCheck", fn := fun _ => fun
  | [d1, d2] => { results := [.lit (.bool false)], args := [d1, d2] }
  | _ => none }
def FnExactGuardCheckWrongFalsely : Prop := fnExactGuardCheckRow.holds Try.pinned (OpenSpec.ofChange fnExactGuardCheckWrong)

/-- 'laws.FnGuard': WHATEVER THE INPUT: true; the input reads as it did. -/
def fnGuardSpec : ChangeSpec := { name := "fnGuard", fn := fun _ => fun
  | [d1, d2] => { results := [.lit (.bool true)], args := [d1, d2] }
  | _ => none }
def fnGuardRow : OpenClaim := { program := "ytdikfkhblkapjaa", sum := "b0ef68c1b6e5eb35423d78f42ddc694b07a05fa585aa1f0f5431897e5c28a538", func := "loop.example/groupmulticast/laws.FnGuard", spec := "fnGuard", apart := false }
def FnGuardSaid : Prop := fnGuardRow.holds Try.pinned (OpenSpec.ofChange fnGuardSpec)

/-- ITS FALSE NEIGHBOUR: 'it returns false'. Refute it at one input. -/
def fnGuardWrong : ChangeSpec := { name := "fnGuard", fn := fun _ => fun
  | [d1, d2] => { results := [.lit (.bool false)], args := [d1, d2] }
  | _ => none }
def FnGuardWrongFalsely : Prop := fnGuardRow.holds Try.pinned (OpenSpec.ofChange fnGuardWrong)

/-- 'laws.FnExactQueueValid': WHATEVER THE INPUT: true; the input reads as it did. -/
def fnExactQueueValidSpec : ChangeSpec := { name := "fnExactQueueValid", fn := fun _ => fun
  | [d] => { results := [.lit (.bool true)], args := [d] }
  | _ => none }
def fnExactQueueValidRow : OpenClaim := { program := "ytdikfkhblkapjaa", sum := "b0ef68c1b6e5eb35423d78f42ddc694b07a05fa585aa1f0f5431897e5c28a538", func := "loop.example/groupmulticast/laws.FnExactQueueValid", spec := "fnExactQueueValid", apart := false }
def FnExactQueueValidSaid : Prop := fnExactQueueValidRow.holds Try.pinned (OpenSpec.ofChange fnExactQueueValidSpec)

/-- ITS FALSE NEIGHBOUR: 'it returns false'. Refute it at one input. -/
def fnExactQueueValidWrong : ChangeSpec := { name := "fnExactQueueValid", fn := fun _ => fun
  | [d] => { results := [.lit (.bool false)], args := [d] }
  | _ => none }
def FnExactQueueValidWrongFalsely : Prop := fnExactQueueValidRow.holds Try.pinned (OpenSpec.ofChange fnExactQueueValidWrong)

/-- 'laws.FnQueueLeft': WHATEVER THE INPUT: true; the input reads as it did. -/
def fnQueueLeftSpec : ChangeSpec := { name := "fnQueueLeft", fn := fun _ => fun
  | [d] => { results := [.lit (.bool true)], args := [d] }
  | _ => none }
def fnQueueLeftRow : OpenClaim := { program := "ytdikfkhblkapjaa", sum := "b0ef68c1b6e5eb35423d78f42ddc694b07a05fa585aa1f0f5431897e5c28a538", func := "loop.example/groupmulticast/laws.FnQueueLeft", spec := "fnQueueLeft", apart := false }
def FnQueueLeftSaid : Prop := fnQueueLeftRow.holds Try.pinned (OpenSpec.ofChange fnQueueLeftSpec)

/-- ITS FALSE NEIGHBOUR: 'it returns false'. Refute it at one input. -/
def fnQueueLeftWrong : ChangeSpec := { name := "fnQueueLeft", fn := fun _ => fun
  | [d] => { results := [.lit (.bool false)], args := [d] }
  | _ => none }
def FnQueueLeftWrongFalsely : Prop := fnQueueLeftRow.holds Try.pinned (OpenSpec.ofChange fnQueueLeftWrong)

/-- 'laws.FnQueueOrder': WHATEVER THE INPUT: true; the input reads as it did. -/
def fnQueueOrderSpec : ChangeSpec := { name := "fnQueueOrder", fn := fun _ => fun
  | [d] => { results := [.lit (.bool true)], args := [d] }
  | _ => none }
def fnQueueOrderRow : OpenClaim := { program := "ytdikfkhblkapjaa", sum := "b0ef68c1b6e5eb35423d78f42ddc694b07a05fa585aa1f0f5431897e5c28a538", func := "loop.example/groupmulticast/laws.FnQueueOrder", spec := "fnQueueOrder", apart := false }
def FnQueueOrderSaid : Prop := fnQueueOrderRow.holds Try.pinned (OpenSpec.ofChange fnQueueOrderSpec)

/-- ITS FALSE NEIGHBOUR: 'it returns false'. Refute it at one input. -/
def fnQueueOrderWrong : ChangeSpec := { name := "fnQueueOrder", fn := fun _ => fun
  | [d] => { results := [.lit (.bool false)], args := [d] }
  | _ => none }
def FnQueueOrderWrongFalsely : Prop := fnQueueOrderRow.holds Try.pinned (OpenSpec.ofChange fnQueueOrderWrong)

/-- 'laws.FnQueuePutFull': WHATEVER THE INPUT: true; the input reads as it did. -/
def fnQueuePutFullSpec : ChangeSpec := { name := "fnQueuePutFull", fn := fun _ => fun
  | [d] => { results := [.lit (.bool true)], args := [d] }
  | _ => none }
def fnQueuePutFullRow : OpenClaim := { program := "ytdikfkhblkapjaa", sum := "b0ef68c1b6e5eb35423d78f42ddc694b07a05fa585aa1f0f5431897e5c28a538", func := "loop.example/groupmulticast/laws.FnQueuePutFull", spec := "fnQueuePutFull", apart := false }
def FnQueuePutFullSaid : Prop := fnQueuePutFullRow.holds Try.pinned (OpenSpec.ofChange fnQueuePutFullSpec)

/-- ITS FALSE NEIGHBOUR: 'it returns false'. Refute it at one input. -/
def fnQueuePutFullWrong : ChangeSpec := { name := "fnQueuePutFull", fn := fun _ => fun
  | [d] => { results := [.lit (.bool false)], args := [d] }
  | _ => none }
def FnQueuePutFullWrongFalsely : Prop := fnQueuePutFullRow.holds Try.pinned (OpenSpec.ofChange fnQueuePutFullWrong)

/-- 'laws.FnQueueOnce': WHATEVER THE INPUT: true; the input reads as it did. -/
def fnQueueOnceSpec : ChangeSpec := { name := "fnQueueOnce", fn := fun _ => fun
  | [d] => { results := [.lit (.bool true)], args := [d] }
  | _ => none }
def fnQueueOnceRow : OpenClaim := { program := "ytdikfkhblkapjaa", sum := "b0ef68c1b6e5eb35423d78f42ddc694b07a05fa585aa1f0f5431897e5c28a538", func := "loop.example/groupmulticast/laws.FnQueueOnce", spec := "fnQueueOnce", apart := false }
def FnQueueOnceSaid : Prop := fnQueueOnceRow.holds Try.pinned (OpenSpec.ofChange fnQueueOnceSpec)

/-- ITS FALSE NEIGHBOUR: 'it returns false'. Refute it at one input. -/
def fnQueueOnceWrong : ChangeSpec := { name := "fnQueueOnce", fn := fun _ => fun
  | [d] => { results := [.lit (.bool false)], args := [d] }
  | _ => none }
def FnQueueOnceWrongFalsely : Prop := fnQueueOnceRow.holds Try.pinned (OpenSpec.ofChange fnQueueOnceWrong)

/-- 'laws.FnQueueAll': WHATEVER THE INPUT: true; the input reads as it did. -/
def fnQueueAllSpec : ChangeSpec := { name := "fnQueueAll", fn := fun _ => fun
  | [d1, d2] => { results := [.lit (.bool true)], args := [d1, d2] }
  | _ => none }
def fnQueueAllRow : OpenClaim := { program := "ytdikfkhblkapjaa", sum := "b0ef68c1b6e5eb35423d78f42ddc694b07a05fa585aa1f0f5431897e5c28a538", func := "loop.example/groupmulticast/laws.FnQueueAll", spec := "fnQueueAll", apart := false }
def FnQueueAllSaid : Prop := fnQueueAllRow.holds Try.pinned (OpenSpec.ofChange fnQueueAllSpec)

/-- ITS FALSE NEIGHBOUR: 'it returns false'. Refute it at one input. -/
def fnQueueAllWrong : ChangeSpec := { name := "fnQueueAll", fn := fun _ => fun
  | [d1, d2] => { results := [.lit (.bool false)], args := [d1, d2] }
  | _ => none }
def FnQueueAllWrongFalsely : Prop := fnQueueAllRow.holds Try.pinned (OpenSpec.ofChange fnQueueAllWrong)

/-- 'laws.FnExactQueueOf': WHATEVER THE INPUT: true; the input reads as it did. -/
def fnExactQueueOfSpec : ChangeSpec := { name := "fnExactQueueOf", fn := fun _ => fun
  | [d1, d2] => { results := [.lit (.bool true)], args := [d1, d2] }
  | _ => none }
def fnExactQueueOfRow : OpenClaim := { program := "ytdikfkhblkapjaa", sum := "b0ef68c1b6e5eb35423d78f42ddc694b07a05fa585aa1f0f5431897e5c28a538", func := "loop.example/groupmulticast/laws.FnExactQueueOf", spec := "fnExactQueueOf", apart := false }
def FnExactQueueOfSaid : Prop := fnExactQueueOfRow.holds Try.pinned (OpenSpec.ofChange fnExactQueueOfSpec)

/-- ITS FALSE NEIGHBOUR: 'it returns false'. Refute it at one input. -/
def fnExactQueueOfWrong : ChangeSpec := { name := "fnExactQueueOf", fn := fun _ => fun
  | [d1, d2] => { results := [.lit (.bool false)], args := [d1, d2] }
  | _ => none }
def FnExactQueueOfWrongFalsely : Prop := fnExactQueueOfRow.holds Try.pinned (OpenSpec.ofChange fnExactQueueOfWrong)

/-- 'laws.FnExactQueueLeft': WHATEVER THE INPUT: true; the input reads as it did. -/
def fnExactQueueLeftSpec : ChangeSpec := { name := "fnExactQueueLeft", fn := fun _ => fun
  | [d] => { results := [.lit (.bool true)], args := [d] }
  | _ => none }
def fnExactQueueLeftRow : OpenClaim := { program := "ytdikfkhblkapjaa", sum := "b0ef68c1b6e5eb35423d78f42ddc694b07a05fa585aa1f0f5431897e5c28a538", func := "loop.example/groupmulticast/laws.FnExactQueueLeft", spec := "fnExactQueueLeft", apart := false }
def FnExactQueueLeftSaid : Prop := fnExactQueueLeftRow.holds Try.pinned (OpenSpec.ofChange fnExactQueueLeftSpec)

/-- ITS FALSE NEIGHBOUR: 'it returns false'. Refute it at one input. -/
def fnExactQueueLeftWrong : ChangeSpec := { name := "fnExactQueueLeft", fn := fun _ => fun
  | [d] => { results := [.lit (.bool false)], args := [d] }
  | _ => none }
def FnExactQueueLeftWrongFalsely : Prop := fnExactQueueLeftRow.holds Try.pinned (OpenSpec.ofChange fnExactQueueLeftWrong)

/-- 'laws.FnQueuePut': WHATEVER THE INPUT: true; the input reads as it did. -/
def fnQueuePutSpec : ChangeSpec := { name := "fnQueuePut", fn := fun _ => fun
  | [d] => { results := [.lit (.bool true)], args := [d] }
  | _ => none }
def fnQueuePutRow : OpenClaim := { program := "ytdikfkhblkapjaa", sum := "b0ef68c1b6e5eb35423d78f42ddc694b07a05fa585aa1f0f5431897e5c28a538", func := "loop.example/groupmulticast/laws.FnQueuePut", spec := "fnQueuePut", apart := false }
def FnQueuePutSaid : Prop := fnQueuePutRow.holds Try.pinned (OpenSpec.ofChange fnQueuePutSpec)

/-- ITS FALSE NEIGHBOUR: 'it returns false'. Refute it at one input. -/
def fnQueuePutWrong : ChangeSpec := { name := "fnQueuePut", fn := fun _ => fun
  | [d] => { results := [.lit (.bool false)], args := [d] }
  | _ => none }
def FnQueuePutWrongFalsely : Prop := fnQueuePutRow.holds Try.pinned (OpenSpec.ofChange fnQueuePutWrong)

/-- 'laws.FnQueueTakeEmpty': WHATEVER THE INPUT: true; the input reads as it did. -/
def fnQueueTakeEmptySpec : ChangeSpec := { name := "fnQueueTakeEmpty", fn := fun _ => fun
  | [d] => { results := [.lit (.bool true)], args := [d] }
  | _ => none }
def fnQueueTakeEmptyRow : OpenClaim := { program := "ytdikfkhblkapjaa", sum := "b0ef68c1b6e5eb35423d78f42ddc694b07a05fa585aa1f0f5431897e5c28a538", func := "loop.example/groupmulticast/laws.FnQueueTakeEmpty", spec := "fnQueueTakeEmpty", apart := false }
def FnQueueTakeEmptySaid : Prop := fnQueueTakeEmptyRow.holds Try.pinned (OpenSpec.ofChange fnQueueTakeEmptySpec)

/-- ITS FALSE NEIGHBOUR: 'it returns false'. Refute it at one input. -/
def fnQueueTakeEmptyWrong : ChangeSpec := { name := "fnQueueTakeEmpty", fn := fun _ => fun
  | [d] => { results := [.lit (.bool false)], args := [d] }
  | _ => none }
def FnQueueTakeEmptyWrongFalsely : Prop := fnQueueTakeEmptyRow.holds Try.pinned (OpenSpec.ofChange fnQueueTakeEmptyWrong)

/-- 'laws.FnQueueTwo': WHATEVER THE INPUT: true; the input reads as it did. -/
def fnQueueTwoSpec : ChangeSpec := { name := "fnQueueTwo", fn := fun _ => fun
  | [d1, d2] => { results := [.lit (.bool true)], args := [d1, d2] }
  | _ => none }
def fnQueueTwoRow : OpenClaim := { program := "ytdikfkhblkapjaa", sum := "b0ef68c1b6e5eb35423d78f42ddc694b07a05fa585aa1f0f5431897e5c28a538", func := "loop.example/groupmulticast/laws.FnQueueTwo", spec := "fnQueueTwo", apart := false }
def FnQueueTwoSaid : Prop := fnQueueTwoRow.holds Try.pinned (OpenSpec.ofChange fnQueueTwoSpec)

/-- ITS FALSE NEIGHBOUR: 'it returns false'. Refute it at one input. -/
def fnQueueTwoWrong : ChangeSpec := { name := "fnQueueTwo", fn := fun _ => fun
  | [d1, d2] => { results := [.lit (.bool false)], args := [d1, d2] }
  | _ => none }
def FnQueueTwoWrongFalsely : Prop := fnQueueTwoRow.holds Try.pinned (OpenSpec.ofChange fnQueueTwoWrong)

/-- 'laws.FnQueueTakeOthers': WHATEVER THE INPUT: true; the input reads as it did. -/
def fnQueueTakeOthersSpec : ChangeSpec := { name := "fnQueueTakeOthers", fn := fun _ => fun
  | [d1, d2] => { results := [.lit (.bool true)], args := [d1, d2] }
  | _ => none }
def fnQueueTakeOthersRow : OpenClaim := { program := "ytdikfkhblkapjaa", sum := "b0ef68c1b6e5eb35423d78f42ddc694b07a05fa585aa1f0f5431897e5c28a538", func := "loop.example/groupmulticast/laws.FnQueueTakeOthers", spec := "fnQueueTakeOthers", apart := false }
def FnQueueTakeOthersSaid : Prop := fnQueueTakeOthersRow.holds Try.pinned (OpenSpec.ofChange fnQueueTakeOthersSpec)

/-- ITS FALSE NEIGHBOUR: 'it returns false'. Refute it at one input. -/
def fnQueueTakeOthersWrong : ChangeSpec := { name := "fnQueueTakeOthers", fn := fun _ => fun
  | [d1, d2] => { results := [.lit (.bool false)], args := [d1, d2] }
  | _ => none }
def FnQueueTakeOthersWrongFalsely : Prop := fnQueueTakeOthersRow.holds Try.pinned (OpenSpec.ofChange fnQueueTakeOthersWrong)

/-- 'laws.FnExactQueuePut': WHATEVER THE INPUT: true; the input reads as it did. -/
def fnExactQueuePutSpec : ChangeSpec := { name := "fnExactQueuePut", fn := fun _ => fun
  | [d1, d2] => { results := [.lit (.bool true)], args := [d1, d2] }
  | _ => none }
def fnExactQueuePutRow : OpenClaim := { program := "ytdikfkhblkapjaa", sum := "b0ef68c1b6e5eb35423d78f42ddc694b07a05fa585aa1f0f5431897e5c28a538", func := "loop.example/groupmulticast/laws.FnExactQueuePut", spec := "fnExactQueuePut", apart := false }
def FnExactQueuePutSaid : Prop := fnExactQueuePutRow.holds Try.pinned (OpenSpec.ofChange fnExactQueuePutSpec)

/-- ITS FALSE NEIGHBOUR: 'it returns false'. Refute it at one input. -/
def fnExactQueuePutWrong : ChangeSpec := { name := "fnExactQueuePut", fn := fun _ => fun
  | [d1, d2] => { results := [.lit (.bool false)], args := [d1, d2] }
  | _ => none }
def FnExactQueuePutWrongFalsely : Prop := fnExactQueuePutRow.holds Try.pinned (OpenSpec.ofChange fnExactQueuePutWrong)

/-- 'laws.FnQueueTake': WHATEVER THE INPUT: true; the input reads as it did. -/
def fnQueueTakeSpec : ChangeSpec := { name := "fnQueueTake", fn := fun _ => fun
  | [d] => { results := [.lit (.bool true)], args := [d] }
  | _ => none }
def fnQueueTakeRow : OpenClaim := { program := "ytdikfkhblkapjaa", sum := "b0ef68c1b6e5eb35423d78f42ddc694b07a05fa585aa1f0f5431897e5c28a538", func := "loop.example/groupmulticast/laws.FnQueueTake", spec := "fnQueueTake", apart := false }
def FnQueueTakeSaid : Prop := fnQueueTakeRow.holds Try.pinned (OpenSpec.ofChange fnQueueTakeSpec)

/-- ITS FALSE NEIGHBOUR: 'it returns false'. Refute it at one input. -/
def fnQueueTakeWrong : ChangeSpec := { name := "fnQueueTake", fn := fun _ => fun
  | [d] => { results := [.lit (.bool false)], args := [d] }
  | _ => none }
def FnQueueTakeWrongFalsely : Prop := fnQueueTakeRow.holds Try.pinned (OpenSpec.ofChange fnQueueTakeWrong)

/-- 'laws.FnExactQueueTake': WHATEVER THE INPUT: true; the input reads as it did. -/
def fnExactQueueTakeSpec : ChangeSpec := { name := "fnExactQueueTake", fn := fun _ => fun
  | [d1, d2] => { results := [.lit (.bool true)], args := [d1, d2] }
  | _ => none }
def fnExactQueueTakeRow : OpenClaim := { program := "ytdikfkhblkapjaa", sum := "b0ef68c1b6e5eb35423d78f42ddc694b07a05fa585aa1f0f5431897e5c28a538", func := "loop.example/groupmulticast/laws.FnExactQueueTake", spec := "fnExactQueueTake", apart := false }
def FnExactQueueTakeSaid : Prop := fnExactQueueTakeRow.holds Try.pinned (OpenSpec.ofChange fnExactQueueTakeSpec)

/-- ITS FALSE NEIGHBOUR: 'it returns false'. Refute it at one input. -/
def fnExactQueueTakeWrong : ChangeSpec := { name := "fnExactQueueTake", fn := fun _ => fun
  | [d1, d2] => { results := [.lit (.bool false)], args := [d1, d2] }
  | _ => none }
def FnExactQueueTakeWrongFalsely : Prop := fnExactQueueTakeRow.holds Try.pinned (OpenSpec.ofChange fnExactQueueTakeWrong)

/- THE SECOND FORM. 'bulk': how many values and letters a reading holds, each counted each time it is reached (what is shared counts as often as it is met; a slice's spare places count too). A statement '..UptoSaid' is the law's where the arguments, and the package variables that the reading takes, are together of bulk at most 1048576: NARROWER than '..Said'. Prove '..Said' where nothing that the law and all that it calls make is longer than what came in: it says more and counts as full. Else prove '..UptoSaid'. A law counts once. -/
mutual
def uptoBulk {H : Type} : DataW H → Nat
  | .lit (.string bytes) => bytes.length + 1
  | .lit _ => 1
  | .nil => 1
  | .ptr d => uptoBulk d + 1
  | .slice elems spare => uptoBulkAll elems + uptoBulkAll spare + 1
  | .agg parts => uptoBulkAll parts + 1
  | .iface _ d => uptoBulk d + 1
  | .map entries => uptoBulkEntries entries + 1
  | .held _ => 1
def uptoBulkAll {H : Type} : List (DataW H) → Nat
  | [] => 0
  | d :: r => uptoBulk d + uptoBulkAll r
def uptoBulkEntries {H : Type} : List (Lit × DataW H) → Nat
  | [] => 0
  | x :: r => uptoBulkEntry x + uptoBulkEntries r
def uptoBulkEntry {H : Type} : Lit × DataW H → Nat
  | (.string bytes, d) => bytes.length + uptoBulk d + 1
  | (_, d) => uptoBulk d + 1
 end
def uptoSmall : (H : Type) → List (DataW H) → Bool := fun _ ds => decide (uptoBulkAll ds ≤ 1048576)
def OpenSpec.upto (s : _root_.Go.ChangeSpec) : _root_.Go.OpenSpec := { _root_.Go.OpenSpec.ofChange s with cond := some uptoSmall }

/-- 'laws.FnExactGuardCheck', WHERE WHAT IT READS IS OF BULK AT MOST 1048576: true; the input reads as it did. -/
def fnExactGuardCheckUptoRow : OpenClaim := { program := "ytdikfkhblkapjaa", sum := "b0ef68c1b6e5eb35423d78f42ddc694b07a05fa585aa1f0f5431897e5c28a538", func := "loop.example/groupmulticast/laws.FnExactGuardCheck", spec := "fnExactGuardCheck", apart := false, narrowed := true }
def FnExactGuardCheckUptoSaid : Prop := fnExactGuardCheckUptoRow.holds Try.pinned (OpenSpec.upto fnExactGuardCheckSpec)

/-- 'laws.FnGuard', WHERE WHAT IT READS IS OF BULK AT MOST 1048576: true; the input reads as it did. -/
def fnGuardUptoRow : OpenClaim := { program := "ytdikfkhblkapjaa", sum := "b0ef68c1b6e5eb35423d78f42ddc694b07a05fa585aa1f0f5431897e5c28a538", func := "loop.example/groupmulticast/laws.FnGuard", spec := "fnGuard", apart := false, narrowed := true }
def FnGuardUptoSaid : Prop := fnGuardUptoRow.holds Try.pinned (OpenSpec.upto fnGuardSpec)

/-- 'laws.FnExactQueueValid', WHERE WHAT IT READS IS OF BULK AT MOST 1048576: true; the input reads as it did. -/
def fnExactQueueValidUptoRow : OpenClaim := { program := "ytdikfkhblkapjaa", sum := "b0ef68c1b6e5eb35423d78f42ddc694b07a05fa585aa1f0f5431897e5c28a538", func := "loop.example/groupmulticast/laws.FnExactQueueValid", spec := "fnExactQueueValid", apart := false, narrowed := true }
def FnExactQueueValidUptoSaid : Prop := fnExactQueueValidUptoRow.holds Try.pinned (OpenSpec.upto fnExactQueueValidSpec)

/-- 'laws.FnQueueLeft', WHERE WHAT IT READS IS OF BULK AT MOST 1048576: true; the input reads as it did. -/
def fnQueueLeftUptoRow : OpenClaim := { program := "ytdikfkhblkapjaa", sum := "b0ef68c1b6e5eb35423d78f42ddc694b07a05fa585aa1f0f5431897e5c28a538", func := "loop.example/groupmulticast/laws.FnQueueLeft", spec := "fnQueueLeft", apart := false, narrowed := true }
def FnQueueLeftUptoSaid : Prop := fnQueueLeftUptoRow.holds Try.pinned (OpenSpec.upto fnQueueLeftSpec)

/-- 'laws.FnQueueOrder', WHERE WHAT IT READS IS OF BULK AT MOST 1048576: true; the input reads as it did. -/
def fnQueueOrderUptoRow : OpenClaim := { program := "ytdikfkhblkapjaa", sum := "b0ef68c1b6e5eb35423d78f42ddc694b07a05fa585aa1f0f5431897e5c28a538", func := "loop.example/groupmulticast/laws.FnQueueOrder", spec := "fnQueueOrder", apart := false, narrowed := true }
def FnQueueOrderUptoSaid : Prop := fnQueueOrderUptoRow.holds Try.pinned (OpenSpec.upto fnQueueOrderSpec)

/-- 'laws.FnQueuePutFull', WHERE WHAT IT READS IS OF BULK AT MOST 1048576: true; the input reads as it did. -/
def fnQueuePutFullUptoRow : OpenClaim := { program := "ytdikfkhblkapjaa", sum := "b0ef68c1b6e5eb35423d78f42ddc694b07a05fa585aa1f0f5431897e5c28a538", func := "loop.example/groupmulticast/laws.FnQueuePutFull", spec := "fnQueuePutFull", apart := false, narrowed := true }
def FnQueuePutFullUptoSaid : Prop := fnQueuePutFullUptoRow.holds Try.pinned (OpenSpec.upto fnQueuePutFullSpec)

/-- 'laws.FnQueueOnce', WHERE WHAT IT READS IS OF BULK AT MOST 1048576: true; the input reads as it did. -/
def fnQueueOnceUptoRow : OpenClaim := { program := "ytdikfkhblkapjaa", sum := "b0ef68c1b6e5eb35423d78f42ddc694b07a05fa585aa1f0f5431897e5c28a538", func := "loop.example/groupmulticast/laws.FnQueueOnce", spec := "fnQueueOnce", apart := false, narrowed := true }
def FnQueueOnceUptoSaid : Prop := fnQueueOnceUptoRow.holds Try.pinned (OpenSpec.upto fnQueueOnceSpec)

/-- 'laws.FnQueueAll', WHERE WHAT IT READS IS OF BULK AT MOST 1048576: true; the input reads as it did. -/
def fnQueueAllUptoRow : OpenClaim := { program := "ytdikfkhblkapjaa", sum := "b0ef68c1b6e5eb35423d78f42ddc694b07a05fa585aa1f0f5431897e5c28a538", func := "loop.example/groupmulticast/laws.FnQueueAll", spec := "fnQueueAll", apart := false, narrowed := true }
def FnQueueAllUptoSaid : Prop := fnQueueAllUptoRow.holds Try.pinned (OpenSpec.upto fnQueueAllSpec)

/-- 'laws.FnExactQueueOf', WHERE WHAT IT READS IS OF BULK AT MOST 1048576: true; the input reads as it did. -/
def fnExactQueueOfUptoRow : OpenClaim := { program := "ytdikfkhblkapjaa", sum := "b0ef68c1b6e5eb35423d78f42ddc694b07a05fa585aa1f0f5431897e5c28a538", func := "loop.example/groupmulticast/laws.FnExactQueueOf", spec := "fnExactQueueOf", apart := false, narrowed := true }
def FnExactQueueOfUptoSaid : Prop := fnExactQueueOfUptoRow.holds Try.pinned (OpenSpec.upto fnExactQueueOfSpec)

/-- 'laws.FnExactQueueLeft', WHERE WHAT IT READS IS OF BULK AT MOST 1048576: true; the input reads as it did. -/
def fnExactQueueLeftUptoRow : OpenClaim := { program := "ytdikfkhblkapjaa", sum := "b0ef68c1b6e5eb35423d78f42ddc694b07a05fa585aa1f0f5431897e5c28a538", func := "loop.example/groupmulticast/laws.FnExactQueueLeft", spec := "fnExactQueueLeft", apart := false, narrowed := true }
def FnExactQueueLeftUptoSaid : Prop := fnExactQueueLeftUptoRow.holds Try.pinned (OpenSpec.upto fnExactQueueLeftSpec)

/-- 'laws.FnQueuePut', WHERE WHAT IT READS IS OF BULK AT MOST 1048576: true; the input reads as it did. -/
def fnQueuePutUptoRow : OpenClaim := { program := "ytdikfkhblkapjaa", sum := "b0ef68c1b6e5eb35423d78f42ddc694b07a05fa585aa1f0f5431897e5c28a538", func := "loop.example/groupmulticast/laws.FnQueuePut", spec := "fnQueuePut", apart := false, narrowed := true }
def FnQueuePutUptoSaid : Prop := fnQueuePutUptoRow.holds Try.pinned (OpenSpec.upto fnQueuePutSpec)

/-- 'laws.FnQueueTakeEmpty', WHERE WHAT IT READS IS OF BULK AT MOST 1048576: true; the input reads as it did. -/
def fnQueueTakeEmptyUptoRow : OpenClaim := { program := "ytdikfkhblkapjaa", sum := "b0ef68c1b6e5eb35423d78f42ddc694b07a05fa585aa1f0f5431897e5c28a538", func := "loop.example/groupmulticast/laws.FnQueueTakeEmpty", spec := "fnQueueTakeEmpty", apart := false, narrowed := true }
def FnQueueTakeEmptyUptoSaid : Prop := fnQueueTakeEmptyUptoRow.holds Try.pinned (OpenSpec.upto fnQueueTakeEmptySpec)

/-- 'laws.FnQueueTwo', WHERE WHAT IT READS IS OF BULK AT MOST 1048576: true; the input reads as it did. -/
def fnQueueTwoUptoRow : OpenClaim := { program := "ytdikfkhblkapjaa", sum := "b0ef68c1b6e5eb35423d78f42ddc694b07a05fa585aa1f0f5431897e5c28a538", func := "loop.example/groupmulticast/laws.FnQueueTwo", spec := "fnQueueTwo", apart := false, narrowed := true }
def FnQueueTwoUptoSaid : Prop := fnQueueTwoUptoRow.holds Try.pinned (OpenSpec.upto fnQueueTwoSpec)

/-- 'laws.FnQueueTakeOthers', WHERE WHAT IT READS IS OF BULK AT MOST 1048576: true; the input reads as it did. -/
def fnQueueTakeOthersUptoRow : OpenClaim := { program := "ytdikfkhblkapjaa", sum := "b0ef68c1b6e5eb35423d78f42ddc694b07a05fa585aa1f0f5431897e5c28a538", func := "loop.example/groupmulticast/laws.FnQueueTakeOthers", spec := "fnQueueTakeOthers", apart := false, narrowed := true }
def FnQueueTakeOthersUptoSaid : Prop := fnQueueTakeOthersUptoRow.holds Try.pinned (OpenSpec.upto fnQueueTakeOthersSpec)

/-- 'laws.FnExactQueuePut', WHERE WHAT IT READS IS OF BULK AT MOST 1048576: true; the input reads as it did. -/
def fnExactQueuePutUptoRow : OpenClaim := { program := "ytdikfkhblkapjaa", sum := "b0ef68c1b6e5eb35423d78f42ddc694b07a05fa585aa1f0f5431897e5c28a538", func := "loop.example/groupmulticast/laws.FnExactQueuePut", spec := "fnExactQueuePut", apart := false, narrowed := true }
def FnExactQueuePutUptoSaid : Prop := fnExactQueuePutUptoRow.holds Try.pinned (OpenSpec.upto fnExactQueuePutSpec)

/-- 'laws.FnQueueTake', WHERE WHAT IT READS IS OF BULK AT MOST 1048576: true; the input reads as it did. -/
def fnQueueTakeUptoRow : OpenClaim := { program := "ytdikfkhblkapjaa", sum := "b0ef68c1b6e5eb35423d78f42ddc694b07a05fa585aa1f0f5431897e5c28a538", func := "loop.example/groupmulticast/laws.FnQueueTake", spec := "fnQueueTake", apart := false, narrowed := true }
def FnQueueTakeUptoSaid : Prop := fnQueueTakeUptoRow.holds Try.pinned (OpenSpec.upto fnQueueTakeSpec)

/-- 'laws.FnExactQueueTake', WHERE WHAT IT READS IS OF BULK AT MOST 1048576: true; the input reads as it did. -/
def fnExactQueueTakeUptoRow : OpenClaim := { program := "ytdikfkhblkapjaa", sum := "b0ef68c1b6e5eb35423d78f42ddc694b07a05fa585aa1f0f5431897e5c28a538", func := "loop.example/groupmulticast/laws.FnExactQueueTake", spec := "fnExactQueueTake", apart := false, narrowed := true }
def FnExactQueueTakeUptoSaid : Prop := fnExactQueueTakeUptoRow.holds Try.pinned (OpenSpec.upto fnExactQueueTakeSpec)

end Rows
end Go.Proofs.Ytdikfkhblkapjaa
