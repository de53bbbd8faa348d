/-
  No cell of these rows narrows 'for every input' (looked for: loops, veiled, ifaces, maps, wideKeys, modest, calm, conditions, laid).
  DERIVED. THE GIVEN ROWS OF THIS SEAT. 22 by the template 'for every input the law returns true; each argument reads behind the call as it read before'; 0 by the template 'total and deterministic' (their statements: YtaelaldgohppeaaTotals.lean).
  GIVEN WITH THE SEED: the statements are not yours to turn. If you find one false, say at which input.
  Laid BY PROGRAM, IN A SANDBOX (cutbox-rows.mjs): the forced cells as the released guide's own fill.sh prints them over the translation b5af30ff1aa6cc17… (all of the seat's roots in one cut). By AI agents, Wed Nov 11 2026. No macro, syntax, notation, axiom, sorry.
-/
import Derived.Test.YtaelaldgohppeaaChecked
import GoSem.Claim
import GoSem.ClaimJoined
import GoSem.ClaimMapViews
import Derived.JoinedTies
import Derived.KernelRfl
namespace Go.Proofs.Ytaelaldgohppeaa
/- THE CELL 'sum', in the pinned program and in every row, IS THE sha256 OF THE DUMP (.gsa) THAT YtaelaldgohppeaaProg.lean LOADS. Nothing in Lean hashes anything: it is a label: what it is worth is what the hold of that sum in a sandbox is worth. -/
noncomputable def Try.pinned : Pinned := { name := "ytaelaldgohppeaa", sum := "b5af30ff1aa6cc1797b6aa2eebbfb2e65c47747e8edb97d2d905dda6291a8dcb", checked := Try.checked }
namespace Rows
def none {H : Type} : Left H := { results := [], args := [] }

/-- 'laws.FnExactStoreValid': WHATEVER THE INPUT: true; the input reads as it did. -/
def fnExactStoreValidSpec : ChangeSpec := { name := "fnExactStoreValid", fn := fun _ => fun
  | [d] => { results := [.lit (.bool true)], args := [d] }
  | _ => none }
def fnExactStoreValidRow : OpenClaim := { program := "ytaelaldgohppeaa", sum := "b5af30ff1aa6cc1797b6aa2eebbfb2e65c47747e8edb97d2d905dda6291a8dcb", func := "loop.example/groupmulticast/laws.FnExactStoreValid", spec := "fnExactStoreValid", apart := false }
def FnExactStoreValidSaid : Prop := fnExactStoreValidRow.holds Try.pinned (OpenSpec.ofChange fnExactStoreValidSpec)

/-- ITS FALSE NEIGHBOUR: 'it returns false'. Refute it at one input. -/
def fnExactStoreValidWrong : ChangeSpec := { name := "fnExactStoreValid", fn := fun _ => fun
  | [d] => { results := [.lit (.bool false)], args := [d] }
  | _ => none }
def FnExactStoreValidWrongFalsely : Prop := fnExactStoreValidRow.holds Try.pinned (OpenSpec.ofChange fnExactStoreValidWrong)

/-- 'laws.FnExactStorePart': WHATEVER THE INPUT: true; the input reads as it did. -/
def fnExactStorePartSpec : ChangeSpec := { name := "fnExactStorePart", fn := fun _ => fun
  | [d1, d2] => { results := [.lit (.bool true)], args := [d1, d2] }
  | _ => none }
def fnExactStorePartRow : OpenClaim := { program := "ytaelaldgohppeaa", sum := "b5af30ff1aa6cc1797b6aa2eebbfb2e65c47747e8edb97d2d905dda6291a8dcb", func := "loop.example/groupmulticast/laws.FnExactStorePart", spec := "fnExactStorePart", apart := false }
def FnExactStorePartSaid : Prop := fnExactStorePartRow.holds Try.pinned (OpenSpec.ofChange fnExactStorePartSpec)

/-- ITS FALSE NEIGHBOUR: 'it returns false'. Refute it at one input. -/
def fnExactStorePartWrong : ChangeSpec := { name := "fnExactStorePart", fn := fun _ => fun
  | [d1, d2] => { results := [.lit (.bool false)], args := [d1, d2] }
  | _ => none }
def FnExactStorePartWrongFalsely : Prop := fnExactStorePartRow.holds Try.pinned (OpenSpec.ofChange fnExactStorePartWrong)

/-- 'laws.FnStoreParts': WHATEVER THE INPUT: true; the input reads as it did. -/
def fnStorePartsSpec : ChangeSpec := { name := "fnStoreParts", fn := fun _ => fun
  | [d] => { results := [.lit (.bool true)], args := [d] }
  | _ => none }
def fnStorePartsRow : OpenClaim := { program := "ytaelaldgohppeaa", sum := "b5af30ff1aa6cc1797b6aa2eebbfb2e65c47747e8edb97d2d905dda6291a8dcb", func := "loop.example/groupmulticast/laws.FnStoreParts", spec := "fnStoreParts", apart := false }
def FnStorePartsSaid : Prop := fnStorePartsRow.holds Try.pinned (OpenSpec.ofChange fnStorePartsSpec)

/-- ITS FALSE NEIGHBOUR: 'it returns false'. Refute it at one input. -/
def fnStorePartsWrong : ChangeSpec := { name := "fnStoreParts", fn := fun _ => fun
  | [d] => { results := [.lit (.bool false)], args := [d] }
  | _ => none }
def FnStorePartsWrongFalsely : Prop := fnStorePartsRow.holds Try.pinned (OpenSpec.ofChange fnStorePartsWrong)

/-- 'laws.FnExactStoreJoin': WHATEVER THE INPUT: true; the input reads as it did. -/
def fnExactStoreJoinSpec : ChangeSpec := { name := "fnExactStoreJoin", fn := fun _ => fun
  | [d] => { results := [.lit (.bool true)], args := [d] }
  | _ => none }
def fnExactStoreJoinRow : OpenClaim := { program := "ytaelaldgohppeaa", sum := "b5af30ff1aa6cc1797b6aa2eebbfb2e65c47747e8edb97d2d905dda6291a8dcb", func := "loop.example/groupmulticast/laws.FnExactStoreJoin", spec := "fnExactStoreJoin", apart := false }
def FnExactStoreJoinSaid : Prop := fnExactStoreJoinRow.holds Try.pinned (OpenSpec.ofChange fnExactStoreJoinSpec)

/-- ITS FALSE NEIGHBOUR: 'it returns false'. Refute it at one input. -/
def fnExactStoreJoinWrong : ChangeSpec := { name := "fnExactStoreJoin", fn := fun _ => fun
  | [d] => { results := [.lit (.bool false)], args := [d] }
  | _ => none }
def FnExactStoreJoinWrongFalsely : Prop := fnExactStoreJoinRow.holds Try.pinned (OpenSpec.ofChange fnExactStoreJoinWrong)

/-- 'laws.FnStoreJoin': WHATEVER THE INPUT: true; the input reads as it did. -/
def fnStoreJoinSpec : ChangeSpec := { name := "fnStoreJoin", fn := fun _ => fun
  | [d] => { results := [.lit (.bool true)], args := [d] }
  | _ => none }
def fnStoreJoinRow : OpenClaim := { program := "ytaelaldgohppeaa", sum := "b5af30ff1aa6cc1797b6aa2eebbfb2e65c47747e8edb97d2d905dda6291a8dcb", func := "loop.example/groupmulticast/laws.FnStoreJoin", spec := "fnStoreJoin", apart := false }
def FnStoreJoinSaid : Prop := fnStoreJoinRow.holds Try.pinned (OpenSpec.ofChange fnStoreJoinSpec)

/-- ITS FALSE NEIGHBOUR: 'it returns false'. Refute it at one input. -/
def fnStoreJoinWrong : ChangeSpec := { name := "fnStoreJoin", fn := fun _ => fun
  | [d] => { results := [.lit (.bool false)], args := [d] }
  | _ => none }
def FnStoreJoinWrongFalsely : Prop := fnStoreJoinRow.holds Try.pinned (OpenSpec.ofChange fnStoreJoinWrong)

/-- 'laws.FnExactTxnValid': WHATEVER THE INPUT: true; the input reads as it did. -/
def fnExactTxnValidSpec : ChangeSpec := { name := "fnExactTxnValid", fn := fun _ => fun
  | [d] => { results := [.lit (.bool true)], args := [d] }
  | _ => none }
def fnExactTxnValidRow : OpenClaim := { program := "ytaelaldgohppeaa", sum := "b5af30ff1aa6cc1797b6aa2eebbfb2e65c47747e8edb97d2d905dda6291a8dcb", func := "loop.example/groupmulticast/laws.FnExactTxnValid", spec := "fnExactTxnValid", apart := false }
def FnExactTxnValidSaid : Prop := fnExactTxnValidRow.holds Try.pinned (OpenSpec.ofChange fnExactTxnValidSpec)

/-- ITS FALSE NEIGHBOUR: 'it returns false'. Refute it at one input. -/
def fnExactTxnValidWrong : ChangeSpec := { name := "fnExactTxnValid", fn := fun _ => fun
  | [d] => { results := [.lit (.bool false)], args := [d] }
  | _ => none }
def FnExactTxnValidWrongFalsely : Prop := fnExactTxnValidRow.holds Try.pinned (OpenSpec.ofChange fnExactTxnValidWrong)

/-- 'laws.FnTxnGroups': WHATEVER THE INPUT: true; the input reads as it did. -/
def fnTxnGroupsSpec : ChangeSpec := { name := "fnTxnGroups", fn := fun _ => fun
  | [d] => { results := [.lit (.bool true)], args := [d] }
  | _ => none }
def fnTxnGroupsRow : OpenClaim := { program := "ytaelaldgohppeaa", sum := "b5af30ff1aa6cc1797b6aa2eebbfb2e65c47747e8edb97d2d905dda6291a8dcb", func := "loop.example/groupmulticast/laws.FnTxnGroups", spec := "fnTxnGroups", unfollowed := true, recurses := true, apart := false }
def FnTxnGroupsSaid : Prop := fnTxnGroupsRow.holds Try.pinned (OpenSpec.ofChange fnTxnGroupsSpec)

/-- ITS FALSE NEIGHBOUR: 'it returns false'. Refute it at one input. -/
def fnTxnGroupsWrong : ChangeSpec := { name := "fnTxnGroups", fn := fun _ => fun
  | [d] => { results := [.lit (.bool false)], args := [d] }
  | _ => none }
def FnTxnGroupsWrongFalsely : Prop := fnTxnGroupsRow.holds Try.pinned (OpenSpec.ofChange fnTxnGroupsWrong)

/-- 'laws.FnTxnApply': WHATEVER THE INPUT: true; the input reads as it did. -/
def fnTxnApplySpec : ChangeSpec := { name := "fnTxnApply", fn := fun _ => fun
  | [d] => { results := [.lit (.bool true)], args := [d] }
  | _ => none }
def fnTxnApplyRow : OpenClaim := { program := "ytaelaldgohppeaa", sum := "b5af30ff1aa6cc1797b6aa2eebbfb2e65c47747e8edb97d2d905dda6291a8dcb", func := "loop.example/groupmulticast/laws.FnTxnApply", spec := "fnTxnApply", unfollowed := true, recurses := true, apart := false }
def FnTxnApplySaid : Prop := fnTxnApplyRow.holds Try.pinned (OpenSpec.ofChange fnTxnApplySpec)

/-- ITS FALSE NEIGHBOUR: 'it returns false'. Refute it at one input. -/
def fnTxnApplyWrong : ChangeSpec := { name := "fnTxnApply", fn := fun _ => fun
  | [d] => { results := [.lit (.bool false)], args := [d] }
  | _ => none }
def FnTxnApplyWrongFalsely : Prop := fnTxnApplyRow.holds Try.pinned (OpenSpec.ofChange fnTxnApplyWrong)

/-- 'laws.FnTxnBack': WHATEVER THE INPUT: true; the input reads as it did. -/
def fnTxnBackSpec : ChangeSpec := { name := "fnTxnBack", fn := fun _ => fun
  | [d] => { results := [.lit (.bool true)], args := [d] }
  | _ => none }
def fnTxnBackRow : OpenClaim := { program := "ytaelaldgohppeaa", sum := "b5af30ff1aa6cc1797b6aa2eebbfb2e65c47747e8edb97d2d905dda6291a8dcb", func := "loop.example/groupmulticast/laws.FnTxnBack", spec := "fnTxnBack", unfollowed := true, recurses := true, apart := false }
def FnTxnBackSaid : Prop := fnTxnBackRow.holds Try.pinned (OpenSpec.ofChange fnTxnBackSpec)

/-- ITS FALSE NEIGHBOUR: 'it returns false'. Refute it at one input. -/
def fnTxnBackWrong : ChangeSpec := { name := "fnTxnBack", fn := fun _ => fun
  | [d] => { results := [.lit (.bool false)], args := [d] }
  | _ => none }
def FnTxnBackWrongFalsely : Prop := fnTxnBackRow.holds Try.pinned (OpenSpec.ofChange fnTxnBackWrong)

/-- 'laws.FnTxnFail': WHATEVER THE INPUT: true; the input reads as it did. -/
def fnTxnFailSpec : ChangeSpec := { name := "fnTxnFail", fn := fun _ => fun
  | [d] => { results := [.lit (.bool true)], args := [d] }
  | _ => none }
def fnTxnFailRow : OpenClaim := { program := "ytaelaldgohppeaa", sum := "b5af30ff1aa6cc1797b6aa2eebbfb2e65c47747e8edb97d2d905dda6291a8dcb", func := "loop.example/groupmulticast/laws.FnTxnFail", spec := "fnTxnFail", unfollowed := true, recurses := true, apart := false }
def FnTxnFailSaid : Prop := fnTxnFailRow.holds Try.pinned (OpenSpec.ofChange fnTxnFailSpec)

/-- ITS FALSE NEIGHBOUR: 'it returns false'. Refute it at one input. -/
def fnTxnFailWrong : ChangeSpec := { name := "fnTxnFail", fn := fun _ => fun
  | [d] => { results := [.lit (.bool false)], args := [d] }
  | _ => none }
def FnTxnFailWrongFalsely : Prop := fnTxnFailRow.holds Try.pinned (OpenSpec.ofChange fnTxnFailWrong)

/-- 'laws.FnTxnNeed': WHATEVER THE INPUT: true; the input reads as it did. -/
def fnTxnNeedSpec : ChangeSpec := { name := "fnTxnNeed", fn := fun _ => fun
  | [d] => { results := [.lit (.bool true)], args := [d] }
  | _ => none }
def fnTxnNeedRow : OpenClaim := { program := "ytaelaldgohppeaa", sum := "b5af30ff1aa6cc1797b6aa2eebbfb2e65c47747e8edb97d2d905dda6291a8dcb", func := "loop.example/groupmulticast/laws.FnTxnNeed", spec := "fnTxnNeed", unfollowed := true, recurses := true, apart := false }
def FnTxnNeedSaid : Prop := fnTxnNeedRow.holds Try.pinned (OpenSpec.ofChange fnTxnNeedSpec)

/-- ITS FALSE NEIGHBOUR: 'it returns false'. Refute it at one input. -/
def fnTxnNeedWrong : ChangeSpec := { name := "fnTxnNeed", fn := fun _ => fun
  | [d] => { results := [.lit (.bool false)], args := [d] }
  | _ => none }
def FnTxnNeedWrongFalsely : Prop := fnTxnNeedRow.holds Try.pinned (OpenSpec.ofChange fnTxnNeedWrong)

/-- 'laws.FnTxnPart': WHATEVER THE INPUT: true; the input reads as it did. -/
def fnTxnPartSpec : ChangeSpec := { name := "fnTxnPart", fn := fun _ => fun
  | [d1, d2] => { results := [.lit (.bool true)], args := [d1, d2] }
  | _ => none }
def fnTxnPartRow : OpenClaim := { program := "ytaelaldgohppeaa", sum := "b5af30ff1aa6cc1797b6aa2eebbfb2e65c47747e8edb97d2d905dda6291a8dcb", func := "loop.example/groupmulticast/laws.FnTxnPart", spec := "fnTxnPart", unfollowed := true, recurses := true, apart := false }
def FnTxnPartSaid : Prop := fnTxnPartRow.holds Try.pinned (OpenSpec.ofChange fnTxnPartSpec)

/-- ITS FALSE NEIGHBOUR: 'it returns false'. Refute it at one input. -/
def fnTxnPartWrong : ChangeSpec := { name := "fnTxnPart", fn := fun _ => fun
  | [d1, d2] => { results := [.lit (.bool false)], args := [d1, d2] }
  | _ => none }
def FnTxnPartWrongFalsely : Prop := fnTxnPartRow.holds Try.pinned (OpenSpec.ofChange fnTxnPartWrong)

/-- 'laws.FnTxnRead': WHATEVER THE INPUT: true; the input reads as it did. -/
def fnTxnReadSpec : ChangeSpec := { name := "fnTxnRead", fn := fun _ => fun
  | [d] => { results := [.lit (.bool true)], args := [d] }
  | _ => none }
def fnTxnReadRow : OpenClaim := { program := "ytaelaldgohppeaa", sum := "b5af30ff1aa6cc1797b6aa2eebbfb2e65c47747e8edb97d2d905dda6291a8dcb", func := "loop.example/groupmulticast/laws.FnTxnRead", spec := "fnTxnRead", unfollowed := true, recurses := true, apart := false }
def FnTxnReadSaid : Prop := fnTxnReadRow.holds Try.pinned (OpenSpec.ofChange fnTxnReadSpec)

/-- ITS FALSE NEIGHBOUR: 'it returns false'. Refute it at one input. -/
def fnTxnReadWrong : ChangeSpec := { name := "fnTxnRead", fn := fun _ => fun
  | [d] => { results := [.lit (.bool false)], args := [d] }
  | _ => none }
def FnTxnReadWrongFalsely : Prop := fnTxnReadRow.holds Try.pinned (OpenSpec.ofChange fnTxnReadWrong)

/-- 'laws.FnTxnCommute': WHATEVER THE INPUT: true; the input reads as it did. -/
def fnTxnCommuteSpec : ChangeSpec := { name := "fnTxnCommute", fn := fun _ => fun
  | [d1, d2] => { results := [.lit (.bool true)], args := [d1, d2] }
  | _ => none }
def fnTxnCommuteRow : OpenClaim := { program := "ytaelaldgohppeaa", sum := "b5af30ff1aa6cc1797b6aa2eebbfb2e65c47747e8edb97d2d905dda6291a8dcb", func := "loop.example/groupmulticast/laws.FnTxnCommute", spec := "fnTxnCommute", unfollowed := true, recurses := true, apart := false }
def FnTxnCommuteSaid : Prop := fnTxnCommuteRow.holds Try.pinned (OpenSpec.ofChange fnTxnCommuteSpec)

/-- ITS FALSE NEIGHBOUR: 'it returns false'. Refute it at one input. -/
def fnTxnCommuteWrong : ChangeSpec := { name := "fnTxnCommute", fn := fun _ => fun
  | [d1, d2] => { results := [.lit (.bool false)], args := [d1, d2] }
  | _ => none }
def FnTxnCommuteWrongFalsely : Prop := fnTxnCommuteRow.holds Try.pinned (OpenSpec.ofChange fnTxnCommuteWrong)

/-- 'laws.FnTxnLocal': WHATEVER THE INPUT: true; the input reads as it did. -/
def fnTxnLocalSpec : ChangeSpec := { name := "fnTxnLocal", fn := fun _ => fun
  | [d] => { results := [.lit (.bool true)], args := [d] }
  | _ => none }
def fnTxnLocalRow : OpenClaim := { program := "ytaelaldgohppeaa", sum := "b5af30ff1aa6cc1797b6aa2eebbfb2e65c47747e8edb97d2d905dda6291a8dcb", func := "loop.example/groupmulticast/laws.FnTxnLocal", spec := "fnTxnLocal", unfollowed := true, recurses := true, apart := false }
def FnTxnLocalSaid : Prop := fnTxnLocalRow.holds Try.pinned (OpenSpec.ofChange fnTxnLocalSpec)

/-- ITS FALSE NEIGHBOUR: 'it returns false'. Refute it at one input. -/
def fnTxnLocalWrong : ChangeSpec := { name := "fnTxnLocal", fn := fun _ => fun
  | [d] => { results := [.lit (.bool false)], args := [d] }
  | _ => none }
def FnTxnLocalWrongFalsely : Prop := fnTxnLocalRow.holds Try.pinned (OpenSpec.ofChange fnTxnLocalWrong)

/-- 'laws.FnStoreFailed': WHATEVER THE INPUT: true; the input reads as it did. -/
def fnStoreFailedSpec : ChangeSpec := { name := "fnStoreFailed", fn := fun _ => fun
  | [d] => { results := [.lit (.bool true)], args := [d] }
  | _ => none }
def fnStoreFailedRow : OpenClaim := { program := "ytaelaldgohppeaa", sum := "b5af30ff1aa6cc1797b6aa2eebbfb2e65c47747e8edb97d2d905dda6291a8dcb", func := "loop.example/groupmulticast/laws.FnStoreFailed", spec := "fnStoreFailed", unfollowed := true, recurses := true, apart := false }
def FnStoreFailedSaid : Prop := fnStoreFailedRow.holds Try.pinned (OpenSpec.ofChange fnStoreFailedSpec)

/-- ITS FALSE NEIGHBOUR: 'it returns false'. Refute it at one input. -/
def fnStoreFailedWrong : ChangeSpec := { name := "fnStoreFailed", fn := fun _ => fun
  | [d] => { results := [.lit (.bool false)], args := [d] }
  | _ => none }
def FnStoreFailedWrongFalsely : Prop := fnStoreFailedRow.holds Try.pinned (OpenSpec.ofChange fnStoreFailedWrong)

/-- 'laws.FnStoreRunParts': WHATEVER THE INPUT: true; the input reads as it did. -/
def fnStoreRunPartsSpec : ChangeSpec := { name := "fnStoreRunParts", fn := fun _ => fun
  | [d1, d2] => { results := [.lit (.bool true)], args := [d1, d2] }
  | _ => none }
def fnStoreRunPartsRow : OpenClaim := { program := "ytaelaldgohppeaa", sum := "b5af30ff1aa6cc1797b6aa2eebbfb2e65c47747e8edb97d2d905dda6291a8dcb", func := "loop.example/groupmulticast/laws.FnStoreRunParts", spec := "fnStoreRunParts", unfollowed := true, recurses := true, apart := false }
def FnStoreRunPartsSaid : Prop := fnStoreRunPartsRow.holds Try.pinned (OpenSpec.ofChange fnStoreRunPartsSpec)

/-- ITS FALSE NEIGHBOUR: 'it returns false'. Refute it at one input. -/
def fnStoreRunPartsWrong : ChangeSpec := { name := "fnStoreRunParts", fn := fun _ => fun
  | [d1, d2] => { results := [.lit (.bool false)], args := [d1, d2] }
  | _ => none }
def FnStoreRunPartsWrongFalsely : Prop := fnStoreRunPartsRow.holds Try.pinned (OpenSpec.ofChange fnStoreRunPartsWrong)

/-- 'laws.FnStoreRun': WHATEVER THE INPUT: true; the input reads as it did. -/
def fnStoreRunSpec : ChangeSpec := { name := "fnStoreRun", fn := fun _ => fun
  | [d] => { results := [.lit (.bool true)], args := [d] }
  | _ => none }
def fnStoreRunRow : OpenClaim := { program := "ytaelaldgohppeaa", sum := "b5af30ff1aa6cc1797b6aa2eebbfb2e65c47747e8edb97d2d905dda6291a8dcb", func := "loop.example/groupmulticast/laws.FnStoreRun", spec := "fnStoreRun", unfollowed := true, recurses := true, apart := false }
def FnStoreRunSaid : Prop := fnStoreRunRow.holds Try.pinned (OpenSpec.ofChange fnStoreRunSpec)

/-- ITS FALSE NEIGHBOUR: 'it returns false'. Refute it at one input. -/
def fnStoreRunWrong : ChangeSpec := { name := "fnStoreRun", fn := fun _ => fun
  | [d] => { results := [.lit (.bool false)], args := [d] }
  | _ => none }
def FnStoreRunWrongFalsely : Prop := fnStoreRunRow.holds Try.pinned (OpenSpec.ofChange fnStoreRunWrong)

/-- 'laws.FnExactTxnGroups': WHATEVER THE INPUT: true; the input reads as it did. -/
def fnExactTxnGroupsSpec : ChangeSpec := { name := "fnExactTxnGroups", fn := fun _ => fun
  | [d] => { results := [.lit (.bool true)], args := [d] }
  | _ => none }
def fnExactTxnGroupsRow : OpenClaim := { program := "ytaelaldgohppeaa", sum := "b5af30ff1aa6cc1797b6aa2eebbfb2e65c47747e8edb97d2d905dda6291a8dcb", func := "loop.example/groupmulticast/laws.FnExactTxnGroups", spec := "fnExactTxnGroups", unfollowed := true, recurses := true, apart := false }
def FnExactTxnGroupsSaid : Prop := fnExactTxnGroupsRow.holds Try.pinned (OpenSpec.ofChange fnExactTxnGroupsSpec)

/-- ITS FALSE NEIGHBOUR: 'it returns false'. Refute it at one input. -/
def fnExactTxnGroupsWrong : ChangeSpec := { name := "fnExactTxnGroups", fn := fun _ => fun
  | [d] => { results := [.lit (.bool false)], args := [d] }
  | _ => none }
def FnExactTxnGroupsWrongFalsely : Prop := fnExactTxnGroupsRow.holds Try.pinned (OpenSpec.ofChange fnExactTxnGroupsWrong)

/-- 'laws.FnExactTxnApply': WHATEVER THE INPUT: true; the input reads as it did. -/
def fnExactTxnApplySpec : ChangeSpec := { name := "fnExactTxnApply", fn := fun _ => fun
  | [d1, d2] => { results := [.lit (.bool true)], args := [d1, d2] }
  | _ => none }
def fnExactTxnApplyRow : OpenClaim := { program := "ytaelaldgohppeaa", sum := "b5af30ff1aa6cc1797b6aa2eebbfb2e65c47747e8edb97d2d905dda6291a8dcb", func := "loop.example/groupmulticast/laws.FnExactTxnApply", spec := "fnExactTxnApply", unfollowed := true, recurses := true, apart := false }
def FnExactTxnApplySaid : Prop := fnExactTxnApplyRow.holds Try.pinned (OpenSpec.ofChange fnExactTxnApplySpec)

/-- ITS FALSE NEIGHBOUR: 'it returns false'. Refute it at one input. -/
def fnExactTxnApplyWrong : ChangeSpec := { name := "fnExactTxnApply", fn := fun _ => fun
  | [d1, d2] => { results := [.lit (.bool false)], args := [d1, d2] }
  | _ => none }
def FnExactTxnApplyWrongFalsely : Prop := fnExactTxnApplyRow.holds Try.pinned (OpenSpec.ofChange fnExactTxnApplyWrong)

/-- 'laws.FnStoreMerge': WHATEVER THE INPUT: true; the input reads as it did. -/
def fnStoreMergeSpec : ChangeSpec := { name := "fnStoreMerge", fn := fun _ => fun
  | [d1, d2] => { results := [.lit (.bool true)], args := [d1, d2] }
  | _ => none }
def fnStoreMergeRow : OpenClaim := { program := "ytaelaldgohppeaa", sum := "b5af30ff1aa6cc1797b6aa2eebbfb2e65c47747e8edb97d2d905dda6291a8dcb", func := "loop.example/groupmulticast/laws.FnStoreMerge", spec := "fnStoreMerge", unfollowed := true, recurses := true, apart := false }
def FnStoreMergeSaid : Prop := fnStoreMergeRow.holds Try.pinned (OpenSpec.ofChange fnStoreMergeSpec)

/-- ITS FALSE NEIGHBOUR: 'it returns false'. Refute it at one input. -/
def fnStoreMergeWrong : ChangeSpec := { name := "fnStoreMerge", fn := fun _ => fun
  | [d1, d2] => { results := [.lit (.bool false)], args := [d1, d2] }
  | _ => none }
def FnStoreMergeWrongFalsely : Prop := fnStoreMergeRow.holds Try.pinned (OpenSpec.ofChange fnStoreMergeWrong)

/-- 'laws.FnExactStoreRun': WHATEVER THE INPUT: true; the input reads as it did. -/
def fnExactStoreRunSpec : ChangeSpec := { name := "fnExactStoreRun", fn := fun _ => fun
  | [d1, d2] => { results := [.lit (.bool true)], args := [d1, d2] }
  | _ => none }
def fnExactStoreRunRow : OpenClaim := { program := "ytaelaldgohppeaa", sum := "b5af30ff1aa6cc1797b6aa2eebbfb2e65c47747e8edb97d2d905dda6291a8dcb", func := "loop.example/groupmulticast/laws.FnExactStoreRun", spec := "fnExactStoreRun", unfollowed := true, recurses := true, apart := false }
def FnExactStoreRunSaid : Prop := fnExactStoreRunRow.holds Try.pinned (OpenSpec.ofChange fnExactStoreRunSpec)

/-- ITS FALSE NEIGHBOUR: 'it returns false'. Refute it at one input. -/
def fnExactStoreRunWrong : ChangeSpec := { name := "fnExactStoreRun", fn := fun _ => fun
  | [d1, d2] => { results := [.lit (.bool false)], args := [d1, d2] }
  | _ => none }
def FnExactStoreRunWrongFalsely : Prop := fnExactStoreRunRow.holds Try.pinned (OpenSpec.ofChange fnExactStoreRunWrong)

/- THE SECOND FORM. 'bulk': how many values and letters a reading holds, each counted each time it is reached (what is shared counts as often as it is met; a slice's spare places count too). A statement '..UptoSaid' is the law's where the arguments, and the package variables that the reading takes, are together of bulk at most 1048576: NARROWER than '..Said'. Prove '..Said' where nothing that the law and all that it calls make is longer than what came in: it says more and counts as full. Else prove '..UptoSaid'. A law counts once. -/
mutual
def uptoBulk {H : Type} : DataW H → Nat
  | .lit (.string bytes) => bytes.length + 1
  | .lit _ => 1
  | .nil => 1
  | .ptr d => uptoBulk d + 1
  | .slice elems spare => uptoBulkAll elems + uptoBulkAll spare + 1
  | .agg parts => uptoBulkAll parts + 1
  | .iface _ d => uptoBulk d + 1
  | .map entries => uptoBulkEntries entries + 1
  | .held _ => 1
def uptoBulkAll {H : Type} : List (DataW H) → Nat
  | [] => 0
  | d :: r => uptoBulk d + uptoBulkAll r
def uptoBulkEntries {H : Type} : List (Lit × DataW H) → Nat
  | [] => 0
  | x :: r => uptoBulkEntry x + uptoBulkEntries r
def uptoBulkEntry {H : Type} : Lit × DataW H → Nat
  | (.string bytes, d) => bytes.length + uptoBulk d + 1
  | (_, d) => uptoBulk d + 1
 end
def uptoSmall : (H : Type) → List (DataW H) → Bool := fun _ ds => decide (uptoBulkAll ds ≤ 1048576)
def OpenSpec.upto (s : _root_.Go.ChangeSpec) : _root_.Go.OpenSpec := { _root_.Go.OpenSpec.ofChange s with cond := some uptoSmall }

/-- 'laws.FnExactStoreValid', WHERE WHAT IT READS IS OF BULK AT MOST 1048576: true; the input reads as it did. -/
def fnExactStoreValidUptoRow : OpenClaim := { program := "ytaelaldgohppeaa", sum := "b5af30ff1aa6cc1797b6aa2eebbfb2e65c47747e8edb97d2d905dda6291a8dcb", func := "loop.example/groupmulticast/laws.FnExactStoreValid", spec := "fnExactStoreValid", apart := false, narrowed := true }
def FnExactStoreValidUptoSaid : Prop := fnExactStoreValidUptoRow.holds Try.pinned (OpenSpec.upto fnExactStoreValidSpec)

/-- 'laws.FnExactStorePart', WHERE WHAT IT READS IS OF BULK AT MOST 1048576: true; the input reads as it did. -/
def fnExactStorePartUptoRow : OpenClaim := { program := "ytaelaldgohppeaa", sum := "b5af30ff1aa6cc1797b6aa2eebbfb2e65c47747e8edb97d2d905dda6291a8dcb", func := "loop.example/groupmulticast/laws.FnExactStorePart", spec := "fnExactStorePart", apart := false, narrowed := true }
def FnExactStorePartUptoSaid : Prop := fnExactStorePartUptoRow.holds Try.pinned (OpenSpec.upto fnExactStorePartSpec)

/-- 'laws.FnStoreParts', WHERE WHAT IT READS IS OF BULK AT MOST 1048576: true; the input reads as it did. -/
def fnStorePartsUptoRow : OpenClaim := { program := "ytaelaldgohppeaa", sum := "b5af30ff1aa6cc1797b6aa2eebbfb2e65c47747e8edb97d2d905dda6291a8dcb", func := "loop.example/groupmulticast/laws.FnStoreParts", spec := "fnStoreParts", apart := false, narrowed := true }
def FnStorePartsUptoSaid : Prop := fnStorePartsUptoRow.holds Try.pinned (OpenSpec.upto fnStorePartsSpec)

/-- 'laws.FnExactStoreJoin', WHERE WHAT IT READS IS OF BULK AT MOST 1048576: true; the input reads as it did. -/
def fnExactStoreJoinUptoRow : OpenClaim := { program := "ytaelaldgohppeaa", sum := "b5af30ff1aa6cc1797b6aa2eebbfb2e65c47747e8edb97d2d905dda6291a8dcb", func := "loop.example/groupmulticast/laws.FnExactStoreJoin", spec := "fnExactStoreJoin", apart := false, narrowed := true }
def FnExactStoreJoinUptoSaid : Prop := fnExactStoreJoinUptoRow.holds Try.pinned (OpenSpec.upto fnExactStoreJoinSpec)

/-- 'laws.FnStoreJoin', WHERE WHAT IT READS IS OF BULK AT MOST 1048576: true; the input reads as it did. -/
def fnStoreJoinUptoRow : OpenClaim := { program := "ytaelaldgohppeaa", sum := "b5af30ff1aa6cc1797b6aa2eebbfb2e65c47747e8edb97d2d905dda6291a8dcb", func := "loop.example/groupmulticast/laws.FnStoreJoin", spec := "fnStoreJoin", apart := false, narrowed := true }
def FnStoreJoinUptoSaid : Prop := fnStoreJoinUptoRow.holds Try.pinned (OpenSpec.upto fnStoreJoinSpec)

/-- 'laws.FnExactTxnValid', WHERE WHAT IT READS IS OF BULK AT MOST 1048576: true; the input reads as it did. -/
def fnExactTxnValidUptoRow : OpenClaim := { program := "ytaelaldgohppeaa", sum := "b5af30ff1aa6cc1797b6aa2eebbfb2e65c47747e8edb97d2d905dda6291a8dcb", func := "loop.example/groupmulticast/laws.FnExactTxnValid", spec := "fnExactTxnValid", apart := false, narrowed := true }
def FnExactTxnValidUptoSaid : Prop := fnExactTxnValidUptoRow.holds Try.pinned (OpenSpec.upto fnExactTxnValidSpec)

/-- 'laws.FnTxnGroups', WHERE WHAT IT READS IS OF BULK AT MOST 1048576: true; the input reads as it did. -/
def fnTxnGroupsUptoRow : OpenClaim := { program := "ytaelaldgohppeaa", sum := "b5af30ff1aa6cc1797b6aa2eebbfb2e65c47747e8edb97d2d905dda6291a8dcb", func := "loop.example/groupmulticast/laws.FnTxnGroups", spec := "fnTxnGroups", unfollowed := true, recurses := true, apart := false, narrowed := true }
def FnTxnGroupsUptoSaid : Prop := fnTxnGroupsUptoRow.holds Try.pinned (OpenSpec.upto fnTxnGroupsSpec)

/-- 'laws.FnTxnApply', WHERE WHAT IT READS IS OF BULK AT MOST 1048576: true; the input reads as it did. -/
def fnTxnApplyUptoRow : OpenClaim := { program := "ytaelaldgohppeaa", sum := "b5af30ff1aa6cc1797b6aa2eebbfb2e65c47747e8edb97d2d905dda6291a8dcb", func := "loop.example/groupmulticast/laws.FnTxnApply", spec := "fnTxnApply", unfollowed := true, recurses := true, apart := false, narrowed := true }
def FnTxnApplyUptoSaid : Prop := fnTxnApplyUptoRow.holds Try.pinned (OpenSpec.upto fnTxnApplySpec)

/-- 'laws.FnTxnBack', WHERE WHAT IT READS IS OF BULK AT MOST 1048576: true; the input reads as it did. -/
def fnTxnBackUptoRow : OpenClaim := { program := "ytaelaldgohppeaa", sum := "b5af30ff1aa6cc1797b6aa2eebbfb2e65c47747e8edb97d2d905dda6291a8dcb", func := "loop.example/groupmulticast/laws.FnTxnBack", spec := "fnTxnBack", unfollowed := true, recurses := true, apart := false, narrowed := true }
def FnTxnBackUptoSaid : Prop := fnTxnBackUptoRow.holds Try.pinned (OpenSpec.upto fnTxnBackSpec)

/-- 'laws.FnTxnFail', WHERE WHAT IT READS IS OF BULK AT MOST 1048576: true; the input reads as it did. -/
def fnTxnFailUptoRow : OpenClaim := { program := "ytaelaldgohppeaa", sum := "b5af30ff1aa6cc1797b6aa2eebbfb2e65c47747e8edb97d2d905dda6291a8dcb", func := "loop.example/groupmulticast/laws.FnTxnFail", spec := "fnTxnFail", unfollowed := true, recurses := true, apart := false, narrowed := true }
def FnTxnFailUptoSaid : Prop := fnTxnFailUptoRow.holds Try.pinned (OpenSpec.upto fnTxnFailSpec)

/-- 'laws.FnTxnNeed', WHERE WHAT IT READS IS OF BULK AT MOST 1048576: true; the input reads as it did. -/
def fnTxnNeedUptoRow : OpenClaim := { program := "ytaelaldgohppeaa", sum := "b5af30ff1aa6cc1797b6aa2eebbfb2e65c47747e8edb97d2d905dda6291a8dcb", func := "loop.example/groupmulticast/laws.FnTxnNeed", spec := "fnTxnNeed", unfollowed := true, recurses := true, apart := false, narrowed := true }
def FnTxnNeedUptoSaid : Prop := fnTxnNeedUptoRow.holds Try.pinned (OpenSpec.upto fnTxnNeedSpec)

/-- 'laws.FnTxnPart', WHERE WHAT IT READS IS OF BULK AT MOST 1048576: true; the input reads as it did. -/
def fnTxnPartUptoRow : OpenClaim := { program := "ytaelaldgohppeaa", sum := "b5af30ff1aa6cc1797b6aa2eebbfb2e65c47747e8edb97d2d905dda6291a8dcb", func := "loop.example/groupmulticast/laws.FnTxnPart", spec := "fnTxnPart", unfollowed := true, recurses := true, apart := false, narrowed := true }
def FnTxnPartUptoSaid : Prop := fnTxnPartUptoRow.holds Try.pinned (OpenSpec.upto fnTxnPartSpec)

/-- 'laws.FnTxnRead', WHERE WHAT IT READS IS OF BULK AT MOST 1048576: true; the input reads as it did. -/
def fnTxnReadUptoRow : OpenClaim := { program := "ytaelaldgohppeaa", sum := "b5af30ff1aa6cc1797b6aa2eebbfb2e65c47747e8edb97d2d905dda6291a8dcb", func := "loop.example/groupmulticast/laws.FnTxnRead", spec := "fnTxnRead", unfollowed := true, recurses := true, apart := false, narrowed := true }
def FnTxnReadUptoSaid : Prop := fnTxnReadUptoRow.holds Try.pinned (OpenSpec.upto fnTxnReadSpec)

/-- 'laws.FnTxnCommute', WHERE WHAT IT READS IS OF BULK AT MOST 1048576: true; the input reads as it did. -/
def fnTxnCommuteUptoRow : OpenClaim := { program := "ytaelaldgohppeaa", sum := "b5af30ff1aa6cc1797b6aa2eebbfb2e65c47747e8edb97d2d905dda6291a8dcb", func := "loop.example/groupmulticast/laws.FnTxnCommute", spec := "fnTxnCommute", unfollowed := true, recurses := true, apart := false, narrowed := true }
def FnTxnCommuteUptoSaid : Prop := fnTxnCommuteUptoRow.holds Try.pinned (OpenSpec.upto fnTxnCommuteSpec)

/-- 'laws.FnTxnLocal', WHERE WHAT IT READS IS OF BULK AT MOST 1048576: true; the input reads as it did. -/
def fnTxnLocalUptoRow : OpenClaim := { program := "ytaelaldgohppeaa", sum := "b5af30ff1aa6cc1797b6aa2eebbfb2e65c47747e8edb97d2d905dda6291a8dcb", func := "loop.example/groupmulticast/laws.FnTxnLocal", spec := "fnTxnLocal", unfollowed := true, recurses := true, apart := false, narrowed := true }
def FnTxnLocalUptoSaid : Prop := fnTxnLocalUptoRow.holds Try.pinned (OpenSpec.upto fnTxnLocalSpec)

/-- 'laws.FnStoreFailed', WHERE WHAT IT READS IS OF BULK AT MOST 1048576: true; the input reads as it did. -/
def fnStoreFailedUptoRow : OpenClaim := { program := "ytaelaldgohppeaa", sum := "b5af30ff1aa6cc1797b6aa2eebbfb2e65c47747e8edb97d2d905dda6291a8dcb", func := "loop.example/groupmulticast/laws.FnStoreFailed", spec := "fnStoreFailed", unfollowed := true, recurses := true, apart := false, narrowed := true }
def FnStoreFailedUptoSaid : Prop := fnStoreFailedUptoRow.holds Try.pinned (OpenSpec.upto fnStoreFailedSpec)

/-- 'laws.FnStoreRunParts', WHERE WHAT IT READS IS OF BULK AT MOST 1048576: true; the input reads as it did. -/
def fnStoreRunPartsUptoRow : OpenClaim := { program := "ytaelaldgohppeaa", sum := "b5af30ff1aa6cc1797b6aa2eebbfb2e65c47747e8edb97d2d905dda6291a8dcb", func := "loop.example/groupmulticast/laws.FnStoreRunParts", spec := "fnStoreRunParts", unfollowed := true, recurses := true, apart := false, narrowed := true }
def FnStoreRunPartsUptoSaid : Prop := fnStoreRunPartsUptoRow.holds Try.pinned (OpenSpec.upto fnStoreRunPartsSpec)

/-- 'laws.FnStoreRun', WHERE WHAT IT READS IS OF BULK AT MOST 1048576: true; the input reads as it did. -/
def fnStoreRunUptoRow : OpenClaim := { program := "ytaelaldgohppeaa", sum := "b5af30ff1aa6cc1797b6aa2eebbfb2e65c47747e8edb97d2d905dda6291a8dcb", func := "loop.example/groupmulticast/laws.FnStoreRun", spec := "fnStoreRun", unfollowed := true, recurses := true, apart := false, narrowed := true }
def FnStoreRunUptoSaid : Prop := fnStoreRunUptoRow.holds Try.pinned (OpenSpec.upto fnStoreRunSpec)

/-- 'laws.FnExactTxnGroups', WHERE WHAT IT READS IS OF BULK AT MOST 1048576: true; the input reads as it did. -/
def fnExactTxnGroupsUptoRow : OpenClaim := { program := "ytaelaldgohppeaa", sum := "b5af30ff1aa6cc1797b6aa2eebbfb2e65c47747e8edb97d2d905dda6291a8dcb", func := "loop.example/groupmulticast/laws.FnExactTxnGroups", spec := "fnExactTxnGroups", unfollowed := true, recurses := true, apart := false, narrowed := true }
def FnExactTxnGroupsUptoSaid : Prop := fnExactTxnGroupsUptoRow.holds Try.pinned (OpenSpec.upto fnExactTxnGroupsSpec)

/-- 'laws.FnExactTxnApply', WHERE WHAT IT READS IS OF BULK AT MOST 1048576: true; the input reads as it did. -/
def fnExactTxnApplyUptoRow : OpenClaim := { program := "ytaelaldgohppeaa", sum := "b5af30ff1aa6cc1797b6aa2eebbfb2e65c47747e8edb97d2d905dda6291a8dcb", func := "loop.example/groupmulticast/laws.FnExactTxnApply", spec := "fnExactTxnApply", unfollowed := true, recurses := true, apart := false, narrowed := true }
def FnExactTxnApplyUptoSaid : Prop := fnExactTxnApplyUptoRow.holds Try.pinned (OpenSpec.upto fnExactTxnApplySpec)

/-- 'laws.FnStoreMerge', WHERE WHAT IT READS IS OF BULK AT MOST 1048576: true; the input reads as it did. -/
def fnStoreMergeUptoRow : OpenClaim := { program := "ytaelaldgohppeaa", sum := "b5af30ff1aa6cc1797b6aa2eebbfb2e65c47747e8edb97d2d905dda6291a8dcb", func := "loop.example/groupmulticast/laws.FnStoreMerge", spec := "fnStoreMerge", unfollowed := true, recurses := true, apart := false, narrowed := true }
def FnStoreMergeUptoSaid : Prop := fnStoreMergeUptoRow.holds Try.pinned (OpenSpec.upto fnStoreMergeSpec)

/-- 'laws.FnExactStoreRun', WHERE WHAT IT READS IS OF BULK AT MOST 1048576: true; the input reads as it did. -/
def fnExactStoreRunUptoRow : OpenClaim := { program := "ytaelaldgohppeaa", sum := "b5af30ff1aa6cc1797b6aa2eebbfb2e65c47747e8edb97d2d905dda6291a8dcb", func := "loop.example/groupmulticast/laws.FnExactStoreRun", spec := "fnExactStoreRun", unfollowed := true, recurses := true, apart := false, narrowed := true }
def FnExactStoreRunUptoSaid : Prop := fnExactStoreRunUptoRow.holds Try.pinned (OpenSpec.upto fnExactStoreRunSpec)

end Rows
end Go.Proofs.Ytaelaldgohppeaa
