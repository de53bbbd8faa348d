/-
  No cell of these rows narrows 'for every input' (looked for: loops, veiled, ifaces, maps, wideKeys, modest, calm, conditions, laid).
  DERIVED. THE GIVEN ROWS OF THIS SEAT. 8 by the template 'for every input the law returns true; each argument reads behind the call as it read before'; 0 by the template 'total and deterministic' (their statements: YtehgipbedlamaaaTotals.lean).
  GIVEN WITH THE SEED: the statements are not yours to turn. If you find one false, say at which input.
  Laid BY PROGRAM, IN A SANDBOX (cutbox-rows.mjs): the forced cells as the released guide's own fill.sh prints them over the translation f78d0ca9598c5dab… (all of the seat's roots in one cut). By AI agents, Wed Nov 11 2026. No macro, syntax, notation, axiom, sorry.
-/
import Derived.Test.YtehgipbedlamaaaChecked
import GoSem.Claim
import GoSem.ClaimJoined
import GoSem.ClaimMapViews
import Derived.JoinedTies
import Derived.KernelRfl
namespace Go.Proofs.Ytehgipbedlamaaa
/- THE CELL 'sum', in the pinned program and in every row, IS THE sha256 OF THE DUMP (.gsa) THAT YtehgipbedlamaaaProg.lean LOADS. Nothing in Lean hashes anything: it is a label: what it is worth is what the hold of that sum in a sandbox is worth. -/
noncomputable def Try.pinned : Pinned := { name := "ytehgipbedlamaaa", sum := "f78d0ca9598c5dab6147e81a33d25ef7dfa2f74c740ea4daf4d749e776a16afb", checked := Try.checked }
namespace Rows
def none {H : Type} : Left H := { results := [], args := [] }

/-- 'laws.FnStuckGive': WHATEVER THE INPUT: true; the input reads as it did. -/
def fnStuckGiveSpec : ChangeSpec := { name := "fnStuckGive", fn := fun _ => fun
  | [d] => { results := [.lit (.bool true)], args := [d] }
  | _ => none }
def fnStuckGiveRow : OpenClaim := { program := "ytehgipbedlamaaa", sum := "f78d0ca9598c5dab6147e81a33d25ef7dfa2f74c740ea4daf4d749e776a16afb", func := "loop.example/groupmulticast/laws.FnStuckGive", spec := "fnStuckGive", unfollowed := true, recurses := true, apart := false }
def FnStuckGiveSaid : Prop := fnStuckGiveRow.holds Try.pinned (OpenSpec.ofChange fnStuckGiveSpec)

/-- ITS FALSE NEIGHBOUR: 'it returns false'. Refute it at one input. -/
def fnStuckGiveWrong : ChangeSpec := { name := "fnStuckGive", fn := fun _ => fun
  | [d] => { results := [.lit (.bool false)], args := [d] }
  | _ => none }
def FnStuckGiveWrongFalsely : Prop := fnStuckGiveRow.holds Try.pinned (OpenSpec.ofChange fnStuckGiveWrong)

/-- 'laws.FnCreditsKept': WHATEVER THE INPUT: true; the input reads as it did. -/
def fnCreditsKeptSpec : ChangeSpec := { name := "fnCreditsKept", fn := fun _ => fun
  | [d] => { results := [.lit (.bool true)], args := [d] }
  | _ => none }
def fnCreditsKeptRow : OpenClaim := { program := "ytehgipbedlamaaa", sum := "f78d0ca9598c5dab6147e81a33d25ef7dfa2f74c740ea4daf4d749e776a16afb", func := "loop.example/groupmulticast/laws.FnCreditsKept", spec := "fnCreditsKept", unfollowed := true, recurses := true, apart := false }
def FnCreditsKeptSaid : Prop := fnCreditsKeptRow.holds Try.pinned (OpenSpec.ofChange fnCreditsKeptSpec)

/-- ITS FALSE NEIGHBOUR: 'it returns false'. Refute it at one input. -/
def fnCreditsKeptWrong : ChangeSpec := { name := "fnCreditsKept", fn := fun _ => fun
  | [d] => { results := [.lit (.bool false)], args := [d] }
  | _ => none }
def FnCreditsKeptWrongFalsely : Prop := fnCreditsKeptRow.holds Try.pinned (OpenSpec.ofChange fnCreditsKeptWrong)

/-- 'laws.FnExactCreditsGive': WHATEVER THE INPUT: true; the input reads as it did. -/
def fnExactCreditsGiveSpec : ChangeSpec := { name := "fnExactCreditsGive", fn := fun _ => fun
  | [d1, d2] => { results := [.lit (.bool true)], args := [d1, d2] }
  | _ => none }
def fnExactCreditsGiveRow : OpenClaim := { program := "ytehgipbedlamaaa", sum := "f78d0ca9598c5dab6147e81a33d25ef7dfa2f74c740ea4daf4d749e776a16afb", func := "loop.example/groupmulticast/laws.FnExactCreditsGive", spec := "fnExactCreditsGive", unfollowed := true, recurses := true, apart := false }
def FnExactCreditsGiveSaid : Prop := fnExactCreditsGiveRow.holds Try.pinned (OpenSpec.ofChange fnExactCreditsGiveSpec)

/-- ITS FALSE NEIGHBOUR: 'it returns false'. Refute it at one input. -/
def fnExactCreditsGiveWrong : ChangeSpec := { name := "fnExactCreditsGive", fn := fun _ => fun
  | [d1, d2] => { results := [.lit (.bool false)], args := [d1, d2] }
  | _ => none }
def FnExactCreditsGiveWrongFalsely : Prop := fnExactCreditsGiveRow.holds Try.pinned (OpenSpec.ofChange fnExactCreditsGiveWrong)

/-- 'laws.FnOrderedAsk': WHATEVER THE INPUT: true; the input reads as it did. -/
def fnOrderedAskSpec : ChangeSpec := { name := "fnOrderedAsk", fn := fun _ => fun
  | [d] => { results := [.lit (.bool true)], args := [d] }
  | _ => none }
def fnOrderedAskRow : OpenClaim := { program := "ytehgipbedlamaaa", sum := "f78d0ca9598c5dab6147e81a33d25ef7dfa2f74c740ea4daf4d749e776a16afb", func := "loop.example/groupmulticast/laws.FnOrderedAsk", spec := "fnOrderedAsk", unfollowed := true, recurses := true, apart := false }
def FnOrderedAskSaid : Prop := fnOrderedAskRow.holds Try.pinned (OpenSpec.ofChange fnOrderedAskSpec)

/-- ITS FALSE NEIGHBOUR: 'it returns false'. Refute it at one input. -/
def fnOrderedAskWrong : ChangeSpec := { name := "fnOrderedAsk", fn := fun _ => fun
  | [d] => { results := [.lit (.bool false)], args := [d] }
  | _ => none }
def FnOrderedAskWrongFalsely : Prop := fnOrderedAskRow.holds Try.pinned (OpenSpec.ofChange fnOrderedAskWrong)

/-- 'laws.FnExactCreditsAsk': WHATEVER THE INPUT: true; the input reads as it did. -/
def fnExactCreditsAskSpec : ChangeSpec := { name := "fnExactCreditsAsk", fn := fun _ => fun
  | [d1, d2, d3] => { results := [.lit (.bool true)], args := [d1, d2, d3] }
  | _ => none }
def fnExactCreditsAskRow : OpenClaim := { program := "ytehgipbedlamaaa", sum := "f78d0ca9598c5dab6147e81a33d25ef7dfa2f74c740ea4daf4d749e776a16afb", func := "loop.example/groupmulticast/laws.FnExactCreditsAsk", spec := "fnExactCreditsAsk", unfollowed := true, recurses := true, apart := false }
def FnExactCreditsAskSaid : Prop := fnExactCreditsAskRow.holds Try.pinned (OpenSpec.ofChange fnExactCreditsAskSpec)

/-- ITS FALSE NEIGHBOUR: 'it returns false'. Refute it at one input. -/
def fnExactCreditsAskWrong : ChangeSpec := { name := "fnExactCreditsAsk", fn := fun _ => fun
  | [d1, d2, d3] => { results := [.lit (.bool false)], args := [d1, d2, d3] }
  | _ => none }
def FnExactCreditsAskWrongFalsely : Prop := fnExactCreditsAskRow.holds Try.pinned (OpenSpec.ofChange fnExactCreditsAskWrong)

/-- 'laws.FnCreditsGive': WHATEVER THE INPUT: true; the input reads as it did. -/
def fnCreditsGiveSpec : ChangeSpec := { name := "fnCreditsGive", fn := fun _ => fun
  | [d] => { results := [.lit (.bool true)], args := [d] }
  | _ => none }
def fnCreditsGiveRow : OpenClaim := { program := "ytehgipbedlamaaa", sum := "f78d0ca9598c5dab6147e81a33d25ef7dfa2f74c740ea4daf4d749e776a16afb", func := "loop.example/groupmulticast/laws.FnCreditsGive", spec := "fnCreditsGive", unfollowed := true, recurses := true, apart := false }
def FnCreditsGiveSaid : Prop := fnCreditsGiveRow.holds Try.pinned (OpenSpec.ofChange fnCreditsGiveSpec)

/-- ITS FALSE NEIGHBOUR: 'it returns false'. Refute it at one input. -/
def fnCreditsGiveWrong : ChangeSpec := { name := "fnCreditsGive", fn := fun _ => fun
  | [d] => { results := [.lit (.bool false)], args := [d] }
  | _ => none }
def FnCreditsGiveWrongFalsely : Prop := fnCreditsGiveRow.holds Try.pinned (OpenSpec.ofChange fnCreditsGiveWrong)

/-- 'laws.FnCreditsRound': WHATEVER THE INPUT: true; the input reads as it did. -/
def fnCreditsRoundSpec : ChangeSpec := { name := "fnCreditsRound", fn := fun _ => fun
  | [d] => { results := [.lit (.bool true)], args := [d] }
  | _ => none }
def fnCreditsRoundRow : OpenClaim := { program := "ytehgipbedlamaaa", sum := "f78d0ca9598c5dab6147e81a33d25ef7dfa2f74c740ea4daf4d749e776a16afb", func := "loop.example/groupmulticast/laws.FnCreditsRound", spec := "fnCreditsRound", unfollowed := true, recurses := true, apart := false }
def FnCreditsRoundSaid : Prop := fnCreditsRoundRow.holds Try.pinned (OpenSpec.ofChange fnCreditsRoundSpec)

/-- ITS FALSE NEIGHBOUR: 'it returns false'. Refute it at one input. -/
def fnCreditsRoundWrong : ChangeSpec := { name := "fnCreditsRound", fn := fun _ => fun
  | [d] => { results := [.lit (.bool false)], args := [d] }
  | _ => none }
def FnCreditsRoundWrongFalsely : Prop := fnCreditsRoundRow.holds Try.pinned (OpenSpec.ofChange fnCreditsRoundWrong)

/-- 'laws.FnOrderedGive': WHATEVER THE INPUT: true; the input reads as it did. -/
def fnOrderedGiveSpec : ChangeSpec := { name := "fnOrderedGive", fn := fun _ => fun
  | [d] => { results := [.lit (.bool true)], args := [d] }
  | _ => none }
def fnOrderedGiveRow : OpenClaim := { program := "ytehgipbedlamaaa", sum := "f78d0ca9598c5dab6147e81a33d25ef7dfa2f74c740ea4daf4d749e776a16afb", func := "loop.example/groupmulticast/laws.FnOrderedGive", spec := "fnOrderedGive", unfollowed := true, recurses := true, apart := false }
def FnOrderedGiveSaid : Prop := fnOrderedGiveRow.holds Try.pinned (OpenSpec.ofChange fnOrderedGiveSpec)

/-- ITS FALSE NEIGHBOUR: 'it returns false'. Refute it at one input. -/
def fnOrderedGiveWrong : ChangeSpec := { name := "fnOrderedGive", fn := fun _ => fun
  | [d] => { results := [.lit (.bool false)], args := [d] }
  | _ => none }
def FnOrderedGiveWrongFalsely : Prop := fnOrderedGiveRow.holds Try.pinned (OpenSpec.ofChange fnOrderedGiveWrong)

/- THE SECOND FORM. 'bulk': how many values and letters a reading holds, each counted each time it is reached (what is shared counts as often as it is met; a slice's spare places count too). A statement '..UptoSaid' is the law's where the arguments, and the package variables that the reading takes, are together of bulk at most 1048576: NARROWER than '..Said'. Prove '..Said' where nothing that the law and all that it calls make is longer than what came in: it says more and counts as full. Else prove '..UptoSaid'. A law counts once. -/
mutual
def uptoBulk {H : Type} : DataW H → Nat
  | .lit (.string bytes) => bytes.length + 1
  | .lit _ => 1
  | .nil => 1
  | .ptr d => uptoBulk d + 1
  | .slice elems spare => uptoBulkAll elems + uptoBulkAll spare + 1
  | .agg parts => uptoBulkAll parts + 1
  | .iface _ d => uptoBulk d + 1
  | .map entries => uptoBulkEntries entries + 1
  | .held _ => 1
def uptoBulkAll {H : Type} : List (DataW H) → Nat
  | [] => 0
  | d :: r => uptoBulk d + uptoBulkAll r
def uptoBulkEntries {H : Type} : List (Lit × DataW H) → Nat
  | [] => 0
  | x :: r => uptoBulkEntry x + uptoBulkEntries r
def uptoBulkEntry {H : Type} : Lit × DataW H → Nat
  | (.string bytes, d) => bytes.length + uptoBulk d + 1
  | (_, d) => uptoBulk d + 1
 end
def uptoSmall : (H : Type) → List (DataW H) → Bool := fun _ ds => decide (uptoBulkAll ds ≤ 1048576)
def OpenSpec.upto (s : _root_.Go.ChangeSpec) : _root_.Go.OpenSpec := { _root_.Go.OpenSpec.ofChange s with cond := some uptoSmall }

/-- 'laws.FnStuckGive', WHERE WHAT IT READS IS OF BULK AT MOST 1048576: true; the input reads as it did. -/
def fnStuckGiveUptoRow : OpenClaim := { program := "ytehgipbedlamaaa", sum := "f78d0ca9598c5dab6147e81a33d25ef7dfa2f74c740ea4daf4d749e776a16afb", func := "loop.example/groupmulticast/laws.FnStuckGive", spec := "fnStuckGive", unfollowed := true, recurses := true, apart := false, narrowed := true }
def FnStuckGiveUptoSaid : Prop := fnStuckGiveUptoRow.holds Try.pinned (OpenSpec.upto fnStuckGiveSpec)

/-- 'laws.FnCreditsKept', WHERE WHAT IT READS IS OF BULK AT MOST 1048576: true; the input reads as it did. -/
def fnCreditsKeptUptoRow : OpenClaim := { program := "ytehgipbedlamaaa", sum := "f78d0ca9598c5dab6147e81a33d25ef7dfa2f74c740ea4daf4d749e776a16afb", func := "loop.example/groupmulticast/laws.FnCreditsKept", spec := "fnCreditsKept", unfollowed := true, recurses := true, apart := false, narrowed := true }
def FnCreditsKeptUptoSaid : Prop := fnCreditsKeptUptoRow.holds Try.pinned (OpenSpec.upto fnCreditsKeptSpec)

/-- 'laws.FnExactCreditsGive', WHERE WHAT IT READS IS OF BULK AT MOST 1048576: true; the input reads as it did. -/
def fnExactCreditsGiveUptoRow : OpenClaim := { program := "ytehgipbedlamaaa", sum := "f78d0ca9598c5dab6147e81a33d25ef7dfa2f74c740ea4daf4d749e776a16afb", func := "loop.example/groupmulticast/laws.FnExactCreditsGive", spec := "fnExactCreditsGive", unfollowed := true, recurses := true, apart := false, narrowed := true }
def FnExactCreditsGiveUptoSaid : Prop := fnExactCreditsGiveUptoRow.holds Try.pinned (OpenSpec.upto fnExactCreditsGiveSpec)

/-- 'laws.FnOrderedAsk', WHERE WHAT IT READS IS OF BULK AT MOST 1048576: true; the input reads as it did. -/
def fnOrderedAskUptoRow : OpenClaim := { program := "ytehgipbedlamaaa", sum := "f78d0ca9598c5dab6147e81a33d25ef7dfa2f74c740ea4daf4d749e776a16afb", func := "loop.example/groupmulticast/laws.FnOrderedAsk", spec := "fnOrderedAsk", unfollowed := true, recurses := true, apart := false, narrowed := true }
def FnOrderedAskUptoSaid : Prop := fnOrderedAskUptoRow.holds Try.pinned (OpenSpec.upto fnOrderedAskSpec)

/-- 'laws.FnExactCreditsAsk', WHERE WHAT IT READS IS OF BULK AT MOST 1048576: true; the input reads as it did. -/
def fnExactCreditsAskUptoRow : OpenClaim := { program := "ytehgipbedlamaaa", sum := "f78d0ca9598c5dab6147e81a33d25ef7dfa2f74c740ea4daf4d749e776a16afb", func := "loop.example/groupmulticast/laws.FnExactCreditsAsk", spec := "fnExactCreditsAsk", unfollowed := true, recurses := true, apart := false, narrowed := true }
def FnExactCreditsAskUptoSaid : Prop := fnExactCreditsAskUptoRow.holds Try.pinned (OpenSpec.upto fnExactCreditsAskSpec)

/-- 'laws.FnCreditsGive', WHERE WHAT IT READS IS OF BULK AT MOST 1048576: true; the input reads as it did. -/
def fnCreditsGiveUptoRow : OpenClaim := { program := "ytehgipbedlamaaa", sum := "f78d0ca9598c5dab6147e81a33d25ef7dfa2f74c740ea4daf4d749e776a16afb", func := "loop.example/groupmulticast/laws.FnCreditsGive", spec := "fnCreditsGive", unfollowed := true, recurses := true, apart := false, narrowed := true }
def FnCreditsGiveUptoSaid : Prop := fnCreditsGiveUptoRow.holds Try.pinned (OpenSpec.upto fnCreditsGiveSpec)

/-- 'laws.FnCreditsRound', WHERE WHAT IT READS IS OF BULK AT MOST 1048576: true; the input reads as it did. -/
def fnCreditsRoundUptoRow : OpenClaim := { program := "ytehgipbedlamaaa", sum := "f78d0ca9598c5dab6147e81a33d25ef7dfa2f74c740ea4daf4d749e776a16afb", func := "loop.example/groupmulticast/laws.FnCreditsRound", spec := "fnCreditsRound", unfollowed := true, recurses := true, apart := false, narrowed := true }
def FnCreditsRoundUptoSaid : Prop := fnCreditsRoundUptoRow.holds Try.pinned (OpenSpec.upto fnCreditsRoundSpec)

/-- 'laws.FnOrderedGive', WHERE WHAT IT READS IS OF BULK AT MOST 1048576: true; the input reads as it did. -/
def fnOrderedGiveUptoRow : OpenClaim := { program := "ytehgipbedlamaaa", sum := "f78d0ca9598c5dab6147e81a33d25ef7dfa2f74c740ea4daf4d749e776a16afb", func := "loop.example/groupmulticast/laws.FnOrderedGive", spec := "fnOrderedGive", unfollowed := true, recurses := true, apart := false, narrowed := true }
def FnOrderedGiveUptoSaid : Prop := fnOrderedGiveUptoRow.holds Try.pinned (OpenSpec.upto fnOrderedGiveSpec)

end Rows
end Go.Proofs.Ytehgipbedlamaaa
