/-
  No cell of these rows narrows 'for every input' (looked for: loops, veiled, ifaces, maps, wideKeys, modest, calm, conditions, laid).
  DERIVED. THE GIVEN ROWS OF THIS SEAT. 11 by the template 'for every input the law returns true; each argument reads behind the call as it read before'; 0 by the template 'total and deterministic' (their statements: YtgampgkoahkmlaaTotals.lean).
  GIVEN WITH THE SEED: the statements are not yours to turn. If you find one false, say at which input.
  Laid BY PROGRAM, IN A SANDBOX (cutbox-rows.mjs): the forced cells as the released guide's own fill.sh prints them over the translation 6229c28e2fc8982d… (all of the seat's roots in one cut). By AI agents, Wed Nov 11 2026. No macro, syntax, notation, axiom, sorry.
-/
import Derived.Test.YtgampgkoahkmlaaChecked
import GoSem.Claim
import GoSem.ClaimJoined
import GoSem.ClaimMapViews
import Derived.JoinedTies
import Derived.KernelRfl
namespace Go.Proofs.Ytgampgkoahkmlaa
/- THE CELL 'sum', in the pinned program and in every row, IS THE sha256 OF THE DUMP (.gsa) THAT YtgampgkoahkmlaaProg.lean LOADS. Nothing in Lean hashes anything: it is a label: what it is worth is what the hold of that sum in a sandbox is worth. -/
noncomputable def Try.pinned : Pinned := { name := "ytgampgkoahkmlaa", sum := "6229c28e2fc8982dd830dd9aa381c7238faba26916fcd7235685eff4bf03a6a6", checked := Try.checked }
namespace Rows
def none {H : Type} : Left H := { results := [], args := [] }

/-- 'laws.FnExactLastStart': WHATEVER THE INPUT: true; the input reads as it did. -/
def fnExactLastStartSpec : ChangeSpec := { name := "fnExactLastStart", fn := fun _ => fun
  | [d1, d2, d3] => { results := [.lit (.bool true)], args := [d1, d2, d3] }
  | _ => none }
def fnExactLastStartRow : OpenClaim := { program := "ytgampgkoahkmlaa", sum := "6229c28e2fc8982dd830dd9aa381c7238faba26916fcd7235685eff4bf03a6a6", func := "loop.example/g00938/laws.FnExactLastStart", spec := "fnExactLastStart", unfollowed := true, recurses := true, apart := false }
def FnExactLastStartSaid : Prop := fnExactLastStartRow.holds Try.pinned (OpenSpec.ofChange fnExactLastStartSpec)

/-- ITS FALSE NEIGHBOUR: 'it returns false'. Refute it at one input. -/
def fnExactLastStartWrong : ChangeSpec := { name := "fnExactLastStart", fn := fun _ => fun
  | [d1, d2, d3] => { results := [.lit (.bool false)], args := [d1, d2, d3] }
  | _ => none }
def FnExactLastStartWrongFalsely : Prop := fnExactLastStartRow.holds Try.pinned (OpenSpec.ofChange fnExactLastStartWrong)

/-- 'laws.FnExactIsStartList': WHATEVER THE INPUT: true; the input reads as it did. -/
def fnExactIsStartListSpec : ChangeSpec := { name := "fnExactIsStartList", fn := fun _ => fun
  | [d1, d2] => { results := [.lit (.bool true)], args := [d1, d2] }
  | _ => none }
def fnExactIsStartListRow : OpenClaim := { program := "ytgampgkoahkmlaa", sum := "6229c28e2fc8982dd830dd9aa381c7238faba26916fcd7235685eff4bf03a6a6", func := "loop.example/g00938/laws.FnExactIsStartList", spec := "fnExactIsStartList", unfollowed := true, recurses := true, apart := false }
def FnExactIsStartListSaid : Prop := fnExactIsStartListRow.holds Try.pinned (OpenSpec.ofChange fnExactIsStartListSpec)

/-- ITS FALSE NEIGHBOUR: 'it returns false'. Refute it at one input. -/
def fnExactIsStartListWrong : ChangeSpec := { name := "fnExactIsStartList", fn := fun _ => fun
  | [d1, d2] => { results := [.lit (.bool false)], args := [d1, d2] }
  | _ => none }
def FnExactIsStartListWrongFalsely : Prop := fnExactIsStartListRow.holds Try.pinned (OpenSpec.ofChange fnExactIsStartListWrong)

/-- 'laws.FnExactLeastClashes': WHATEVER THE INPUT: true; the input reads as it did. -/
def fnExactLeastClashesSpec : ChangeSpec := { name := "fnExactLeastClashes", fn := fun _ => fun
  | [d] => { results := [.lit (.bool true)], args := [d] }
  | _ => none }
def fnExactLeastClashesRow : OpenClaim := { program := "ytgampgkoahkmlaa", sum := "6229c28e2fc8982dd830dd9aa381c7238faba26916fcd7235685eff4bf03a6a6", func := "loop.example/g00938/laws.FnExactLeastClashes", spec := "fnExactLeastClashes", unfollowed := true, recurses := true, apart := false }
def FnExactLeastClashesSaid : Prop := fnExactLeastClashesRow.holds Try.pinned (OpenSpec.ofChange fnExactLeastClashesSpec)

/-- ITS FALSE NEIGHBOUR: 'it returns false'. Refute it at one input. -/
def fnExactLeastClashesWrong : ChangeSpec := { name := "fnExactLeastClashes", fn := fun _ => fun
  | [d] => { results := [.lit (.bool false)], args := [d] }
  | _ => none }
def FnExactLeastClashesWrongFalsely : Prop := fnExactLeastClashesRow.holds Try.pinned (OpenSpec.ofChange fnExactLeastClashesWrong)

/-- 'laws.FnExactFullestClub': WHATEVER THE INPUT: true; the input reads as it did. -/
def fnExactFullestClubSpec : ChangeSpec := { name := "fnExactFullestClub", fn := fun _ => fun
  | [d] => { results := [.lit (.bool true)], args := [d] }
  | _ => none }
def fnExactFullestClubRow : OpenClaim := { program := "ytgampgkoahkmlaa", sum := "6229c28e2fc8982dd830dd9aa381c7238faba26916fcd7235685eff4bf03a6a6", func := "loop.example/g00938/laws.FnExactFullestClub", spec := "fnExactFullestClub", unfollowed := true, recurses := true, apart := false }
def FnExactFullestClubSaid : Prop := fnExactFullestClubRow.holds Try.pinned (OpenSpec.ofChange fnExactFullestClubSpec)

/-- ITS FALSE NEIGHBOUR: 'it returns false'. Refute it at one input. -/
def fnExactFullestClubWrong : ChangeSpec := { name := "fnExactFullestClub", fn := fun _ => fun
  | [d] => { results := [.lit (.bool false)], args := [d] }
  | _ => none }
def FnExactFullestClubWrongFalsely : Prop := fnExactFullestClubRow.holds Try.pinned (OpenSpec.ofChange fnExactFullestClubWrong)

/-- 'laws.FnExactCountClashes': WHATEVER THE INPUT: true; the input reads as it did. -/
def fnExactCountClashesSpec : ChangeSpec := { name := "fnExactCountClashes", fn := fun _ => fun
  | [d1, d2] => { results := [.lit (.bool true)], args := [d1, d2] }
  | _ => none }
def fnExactCountClashesRow : OpenClaim := { program := "ytgampgkoahkmlaa", sum := "6229c28e2fc8982dd830dd9aa381c7238faba26916fcd7235685eff4bf03a6a6", func := "loop.example/g00938/laws.FnExactCountClashes", spec := "fnExactCountClashes", unfollowed := true, recurses := true, apart := false }
def FnExactCountClashesSaid : Prop := fnExactCountClashesRow.holds Try.pinned (OpenSpec.ofChange fnExactCountClashesSpec)

/-- ITS FALSE NEIGHBOUR: 'it returns false'. Refute it at one input. -/
def fnExactCountClashesWrong : ChangeSpec := { name := "fnExactCountClashes", fn := fun _ => fun
  | [d1, d2] => { results := [.lit (.bool false)], args := [d1, d2] }
  | _ => none }
def FnExactCountClashesWrongFalsely : Prop := fnExactCountClashesRow.holds Try.pinned (OpenSpec.ofChange fnExactCountClashesWrong)

/-- 'laws.FnExactStartTimes': WHATEVER THE INPUT: true; the input reads as it did. -/
def fnExactStartTimesSpec : ChangeSpec := { name := "fnExactStartTimes", fn := fun _ => fun
  | [d1, d2, d3, d4] => { results := [.lit (.bool true)], args := [d1, d2, d3, d4] }
  | _ => none }
def fnExactStartTimesRow : OpenClaim := { program := "ytgampgkoahkmlaa", sum := "6229c28e2fc8982dd830dd9aa381c7238faba26916fcd7235685eff4bf03a6a6", func := "loop.example/g00938/laws.FnExactStartTimes", spec := "fnExactStartTimes", unfollowed := true, recurses := true, apart := false }
def FnExactStartTimesSaid : Prop := fnExactStartTimesRow.holds Try.pinned (OpenSpec.ofChange fnExactStartTimesSpec)

/-- ITS FALSE NEIGHBOUR: 'it returns false'. Refute it at one input. -/
def fnExactStartTimesWrong : ChangeSpec := { name := "fnExactStartTimes", fn := fun _ => fun
  | [d1, d2, d3, d4] => { results := [.lit (.bool false)], args := [d1, d2, d3, d4] }
  | _ => none }
def FnExactStartTimesWrongFalsely : Prop := fnExactStartTimesRow.holds Try.pinned (OpenSpec.ofChange fnExactStartTimesWrong)

/-- 'laws.FnExactCleanStartList': WHATEVER THE INPUT: true; the input reads as it did. -/
def fnExactCleanStartListSpec : ChangeSpec := { name := "fnExactCleanStartList", fn := fun _ => fun
  | [d] => { results := [.lit (.bool true)], args := [d] }
  | _ => none }
def fnExactCleanStartListRow : OpenClaim := { program := "ytgampgkoahkmlaa", sum := "6229c28e2fc8982dd830dd9aa381c7238faba26916fcd7235685eff4bf03a6a6", func := "loop.example/g00938/laws.FnExactCleanStartList", spec := "fnExactCleanStartList", unfollowed := true, recurses := true, apart := false }
def FnExactCleanStartListSaid : Prop := fnExactCleanStartListRow.holds Try.pinned (OpenSpec.ofChange fnExactCleanStartListSpec)

/-- ITS FALSE NEIGHBOUR: 'it returns false'. Refute it at one input. -/
def fnExactCleanStartListWrong : ChangeSpec := { name := "fnExactCleanStartList", fn := fun _ => fun
  | [d] => { results := [.lit (.bool false)], args := [d] }
  | _ => none }
def FnExactCleanStartListWrongFalsely : Prop := fnExactCleanStartListRow.holds Try.pinned (OpenSpec.ofChange fnExactCleanStartListWrong)

/-- 'laws.FnExactClubGaps': WHATEVER THE INPUT: true; the input reads as it did. -/
def fnExactClubGapsSpec : ChangeSpec := { name := "fnExactClubGaps", fn := fun _ => fun
  | [d1, d2] => { results := [.lit (.bool true)], args := [d1, d2] }
  | _ => none }
def fnExactClubGapsRow : OpenClaim := { program := "ytgampgkoahkmlaa", sum := "6229c28e2fc8982dd830dd9aa381c7238faba26916fcd7235685eff4bf03a6a6", func := "loop.example/g00938/laws.FnExactClubGaps", spec := "fnExactClubGaps", unfollowed := true, recurses := true, apart := false }
def FnExactClubGapsSaid : Prop := fnExactClubGapsRow.holds Try.pinned (OpenSpec.ofChange fnExactClubGapsSpec)

/-- ITS FALSE NEIGHBOUR: 'it returns false'. Refute it at one input. -/
def fnExactClubGapsWrong : ChangeSpec := { name := "fnExactClubGaps", fn := fun _ => fun
  | [d1, d2] => { results := [.lit (.bool false)], args := [d1, d2] }
  | _ => none }
def FnExactClubGapsWrongFalsely : Prop := fnExactClubGapsRow.holds Try.pinned (OpenSpec.ofChange fnExactClubGapsWrong)

/-- 'laws.FnExactMoveToEnd': WHATEVER THE INPUT: true; the input reads as it did. -/
def fnExactMoveToEndSpec : ChangeSpec := { name := "fnExactMoveToEnd", fn := fun _ => fun
  | [d1, d2, d3] => { results := [.lit (.bool true)], args := [d1, d2, d3] }
  | _ => none }
def fnExactMoveToEndRow : OpenClaim := { program := "ytgampgkoahkmlaa", sum := "6229c28e2fc8982dd830dd9aa381c7238faba26916fcd7235685eff4bf03a6a6", func := "loop.example/g00938/laws.FnExactMoveToEnd", spec := "fnExactMoveToEnd", unfollowed := true, recurses := true, apart := false }
def FnExactMoveToEndSaid : Prop := fnExactMoveToEndRow.holds Try.pinned (OpenSpec.ofChange fnExactMoveToEndSpec)

/-- ITS FALSE NEIGHBOUR: 'it returns false'. Refute it at one input. -/
def fnExactMoveToEndWrong : ChangeSpec := { name := "fnExactMoveToEnd", fn := fun _ => fun
  | [d1, d2, d3] => { results := [.lit (.bool false)], args := [d1, d2, d3] }
  | _ => none }
def FnExactMoveToEndWrongFalsely : Prop := fnExactMoveToEndRow.holds Try.pinned (OpenSpec.ofChange fnExactMoveToEndWrong)

/-- 'laws.FnStartTimes': WHATEVER THE INPUT: true; the input reads as it did. -/
def fnStartTimesSpec : ChangeSpec := { name := "fnStartTimes", fn := fun _ => fun
  | [d] => { results := [.lit (.bool true)], args := [d] }
  | _ => none }
def fnStartTimesRow : OpenClaim := { program := "ytgampgkoahkmlaa", sum := "6229c28e2fc8982dd830dd9aa381c7238faba26916fcd7235685eff4bf03a6a6", func := "loop.example/g00938/laws.FnStartTimes", spec := "fnStartTimes", unfollowed := true, recurses := true, apart := false }
def FnStartTimesSaid : Prop := fnStartTimesRow.holds Try.pinned (OpenSpec.ofChange fnStartTimesSpec)

/-- ITS FALSE NEIGHBOUR: 'it returns false'. Refute it at one input. -/
def fnStartTimesWrong : ChangeSpec := { name := "fnStartTimes", fn := fun _ => fun
  | [d] => { results := [.lit (.bool false)], args := [d] }
  | _ => none }
def FnStartTimesWrongFalsely : Prop := fnStartTimesRow.holds Try.pinned (OpenSpec.ofChange fnStartTimesWrong)

/-- 'laws.FnStartLists': WHATEVER THE INPUT: true; the input reads as it did. -/
def fnStartListsSpec : ChangeSpec := { name := "fnStartLists", fn := fun _ => fun
  | [d] => { results := [.lit (.bool true)], args := [d] }
  | _ => none }
def fnStartListsRow : OpenClaim := { program := "ytgampgkoahkmlaa", sum := "6229c28e2fc8982dd830dd9aa381c7238faba26916fcd7235685eff4bf03a6a6", func := "loop.example/g00938/laws.FnStartLists", spec := "fnStartLists", unfollowed := true, recurses := true, apart := false }
def FnStartListsSaid : Prop := fnStartListsRow.holds Try.pinned (OpenSpec.ofChange fnStartListsSpec)

/-- ITS FALSE NEIGHBOUR: 'it returns false'. Refute it at one input. -/
def fnStartListsWrong : ChangeSpec := { name := "fnStartLists", fn := fun _ => fun
  | [d] => { results := [.lit (.bool false)], args := [d] }
  | _ => none }
def FnStartListsWrongFalsely : Prop := fnStartListsRow.holds Try.pinned (OpenSpec.ofChange fnStartListsWrong)

/- THE SECOND FORM. 'bulk': how many values and letters a reading holds, each counted each time it is reached (what is shared counts as often as it is met; a slice's spare places count too). A statement '..UptoSaid' is the law's where the arguments, and the package variables that the reading takes, are together of bulk at most 1048576: NARROWER than '..Said'. Prove '..Said' where nothing that the law and all that it calls make is longer than what came in: it says more and counts as full. Else prove '..UptoSaid'. A law counts once. -/
mutual
def uptoBulk {H : Type} : DataW H → Nat
  | .lit (.string bytes) => bytes.length + 1
  | .lit _ => 1
  | .nil => 1
  | .ptr d => uptoBulk d + 1
  | .slice elems spare => uptoBulkAll elems + uptoBulkAll spare + 1
  | .agg parts => uptoBulkAll parts + 1
  | .iface _ d => uptoBulk d + 1
  | .map entries => uptoBulkEntries entries + 1
  | .held _ => 1
def uptoBulkAll {H : Type} : List (DataW H) → Nat
  | [] => 0
  | d :: r => uptoBulk d + uptoBulkAll r
def uptoBulkEntries {H : Type} : List (Lit × DataW H) → Nat
  | [] => 0
  | x :: r => uptoBulkEntry x + uptoBulkEntries r
def uptoBulkEntry {H : Type} : Lit × DataW H → Nat
  | (.string bytes, d) => bytes.length + uptoBulk d + 1
  | (_, d) => uptoBulk d + 1
 end
def uptoSmall : (H : Type) → List (DataW H) → Bool := fun _ ds => decide (uptoBulkAll ds ≤ 1048576)
def OpenSpec.upto (s : _root_.Go.ChangeSpec) : _root_.Go.OpenSpec := { _root_.Go.OpenSpec.ofChange s with cond := some uptoSmall }

/-- 'laws.FnExactLastStart', WHERE WHAT IT READS IS OF BULK AT MOST 1048576: true; the input reads as it did. -/
def fnExactLastStartUptoRow : OpenClaim := { program := "ytgampgkoahkmlaa", sum := "6229c28e2fc8982dd830dd9aa381c7238faba26916fcd7235685eff4bf03a6a6", func := "loop.example/g00938/laws.FnExactLastStart", spec := "fnExactLastStart", unfollowed := true, recurses := true, apart := false, narrowed := true }
def FnExactLastStartUptoSaid : Prop := fnExactLastStartUptoRow.holds Try.pinned (OpenSpec.upto fnExactLastStartSpec)

/-- 'laws.FnExactIsStartList', WHERE WHAT IT READS IS OF BULK AT MOST 1048576: true; the input reads as it did. -/
def fnExactIsStartListUptoRow : OpenClaim := { program := "ytgampgkoahkmlaa", sum := "6229c28e2fc8982dd830dd9aa381c7238faba26916fcd7235685eff4bf03a6a6", func := "loop.example/g00938/laws.FnExactIsStartList", spec := "fnExactIsStartList", unfollowed := true, recurses := true, apart := false, narrowed := true }
def FnExactIsStartListUptoSaid : Prop := fnExactIsStartListUptoRow.holds Try.pinned (OpenSpec.upto fnExactIsStartListSpec)

/-- 'laws.FnExactLeastClashes', WHERE WHAT IT READS IS OF BULK AT MOST 1048576: true; the input reads as it did. -/
def fnExactLeastClashesUptoRow : OpenClaim := { program := "ytgampgkoahkmlaa", sum := "6229c28e2fc8982dd830dd9aa381c7238faba26916fcd7235685eff4bf03a6a6", func := "loop.example/g00938/laws.FnExactLeastClashes", spec := "fnExactLeastClashes", unfollowed := true, recurses := true, apart := false, narrowed := true }
def FnExactLeastClashesUptoSaid : Prop := fnExactLeastClashesUptoRow.holds Try.pinned (OpenSpec.upto fnExactLeastClashesSpec)

/-- 'laws.FnExactFullestClub', WHERE WHAT IT READS IS OF BULK AT MOST 1048576: true; the input reads as it did. -/
def fnExactFullestClubUptoRow : OpenClaim := { program := "ytgampgkoahkmlaa", sum := "6229c28e2fc8982dd830dd9aa381c7238faba26916fcd7235685eff4bf03a6a6", func := "loop.example/g00938/laws.FnExactFullestClub", spec := "fnExactFullestClub", unfollowed := true, recurses := true, apart := false, narrowed := true }
def FnExactFullestClubUptoSaid : Prop := fnExactFullestClubUptoRow.holds Try.pinned (OpenSpec.upto fnExactFullestClubSpec)

/-- 'laws.FnExactCountClashes', WHERE WHAT IT READS IS OF BULK AT MOST 1048576: true; the input reads as it did. -/
def fnExactCountClashesUptoRow : OpenClaim := { program := "ytgampgkoahkmlaa", sum := "6229c28e2fc8982dd830dd9aa381c7238faba26916fcd7235685eff4bf03a6a6", func := "loop.example/g00938/laws.FnExactCountClashes", spec := "fnExactCountClashes", unfollowed := true, recurses := true, apart := false, narrowed := true }
def FnExactCountClashesUptoSaid : Prop := fnExactCountClashesUptoRow.holds Try.pinned (OpenSpec.upto fnExactCountClashesSpec)

/-- 'laws.FnExactStartTimes', WHERE WHAT IT READS IS OF BULK AT MOST 1048576: true; the input reads as it did. -/
def fnExactStartTimesUptoRow : OpenClaim := { program := "ytgampgkoahkmlaa", sum := "6229c28e2fc8982dd830dd9aa381c7238faba26916fcd7235685eff4bf03a6a6", func := "loop.example/g00938/laws.FnExactStartTimes", spec := "fnExactStartTimes", unfollowed := true, recurses := true, apart := false, narrowed := true }
def FnExactStartTimesUptoSaid : Prop := fnExactStartTimesUptoRow.holds Try.pinned (OpenSpec.upto fnExactStartTimesSpec)

/-- 'laws.FnExactCleanStartList', WHERE WHAT IT READS IS OF BULK AT MOST 1048576: true; the input reads as it did. -/
def fnExactCleanStartListUptoRow : OpenClaim := { program := "ytgampgkoahkmlaa", sum := "6229c28e2fc8982dd830dd9aa381c7238faba26916fcd7235685eff4bf03a6a6", func := "loop.example/g00938/laws.FnExactCleanStartList", spec := "fnExactCleanStartList", unfollowed := true, recurses := true, apart := false, narrowed := true }
def FnExactCleanStartListUptoSaid : Prop := fnExactCleanStartListUptoRow.holds Try.pinned (OpenSpec.upto fnExactCleanStartListSpec)

/-- 'laws.FnExactClubGaps', WHERE WHAT IT READS IS OF BULK AT MOST 1048576: true; the input reads as it did. -/
def fnExactClubGapsUptoRow : OpenClaim := { program := "ytgampgkoahkmlaa", sum := "6229c28e2fc8982dd830dd9aa381c7238faba26916fcd7235685eff4bf03a6a6", func := "loop.example/g00938/laws.FnExactClubGaps", spec := "fnExactClubGaps", unfollowed := true, recurses := true, apart := false, narrowed := true }
def FnExactClubGapsUptoSaid : Prop := fnExactClubGapsUptoRow.holds Try.pinned (OpenSpec.upto fnExactClubGapsSpec)

/-- 'laws.FnExactMoveToEnd', WHERE WHAT IT READS IS OF BULK AT MOST 1048576: true; the input reads as it did. -/
def fnExactMoveToEndUptoRow : OpenClaim := { program := "ytgampgkoahkmlaa", sum := "6229c28e2fc8982dd830dd9aa381c7238faba26916fcd7235685eff4bf03a6a6", func := "loop.example/g00938/laws.FnExactMoveToEnd", spec := "fnExactMoveToEnd", unfollowed := true, recurses := true, apart := false, narrowed := true }
def FnExactMoveToEndUptoSaid : Prop := fnExactMoveToEndUptoRow.holds Try.pinned (OpenSpec.upto fnExactMoveToEndSpec)

/-- 'laws.FnStartTimes', WHERE WHAT IT READS IS OF BULK AT MOST 1048576: true; the input reads as it did. -/
def fnStartTimesUptoRow : OpenClaim := { program := "ytgampgkoahkmlaa", sum := "6229c28e2fc8982dd830dd9aa381c7238faba26916fcd7235685eff4bf03a6a6", func := "loop.example/g00938/laws.FnStartTimes", spec := "fnStartTimes", unfollowed := true, recurses := true, apart := false, narrowed := true }
def FnStartTimesUptoSaid : Prop := fnStartTimesUptoRow.holds Try.pinned (OpenSpec.upto fnStartTimesSpec)

/-- 'laws.FnStartLists', WHERE WHAT IT READS IS OF BULK AT MOST 1048576: true; the input reads as it did. -/
def fnStartListsUptoRow : OpenClaim := { program := "ytgampgkoahkmlaa", sum := "6229c28e2fc8982dd830dd9aa381c7238faba26916fcd7235685eff4bf03a6a6", func := "loop.example/g00938/laws.FnStartLists", spec := "fnStartLists", unfollowed := true, recurses := true, apart := false, narrowed := true }
def FnStartListsUptoSaid : Prop := fnStartListsUptoRow.holds Try.pinned (OpenSpec.upto fnStartListsSpec)

end Rows
end Go.Proofs.Ytgampgkoahkmlaa
