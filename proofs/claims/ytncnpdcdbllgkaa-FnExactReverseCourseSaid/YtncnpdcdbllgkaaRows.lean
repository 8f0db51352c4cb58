/-
  No cell of these rows narrows 'for every input' (looked for: loops, veiled, ifaces, maps, wideKeys, modest, calm, conditions, laid).
  DERIVED. THE GIVEN ROWS OF THIS SEAT. 10 by the template 'for every input the law returns true; each argument reads behind the call as it read before'; 0 by the template 'total and deterministic' (their statements: YtncnpdcdbllgkaaTotals.lean).
  GIVEN WITH THE SEED: the statements are not yours to turn. If you find one false, say at which input.
  Laid BY PROGRAM, IN A SANDBOX (cutbox-rows.mjs): the forced cells as the released guide's own fill.sh prints them over the translation 3514a65db06bdcde… (all of the seat's roots in one cut). By AI agents, Wed Nov 11 2026. No macro, syntax, notation, axiom, sorry.
-/
import Derived.Test.YtncnpdcdbllgkaaChecked
import GoSem.Claim
import GoSem.ClaimJoined
import GoSem.ClaimMapViews
import Derived.JoinedTies
import Derived.KernelRfl
namespace Go.Proofs.Ytncnpdcdbllgkaa
/- THE CELL 'sum', in the pinned program and in every row, IS THE sha256 OF THE DUMP (.gsa) THAT YtncnpdcdbllgkaaProg.lean LOADS. Nothing in Lean hashes anything: it is a label: what it is worth is what the hold of that sum in a sandbox is worth. -/
noncomputable def Try.pinned : Pinned := { name := "ytncnpdcdbllgkaa", sum := "3514a65db06bdcde81925df5e348ee71df11b7dfe77ce86892f7ae8cbf0332ca", checked := Try.checked }
namespace Rows
def none {H : Type} : Left H := { results := [], args := [] }

/-- 'laws.FnExactIsCourse': WHATEVER THE INPUT: true; the input reads as it did. -/
def fnExactIsCourseSpec : ChangeSpec := { name := "fnExactIsCourse", fn := fun _ => fun
  | [d1, d2, d3] => { results := [.lit (.bool true)], args := [d1, d2, d3] }
  | _ => none }
def fnExactIsCourseRow : OpenClaim := { program := "ytncnpdcdbllgkaa", sum := "3514a65db06bdcde81925df5e348ee71df11b7dfe77ce86892f7ae8cbf0332ca", func := "loop.example/g00938/laws.FnExactIsCourse", spec := "fnExactIsCourse", unfollowed := true, recurses := true, plainKeys := false, apart := false }
def FnExactIsCourseSaid : Prop := fnExactIsCourseRow.holds Try.pinned (OpenSpec.ofChange fnExactIsCourseSpec)

/-- ITS FALSE NEIGHBOUR: 'it returns false'. Refute it at one input. -/
def fnExactIsCourseWrong : ChangeSpec := { name := "fnExactIsCourse", fn := fun _ => fun
  | [d1, d2, d3] => { results := [.lit (.bool false)], args := [d1, d2, d3] }
  | _ => none }
def FnExactIsCourseWrongFalsely : Prop := fnExactIsCourseRow.holds Try.pinned (OpenSpec.ofChange fnExactIsCourseWrong)

/-- 'laws.FnExactCourseTime': WHATEVER THE INPUT: true; the input reads as it did. -/
def fnExactCourseTimeSpec : ChangeSpec := { name := "fnExactCourseTime", fn := fun _ => fun
  | [d1, d2, d3] => { results := [.lit (.bool true)], args := [d1, d2, d3] }
  | _ => none }
def fnExactCourseTimeRow : OpenClaim := { program := "ytncnpdcdbllgkaa", sum := "3514a65db06bdcde81925df5e348ee71df11b7dfe77ce86892f7ae8cbf0332ca", func := "loop.example/g00938/laws.FnExactCourseTime", spec := "fnExactCourseTime", unfollowed := true, recurses := true, plainKeys := false, apart := false }
def FnExactCourseTimeSaid : Prop := fnExactCourseTimeRow.holds Try.pinned (OpenSpec.ofChange fnExactCourseTimeSpec)

/-- ITS FALSE NEIGHBOUR: 'it returns false'. Refute it at one input. -/
def fnExactCourseTimeWrong : ChangeSpec := { name := "fnExactCourseTime", fn := fun _ => fun
  | [d1, d2, d3] => { results := [.lit (.bool false)], args := [d1, d2, d3] }
  | _ => none }
def FnExactCourseTimeWrongFalsely : Prop := fnExactCourseTimeRow.holds Try.pinned (OpenSpec.ofChange fnExactCourseTimeWrong)

/-- 'laws.FnExactReverseCourse': WHATEVER THE INPUT: true; the input reads as it did. -/
def fnExactReverseCourseSpec : ChangeSpec := { name := "fnExactReverseCourse", fn := fun _ => fun
  | [d1, d2, d3] => { results := [.lit (.bool true)], args := [d1, d2, d3] }
  | _ => none }
def fnExactReverseCourseRow : OpenClaim := { program := "ytncnpdcdbllgkaa", sum := "3514a65db06bdcde81925df5e348ee71df11b7dfe77ce86892f7ae8cbf0332ca", func := "loop.example/g00938/laws.FnExactReverseCourse", spec := "fnExactReverseCourse", unfollowed := true, recurses := true, plainKeys := false, apart := false }
def FnExactReverseCourseSaid : Prop := fnExactReverseCourseRow.holds Try.pinned (OpenSpec.ofChange fnExactReverseCourseSpec)

/-- ITS FALSE NEIGHBOUR: 'it returns false'. Refute it at one input. -/
def fnExactReverseCourseWrong : ChangeSpec := { name := "fnExactReverseCourse", fn := fun _ => fun
  | [d1, d2, d3] => { results := [.lit (.bool false)], args := [d1, d2, d3] }
  | _ => none }
def FnExactReverseCourseWrongFalsely : Prop := fnExactReverseCourseRow.holds Try.pinned (OpenSpec.ofChange fnExactReverseCourseWrong)

/-- 'laws.FnExactLegTimes': WHATEVER THE INPUT: true; the input reads as it did. -/
def fnExactLegTimesSpec : ChangeSpec := { name := "fnExactLegTimes", fn := fun _ => fun
  | [d1, d2, d3] => { results := [.lit (.bool true)], args := [d1, d2, d3] }
  | _ => none }
def fnExactLegTimesRow : OpenClaim := { program := "ytncnpdcdbllgkaa", sum := "3514a65db06bdcde81925df5e348ee71df11b7dfe77ce86892f7ae8cbf0332ca", func := "loop.example/g00938/laws.FnExactLegTimes", spec := "fnExactLegTimes", unfollowed := true, recurses := true, plainKeys := false, apart := false }
def FnExactLegTimesSaid : Prop := fnExactLegTimesRow.holds Try.pinned (OpenSpec.ofChange fnExactLegTimesSpec)

/-- ITS FALSE NEIGHBOUR: 'it returns false'. Refute it at one input. -/
def fnExactLegTimesWrong : ChangeSpec := { name := "fnExactLegTimes", fn := fun _ => fun
  | [d1, d2, d3] => { results := [.lit (.bool false)], args := [d1, d2, d3] }
  | _ => none }
def FnExactLegTimesWrongFalsely : Prop := fnExactLegTimesRow.holds Try.pinned (OpenSpec.ofChange fnExactLegTimesWrong)

/-- 'laws.FnExactSharedLegs': WHATEVER THE INPUT: true; the input reads as it did. -/
def fnExactSharedLegsSpec : ChangeSpec := { name := "fnExactSharedLegs", fn := fun _ => fun
  | [d1, d2, d3, d4] => { results := [.lit (.bool true)], args := [d1, d2, d3, d4] }
  | _ => none }
def fnExactSharedLegsRow : OpenClaim := { program := "ytncnpdcdbllgkaa", sum := "3514a65db06bdcde81925df5e348ee71df11b7dfe77ce86892f7ae8cbf0332ca", func := "loop.example/g00938/laws.FnExactSharedLegs", spec := "fnExactSharedLegs", unfollowed := true, recurses := true, plainKeys := false, apart := false }
def FnExactSharedLegsSaid : Prop := fnExactSharedLegsRow.holds Try.pinned (OpenSpec.ofChange fnExactSharedLegsSpec)

/-- ITS FALSE NEIGHBOUR: 'it returns false'. Refute it at one input. -/
def fnExactSharedLegsWrong : ChangeSpec := { name := "fnExactSharedLegs", fn := fun _ => fun
  | [d1, d2, d3, d4] => { results := [.lit (.bool false)], args := [d1, d2, d3, d4] }
  | _ => none }
def FnExactSharedLegsWrongFalsely : Prop := fnExactSharedLegsRow.holds Try.pinned (OpenSpec.ofChange fnExactSharedLegsWrong)

/-- 'laws.FnExactCourseClimb': WHATEVER THE INPUT: true; the input reads as it did. -/
def fnExactCourseClimbSpec : ChangeSpec := { name := "fnExactCourseClimb", fn := fun _ => fun
  | [d1, d2, d3] => { results := [.lit (.bool true)], args := [d1, d2, d3] }
  | _ => none }
def fnExactCourseClimbRow : OpenClaim := { program := "ytncnpdcdbllgkaa", sum := "3514a65db06bdcde81925df5e348ee71df11b7dfe77ce86892f7ae8cbf0332ca", func := "loop.example/g00938/laws.FnExactCourseClimb", spec := "fnExactCourseClimb", unfollowed := true, recurses := true, plainKeys := false, apart := false }
def FnExactCourseClimbSaid : Prop := fnExactCourseClimbRow.holds Try.pinned (OpenSpec.ofChange fnExactCourseClimbSpec)

/-- ITS FALSE NEIGHBOUR: 'it returns false'. Refute it at one input. -/
def fnExactCourseClimbWrong : ChangeSpec := { name := "fnExactCourseClimb", fn := fun _ => fun
  | [d1, d2, d3] => { results := [.lit (.bool false)], args := [d1, d2, d3] }
  | _ => none }
def FnExactCourseClimbWrongFalsely : Prop := fnExactCourseClimbRow.holds Try.pinned (OpenSpec.ofChange fnExactCourseClimbWrong)

/-- 'laws.FnExactBackLegs': WHATEVER THE INPUT: true; the input reads as it did. -/
def fnExactBackLegsSpec : ChangeSpec := { name := "fnExactBackLegs", fn := fun _ => fun
  | [d1, d2, d3] => { results := [.lit (.bool true)], args := [d1, d2, d3] }
  | _ => none }
def fnExactBackLegsRow : OpenClaim := { program := "ytncnpdcdbllgkaa", sum := "3514a65db06bdcde81925df5e348ee71df11b7dfe77ce86892f7ae8cbf0332ca", func := "loop.example/g00938/laws.FnExactBackLegs", spec := "fnExactBackLegs", unfollowed := true, recurses := true, plainKeys := false, apart := false }
def FnExactBackLegsSaid : Prop := fnExactBackLegsRow.holds Try.pinned (OpenSpec.ofChange fnExactBackLegsSpec)

/-- ITS FALSE NEIGHBOUR: 'it returns false'. Refute it at one input. -/
def fnExactBackLegsWrong : ChangeSpec := { name := "fnExactBackLegs", fn := fun _ => fun
  | [d1, d2, d3] => { results := [.lit (.bool false)], args := [d1, d2, d3] }
  | _ => none }
def FnExactBackLegsWrongFalsely : Prop := fnExactBackLegsRow.holds Try.pinned (OpenSpec.ofChange fnExactBackLegsWrong)

/-- 'laws.FnExactCourseFaults': WHATEVER THE INPUT: true; the input reads as it did. -/
def fnExactCourseFaultsSpec : ChangeSpec := { name := "fnExactCourseFaults", fn := fun _ => fun
  | [d1, d2, d3] => { results := [.lit (.bool true)], args := [d1, d2, d3] }
  | _ => none }
def fnExactCourseFaultsRow : OpenClaim := { program := "ytncnpdcdbllgkaa", sum := "3514a65db06bdcde81925df5e348ee71df11b7dfe77ce86892f7ae8cbf0332ca", func := "loop.example/g00938/laws.FnExactCourseFaults", spec := "fnExactCourseFaults", unfollowed := true, recurses := true, plainKeys := false, apart := false }
def FnExactCourseFaultsSaid : Prop := fnExactCourseFaultsRow.holds Try.pinned (OpenSpec.ofChange fnExactCourseFaultsSpec)

/-- ITS FALSE NEIGHBOUR: 'it returns false'. Refute it at one input. -/
def fnExactCourseFaultsWrong : ChangeSpec := { name := "fnExactCourseFaults", fn := fun _ => fun
  | [d1, d2, d3] => { results := [.lit (.bool false)], args := [d1, d2, d3] }
  | _ => none }
def FnExactCourseFaultsWrongFalsely : Prop := fnExactCourseFaultsRow.holds Try.pinned (OpenSpec.ofChange fnExactCourseFaultsWrong)

/-- 'laws.FnCourses': WHATEVER THE INPUT: true; the input reads as it did. -/
def fnCoursesSpec : ChangeSpec := { name := "fnCourses", fn := fun _ => fun
  | [d] => { results := [.lit (.bool true)], args := [d] }
  | _ => none }
def fnCoursesRow : OpenClaim := { program := "ytncnpdcdbllgkaa", sum := "3514a65db06bdcde81925df5e348ee71df11b7dfe77ce86892f7ae8cbf0332ca", func := "loop.example/g00938/laws.FnCourses", spec := "fnCourses", unfollowed := true, recurses := true, plainKeys := false, apart := false }
def FnCoursesSaid : Prop := fnCoursesRow.holds Try.pinned (OpenSpec.ofChange fnCoursesSpec)

/-- ITS FALSE NEIGHBOUR: 'it returns false'. Refute it at one input. -/
def fnCoursesWrong : ChangeSpec := { name := "fnCourses", fn := fun _ => fun
  | [d] => { results := [.lit (.bool false)], args := [d] }
  | _ => none }
def FnCoursesWrongFalsely : Prop := fnCoursesRow.holds Try.pinned (OpenSpec.ofChange fnCoursesWrong)

/-- 'laws.FnExactBestOrder': WHATEVER THE INPUT: true; the input reads as it did. -/
def fnExactBestOrderSpec : ChangeSpec := { name := "fnExactBestOrder", fn := fun _ => fun
  | [d1, d2, d3] => { results := [.lit (.bool true)], args := [d1, d2, d3] }
  | _ => none }
def fnExactBestOrderRow : OpenClaim := { program := "ytncnpdcdbllgkaa", sum := "3514a65db06bdcde81925df5e348ee71df11b7dfe77ce86892f7ae8cbf0332ca", func := "loop.example/g00938/laws.FnExactBestOrder", spec := "fnExactBestOrder", unfollowed := true, recurses := true, plainKeys := false, apart := false }
def FnExactBestOrderSaid : Prop := fnExactBestOrderRow.holds Try.pinned (OpenSpec.ofChange fnExactBestOrderSpec)

/-- ITS FALSE NEIGHBOUR: 'it returns false'. Refute it at one input. -/
def fnExactBestOrderWrong : ChangeSpec := { name := "fnExactBestOrder", fn := fun _ => fun
  | [d1, d2, d3] => { results := [.lit (.bool false)], args := [d1, d2, d3] }
  | _ => none }
def FnExactBestOrderWrongFalsely : Prop := fnExactBestOrderRow.holds Try.pinned (OpenSpec.ofChange fnExactBestOrderWrong)

/- THE SECOND FORM. 'bulk': how many values and letters a reading holds, each counted each time it is reached (what is shared counts as often as it is met; a slice's spare places count too). A statement '..UptoSaid' is the law's where the arguments, and the package variables that the reading takes, are together of bulk at most 1048576: NARROWER than '..Said'. Prove '..Said' where nothing that the law and all that it calls make is longer than what came in: it says more and counts as full. Else prove '..UptoSaid'. A law counts once. -/
mutual
def uptoBulk {H : Type} : DataW H → Nat
  | .lit (.string bytes) => bytes.length + 1
  | .lit _ => 1
  | .nil => 1
  | .ptr d => uptoBulk d + 1
  | .slice elems spare => uptoBulkAll elems + uptoBulkAll spare + 1
  | .agg parts => uptoBulkAll parts + 1
  | .iface _ d => uptoBulk d + 1
  | .map entries => uptoBulkEntries entries + 1
  | .held _ => 1
def uptoBulkAll {H : Type} : List (DataW H) → Nat
  | [] => 0
  | d :: r => uptoBulk d + uptoBulkAll r
def uptoBulkEntries {H : Type} : List (Lit × DataW H) → Nat
  | [] => 0
  | x :: r => uptoBulkEntry x + uptoBulkEntries r
def uptoBulkEntry {H : Type} : Lit × DataW H → Nat
  | (.string bytes, d) => bytes.length + uptoBulk d + 1
  | (_, d) => uptoBulk d + 1
 end
def uptoSmall : (H : Type) → List (DataW H) → Bool := fun _ ds => decide (uptoBulkAll ds ≤ 1048576)
def OpenSpec.upto (s : _root_.Go.ChangeSpec) : _root_.Go.OpenSpec := { _root_.Go.OpenSpec.ofChange s with cond := some uptoSmall }

/-- 'laws.FnExactIsCourse', WHERE WHAT IT READS IS OF BULK AT MOST 1048576: true; the input reads as it did. -/
def fnExactIsCourseUptoRow : OpenClaim := { program := "ytncnpdcdbllgkaa", sum := "3514a65db06bdcde81925df5e348ee71df11b7dfe77ce86892f7ae8cbf0332ca", func := "loop.example/g00938/laws.FnExactIsCourse", spec := "fnExactIsCourse", unfollowed := true, recurses := true, plainKeys := false, apart := false, narrowed := true }
def FnExactIsCourseUptoSaid : Prop := fnExactIsCourseUptoRow.holds Try.pinned (OpenSpec.upto fnExactIsCourseSpec)

/-- 'laws.FnExactCourseTime', WHERE WHAT IT READS IS OF BULK AT MOST 1048576: true; the input reads as it did. -/
def fnExactCourseTimeUptoRow : OpenClaim := { program := "ytncnpdcdbllgkaa", sum := "3514a65db06bdcde81925df5e348ee71df11b7dfe77ce86892f7ae8cbf0332ca", func := "loop.example/g00938/laws.FnExactCourseTime", spec := "fnExactCourseTime", unfollowed := true, recurses := true, plainKeys := false, apart := false, narrowed := true }
def FnExactCourseTimeUptoSaid : Prop := fnExactCourseTimeUptoRow.holds Try.pinned (OpenSpec.upto fnExactCourseTimeSpec)

/-- 'laws.FnExactReverseCourse', WHERE WHAT IT READS IS OF BULK AT MOST 1048576: true; the input reads as it did. -/
def fnExactReverseCourseUptoRow : OpenClaim := { program := "ytncnpdcdbllgkaa", sum := "3514a65db06bdcde81925df5e348ee71df11b7dfe77ce86892f7ae8cbf0332ca", func := "loop.example/g00938/laws.FnExactReverseCourse", spec := "fnExactReverseCourse", unfollowed := true, recurses := true, plainKeys := false, apart := false, narrowed := true }
def FnExactReverseCourseUptoSaid : Prop := fnExactReverseCourseUptoRow.holds Try.pinned (OpenSpec.upto fnExactReverseCourseSpec)

/-- 'laws.FnExactLegTimes', WHERE WHAT IT READS IS OF BULK AT MOST 1048576: true; the input reads as it did. -/
def fnExactLegTimesUptoRow : OpenClaim := { program := "ytncnpdcdbllgkaa", sum := "3514a65db06bdcde81925df5e348ee71df11b7dfe77ce86892f7ae8cbf0332ca", func := "loop.example/g00938/laws.FnExactLegTimes", spec := "fnExactLegTimes", unfollowed := true, recurses := true, plainKeys := false, apart := false, narrowed := true }
def FnExactLegTimesUptoSaid : Prop := fnExactLegTimesUptoRow.holds Try.pinned (OpenSpec.upto fnExactLegTimesSpec)

/-- 'laws.FnExactSharedLegs', WHERE WHAT IT READS IS OF BULK AT MOST 1048576: true; the input reads as it did. -/
def fnExactSharedLegsUptoRow : OpenClaim := { program := "ytncnpdcdbllgkaa", sum := "3514a65db06bdcde81925df5e348ee71df11b7dfe77ce86892f7ae8cbf0332ca", func := "loop.example/g00938/laws.FnExactSharedLegs", spec := "fnExactSharedLegs", unfollowed := true, recurses := true, plainKeys := false, apart := false, narrowed := true }
def FnExactSharedLegsUptoSaid : Prop := fnExactSharedLegsUptoRow.holds Try.pinned (OpenSpec.upto fnExactSharedLegsSpec)

/-- 'laws.FnExactCourseClimb', WHERE WHAT IT READS IS OF BULK AT MOST 1048576: true; the input reads as it did. -/
def fnExactCourseClimbUptoRow : OpenClaim := { program := "ytncnpdcdbllgkaa", sum := "3514a65db06bdcde81925df5e348ee71df11b7dfe77ce86892f7ae8cbf0332ca", func := "loop.example/g00938/laws.FnExactCourseClimb", spec := "fnExactCourseClimb", unfollowed := true, recurses := true, plainKeys := false, apart := false, narrowed := true }
def FnExactCourseClimbUptoSaid : Prop := fnExactCourseClimbUptoRow.holds Try.pinned (OpenSpec.upto fnExactCourseClimbSpec)

/-- 'laws.FnExactBackLegs', WHERE WHAT IT READS IS OF BULK AT MOST 1048576: true; the input reads as it did. -/
def fnExactBackLegsUptoRow : OpenClaim := { program := "ytncnpdcdbllgkaa", sum := "3514a65db06bdcde81925df5e348ee71df11b7dfe77ce86892f7ae8cbf0332ca", func := "loop.example/g00938/laws.FnExactBackLegs", spec := "fnExactBackLegs", unfollowed := true, recurses := true, plainKeys := false, apart := false, narrowed := true }
def FnExactBackLegsUptoSaid : Prop := fnExactBackLegsUptoRow.holds Try.pinned (OpenSpec.upto fnExactBackLegsSpec)

/-- 'laws.FnExactCourseFaults', WHERE WHAT IT READS IS OF BULK AT MOST 1048576: true; the input reads as it did. -/
def fnExactCourseFaultsUptoRow : OpenClaim := { program := "ytncnpdcdbllgkaa", sum := "3514a65db06bdcde81925df5e348ee71df11b7dfe77ce86892f7ae8cbf0332ca", func := "loop.example/g00938/laws.FnExactCourseFaults", spec := "fnExactCourseFaults", unfollowed := true, recurses := true, plainKeys := false, apart := false, narrowed := true }
def FnExactCourseFaultsUptoSaid : Prop := fnExactCourseFaultsUptoRow.holds Try.pinned (OpenSpec.upto fnExactCourseFaultsSpec)

/-- 'laws.FnCourses', WHERE WHAT IT READS IS OF BULK AT MOST 1048576: true; the input reads as it did. -/
def fnCoursesUptoRow : OpenClaim := { program := "ytncnpdcdbllgkaa", sum := "3514a65db06bdcde81925df5e348ee71df11b7dfe77ce86892f7ae8cbf0332ca", func := "loop.example/g00938/laws.FnCourses", spec := "fnCourses", unfollowed := true, recurses := true, plainKeys := false, apart := false, narrowed := true }
def FnCoursesUptoSaid : Prop := fnCoursesUptoRow.holds Try.pinned (OpenSpec.upto fnCoursesSpec)

/-- 'laws.FnExactBestOrder', WHERE WHAT IT READS IS OF BULK AT MOST 1048576: true; the input reads as it did. -/
def fnExactBestOrderUptoRow : OpenClaim := { program := "ytncnpdcdbllgkaa", sum := "3514a65db06bdcde81925df5e348ee71df11b7dfe77ce86892f7ae8cbf0332ca", func := "loop.example/g00938/laws.FnExactBestOrder", spec := "fnExactBestOrder", unfollowed := true, recurses := true, plainKeys := false, apart := false, narrowed := true }
def FnExactBestOrderUptoSaid : Prop := fnExactBestOrderUptoRow.holds Try.pinned (OpenSpec.upto fnExactBestOrderSpec)

end Rows
end Go.Proofs.Ytncnpdcdbllgkaa
