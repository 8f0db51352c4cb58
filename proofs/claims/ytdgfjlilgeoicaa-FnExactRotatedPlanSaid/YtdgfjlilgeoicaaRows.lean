/-
  No cell of these rows narrows 'for every input' (looked for: loops, veiled, ifaces, maps, wideKeys, modest, calm, conditions, laid).
  DERIVED. THE GIVEN ROWS OF THIS SEAT. 11 by the template 'for every input the law returns true; each argument reads behind the call as it read before'; 0 by the template 'total and deterministic' (their statements: YtdgfjlilgeoicaaTotals.lean).
  GIVEN WITH THE SEED: the statements are not yours to turn. If you find one false, say at which input.
  Laid BY PROGRAM, IN A SANDBOX (cutbox-rows.mjs): the forced cells as the released guide's own fill.sh prints them over the translation 9d9264302292c968… (all of the seat's roots in one cut). By AI agents, Wed Nov 11 2026. No macro, syntax, notation, axiom, sorry.
-/
import Derived.Test.YtdgfjlilgeoicaaChecked
import GoSem.Claim
import GoSem.ClaimJoined
import GoSem.ClaimMapViews
import Derived.JoinedTies
import Derived.KernelRfl
namespace Go.Proofs.Ytdgfjlilgeoicaa
/- THE CELL 'sum', in the pinned program and in every row, IS THE sha256 OF THE DUMP (.gsa) THAT YtdgfjlilgeoicaaProg.lean LOADS. Nothing in Lean hashes anything: it is a label: what it is worth is what the hold of that sum in a sandbox is worth. -/
noncomputable def Try.pinned : Pinned := { name := "ytdgfjlilgeoicaa", sum := "9d9264302292c9680271d44f8d12fb6f222a814297483acb3ca9a628d5421b0a", checked := Try.checked }
namespace Rows
def none {H : Type} : Left H := { results := [], args := [] }

/-- 'laws.FnForking': WHATEVER THE INPUT: true; the input reads as it did. -/
def fnForkingSpec : ChangeSpec := { name := "fnForking", fn := fun _ => fun
  | [d] => { results := [.lit (.bool true)], args := [d] }
  | _ => none }
def fnForkingRow : OpenClaim := { program := "ytdgfjlilgeoicaa", sum := "9d9264302292c9680271d44f8d12fb6f222a814297483acb3ca9a628d5421b0a", func := "loop.example/g00938/laws.FnForking", spec := "fnForking", unfollowed := true, recurses := true, apart := false }
def FnForkingSaid : Prop := fnForkingRow.holds Try.pinned (OpenSpec.ofChange fnForkingSpec)

/-- ITS FALSE NEIGHBOUR: 'it returns false'. Refute it at one input. -/
def fnForkingWrong : ChangeSpec := { name := "fnForking", fn := fun _ => fun
  | [d] => { results := [.lit (.bool false)], args := [d] }
  | _ => none }
def FnForkingWrongFalsely : Prop := fnForkingRow.holds Try.pinned (OpenSpec.ofChange fnForkingWrong)

/-- 'laws.FnExactRotatedPlan': WHATEVER THE INPUT: true; the input reads as it did. -/
def fnExactRotatedPlanSpec : ChangeSpec := { name := "fnExactRotatedPlan", fn := fun _ => fun
  | [d1, d2, d3] => { results := [.lit (.bool true)], args := [d1, d2, d3] }
  | _ => none }
def fnExactRotatedPlanRow : OpenClaim := { program := "ytdgfjlilgeoicaa", sum := "9d9264302292c9680271d44f8d12fb6f222a814297483acb3ca9a628d5421b0a", func := "loop.example/g00938/laws.FnExactRotatedPlan", spec := "fnExactRotatedPlan", apart := false }
def FnExactRotatedPlanSaid : Prop := fnExactRotatedPlanRow.holds Try.pinned (OpenSpec.ofChange fnExactRotatedPlanSpec)

/-- ITS FALSE NEIGHBOUR: 'it returns false'. Refute it at one input. -/
def fnExactRotatedPlanWrong : ChangeSpec := { name := "fnExactRotatedPlan", fn := fun _ => fun
  | [d1, d2, d3] => { results := [.lit (.bool false)], args := [d1, d2, d3] }
  | _ => none }
def FnExactRotatedPlanWrongFalsely : Prop := fnExactRotatedPlanRow.holds Try.pinned (OpenSpec.ofChange fnExactRotatedPlanWrong)

/-- 'laws.FnExactIsPlanOf': WHATEVER THE INPUT: true; the input reads as it did. -/
def fnExactIsPlanOfSpec : ChangeSpec := { name := "fnExactIsPlanOf", fn := fun _ => fun
  | [d1, d2, d3] => { results := [.lit (.bool true)], args := [d1, d2, d3] }
  | _ => none }
def fnExactIsPlanOfRow : OpenClaim := { program := "ytdgfjlilgeoicaa", sum := "9d9264302292c9680271d44f8d12fb6f222a814297483acb3ca9a628d5421b0a", func := "loop.example/g00938/laws.FnExactIsPlanOf", spec := "fnExactIsPlanOf", unfollowed := true, recurses := true, apart := false }
def FnExactIsPlanOfSaid : Prop := fnExactIsPlanOfRow.holds Try.pinned (OpenSpec.ofChange fnExactIsPlanOfSpec)

/-- ITS FALSE NEIGHBOUR: 'it returns false'. Refute it at one input. -/
def fnExactIsPlanOfWrong : ChangeSpec := { name := "fnExactIsPlanOf", fn := fun _ => fun
  | [d1, d2, d3] => { results := [.lit (.bool false)], args := [d1, d2, d3] }
  | _ => none }
def FnExactIsPlanOfWrongFalsely : Prop := fnExactIsPlanOfRow.holds Try.pinned (OpenSpec.ofChange fnExactIsPlanOfWrong)

/-- 'laws.FnExactSameForks': WHATEVER THE INPUT: true; the input reads as it did. -/
def fnExactSameForksSpec : ChangeSpec := { name := "fnExactSameForks", fn := fun _ => fun
  | [d1, d2, d3, d4, d5, d6] => { results := [.lit (.bool true)], args := [d1, d2, d3, d4, d5, d6] }
  | _ => none }
def fnExactSameForksRow : OpenClaim := { program := "ytdgfjlilgeoicaa", sum := "9d9264302292c9680271d44f8d12fb6f222a814297483acb3ca9a628d5421b0a", func := "loop.example/g00938/laws.FnExactSameForks", spec := "fnExactSameForks", unfollowed := true, recurses := true, apart := false }
def FnExactSameForksSaid : Prop := fnExactSameForksRow.holds Try.pinned (OpenSpec.ofChange fnExactSameForksSpec)

/-- ITS FALSE NEIGHBOUR: 'it returns false'. Refute it at one input. -/
def fnExactSameForksWrong : ChangeSpec := { name := "fnExactSameForks", fn := fun _ => fun
  | [d1, d2, d3, d4, d5, d6] => { results := [.lit (.bool false)], args := [d1, d2, d3, d4, d5, d6] }
  | _ => none }
def FnExactSameForksWrongFalsely : Prop := fnExactSameForksRow.holds Try.pinned (OpenSpec.ofChange fnExactSameForksWrong)

/-- 'laws.FnExactVariantCount': WHATEVER THE INPUT: true; the input reads as it did. -/
def fnExactVariantCountSpec : ChangeSpec := { name := "fnExactVariantCount", fn := fun _ => fun
  | [d1, d2, d3, d4, d5] => { results := [.lit (.bool true)], args := [d1, d2, d3, d4, d5] }
  | _ => none }
def fnExactVariantCountRow : OpenClaim := { program := "ytdgfjlilgeoicaa", sum := "9d9264302292c9680271d44f8d12fb6f222a814297483acb3ca9a628d5421b0a", func := "loop.example/g00938/laws.FnExactVariantCount", spec := "fnExactVariantCount", unfollowed := true, recurses := true, apart := false }
def FnExactVariantCountSaid : Prop := fnExactVariantCountRow.holds Try.pinned (OpenSpec.ofChange fnExactVariantCountSpec)

/-- ITS FALSE NEIGHBOUR: 'it returns false'. Refute it at one input. -/
def fnExactVariantCountWrong : ChangeSpec := { name := "fnExactVariantCount", fn := fun _ => fun
  | [d1, d2, d3, d4, d5] => { results := [.lit (.bool false)], args := [d1, d2, d3, d4, d5] }
  | _ => none }
def FnExactVariantCountWrongFalsely : Prop := fnExactVariantCountRow.holds Try.pinned (OpenSpec.ofChange fnExactVariantCountWrong)

/-- 'laws.FnExactIsFairPlan': WHATEVER THE INPUT: true; the input reads as it did. -/
def fnExactIsFairPlanSpec : ChangeSpec := { name := "fnExactIsFairPlan", fn := fun _ => fun
  | [d1, d2, d3] => { results := [.lit (.bool true)], args := [d1, d2, d3] }
  | _ => none }
def fnExactIsFairPlanRow : OpenClaim := { program := "ytdgfjlilgeoicaa", sum := "9d9264302292c9680271d44f8d12fb6f222a814297483acb3ca9a628d5421b0a", func := "loop.example/g00938/laws.FnExactIsFairPlan", spec := "fnExactIsFairPlan", unfollowed := true, recurses := true, apart := false }
def FnExactIsFairPlanSaid : Prop := fnExactIsFairPlanRow.holds Try.pinned (OpenSpec.ofChange fnExactIsFairPlanSpec)

/-- ITS FALSE NEIGHBOUR: 'it returns false'. Refute it at one input. -/
def fnExactIsFairPlanWrong : ChangeSpec := { name := "fnExactIsFairPlan", fn := fun _ => fun
  | [d1, d2, d3] => { results := [.lit (.bool false)], args := [d1, d2, d3] }
  | _ => none }
def FnExactIsFairPlanWrongFalsely : Prop := fnExactIsFairPlanRow.holds Try.pinned (OpenSpec.ofChange fnExactIsFairPlanWrong)

/-- 'laws.FnExactLegTimesOf': WHATEVER THE INPUT: true; the input reads as it did. -/
def fnExactLegTimesOfSpec : ChangeSpec := { name := "fnExactLegTimesOf", fn := fun _ => fun
  | [d1, d2, d3, d4, d5] => { results := [.lit (.bool true)], args := [d1, d2, d3, d4, d5] }
  | _ => none }
def fnExactLegTimesOfRow : OpenClaim := { program := "ytdgfjlilgeoicaa", sum := "9d9264302292c9680271d44f8d12fb6f222a814297483acb3ca9a628d5421b0a", func := "loop.example/g00938/laws.FnExactLegTimesOf", spec := "fnExactLegTimesOf", unfollowed := true, recurses := true, apart := false }
def FnExactLegTimesOfSaid : Prop := fnExactLegTimesOfRow.holds Try.pinned (OpenSpec.ofChange fnExactLegTimesOfSpec)

/-- ITS FALSE NEIGHBOUR: 'it returns false'. Refute it at one input. -/
def fnExactLegTimesOfWrong : ChangeSpec := { name := "fnExactLegTimesOf", fn := fun _ => fun
  | [d1, d2, d3, d4, d5] => { results := [.lit (.bool false)], args := [d1, d2, d3, d4, d5] }
  | _ => none }
def FnExactLegTimesOfWrongFalsely : Prop := fnExactLegTimesOfRow.holds Try.pinned (OpenSpec.ofChange fnExactLegTimesOfWrong)

/-- 'laws.FnExactSwapLegs': WHATEVER THE INPUT: true; the input reads as it did. -/
def fnExactSwapLegsSpec : ChangeSpec := { name := "fnExactSwapLegs", fn := fun _ => fun
  | [d1, d2, d3, d4, d5, d6] => { results := [.lit (.bool true)], args := [d1, d2, d3, d4, d5, d6] }
  | _ => none }
def fnExactSwapLegsRow : OpenClaim := { program := "ytdgfjlilgeoicaa", sum := "9d9264302292c9680271d44f8d12fb6f222a814297483acb3ca9a628d5421b0a", func := "loop.example/g00938/laws.FnExactSwapLegs", spec := "fnExactSwapLegs", unfollowed := true, recurses := true, apart := false }
def FnExactSwapLegsSaid : Prop := fnExactSwapLegsRow.holds Try.pinned (OpenSpec.ofChange fnExactSwapLegsSpec)

/-- ITS FALSE NEIGHBOUR: 'it returns false'. Refute it at one input. -/
def fnExactSwapLegsWrong : ChangeSpec := { name := "fnExactSwapLegs", fn := fun _ => fun
  | [d1, d2, d3, d4, d5, d6] => { results := [.lit (.bool false)], args := [d1, d2, d3, d4, d5, d6] }
  | _ => none }
def FnExactSwapLegsWrongFalsely : Prop := fnExactSwapLegsRow.holds Try.pinned (OpenSpec.ofChange fnExactSwapLegsWrong)

/-- 'laws.FnExactTeamTimes': WHATEVER THE INPUT: true; the input reads as it did. -/
def fnExactTeamTimesSpec : ChangeSpec := { name := "fnExactTeamTimes", fn := fun _ => fun
  | [d1, d2, d3, d4] => { results := [.lit (.bool true)], args := [d1, d2, d3, d4] }
  | _ => none }
def fnExactTeamTimesRow : OpenClaim := { program := "ytdgfjlilgeoicaa", sum := "9d9264302292c9680271d44f8d12fb6f222a814297483acb3ca9a628d5421b0a", func := "loop.example/g00938/laws.FnExactTeamTimes", spec := "fnExactTeamTimes", unfollowed := true, recurses := true, apart := false }
def FnExactTeamTimesSaid : Prop := fnExactTeamTimesRow.holds Try.pinned (OpenSpec.ofChange fnExactTeamTimesSpec)

/-- ITS FALSE NEIGHBOUR: 'it returns false'. Refute it at one input. -/
def fnExactTeamTimesWrong : ChangeSpec := { name := "fnExactTeamTimes", fn := fun _ => fun
  | [d1, d2, d3, d4] => { results := [.lit (.bool false)], args := [d1, d2, d3, d4] }
  | _ => none }
def FnExactTeamTimesWrongFalsely : Prop := fnExactTeamTimesRow.holds Try.pinned (OpenSpec.ofChange fnExactTeamTimesWrong)

/-- 'laws.FnExactUnfairTeams': WHATEVER THE INPUT: true; the input reads as it did. -/
def fnExactUnfairTeamsSpec : ChangeSpec := { name := "fnExactUnfairTeams", fn := fun _ => fun
  | [d1, d2, d3] => { results := [.lit (.bool true)], args := [d1, d2, d3] }
  | _ => none }
def fnExactUnfairTeamsRow : OpenClaim := { program := "ytdgfjlilgeoicaa", sum := "9d9264302292c9680271d44f8d12fb6f222a814297483acb3ca9a628d5421b0a", func := "loop.example/g00938/laws.FnExactUnfairTeams", spec := "fnExactUnfairTeams", unfollowed := true, recurses := true, apart := false }
def FnExactUnfairTeamsSaid : Prop := fnExactUnfairTeamsRow.holds Try.pinned (OpenSpec.ofChange fnExactUnfairTeamsSpec)

/-- ITS FALSE NEIGHBOUR: 'it returns false'. Refute it at one input. -/
def fnExactUnfairTeamsWrong : ChangeSpec := { name := "fnExactUnfairTeams", fn := fun _ => fun
  | [d1, d2, d3] => { results := [.lit (.bool false)], args := [d1, d2, d3] }
  | _ => none }
def FnExactUnfairTeamsWrongFalsely : Prop := fnExactUnfairTeamsRow.holds Try.pinned (OpenSpec.ofChange fnExactUnfairTeamsWrong)

/-- 'laws.FnSwaps': WHATEVER THE INPUT: true; the input reads as it did. -/
def fnSwapsSpec : ChangeSpec := { name := "fnSwaps", fn := fun _ => fun
  | [d] => { results := [.lit (.bool true)], args := [d] }
  | _ => none }
def fnSwapsRow : OpenClaim := { program := "ytdgfjlilgeoicaa", sum := "9d9264302292c9680271d44f8d12fb6f222a814297483acb3ca9a628d5421b0a", func := "loop.example/g00938/laws.FnSwaps", spec := "fnSwaps", unfollowed := true, recurses := true, apart := false }
def FnSwapsSaid : Prop := fnSwapsRow.holds Try.pinned (OpenSpec.ofChange fnSwapsSpec)

/-- ITS FALSE NEIGHBOUR: 'it returns false'. Refute it at one input. -/
def fnSwapsWrong : ChangeSpec := { name := "fnSwaps", fn := fun _ => fun
  | [d] => { results := [.lit (.bool false)], args := [d] }
  | _ => none }
def FnSwapsWrongFalsely : Prop := fnSwapsRow.holds Try.pinned (OpenSpec.ofChange fnSwapsWrong)

/- THE SECOND FORM. 'bulk': how many values and letters a reading holds, each counted each time it is reached (what is shared counts as often as it is met; a slice's spare places count too). A statement '..UptoSaid' is the law's where the arguments, and the package variables that the reading takes, are together of bulk at most 1048576: NARROWER than '..Said'. Prove '..Said' where nothing that the law and all that it calls make is longer than what came in: it says more and counts as full. Else prove '..UptoSaid'. A law counts once. -/
mutual
def uptoBulk {H : Type} : DataW H → Nat
  | .lit (.string bytes) => bytes.length + 1
  | .lit _ => 1
  | .nil => 1
  | .ptr d => uptoBulk d + 1
  | .slice elems spare => uptoBulkAll elems + uptoBulkAll spare + 1
  | .agg parts => uptoBulkAll parts + 1
  | .iface _ d => uptoBulk d + 1
  | .map entries => uptoBulkEntries entries + 1
  | .held _ => 1
def uptoBulkAll {H : Type} : List (DataW H) → Nat
  | [] => 0
  | d :: r => uptoBulk d + uptoBulkAll r
def uptoBulkEntries {H : Type} : List (Lit × DataW H) → Nat
  | [] => 0
  | x :: r => uptoBulkEntry x + uptoBulkEntries r
def uptoBulkEntry {H : Type} : Lit × DataW H → Nat
  | (.string bytes, d) => bytes.length + uptoBulk d + 1
  | (_, d) => uptoBulk d + 1
 end
def uptoSmall : (H : Type) → List (DataW H) → Bool := fun _ ds => decide (uptoBulkAll ds ≤ 1048576)
def OpenSpec.upto (s : _root_.Go.ChangeSpec) : _root_.Go.OpenSpec := { _root_.Go.OpenSpec.ofChange s with cond := some uptoSmall }

/-- 'laws.FnForking', WHERE WHAT IT READS IS OF BULK AT MOST 1048576: true; the input reads as it did. -/
def fnForkingUptoRow : OpenClaim := { program := "ytdgfjlilgeoicaa", sum := "9d9264302292c9680271d44f8d12fb6f222a814297483acb3ca9a628d5421b0a", func := "loop.example/g00938/laws.FnForking", spec := "fnForking", unfollowed := true, recurses := true, apart := false, narrowed := true }
def FnForkingUptoSaid : Prop := fnForkingUptoRow.holds Try.pinned (OpenSpec.upto fnForkingSpec)

/-- 'laws.FnExactRotatedPlan', WHERE WHAT IT READS IS OF BULK AT MOST 1048576: true; the input reads as it did. -/
def fnExactRotatedPlanUptoRow : OpenClaim := { program := "ytdgfjlilgeoicaa", sum := "9d9264302292c9680271d44f8d12fb6f222a814297483acb3ca9a628d5421b0a", func := "loop.example/g00938/laws.FnExactRotatedPlan", spec := "fnExactRotatedPlan", apart := false, narrowed := true }
def FnExactRotatedPlanUptoSaid : Prop := fnExactRotatedPlanUptoRow.holds Try.pinned (OpenSpec.upto fnExactRotatedPlanSpec)

/-- 'laws.FnExactIsPlanOf', WHERE WHAT IT READS IS OF BULK AT MOST 1048576: true; the input reads as it did. -/
def fnExactIsPlanOfUptoRow : OpenClaim := { program := "ytdgfjlilgeoicaa", sum := "9d9264302292c9680271d44f8d12fb6f222a814297483acb3ca9a628d5421b0a", func := "loop.example/g00938/laws.FnExactIsPlanOf", spec := "fnExactIsPlanOf", unfollowed := true, recurses := true, apart := false, narrowed := true }
def FnExactIsPlanOfUptoSaid : Prop := fnExactIsPlanOfUptoRow.holds Try.pinned (OpenSpec.upto fnExactIsPlanOfSpec)

/-- 'laws.FnExactSameForks', WHERE WHAT IT READS IS OF BULK AT MOST 1048576: true; the input reads as it did. -/
def fnExactSameForksUptoRow : OpenClaim := { program := "ytdgfjlilgeoicaa", sum := "9d9264302292c9680271d44f8d12fb6f222a814297483acb3ca9a628d5421b0a", func := "loop.example/g00938/laws.FnExactSameForks", spec := "fnExactSameForks", unfollowed := true, recurses := true, apart := false, narrowed := true }
def FnExactSameForksUptoSaid : Prop := fnExactSameForksUptoRow.holds Try.pinned (OpenSpec.upto fnExactSameForksSpec)

/-- 'laws.FnExactVariantCount', WHERE WHAT IT READS IS OF BULK AT MOST 1048576: true; the input reads as it did. -/
def fnExactVariantCountUptoRow : OpenClaim := { program := "ytdgfjlilgeoicaa", sum := "9d9264302292c9680271d44f8d12fb6f222a814297483acb3ca9a628d5421b0a", func := "loop.example/g00938/laws.FnExactVariantCount", spec := "fnExactVariantCount", unfollowed := true, recurses := true, apart := false, narrowed := true }
def FnExactVariantCountUptoSaid : Prop := fnExactVariantCountUptoRow.holds Try.pinned (OpenSpec.upto fnExactVariantCountSpec)

/-- 'laws.FnExactIsFairPlan', WHERE WHAT IT READS IS OF BULK AT MOST 1048576: true; the input reads as it did. -/
def fnExactIsFairPlanUptoRow : OpenClaim := { program := "ytdgfjlilgeoicaa", sum := "9d9264302292c9680271d44f8d12fb6f222a814297483acb3ca9a628d5421b0a", func := "loop.example/g00938/laws.FnExactIsFairPlan", spec := "fnExactIsFairPlan", unfollowed := true, recurses := true, apart := false, narrowed := true }
def FnExactIsFairPlanUptoSaid : Prop := fnExactIsFairPlanUptoRow.holds Try.pinned (OpenSpec.upto fnExactIsFairPlanSpec)

/-- 'laws.FnExactLegTimesOf', WHERE WHAT IT READS IS OF BULK AT MOST 1048576: true; the input reads as it did. -/
def fnExactLegTimesOfUptoRow : OpenClaim := { program := "ytdgfjlilgeoicaa", sum := "9d9264302292c9680271d44f8d12fb6f222a814297483acb3ca9a628d5421b0a", func := "loop.example/g00938/laws.FnExactLegTimesOf", spec := "fnExactLegTimesOf", unfollowed := true, recurses := true, apart := false, narrowed := true }
def FnExactLegTimesOfUptoSaid : Prop := fnExactLegTimesOfUptoRow.holds Try.pinned (OpenSpec.upto fnExactLegTimesOfSpec)

/-- 'laws.FnExactSwapLegs', WHERE WHAT IT READS IS OF BULK AT MOST 1048576: true; the input reads as it did. -/
def fnExactSwapLegsUptoRow : OpenClaim := { program := "ytdgfjlilgeoicaa", sum := "9d9264302292c9680271d44f8d12fb6f222a814297483acb3ca9a628d5421b0a", func := "loop.example/g00938/laws.FnExactSwapLegs", spec := "fnExactSwapLegs", unfollowed := true, recurses := true, apart := false, narrowed := true }
def FnExactSwapLegsUptoSaid : Prop := fnExactSwapLegsUptoRow.holds Try.pinned (OpenSpec.upto fnExactSwapLegsSpec)

/-- 'laws.FnExactTeamTimes', WHERE WHAT IT READS IS OF BULK AT MOST 1048576: true; the input reads as it did. -/
def fnExactTeamTimesUptoRow : OpenClaim := { program := "ytdgfjlilgeoicaa", sum := "9d9264302292c9680271d44f8d12fb6f222a814297483acb3ca9a628d5421b0a", func := "loop.example/g00938/laws.FnExactTeamTimes", spec := "fnExactTeamTimes", unfollowed := true, recurses := true, apart := false, narrowed := true }
def FnExactTeamTimesUptoSaid : Prop := fnExactTeamTimesUptoRow.holds Try.pinned (OpenSpec.upto fnExactTeamTimesSpec)

/-- 'laws.FnExactUnfairTeams', WHERE WHAT IT READS IS OF BULK AT MOST 1048576: true; the input reads as it did. -/
def fnExactUnfairTeamsUptoRow : OpenClaim := { program := "ytdgfjlilgeoicaa", sum := "9d9264302292c9680271d44f8d12fb6f222a814297483acb3ca9a628d5421b0a", func := "loop.example/g00938/laws.FnExactUnfairTeams", spec := "fnExactUnfairTeams", unfollowed := true, recurses := true, apart := false, narrowed := true }
def FnExactUnfairTeamsUptoSaid : Prop := fnExactUnfairTeamsUptoRow.holds Try.pinned (OpenSpec.upto fnExactUnfairTeamsSpec)

/-- 'laws.FnSwaps', WHERE WHAT IT READS IS OF BULK AT MOST 1048576: true; the input reads as it did. -/
def fnSwapsUptoRow : OpenClaim := { program := "ytdgfjlilgeoicaa", sum := "9d9264302292c9680271d44f8d12fb6f222a814297483acb3ca9a628d5421b0a", func := "loop.example/g00938/laws.FnSwaps", spec := "fnSwaps", unfollowed := true, recurses := true, apart := false, narrowed := true }
def FnSwapsUptoSaid : Prop := fnSwapsUptoRow.holds Try.pinned (OpenSpec.upto fnSwapsSpec)

end Rows
end Go.Proofs.Ytdgfjlilgeoicaa
