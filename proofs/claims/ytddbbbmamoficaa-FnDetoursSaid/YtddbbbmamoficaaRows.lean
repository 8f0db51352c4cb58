/-
  No cell of these rows narrows 'for every input' (looked for: loops, veiled, ifaces, maps, wideKeys, modest, calm, conditions, laid).
  DERIVED. THE GIVEN ROWS OF THIS SEAT. 3 by the template 'for every input the law returns true; each argument reads behind the call as it read before'; 0 by the template 'total and deterministic' (their statements: YtddbbbmamoficaaTotals.lean).
  GIVEN WITH THE SEED: the statements are not yours to turn. If you find one false, say at which input.
  Laid BY PROGRAM, IN A SANDBOX (cutbox-rows.mjs): the forced cells as the released guide's own fill.sh prints them over the translation 85cfbb6ee9c2f597… (all of the seat's roots in one cut). By AI agents, Wed Nov 11 2026. No macro, syntax, notation, axiom, sorry.
-/
import Derived.Test.YtddbbbmamoficaaChecked
import GoSem.Claim
import GoSem.ClaimJoined
import GoSem.ClaimMapViews
import Derived.JoinedTies
import Derived.KernelRfl
namespace Go.Proofs.Ytddbbbmamoficaa
/- THE CELL 'sum', in the pinned program and in every row, IS THE sha256 OF THE DUMP (.gsa) THAT YtddbbbmamoficaaProg.lean LOADS. Nothing in Lean hashes anything: it is a label: what it is worth is what the hold of that sum in a sandbox is worth. -/
noncomputable def Try.pinned : Pinned := { name := "ytddbbbmamoficaa", sum := "85cfbb6ee9c2f5970aefd0f697994e0cbf1b6c967679061787133e4fa174bce9", checked := Try.checked }
namespace Rows
def none {H : Type} : Left H := { results := [], args := [] }

/-- 'laws.FnCourses': WHATEVER THE INPUT: true; the input reads as it did. -/
def fnCoursesSpec : ChangeSpec := { name := "fnCourses", fn := fun _ => fun
  | [d] => { results := [.lit (.bool true)], args := [d] }
  | _ => none }
def fnCoursesRow : OpenClaim := { program := "ytddbbbmamoficaa", sum := "85cfbb6ee9c2f5970aefd0f697994e0cbf1b6c967679061787133e4fa174bce9", func := "loop.example/g00938/laws.FnCourses", spec := "fnCourses", unfollowed := true, recurses := true, apart := false }
def FnCoursesSaid : Prop := fnCoursesRow.holds Try.pinned (OpenSpec.ofChange fnCoursesSpec)

/-- ITS FALSE NEIGHBOUR: 'it returns false'. Refute it at one input. -/
def fnCoursesWrong : ChangeSpec := { name := "fnCourses", fn := fun _ => fun
  | [d] => { results := [.lit (.bool false)], args := [d] }
  | _ => none }
def FnCoursesWrongFalsely : Prop := fnCoursesRow.holds Try.pinned (OpenSpec.ofChange fnCoursesWrong)

/-- 'laws.FnRoutes': WHATEVER THE INPUT: true; the input reads as it did. -/
def fnRoutesSpec : ChangeSpec := { name := "fnRoutes", fn := fun _ => fun
  | [d] => { results := [.lit (.bool true)], args := [d] }
  | _ => none }
def fnRoutesRow : OpenClaim := { program := "ytddbbbmamoficaa", sum := "85cfbb6ee9c2f5970aefd0f697994e0cbf1b6c967679061787133e4fa174bce9", func := "loop.example/g00938/laws.FnRoutes", spec := "fnRoutes", unfollowed := true, recurses := true, apart := false }
def FnRoutesSaid : Prop := fnRoutesRow.holds Try.pinned (OpenSpec.ofChange fnRoutesSpec)

/-- ITS FALSE NEIGHBOUR: 'it returns false'. Refute it at one input. -/
def fnRoutesWrong : ChangeSpec := { name := "fnRoutes", fn := fun _ => fun
  | [d] => { results := [.lit (.bool false)], args := [d] }
  | _ => none }
def FnRoutesWrongFalsely : Prop := fnRoutesRow.holds Try.pinned (OpenSpec.ofChange fnRoutesWrong)

/-- 'laws.FnDetours': WHATEVER THE INPUT: true; the input reads as it did. -/
def fnDetoursSpec : ChangeSpec := { name := "fnDetours", fn := fun _ => fun
  | [d] => { results := [.lit (.bool true)], args := [d] }
  | _ => none }
def fnDetoursRow : OpenClaim := { program := "ytddbbbmamoficaa", sum := "85cfbb6ee9c2f5970aefd0f697994e0cbf1b6c967679061787133e4fa174bce9", func := "loop.example/g00938/laws.FnDetours", spec := "fnDetours", unfollowed := true, recurses := true, apart := false }
def FnDetoursSaid : Prop := fnDetoursRow.holds Try.pinned (OpenSpec.ofChange fnDetoursSpec)

/-- ITS FALSE NEIGHBOUR: 'it returns false'. Refute it at one input. -/
def fnDetoursWrong : ChangeSpec := { name := "fnDetours", fn := fun _ => fun
  | [d] => { results := [.lit (.bool false)], args := [d] }
  | _ => none }
def FnDetoursWrongFalsely : Prop := fnDetoursRow.holds Try.pinned (OpenSpec.ofChange fnDetoursWrong)

/- THE SECOND FORM. 'bulk': how many values and letters a reading holds, each counted each time it is reached (what is shared counts as often as it is met; a slice's spare places count too). A statement '..UptoSaid' is the law's where the arguments, and the package variables that the reading takes, are together of bulk at most 1048576: NARROWER than '..Said'. Prove '..Said' where nothing that the law and all that it calls make is longer than what came in: it says more and counts as full. Else prove '..UptoSaid'. A law counts once. -/
mutual
def uptoBulk {H : Type} : DataW H → Nat
  | .lit (.string bytes) => bytes.length + 1
  | .lit _ => 1
  | .nil => 1
  | .ptr d => uptoBulk d + 1
  | .slice elems spare => uptoBulkAll elems + uptoBulkAll spare + 1
  | .agg parts => uptoBulkAll parts + 1
  | .iface _ d => uptoBulk d + 1
  | .map entries => uptoBulkEntries entries + 1
  | .held _ => 1
def uptoBulkAll {H : Type} : List (DataW H) → Nat
  | [] => 0
  | d :: r => uptoBulk d + uptoBulkAll r
def uptoBulkEntries {H : Type} : List (Lit × DataW H) → Nat
  | [] => 0
  | x :: r => uptoBulkEntry x + uptoBulkEntries r
def uptoBulkEntry {H : Type} : Lit × DataW H → Nat
  | (.string bytes, d) => bytes.length + uptoBulk d + 1
  | (_, d) => uptoBulk d + 1
 end
def uptoSmall : (H : Type) → List (DataW H) → Bool := fun _ ds => decide (uptoBulkAll ds ≤ 1048576)
def OpenSpec.upto (s : _root_.Go.ChangeSpec) : _root_.Go.OpenSpec := { _root_.Go.OpenSpec.ofChange s with cond := some uptoSmall }

/-- 'laws.FnCourses', WHERE WHAT IT READS IS OF BULK AT MOST 1048576: true; the input reads as it did. -/
def fnCoursesUptoRow : OpenClaim := { program := "ytddbbbmamoficaa", sum := "85cfbb6ee9c2f5970aefd0f697994e0cbf1b6c967679061787133e4fa174bce9", func := "loop.example/g00938/laws.FnCourses", spec := "fnCourses", unfollowed := true, recurses := true, apart := false, narrowed := true }
def FnCoursesUptoSaid : Prop := fnCoursesUptoRow.holds Try.pinned (OpenSpec.upto fnCoursesSpec)

/-- 'laws.FnRoutes', WHERE WHAT IT READS IS OF BULK AT MOST 1048576: true; the input reads as it did. -/
def fnRoutesUptoRow : OpenClaim := { program := "ytddbbbmamoficaa", sum := "85cfbb6ee9c2f5970aefd0f697994e0cbf1b6c967679061787133e4fa174bce9", func := "loop.example/g00938/laws.FnRoutes", spec := "fnRoutes", unfollowed := true, recurses := true, apart := false, narrowed := true }
def FnRoutesUptoSaid : Prop := fnRoutesUptoRow.holds Try.pinned (OpenSpec.upto fnRoutesSpec)

/-- 'laws.FnDetours', WHERE WHAT IT READS IS OF BULK AT MOST 1048576: true; the input reads as it did. -/
def fnDetoursUptoRow : OpenClaim := { program := "ytddbbbmamoficaa", sum := "85cfbb6ee9c2f5970aefd0f697994e0cbf1b6c967679061787133e4fa174bce9", func := "loop.example/g00938/laws.FnDetours", spec := "fnDetours", unfollowed := true, recurses := true, apart := false, narrowed := true }
def FnDetoursUptoSaid : Prop := fnDetoursUptoRow.holds Try.pinned (OpenSpec.upto fnDetoursSpec)

end Rows
end Go.Proofs.Ytddbbbmamoficaa
