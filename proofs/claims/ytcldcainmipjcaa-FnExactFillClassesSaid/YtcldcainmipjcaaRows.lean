/-
  No cell of these rows narrows 'for every input' (looked for: loops, veiled, ifaces, maps, wideKeys, modest, calm, conditions, laid).
  DERIVED. THE GIVEN ROWS OF THIS SEAT. 10 by the template 'for every input the law returns true; each argument reads behind the call as it read before'; 0 by the template 'total and deterministic' (their statements: YtcldcainmipjcaaTotals.lean).
  GIVEN WITH THE SEED: the statements are not yours to turn. If you find one false, say at which input.
  Laid BY PROGRAM, IN A SANDBOX (cutbox-rows.mjs): the forced cells as the released guide's own fill.sh prints them over the translation 408fd907e94e2647… (all of the seat's roots in one cut). By AI agents, Wed Nov 11 2026. No macro, syntax, notation, axiom, sorry.
-/
import Derived.Test.YtcldcainmipjcaaChecked
import GoSem.Claim
import GoSem.ClaimJoined
import GoSem.ClaimMapViews
import Derived.JoinedTies
import Derived.KernelRfl
namespace Go.Proofs.Ytcldcainmipjcaa
/- THE CELL 'sum', in the pinned program and in every row, IS THE sha256 OF THE DUMP (.gsa) THAT YtcldcainmipjcaaProg.lean LOADS. Nothing in Lean hashes anything: it is a label: what it is worth is what the hold of that sum in a sandbox is worth. -/
noncomputable def Try.pinned : Pinned := { name := "ytcldcainmipjcaa", sum := "408fd907e94e26477e222cd823f81e0a6213d3bc12a5289086324d4c3c5b2436", checked := Try.checked }
namespace Rows
def none {H : Type} : Left H := { results := [], args := [] }

/-- 'laws.FnExactIsClass': WHATEVER THE INPUT: true; the input reads as it did. -/
def fnExactIsClassSpec : ChangeSpec := { name := "fnExactIsClass", fn := fun _ => fun
  | [d] => { results := [.lit (.bool true)], args := [d] }
  | _ => none }
def fnExactIsClassRow : OpenClaim := { program := "ytcldcainmipjcaa", sum := "408fd907e94e26477e222cd823f81e0a6213d3bc12a5289086324d4c3c5b2436", func := "loop.example/g00938/laws.FnExactIsClass", spec := "fnExactIsClass", apart := false }
def FnExactIsClassSaid : Prop := fnExactIsClassRow.holds Try.pinned (OpenSpec.ofChange fnExactIsClassSpec)

/-- ITS FALSE NEIGHBOUR: 'it returns false'. Refute it at one input. -/
def fnExactIsClassWrong : ChangeSpec := { name := "fnExactIsClass", fn := fun _ => fun
  | [d] => { results := [.lit (.bool false)], args := [d] }
  | _ => none }
def FnExactIsClassWrongFalsely : Prop := fnExactIsClassRow.holds Try.pinned (OpenSpec.ofChange fnExactIsClassWrong)

/-- 'laws.FnExactDoesAdmit': WHATEVER THE INPUT: true; the input reads as it did. -/
def fnExactDoesAdmitSpec : ChangeSpec := { name := "fnExactDoesAdmit", fn := fun _ => fun
  | [d1, d2] => { results := [.lit (.bool true)], args := [d1, d2] }
  | _ => none }
def fnExactDoesAdmitRow : OpenClaim := { program := "ytcldcainmipjcaa", sum := "408fd907e94e26477e222cd823f81e0a6213d3bc12a5289086324d4c3c5b2436", func := "loop.example/g00938/laws.FnExactDoesAdmit", spec := "fnExactDoesAdmit", apart := false }
def FnExactDoesAdmitSaid : Prop := fnExactDoesAdmitRow.holds Try.pinned (OpenSpec.ofChange fnExactDoesAdmitSpec)

/-- ITS FALSE NEIGHBOUR: 'it returns false'. Refute it at one input. -/
def fnExactDoesAdmitWrong : ChangeSpec := { name := "fnExactDoesAdmit", fn := fun _ => fun
  | [d1, d2] => { results := [.lit (.bool false)], args := [d1, d2] }
  | _ => none }
def FnExactDoesAdmitWrongFalsely : Prop := fnExactDoesAdmitRow.holds Try.pinned (OpenSpec.ofChange fnExactDoesAdmitWrong)

/-- 'laws.FnExactAreClasses': WHATEVER THE INPUT: true; the input reads as it did. -/
def fnExactAreClassesSpec : ChangeSpec := { name := "fnExactAreClasses", fn := fun _ => fun
  | [d] => { results := [.lit (.bool true)], args := [d] }
  | _ => none }
def fnExactAreClassesRow : OpenClaim := { program := "ytcldcainmipjcaa", sum := "408fd907e94e26477e222cd823f81e0a6213d3bc12a5289086324d4c3c5b2436", func := "loop.example/g00938/laws.FnExactAreClasses", spec := "fnExactAreClasses", unfollowed := true, recurses := true, apart := false }
def FnExactAreClassesSaid : Prop := fnExactAreClassesRow.holds Try.pinned (OpenSpec.ofChange fnExactAreClassesSpec)

/-- ITS FALSE NEIGHBOUR: 'it returns false'. Refute it at one input. -/
def fnExactAreClassesWrong : ChangeSpec := { name := "fnExactAreClasses", fn := fun _ => fun
  | [d] => { results := [.lit (.bool false)], args := [d] }
  | _ => none }
def FnExactAreClassesWrongFalsely : Prop := fnExactAreClassesRow.holds Try.pinned (OpenSpec.ofChange fnExactAreClassesWrong)

/-- 'laws.FnExactCourseOf': WHATEVER THE INPUT: true; the input reads as it did. -/
def fnExactCourseOfSpec : ChangeSpec := { name := "fnExactCourseOf", fn := fun _ => fun
  | [d1, d2] => { results := [.lit (.bool true)], args := [d1, d2] }
  | _ => none }
def fnExactCourseOfRow : OpenClaim := { program := "ytcldcainmipjcaa", sum := "408fd907e94e26477e222cd823f81e0a6213d3bc12a5289086324d4c3c5b2436", func := "loop.example/g00938/laws.FnExactCourseOf", spec := "fnExactCourseOf", unfollowed := true, recurses := true, apart := false }
def FnExactCourseOfSaid : Prop := fnExactCourseOfRow.holds Try.pinned (OpenSpec.ofChange fnExactCourseOfSpec)

/-- ITS FALSE NEIGHBOUR: 'it returns false'. Refute it at one input. -/
def fnExactCourseOfWrong : ChangeSpec := { name := "fnExactCourseOf", fn := fun _ => fun
  | [d1, d2] => { results := [.lit (.bool false)], args := [d1, d2] }
  | _ => none }
def FnExactCourseOfWrongFalsely : Prop := fnExactCourseOfRow.holds Try.pinned (OpenSpec.ofChange fnExactCourseOfWrong)

/-- 'laws.FnExactBestClass': WHATEVER THE INPUT: true; the input reads as it did. -/
def fnExactBestClassSpec : ChangeSpec := { name := "fnExactBestClass", fn := fun _ => fun
  | [d1, d2] => { results := [.lit (.bool true)], args := [d1, d2] }
  | _ => none }
def fnExactBestClassRow : OpenClaim := { program := "ytcldcainmipjcaa", sum := "408fd907e94e26477e222cd823f81e0a6213d3bc12a5289086324d4c3c5b2436", func := "loop.example/g00938/laws.FnExactBestClass", spec := "fnExactBestClass", unfollowed := true, recurses := true, apart := false }
def FnExactBestClassSaid : Prop := fnExactBestClassRow.holds Try.pinned (OpenSpec.ofChange fnExactBestClassSpec)

/-- ITS FALSE NEIGHBOUR: 'it returns false'. Refute it at one input. -/
def fnExactBestClassWrong : ChangeSpec := { name := "fnExactBestClass", fn := fun _ => fun
  | [d1, d2] => { results := [.lit (.bool false)], args := [d1, d2] }
  | _ => none }
def FnExactBestClassWrongFalsely : Prop := fnExactBestClassRow.holds Try.pinned (OpenSpec.ofChange fnExactBestClassWrong)

/-- 'laws.FnExactClassesFor': WHATEVER THE INPUT: true; the input reads as it did. -/
def fnExactClassesForSpec : ChangeSpec := { name := "fnExactClassesFor", fn := fun _ => fun
  | [d1, d2] => { results := [.lit (.bool true)], args := [d1, d2] }
  | _ => none }
def fnExactClassesForRow : OpenClaim := { program := "ytcldcainmipjcaa", sum := "408fd907e94e26477e222cd823f81e0a6213d3bc12a5289086324d4c3c5b2436", func := "loop.example/g00938/laws.FnExactClassesFor", spec := "fnExactClassesFor", unfollowed := true, recurses := true, apart := false }
def FnExactClassesForSaid : Prop := fnExactClassesForRow.holds Try.pinned (OpenSpec.ofChange fnExactClassesForSpec)

/-- ITS FALSE NEIGHBOUR: 'it returns false'. Refute it at one input. -/
def fnExactClassesForWrong : ChangeSpec := { name := "fnExactClassesFor", fn := fun _ => fun
  | [d1, d2] => { results := [.lit (.bool false)], args := [d1, d2] }
  | _ => none }
def FnExactClassesForWrongFalsely : Prop := fnExactClassesForRow.holds Try.pinned (OpenSpec.ofChange fnExactClassesForWrong)

/-- 'laws.FnExactAgesWithout': WHATEVER THE INPUT: true; the input reads as it did. -/
def fnExactAgesWithoutSpec : ChangeSpec := { name := "fnExactAgesWithout", fn := fun _ => fun
  | [d1, d2] => { results := [.lit (.bool true)], args := [d1, d2] }
  | _ => none }
def fnExactAgesWithoutRow : OpenClaim := { program := "ytcldcainmipjcaa", sum := "408fd907e94e26477e222cd823f81e0a6213d3bc12a5289086324d4c3c5b2436", func := "loop.example/g00938/laws.FnExactAgesWithout", spec := "fnExactAgesWithout", unfollowed := true, recurses := true, apart := false }
def FnExactAgesWithoutSaid : Prop := fnExactAgesWithoutRow.holds Try.pinned (OpenSpec.ofChange fnExactAgesWithoutSpec)

/-- ITS FALSE NEIGHBOUR: 'it returns false'. Refute it at one input. -/
def fnExactAgesWithoutWrong : ChangeSpec := { name := "fnExactAgesWithout", fn := fun _ => fun
  | [d1, d2] => { results := [.lit (.bool false)], args := [d1, d2] }
  | _ => none }
def FnExactAgesWithoutWrongFalsely : Prop := fnExactAgesWithoutRow.holds Try.pinned (OpenSpec.ofChange fnExactAgesWithoutWrong)

/-- 'laws.FnExactFillClasses': WHATEVER THE INPUT: true; the input reads as it did. -/
def fnExactFillClassesSpec : ChangeSpec := { name := "fnExactFillClasses", fn := fun _ => fun
  | [d1, d2] => { results := [.lit (.bool true)], args := [d1, d2] }
  | _ => none }
def fnExactFillClassesRow : OpenClaim := { program := "ytcldcainmipjcaa", sum := "408fd907e94e26477e222cd823f81e0a6213d3bc12a5289086324d4c3c5b2436", func := "loop.example/g00938/laws.FnExactFillClasses", spec := "fnExactFillClasses", unfollowed := true, recurses := true, apart := false }
def FnExactFillClassesSaid : Prop := fnExactFillClassesRow.holds Try.pinned (OpenSpec.ofChange fnExactFillClassesSpec)

/-- ITS FALSE NEIGHBOUR: 'it returns false'. Refute it at one input. -/
def fnExactFillClassesWrong : ChangeSpec := { name := "fnExactFillClasses", fn := fun _ => fun
  | [d1, d2] => { results := [.lit (.bool false)], args := [d1, d2] }
  | _ => none }
def FnExactFillClassesWrongFalsely : Prop := fnExactFillClassesRow.holds Try.pinned (OpenSpec.ofChange fnExactFillClassesWrong)

/-- 'laws.FnExactSharedCourses': WHATEVER THE INPUT: true; the input reads as it did. -/
def fnExactSharedCoursesSpec : ChangeSpec := { name := "fnExactSharedCourses", fn := fun _ => fun
  | [d] => { results := [.lit (.bool true)], args := [d] }
  | _ => none }
def fnExactSharedCoursesRow : OpenClaim := { program := "ytcldcainmipjcaa", sum := "408fd907e94e26477e222cd823f81e0a6213d3bc12a5289086324d4c3c5b2436", func := "loop.example/g00938/laws.FnExactSharedCourses", spec := "fnExactSharedCourses", unfollowed := true, recurses := true, apart := false }
def FnExactSharedCoursesSaid : Prop := fnExactSharedCoursesRow.holds Try.pinned (OpenSpec.ofChange fnExactSharedCoursesSpec)

/-- ITS FALSE NEIGHBOUR: 'it returns false'. Refute it at one input. -/
def fnExactSharedCoursesWrong : ChangeSpec := { name := "fnExactSharedCourses", fn := fun _ => fun
  | [d] => { results := [.lit (.bool false)], args := [d] }
  | _ => none }
def FnExactSharedCoursesWrongFalsely : Prop := fnExactSharedCoursesRow.holds Try.pinned (OpenSpec.ofChange fnExactSharedCoursesWrong)

/-- 'laws.FnClassLists': WHATEVER THE INPUT: true; the input reads as it did. -/
def fnClassListsSpec : ChangeSpec := { name := "fnClassLists", fn := fun _ => fun
  | [d] => { results := [.lit (.bool true)], args := [d] }
  | _ => none }
def fnClassListsRow : OpenClaim := { program := "ytcldcainmipjcaa", sum := "408fd907e94e26477e222cd823f81e0a6213d3bc12a5289086324d4c3c5b2436", func := "loop.example/g00938/laws.FnClassLists", spec := "fnClassLists", unfollowed := true, recurses := true, apart := false }
def FnClassListsSaid : Prop := fnClassListsRow.holds Try.pinned (OpenSpec.ofChange fnClassListsSpec)

/-- ITS FALSE NEIGHBOUR: 'it returns false'. Refute it at one input. -/
def fnClassListsWrong : ChangeSpec := { name := "fnClassLists", fn := fun _ => fun
  | [d] => { results := [.lit (.bool false)], args := [d] }
  | _ => none }
def FnClassListsWrongFalsely : Prop := fnClassListsRow.holds Try.pinned (OpenSpec.ofChange fnClassListsWrong)

/- THE SECOND FORM. 'bulk': how many values and letters a reading holds, each counted each time it is reached (what is shared counts as often as it is met; a slice's spare places count too). A statement '..UptoSaid' is the law's where the arguments, and the package variables that the reading takes, are together of bulk at most 1048576: NARROWER than '..Said'. Prove '..Said' where nothing that the law and all that it calls make is longer than what came in: it says more and counts as full. Else prove '..UptoSaid'. A law counts once. -/
mutual
def uptoBulk {H : Type} : DataW H → Nat
  | .lit (.string bytes) => bytes.length + 1
  | .lit _ => 1
  | .nil => 1
  | .ptr d => uptoBulk d + 1
  | .slice elems spare => uptoBulkAll elems + uptoBulkAll spare + 1
  | .agg parts => uptoBulkAll parts + 1
  | .iface _ d => uptoBulk d + 1
  | .map entries => uptoBulkEntries entries + 1
  | .held _ => 1
def uptoBulkAll {H : Type} : List (DataW H) → Nat
  | [] => 0
  | d :: r => uptoBulk d + uptoBulkAll r
def uptoBulkEntries {H : Type} : List (Lit × DataW H) → Nat
  | [] => 0
  | x :: r => uptoBulkEntry x + uptoBulkEntries r
def uptoBulkEntry {H : Type} : Lit × DataW H → Nat
  | (.string bytes, d) => bytes.length + uptoBulk d + 1
  | (_, d) => uptoBulk d + 1
 end
def uptoSmall : (H : Type) → List (DataW H) → Bool := fun _ ds => decide (uptoBulkAll ds ≤ 1048576)
def OpenSpec.upto (s : _root_.Go.ChangeSpec) : _root_.Go.OpenSpec := { _root_.Go.OpenSpec.ofChange s with cond := some uptoSmall }

/-- 'laws.FnExactIsClass', WHERE WHAT IT READS IS OF BULK AT MOST 1048576: true; the input reads as it did. -/
def fnExactIsClassUptoRow : OpenClaim := { program := "ytcldcainmipjcaa", sum := "408fd907e94e26477e222cd823f81e0a6213d3bc12a5289086324d4c3c5b2436", func := "loop.example/g00938/laws.FnExactIsClass", spec := "fnExactIsClass", apart := false, narrowed := true }
def FnExactIsClassUptoSaid : Prop := fnExactIsClassUptoRow.holds Try.pinned (OpenSpec.upto fnExactIsClassSpec)

/-- 'laws.FnExactDoesAdmit', WHERE WHAT IT READS IS OF BULK AT MOST 1048576: true; the input reads as it did. -/
def fnExactDoesAdmitUptoRow : OpenClaim := { program := "ytcldcainmipjcaa", sum := "408fd907e94e26477e222cd823f81e0a6213d3bc12a5289086324d4c3c5b2436", func := "loop.example/g00938/laws.FnExactDoesAdmit", spec := "fnExactDoesAdmit", apart := false, narrowed := true }
def FnExactDoesAdmitUptoSaid : Prop := fnExactDoesAdmitUptoRow.holds Try.pinned (OpenSpec.upto fnExactDoesAdmitSpec)

/-- 'laws.FnExactAreClasses', WHERE WHAT IT READS IS OF BULK AT MOST 1048576: true; the input reads as it did. -/
def fnExactAreClassesUptoRow : OpenClaim := { program := "ytcldcainmipjcaa", sum := "408fd907e94e26477e222cd823f81e0a6213d3bc12a5289086324d4c3c5b2436", func := "loop.example/g00938/laws.FnExactAreClasses", spec := "fnExactAreClasses", unfollowed := true, recurses := true, apart := false, narrowed := true }
def FnExactAreClassesUptoSaid : Prop := fnExactAreClassesUptoRow.holds Try.pinned (OpenSpec.upto fnExactAreClassesSpec)

/-- 'laws.FnExactCourseOf', WHERE WHAT IT READS IS OF BULK AT MOST 1048576: true; the input reads as it did. -/
def fnExactCourseOfUptoRow : OpenClaim := { program := "ytcldcainmipjcaa", sum := "408fd907e94e26477e222cd823f81e0a6213d3bc12a5289086324d4c3c5b2436", func := "loop.example/g00938/laws.FnExactCourseOf", spec := "fnExactCourseOf", unfollowed := true, recurses := true, apart := false, narrowed := true }
def FnExactCourseOfUptoSaid : Prop := fnExactCourseOfUptoRow.holds Try.pinned (OpenSpec.upto fnExactCourseOfSpec)

/-- 'laws.FnExactBestClass', WHERE WHAT IT READS IS OF BULK AT MOST 1048576: true; the input reads as it did. -/
def fnExactBestClassUptoRow : OpenClaim := { program := "ytcldcainmipjcaa", sum := "408fd907e94e26477e222cd823f81e0a6213d3bc12a5289086324d4c3c5b2436", func := "loop.example/g00938/laws.FnExactBestClass", spec := "fnExactBestClass", unfollowed := true, recurses := true, apart := false, narrowed := true }
def FnExactBestClassUptoSaid : Prop := fnExactBestClassUptoRow.holds Try.pinned (OpenSpec.upto fnExactBestClassSpec)

/-- 'laws.FnExactClassesFor', WHERE WHAT IT READS IS OF BULK AT MOST 1048576: true; the input reads as it did. -/
def fnExactClassesForUptoRow : OpenClaim := { program := "ytcldcainmipjcaa", sum := "408fd907e94e26477e222cd823f81e0a6213d3bc12a5289086324d4c3c5b2436", func := "loop.example/g00938/laws.FnExactClassesFor", spec := "fnExactClassesFor", unfollowed := true, recurses := true, apart := false, narrowed := true }
def FnExactClassesForUptoSaid : Prop := fnExactClassesForUptoRow.holds Try.pinned (OpenSpec.upto fnExactClassesForSpec)

/-- 'laws.FnExactAgesWithout', WHERE WHAT IT READS IS OF BULK AT MOST 1048576: true; the input reads as it did. -/
def fnExactAgesWithoutUptoRow : OpenClaim := { program := "ytcldcainmipjcaa", sum := "408fd907e94e26477e222cd823f81e0a6213d3bc12a5289086324d4c3c5b2436", func := "loop.example/g00938/laws.FnExactAgesWithout", spec := "fnExactAgesWithout", unfollowed := true, recurses := true, apart := false, narrowed := true }
def FnExactAgesWithoutUptoSaid : Prop := fnExactAgesWithoutUptoRow.holds Try.pinned (OpenSpec.upto fnExactAgesWithoutSpec)

/-- 'laws.FnExactFillClasses', WHERE WHAT IT READS IS OF BULK AT MOST 1048576: true; the input reads as it did. -/
def fnExactFillClassesUptoRow : OpenClaim := { program := "ytcldcainmipjcaa", sum := "408fd907e94e26477e222cd823f81e0a6213d3bc12a5289086324d4c3c5b2436", func := "loop.example/g00938/laws.FnExactFillClasses", spec := "fnExactFillClasses", unfollowed := true, recurses := true, apart := false, narrowed := true }
def FnExactFillClassesUptoSaid : Prop := fnExactFillClassesUptoRow.holds Try.pinned (OpenSpec.upto fnExactFillClassesSpec)

/-- 'laws.FnExactSharedCourses', WHERE WHAT IT READS IS OF BULK AT MOST 1048576: true; the input reads as it did. -/
def fnExactSharedCoursesUptoRow : OpenClaim := { program := "ytcldcainmipjcaa", sum := "408fd907e94e26477e222cd823f81e0a6213d3bc12a5289086324d4c3c5b2436", func := "loop.example/g00938/laws.FnExactSharedCourses", spec := "fnExactSharedCourses", unfollowed := true, recurses := true, apart := false, narrowed := true }
def FnExactSharedCoursesUptoSaid : Prop := fnExactSharedCoursesUptoRow.holds Try.pinned (OpenSpec.upto fnExactSharedCoursesSpec)

/-- 'laws.FnClassLists', WHERE WHAT IT READS IS OF BULK AT MOST 1048576: true; the input reads as it did. -/
def fnClassListsUptoRow : OpenClaim := { program := "ytcldcainmipjcaa", sum := "408fd907e94e26477e222cd823f81e0a6213d3bc12a5289086324d4c3c5b2436", func := "loop.example/g00938/laws.FnClassLists", spec := "fnClassLists", unfollowed := true, recurses := true, apart := false, narrowed := true }
def FnClassListsUptoSaid : Prop := fnClassListsUptoRow.holds Try.pinned (OpenSpec.upto fnClassListsSpec)

end Rows
end Go.Proofs.Ytcldcainmipjcaa
