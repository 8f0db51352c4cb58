/-
  No cell of these rows narrows 'for every input' (looked for: loops, veiled, ifaces, maps, wideKeys, modest, calm, conditions, laid).
  DERIVED. THE GIVEN ROWS OF THIS SEAT. 10 by the template 'for every input the law returns true; each argument reads behind the call as it read before'; 0 by the template 'total and deterministic' (their statements: YtohmefblkfophaaTotals.lean).
  GIVEN WITH THE SEED: the statements are not yours to turn. If you find one false, say at which input.
  Laid BY PROGRAM, IN A SANDBOX (cutbox-rows.mjs): the forced cells as the released guide's own fill.sh prints them over the translation 00712ea9abd59f93… (all of the seat's roots in one cut). By AI agents, Wed Nov 11 2026. No macro, syntax, notation, axiom, sorry.
-/
import Derived.Test.YtohmefblkfophaaChecked
import GoSem.Claim
import GoSem.ClaimJoined
import GoSem.ClaimMapViews
import Derived.JoinedTies
import Derived.KernelRfl
namespace Go.Proofs.Ytohmefblkfophaa
/- THE CELL 'sum', in the pinned program and in every row, IS THE sha256 OF THE DUMP (.gsa) THAT YtohmefblkfophaaProg.lean LOADS. Nothing in Lean hashes anything: it is a label: what it is worth is what the hold of that sum in a sandbox is worth. -/
noncomputable def Try.pinned : Pinned := { name := "ytohmefblkfophaa", sum := "00712ea9abd59f93b7274d83388cb4e68e2f96eb3d280c6c0655a64b94898b18", checked := Try.checked }
namespace Rows
def none {H : Type} : Left H := { results := [], args := [] }

/-- 'laws.FnExactAreEntries': WHATEVER THE INPUT: true; the input reads as it did. -/
def fnExactAreEntriesSpec : ChangeSpec := { name := "fnExactAreEntries", fn := fun _ => fun
  | [d] => { results := [.lit (.bool true)], args := [d] }
  | _ => none }
def fnExactAreEntriesRow : OpenClaim := { program := "ytohmefblkfophaa", sum := "00712ea9abd59f93b7274d83388cb4e68e2f96eb3d280c6c0655a64b94898b18", func := "loop.example/g00938/laws.FnExactAreEntries", spec := "fnExactAreEntries", apart := false }
def FnExactAreEntriesSaid : Prop := fnExactAreEntriesRow.holds Try.pinned (OpenSpec.ofChange fnExactAreEntriesSpec)

/-- ITS FALSE NEIGHBOUR: 'it returns false'. Refute it at one input. -/
def fnExactAreEntriesWrong : ChangeSpec := { name := "fnExactAreEntries", fn := fun _ => fun
  | [d] => { results := [.lit (.bool false)], args := [d] }
  | _ => none }
def FnExactAreEntriesWrongFalsely : Prop := fnExactAreEntriesRow.holds Try.pinned (OpenSpec.ofChange fnExactAreEntriesWrong)

/-- 'laws.FnExactLateEntries': WHATEVER THE INPUT: true; the input reads as it did. -/
def fnExactLateEntriesSpec : ChangeSpec := { name := "fnExactLateEntries", fn := fun _ => fun
  | [d] => { results := [.lit (.bool true)], args := [d] }
  | _ => none }
def fnExactLateEntriesRow : OpenClaim := { program := "ytohmefblkfophaa", sum := "00712ea9abd59f93b7274d83388cb4e68e2f96eb3d280c6c0655a64b94898b18", func := "loop.example/g00938/laws.FnExactLateEntries", spec := "fnExactLateEntries", apart := false }
def FnExactLateEntriesSaid : Prop := fnExactLateEntriesRow.holds Try.pinned (OpenSpec.ofChange fnExactLateEntriesSpec)

/-- ITS FALSE NEIGHBOUR: 'it returns false'. Refute it at one input. -/
def fnExactLateEntriesWrong : ChangeSpec := { name := "fnExactLateEntries", fn := fun _ => fun
  | [d] => { results := [.lit (.bool false)], args := [d] }
  | _ => none }
def FnExactLateEntriesWrongFalsely : Prop := fnExactLateEntriesRow.holds Try.pinned (OpenSpec.ofChange fnExactLateEntriesWrong)

/-- 'laws.FnExactRefundFor': WHATEVER THE INPUT: true; the input reads as it did. -/
def fnExactRefundForSpec : ChangeSpec := { name := "fnExactRefundFor", fn := fun _ => fun
  | [d1, d2, d3] => { results := [.lit (.bool true)], args := [d1, d2, d3] }
  | _ => none }
def fnExactRefundForRow : OpenClaim := { program := "ytohmefblkfophaa", sum := "00712ea9abd59f93b7274d83388cb4e68e2f96eb3d280c6c0655a64b94898b18", func := "loop.example/g00938/laws.FnExactRefundFor", spec := "fnExactRefundFor", unfollowed := true, recurses := true, apart := false }
def FnExactRefundForSaid : Prop := fnExactRefundForRow.holds Try.pinned (OpenSpec.ofChange fnExactRefundForSpec)

/-- ITS FALSE NEIGHBOUR: 'it returns false'. Refute it at one input. -/
def fnExactRefundForWrong : ChangeSpec := { name := "fnExactRefundFor", fn := fun _ => fun
  | [d1, d2, d3] => { results := [.lit (.bool false)], args := [d1, d2, d3] }
  | _ => none }
def FnExactRefundForWrongFalsely : Prop := fnExactRefundForRow.holds Try.pinned (OpenSpec.ofChange fnExactRefundForWrong)

/-- 'laws.FnExactPayEntry': WHATEVER THE INPUT: true; the input reads as it did. -/
def fnExactPayEntrySpec : ChangeSpec := { name := "fnExactPayEntry", fn := fun _ => fun
  | [d1, d2, d3] => { results := [.lit (.bool true)], args := [d1, d2, d3] }
  | _ => none }
def fnExactPayEntryRow : OpenClaim := { program := "ytohmefblkfophaa", sum := "00712ea9abd59f93b7274d83388cb4e68e2f96eb3d280c6c0655a64b94898b18", func := "loop.example/g00938/laws.FnExactPayEntry", spec := "fnExactPayEntry", unfollowed := true, recurses := true, apart := false }
def FnExactPayEntrySaid : Prop := fnExactPayEntryRow.holds Try.pinned (OpenSpec.ofChange fnExactPayEntrySpec)

/-- ITS FALSE NEIGHBOUR: 'it returns false'. Refute it at one input. -/
def fnExactPayEntryWrong : ChangeSpec := { name := "fnExactPayEntry", fn := fun _ => fun
  | [d1, d2, d3] => { results := [.lit (.bool false)], args := [d1, d2, d3] }
  | _ => none }
def FnExactPayEntryWrongFalsely : Prop := fnExactPayEntryRow.holds Try.pinned (OpenSpec.ofChange fnExactPayEntryWrong)

/-- 'laws.FnExactChangeClass': WHATEVER THE INPUT: true; the input reads as it did. -/
def fnExactChangeClassSpec : ChangeSpec := { name := "fnExactChangeClass", fn := fun _ => fun
  | [d1, d2, d3, d4] => { results := [.lit (.bool true)], args := [d1, d2, d3, d4] }
  | _ => none }
def fnExactChangeClassRow : OpenClaim := { program := "ytohmefblkfophaa", sum := "00712ea9abd59f93b7274d83388cb4e68e2f96eb3d280c6c0655a64b94898b18", func := "loop.example/g00938/laws.FnExactChangeClass", spec := "fnExactChangeClass", unfollowed := true, recurses := true, apart := false }
def FnExactChangeClassSaid : Prop := fnExactChangeClassRow.holds Try.pinned (OpenSpec.ofChange fnExactChangeClassSpec)

/-- ITS FALSE NEIGHBOUR: 'it returns false'. Refute it at one input. -/
def fnExactChangeClassWrong : ChangeSpec := { name := "fnExactChangeClass", fn := fun _ => fun
  | [d1, d2, d3, d4] => { results := [.lit (.bool false)], args := [d1, d2, d3, d4] }
  | _ => none }
def FnExactChangeClassWrongFalsely : Prop := fnExactChangeClassRow.holds Try.pinned (OpenSpec.ofChange fnExactChangeClassWrong)

/-- 'laws.FnExactClassSizes': WHATEVER THE INPUT: true; the input reads as it did. -/
def fnExactClassSizesSpec : ChangeSpec := { name := "fnExactClassSizes", fn := fun _ => fun
  | [d] => { results := [.lit (.bool true)], args := [d] }
  | _ => none }
def fnExactClassSizesRow : OpenClaim := { program := "ytohmefblkfophaa", sum := "00712ea9abd59f93b7274d83388cb4e68e2f96eb3d280c6c0655a64b94898b18", func := "loop.example/g00938/laws.FnExactClassSizes", spec := "fnExactClassSizes", apart := false }
def FnExactClassSizesSaid : Prop := fnExactClassSizesRow.holds Try.pinned (OpenSpec.ofChange fnExactClassSizesSpec)

/-- ITS FALSE NEIGHBOUR: 'it returns false'. Refute it at one input. -/
def fnExactClassSizesWrong : ChangeSpec := { name := "fnExactClassSizes", fn := fun _ => fun
  | [d] => { results := [.lit (.bool false)], args := [d] }
  | _ => none }
def FnExactClassSizesWrongFalsely : Prop := fnExactClassSizesRow.holds Try.pinned (OpenSpec.ofChange fnExactClassSizesWrong)

/-- 'laws.FnExactDueFor': WHATEVER THE INPUT: true; the input reads as it did. -/
def fnExactDueForSpec : ChangeSpec := { name := "fnExactDueFor", fn := fun _ => fun
  | [d1, d2, d3] => { results := [.lit (.bool true)], args := [d1, d2, d3] }
  | _ => none }
def fnExactDueForRow : OpenClaim := { program := "ytohmefblkfophaa", sum := "00712ea9abd59f93b7274d83388cb4e68e2f96eb3d280c6c0655a64b94898b18", func := "loop.example/g00938/laws.FnExactDueFor", spec := "fnExactDueFor", unfollowed := true, recurses := true, apart := false }
def FnExactDueForSaid : Prop := fnExactDueForRow.holds Try.pinned (OpenSpec.ofChange fnExactDueForSpec)

/-- ITS FALSE NEIGHBOUR: 'it returns false'. Refute it at one input. -/
def fnExactDueForWrong : ChangeSpec := { name := "fnExactDueFor", fn := fun _ => fun
  | [d1, d2, d3] => { results := [.lit (.bool false)], args := [d1, d2, d3] }
  | _ => none }
def FnExactDueForWrongFalsely : Prop := fnExactDueForRow.holds Try.pinned (OpenSpec.ofChange fnExactDueForWrong)

/-- 'laws.FnExactEnterRunner': WHATEVER THE INPUT: true; the input reads as it did. -/
def fnExactEnterRunnerSpec : ChangeSpec := { name := "fnExactEnterRunner", fn := fun _ => fun
  | [d1, d2] => { results := [.lit (.bool true)], args := [d1, d2] }
  | _ => none }
def fnExactEnterRunnerRow : OpenClaim := { program := "ytohmefblkfophaa", sum := "00712ea9abd59f93b7274d83388cb4e68e2f96eb3d280c6c0655a64b94898b18", func := "loop.example/g00938/laws.FnExactEnterRunner", spec := "fnExactEnterRunner", inPlace := ["slices.overlaps[loop.example/g00938/impl.Entry]"], apart := false }
def FnExactEnterRunnerSaid : Prop := fnExactEnterRunnerRow.holds Try.pinned (OpenSpec.ofChange fnExactEnterRunnerSpec)

/-- ITS FALSE NEIGHBOUR: 'it returns false'. Refute it at one input. -/
def fnExactEnterRunnerWrong : ChangeSpec := { name := "fnExactEnterRunner", fn := fun _ => fun
  | [d1, d2] => { results := [.lit (.bool false)], args := [d1, d2] }
  | _ => none }
def FnExactEnterRunnerWrongFalsely : Prop := fnExactEnterRunnerRow.holds Try.pinned (OpenSpec.ofChange fnExactEnterRunnerWrong)

/-- 'laws.FnExactOpenSums': WHATEVER THE INPUT: true; the input reads as it did. -/
def fnExactOpenSumsSpec : ChangeSpec := { name := "fnExactOpenSums", fn := fun _ => fun
  | [d1, d2, d3] => { results := [.lit (.bool true)], args := [d1, d2, d3] }
  | _ => none }
def fnExactOpenSumsRow : OpenClaim := { program := "ytohmefblkfophaa", sum := "00712ea9abd59f93b7274d83388cb4e68e2f96eb3d280c6c0655a64b94898b18", func := "loop.example/g00938/laws.FnExactOpenSums", spec := "fnExactOpenSums", unfollowed := true, recurses := true, apart := false }
def FnExactOpenSumsSaid : Prop := fnExactOpenSumsRow.holds Try.pinned (OpenSpec.ofChange fnExactOpenSumsSpec)

/-- ITS FALSE NEIGHBOUR: 'it returns false'. Refute it at one input. -/
def fnExactOpenSumsWrong : ChangeSpec := { name := "fnExactOpenSums", fn := fun _ => fun
  | [d1, d2, d3] => { results := [.lit (.bool false)], args := [d1, d2, d3] }
  | _ => none }
def FnExactOpenSumsWrongFalsely : Prop := fnExactOpenSumsRow.holds Try.pinned (OpenSpec.ofChange fnExactOpenSumsWrong)

/-- 'laws.FnExactClubBill': WHATEVER THE INPUT: true; the input reads as it did. -/
def fnExactClubBillSpec : ChangeSpec := { name := "fnExactClubBill", fn := fun _ => fun
  | [d1, d2, d3, d4] => { results := [.lit (.bool true)], args := [d1, d2, d3, d4] }
  | _ => none }
def fnExactClubBillRow : OpenClaim := { program := "ytohmefblkfophaa", sum := "00712ea9abd59f93b7274d83388cb4e68e2f96eb3d280c6c0655a64b94898b18", func := "loop.example/g00938/laws.FnExactClubBill", spec := "fnExactClubBill", unfollowed := true, recurses := true, apart := false }
def FnExactClubBillSaid : Prop := fnExactClubBillRow.holds Try.pinned (OpenSpec.ofChange fnExactClubBillSpec)

/-- ITS FALSE NEIGHBOUR: 'it returns false'. Refute it at one input. -/
def fnExactClubBillWrong : ChangeSpec := { name := "fnExactClubBill", fn := fun _ => fun
  | [d1, d2, d3, d4] => { results := [.lit (.bool false)], args := [d1, d2, d3, d4] }
  | _ => none }
def FnExactClubBillWrongFalsely : Prop := fnExactClubBillRow.holds Try.pinned (OpenSpec.ofChange fnExactClubBillWrong)

/- THE SECOND FORM. 'bulk': how many values and letters a reading holds, each counted each time it is reached (what is shared counts as often as it is met; a slice's spare places count too). A statement '..UptoSaid' is the law's where the arguments, and the package variables that the reading takes, are together of bulk at most 1048576: NARROWER than '..Said'. Prove '..Said' where nothing that the law and all that it calls make is longer than what came in: it says more and counts as full. Else prove '..UptoSaid'. A law counts once. -/
mutual
def uptoBulk {H : Type} : DataW H → Nat
  | .lit (.string bytes) => bytes.length + 1
  | .lit _ => 1
  | .nil => 1
  | .ptr d => uptoBulk d + 1
  | .slice elems spare => uptoBulkAll elems + uptoBulkAll spare + 1
  | .agg parts => uptoBulkAll parts + 1
  | .iface _ d => uptoBulk d + 1
  | .map entries => uptoBulkEntries entries + 1
  | .held _ => 1
def uptoBulkAll {H : Type} : List (DataW H) → Nat
  | [] => 0
  | d :: r => uptoBulk d + uptoBulkAll r
def uptoBulkEntries {H : Type} : List (Lit × DataW H) → Nat
  | [] => 0
  | x :: r => uptoBulkEntry x + uptoBulkEntries r
def uptoBulkEntry {H : Type} : Lit × DataW H → Nat
  | (.string bytes, d) => bytes.length + uptoBulk d + 1
  | (_, d) => uptoBulk d + 1
 end
def uptoSmall : (H : Type) → List (DataW H) → Bool := fun _ ds => decide (uptoBulkAll ds ≤ 1048576)
def OpenSpec.upto (s : _root_.Go.ChangeSpec) : _root_.Go.OpenSpec := { _root_.Go.OpenSpec.ofChange s with cond := some uptoSmall }

/-- 'laws.FnExactAreEntries', WHERE WHAT IT READS IS OF BULK AT MOST 1048576: true; the input reads as it did. -/
def fnExactAreEntriesUptoRow : OpenClaim := { program := "ytohmefblkfophaa", sum := "00712ea9abd59f93b7274d83388cb4e68e2f96eb3d280c6c0655a64b94898b18", func := "loop.example/g00938/laws.FnExactAreEntries", spec := "fnExactAreEntries", apart := false, narrowed := true }
def FnExactAreEntriesUptoSaid : Prop := fnExactAreEntriesUptoRow.holds Try.pinned (OpenSpec.upto fnExactAreEntriesSpec)

/-- 'laws.FnExactLateEntries', WHERE WHAT IT READS IS OF BULK AT MOST 1048576: true; the input reads as it did. -/
def fnExactLateEntriesUptoRow : OpenClaim := { program := "ytohmefblkfophaa", sum := "00712ea9abd59f93b7274d83388cb4e68e2f96eb3d280c6c0655a64b94898b18", func := "loop.example/g00938/laws.FnExactLateEntries", spec := "fnExactLateEntries", apart := false, narrowed := true }
def FnExactLateEntriesUptoSaid : Prop := fnExactLateEntriesUptoRow.holds Try.pinned (OpenSpec.upto fnExactLateEntriesSpec)

/-- 'laws.FnExactRefundFor', WHERE WHAT IT READS IS OF BULK AT MOST 1048576: true; the input reads as it did. -/
def fnExactRefundForUptoRow : OpenClaim := { program := "ytohmefblkfophaa", sum := "00712ea9abd59f93b7274d83388cb4e68e2f96eb3d280c6c0655a64b94898b18", func := "loop.example/g00938/laws.FnExactRefundFor", spec := "fnExactRefundFor", unfollowed := true, recurses := true, apart := false, narrowed := true }
def FnExactRefundForUptoSaid : Prop := fnExactRefundForUptoRow.holds Try.pinned (OpenSpec.upto fnExactRefundForSpec)

/-- 'laws.FnExactPayEntry', WHERE WHAT IT READS IS OF BULK AT MOST 1048576: true; the input reads as it did. -/
def fnExactPayEntryUptoRow : OpenClaim := { program := "ytohmefblkfophaa", sum := "00712ea9abd59f93b7274d83388cb4e68e2f96eb3d280c6c0655a64b94898b18", func := "loop.example/g00938/laws.FnExactPayEntry", spec := "fnExactPayEntry", unfollowed := true, recurses := true, apart := false, narrowed := true }
def FnExactPayEntryUptoSaid : Prop := fnExactPayEntryUptoRow.holds Try.pinned (OpenSpec.upto fnExactPayEntrySpec)

/-- 'laws.FnExactChangeClass', WHERE WHAT IT READS IS OF BULK AT MOST 1048576: true; the input reads as it did. -/
def fnExactChangeClassUptoRow : OpenClaim := { program := "ytohmefblkfophaa", sum := "00712ea9abd59f93b7274d83388cb4e68e2f96eb3d280c6c0655a64b94898b18", func := "loop.example/g00938/laws.FnExactChangeClass", spec := "fnExactChangeClass", unfollowed := true, recurses := true, apart := false, narrowed := true }
def FnExactChangeClassUptoSaid : Prop := fnExactChangeClassUptoRow.holds Try.pinned (OpenSpec.upto fnExactChangeClassSpec)

/-- 'laws.FnExactClassSizes', WHERE WHAT IT READS IS OF BULK AT MOST 1048576: true; the input reads as it did. -/
def fnExactClassSizesUptoRow : OpenClaim := { program := "ytohmefblkfophaa", sum := "00712ea9abd59f93b7274d83388cb4e68e2f96eb3d280c6c0655a64b94898b18", func := "loop.example/g00938/laws.FnExactClassSizes", spec := "fnExactClassSizes", apart := false, narrowed := true }
def FnExactClassSizesUptoSaid : Prop := fnExactClassSizesUptoRow.holds Try.pinned (OpenSpec.upto fnExactClassSizesSpec)

/-- 'laws.FnExactDueFor', WHERE WHAT IT READS IS OF BULK AT MOST 1048576: true; the input reads as it did. -/
def fnExactDueForUptoRow : OpenClaim := { program := "ytohmefblkfophaa", sum := "00712ea9abd59f93b7274d83388cb4e68e2f96eb3d280c6c0655a64b94898b18", func := "loop.example/g00938/laws.FnExactDueFor", spec := "fnExactDueFor", unfollowed := true, recurses := true, apart := false, narrowed := true }
def FnExactDueForUptoSaid : Prop := fnExactDueForUptoRow.holds Try.pinned (OpenSpec.upto fnExactDueForSpec)

/-- 'laws.FnExactEnterRunner', WHERE WHAT IT READS IS OF BULK AT MOST 1048576: true; the input reads as it did. -/
def fnExactEnterRunnerUptoRow : OpenClaim := { program := "ytohmefblkfophaa", sum := "00712ea9abd59f93b7274d83388cb4e68e2f96eb3d280c6c0655a64b94898b18", func := "loop.example/g00938/laws.FnExactEnterRunner", spec := "fnExactEnterRunner", inPlace := ["slices.overlaps[loop.example/g00938/impl.Entry]"], apart := false, narrowed := true }
def FnExactEnterRunnerUptoSaid : Prop := fnExactEnterRunnerUptoRow.holds Try.pinned (OpenSpec.upto fnExactEnterRunnerSpec)

/-- 'laws.FnExactOpenSums', WHERE WHAT IT READS IS OF BULK AT MOST 1048576: true; the input reads as it did. -/
def fnExactOpenSumsUptoRow : OpenClaim := { program := "ytohmefblkfophaa", sum := "00712ea9abd59f93b7274d83388cb4e68e2f96eb3d280c6c0655a64b94898b18", func := "loop.example/g00938/laws.FnExactOpenSums", spec := "fnExactOpenSums", unfollowed := true, recurses := true, apart := false, narrowed := true }
def FnExactOpenSumsUptoSaid : Prop := fnExactOpenSumsUptoRow.holds Try.pinned (OpenSpec.upto fnExactOpenSumsSpec)

/-- 'laws.FnExactClubBill', WHERE WHAT IT READS IS OF BULK AT MOST 1048576: true; the input reads as it did. -/
def fnExactClubBillUptoRow : OpenClaim := { program := "ytohmefblkfophaa", sum := "00712ea9abd59f93b7274d83388cb4e68e2f96eb3d280c6c0655a64b94898b18", func := "loop.example/g00938/laws.FnExactClubBill", spec := "fnExactClubBill", unfollowed := true, recurses := true, apart := false, narrowed := true }
def FnExactClubBillUptoSaid : Prop := fnExactClubBillUptoRow.holds Try.pinned (OpenSpec.upto fnExactClubBillSpec)

end Rows
end Go.Proofs.Ytohmefblkfophaa
