/-
  No cell of these rows narrows 'for every input' (looked for: loops, veiled, ifaces, maps, wideKeys, modest, calm, conditions, laid).
  DERIVED. THE GIVEN ROWS OF THIS SEAT. 6 by the template 'for every input the law returns true; each argument reads behind the call as it read before'; 0 by the template 'total and deterministic' (their statements: YtlcajcodnmpckaaTotals.lean).
  GIVEN WITH THE SEED: the statements are not yours to turn. If you find one false, say at which input.
  Laid BY PROGRAM, IN A SANDBOX (cutbox-rows.mjs): the forced cells as the released guide's own fill.sh prints them over the translation 91a57903201f6cba… (all of the seat's roots in one cut). By AI agents, Wed Nov 11 2026. No macro, syntax, notation, axiom, sorry.
-/
import Derived.Test.YtlcajcodnmpckaaChecked
import GoSem.Claim
import GoSem.ClaimJoined
import GoSem.ClaimMapViews
import Derived.JoinedTies
import Derived.KernelRfl
namespace Go.Proofs.Ytlcajcodnmpckaa
/- THE CELL 'sum', in the pinned program and in every row, IS THE sha256 OF THE DUMP (.gsa) THAT YtlcajcodnmpckaaProg.lean LOADS. Nothing in Lean hashes anything: it is a label: what it is worth is what the hold of that sum in a sandbox is worth. -/
noncomputable def Try.pinned : Pinned := { name := "ytlcajcodnmpckaa", sum := "91a57903201f6cba58d67b846e9c7b4c2a8c0b177fb6e7ac34e9a12cb30e39be", checked := Try.checked }
namespace Rows
def none {H : Type} : Left H := { results := [], args := [] }

/-- 'laws.FnExactAreFees': WHATEVER THE INPUT: true; the input reads as it did. -/
def fnExactAreFeesSpec : ChangeSpec := { name := "fnExactAreFees", fn := fun _ => fun
  | [d] => { results := [.lit (.bool true)], args := [d] }
  | _ => none }
def fnExactAreFeesRow : OpenClaim := { program := "ytlcajcodnmpckaa", sum := "91a57903201f6cba58d67b846e9c7b4c2a8c0b177fb6e7ac34e9a12cb30e39be", func := "loop.example/g00938/laws.FnExactAreFees", spec := "fnExactAreFees", apart := false }
def FnExactAreFeesSaid : Prop := fnExactAreFeesRow.holds Try.pinned (OpenSpec.ofChange fnExactAreFeesSpec)

/-- ITS FALSE NEIGHBOUR: 'it returns false'. Refute it at one input. -/
def fnExactAreFeesWrong : ChangeSpec := { name := "fnExactAreFees", fn := fun _ => fun
  | [d] => { results := [.lit (.bool false)], args := [d] }
  | _ => none }
def FnExactAreFeesWrongFalsely : Prop := fnExactAreFeesRow.holds Try.pinned (OpenSpec.ofChange fnExactAreFeesWrong)

/-- 'laws.FnExactIsClass': WHATEVER THE INPUT: true; the input reads as it did. -/
def fnExactIsClassSpec : ChangeSpec := { name := "fnExactIsClass", fn := fun _ => fun
  | [d] => { results := [.lit (.bool true)], args := [d] }
  | _ => none }
def fnExactIsClassRow : OpenClaim := { program := "ytlcajcodnmpckaa", sum := "91a57903201f6cba58d67b846e9c7b4c2a8c0b177fb6e7ac34e9a12cb30e39be", func := "loop.example/g00938/laws.FnExactIsClass", spec := "fnExactIsClass", apart := false }
def FnExactIsClassSaid : Prop := fnExactIsClassRow.holds Try.pinned (OpenSpec.ofChange fnExactIsClassSpec)

/-- ITS FALSE NEIGHBOUR: 'it returns false'. Refute it at one input. -/
def fnExactIsClassWrong : ChangeSpec := { name := "fnExactIsClass", fn := fun _ => fun
  | [d] => { results := [.lit (.bool false)], args := [d] }
  | _ => none }
def FnExactIsClassWrongFalsely : Prop := fnExactIsClassRow.holds Try.pinned (OpenSpec.ofChange fnExactIsClassWrong)

/-- 'laws.FnExactLastStart': WHATEVER THE INPUT: true; the input reads as it did. -/
def fnExactLastStartSpec : ChangeSpec := { name := "fnExactLastStart", fn := fun _ => fun
  | [d1, d2, d3] => { results := [.lit (.bool true)], args := [d1, d2, d3] }
  | _ => none }
def fnExactLastStartRow : OpenClaim := { program := "ytlcajcodnmpckaa", sum := "91a57903201f6cba58d67b846e9c7b4c2a8c0b177fb6e7ac34e9a12cb30e39be", func := "loop.example/g00938/laws.FnExactLastStart", spec := "fnExactLastStart", unfollowed := true, recurses := true, apart := false }
def FnExactLastStartSaid : Prop := fnExactLastStartRow.holds Try.pinned (OpenSpec.ofChange fnExactLastStartSpec)

/-- ITS FALSE NEIGHBOUR: 'it returns false'. Refute it at one input. -/
def fnExactLastStartWrong : ChangeSpec := { name := "fnExactLastStart", fn := fun _ => fun
  | [d1, d2, d3] => { results := [.lit (.bool false)], args := [d1, d2, d3] }
  | _ => none }
def FnExactLastStartWrongFalsely : Prop := fnExactLastStartRow.holds Try.pinned (OpenSpec.ofChange fnExactLastStartWrong)

/-- 'laws.FnExactAreEntries': WHATEVER THE INPUT: true; the input reads as it did. -/
def fnExactAreEntriesSpec : ChangeSpec := { name := "fnExactAreEntries", fn := fun _ => fun
  | [d] => { results := [.lit (.bool true)], args := [d] }
  | _ => none }
def fnExactAreEntriesRow : OpenClaim := { program := "ytlcajcodnmpckaa", sum := "91a57903201f6cba58d67b846e9c7b4c2a8c0b177fb6e7ac34e9a12cb30e39be", func := "loop.example/g00938/laws.FnExactAreEntries", spec := "fnExactAreEntries", apart := false }
def FnExactAreEntriesSaid : Prop := fnExactAreEntriesRow.holds Try.pinned (OpenSpec.ofChange fnExactAreEntriesSpec)

/-- ITS FALSE NEIGHBOUR: 'it returns false'. Refute it at one input. -/
def fnExactAreEntriesWrong : ChangeSpec := { name := "fnExactAreEntries", fn := fun _ => fun
  | [d] => { results := [.lit (.bool false)], args := [d] }
  | _ => none }
def FnExactAreEntriesWrongFalsely : Prop := fnExactAreEntriesRow.holds Try.pinned (OpenSpec.ofChange fnExactAreEntriesWrong)

/-- 'laws.FnExactDoesAdmit': WHATEVER THE INPUT: true; the input reads as it did. -/
def fnExactDoesAdmitSpec : ChangeSpec := { name := "fnExactDoesAdmit", fn := fun _ => fun
  | [d1, d2] => { results := [.lit (.bool true)], args := [d1, d2] }
  | _ => none }
def fnExactDoesAdmitRow : OpenClaim := { program := "ytlcajcodnmpckaa", sum := "91a57903201f6cba58d67b846e9c7b4c2a8c0b177fb6e7ac34e9a12cb30e39be", func := "loop.example/g00938/laws.FnExactDoesAdmit", spec := "fnExactDoesAdmit", apart := false }
def FnExactDoesAdmitSaid : Prop := fnExactDoesAdmitRow.holds Try.pinned (OpenSpec.ofChange fnExactDoesAdmitSpec)

/-- ITS FALSE NEIGHBOUR: 'it returns false'. Refute it at one input. -/
def fnExactDoesAdmitWrong : ChangeSpec := { name := "fnExactDoesAdmit", fn := fun _ => fun
  | [d1, d2] => { results := [.lit (.bool false)], args := [d1, d2] }
  | _ => none }
def FnExactDoesAdmitWrongFalsely : Prop := fnExactDoesAdmitRow.holds Try.pinned (OpenSpec.ofChange fnExactDoesAdmitWrong)

/-- 'laws.FnExactIsStartList': WHATEVER THE INPUT: true; the input reads as it did. -/
def fnExactIsStartListSpec : ChangeSpec := { name := "fnExactIsStartList", fn := fun _ => fun
  | [d1, d2] => { results := [.lit (.bool true)], args := [d1, d2] }
  | _ => none }
def fnExactIsStartListRow : OpenClaim := { program := "ytlcajcodnmpckaa", sum := "91a57903201f6cba58d67b846e9c7b4c2a8c0b177fb6e7ac34e9a12cb30e39be", func := "loop.example/g00938/laws.FnExactIsStartList", spec := "fnExactIsStartList", unfollowed := true, recurses := true, apart := false }
def FnExactIsStartListSaid : Prop := fnExactIsStartListRow.holds Try.pinned (OpenSpec.ofChange fnExactIsStartListSpec)

/-- ITS FALSE NEIGHBOUR: 'it returns false'. Refute it at one input. -/
def fnExactIsStartListWrong : ChangeSpec := { name := "fnExactIsStartList", fn := fun _ => fun
  | [d1, d2] => { results := [.lit (.bool false)], args := [d1, d2] }
  | _ => none }
def FnExactIsStartListWrongFalsely : Prop := fnExactIsStartListRow.holds Try.pinned (OpenSpec.ofChange fnExactIsStartListWrong)

/- THE SECOND FORM. 'bulk': how many values and letters a reading holds, each counted each time it is reached (what is shared counts as often as it is met; a slice's spare places count too). A statement '..UptoSaid' is the law's where the arguments, and the package variables that the reading takes, are together of bulk at most 1048576: NARROWER than '..Said'. Prove '..Said' where nothing that the law and all that it calls make is longer than what came in: it says more and counts as full. Else prove '..UptoSaid'. A law counts once. -/
mutual
def uptoBulk {H : Type} : DataW H → Nat
  | .lit (.string bytes) => bytes.length + 1
  | .lit _ => 1
  | .nil => 1
  | .ptr d => uptoBulk d + 1
  | .slice elems spare => uptoBulkAll elems + uptoBulkAll spare + 1
  | .agg parts => uptoBulkAll parts + 1
  | .iface _ d => uptoBulk d + 1
  | .map entries => uptoBulkEntries entries + 1
  | .held _ => 1
def uptoBulkAll {H : Type} : List (DataW H) → Nat
  | [] => 0
  | d :: r => uptoBulk d + uptoBulkAll r
def uptoBulkEntries {H : Type} : List (Lit × DataW H) → Nat
  | [] => 0
  | x :: r => uptoBulkEntry x + uptoBulkEntries r
def uptoBulkEntry {H : Type} : Lit × DataW H → Nat
  | (.string bytes, d) => bytes.length + uptoBulk d + 1
  | (_, d) => uptoBulk d + 1
 end
def uptoSmall : (H : Type) → List (DataW H) → Bool := fun _ ds => decide (uptoBulkAll ds ≤ 1048576)
def OpenSpec.upto (s : _root_.Go.ChangeSpec) : _root_.Go.OpenSpec := { _root_.Go.OpenSpec.ofChange s with cond := some uptoSmall }

/-- 'laws.FnExactAreFees', WHERE WHAT IT READS IS OF BULK AT MOST 1048576: true; the input reads as it did. -/
def fnExactAreFeesUptoRow : OpenClaim := { program := "ytlcajcodnmpckaa", sum := "91a57903201f6cba58d67b846e9c7b4c2a8c0b177fb6e7ac34e9a12cb30e39be", func := "loop.example/g00938/laws.FnExactAreFees", spec := "fnExactAreFees", apart := false, narrowed := true }
def FnExactAreFeesUptoSaid : Prop := fnExactAreFeesUptoRow.holds Try.pinned (OpenSpec.upto fnExactAreFeesSpec)

/-- 'laws.FnExactIsClass', WHERE WHAT IT READS IS OF BULK AT MOST 1048576: true; the input reads as it did. -/
def fnExactIsClassUptoRow : OpenClaim := { program := "ytlcajcodnmpckaa", sum := "91a57903201f6cba58d67b846e9c7b4c2a8c0b177fb6e7ac34e9a12cb30e39be", func := "loop.example/g00938/laws.FnExactIsClass", spec := "fnExactIsClass", apart := false, narrowed := true }
def FnExactIsClassUptoSaid : Prop := fnExactIsClassUptoRow.holds Try.pinned (OpenSpec.upto fnExactIsClassSpec)

/-- 'laws.FnExactLastStart', WHERE WHAT IT READS IS OF BULK AT MOST 1048576: true; the input reads as it did. -/
def fnExactLastStartUptoRow : OpenClaim := { program := "ytlcajcodnmpckaa", sum := "91a57903201f6cba58d67b846e9c7b4c2a8c0b177fb6e7ac34e9a12cb30e39be", func := "loop.example/g00938/laws.FnExactLastStart", spec := "fnExactLastStart", unfollowed := true, recurses := true, apart := false, narrowed := true }
def FnExactLastStartUptoSaid : Prop := fnExactLastStartUptoRow.holds Try.pinned (OpenSpec.upto fnExactLastStartSpec)

/-- 'laws.FnExactAreEntries', WHERE WHAT IT READS IS OF BULK AT MOST 1048576: true; the input reads as it did. -/
def fnExactAreEntriesUptoRow : OpenClaim := { program := "ytlcajcodnmpckaa", sum := "91a57903201f6cba58d67b846e9c7b4c2a8c0b177fb6e7ac34e9a12cb30e39be", func := "loop.example/g00938/laws.FnExactAreEntries", spec := "fnExactAreEntries", apart := false, narrowed := true }
def FnExactAreEntriesUptoSaid : Prop := fnExactAreEntriesUptoRow.holds Try.pinned (OpenSpec.upto fnExactAreEntriesSpec)

/-- 'laws.FnExactDoesAdmit', WHERE WHAT IT READS IS OF BULK AT MOST 1048576: true; the input reads as it did. -/
def fnExactDoesAdmitUptoRow : OpenClaim := { program := "ytlcajcodnmpckaa", sum := "91a57903201f6cba58d67b846e9c7b4c2a8c0b177fb6e7ac34e9a12cb30e39be", func := "loop.example/g00938/laws.FnExactDoesAdmit", spec := "fnExactDoesAdmit", apart := false, narrowed := true }
def FnExactDoesAdmitUptoSaid : Prop := fnExactDoesAdmitUptoRow.holds Try.pinned (OpenSpec.upto fnExactDoesAdmitSpec)

/-- 'laws.FnExactIsStartList', WHERE WHAT IT READS IS OF BULK AT MOST 1048576: true; the input reads as it did. -/
def fnExactIsStartListUptoRow : OpenClaim := { program := "ytlcajcodnmpckaa", sum := "91a57903201f6cba58d67b846e9c7b4c2a8c0b177fb6e7ac34e9a12cb30e39be", func := "loop.example/g00938/laws.FnExactIsStartList", spec := "fnExactIsStartList", unfollowed := true, recurses := true, apart := false, narrowed := true }
def FnExactIsStartListUptoSaid : Prop := fnExactIsStartListUptoRow.holds Try.pinned (OpenSpec.upto fnExactIsStartListSpec)

end Rows
end Go.Proofs.Ytlcajcodnmpckaa
