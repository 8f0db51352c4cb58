/-
  DERIVED. GIVEN WITH THE SEED: THE CARDS: each row of YtffkkchflohhaaaDoorRows.lean that lists a variable, with what it lists TIED to the program's text (the seventh form; the later family's looks); each row that meets fmt, with fmt's text TOLD by the authors' own Lean function (tested against real Go, not proved from fmt's source: count such statements apart). THE CARD IS WHAT COUNTS. Prove the row's statement (the work); the ties are given (YtffkkchflohhaaaDoorTie.lean); close each card by the builder's one call (the guide's Derived/Test/ToyasCard.lean, 'card_holds'). Laid BY PROGRAM, IN A SANDBOX (cutbox-door.mjs). By AI agents, Wed Nov 11 2026. No macro, syntax, notation, axiom, sorry.
-/
import Derived.Test.YtffkkchflohhaaaDoorRows
import GoSem.ClaimSeven
namespace Go.Proofs.YtffkkchflohhaaaDoor
namespace Rows

/-- THE TIED CARD OF 'laws.FnExactParseClass'. -/
def fnExactParseClassCard : Claim7 := { stood := { row := fnExactParseClassRow, standIns := [], harness := (true, "141263cd40a772ab1e1a6f1d32dce302668cd9f38b8179b30112596b97db0944"), looks := true }, kinds := [], alts := [], laidByText := true, laidKinds := [.data, .data, .data, .data, .sentinel, .sentinel, .pinned], laidTests := true, laidLooks := .later }
def FnExactParseClassCardSaid : Prop := Claim7.holds Tryd.pinned (.plain (OpenSpec.ofChange fnExactParseClassSpec)) fnExactParseClassCard

/-- THE SECOND FORM's CARD OF 'laws.FnExactParseClass'. -/
def fnExactParseClassUptoCard : Claim7 := { stood := { row := fnExactParseClassUptoRow, standIns := [], harness := (true, "141263cd40a772ab1e1a6f1d32dce302668cd9f38b8179b30112596b97db0944"), looks := true }, kinds := [], alts := [], laidByText := true, laidKinds := [.data, .data, .data, .data, .sentinel, .sentinel, .pinned], laidTests := true, laidLooks := .later }
def FnExactParseClassUptoCardSaid : Prop := Claim7.holds Tryd.pinned (.plain (OpenSpec.upto fnExactParseClassSpec)) fnExactParseClassUptoCard
end Rows
end Go.Proofs.YtffkkchflohhaaaDoor
