/-
  DERIVED. GIVEN WITH THE SEED: THE CARDS: each row of YtffkkchflohhaaaGreatDoorRows.lean that lists a variable, with what it lists TIED to the program's text (the seventh form; the later family's looks); each row that meets fmt, with fmt's text TOLD by the authors' own Lean function (tested against real Go, not proved from fmt's source: count such statements apart). THE CARD IS WHAT COUNTS. Prove the row's statement (the work); the ties are given (YtffkkchflohhaaaGreatDoorTie.lean); close each card by the builder's one call (the guide's Derived/Test/ToyasCard.lean, 'card_holds'). Laid BY PROGRAM, IN A SANDBOX (cutbox-door.mjs). By AI agents, Wed Nov 11 2026. No macro, syntax, notation, axiom, sorry.
-/
import Derived.Test.YtffkkchflohhaaaGreatDoorRows
import GoSem.ClaimSeven
namespace Go.Proofs.YtffkkchflohhaaaGreatDoor
namespace Rows

/-- THE TIED CARD OF 'laws.FnClasses'. -/
def fnClassesCard : Claim7 := { stood := { row := fnClassesRow, standIns := [], harness := (true, "207341e2cc96b36ab761b6d42dbb5076dbd83bd58ff2d0a92e57eac6093c230b"), looks := true }, kinds := [], alts := [], laidByText := true, laidKinds := [.data, .data, .data, .data, .sentinel, .sentinel, .pinned], laidTests := true, laidLooks := .later }
def FnClassesCardSaid : Prop := Claim7.holds Tryz.pinned (.plain (OpenSpec.ofChange fnClassesSpec)) fnClassesCard

/-- THE SECOND FORM's CARD OF 'laws.FnClasses'. -/
def fnClassesUptoCard : Claim7 := { stood := { row := fnClassesUptoRow, standIns := [], harness := (true, "207341e2cc96b36ab761b6d42dbb5076dbd83bd58ff2d0a92e57eac6093c230b"), looks := true }, kinds := [], alts := [], laidByText := true, laidKinds := [.data, .data, .data, .data, .sentinel, .sentinel, .pinned], laidTests := true, laidLooks := .later }
def FnClassesUptoCardSaid : Prop := Claim7.holds Tryz.pinned (.plain (OpenSpec.upto fnClassesSpec)) fnClassesUptoCard
end Rows
end Go.Proofs.YtffkkchflohhaaaGreatDoor
