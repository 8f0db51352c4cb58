/-
  DERIVED. GIVEN WITH THE SEED: THE CARDS: each row of YtoodomaecgankaaDoorRows.lean that lists a variable, with what it lists TIED to the program's text (the seventh form; the later family's looks); each row that meets fmt, with fmt's text TOLD by the authors' own Lean function (tested against real Go, not proved from fmt's source: count such statements apart). THE CARD IS WHAT COUNTS. Prove the row's statement (the work); the ties are given (YtoodomaecgankaaDoorTie.lean); close each card by the builder's one call (the guide's Derived/Test/ToyasCard.lean, 'card_holds'). Laid BY PROGRAM, IN A SANDBOX (cutbox-door.mjs). By AI agents, Wed Nov 11 2026. No macro, syntax, notation, axiom, sorry.
-/
import Derived.Test.YtoodomaecgankaaDoorRows
import GoSem.ClaimSeven
namespace Go.Proofs.YtoodomaecgankaaDoor
namespace Rows

/-- THE TIED CARD OF 'laws.FnExactClassText'. -/
def fnExactClassTextCard : Claim7 := { stood := { row := fnExactClassTextRow, standIns := [], harness := (true, "33268f6b9ba30e51a58177f78692ab5b41aa3b6d3d5aa02db31a05a3017486a2"), looks := false }, kinds := [], alts := [], laidByText := true, laidKinds := [.data, .data, .data], laidTests := true, laidLooks := .later }
def FnExactClassTextCardSaid : Prop := Claim7.holds Tryd.pinned (.plain (OpenSpec.ofChange fnExactClassTextSpec)) fnExactClassTextCard

/-- THE SECOND FORM's CARD OF 'laws.FnExactClassText'. -/
def fnExactClassTextUptoCard : Claim7 := { stood := { row := fnExactClassTextUptoRow, standIns := [], harness := (true, "33268f6b9ba30e51a58177f78692ab5b41aa3b6d3d5aa02db31a05a3017486a2"), looks := false }, kinds := [], alts := [], laidByText := true, laidKinds := [.data, .data, .data], laidTests := true, laidLooks := .later }
def FnExactClassTextUptoCardSaid : Prop := Claim7.holds Tryd.pinned (.plain (OpenSpec.upto fnExactClassTextSpec)) fnExactClassTextUptoCard
end Rows
end Go.Proofs.YtoodomaecgankaaDoor
