/-
  DERIVED. GIVEN WITH THE SEED: THE CARDS: each row of YtljcojnfpdfaeaaDoorRows.lean that lists a variable, with what it lists TIED to the program's text (the seventh form; the later family's looks); each row that meets fmt, with fmt's text TOLD by the authors' own Lean function (tested against real Go, not proved from fmt's source: count such statements apart). THE CARD IS WHAT COUNTS. Prove the row's statement (the work); the ties are given (YtljcojnfpdfaeaaDoorTie.lean); close each card by the builder's one call (the guide's Derived/Test/ToyasCard.lean, 'card_holds'). Laid BY PROGRAM, IN A SANDBOX (cutbox-door.mjs). By AI agents, Wed Nov 11 2026. No macro, syntax, notation, axiom, sorry.
-/
import Derived.Test.YtljcojnfpdfaeaaDoorRows
import GoSem.ClaimSeven
namespace Go.Proofs.YtljcojnfpdfaeaaDoor
namespace Rows

/-- THE TIED CARD OF 'graftlaw7.ModuloTexts'. -/
def moduloTextsCard : Claim7 := { stood := { row := moduloTextsRow, standIns := [], harness := (true, "e8d36aaf514c17eb70747fc4830b782fe2ca1dde61ce3b58b300885859cb44e6"), looks := false }, kinds := [], alts := [], laidByText := true, laidKinds := [.data, .data, .data, .data], laidTests := true, laidLooks := .later }
def ModuloTextsCardSaid : Prop := Claim7.holds Tryd.pinned (.plain (OpenSpec.ofChange moduloTextsSpec)) moduloTextsCard

/-- THE SECOND FORM's CARD OF 'graftlaw7.ModuloTexts'. -/
def moduloTextsUptoCard : Claim7 := { stood := { row := moduloTextsUptoRow, standIns := [], harness := (true, "e8d36aaf514c17eb70747fc4830b782fe2ca1dde61ce3b58b300885859cb44e6"), looks := false }, kinds := [], alts := [], laidByText := true, laidKinds := [.data, .data, .data, .data], laidTests := true, laidLooks := .later }
def ModuloTextsUptoCardSaid : Prop := Claim7.holds Tryd.pinned (.plain (OpenSpec.upto moduloTextsSpec)) moduloTextsUptoCard
end Rows
end Go.Proofs.YtljcojnfpdfaeaaDoor
