/-
  DERIVED. GIVEN WITH THE SEED: THE CARDS: each row of YtlnbeildplafbaaGreatDoorRows.lean that lists a variable, with what it lists TIED to the program's text (the seventh form; the later family's looks); each row that meets fmt, with fmt's text TOLD by the authors' own Lean function (tested against real Go, not proved from fmt's source: count such statements apart). THE CARD IS WHAT COUNTS. Prove the row's statement (the work); the ties are given (YtlnbeildplafbaaGreatDoorTie.lean); close each card by the builder's one call (the guide's Derived/Test/ToyasCard.lean, 'card_holds'). Laid BY PROGRAM, IN A SANDBOX (cutbox-door.mjs). By AI agents, Wed Nov 11 2026. No macro, syntax, notation, axiom, sorry.
-/
import Derived.Test.YtlnbeildplafbaaGreatDoorRows
import GoSem.ClaimSeven
namespace Go.Proofs.YtlnbeildplafbaaGreatDoor
namespace Rows

/-- THE TIED CARD OF 'meridianlaw5.PlateShapes'. -/
def plateShapesCard : Claim7 := { stood := { row := plateShapesRow, standIns := [], harness := (true, "0beceeb2f01be6aa23c9c59cef36a6e1b1b119b50659684fa5ac3cab6da7c566"), looks := true }, kinds := [], alts := [], laidByText := true, laidKinds := [.data, .data, .handle, .sentinel, .sentinel, .sentinel, .sentinel, .sentinel, .sentinel, .sentinel, .sentinel, .sentinel, .sentinel, .data, .data, .data, .data, .data], laidTests := true, laidLooks := .later }
def PlateShapesCardSaid : Prop := Claim7.holds Tryz.pinned (.plain (OpenSpec.ofChange plateShapesSpec)) plateShapesCard

/-- THE TIED CARD OF 'meridianlaw5.AtlasPairs'. -/
def atlasPairsCard : Claim7 := { stood := { row := atlasPairsRow, standIns := [], harness := (true, "0beceeb2f01be6aa23c9c59cef36a6e1b1b119b50659684fa5ac3cab6da7c566"), looks := true }, kinds := [], alts := [], laidByText := true, laidKinds := [.data, .data, .handle, .sentinel, .sentinel, .sentinel, .sentinel, .sentinel, .sentinel, .sentinel, .sentinel, .sentinel, .sentinel, .data, .data, .data, .data, .data], laidTests := true, laidLooks := .later }
def AtlasPairsCardSaid : Prop := Claim7.holds Tryz.pinned (.plain (OpenSpec.ofChange atlasPairsSpec)) atlasPairsCard

/-- THE SECOND FORM's CARD OF 'meridianlaw5.PlateShapes'. -/
def plateShapesUptoCard : Claim7 := { stood := { row := plateShapesUptoRow, standIns := [], harness := (true, "0beceeb2f01be6aa23c9c59cef36a6e1b1b119b50659684fa5ac3cab6da7c566"), looks := true }, kinds := [], alts := [], laidByText := true, laidKinds := [.data, .data, .handle, .sentinel, .sentinel, .sentinel, .sentinel, .sentinel, .sentinel, .sentinel, .sentinel, .sentinel, .sentinel, .data, .data, .data, .data, .data], laidTests := true, laidLooks := .later }
def PlateShapesUptoCardSaid : Prop := Claim7.holds Tryz.pinned (.plain (OpenSpec.upto plateShapesSpec)) plateShapesUptoCard

/-- THE SECOND FORM's CARD OF 'meridianlaw5.AtlasPairs'. -/
def atlasPairsUptoCard : Claim7 := { stood := { row := atlasPairsUptoRow, standIns := [], harness := (true, "0beceeb2f01be6aa23c9c59cef36a6e1b1b119b50659684fa5ac3cab6da7c566"), looks := true }, kinds := [], alts := [], laidByText := true, laidKinds := [.data, .data, .handle, .sentinel, .sentinel, .sentinel, .sentinel, .sentinel, .sentinel, .sentinel, .sentinel, .sentinel, .sentinel, .data, .data, .data, .data, .data], laidTests := true, laidLooks := .later }
def AtlasPairsUptoCardSaid : Prop := Claim7.holds Tryz.pinned (.plain (OpenSpec.upto atlasPairsSpec)) atlasPairsUptoCard
end Rows
end Go.Proofs.YtlnbeildplafbaaGreatDoor
