/-
  DERIVED. GIVEN WITH THE SEED: THE CARDS: each row of YtaakbajhbmbhcaaDoorRows.lean that lists a variable, with what it lists TIED to the program's text (the seventh form; the later family's looks); each row that meets fmt, with fmt's text TOLD by the authors' own Lean function (tested against real Go, not proved from fmt's source: count such statements apart). THE CARD IS WHAT COUNTS. Prove the row's statement (the work); the ties are given (YtaakbajhbmbhcaaDoorTie.lean); close each card by the builder's one call (the guide's Derived/Test/ToyasCard.lean, 'card_holds'). Laid BY PROGRAM, IN A SANDBOX (cutbox-door.mjs). By AI agents, Wed Nov 11 2026. No macro, syntax, notation, axiom, sorry.
-/
import Derived.Test.YtaakbajhbmbhcaaDoorRows
import GoSem.ClaimSeven
namespace Go.Proofs.YtaakbajhbmbhcaaDoor
namespace Rows

/-- THE TIED CARD OF 'meridianlaw5.ShiftInverse'. -/
def shiftInverseCard : Claim7 := { stood := { row := shiftInverseRow, standIns := [], harness := (true, "e559e05031aac7a621da660db4d7bfa1bee8af45a3fa9f290db04a57593a82fc"), looks := true }, kinds := [], alts := [], laidByText := true, laidKinds := [.sentinel, .sentinel], laidTests := true, laidLooks := .later }
def ShiftInverseCardSaid : Prop := Claim7.holds Tryd.pinned (.plain (OpenSpec.ofChange shiftInverseSpec)) shiftInverseCard

/-- THE TIED CARD OF 'meridianlaw5.ShiftMoved'. -/
def shiftMovedCard : Claim7 := { stood := { row := shiftMovedRow, standIns := [], harness := (true, "e559e05031aac7a621da660db4d7bfa1bee8af45a3fa9f290db04a57593a82fc"), looks := true }, kinds := [], alts := [], laidByText := true, laidKinds := [.handle, .sentinel, .sentinel, .sentinel, .sentinel, .sentinel, .sentinel, .sentinel, .sentinel, .sentinel, .sentinel], laidTests := true, laidLooks := .later }
def ShiftMovedCardSaid : Prop := Claim7.holds Tryd.pinned (.plain (OpenSpec.ofChange shiftMovedSpec)) shiftMovedCard

/-- THE TIED CARD OF 'meridianlaw5.ShiftCross'. -/
def shiftCrossCard : Claim7 := { stood := { row := shiftCrossRow, standIns := [], harness := (true, "e559e05031aac7a621da660db4d7bfa1bee8af45a3fa9f290db04a57593a82fc"), looks := true }, kinds := [], alts := [], laidByText := true, laidKinds := [.handle, .sentinel, .sentinel, .sentinel, .sentinel, .sentinel, .sentinel, .sentinel, .sentinel, .sentinel, .sentinel], laidTests := true, laidLooks := .later }
def ShiftCrossCardSaid : Prop := Claim7.holds Tryd.pinned (.plain (OpenSpec.ofChange shiftCrossSpec)) shiftCrossCard

/-- THE TIED CARD OF 'meridianlaw5.ShiftWaves'. -/
def shiftWavesCard : Claim7 := { stood := { row := shiftWavesRow, standIns := [], harness := (true, "e559e05031aac7a621da660db4d7bfa1bee8af45a3fa9f290db04a57593a82fc"), looks := true }, kinds := [], alts := [], laidByText := true, laidKinds := [.handle, .sentinel, .sentinel, .sentinel, .sentinel, .sentinel, .sentinel, .sentinel, .sentinel, .sentinel, .sentinel], laidTests := true, laidLooks := .later }
def ShiftWavesCardSaid : Prop := Claim7.holds Tryd.pinned (.plain (OpenSpec.ofChange shiftWavesSpec)) shiftWavesCard

/-- THE TIED CARD OF 'meridianlaw5.ShiftFast'. -/
def shiftFastCard : Claim7 := { stood := { row := shiftFastRow, standIns := [], harness := (true, "e559e05031aac7a621da660db4d7bfa1bee8af45a3fa9f290db04a57593a82fc"), looks := true }, kinds := [], alts := [], laidByText := true, laidKinds := [.handle, .sentinel, .sentinel, .sentinel, .sentinel, .sentinel, .sentinel, .sentinel, .sentinel, .sentinel, .sentinel], laidTests := true, laidLooks := .later }
def ShiftFastCardSaid : Prop := Claim7.holds Tryd.pinned (.plain (OpenSpec.ofChange shiftFastSpec)) shiftFastCard

/-- THE TIED CARD OF 'meridianlaw5.ShiftGuess'. -/
def shiftGuessCard : Claim7 := { stood := { row := shiftGuessRow, standIns := [], harness := (true, "e559e05031aac7a621da660db4d7bfa1bee8af45a3fa9f290db04a57593a82fc"), looks := true }, kinds := [], alts := [], laidByText := true, laidKinds := [.handle, .sentinel, .sentinel, .sentinel, .sentinel, .sentinel, .sentinel, .sentinel, .sentinel, .sentinel, .sentinel], laidTests := true, laidLooks := .later }
def ShiftGuessCardSaid : Prop := Claim7.holds Tryd.pinned (.plain (OpenSpec.ofChange shiftGuessSpec)) shiftGuessCard

/-- THE SECOND FORM's CARD OF 'meridianlaw5.ShiftInverse'. -/
def shiftInverseUptoCard : Claim7 := { stood := { row := shiftInverseUptoRow, standIns := [], harness := (true, "e559e05031aac7a621da660db4d7bfa1bee8af45a3fa9f290db04a57593a82fc"), looks := true }, kinds := [], alts := [], laidByText := true, laidKinds := [.sentinel, .sentinel], laidTests := true, laidLooks := .later }
def ShiftInverseUptoCardSaid : Prop := Claim7.holds Tryd.pinned (.plain (OpenSpec.upto shiftInverseSpec)) shiftInverseUptoCard

/-- THE SECOND FORM's CARD OF 'meridianlaw5.ShiftMoved'. -/
def shiftMovedUptoCard : Claim7 := { stood := { row := shiftMovedUptoRow, standIns := [], harness := (true, "e559e05031aac7a621da660db4d7bfa1bee8af45a3fa9f290db04a57593a82fc"), looks := true }, kinds := [], alts := [], laidByText := true, laidKinds := [.handle, .sentinel, .sentinel, .sentinel, .sentinel, .sentinel, .sentinel, .sentinel, .sentinel, .sentinel, .sentinel], laidTests := true, laidLooks := .later }
def ShiftMovedUptoCardSaid : Prop := Claim7.holds Tryd.pinned (.plain (OpenSpec.upto shiftMovedSpec)) shiftMovedUptoCard

/-- THE SECOND FORM's CARD OF 'meridianlaw5.ShiftCross'. -/
def shiftCrossUptoCard : Claim7 := { stood := { row := shiftCrossUptoRow, standIns := [], harness := (true, "e559e05031aac7a621da660db4d7bfa1bee8af45a3fa9f290db04a57593a82fc"), looks := true }, kinds := [], alts := [], laidByText := true, laidKinds := [.handle, .sentinel, .sentinel, .sentinel, .sentinel, .sentinel, .sentinel, .sentinel, .sentinel, .sentinel, .sentinel], laidTests := true, laidLooks := .later }
def ShiftCrossUptoCardSaid : Prop := Claim7.holds Tryd.pinned (.plain (OpenSpec.upto shiftCrossSpec)) shiftCrossUptoCard

/-- THE SECOND FORM's CARD OF 'meridianlaw5.ShiftWaves'. -/
def shiftWavesUptoCard : Claim7 := { stood := { row := shiftWavesUptoRow, standIns := [], harness := (true, "e559e05031aac7a621da660db4d7bfa1bee8af45a3fa9f290db04a57593a82fc"), looks := true }, kinds := [], alts := [], laidByText := true, laidKinds := [.handle, .sentinel, .sentinel, .sentinel, .sentinel, .sentinel, .sentinel, .sentinel, .sentinel, .sentinel, .sentinel], laidTests := true, laidLooks := .later }
def ShiftWavesUptoCardSaid : Prop := Claim7.holds Tryd.pinned (.plain (OpenSpec.upto shiftWavesSpec)) shiftWavesUptoCard

/-- THE SECOND FORM's CARD OF 'meridianlaw5.ShiftFast'. -/
def shiftFastUptoCard : Claim7 := { stood := { row := shiftFastUptoRow, standIns := [], harness := (true, "e559e05031aac7a621da660db4d7bfa1bee8af45a3fa9f290db04a57593a82fc"), looks := true }, kinds := [], alts := [], laidByText := true, laidKinds := [.handle, .sentinel, .sentinel, .sentinel, .sentinel, .sentinel, .sentinel, .sentinel, .sentinel, .sentinel, .sentinel], laidTests := true, laidLooks := .later }
def ShiftFastUptoCardSaid : Prop := Claim7.holds Tryd.pinned (.plain (OpenSpec.upto shiftFastSpec)) shiftFastUptoCard

/-- THE SECOND FORM's CARD OF 'meridianlaw5.ShiftGuess'. -/
def shiftGuessUptoCard : Claim7 := { stood := { row := shiftGuessUptoRow, standIns := [], harness := (true, "e559e05031aac7a621da660db4d7bfa1bee8af45a3fa9f290db04a57593a82fc"), looks := true }, kinds := [], alts := [], laidByText := true, laidKinds := [.handle, .sentinel, .sentinel, .sentinel, .sentinel, .sentinel, .sentinel, .sentinel, .sentinel, .sentinel, .sentinel], laidTests := true, laidLooks := .later }
def ShiftGuessUptoCardSaid : Prop := Claim7.holds Tryd.pinned (.plain (OpenSpec.upto shiftGuessSpec)) shiftGuessUptoCard
end Rows
end Go.Proofs.YtaakbajhbmbhcaaDoor
