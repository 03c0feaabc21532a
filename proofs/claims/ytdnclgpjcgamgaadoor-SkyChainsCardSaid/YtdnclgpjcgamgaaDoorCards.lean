/-
  DERIVED. GIVEN WITH THE SEED: THE CARDS: each row of YtdnclgpjcgamgaaDoorRows.lean that lists a variable, with what it lists TIED to the program's text (the seventh form; the later family's looks); each row that meets fmt, with fmt's text TOLD by the authors' own Lean function (tested against real Go, not proved from fmt's source: count such statements apart). THE CARD IS WHAT COUNTS. Prove the row's statement (the work); the ties are given (YtdnclgpjcgamgaaDoorTie.lean); close each card by the builder's one call (the guide's Derived/Test/ToyasCard.lean, 'card_holds'). Laid BY PROGRAM, IN A SANDBOX (cutbox-door.mjs). By AI agents, Wed Nov 11 2026. No macro, syntax, notation, axiom, sorry.
-/
import Derived.Test.YtdnclgpjcgamgaaDoorRows
import GoSem.ClaimSeven
namespace Go.Proofs.YtdnclgpjcgamgaaDoor
namespace Rows

/-- THE TIED CARD OF 'meridianlaw2.OrbitEnclosed'. -/
def orbitEnclosedCard : Claim7 := { stood := { row := orbitEnclosedRow, standIns := [], harness := (true, "4f33706e47ff1707b14fdeb335411affbf9e37caf9cfd2b0b3f9eadc27f682e2"), looks := true }, kinds := [], alts := [], laidByText := true, laidKinds := [.sentinel], laidTests := true, laidLooks := .later }
def OrbitEnclosedCardSaid : Prop := Claim7.holds Tryd.pinned (.plain (OpenSpec.ofChange orbitEnclosedSpec)) orbitEnclosedCard

/-- THE TIED CARD OF 'meridianlaw2.OrbitKepler'. -/
def orbitKeplerCard : Claim7 := { stood := { row := orbitKeplerRow, standIns := [], harness := (true, "4f33706e47ff1707b14fdeb335411affbf9e37caf9cfd2b0b3f9eadc27f682e2"), looks := true }, kinds := [], alts := [], laidByText := true, laidKinds := [.handle, .sentinel, .sentinel, .sentinel, .sentinel, .sentinel, .sentinel, .sentinel, .sentinel, .sentinel, .sentinel], laidTests := true, laidLooks := .later }
def OrbitKeplerCardSaid : Prop := Claim7.holds Tryd.pinned (.plain (OpenSpec.ofChange orbitKeplerSpec)) orbitKeplerCard

/-- THE TIED CARD OF 'meridianlaw2.SkyChains'. -/
def skyChainsCard : Claim7 := { stood := { row := skyChainsRow, standIns := [], harness := (true, "4f33706e47ff1707b14fdeb335411affbf9e37caf9cfd2b0b3f9eadc27f682e2"), looks := true }, kinds := [], alts := [], laidByText := true, laidKinds := [.handle, .sentinel, .sentinel, .sentinel, .sentinel, .sentinel, .sentinel, .sentinel, .sentinel, .sentinel, .sentinel], laidTests := true, laidLooks := .later }
def SkyChainsCardSaid : Prop := Claim7.holds Tryd.pinned (.plain (OpenSpec.ofChange skyChainsSpec)) skyChainsCard

/-- THE SECOND FORM's CARD OF 'meridianlaw2.OrbitEnclosed'. -/
def orbitEnclosedUptoCard : Claim7 := { stood := { row := orbitEnclosedUptoRow, standIns := [], harness := (true, "4f33706e47ff1707b14fdeb335411affbf9e37caf9cfd2b0b3f9eadc27f682e2"), looks := true }, kinds := [], alts := [], laidByText := true, laidKinds := [.sentinel], laidTests := true, laidLooks := .later }
def OrbitEnclosedUptoCardSaid : Prop := Claim7.holds Tryd.pinned (.plain (OpenSpec.upto orbitEnclosedSpec)) orbitEnclosedUptoCard

/-- THE SECOND FORM's CARD OF 'meridianlaw2.OrbitKepler'. -/
def orbitKeplerUptoCard : Claim7 := { stood := { row := orbitKeplerUptoRow, standIns := [], harness := (true, "4f33706e47ff1707b14fdeb335411affbf9e37caf9cfd2b0b3f9eadc27f682e2"), looks := true }, kinds := [], alts := [], laidByText := true, laidKinds := [.handle, .sentinel, .sentinel, .sentinel, .sentinel, .sentinel, .sentinel, .sentinel, .sentinel, .sentinel, .sentinel], laidTests := true, laidLooks := .later }
def OrbitKeplerUptoCardSaid : Prop := Claim7.holds Tryd.pinned (.plain (OpenSpec.upto orbitKeplerSpec)) orbitKeplerUptoCard

/-- THE SECOND FORM's CARD OF 'meridianlaw2.SkyChains'. -/
def skyChainsUptoCard : Claim7 := { stood := { row := skyChainsUptoRow, standIns := [], harness := (true, "4f33706e47ff1707b14fdeb335411affbf9e37caf9cfd2b0b3f9eadc27f682e2"), looks := true }, kinds := [], alts := [], laidByText := true, laidKinds := [.handle, .sentinel, .sentinel, .sentinel, .sentinel, .sentinel, .sentinel, .sentinel, .sentinel, .sentinel, .sentinel], laidTests := true, laidLooks := .later }
def SkyChainsUptoCardSaid : Prop := Claim7.holds Tryd.pinned (.plain (OpenSpec.upto skyChainsSpec)) skyChainsUptoCard
end Rows
end Go.Proofs.YtdnclgpjcgamgaaDoor
