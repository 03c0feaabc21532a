/-
  DERIVED. GIVEN WITH THE SEED: THE CARDS: each row of YtjjjbkehmnfgbaaDoorRows.lean that lists a variable, with what it lists TIED to the program's text (the seventh form; the later family's looks); each row that meets fmt, with fmt's text TOLD by the authors' own Lean function (tested against real Go, not proved from fmt's source: count such statements apart). THE CARD IS WHAT COUNTS. Prove the row's statement (the work); the ties are given (YtjjjbkehmnfgbaaDoorTie.lean); close each card by the builder's one call (the guide's Derived/Test/ToyasCard.lean, 'card_holds'). Laid BY PROGRAM, IN A SANDBOX (cutbox-door.mjs). By AI agents, Wed Nov 11 2026. No macro, syntax, notation, axiom, sorry.
-/
import Derived.Test.YtjjjbkehmnfgbaaDoorRows
import GoSem.ClaimSeven
namespace Go.Proofs.YtjjjbkehmnfgbaaDoor
namespace Rows

/-- THE TIED CARD OF 'meridianlaw5.NightBest'. -/
def nightBestCard : Claim7 := { stood := { row := nightBestRow, standIns := [], harness := (true, "b6f92032fe91280c072e5eee59a9d7d907448176c45610988db166ee237ed38b"), looks := true }, kinds := [], alts := [], laidByText := true, laidKinds := [.handle, .sentinel, .sentinel, .sentinel, .sentinel, .sentinel, .sentinel, .sentinel, .sentinel, .sentinel, .sentinel], laidTests := true, laidLooks := .later }
def NightBestCardSaid : Prop := Claim7.holds Tryd.pinned (.plain (OpenSpec.ofChange nightBestSpec)) nightBestCard

/-- THE TIED CARD OF 'meridianlaw5.NightChecks'. -/
def nightChecksCard : Claim7 := { stood := { row := nightChecksRow, standIns := [], harness := (true, "b6f92032fe91280c072e5eee59a9d7d907448176c45610988db166ee237ed38b"), looks := true }, kinds := [], alts := [], laidByText := true, laidKinds := [.handle, .sentinel, .sentinel, .sentinel, .sentinel, .sentinel, .sentinel, .sentinel, .sentinel, .sentinel, .sentinel], laidTests := true, laidLooks := .later }
def NightChecksCardSaid : Prop := Claim7.holds Tryd.pinned (.plain (OpenSpec.ofChange nightChecksSpec)) nightChecksCard

/-- THE TIED CARD OF 'meridianlaw5.AtlasCells'. -/
def atlasCellsCard : Claim7 := { stood := { row := atlasCellsRow, standIns := [], harness := (true, "b6f92032fe91280c072e5eee59a9d7d907448176c45610988db166ee237ed38b"), looks := true }, kinds := [], alts := [], laidByText := true, laidKinds := [.handle, .sentinel, .sentinel, .sentinel, .sentinel, .sentinel, .sentinel, .sentinel, .sentinel, .sentinel, .sentinel], laidTests := true, laidLooks := .later }
def AtlasCellsCardSaid : Prop := Claim7.holds Tryd.pinned (.plain (OpenSpec.ofChange atlasCellsSpec)) atlasCellsCard

/-- THE TIED CARD OF 'meridianlaw5.NightShoots'. -/
def nightShootsCard : Claim7 := { stood := { row := nightShootsRow, standIns := [], harness := (true, "b6f92032fe91280c072e5eee59a9d7d907448176c45610988db166ee237ed38b"), looks := true }, kinds := [], alts := [], laidByText := true, laidKinds := [.handle, .sentinel, .sentinel, .sentinel, .sentinel, .sentinel, .sentinel, .sentinel, .sentinel, .sentinel, .sentinel], laidTests := true, laidLooks := .later }
def NightShootsCardSaid : Prop := Claim7.holds Tryd.pinned (.plain (OpenSpec.ofChange nightShootsSpec)) nightShootsCard

/-- THE SECOND FORM's CARD OF 'meridianlaw5.NightBest'. -/
def nightBestUptoCard : Claim7 := { stood := { row := nightBestUptoRow, standIns := [], harness := (true, "b6f92032fe91280c072e5eee59a9d7d907448176c45610988db166ee237ed38b"), looks := true }, kinds := [], alts := [], laidByText := true, laidKinds := [.handle, .sentinel, .sentinel, .sentinel, .sentinel, .sentinel, .sentinel, .sentinel, .sentinel, .sentinel, .sentinel], laidTests := true, laidLooks := .later }
def NightBestUptoCardSaid : Prop := Claim7.holds Tryd.pinned (.plain (OpenSpec.upto nightBestSpec)) nightBestUptoCard

/-- THE SECOND FORM's CARD OF 'meridianlaw5.NightChecks'. -/
def nightChecksUptoCard : Claim7 := { stood := { row := nightChecksUptoRow, standIns := [], harness := (true, "b6f92032fe91280c072e5eee59a9d7d907448176c45610988db166ee237ed38b"), looks := true }, kinds := [], alts := [], laidByText := true, laidKinds := [.handle, .sentinel, .sentinel, .sentinel, .sentinel, .sentinel, .sentinel, .sentinel, .sentinel, .sentinel, .sentinel], laidTests := true, laidLooks := .later }
def NightChecksUptoCardSaid : Prop := Claim7.holds Tryd.pinned (.plain (OpenSpec.upto nightChecksSpec)) nightChecksUptoCard

/-- THE SECOND FORM's CARD OF 'meridianlaw5.AtlasCells'. -/
def atlasCellsUptoCard : Claim7 := { stood := { row := atlasCellsUptoRow, standIns := [], harness := (true, "b6f92032fe91280c072e5eee59a9d7d907448176c45610988db166ee237ed38b"), looks := true }, kinds := [], alts := [], laidByText := true, laidKinds := [.handle, .sentinel, .sentinel, .sentinel, .sentinel, .sentinel, .sentinel, .sentinel, .sentinel, .sentinel, .sentinel], laidTests := true, laidLooks := .later }
def AtlasCellsUptoCardSaid : Prop := Claim7.holds Tryd.pinned (.plain (OpenSpec.upto atlasCellsSpec)) atlasCellsUptoCard

/-- THE SECOND FORM's CARD OF 'meridianlaw5.NightShoots'. -/
def nightShootsUptoCard : Claim7 := { stood := { row := nightShootsUptoRow, standIns := [], harness := (true, "b6f92032fe91280c072e5eee59a9d7d907448176c45610988db166ee237ed38b"), looks := true }, kinds := [], alts := [], laidByText := true, laidKinds := [.handle, .sentinel, .sentinel, .sentinel, .sentinel, .sentinel, .sentinel, .sentinel, .sentinel, .sentinel, .sentinel], laidTests := true, laidLooks := .later }
def NightShootsUptoCardSaid : Prop := Claim7.holds Tryd.pinned (.plain (OpenSpec.upto nightShootsSpec)) nightShootsUptoCard
end Rows
end Go.Proofs.YtjjjbkehmnfgbaaDoor
