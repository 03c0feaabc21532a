/-
  DERIVED. GIVEN WITH THE SEED: THE CARDS: each row of YtlfpfeidaohjmaaDoorRows.lean that lists a variable, with what it lists TIED to the program's text (the seventh form; the later family's looks); each row that meets fmt, with fmt's text TOLD by the authors' own Lean function (tested against real Go, not proved from fmt's source: count such statements apart). THE CARD IS WHAT COUNTS. Prove the row's statement (the work); the ties are given (YtlfpfeidaohjmaaDoorTie.lean); close each card by the builder's one call (the guide's Derived/Test/ToyasCard.lean, 'card_holds'). Laid BY PROGRAM, IN A SANDBOX (cutbox-door.mjs). By AI agents, Wed Nov 11 2026. No macro, syntax, notation, axiom, sorry.
-/
import Derived.Test.YtlfpfeidaohjmaaDoorRows
import GoSem.ClaimSeven
namespace Go.Proofs.YtlfpfeidaohjmaaDoor
namespace Rows

/-- THE TIED CARD OF 'meridianlaw3.MoveBack'. -/
def moveBackCard : Claim7 := { stood := { row := moveBackRow, standIns := [], harness := (true, "256550c319fd9e60cc4a02f35d6f3604f54b8e35f9433b6265260537f7a43522"), looks := true }, kinds := [], alts := [], laidByText := true, laidKinds := [.sentinel, .sentinel, .sentinel], laidTests := true, laidLooks := .later }
def MoveBackCardSaid : Prop := Claim7.holds Tryd.pinned (.plain (OpenSpec.ofChange moveBackSpec)) moveBackCard

/-- THE TIED CARD OF 'meridianlaw3.MovePush'. -/
def movePushCard : Claim7 := { stood := { row := movePushRow, standIns := [], harness := (true, "256550c319fd9e60cc4a02f35d6f3604f54b8e35f9433b6265260537f7a43522"), looks := true }, kinds := [], alts := [], laidByText := true, laidKinds := [.sentinel, .sentinel, .sentinel], laidTests := true, laidLooks := .later }
def MovePushCardSaid : Prop := Claim7.holds Tryd.pinned (.plain (OpenSpec.ofChange movePushSpec)) movePushCard

/-- THE TIED CARD OF 'meridianlaw3.MountSafe'. -/
def mountSafeCard : Claim7 := { stood := { row := mountSafeRow, standIns := [], harness := (true, "256550c319fd9e60cc4a02f35d6f3604f54b8e35f9433b6265260537f7a43522"), looks := true }, kinds := [], alts := [], laidByText := true, laidKinds := [.sentinel, .sentinel, .sentinel, .sentinel, .sentinel], laidTests := true, laidLooks := .later }
def MountSafeCardSaid : Prop := Claim7.holds Tryd.pinned (.plain (OpenSpec.ofChange mountSafeSpec)) mountSafeCard

/-- THE TIED CARD OF 'meridianlaw3.MoveRuns'. -/
def moveRunsCard : Claim7 := { stood := { row := moveRunsRow, standIns := [], harness := (true, "256550c319fd9e60cc4a02f35d6f3604f54b8e35f9433b6265260537f7a43522"), looks := true }, kinds := [], alts := [], laidByText := true, laidKinds := [.handle, .sentinel, .sentinel, .sentinel, .sentinel, .sentinel, .sentinel, .sentinel, .sentinel, .sentinel, .sentinel], laidTests := true, laidLooks := .later }
def MoveRunsCardSaid : Prop := Claim7.holds Tryd.pinned (.plain (OpenSpec.ofChange moveRunsSpec)) moveRunsCard

/-- THE TIED CARD OF 'meridianlaw3.MountTakes'. -/
def mountTakesCard : Claim7 := { stood := { row := mountTakesRow, standIns := [], harness := (true, "256550c319fd9e60cc4a02f35d6f3604f54b8e35f9433b6265260537f7a43522"), looks := true }, kinds := [], alts := [], laidByText := true, laidKinds := [.handle, .sentinel, .sentinel, .sentinel, .sentinel, .sentinel, .sentinel, .sentinel, .sentinel, .sentinel, .sentinel], laidTests := true, laidLooks := .later }
def MountTakesCardSaid : Prop := Claim7.holds Tryd.pinned (.plain (OpenSpec.ofChange mountTakesSpec)) mountTakesCard

/-- THE TIED CARD OF 'meridianlaw3.MoveNear'. -/
def moveNearCard : Claim7 := { stood := { row := moveNearRow, standIns := [], harness := (true, "256550c319fd9e60cc4a02f35d6f3604f54b8e35f9433b6265260537f7a43522"), looks := true }, kinds := [], alts := [], laidByText := true, laidKinds := [.handle, .sentinel, .sentinel, .sentinel, .sentinel, .sentinel, .sentinel, .sentinel, .sentinel, .sentinel, .sentinel], laidTests := true, laidLooks := .later }
def MoveNearCardSaid : Prop := Claim7.holds Tryd.pinned (.plain (OpenSpec.ofChange moveNearSpec)) moveNearCard

/-- THE TIED CARD OF 'meridianlaw3.MountHears'. -/
def mountHearsCard : Claim7 := { stood := { row := mountHearsRow, standIns := [], harness := (true, "256550c319fd9e60cc4a02f35d6f3604f54b8e35f9433b6265260537f7a43522"), looks := true }, kinds := [], alts := [], laidByText := true, laidKinds := [.handle, .sentinel, .sentinel, .sentinel, .sentinel, .sentinel, .sentinel, .sentinel, .sentinel, .sentinel, .sentinel], laidTests := true, laidLooks := .later }
def MountHearsCardSaid : Prop := Claim7.holds Tryd.pinned (.plain (OpenSpec.ofChange mountHearsSpec)) mountHearsCard

/-- THE TIED CARD OF 'meridianlaw3.EventSpans'. -/
def eventSpansCard : Claim7 := { stood := { row := eventSpansRow, standIns := [], harness := (true, "256550c319fd9e60cc4a02f35d6f3604f54b8e35f9433b6265260537f7a43522"), looks := true }, kinds := [], alts := [], laidByText := true, laidKinds := [.handle, .sentinel, .sentinel, .sentinel, .sentinel, .sentinel, .sentinel, .sentinel, .sentinel, .sentinel, .sentinel], laidTests := true, laidLooks := .later }
def EventSpansCardSaid : Prop := Claim7.holds Tryd.pinned (.plain (OpenSpec.ofChange eventSpansSpec)) eventSpansCard

/-- THE TIED CARD OF 'meridianlaw3.EventAll'. -/
def eventAllCard : Claim7 := { stood := { row := eventAllRow, standIns := [], harness := (true, "256550c319fd9e60cc4a02f35d6f3604f54b8e35f9433b6265260537f7a43522"), looks := true }, kinds := [], alts := [], laidByText := true, laidKinds := [.handle, .sentinel, .sentinel, .sentinel, .sentinel, .sentinel, .sentinel, .sentinel, .sentinel, .sentinel, .sentinel], laidTests := true, laidLooks := .later }
def EventAllCardSaid : Prop := Claim7.holds Tryd.pinned (.plain (OpenSpec.ofChange eventAllSpec)) eventAllCard

/-- THE TIED CARD OF 'meridianlaw3.EventHeights'. -/
def eventHeightsCard : Claim7 := { stood := { row := eventHeightsRow, standIns := [], harness := (true, "256550c319fd9e60cc4a02f35d6f3604f54b8e35f9433b6265260537f7a43522"), looks := true }, kinds := [], alts := [], laidByText := true, laidKinds := [.handle, .sentinel, .sentinel, .sentinel, .sentinel, .sentinel, .sentinel, .sentinel, .sentinel, .sentinel, .sentinel], laidTests := true, laidLooks := .later }
def EventHeightsCardSaid : Prop := Claim7.holds Tryd.pinned (.plain (OpenSpec.ofChange eventHeightsSpec)) eventHeightsCard

/-- THE TIED CARD OF 'meridianlaw3.EventWindows'. -/
def eventWindowsCard : Claim7 := { stood := { row := eventWindowsRow, standIns := [], harness := (true, "256550c319fd9e60cc4a02f35d6f3604f54b8e35f9433b6265260537f7a43522"), looks := true }, kinds := [], alts := [], laidByText := true, laidKinds := [.handle, .sentinel, .sentinel, .sentinel, .sentinel, .sentinel, .sentinel, .sentinel, .sentinel, .sentinel, .sentinel], laidTests := true, laidLooks := .later }
def EventWindowsCardSaid : Prop := Claim7.holds Tryd.pinned (.plain (OpenSpec.ofChange eventWindowsSpec)) eventWindowsCard

/-- THE SECOND FORM's CARD OF 'meridianlaw3.MoveBack'. -/
def moveBackUptoCard : Claim7 := { stood := { row := moveBackUptoRow, standIns := [], harness := (true, "256550c319fd9e60cc4a02f35d6f3604f54b8e35f9433b6265260537f7a43522"), looks := true }, kinds := [], alts := [], laidByText := true, laidKinds := [.sentinel, .sentinel, .sentinel], laidTests := true, laidLooks := .later }
def MoveBackUptoCardSaid : Prop := Claim7.holds Tryd.pinned (.plain (OpenSpec.upto moveBackSpec)) moveBackUptoCard

/-- THE SECOND FORM's CARD OF 'meridianlaw3.MovePush'. -/
def movePushUptoCard : Claim7 := { stood := { row := movePushUptoRow, standIns := [], harness := (true, "256550c319fd9e60cc4a02f35d6f3604f54b8e35f9433b6265260537f7a43522"), looks := true }, kinds := [], alts := [], laidByText := true, laidKinds := [.sentinel, .sentinel, .sentinel], laidTests := true, laidLooks := .later }
def MovePushUptoCardSaid : Prop := Claim7.holds Tryd.pinned (.plain (OpenSpec.upto movePushSpec)) movePushUptoCard

/-- THE SECOND FORM's CARD OF 'meridianlaw3.MountSafe'. -/
def mountSafeUptoCard : Claim7 := { stood := { row := mountSafeUptoRow, standIns := [], harness := (true, "256550c319fd9e60cc4a02f35d6f3604f54b8e35f9433b6265260537f7a43522"), looks := true }, kinds := [], alts := [], laidByText := true, laidKinds := [.sentinel, .sentinel, .sentinel, .sentinel, .sentinel], laidTests := true, laidLooks := .later }
def MountSafeUptoCardSaid : Prop := Claim7.holds Tryd.pinned (.plain (OpenSpec.upto mountSafeSpec)) mountSafeUptoCard

/-- THE SECOND FORM's CARD OF 'meridianlaw3.MoveRuns'. -/
def moveRunsUptoCard : Claim7 := { stood := { row := moveRunsUptoRow, standIns := [], harness := (true, "256550c319fd9e60cc4a02f35d6f3604f54b8e35f9433b6265260537f7a43522"), looks := true }, kinds := [], alts := [], laidByText := true, laidKinds := [.handle, .sentinel, .sentinel, .sentinel, .sentinel, .sentinel, .sentinel, .sentinel, .sentinel, .sentinel, .sentinel], laidTests := true, laidLooks := .later }
def MoveRunsUptoCardSaid : Prop := Claim7.holds Tryd.pinned (.plain (OpenSpec.upto moveRunsSpec)) moveRunsUptoCard

/-- THE SECOND FORM's CARD OF 'meridianlaw3.MountTakes'. -/
def mountTakesUptoCard : Claim7 := { stood := { row := mountTakesUptoRow, standIns := [], harness := (true, "256550c319fd9e60cc4a02f35d6f3604f54b8e35f9433b6265260537f7a43522"), looks := true }, kinds := [], alts := [], laidByText := true, laidKinds := [.handle, .sentinel, .sentinel, .sentinel, .sentinel, .sentinel, .sentinel, .sentinel, .sentinel, .sentinel, .sentinel], laidTests := true, laidLooks := .later }
def MountTakesUptoCardSaid : Prop := Claim7.holds Tryd.pinned (.plain (OpenSpec.upto mountTakesSpec)) mountTakesUptoCard

/-- THE SECOND FORM's CARD OF 'meridianlaw3.MoveNear'. -/
def moveNearUptoCard : Claim7 := { stood := { row := moveNearUptoRow, standIns := [], harness := (true, "256550c319fd9e60cc4a02f35d6f3604f54b8e35f9433b6265260537f7a43522"), looks := true }, kinds := [], alts := [], laidByText := true, laidKinds := [.handle, .sentinel, .sentinel, .sentinel, .sentinel, .sentinel, .sentinel, .sentinel, .sentinel, .sentinel, .sentinel], laidTests := true, laidLooks := .later }
def MoveNearUptoCardSaid : Prop := Claim7.holds Tryd.pinned (.plain (OpenSpec.upto moveNearSpec)) moveNearUptoCard

/-- THE SECOND FORM's CARD OF 'meridianlaw3.MountHears'. -/
def mountHearsUptoCard : Claim7 := { stood := { row := mountHearsUptoRow, standIns := [], harness := (true, "256550c319fd9e60cc4a02f35d6f3604f54b8e35f9433b6265260537f7a43522"), looks := true }, kinds := [], alts := [], laidByText := true, laidKinds := [.handle, .sentinel, .sentinel, .sentinel, .sentinel, .sentinel, .sentinel, .sentinel, .sentinel, .sentinel, .sentinel], laidTests := true, laidLooks := .later }
def MountHearsUptoCardSaid : Prop := Claim7.holds Tryd.pinned (.plain (OpenSpec.upto mountHearsSpec)) mountHearsUptoCard

/-- THE SECOND FORM's CARD OF 'meridianlaw3.EventSpans'. -/
def eventSpansUptoCard : Claim7 := { stood := { row := eventSpansUptoRow, standIns := [], harness := (true, "256550c319fd9e60cc4a02f35d6f3604f54b8e35f9433b6265260537f7a43522"), looks := true }, kinds := [], alts := [], laidByText := true, laidKinds := [.handle, .sentinel, .sentinel, .sentinel, .sentinel, .sentinel, .sentinel, .sentinel, .sentinel, .sentinel, .sentinel], laidTests := true, laidLooks := .later }
def EventSpansUptoCardSaid : Prop := Claim7.holds Tryd.pinned (.plain (OpenSpec.upto eventSpansSpec)) eventSpansUptoCard

/-- THE SECOND FORM's CARD OF 'meridianlaw3.EventAll'. -/
def eventAllUptoCard : Claim7 := { stood := { row := eventAllUptoRow, standIns := [], harness := (true, "256550c319fd9e60cc4a02f35d6f3604f54b8e35f9433b6265260537f7a43522"), looks := true }, kinds := [], alts := [], laidByText := true, laidKinds := [.handle, .sentinel, .sentinel, .sentinel, .sentinel, .sentinel, .sentinel, .sentinel, .sentinel, .sentinel, .sentinel], laidTests := true, laidLooks := .later }
def EventAllUptoCardSaid : Prop := Claim7.holds Tryd.pinned (.plain (OpenSpec.upto eventAllSpec)) eventAllUptoCard

/-- THE SECOND FORM's CARD OF 'meridianlaw3.EventHeights'. -/
def eventHeightsUptoCard : Claim7 := { stood := { row := eventHeightsUptoRow, standIns := [], harness := (true, "256550c319fd9e60cc4a02f35d6f3604f54b8e35f9433b6265260537f7a43522"), looks := true }, kinds := [], alts := [], laidByText := true, laidKinds := [.handle, .sentinel, .sentinel, .sentinel, .sentinel, .sentinel, .sentinel, .sentinel, .sentinel, .sentinel, .sentinel], laidTests := true, laidLooks := .later }
def EventHeightsUptoCardSaid : Prop := Claim7.holds Tryd.pinned (.plain (OpenSpec.upto eventHeightsSpec)) eventHeightsUptoCard

/-- THE SECOND FORM's CARD OF 'meridianlaw3.EventWindows'. -/
def eventWindowsUptoCard : Claim7 := { stood := { row := eventWindowsUptoRow, standIns := [], harness := (true, "256550c319fd9e60cc4a02f35d6f3604f54b8e35f9433b6265260537f7a43522"), looks := true }, kinds := [], alts := [], laidByText := true, laidKinds := [.handle, .sentinel, .sentinel, .sentinel, .sentinel, .sentinel, .sentinel, .sentinel, .sentinel, .sentinel, .sentinel], laidTests := true, laidLooks := .later }
def EventWindowsUptoCardSaid : Prop := Claim7.holds Tryd.pinned (.plain (OpenSpec.upto eventWindowsSpec)) eventWindowsUptoCard
end Rows
end Go.Proofs.YtlfpfeidaohjmaaDoor
