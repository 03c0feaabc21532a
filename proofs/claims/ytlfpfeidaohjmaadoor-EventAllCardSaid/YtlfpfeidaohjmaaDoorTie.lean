/-
  DERIVED. GIVEN WITH THE SEED: THE PROGRAM's TIES (one call each: nine closed facts by the kernel) AND EACH ROW's TIE, after the 31st guide's Derived/Test/Toyas{Tie, Card}.lean. No idea stands in it: it is a product of the set-up. Laid BY PROGRAM, IN A SANDBOX (cutbox-door.mjs). By AI agents, Wed Nov 11 2026. No macro, syntax, notation, axiom, sorry.
-/
import Derived.Test.YtlfpfeidaohjmaaDoorRows
import Derived.LaidByTextLater
import Derived.SevenTiedAt
import Derived.LaidSub
import Derived.LaidOnce
namespace Go.Proofs.YtlfpfeidaohjmaaDoor
open Go
set_option maxRecDepth 100000
theorem seatTie1 : Tryd.prog.laidByTextLater [("errors.errorType", Rows.laid_errors_errorType), ("meridian/api.ErrText", Rows.laid_meridian_api_ErrText), ("meridian/api.ErrBound", Rows.laid_meridian_api_ErrBound), ("meridian/api.ErrTime", Rows.laid_meridian_api_ErrTime), ("meridian/api.ErrTable", Rows.laid_meridian_api_ErrTable), ("meridian/api.ErrShape", Rows.laid_meridian_api_ErrShape), ("meridian/api.ErrLimit", Rows.laid_meridian_api_ErrLimit), ("meridian/api.ErrState", Rows.laid_meridian_api_ErrState), ("meridian/api.ErrFile", Rows.laid_meridian_api_ErrFile), ("meridian/api.ErrNone", Rows.laid_meridian_api_ErrNone), ("meridian/api.ErrName", Rows.laid_meridian_api_ErrName)] [.handle, .sentinel, .sentinel, .sentinel, .sentinel, .sentinel, .sentinel, .sentinel, .sentinel, .sentinel, .sentinel] true :=
  Program.laidByTextLater_by_one 206 8 2 (by kernel_rfl) (by kernel_rfl) (by kernel_rfl) (by kernel_rfl) (by kernel_rfl) (by kernel_rfl) (fun _ _ => by kernel_rfl)
theorem noOwnUnsafe : Tryd.pinned.checked.prog.headLifts.contains "ownunsafe" = false := by kernel_rfl
theorem tie : Tryd.prog.laidByTextLater [("meridian/api.ErrBound", Rows.laid_meridian_api_ErrBound), ("meridian/api.ErrShape", Rows.laid_meridian_api_ErrShape), ("meridian/api.ErrLimit", Rows.laid_meridian_api_ErrLimit)] [.sentinel, .sentinel, .sentinel] true :=
  Program.laidByTextLater.sub seatTie1 ["meridian/api.ErrBound", "meridian/api.ErrShape", "meridian/api.ErrLimit"] (by kernel_rfl) (by kernel_rfl)
theorem moveBack_row_tie : Rows.moveBackRow.laidByTextAt .later Tryd.pinned [.sentinel, .sentinel, .sentinel] true :=
  OpenClaim.laidByTextAt_later rfl rfl tie noOwnUnsafe
theorem movePush_row_tie : Rows.movePushRow.laidByTextAt .later Tryd.pinned [.sentinel, .sentinel, .sentinel] true :=
  OpenClaim.laidByTextAt_later rfl rfl tie noOwnUnsafe
theorem tie2 : Tryd.prog.laidByTextLater [("meridian/api.ErrBound", Rows.laid_meridian_api_ErrBound), ("meridian/api.ErrShape", Rows.laid_meridian_api_ErrShape), ("meridian/api.ErrLimit", Rows.laid_meridian_api_ErrLimit), ("meridian/api.ErrState", Rows.laid_meridian_api_ErrState), ("meridian/api.ErrName", Rows.laid_meridian_api_ErrName)] [.sentinel, .sentinel, .sentinel, .sentinel, .sentinel] true :=
  Program.laidByTextLater.sub seatTie1 ["meridian/api.ErrBound", "meridian/api.ErrShape", "meridian/api.ErrLimit", "meridian/api.ErrState", "meridian/api.ErrName"] (by kernel_rfl) (by kernel_rfl)
theorem mountSafe_row_tie : Rows.mountSafeRow.laidByTextAt .later Tryd.pinned [.sentinel, .sentinel, .sentinel, .sentinel, .sentinel] true :=
  OpenClaim.laidByTextAt_later rfl rfl tie2 noOwnUnsafe
theorem tie3 : Tryd.prog.laidByTextLater [("errors.errorType", Rows.laid_errors_errorType), ("meridian/api.ErrText", Rows.laid_meridian_api_ErrText), ("meridian/api.ErrBound", Rows.laid_meridian_api_ErrBound), ("meridian/api.ErrTime", Rows.laid_meridian_api_ErrTime), ("meridian/api.ErrTable", Rows.laid_meridian_api_ErrTable), ("meridian/api.ErrShape", Rows.laid_meridian_api_ErrShape), ("meridian/api.ErrLimit", Rows.laid_meridian_api_ErrLimit), ("meridian/api.ErrState", Rows.laid_meridian_api_ErrState), ("meridian/api.ErrFile", Rows.laid_meridian_api_ErrFile), ("meridian/api.ErrNone", Rows.laid_meridian_api_ErrNone), ("meridian/api.ErrName", Rows.laid_meridian_api_ErrName)] [.handle, .sentinel, .sentinel, .sentinel, .sentinel, .sentinel, .sentinel, .sentinel, .sentinel, .sentinel, .sentinel] true :=
  Program.laidByTextLater.sub seatTie1 ["errors.errorType", "meridian/api.ErrText", "meridian/api.ErrBound", "meridian/api.ErrTime", "meridian/api.ErrTable", "meridian/api.ErrShape", "meridian/api.ErrLimit", "meridian/api.ErrState", "meridian/api.ErrFile", "meridian/api.ErrNone", "meridian/api.ErrName"] (by kernel_rfl) (by kernel_rfl)
theorem moveRuns_row_tie : Rows.moveRunsRow.laidByTextAt .later Tryd.pinned [.handle, .sentinel, .sentinel, .sentinel, .sentinel, .sentinel, .sentinel, .sentinel, .sentinel, .sentinel, .sentinel] true :=
  OpenClaim.laidByTextAt_later rfl rfl tie3 noOwnUnsafe
theorem mountTakes_row_tie : Rows.mountTakesRow.laidByTextAt .later Tryd.pinned [.handle, .sentinel, .sentinel, .sentinel, .sentinel, .sentinel, .sentinel, .sentinel, .sentinel, .sentinel, .sentinel] true :=
  OpenClaim.laidByTextAt_later rfl rfl tie3 noOwnUnsafe
theorem moveNear_row_tie : Rows.moveNearRow.laidByTextAt .later Tryd.pinned [.handle, .sentinel, .sentinel, .sentinel, .sentinel, .sentinel, .sentinel, .sentinel, .sentinel, .sentinel, .sentinel] true :=
  OpenClaim.laidByTextAt_later rfl rfl tie3 noOwnUnsafe
theorem mountHears_row_tie : Rows.mountHearsRow.laidByTextAt .later Tryd.pinned [.handle, .sentinel, .sentinel, .sentinel, .sentinel, .sentinel, .sentinel, .sentinel, .sentinel, .sentinel, .sentinel] true :=
  OpenClaim.laidByTextAt_later rfl rfl tie3 noOwnUnsafe
theorem eventSpans_row_tie : Rows.eventSpansRow.laidByTextAt .later Tryd.pinned [.handle, .sentinel, .sentinel, .sentinel, .sentinel, .sentinel, .sentinel, .sentinel, .sentinel, .sentinel, .sentinel] true :=
  OpenClaim.laidByTextAt_later rfl rfl tie3 noOwnUnsafe
theorem eventAll_row_tie : Rows.eventAllRow.laidByTextAt .later Tryd.pinned [.handle, .sentinel, .sentinel, .sentinel, .sentinel, .sentinel, .sentinel, .sentinel, .sentinel, .sentinel, .sentinel] true :=
  OpenClaim.laidByTextAt_later rfl rfl tie3 noOwnUnsafe
theorem eventHeights_row_tie : Rows.eventHeightsRow.laidByTextAt .later Tryd.pinned [.handle, .sentinel, .sentinel, .sentinel, .sentinel, .sentinel, .sentinel, .sentinel, .sentinel, .sentinel, .sentinel] true :=
  OpenClaim.laidByTextAt_later rfl rfl tie3 noOwnUnsafe
theorem eventWindows_row_tie : Rows.eventWindowsRow.laidByTextAt .later Tryd.pinned [.handle, .sentinel, .sentinel, .sentinel, .sentinel, .sentinel, .sentinel, .sentinel, .sentinel, .sentinel, .sentinel] true :=
  OpenClaim.laidByTextAt_later rfl rfl tie3 noOwnUnsafe
theorem moveBackUpto_row_tie : Rows.moveBackUptoRow.laidByTextAt .later Tryd.pinned [.sentinel, .sentinel, .sentinel] true :=
  OpenClaim.laidByTextAt_later rfl rfl tie noOwnUnsafe
theorem movePushUpto_row_tie : Rows.movePushUptoRow.laidByTextAt .later Tryd.pinned [.sentinel, .sentinel, .sentinel] true :=
  OpenClaim.laidByTextAt_later rfl rfl tie noOwnUnsafe
theorem mountSafeUpto_row_tie : Rows.mountSafeUptoRow.laidByTextAt .later Tryd.pinned [.sentinel, .sentinel, .sentinel, .sentinel, .sentinel] true :=
  OpenClaim.laidByTextAt_later rfl rfl tie2 noOwnUnsafe
theorem moveRunsUpto_row_tie : Rows.moveRunsUptoRow.laidByTextAt .later Tryd.pinned [.handle, .sentinel, .sentinel, .sentinel, .sentinel, .sentinel, .sentinel, .sentinel, .sentinel, .sentinel, .sentinel] true :=
  OpenClaim.laidByTextAt_later rfl rfl tie3 noOwnUnsafe
theorem mountTakesUpto_row_tie : Rows.mountTakesUptoRow.laidByTextAt .later Tryd.pinned [.handle, .sentinel, .sentinel, .sentinel, .sentinel, .sentinel, .sentinel, .sentinel, .sentinel, .sentinel, .sentinel] true :=
  OpenClaim.laidByTextAt_later rfl rfl tie3 noOwnUnsafe
theorem moveNearUpto_row_tie : Rows.moveNearUptoRow.laidByTextAt .later Tryd.pinned [.handle, .sentinel, .sentinel, .sentinel, .sentinel, .sentinel, .sentinel, .sentinel, .sentinel, .sentinel, .sentinel] true :=
  OpenClaim.laidByTextAt_later rfl rfl tie3 noOwnUnsafe
theorem mountHearsUpto_row_tie : Rows.mountHearsUptoRow.laidByTextAt .later Tryd.pinned [.handle, .sentinel, .sentinel, .sentinel, .sentinel, .sentinel, .sentinel, .sentinel, .sentinel, .sentinel, .sentinel] true :=
  OpenClaim.laidByTextAt_later rfl rfl tie3 noOwnUnsafe
theorem eventSpansUpto_row_tie : Rows.eventSpansUptoRow.laidByTextAt .later Tryd.pinned [.handle, .sentinel, .sentinel, .sentinel, .sentinel, .sentinel, .sentinel, .sentinel, .sentinel, .sentinel, .sentinel] true :=
  OpenClaim.laidByTextAt_later rfl rfl tie3 noOwnUnsafe
theorem eventAllUpto_row_tie : Rows.eventAllUptoRow.laidByTextAt .later Tryd.pinned [.handle, .sentinel, .sentinel, .sentinel, .sentinel, .sentinel, .sentinel, .sentinel, .sentinel, .sentinel, .sentinel] true :=
  OpenClaim.laidByTextAt_later rfl rfl tie3 noOwnUnsafe
theorem eventHeightsUpto_row_tie : Rows.eventHeightsUptoRow.laidByTextAt .later Tryd.pinned [.handle, .sentinel, .sentinel, .sentinel, .sentinel, .sentinel, .sentinel, .sentinel, .sentinel, .sentinel, .sentinel] true :=
  OpenClaim.laidByTextAt_later rfl rfl tie3 noOwnUnsafe
theorem eventWindowsUpto_row_tie : Rows.eventWindowsUptoRow.laidByTextAt .later Tryd.pinned [.handle, .sentinel, .sentinel, .sentinel, .sentinel, .sentinel, .sentinel, .sentinel, .sentinel, .sentinel, .sentinel] true :=
  OpenClaim.laidByTextAt_later rfl rfl tie3 noOwnUnsafe
end Go.Proofs.YtlfpfeidaohjmaaDoor
