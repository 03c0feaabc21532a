/-
  DERIVED. GIVEN WITH THE SEED: THE PROGRAM's TIES (one call each: nine closed facts by the kernel) AND EACH ROW's TIE, after the 31st guide's Derived/Test/Toyas{Tie, Card}.lean. No idea stands in it: it is a product of the set-up. Laid BY PROGRAM, IN A SANDBOX (cutbox-door.mjs). By AI agents, Wed Nov 11 2026. No macro, syntax, notation, axiom, sorry.
-/
import Derived.Test.YtjjjbkehmnfgbaaDoorRows
import Derived.LaidByTextLater
import Derived.SevenTiedAt
import Derived.LaidSub
import Derived.LaidOnce
namespace Go.Proofs.YtjjjbkehmnfgbaaDoor
open Go
set_option maxRecDepth 100000
theorem seatTie1 : Tryd.prog.laidByTextLater [("errors.errorType", Rows.laid_errors_errorType), ("meridian/api.ErrText", Rows.laid_meridian_api_ErrText), ("meridian/api.ErrBound", Rows.laid_meridian_api_ErrBound), ("meridian/api.ErrTime", Rows.laid_meridian_api_ErrTime), ("meridian/api.ErrTable", Rows.laid_meridian_api_ErrTable), ("meridian/api.ErrShape", Rows.laid_meridian_api_ErrShape), ("meridian/api.ErrLimit", Rows.laid_meridian_api_ErrLimit), ("meridian/api.ErrState", Rows.laid_meridian_api_ErrState), ("meridian/api.ErrFile", Rows.laid_meridian_api_ErrFile), ("meridian/api.ErrNone", Rows.laid_meridian_api_ErrNone), ("meridian/api.ErrName", Rows.laid_meridian_api_ErrName)] [.handle, .sentinel, .sentinel, .sentinel, .sentinel, .sentinel, .sentinel, .sentinel, .sentinel, .sentinel, .sentinel] true :=
  Program.laidByTextLater_by_one 206 8 2 (by kernel_rfl) (by kernel_rfl) (by kernel_rfl) (by kernel_rfl) (by kernel_rfl) (by kernel_rfl) (fun _ _ => by kernel_rfl)
theorem noOwnUnsafe : Tryd.pinned.checked.prog.headLifts.contains "ownunsafe" = false := by kernel_rfl
theorem tie : Tryd.prog.laidByTextLater [("errors.errorType", Rows.laid_errors_errorType), ("meridian/api.ErrText", Rows.laid_meridian_api_ErrText), ("meridian/api.ErrBound", Rows.laid_meridian_api_ErrBound), ("meridian/api.ErrTime", Rows.laid_meridian_api_ErrTime), ("meridian/api.ErrTable", Rows.laid_meridian_api_ErrTable), ("meridian/api.ErrShape", Rows.laid_meridian_api_ErrShape), ("meridian/api.ErrLimit", Rows.laid_meridian_api_ErrLimit), ("meridian/api.ErrState", Rows.laid_meridian_api_ErrState), ("meridian/api.ErrFile", Rows.laid_meridian_api_ErrFile), ("meridian/api.ErrNone", Rows.laid_meridian_api_ErrNone), ("meridian/api.ErrName", Rows.laid_meridian_api_ErrName)] [.handle, .sentinel, .sentinel, .sentinel, .sentinel, .sentinel, .sentinel, .sentinel, .sentinel, .sentinel, .sentinel] true :=
  Program.laidByTextLater.sub seatTie1 ["errors.errorType", "meridian/api.ErrText", "meridian/api.ErrBound", "meridian/api.ErrTime", "meridian/api.ErrTable", "meridian/api.ErrShape", "meridian/api.ErrLimit", "meridian/api.ErrState", "meridian/api.ErrFile", "meridian/api.ErrNone", "meridian/api.ErrName"] (by kernel_rfl) (by kernel_rfl)
theorem nightBest_row_tie : Rows.nightBestRow.laidByTextAt .later Tryd.pinned [.handle, .sentinel, .sentinel, .sentinel, .sentinel, .sentinel, .sentinel, .sentinel, .sentinel, .sentinel, .sentinel] true :=
  OpenClaim.laidByTextAt_later rfl rfl tie noOwnUnsafe
theorem nightChecks_row_tie : Rows.nightChecksRow.laidByTextAt .later Tryd.pinned [.handle, .sentinel, .sentinel, .sentinel, .sentinel, .sentinel, .sentinel, .sentinel, .sentinel, .sentinel, .sentinel] true :=
  OpenClaim.laidByTextAt_later rfl rfl tie noOwnUnsafe
theorem atlasCells_row_tie : Rows.atlasCellsRow.laidByTextAt .later Tryd.pinned [.handle, .sentinel, .sentinel, .sentinel, .sentinel, .sentinel, .sentinel, .sentinel, .sentinel, .sentinel, .sentinel] true :=
  OpenClaim.laidByTextAt_later rfl rfl tie noOwnUnsafe
theorem nightShoots_row_tie : Rows.nightShootsRow.laidByTextAt .later Tryd.pinned [.handle, .sentinel, .sentinel, .sentinel, .sentinel, .sentinel, .sentinel, .sentinel, .sentinel, .sentinel, .sentinel] true :=
  OpenClaim.laidByTextAt_later rfl rfl tie noOwnUnsafe
theorem nightBestUpto_row_tie : Rows.nightBestUptoRow.laidByTextAt .later Tryd.pinned [.handle, .sentinel, .sentinel, .sentinel, .sentinel, .sentinel, .sentinel, .sentinel, .sentinel, .sentinel, .sentinel] true :=
  OpenClaim.laidByTextAt_later rfl rfl tie noOwnUnsafe
theorem nightChecksUpto_row_tie : Rows.nightChecksUptoRow.laidByTextAt .later Tryd.pinned [.handle, .sentinel, .sentinel, .sentinel, .sentinel, .sentinel, .sentinel, .sentinel, .sentinel, .sentinel, .sentinel] true :=
  OpenClaim.laidByTextAt_later rfl rfl tie noOwnUnsafe
theorem atlasCellsUpto_row_tie : Rows.atlasCellsUptoRow.laidByTextAt .later Tryd.pinned [.handle, .sentinel, .sentinel, .sentinel, .sentinel, .sentinel, .sentinel, .sentinel, .sentinel, .sentinel, .sentinel] true :=
  OpenClaim.laidByTextAt_later rfl rfl tie noOwnUnsafe
theorem nightShootsUpto_row_tie : Rows.nightShootsUptoRow.laidByTextAt .later Tryd.pinned [.handle, .sentinel, .sentinel, .sentinel, .sentinel, .sentinel, .sentinel, .sentinel, .sentinel, .sentinel, .sentinel] true :=
  OpenClaim.laidByTextAt_later rfl rfl tie noOwnUnsafe
end Go.Proofs.YtjjjbkehmnfgbaaDoor
