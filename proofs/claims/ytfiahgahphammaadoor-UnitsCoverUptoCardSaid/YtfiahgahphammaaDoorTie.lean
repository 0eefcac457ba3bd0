/-
  DERIVED. GIVEN WITH THE SEED: THE PROGRAM's TIES (one call each: nine closed facts by the kernel) AND EACH ROW's TIE, after the 31st guide's Derived/Test/Toyas{Tie, Card}.lean. No idea stands in it: it is a product of the set-up. Laid BY PROGRAM, IN A SANDBOX (cutbox-door.mjs). By AI agents, Wed Nov 11 2026. No macro, syntax, notation, axiom, sorry.
-/
import Derived.Test.YtfiahgahphammaaDoorRows
import Derived.LaidByTextLater
import Derived.SevenTiedAt
import Derived.LaidSub
import Derived.LaidOnce
namespace Go.Proofs.YtfiahgahphammaaDoor
open Go
set_option maxRecDepth 100000
theorem seatTie1 : Tryd.prog.laidByTextLater [("caesura/api.ErrArg", Rows.laid_caesura_api_ErrArg), ("caesura/api.ErrText", Rows.laid_caesura_api_ErrText), ("caesura/api.ErrMany", Rows.laid_caesura_api_ErrMany), ("caesura/api.ErrShort", Rows.laid_caesura_api_ErrShort), ("caesura/api.ErrTwice", Rows.laid_caesura_api_ErrTwice), ("caesura/api.ErrLost", Rows.laid_caesura_api_ErrLost), ("caesura/api.ErrOrder", Rows.laid_caesura_api_ErrOrder), ("caesura/api.ErrCycle", Rows.laid_caesura_api_ErrCycle), ("caesura/api.ErrSum", Rows.laid_caesura_api_ErrSum), ("caesura/api.ErrForm", Rows.laid_caesura_api_ErrForm), ("caesura/api.ErrEnd", Rows.laid_caesura_api_ErrEnd), ("caesura/units.forms", Rows.laid_caesura_units_forms)] [.sentinel, .sentinel, .sentinel, .sentinel, .sentinel, .sentinel, .sentinel, .sentinel, .sentinel, .sentinel, .sentinel, .data] true :=
  Program.laidByTextLater_by_one 231 8 49 (by kernel_rfl) (by kernel_rfl) (by kernel_rfl) (by kernel_rfl) (by kernel_rfl) (by kernel_rfl) (fun _ _ => by kernel_rfl)
theorem noOwnUnsafe : Tryd.pinned.checked.prog.headLifts.contains "ownunsafe" = false := by kernel_rfl
theorem tie : Tryd.prog.laidByTextLater [("caesura/api.ErrArg", Rows.laid_caesura_api_ErrArg), ("caesura/api.ErrText", Rows.laid_caesura_api_ErrText), ("caesura/api.ErrMany", Rows.laid_caesura_api_ErrMany), ("caesura/api.ErrShort", Rows.laid_caesura_api_ErrShort), ("caesura/api.ErrTwice", Rows.laid_caesura_api_ErrTwice), ("caesura/api.ErrLost", Rows.laid_caesura_api_ErrLost), ("caesura/api.ErrOrder", Rows.laid_caesura_api_ErrOrder), ("caesura/api.ErrCycle", Rows.laid_caesura_api_ErrCycle), ("caesura/api.ErrSum", Rows.laid_caesura_api_ErrSum), ("caesura/api.ErrForm", Rows.laid_caesura_api_ErrForm), ("caesura/api.ErrEnd", Rows.laid_caesura_api_ErrEnd)] [.sentinel, .sentinel, .sentinel, .sentinel, .sentinel, .sentinel, .sentinel, .sentinel, .sentinel, .sentinel, .sentinel] true :=
  Program.laidByTextLater.sub seatTie1 ["caesura/api.ErrArg", "caesura/api.ErrText", "caesura/api.ErrMany", "caesura/api.ErrShort", "caesura/api.ErrTwice", "caesura/api.ErrLost", "caesura/api.ErrOrder", "caesura/api.ErrCycle", "caesura/api.ErrSum", "caesura/api.ErrForm", "caesura/api.ErrEnd"] (by kernel_rfl) (by kernel_rfl)
theorem unitsEncodes_row_tie : Rows.unitsEncodesRow.laidByTextAt .later Tryd.pinned [.sentinel, .sentinel, .sentinel, .sentinel, .sentinel, .sentinel, .sentinel, .sentinel, .sentinel, .sentinel, .sentinel] true :=
  OpenClaim.laidByTextAt_later rfl rfl tie noOwnUnsafe
theorem tie2 : Tryd.prog.laidByTextLater [("caesura/units.forms", Rows.laid_caesura_units_forms)] [.data] true :=
  Program.laidByTextLater.sub seatTie1 ["caesura/units.forms"] (by kernel_rfl) (by kernel_rfl)
theorem unitsCuts_row_tie : Rows.unitsCutsRow.laidByTextAt .later Tryd.pinned [.data] true :=
  OpenClaim.laidByTextAt_later rfl rfl tie2 noOwnUnsafe
theorem unitsSplits_row_tie : Rows.unitsSplitsRow.laidByTextAt .later Tryd.pinned [.data] true :=
  OpenClaim.laidByTextAt_later rfl rfl tie2 noOwnUnsafe
theorem unitsMemory_row_tie : Rows.unitsMemoryRow.laidByTextAt .later Tryd.pinned [.data] true :=
  OpenClaim.laidByTextAt_later rfl rfl tie2 noOwnUnsafe
theorem unitsSteps_row_tie : Rows.unitsStepsRow.laidByTextAt .later Tryd.pinned [.data] true :=
  OpenClaim.laidByTextAt_later rfl rfl tie2 noOwnUnsafe
theorem unitsPieces_row_tie : Rows.unitsPiecesRow.laidByTextAt .later Tryd.pinned [.data] true :=
  OpenClaim.laidByTextAt_later rfl rfl tie2 noOwnUnsafe
theorem unitsHeld_row_tie : Rows.unitsHeldRow.laidByTextAt .later Tryd.pinned [.data] true :=
  OpenClaim.laidByTextAt_later rfl rfl tie2 noOwnUnsafe
theorem tie3 : Tryd.prog.laidByTextLater [("caesura/api.ErrArg", Rows.laid_caesura_api_ErrArg), ("caesura/units.forms", Rows.laid_caesura_units_forms)] [.sentinel, .data] true :=
  Program.laidByTextLater.sub seatTie1 ["caesura/api.ErrArg", "caesura/units.forms"] (by kernel_rfl) (by kernel_rfl)
theorem unitsBack_row_tie : Rows.unitsBackRow.laidByTextAt .later Tryd.pinned [.sentinel, .data] true :=
  OpenClaim.laidByTextAt_later rfl rfl tie3 noOwnUnsafe
theorem unitsCover_row_tie : Rows.unitsCoverRow.laidByTextAt .later Tryd.pinned [.sentinel, .data] true :=
  OpenClaim.laidByTextAt_later rfl rfl tie3 noOwnUnsafe
theorem unitsEncodesUpto_row_tie : Rows.unitsEncodesUptoRow.laidByTextAt .later Tryd.pinned [.sentinel, .sentinel, .sentinel, .sentinel, .sentinel, .sentinel, .sentinel, .sentinel, .sentinel, .sentinel, .sentinel] true :=
  OpenClaim.laidByTextAt_later rfl rfl tie noOwnUnsafe
theorem unitsCutsUpto_row_tie : Rows.unitsCutsUptoRow.laidByTextAt .later Tryd.pinned [.data] true :=
  OpenClaim.laidByTextAt_later rfl rfl tie2 noOwnUnsafe
theorem unitsSplitsUpto_row_tie : Rows.unitsSplitsUptoRow.laidByTextAt .later Tryd.pinned [.data] true :=
  OpenClaim.laidByTextAt_later rfl rfl tie2 noOwnUnsafe
theorem unitsMemoryUpto_row_tie : Rows.unitsMemoryUptoRow.laidByTextAt .later Tryd.pinned [.data] true :=
  OpenClaim.laidByTextAt_later rfl rfl tie2 noOwnUnsafe
theorem unitsStepsUpto_row_tie : Rows.unitsStepsUptoRow.laidByTextAt .later Tryd.pinned [.data] true :=
  OpenClaim.laidByTextAt_later rfl rfl tie2 noOwnUnsafe
theorem unitsPiecesUpto_row_tie : Rows.unitsPiecesUptoRow.laidByTextAt .later Tryd.pinned [.data] true :=
  OpenClaim.laidByTextAt_later rfl rfl tie2 noOwnUnsafe
theorem unitsHeldUpto_row_tie : Rows.unitsHeldUptoRow.laidByTextAt .later Tryd.pinned [.data] true :=
  OpenClaim.laidByTextAt_later rfl rfl tie2 noOwnUnsafe
theorem unitsBackUpto_row_tie : Rows.unitsBackUptoRow.laidByTextAt .later Tryd.pinned [.sentinel, .data] true :=
  OpenClaim.laidByTextAt_later rfl rfl tie3 noOwnUnsafe
theorem unitsCoverUpto_row_tie : Rows.unitsCoverUptoRow.laidByTextAt .later Tryd.pinned [.sentinel, .data] true :=
  OpenClaim.laidByTextAt_later rfl rfl tie3 noOwnUnsafe
end Go.Proofs.YtfiahgahphammaaDoor
