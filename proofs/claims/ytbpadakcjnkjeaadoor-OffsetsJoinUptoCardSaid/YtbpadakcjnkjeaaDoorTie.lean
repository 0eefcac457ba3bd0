/-
  DERIVED. GIVEN WITH THE SEED: THE PROGRAM's TIES (one call each: nine closed facts by the kernel) AND EACH ROW's TIE, after the 31st guide's Derived/Test/Toyas{Tie, Card}.lean. No idea stands in it: it is a product of the set-up. Laid BY PROGRAM, IN A SANDBOX (cutbox-door.mjs). By AI agents, Wed Nov 11 2026. No macro, syntax, notation, axiom, sorry.
-/
import Derived.Test.YtbpadakcjnkjeaaDoorRows
import Derived.LaidByTextLater
import Derived.SevenTiedAt
import Derived.LaidSub
import Derived.LaidOnce
namespace Go.Proofs.YtbpadakcjnkjeaaDoor
open Go
set_option maxRecDepth 100000
theorem seatTie1 : Tryd.prog.laidByTextLater [("caesura/api.ErrArg", Rows.laid_caesura_api_ErrArg), ("caesura/api.ErrText", Rows.laid_caesura_api_ErrText), ("caesura/api.ErrMany", Rows.laid_caesura_api_ErrMany), ("caesura/api.ErrShort", Rows.laid_caesura_api_ErrShort), ("caesura/api.ErrTwice", Rows.laid_caesura_api_ErrTwice), ("caesura/api.ErrLost", Rows.laid_caesura_api_ErrLost), ("caesura/api.ErrOrder", Rows.laid_caesura_api_ErrOrder), ("caesura/api.ErrCycle", Rows.laid_caesura_api_ErrCycle), ("caesura/api.ErrSum", Rows.laid_caesura_api_ErrSum), ("caesura/api.ErrForm", Rows.laid_caesura_api_ErrForm), ("caesura/api.ErrEnd", Rows.laid_caesura_api_ErrEnd), ("caesura/units.forms", Rows.laid_caesura_units_forms)] [.sentinel, .sentinel, .sentinel, .sentinel, .sentinel, .sentinel, .sentinel, .sentinel, .sentinel, .sentinel, .sentinel, .data] true :=
  Program.laidByTextLater_by_one 231 8 49 (by kernel_rfl) (by kernel_rfl) (by kernel_rfl) (by kernel_rfl) (by kernel_rfl) (by kernel_rfl) (fun _ _ => by kernel_rfl)
theorem noOwnUnsafe : Tryd.pinned.checked.prog.headLifts.contains "ownunsafe" = false := by kernel_rfl
theorem tie : Tryd.prog.laidByTextLater [("caesura/api.ErrArg", Rows.laid_caesura_api_ErrArg), ("caesura/units.forms", Rows.laid_caesura_units_forms)] [.sentinel, .data] true :=
  Program.laidByTextLater.sub seatTie1 ["caesura/api.ErrArg", "caesura/units.forms"] (by kernel_rfl) (by kernel_rfl)
theorem offsetsJoin_row_tie : Rows.offsetsJoinRow.laidByTextAt .later Tryd.pinned [.sentinel, .data] true :=
  OpenClaim.laidByTextAt_later rfl rfl tie noOwnUnsafe
theorem offsetsBack_row_tie : Rows.offsetsBackRow.laidByTextAt .later Tryd.pinned [.sentinel, .data] true :=
  OpenClaim.laidByTextAt_later rfl rfl tie noOwnUnsafe
theorem tie2 : Tryd.prog.laidByTextLater [("caesura/api.ErrArg", Rows.laid_caesura_api_ErrArg), ("caesura/api.ErrText", Rows.laid_caesura_api_ErrText), ("caesura/api.ErrMany", Rows.laid_caesura_api_ErrMany), ("caesura/api.ErrShort", Rows.laid_caesura_api_ErrShort), ("caesura/api.ErrTwice", Rows.laid_caesura_api_ErrTwice), ("caesura/api.ErrLost", Rows.laid_caesura_api_ErrLost), ("caesura/api.ErrOrder", Rows.laid_caesura_api_ErrOrder), ("caesura/api.ErrCycle", Rows.laid_caesura_api_ErrCycle), ("caesura/api.ErrSum", Rows.laid_caesura_api_ErrSum), ("caesura/api.ErrForm", Rows.laid_caesura_api_ErrForm), ("caesura/api.ErrEnd", Rows.laid_caesura_api_ErrEnd), ("caesura/units.forms", Rows.laid_caesura_units_forms)] [.sentinel, .sentinel, .sentinel, .sentinel, .sentinel, .sentinel, .sentinel, .sentinel, .sentinel, .sentinel, .sentinel, .data] true :=
  Program.laidByTextLater.sub seatTie1 ["caesura/api.ErrArg", "caesura/api.ErrText", "caesura/api.ErrMany", "caesura/api.ErrShort", "caesura/api.ErrTwice", "caesura/api.ErrLost", "caesura/api.ErrOrder", "caesura/api.ErrCycle", "caesura/api.ErrSum", "caesura/api.ErrForm", "caesura/api.ErrEnd", "caesura/units.forms"] (by kernel_rfl) (by kernel_rfl)
theorem offsetsPlay_row_tie : Rows.offsetsPlayRow.laidByTextAt .later Tryd.pinned [.sentinel, .sentinel, .sentinel, .sentinel, .sentinel, .sentinel, .sentinel, .sentinel, .sentinel, .sentinel, .sentinel, .data] true :=
  OpenClaim.laidByTextAt_later rfl rfl tie2 noOwnUnsafe
theorem offsetsJoinUpto_row_tie : Rows.offsetsJoinUptoRow.laidByTextAt .later Tryd.pinned [.sentinel, .data] true :=
  OpenClaim.laidByTextAt_later rfl rfl tie noOwnUnsafe
theorem offsetsPlayUpto_row_tie : Rows.offsetsPlayUptoRow.laidByTextAt .later Tryd.pinned [.sentinel, .sentinel, .sentinel, .sentinel, .sentinel, .sentinel, .sentinel, .sentinel, .sentinel, .sentinel, .sentinel, .data] true :=
  OpenClaim.laidByTextAt_later rfl rfl tie2 noOwnUnsafe
theorem offsetsBackUpto_row_tie : Rows.offsetsBackUptoRow.laidByTextAt .later Tryd.pinned [.sentinel, .data] true :=
  OpenClaim.laidByTextAt_later rfl rfl tie noOwnUnsafe
end Go.Proofs.YtbpadakcjnkjeaaDoor
