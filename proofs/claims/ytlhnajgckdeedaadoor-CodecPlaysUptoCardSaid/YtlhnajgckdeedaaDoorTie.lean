/-
  DERIVED. GIVEN WITH THE SEED: THE PROGRAM's TIES (one call each: nine closed facts by the kernel) AND EACH ROW's TIE, after the 31st guide's Derived/Test/Toyas{Tie, Card}.lean. No idea stands in it: it is a product of the set-up. Laid BY PROGRAM, IN A SANDBOX (cutbox-door.mjs). By AI agents, Wed Nov 11 2026. No macro, syntax, notation, axiom, sorry.
-/
import Derived.Test.YtlhnajgckdeedaaDoorRows
import Derived.LaidByTextLater
import Derived.SevenTiedAt
import Derived.LaidSub
import Derived.LaidOnce
namespace Go.Proofs.YtlhnajgckdeedaaDoor
open Go
set_option maxRecDepth 100000
theorem seatTie1 : Tryd.prog.laidByTextLater [("caesura/api.ErrArg", Rows.laid_caesura_api_ErrArg), ("caesura/api.ErrText", Rows.laid_caesura_api_ErrText), ("caesura/api.ErrMany", Rows.laid_caesura_api_ErrMany), ("caesura/api.ErrShort", Rows.laid_caesura_api_ErrShort), ("caesura/api.ErrTwice", Rows.laid_caesura_api_ErrTwice), ("caesura/api.ErrLost", Rows.laid_caesura_api_ErrLost), ("caesura/api.ErrOrder", Rows.laid_caesura_api_ErrOrder), ("caesura/api.ErrCycle", Rows.laid_caesura_api_ErrCycle), ("caesura/api.ErrSum", Rows.laid_caesura_api_ErrSum), ("caesura/api.ErrForm", Rows.laid_caesura_api_ErrForm), ("caesura/api.ErrEnd", Rows.laid_caesura_api_ErrEnd), ("caesura/caesuralaw0.limits", Rows.laid_caesura_caesuralaw0_limits), ("caesura/caesuralaw0.wanted", Rows.laid_caesura_caesuralaw0_wanted), ("caesura/caesuralaw0.kinds", Rows.laid_caesura_caesuralaw0_kinds), ("caesura/caesuralaw0.numbers", Rows.laid_caesura_caesuralaw0_numbers), ("caesura/codec.table", Rows.laid_caesura_codec_table)] [.sentinel, .sentinel, .sentinel, .sentinel, .sentinel, .sentinel, .sentinel, .sentinel, .sentinel, .sentinel, .sentinel, .data, .data, .data, .data, .data] true :=
  Program.laidByTextLater_by_one 243 8 26 (by kernel_rfl) (by kernel_rfl) (by kernel_rfl) (by kernel_rfl) (by kernel_rfl) (by kernel_rfl) (fun _ _ => by kernel_rfl)
theorem noOwnUnsafe : Tryd.pinned.checked.prog.headLifts.contains "ownunsafe" = false := by kernel_rfl
theorem tie : Tryd.prog.laidByTextLater [("caesura/api.ErrArg", Rows.laid_caesura_api_ErrArg), ("caesura/api.ErrText", Rows.laid_caesura_api_ErrText), ("caesura/api.ErrMany", Rows.laid_caesura_api_ErrMany), ("caesura/api.ErrShort", Rows.laid_caesura_api_ErrShort), ("caesura/api.ErrTwice", Rows.laid_caesura_api_ErrTwice), ("caesura/api.ErrLost", Rows.laid_caesura_api_ErrLost), ("caesura/api.ErrOrder", Rows.laid_caesura_api_ErrOrder), ("caesura/api.ErrCycle", Rows.laid_caesura_api_ErrCycle), ("caesura/api.ErrSum", Rows.laid_caesura_api_ErrSum), ("caesura/api.ErrForm", Rows.laid_caesura_api_ErrForm), ("caesura/api.ErrEnd", Rows.laid_caesura_api_ErrEnd), ("caesura/caesuralaw0.limits", Rows.laid_caesura_caesuralaw0_limits), ("caesura/caesuralaw0.wanted", Rows.laid_caesura_caesuralaw0_wanted), ("caesura/caesuralaw0.kinds", Rows.laid_caesura_caesuralaw0_kinds), ("caesura/caesuralaw0.numbers", Rows.laid_caesura_caesuralaw0_numbers)] [.sentinel, .sentinel, .sentinel, .sentinel, .sentinel, .sentinel, .sentinel, .sentinel, .sentinel, .sentinel, .sentinel, .data, .data, .data, .data] true :=
  Program.laidByTextLater.sub seatTie1 ["caesura/api.ErrArg", "caesura/api.ErrText", "caesura/api.ErrMany", "caesura/api.ErrShort", "caesura/api.ErrTwice", "caesura/api.ErrLost", "caesura/api.ErrOrder", "caesura/api.ErrCycle", "caesura/api.ErrSum", "caesura/api.ErrForm", "caesura/api.ErrEnd", "caesura/caesuralaw0.limits", "caesura/caesuralaw0.wanted", "caesura/caesuralaw0.kinds", "caesura/caesuralaw0.numbers"] (by kernel_rfl) (by kernel_rfl)
theorem names_row_tie : Rows.namesRow.laidByTextAt .later Tryd.pinned [.sentinel, .sentinel, .sentinel, .sentinel, .sentinel, .sentinel, .sentinel, .sentinel, .sentinel, .sentinel, .sentinel, .data, .data, .data, .data] true :=
  OpenClaim.laidByTextAt_later rfl rfl tie noOwnUnsafe
theorem tie2 : Tryd.prog.laidByTextLater [("caesura/codec.table", Rows.laid_caesura_codec_table)] [.data] true :=
  Program.laidByTextLater.sub seatTie1 ["caesura/codec.table"] (by kernel_rfl) (by kernel_rfl)
theorem codecSums_row_tie : Rows.codecSumsRow.laidByTextAt .later Tryd.pinned [.data] true :=
  OpenClaim.laidByTextAt_later rfl rfl tie2 noOwnUnsafe
theorem tie3 : Tryd.prog.laidByTextLater [("caesura/api.ErrArg", Rows.laid_caesura_api_ErrArg), ("caesura/codec.table", Rows.laid_caesura_codec_table)] [.sentinel, .data] true :=
  Program.laidByTextLater.sub seatTie1 ["caesura/api.ErrArg", "caesura/codec.table"] (by kernel_rfl) (by kernel_rfl)
theorem codecParts_row_tie : Rows.codecPartsRow.laidByTextAt .later Tryd.pinned [.sentinel, .data] true :=
  OpenClaim.laidByTextAt_later rfl rfl tie3 noOwnUnsafe
theorem codecBursts_row_tie : Rows.codecBurstsRow.laidByTextAt .later Tryd.pinned [.sentinel, .data] true :=
  OpenClaim.laidByTextAt_later rfl rfl tie3 noOwnUnsafe
theorem codecLike_row_tie : Rows.codecLikeRow.laidByTextAt .later Tryd.pinned [.sentinel, .data] true :=
  OpenClaim.laidByTextAt_later rfl rfl tie3 noOwnUnsafe
theorem tie4 : Tryd.prog.laidByTextLater [("caesura/api.ErrArg", Rows.laid_caesura_api_ErrArg), ("caesura/api.ErrShort", Rows.laid_caesura_api_ErrShort), ("caesura/api.ErrForm", Rows.laid_caesura_api_ErrForm), ("caesura/codec.table", Rows.laid_caesura_codec_table)] [.sentinel, .sentinel, .sentinel, .data] true :=
  Program.laidByTextLater.sub seatTie1 ["caesura/api.ErrArg", "caesura/api.ErrShort", "caesura/api.ErrForm", "caesura/codec.table"] (by kernel_rfl) (by kernel_rfl)
theorem codecOne_row_tie : Rows.codecOneRow.laidByTextAt .later Tryd.pinned [.sentinel, .sentinel, .sentinel, .data] true :=
  OpenClaim.laidByTextAt_later rfl rfl tie4 noOwnUnsafe
theorem tie5 : Tryd.prog.laidByTextLater [("caesura/api.ErrArg", Rows.laid_caesura_api_ErrArg), ("caesura/api.ErrText", Rows.laid_caesura_api_ErrText), ("caesura/api.ErrMany", Rows.laid_caesura_api_ErrMany), ("caesura/api.ErrShort", Rows.laid_caesura_api_ErrShort), ("caesura/api.ErrTwice", Rows.laid_caesura_api_ErrTwice), ("caesura/api.ErrLost", Rows.laid_caesura_api_ErrLost), ("caesura/api.ErrOrder", Rows.laid_caesura_api_ErrOrder), ("caesura/api.ErrCycle", Rows.laid_caesura_api_ErrCycle), ("caesura/api.ErrSum", Rows.laid_caesura_api_ErrSum), ("caesura/api.ErrForm", Rows.laid_caesura_api_ErrForm), ("caesura/api.ErrEnd", Rows.laid_caesura_api_ErrEnd)] [.sentinel, .sentinel, .sentinel, .sentinel, .sentinel, .sentinel, .sentinel, .sentinel, .sentinel, .sentinel, .sentinel] true :=
  Program.laidByTextLater.sub seatTie1 ["caesura/api.ErrArg", "caesura/api.ErrText", "caesura/api.ErrMany", "caesura/api.ErrShort", "caesura/api.ErrTwice", "caesura/api.ErrLost", "caesura/api.ErrOrder", "caesura/api.ErrCycle", "caesura/api.ErrSum", "caesura/api.ErrForm", "caesura/api.ErrEnd"] (by kernel_rfl) (by kernel_rfl)
theorem codecPlays_row_tie : Rows.codecPlaysRow.laidByTextAt .later Tryd.pinned [.sentinel, .sentinel, .sentinel, .sentinel, .sentinel, .sentinel, .sentinel, .sentinel, .sentinel, .sentinel, .sentinel] true :=
  OpenClaim.laidByTextAt_later rfl rfl tie5 noOwnUnsafe
theorem tie6 : Tryd.prog.laidByTextLater [("caesura/api.ErrArg", Rows.laid_caesura_api_ErrArg), ("caesura/api.ErrMany", Rows.laid_caesura_api_ErrMany), ("caesura/api.ErrShort", Rows.laid_caesura_api_ErrShort), ("caesura/api.ErrForm", Rows.laid_caesura_api_ErrForm), ("caesura/codec.table", Rows.laid_caesura_codec_table)] [.sentinel, .sentinel, .sentinel, .sentinel, .data] true :=
  Program.laidByTextLater.sub seatTie1 ["caesura/api.ErrArg", "caesura/api.ErrMany", "caesura/api.ErrShort", "caesura/api.ErrForm", "caesura/codec.table"] (by kernel_rfl) (by kernel_rfl)
theorem codecBack_row_tie : Rows.codecBackRow.laidByTextAt .later Tryd.pinned [.sentinel, .sentinel, .sentinel, .sentinel, .data] true :=
  OpenClaim.laidByTextAt_later rfl rfl tie6 noOwnUnsafe
theorem namesUpto_row_tie : Rows.namesUptoRow.laidByTextAt .later Tryd.pinned [.sentinel, .sentinel, .sentinel, .sentinel, .sentinel, .sentinel, .sentinel, .sentinel, .sentinel, .sentinel, .sentinel, .data, .data, .data, .data] true :=
  OpenClaim.laidByTextAt_later rfl rfl tie noOwnUnsafe
theorem codecSumsUpto_row_tie : Rows.codecSumsUptoRow.laidByTextAt .later Tryd.pinned [.data] true :=
  OpenClaim.laidByTextAt_later rfl rfl tie2 noOwnUnsafe
theorem codecPartsUpto_row_tie : Rows.codecPartsUptoRow.laidByTextAt .later Tryd.pinned [.sentinel, .data] true :=
  OpenClaim.laidByTextAt_later rfl rfl tie3 noOwnUnsafe
theorem codecBurstsUpto_row_tie : Rows.codecBurstsUptoRow.laidByTextAt .later Tryd.pinned [.sentinel, .data] true :=
  OpenClaim.laidByTextAt_later rfl rfl tie3 noOwnUnsafe
theorem codecLikeUpto_row_tie : Rows.codecLikeUptoRow.laidByTextAt .later Tryd.pinned [.sentinel, .data] true :=
  OpenClaim.laidByTextAt_later rfl rfl tie3 noOwnUnsafe
theorem codecOneUpto_row_tie : Rows.codecOneUptoRow.laidByTextAt .later Tryd.pinned [.sentinel, .sentinel, .sentinel, .data] true :=
  OpenClaim.laidByTextAt_later rfl rfl tie4 noOwnUnsafe
theorem codecPlaysUpto_row_tie : Rows.codecPlaysUptoRow.laidByTextAt .later Tryd.pinned [.sentinel, .sentinel, .sentinel, .sentinel, .sentinel, .sentinel, .sentinel, .sentinel, .sentinel, .sentinel, .sentinel] true :=
  OpenClaim.laidByTextAt_later rfl rfl tie5 noOwnUnsafe
theorem codecBackUpto_row_tie : Rows.codecBackUptoRow.laidByTextAt .later Tryd.pinned [.sentinel, .sentinel, .sentinel, .sentinel, .data] true :=
  OpenClaim.laidByTextAt_later rfl rfl tie6 noOwnUnsafe
end Go.Proofs.YtlhnajgckdeedaaDoor
