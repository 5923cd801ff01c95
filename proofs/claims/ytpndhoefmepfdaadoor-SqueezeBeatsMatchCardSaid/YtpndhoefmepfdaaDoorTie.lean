/-
  DERIVED. GIVEN WITH THE SEED: THE PROGRAM's TIES (one call each: nine closed facts by the kernel) AND EACH ROW's TIE, after the 31st guide's Derived/Test/Toyas{Tie, Card}.lean. No idea stands in it: it is a product of the set-up. Laid BY PROGRAM, IN A SANDBOX (cutbox-door.mjs). By AI agents, Wed Nov 11 2026. No macro, syntax, notation, axiom, sorry.
-/
import Derived.Test.YtpndhoefmepfdaaDoorRows
import Derived.LaidByTextLater
import Derived.SevenTiedAt
import Derived.LaidSub
import Derived.LaidOnce
namespace Go.Proofs.YtpndhoefmepfdaaDoor
open Go
set_option maxRecDepth 100000
theorem seatTie1 : Tryd.prog.laidByTextLater [("valise/block.lengthBase", Rows.laid_valise_block_lengthBase), ("valise/block.lengthBits", Rows.laid_valise_block_lengthBits), ("valise/block.distBase", Rows.laid_valise_block_distBase), ("valise/block.distBits", Rows.laid_valise_block_distBits), ("valise/deflate.levels", Rows.laid_valise_deflate_levels), ("valise/valiseref11.levels", Rows.laid_valise_valiseref11_levels)] [.data, .data, .data, .data, .data, .data] true :=
  Program.laidByTextLater_by_one 59 8 31 (by kernel_rfl) (by kernel_rfl) (by kernel_rfl) (by kernel_rfl) (by kernel_rfl) (by kernel_rfl) (fun _ _ => by kernel_rfl)
theorem noOwnUnsafe : Tryd.pinned.checked.prog.headLifts.contains "ownunsafe" = false := by kernel_rfl
theorem tie : Tryd.prog.laidByTextLater [("valise/deflate.levels", Rows.laid_valise_deflate_levels), ("valise/valiseref11.levels", Rows.laid_valise_valiseref11_levels)] [.data, .data] true :=
  Program.laidByTextLater.sub seatTie1 ["valise/deflate.levels", "valise/valiseref11.levels"] (by kernel_rfl) (by kernel_rfl)
theorem deflateEfforts_row_tie : Rows.deflateEffortsRow.laidByTextAt .later Tryd.pinned [.data, .data] true :=
  OpenClaim.laidByTextAt_later rfl rfl tie noOwnUnsafe
theorem tie2 : Tryd.prog.laidByTextLater [("valise/block.lengthBase", Rows.laid_valise_block_lengthBase), ("valise/block.lengthBits", Rows.laid_valise_block_lengthBits), ("valise/block.distBase", Rows.laid_valise_block_distBase), ("valise/block.distBits", Rows.laid_valise_block_distBits)] [.data, .data, .data, .data] true :=
  Program.laidByTextLater.sub seatTie1 ["valise/block.lengthBase", "valise/block.lengthBits", "valise/block.distBase", "valise/block.distBits"] (by kernel_rfl) (by kernel_rfl)
theorem squeezePriced_row_tie : Rows.squeezePricedRow.laidByTextAt .later Tryd.pinned [.data, .data, .data, .data] true :=
  OpenClaim.laidByTextAt_later rfl rfl tie2 noOwnUnsafe
theorem squeezeCheapest_row_tie : Rows.squeezeCheapestRow.laidByTextAt .later Tryd.pinned [.data, .data, .data, .data] true :=
  OpenClaim.laidByTextAt_later rfl rfl tie2 noOwnUnsafe
theorem squeezeLast_row_tie : Rows.squeezeLastRow.laidByTextAt .later Tryd.pinned [.data, .data, .data, .data] true :=
  OpenClaim.laidByTextAt_later rfl rfl tie2 noOwnUnsafe
theorem squeezeWindows_row_tie : Rows.squeezeWindowsRow.laidByTextAt .later Tryd.pinned [.data, .data, .data, .data] true :=
  OpenClaim.laidByTextAt_later rfl rfl tie2 noOwnUnsafe
theorem squeezeIsCheapest_row_tie : Rows.squeezeIsCheapestRow.laidByTextAt .later Tryd.pinned [.data, .data, .data, .data] true :=
  OpenClaim.laidByTextAt_later rfl rfl tie2 noOwnUnsafe
theorem squeezeBeatsMatch_row_tie : Rows.squeezeBeatsMatchRow.laidByTextAt .later Tryd.pinned [.data, .data, .data, .data] true :=
  OpenClaim.laidByTextAt_later rfl rfl tie2 noOwnUnsafe
theorem deflateEffortsUpto_row_tie : Rows.deflateEffortsUptoRow.laidByTextAt .later Tryd.pinned [.data, .data] true :=
  OpenClaim.laidByTextAt_later rfl rfl tie noOwnUnsafe
theorem squeezePricedUpto_row_tie : Rows.squeezePricedUptoRow.laidByTextAt .later Tryd.pinned [.data, .data, .data, .data] true :=
  OpenClaim.laidByTextAt_later rfl rfl tie2 noOwnUnsafe
theorem squeezeCheapestUpto_row_tie : Rows.squeezeCheapestUptoRow.laidByTextAt .later Tryd.pinned [.data, .data, .data, .data] true :=
  OpenClaim.laidByTextAt_later rfl rfl tie2 noOwnUnsafe
theorem squeezeLastUpto_row_tie : Rows.squeezeLastUptoRow.laidByTextAt .later Tryd.pinned [.data, .data, .data, .data] true :=
  OpenClaim.laidByTextAt_later rfl rfl tie2 noOwnUnsafe
theorem squeezeWindowsUpto_row_tie : Rows.squeezeWindowsUptoRow.laidByTextAt .later Tryd.pinned [.data, .data, .data, .data] true :=
  OpenClaim.laidByTextAt_later rfl rfl tie2 noOwnUnsafe
theorem squeezeIsCheapestUpto_row_tie : Rows.squeezeIsCheapestUptoRow.laidByTextAt .later Tryd.pinned [.data, .data, .data, .data] true :=
  OpenClaim.laidByTextAt_later rfl rfl tie2 noOwnUnsafe
theorem squeezeBeatsMatchUpto_row_tie : Rows.squeezeBeatsMatchUptoRow.laidByTextAt .later Tryd.pinned [.data, .data, .data, .data] true :=
  OpenClaim.laidByTextAt_later rfl rfl tie2 noOwnUnsafe
end Go.Proofs.YtpndhoefmepfdaaDoor
