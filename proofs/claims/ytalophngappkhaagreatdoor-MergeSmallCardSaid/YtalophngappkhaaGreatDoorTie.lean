/-
  DERIVED. GIVEN WITH THE SEED: THE PROGRAM's TIES (one call each: nine closed facts by the kernel) AND EACH ROW's TIE, after the 31st guide's Derived/Test/Toyas{Tie, Card}.lean. No idea stands in it: it is a product of the set-up. Laid BY PROGRAM, IN A SANDBOX (cutbox-door.mjs). By AI agents, Wed Nov 11 2026. No macro, syntax, notation, axiom, sorry.
-/
import Derived.Test.YtalophngappkhaaGreatDoorRows
import Derived.LaidByTextLater
import Derived.SevenTiedAt
import Derived.LaidSub
import Derived.LaidOnce
namespace Go.Proofs.YtalophngappkhaaGreatDoor
open Go
set_option maxRecDepth 100000
theorem seatTie1 : Tryz.prog.laidByTextLater [("quantum/event.uses", Rows.laid_quantum_event_uses), ("quantum/crc.halves", Rows.laid_quantum_crc_halves), ("quantum/block.magic", Rows.laid_quantum_block_magic)] [.widerDeep, .data, .data] true :=
  Program.laidByTextLater_by_one 34 8 17 (by kernel_rfl) (by kernel_rfl) (by kernel_rfl) (by kernel_rfl) (by kernel_rfl) (by kernel_rfl) (fun _ _ => by kernel_rfl)
theorem noOwnUnsafe : Tryz.pinned.checked.prog.headLifts.contains "ownunsafe" = false := by kernel_rfl
theorem tie : Tryz.prog.laidByTextLater [("quantum/event.uses", Rows.laid_quantum_event_uses), ("quantum/crc.halves", Rows.laid_quantum_crc_halves), ("quantum/block.magic", Rows.laid_quantum_block_magic)] [.widerDeep, .data, .data] true :=
  Program.laidByTextLater.sub seatTie1 ["quantum/event.uses", "quantum/crc.halves", "quantum/block.magic"] (by kernel_rfl) (by kernel_rfl)
theorem mergeSmall_row_tie : Rows.mergeSmallRow.laidByTextAt .later Tryz.pinned [.widerDeep, .data, .data] true :=
  OpenClaim.laidByTextAt_later rfl rfl tie noOwnUnsafe
theorem mergeWrong_row_tie : Rows.mergeWrongRow.laidByTextAt .later Tryz.pinned [.widerDeep, .data, .data] true :=
  OpenClaim.laidByTextAt_later rfl rfl tie noOwnUnsafe
theorem mergeAfter_row_tie : Rows.mergeAfterRow.laidByTextAt .later Tryz.pinned [.widerDeep, .data, .data] true :=
  OpenClaim.laidByTextAt_later rfl rfl tie noOwnUnsafe
theorem mergeLost_row_tie : Rows.mergeLostRow.laidByTextAt .later Tryz.pinned [.widerDeep, .data, .data] true :=
  OpenClaim.laidByTextAt_later rfl rfl tie noOwnUnsafe
theorem mergeWhole_row_tie : Rows.mergeWholeRow.laidByTextAt .later Tryz.pinned [.widerDeep, .data, .data] true :=
  OpenClaim.laidByTextAt_later rfl rfl tie noOwnUnsafe
theorem mergeTells_row_tie : Rows.mergeTellsRow.laidByTextAt .later Tryz.pinned [.widerDeep, .data, .data] true :=
  OpenClaim.laidByTextAt_later rfl rfl tie noOwnUnsafe
theorem mergeAsks_row_tie : Rows.mergeAsksRow.laidByTextAt .later Tryz.pinned [.widerDeep, .data, .data] true :=
  OpenClaim.laidByTextAt_later rfl rfl tie noOwnUnsafe
theorem mergeTwice_row_tie : Rows.mergeTwiceRow.laidByTextAt .later Tryz.pinned [.widerDeep, .data, .data] true :=
  OpenClaim.laidByTextAt_later rfl rfl tie noOwnUnsafe
theorem mergeSplits_row_tie : Rows.mergeSplitsRow.laidByTextAt .later Tryz.pinned [.widerDeep, .data, .data] true :=
  OpenClaim.laidByTextAt_later rfl rfl tie noOwnUnsafe
theorem mergeRows_row_tie : Rows.mergeRowsRow.laidByTextAt .later Tryz.pinned [.widerDeep, .data, .data] true :=
  OpenClaim.laidByTextAt_later rfl rfl tie noOwnUnsafe
theorem mergeSmallUpto_row_tie : Rows.mergeSmallUptoRow.laidByTextAt .later Tryz.pinned [.widerDeep, .data, .data] true :=
  OpenClaim.laidByTextAt_later rfl rfl tie noOwnUnsafe
theorem mergeWrongUpto_row_tie : Rows.mergeWrongUptoRow.laidByTextAt .later Tryz.pinned [.widerDeep, .data, .data] true :=
  OpenClaim.laidByTextAt_later rfl rfl tie noOwnUnsafe
theorem mergeAfterUpto_row_tie : Rows.mergeAfterUptoRow.laidByTextAt .later Tryz.pinned [.widerDeep, .data, .data] true :=
  OpenClaim.laidByTextAt_later rfl rfl tie noOwnUnsafe
theorem mergeLostUpto_row_tie : Rows.mergeLostUptoRow.laidByTextAt .later Tryz.pinned [.widerDeep, .data, .data] true :=
  OpenClaim.laidByTextAt_later rfl rfl tie noOwnUnsafe
theorem mergeWholeUpto_row_tie : Rows.mergeWholeUptoRow.laidByTextAt .later Tryz.pinned [.widerDeep, .data, .data] true :=
  OpenClaim.laidByTextAt_later rfl rfl tie noOwnUnsafe
theorem mergeTellsUpto_row_tie : Rows.mergeTellsUptoRow.laidByTextAt .later Tryz.pinned [.widerDeep, .data, .data] true :=
  OpenClaim.laidByTextAt_later rfl rfl tie noOwnUnsafe
theorem mergeAsksUpto_row_tie : Rows.mergeAsksUptoRow.laidByTextAt .later Tryz.pinned [.widerDeep, .data, .data] true :=
  OpenClaim.laidByTextAt_later rfl rfl tie noOwnUnsafe
theorem mergeTwiceUpto_row_tie : Rows.mergeTwiceUptoRow.laidByTextAt .later Tryz.pinned [.widerDeep, .data, .data] true :=
  OpenClaim.laidByTextAt_later rfl rfl tie noOwnUnsafe
theorem mergeSplitsUpto_row_tie : Rows.mergeSplitsUptoRow.laidByTextAt .later Tryz.pinned [.widerDeep, .data, .data] true :=
  OpenClaim.laidByTextAt_later rfl rfl tie noOwnUnsafe
theorem mergeRowsUpto_row_tie : Rows.mergeRowsUptoRow.laidByTextAt .later Tryz.pinned [.widerDeep, .data, .data] true :=
  OpenClaim.laidByTextAt_later rfl rfl tie noOwnUnsafe
end Go.Proofs.YtalophngappkhaaGreatDoor
