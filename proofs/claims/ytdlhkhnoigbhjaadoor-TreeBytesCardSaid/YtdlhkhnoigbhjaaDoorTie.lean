/-
  DERIVED. GIVEN WITH THE SEED: THE PROGRAM's TIES (one call each: nine closed facts by the kernel) AND EACH ROW's TIE, after the 31st guide's Derived/Test/Toyas{Tie, Card}.lean. No idea stands in it: it is a product of the set-up. Laid BY PROGRAM, IN A SANDBOX (cutbox-door.mjs). By AI agents, Wed Nov 11 2026. No macro, syntax, notation, axiom, sorry.
-/
import Derived.Test.YtdlhkhnoigbhjaaDoorRows
import Derived.LaidByTextLater
import Derived.SevenTiedAt
import Derived.LaidSub
import Derived.LaidOnce
namespace Go.Proofs.YtdlhkhnoigbhjaaDoor
open Go
set_option maxRecDepth 100000
theorem seatTie1 : Tryd.prog.laidByTextLater [("scoria/hash.constants", Rows.laid_scoria_hash_constants), ("scoria/tree.shapes", Rows.laid_scoria_tree_shapes)] [.data, .widerDeep] true :=
  Program.laidByTextLater_by_one 65 8 225 (by kernel_rfl) (by kernel_rfl) (by kernel_rfl) (by kernel_rfl) (by kernel_rfl) (by kernel_rfl) (fun _ _ => by kernel_rfl)
theorem seatTie2 : Tryd.prog.laidByTextLater [("scoria/scoriaref02.constants", Rows.laid_scoria_scoriaref02_constants), ("scoria/hash.constants", Rows.laid_scoria_hash_constants), ("scoria/tree.shapes", Rows.laid_scoria_tree_shapes)] [.data, .data, .widerDeep] true :=
  Program.laidByTextLater_by_one 65 8 225 (by kernel_rfl) (by kernel_rfl) (by kernel_rfl) (by kernel_rfl) (by kernel_rfl) (by kernel_rfl) (fun _ _ => by kernel_rfl)
theorem noOwnUnsafe : Tryd.pinned.checked.prog.headLifts.contains "ownunsafe" = false := by kernel_rfl
theorem tie : Tryd.prog.laidByTextLater [("scoria/tree.shapes", Rows.laid_scoria_tree_shapes)] [.widerDeep] true :=
  Program.laidByTextLater.sub seatTie1 ["scoria/tree.shapes"] (by kernel_rfl) (by kernel_rfl)
theorem treeSizes_row_tie : Rows.treeSizesRow.laidByTextAt .later Tryd.pinned [.widerDeep] true :=
  OpenClaim.laidByTextAt_later rfl rfl tie noOwnUnsafe
theorem treeValid_row_tie : Rows.treeValidRow.laidByTextAt .later Tryd.pinned [.widerDeep] true :=
  OpenClaim.laidByTextAt_later rfl rfl tie noOwnUnsafe
theorem treeOrder_row_tie : Rows.treeOrderRow.laidByTextAt .later Tryd.pinned [.widerDeep] true :=
  OpenClaim.laidByTextAt_later rfl rfl tie noOwnUnsafe
theorem treePlaces_row_tie : Rows.treePlacesRow.laidByTextAt .later Tryd.pinned [.widerDeep] true :=
  OpenClaim.laidByTextAt_later rfl rfl tie noOwnUnsafe
theorem treeFound_row_tie : Rows.treeFoundRow.laidByTextAt .later Tryd.pinned [.widerDeep] true :=
  OpenClaim.laidByTextAt_later rfl rfl tie noOwnUnsafe
theorem tie2 : Tryd.prog.laidByTextLater [("scoria/scoriaref02.constants", Rows.laid_scoria_scoriaref02_constants), ("scoria/hash.constants", Rows.laid_scoria_hash_constants), ("scoria/tree.shapes", Rows.laid_scoria_tree_shapes)] [.data, .data, .widerDeep] true :=
  Program.laidByTextLater.sub seatTie2 ["scoria/scoriaref02.constants", "scoria/hash.constants", "scoria/tree.shapes"] (by kernel_rfl) (by kernel_rfl)
theorem treeBytes_row_tie : Rows.treeBytesRow.laidByTextAt .later Tryd.pinned [.data, .data, .widerDeep] true :=
  OpenClaim.laidByTextAt_later rfl rfl tie2 noOwnUnsafe
theorem tie3 : Tryd.prog.laidByTextLater [("scoria/hash.constants", Rows.laid_scoria_hash_constants), ("scoria/tree.shapes", Rows.laid_scoria_tree_shapes)] [.data, .widerDeep] true :=
  Program.laidByTextLater.sub seatTie1 ["scoria/hash.constants", "scoria/tree.shapes"] (by kernel_rfl) (by kernel_rfl)
theorem treeRound_row_tie : Rows.treeRoundRow.laidByTextAt .later Tryd.pinned [.data, .widerDeep] true :=
  OpenClaim.laidByTextAt_later rfl rfl tie3 noOwnUnsafe
theorem treeSizesUpto_row_tie : Rows.treeSizesUptoRow.laidByTextAt .later Tryd.pinned [.widerDeep] true :=
  OpenClaim.laidByTextAt_later rfl rfl tie noOwnUnsafe
theorem treeValidUpto_row_tie : Rows.treeValidUptoRow.laidByTextAt .later Tryd.pinned [.widerDeep] true :=
  OpenClaim.laidByTextAt_later rfl rfl tie noOwnUnsafe
theorem treeOrderUpto_row_tie : Rows.treeOrderUptoRow.laidByTextAt .later Tryd.pinned [.widerDeep] true :=
  OpenClaim.laidByTextAt_later rfl rfl tie noOwnUnsafe
theorem treePlacesUpto_row_tie : Rows.treePlacesUptoRow.laidByTextAt .later Tryd.pinned [.widerDeep] true :=
  OpenClaim.laidByTextAt_later rfl rfl tie noOwnUnsafe
theorem treeFoundUpto_row_tie : Rows.treeFoundUptoRow.laidByTextAt .later Tryd.pinned [.widerDeep] true :=
  OpenClaim.laidByTextAt_later rfl rfl tie noOwnUnsafe
theorem treeBytesUpto_row_tie : Rows.treeBytesUptoRow.laidByTextAt .later Tryd.pinned [.data, .data, .widerDeep] true :=
  OpenClaim.laidByTextAt_later rfl rfl tie2 noOwnUnsafe
theorem treeRoundUpto_row_tie : Rows.treeRoundUptoRow.laidByTextAt .later Tryd.pinned [.data, .widerDeep] true :=
  OpenClaim.laidByTextAt_later rfl rfl tie3 noOwnUnsafe
end Go.Proofs.YtdlhkhnoigbhjaaDoor
