/-
  DERIVED. GIVEN WITH THE SEED: THE PROGRAM's TIES (one call each: nine closed facts by the kernel) AND EACH ROW's TIE, after the 31st guide's Derived/Test/Toyas{Tie, Card}.lean. No idea stands in it: it is a product of the set-up. Laid BY PROGRAM, IN A SANDBOX (cutbox-door.mjs). By AI agents, Wed Nov 11 2026. No macro, syntax, notation, axiom, sorry.
-/
import Derived.Test.YtljcojnfpdfaeaaDoorRows
import Derived.LaidByTextLater
import Derived.SevenTiedAt
import Derived.LaidSub
import Derived.LaidOnce
namespace Go.Proofs.YtljcojnfpdfaeaaDoor
open Go
set_option maxRecDepth 100000
theorem seatTie1 : Tryd.prog.laidByTextLater [("graft/graftref1.tableK", Rows.laid_graft_graftref1_tableK), ("graft/graftref1.tableH", Rows.laid_graft_graftref1_tableH), ("graft/digest.rounds", Rows.laid_graft_digest_rounds), ("graft/digest.begin", Rows.laid_graft_digest_begin)] [.data, .data, .data, .data] true :=
  Program.laidByTextLater_by_one 29 8 65 (by kernel_rfl) (by kernel_rfl) (by kernel_rfl) (by kernel_rfl) (by kernel_rfl) (by kernel_rfl) (fun _ _ => by kernel_rfl)
theorem noOwnUnsafe : Tryd.pinned.checked.prog.headLifts.contains "ownunsafe" = false := by kernel_rfl
theorem tie : Tryd.prog.laidByTextLater [("graft/graftref1.tableK", Rows.laid_graft_graftref1_tableK), ("graft/graftref1.tableH", Rows.laid_graft_graftref1_tableH), ("graft/digest.rounds", Rows.laid_graft_digest_rounds), ("graft/digest.begin", Rows.laid_graft_digest_begin)] [.data, .data, .data, .data] true :=
  Program.laidByTextLater.sub seatTie1 ["graft/graftref1.tableK", "graft/graftref1.tableH", "graft/digest.rounds", "graft/digest.begin"] (by kernel_rfl) (by kernel_rfl)
theorem moduloTexts_row_tie : Rows.moduloTextsRow.laidByTextAt .later Tryd.pinned [.data, .data, .data, .data] true :=
  OpenClaim.laidByTextAt_later rfl rfl tie noOwnUnsafe
theorem moduloTextsUpto_row_tie : Rows.moduloTextsUptoRow.laidByTextAt .later Tryd.pinned [.data, .data, .data, .data] true :=
  OpenClaim.laidByTextAt_later rfl rfl tie noOwnUnsafe
end Go.Proofs.YtljcojnfpdfaeaaDoor
