/-
  DERIVED. GIVEN WITH THE SEED: THE PROGRAM's TIES (one call each: nine closed facts by the kernel) AND EACH ROW's TIE, after the 31st guide's Derived/Test/Toyas{Tie, Card}.lean. No idea stands in it: it is a product of the set-up. Laid BY PROGRAM, IN A SANDBOX (cutbox-door.mjs). By AI agents, Wed Nov 11 2026. No macro, syntax, notation, axiom, sorry.
-/
import Derived.Test.YtaebhilgmmfalaaDoorRows
import Derived.LaidByTextLater
import Derived.SevenTiedAt
import Derived.LaidSub
import Derived.LaidOnce
namespace Go.Proofs.YtaebhilgmmfalaaDoor
open Go
set_option maxRecDepth 100000
theorem seatTie1 : Tryd.prog.laidByTextLater [("shredcol/api.ErrText", Rows.laid_shredcol_api_ErrText), ("shredcol/api.ErrBound", Rows.laid_shredcol_api_ErrBound), ("shredcol/api.ErrShape", Rows.laid_shredcol_api_ErrShape), ("shredcol/api.ErrKind", Rows.laid_shredcol_api_ErrKind), ("shredcol/api.ErrSum", Rows.laid_shredcol_api_ErrSum)] [.sentinel, .sentinel, .sentinel, .sentinel, .sentinel] true :=
  Program.laidByTextLater_by_one 104 8 2 (by kernel_rfl) (by kernel_rfl) (by kernel_rfl) (by kernel_rfl) (by kernel_rfl) (by kernel_rfl) (fun _ _ => by kernel_rfl)
theorem noOwnUnsafe : Tryd.pinned.checked.prog.headLifts.contains "ownunsafe" = false := by kernel_rfl
theorem tie : Tryd.prog.laidByTextLater [("shredcol/api.ErrText", Rows.laid_shredcol_api_ErrText), ("shredcol/api.ErrBound", Rows.laid_shredcol_api_ErrBound), ("shredcol/api.ErrShape", Rows.laid_shredcol_api_ErrShape), ("shredcol/api.ErrKind", Rows.laid_shredcol_api_ErrKind), ("shredcol/api.ErrSum", Rows.laid_shredcol_api_ErrSum)] [.sentinel, .sentinel, .sentinel, .sentinel, .sentinel] true :=
  Program.laidByTextLater.sub seatTie1 ["shredcol/api.ErrText", "shredcol/api.ErrBound", "shredcol/api.ErrShape", "shredcol/api.ErrKind", "shredcol/api.ErrSum"] (by kernel_rfl) (by kernel_rfl)
theorem pageTurned_row_tie : Rows.pageTurnedRow.laidByTextAt .later Tryd.pinned [.sentinel, .sentinel, .sentinel, .sentinel, .sentinel] true :=
  OpenClaim.laidByTextAt_later rfl rfl tie noOwnUnsafe
theorem pageTwice_row_tie : Rows.pageTwiceRow.laidByTextAt .later Tryd.pinned [.sentinel, .sentinel, .sentinel, .sentinel, .sentinel] true :=
  OpenClaim.laidByTextAt_later rfl rfl tie noOwnUnsafe
theorem pageTurnedUpto_row_tie : Rows.pageTurnedUptoRow.laidByTextAt .later Tryd.pinned [.sentinel, .sentinel, .sentinel, .sentinel, .sentinel] true :=
  OpenClaim.laidByTextAt_later rfl rfl tie noOwnUnsafe
theorem pageTwiceUpto_row_tie : Rows.pageTwiceUptoRow.laidByTextAt .later Tryd.pinned [.sentinel, .sentinel, .sentinel, .sentinel, .sentinel] true :=
  OpenClaim.laidByTextAt_later rfl rfl tie noOwnUnsafe
end Go.Proofs.YtaebhilgmmfalaaDoor
