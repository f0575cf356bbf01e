/-
  DERIVED. GIVEN WITH THE SEED: THE PROGRAM's TIES (one call each: nine closed facts by the kernel) AND EACH ROW's TIE, after the 31st guide's Derived/Test/Toyas{Tie, Card}.lean. No idea stands in it: it is a product of the set-up. Laid BY PROGRAM, IN A SANDBOX (cutbox-door.mjs). By AI agents, Wed Nov 11 2026. No macro, syntax, notation, axiom, sorry.
-/
import Derived.Test.YtkmhmnffbgedgaaDoorRows
import Derived.LaidByTextLater
import Derived.SevenTiedAt
import Derived.LaidSub
import Derived.LaidOnce
namespace Go.Proofs.YtkmhmnffbgedgaaDoor
open Go
set_option maxRecDepth 100000
theorem seatTie1 : Tryd.prog.laidByTextLater [("unicode/utf8.acceptRanges", Rows.laid_unicode_utf8_acceptRanges), ("errors.errorType", Rows.laid_errors_errorType), ("shredcol/api.ErrText", Rows.laid_shredcol_api_ErrText), ("shredcol/api.ErrBound", Rows.laid_shredcol_api_ErrBound), ("shredcol/api.ErrShape", Rows.laid_shredcol_api_ErrShape), ("shredcol/api.ErrKind", Rows.laid_shredcol_api_ErrKind), ("shredcol/api.ErrName", Rows.laid_shredcol_api_ErrName), ("shredcol/api.ErrNone", Rows.laid_shredcol_api_ErrNone), ("shredcol/api.ErrSum", Rows.laid_shredcol_api_ErrSum), ("shredcol/api.ErrSpace", Rows.laid_shredcol_api_ErrSpace)] [.data, .handle, .sentinel, .sentinel, .sentinel, .sentinel, .sentinel, .sentinel, .sentinel, .sentinel] true :=
  Program.laidByTextLater_by_one 178 8 33 (by kernel_rfl) (by kernel_rfl) (by kernel_rfl) (by kernel_rfl) (by kernel_rfl) (by kernel_rfl) (fun _ _ => by kernel_rfl)
theorem pin_laid_unicode_utf8_first : Tryd.pinned.checked.prog.pinnedFits "unicode/utf8.first" = true := by kernel_rfl
theorem noOwnUnsafe : Tryd.pinned.checked.prog.headLifts.contains "ownunsafe" = false := by kernel_rfl
theorem fits1 : Tryd.pinned.checked.prog.listedFits [("unicode/utf8.acceptRanges", Rows.laid_unicode_utf8_acceptRanges), ("errors.errorType", Rows.laid_errors_errorType), ("shredcol/api.ErrText", Rows.laid_shredcol_api_ErrText), ("shredcol/api.ErrBound", Rows.laid_shredcol_api_ErrBound), ("shredcol/api.ErrShape", Rows.laid_shredcol_api_ErrShape), ("shredcol/api.ErrKind", Rows.laid_shredcol_api_ErrKind), ("shredcol/api.ErrName", Rows.laid_shredcol_api_ErrName), ("shredcol/api.ErrNone", Rows.laid_shredcol_api_ErrNone), ("shredcol/api.ErrSum", Rows.laid_shredcol_api_ErrSum), ("shredcol/api.ErrSpace", Rows.laid_shredcol_api_ErrSpace), ("unicode/utf8.first", Rows.laid_unicode_utf8_first)] = true := by
  unfold Program.listedFits
  rw [noOwnUnsafe]
  kernel_rfl
theorem tie : Tryd.prog.laidByTextLater [("unicode/utf8.acceptRanges", Rows.laid_unicode_utf8_acceptRanges), ("errors.errorType", Rows.laid_errors_errorType), ("shredcol/api.ErrText", Rows.laid_shredcol_api_ErrText), ("shredcol/api.ErrBound", Rows.laid_shredcol_api_ErrBound), ("shredcol/api.ErrShape", Rows.laid_shredcol_api_ErrShape), ("shredcol/api.ErrKind", Rows.laid_shredcol_api_ErrKind), ("shredcol/api.ErrName", Rows.laid_shredcol_api_ErrName), ("shredcol/api.ErrNone", Rows.laid_shredcol_api_ErrNone), ("shredcol/api.ErrSum", Rows.laid_shredcol_api_ErrSum), ("shredcol/api.ErrSpace", Rows.laid_shredcol_api_ErrSpace)] [.data, .handle, .sentinel, .sentinel, .sentinel, .sentinel, .sentinel, .sentinel, .sentinel, .sentinel] true :=
  Program.laidByTextLater.sub seatTie1 ["unicode/utf8.acceptRanges", "errors.errorType", "shredcol/api.ErrText", "shredcol/api.ErrBound", "shredcol/api.ErrShape", "shredcol/api.ErrKind", "shredcol/api.ErrName", "shredcol/api.ErrNone", "shredcol/api.ErrSum", "shredcol/api.ErrSpace"] (by kernel_rfl) (by kernel_rfl)
theorem shredJoins_row_tie : Rows.shredJoinsRow.laidByTextAt .later Tryd.pinned [.data, .handle, .sentinel, .sentinel, .sentinel, .sentinel, .sentinel, .sentinel, .sentinel, .sentinel, .pinned] true :=
  OpenClaim.laidByTextAt_pinned rfl rfl tie rfl rfl rfl rfl (fun y hy _e => by
    simp only [Rows.shredJoinsRow, List.zip_cons_cons, List.zip_nil_right, List.mem_cons, List.mem_nil_iff, or_false] at hy
    rcases hy with rfl | rfl | rfl | rfl | rfl | rfl | rfl | rfl | rfl | rfl | rfl
    · cases _e
    · cases _e
    · cases _e
    · cases _e
    · cases _e
    · cases _e
    · cases _e
    · cases _e
    · cases _e
    · cases _e
    · exact ⟨pin_laid_unicode_utf8_first, by kernel_rfl⟩) fits1
theorem fits2 : Tryd.pinned.checked.prog.listedFits [("unicode/utf8.acceptRanges", Rows.laid_unicode_utf8_acceptRanges), ("shredcol/api.ErrBound", Rows.laid_shredcol_api_ErrBound), ("shredcol/api.ErrShape", Rows.laid_shredcol_api_ErrShape), ("shredcol/api.ErrKind", Rows.laid_shredcol_api_ErrKind), ("shredcol/api.ErrName", Rows.laid_shredcol_api_ErrName), ("shredcol/api.ErrNone", Rows.laid_shredcol_api_ErrNone), ("unicode/utf8.first", Rows.laid_unicode_utf8_first)] = true := by
  unfold Program.listedFits
  rw [noOwnUnsafe]
  kernel_rfl
theorem tie2 : Tryd.prog.laidByTextLater [("unicode/utf8.acceptRanges", Rows.laid_unicode_utf8_acceptRanges), ("shredcol/api.ErrBound", Rows.laid_shredcol_api_ErrBound), ("shredcol/api.ErrShape", Rows.laid_shredcol_api_ErrShape), ("shredcol/api.ErrKind", Rows.laid_shredcol_api_ErrKind), ("shredcol/api.ErrName", Rows.laid_shredcol_api_ErrName), ("shredcol/api.ErrNone", Rows.laid_shredcol_api_ErrNone)] [.data, .sentinel, .sentinel, .sentinel, .sentinel, .sentinel] true :=
  Program.laidByTextLater.sub seatTie1 ["unicode/utf8.acceptRanges", "shredcol/api.ErrBound", "shredcol/api.ErrShape", "shredcol/api.ErrKind", "shredcol/api.ErrName", "shredcol/api.ErrNone"] (by kernel_rfl) (by kernel_rfl)
theorem shredSplits_row_tie : Rows.shredSplitsRow.laidByTextAt .later Tryd.pinned [.data, .sentinel, .sentinel, .sentinel, .sentinel, .sentinel, .pinned] true :=
  OpenClaim.laidByTextAt_pinned rfl rfl tie2 rfl rfl rfl rfl (fun y hy _e => by
    simp only [Rows.shredSplitsRow, List.zip_cons_cons, List.zip_nil_right, List.mem_cons, List.mem_nil_iff, or_false] at hy
    rcases hy with rfl | rfl | rfl | rfl | rfl | rfl | rfl
    · cases _e
    · cases _e
    · cases _e
    · cases _e
    · cases _e
    · cases _e
    · exact ⟨pin_laid_unicode_utf8_first, by kernel_rfl⟩) fits2
theorem shredJoinsUpto_row_tie : Rows.shredJoinsUptoRow.laidByTextAt .later Tryd.pinned [.data, .handle, .sentinel, .sentinel, .sentinel, .sentinel, .sentinel, .sentinel, .sentinel, .sentinel, .pinned] true :=
  OpenClaim.laidByTextAt_pinned rfl rfl tie rfl rfl rfl rfl (fun y hy _e => by
    simp only [Rows.shredJoinsUptoRow, List.zip_cons_cons, List.zip_nil_right, List.mem_cons, List.mem_nil_iff, or_false] at hy
    rcases hy with rfl | rfl | rfl | rfl | rfl | rfl | rfl | rfl | rfl | rfl | rfl
    · cases _e
    · cases _e
    · cases _e
    · cases _e
    · cases _e
    · cases _e
    · cases _e
    · cases _e
    · cases _e
    · cases _e
    · exact ⟨pin_laid_unicode_utf8_first, by kernel_rfl⟩) fits1
theorem shredSplitsUpto_row_tie : Rows.shredSplitsUptoRow.laidByTextAt .later Tryd.pinned [.data, .sentinel, .sentinel, .sentinel, .sentinel, .sentinel, .pinned] true :=
  OpenClaim.laidByTextAt_pinned rfl rfl tie2 rfl rfl rfl rfl (fun y hy _e => by
    simp only [Rows.shredSplitsUptoRow, List.zip_cons_cons, List.zip_nil_right, List.mem_cons, List.mem_nil_iff, or_false] at hy
    rcases hy with rfl | rfl | rfl | rfl | rfl | rfl | rfl
    · cases _e
    · cases _e
    · cases _e
    · cases _e
    · cases _e
    · cases _e
    · exact ⟨pin_laid_unicode_utf8_first, by kernel_rfl⟩) fits2
end Go.Proofs.YtkmhmnffbgedgaaDoor
