/- Merged texts: RunsOf. -/
import Derived.Test.YtaebhilgmmfalaaDoorMReads
import Derived.Test.YtaebhilgmmfalaaDoorMRuns
import Derived.Test.YtaebhilgmmfalaaDoorMBits
import Derived.IntWalk

/- The walk of the document's RunsOf. -/
namespace Go.Proofs.YtaebhilgmmfalaaDoor
set_option linter.unusedVariables false
open Go Go.RowKit Go.ChangeShapes

theorem pad8_at (l : List Nat) (k : Nat) (h : k < 8) : (pad8 l)[k]? = some (l.getD k 0) := by
  unfold pad8
  by_cases h1 : k < l.length
  · rw [List.getElem?_append_left (by rw [List.length_take]; omega), List.getElem?_take, if_pos h, List.getD_eq_getElem?_getD, List.getElem?_eq_getElem h1]; rfl
  · rw [List.getElem?_append_right (by rw [List.length_take]; omega), List.length_take, List.getElem?_replicate, if_pos (by omega), List.getD_eq_getElem?_getD, List.getElem?_eq_none (by omega)]; rfl
theorem pad8_snoc (l : List Nat) (k : Nat) (h : k < 8) : (pad8 l).take (k + 1) = (pad8 l).take k ++ [l.getD k 0] := by
  rw [List.take_add_one, pad8_at l k h]; rfl

end Go.Proofs.YtaebhilgmmfalaaDoor
