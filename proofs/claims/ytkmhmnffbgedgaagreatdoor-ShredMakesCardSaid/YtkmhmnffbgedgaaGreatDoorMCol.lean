/- Merged texts: Col1, Col2, Col3, Col4. -/
import Derived.Test.YtkmhmnffbgedgaaGreatDoorMRow
import Derived.Test.YtkmhmnffbgedgaaGreatDoorMVal
import Derived.Test.YtkmhmnffbgedgaaGreatDoorMEnc
import Derived.Test.YtkmhmnffbgedgaaGreatDoorMBits
import Derived.BigQuiet
import Derived.Deep.DeepCutAuto
/- Columns and leaves: plain Lean; in memory; the walk of shred.Right and of the document's IsLeaf. -/
namespace Go.Proofs.YtkmhmnffbgedgaaGreatDoor
set_option linter.unusedVariables false
open Go Go.RowKit Go.ChangeShapes
def lvl (f:Lf) (r d:Int):Prop:=0 ≤ r ∧ r ≤ f.mr ∧ 0 ≤ d ∧ d ≤ f.md
instance (f:Lf) (r d:Int):Decidable (lvl f r d):=by unfold lvl;infer_instance
def many (md:Int) (l:List Int):Nat:=(l.filter fun d=>d == md).length
end Go.Proofs.YtkmhmnffbgedgaaGreatDoor
/- The walk of shred.Check: where what stands ahead of the entries is wrong. -/
namespace Go.Proofs.YtkmhmnffbgedgaaGreatDoor
set_option linter.unusedVariables false
open Go Go.RowKit Go.ChangeShapes
end Go.Proofs.YtkmhmnffbgedgaaGreatDoor
/- The walk of shred.Check: where what stands ahead of the entries is right. -/
namespace Go.Proofs.YtkmhmnffbgedgaaGreatDoor
set_option linter.unusedVariables false
open Go Go.RowKit Go.ChangeShapes
end Go.Proofs.YtkmhmnffbgedgaaGreatDoor
/- shred.Check at whatever leaf and column. -/
namespace Go.Proofs.YtkmhmnffbgedgaaGreatDoor
set_option linter.unusedVariables false
open Go Go.RowKit Go.ChangeShapes
end Go.Proofs.YtkmhmnffbgedgaaGreatDoor
