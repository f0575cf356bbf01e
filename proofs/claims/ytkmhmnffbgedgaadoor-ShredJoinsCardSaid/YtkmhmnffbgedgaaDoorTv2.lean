/- The walks of the laws' tame and of the document's OwnNode. -/
import Derived.Test.YtkmhmnffbgedgaaDoorTw0
import Derived.Test.YtkmhmnffbgedgaaDoorRegE
import Derived.Deep.DeepCutAuto
namespace Go.Proofs.YtkmhmnffbgedgaaDoor
set_option linter.unusedVariables false
set_option linter.unusedSimpArgs false
open Go Go.RowKit Go.ChangeShapes
theorem grow_below {w w':World} {B s n:Nat} {e:TypeId} {v:Value} {xs:List Value} {o:Obj} (hown:w.ownsRow B e s v n xs) (hg:(w.alloc o).grownBy w' v.ownBlock) (hB:B ≤ w.heap.size):Below B w w' :=
 ((Below.refl _ _).alloc hB o).grown hg (by simp;omega) fun k hk=>(hown.lt k hk).1
end Go.Proofs.YtkmhmnffbgedgaaDoor
