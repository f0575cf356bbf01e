/- Merged texts: OwnR, Slim, AppW. -/
import Derived.Test.YtkmhmnffbgedgaaGreatDoorMRef
import Derived.Test.YtkmhmnffbgedgaaGreatDoorMRow
import Derived.Deep.RegionHeld3
import Derived.Laws.Closers25b
import Derived.Deep.AppendLies
/- Rows of the call's own, by their place: what is kept where other blocks change; appending a list that came in onto one. -/
namespace Go.Proofs.YtkmhmnffbgedgaaGreatDoor
set_option linter.unusedVariables false
open Go Go.RowKit Go.ChangeShapes
def iV (x:Int):Value:=.int .i64 x
theorem own_cap {w:World} {B n s:Nat} {e:TypeId} {v:Value} {xs:List Value} (h:w.ownsRow B e s v n xs):∃ b c,v = .slice b n c ∧ n ≤ c:=by
 rcases h.2 with ⟨rfl,rfl⟩ | ⟨g,cap,cur,rfl,_,_,h4,_⟩
 ·exact ⟨none,0,rfl,Nat.le_refl _⟩
 ·exact ⟨_,cap,rfl,h4⟩
end Go.Proofs.YtkmhmnffbgedgaaGreatDoor
/- The walks of the laws' slim, ints, ownLeaf and of the document's OwnColumn. -/
namespace Go.Proofs.YtkmhmnffbgedgaaGreatDoor
set_option linter.unusedVariables false
open Go Go.RowKit Go.ChangeShapes
theorem IsInts_of_own {w:World} {B:Nat} {v:Value} {l:List Int} (h:w.ownsRow B 3 1 v l.length (l.map iV)):IsInts w v l:=IsNums.of_own (B:=B) (e:=3) h
end Go.Proofs.YtkmhmnffbgedgaaGreatDoor
/- append(own, s...) at an operation, and where the new slice lies. -/
namespace Go.Proofs.YtkmhmnffbgedgaaGreatDoor
set_option linter.unusedVariables false
open Go Go.RowKit Go.ChangeShapes
end Go.Proofs.YtkmhmnffbgedgaaGreatDoor
