/- Merged texts: EncW6, EncW7, ValArgs. -/
import Derived.Test.YtkmhmnffbgedgaaDoorMEnc
import Derived.Test.YtkmhmnffbgedgaaDoorMVal
import Derived.Test.YtkmhmnffbgedgaaDoorMBits
import Derived.Test.YtkmhmnffbgedgaaDoorMWire
import Derived.Lib.SmallJoins
import Derived.OpenShut
import Derived.ChangeArms
import Derived.Deep.Slices
import Derived.Deep.Fields
import Derived.Deep.QuietTactic
import Derived.Test.YtkmhmnffbgedgaaDoorMErr
import Derived.Test.YtkmhmnffbgedgaaDoorMRow
import Derived.BigRegion
import Derived.Test.YtkmhmnffbgedgaaDoorMCol
import Derived.Deep.DeepCutAuto
/- The walks of the document's ManyError, ValuesError. -/
namespace Go.Proofs.YtkmhmnffbgedgaaDoor
set_option linter.unusedVariables false
open Go Go.RowKit Go.ChangeShapes
end Go.Proofs.YtkmhmnffbgedgaaDoor
/- The walk of the document's PlainOf at right values. -/
namespace Go.Proofs.YtkmhmnffbgedgaaDoor
set_option linter.unusedVariables false
open Go Go.RowKit Go.ChangeShapes
end Go.Proofs.YtkmhmnffbgedgaaDoor
/- Arguments that are values, opened. -/
namespace Go.Proofs.YtkmhmnffbgedgaaDoor
set_option linter.unusedVariables false
open Go Go.RowKit Go.ChangeShapes Go.WideShapes Go.ChangeAt
end Go.Proofs.YtkmhmnffbgedgaaDoor
/- Merged texts: Stat1, Stat2. -/
/- What is known of values, in plain Lean; arguments of that kind, opened; the equality of two. -/
namespace Go.Proofs.YtkmhmnffbgedgaaDoor
set_option linter.unusedVariables false
open Go Go.RowKit Go.ChangeShapes Go.WideShapes Go.ChangeAt
def zv:Val:=⟨0,0,⟨#[]⟩⟩
structure St where
 e:Int
 n:Int
 has:Bool
 lo:Val
 hi:Val
def St.none:St:=⟨0,0,false,zv,zv⟩
structure St.Ok (s:St):Prop where
 e0:-9223372036854775808 ≤ s.e
 e1:s.e < 9223372036854775808
 n0:-9223372036854775808 ≤ s.n
 n1:s.n < 9223372036854775808
 lo:s.lo.Ok
 hi:s.hi.Ok
end Go.Proofs.YtkmhmnffbgedgaaDoor
/- The walks of the statement's statsOf and of stats.Merge. -/
namespace Go.Proofs.YtkmhmnffbgedgaaDoor
set_option linter.unusedVariables false
open Go Go.RowKit Go.ChangeShapes
end Go.Proofs.YtkmhmnffbgedgaaDoor
/- Merged texts: Known, StOf, Two. -/
/- What is known of a column: plain Lean, and the walk of stats.Known. -/
namespace Go.Proofs.YtkmhmnffbgedgaaDoor
set_option linter.unusedVariables false
open Go Go.RowKit Go.ChangeShapes
end Go.Proofs.YtkmhmnffbgedgaaDoor
/- The walk of stats.Of; the closed fact two. -/
namespace Go.Proofs.YtkmhmnffbgedgaaDoor
set_option linter.unusedVariables false
open Go Go.RowKit Go.ChangeShapes
end Go.Proofs.YtkmhmnffbgedgaaDoor
/- The closed fact two of the statements of chapter 9. -/
namespace Go.Proofs.YtkmhmnffbgedgaaDoor
set_option linter.unusedVariables false
open Go Go.RowKit Go.ChangeShapes
theorem isVals_row (l:List Val) (w:World) (b:Nat) (t:TypeId) (h:w.heap[b]? = some (.cells (l.flatMap valCells).toArray t (0,0))):IsVals w (.slice (some ⟨b,0,none⟩) l.length l.length) l:=by
 refine .inr ⟨b,0,l.length,rfl,row_lt h,fun j x hj=>?_⟩
 obtain ⟨h1,h2,h3⟩:=flat_at l j x hj
 refine ⟨?_,?_,?_⟩
 ·rw [rowc h,Nat.zero_add];simpa using h1
 ·rw [rowc h,Nat.zero_add];simpa using h2
 ·rw [rowc h,Nat.zero_add];simpa using h3
end Go.Proofs.YtkmhmnffbgedgaaDoor
