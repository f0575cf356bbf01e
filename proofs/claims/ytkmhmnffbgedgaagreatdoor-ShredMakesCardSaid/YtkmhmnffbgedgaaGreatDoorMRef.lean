/- Merged texts: EncW6, EncW7, ValArgs. -/
import Derived.Test.YtkmhmnffbgedgaaGreatDoorMEnc
import Derived.Test.YtkmhmnffbgedgaaGreatDoorMVal
import Derived.Test.YtkmhmnffbgedgaaGreatDoorMBits
import Derived.Test.YtkmhmnffbgedgaaGreatDoorMWire
import Derived.Lib.SmallJoins
import Derived.OpenShut
import Derived.ChangeArms
import Derived.Deep.Slices
import Derived.Deep.Fields
import Derived.Deep.QuietTactic
import Derived.Test.YtkmhmnffbgedgaaGreatDoorMErr
import Derived.Test.YtkmhmnffbgedgaaGreatDoorMRow
import Derived.BigRegion
import Derived.Test.YtkmhmnffbgedgaaGreatDoorMCol
import Derived.Deep.DeepCutAuto
/- The walks of the document's ManyError, ValuesError. -/
namespace Go.Proofs.YtkmhmnffbgedgaaGreatDoor
set_option linter.unusedVariables false
open Go Go.RowKit Go.ChangeShapes
end Go.Proofs.YtkmhmnffbgedgaaGreatDoor
/- The walk of the document's PlainOf at right values. -/
namespace Go.Proofs.YtkmhmnffbgedgaaGreatDoor
set_option linter.unusedVariables false
open Go Go.RowKit Go.ChangeShapes
end Go.Proofs.YtkmhmnffbgedgaaGreatDoor
/- Arguments that are values, opened. -/
namespace Go.Proofs.YtkmhmnffbgedgaaGreatDoor
set_option linter.unusedVariables false
open Go Go.RowKit Go.ChangeShapes Go.WideShapes Go.ChangeAt
end Go.Proofs.YtkmhmnffbgedgaaGreatDoor
/- Merged texts: Stat1, Stat2. -/
/- What is known of values, in plain Lean; arguments of that kind, opened; the equality of two. -/
namespace Go.Proofs.YtkmhmnffbgedgaaGreatDoor
set_option linter.unusedVariables false
open Go Go.RowKit Go.ChangeShapes Go.WideShapes Go.ChangeAt
structure St where
 e:Int
 n:Int
 has:Bool
 lo:Val
 hi:Val
structure St.Ok (s:St):Prop where
 e0:-9223372036854775808 ≤ s.e
 e1:s.e < 9223372036854775808
 n0:-9223372036854775808 ≤ s.n
 n1:s.n < 9223372036854775808
 lo:s.lo.Ok
 hi:s.hi.Ok
end Go.Proofs.YtkmhmnffbgedgaaGreatDoor
/- The walks of the statement's statsOf and of stats.Merge. -/
namespace Go.Proofs.YtkmhmnffbgedgaaGreatDoor
set_option linter.unusedVariables false
open Go Go.RowKit Go.ChangeShapes
end Go.Proofs.YtkmhmnffbgedgaaGreatDoor
/- Merged texts: Known, StOf, Two. -/
/- What is known of a column: plain Lean, and the walk of stats.Known. -/
namespace Go.Proofs.YtkmhmnffbgedgaaGreatDoor
set_option linter.unusedVariables false
open Go Go.RowKit Go.ChangeShapes
end Go.Proofs.YtkmhmnffbgedgaaGreatDoor
/- The walk of stats.Of; the closed fact two. -/
namespace Go.Proofs.YtkmhmnffbgedgaaGreatDoor
set_option linter.unusedVariables false
open Go Go.RowKit Go.ChangeShapes
end Go.Proofs.YtkmhmnffbgedgaaGreatDoor
/- The closed fact two of the statements of chapter 9. -/
namespace Go.Proofs.YtkmhmnffbgedgaaGreatDoor
set_option linter.unusedVariables false
open Go Go.RowKit Go.ChangeShapes
end Go.Proofs.YtkmhmnffbgedgaaGreatDoor
