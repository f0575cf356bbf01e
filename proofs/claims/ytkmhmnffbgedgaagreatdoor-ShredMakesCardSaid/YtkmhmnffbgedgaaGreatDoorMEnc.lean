/- Merged texts: EncW2, Build, EncW3, Enc2, Enc3, EncW4, BuildS, EncW5. -/
import Derived.Test.YtkmhmnffbgedgaaGreatDoorMVal
import Derived.Deep.QuietTactic
import Derived.BigQuiet
import Derived.Test.YtkmhmnffbgedgaaGreatDoorMBits
import Derived.Test.YtkmhmnffbgedgaaGreatDoorMPlain
import Derived.Lib.Builder
import Derived.Lib.AppendStr
import Derived.Lib.OthersKept
import Derived.Test.YtkmhmnffbgedgaaGreatDoorShelf
import Derived.StillTailTactics
import Derived.RegionTactic
import Derived.Test.YtkmhmnffbgedgaaGreatDoorMErr
import Derived.Test.YtkmhmnffbgedgaaGreatDoorSamV
import Derived.Lib.Hide
import Derived.Lib.UnsafeStr
import Derived.Test.YtkmhmnffbgedgaaGreatDoorMWire
/- The walks of enc's Less, known, size and the document's LessOf, IsValue. -/
namespace Go.Proofs.YtkmhmnffbgedgaaGreatDoor
set_option linter.unusedVariables false
open Go Go.RowKit Go.ChangeShapes
end Go.Proofs.YtkmhmnffbgedgaaGreatDoor
/- strings.Builder of a call's own: what is written stands behind what was there. -/
namespace Go.Proofs.YtkmhmnffbgedgaaGreatDoor
set_option linter.unusedVariables false
open Go Go.RowKit
end Go.Proofs.YtkmhmnffbgedgaaGreatDoor
/- The walks of enc's known, Check, size, plain at numbers, Plain; the closed fact four. -/
namespace Go.Proofs.YtkmhmnffbgedgaaGreatDoor
set_option linter.unusedVariables false
open Go Go.RowKit Go.ChangeShapes
end Go.Proofs.YtkmhmnffbgedgaaGreatDoor
/- Chapter 3 in plain Lean: values, plain, as bytes; what the bytes tell. -/
namespace Go.Proofs.YtkmhmnffbgedgaaGreatDoor
open Go
end Go.Proofs.YtkmhmnffbgedgaaGreatDoor
/- Chapter 3 in plain Lean: numbers of whole bytes, one behind the other. -/
namespace Go.Proofs.YtkmhmnffbgedgaaGreatDoor
open Go
end Go.Proofs.YtkmhmnffbgedgaaGreatDoor
/- The walks of the statements' values, small, and of SameValues; enc's Check and Plain where something is wrong. -/
namespace Go.Proofs.YtkmhmnffbgedgaaGreatDoor
set_option linter.unusedVariables false
open Go Go.RowKit Go.ChangeShapes
end Go.Proofs.YtkmhmnffbgedgaaGreatDoor
/- (*strings.Builder).String at whatever builder: what other blocks hold stays. -/
namespace Go.Proofs.YtkmhmnffbgedgaaGreatDoor
set_option linter.unusedVariables false
open Go Go.RowKit
end Go.Proofs.YtkmhmnffbgedgaaGreatDoor
/- The walks of enc's known, Check, plain, Plain at whatever values. -/
namespace Go.Proofs.YtkmhmnffbgedgaaGreatDoor
set_option linter.unusedVariables false
open Go Go.RowKit Go.ChangeShapes
end Go.Proofs.YtkmhmnffbgedgaaGreatDoor
