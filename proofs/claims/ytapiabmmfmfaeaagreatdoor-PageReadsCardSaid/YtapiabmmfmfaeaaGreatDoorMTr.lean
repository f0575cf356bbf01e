/- Merged texts: Tx2. -/
import Derived.Test.YtapiabmmfmfaeaaGreatDoorMPp
import Derived.Test.YtapiabmmfmfaeaaGreatDoorMRef
/- The walk of the document's StatsText. -/
namespace Go.Proofs.YtapiabmmfmfaeaaGreatDoor
set_option linter.unusedVariables false
open Go Go.RowKit Go.ChangeShapes
end Go.Proofs.YtapiabmmfmfaeaaGreatDoor
