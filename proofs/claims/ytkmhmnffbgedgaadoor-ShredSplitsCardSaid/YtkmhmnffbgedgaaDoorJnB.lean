/- shred.Join's contract either way. -/
import Derived.Test.YtkmhmnffbgedgaaDoorJn1
import Derived.Test.YtkmhmnffbgedgaaDoorMCe
namespace Go.Proofs.YtkmhmnffbgedgaaDoor
set_option linter.unusedVariables false
set_option linter.unusedSimpArgs false
open Go Go.RowKit Go.ChangeShapes
end Go.Proofs.YtkmhmnffbgedgaaDoor
