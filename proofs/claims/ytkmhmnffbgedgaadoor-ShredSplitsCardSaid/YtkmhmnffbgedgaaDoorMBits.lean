/- Merged texts: BitsW1, BitsW2, BitsL1, BitsW3, BitsW4, BitsW5, BitsW6, BitsW7, Bits64. -/
import Derived.Test.YtkmhmnffbgedgaaDoorMWire
import Derived.Test.YtkmhmnffbgedgaaDoorMPlain
import Derived.StillTailTactics
import Derived.Lib.Builder
import Derived.Test.YtkmhmnffbgedgaaDoorMErr
import Derived.Lib.BitFns
import Derived.Test.YtkmhmnffbgedgaaDoorShelf
import Derived.Test.YtkmhmnffbgedgaaDoorRows
/- The walks of bitrun's Put, Text, pack. -/
namespace Go.Proofs.YtkmhmnffbgedgaaDoor
open Go Go.RowKit
end Go.Proofs.YtkmhmnffbgedgaaDoor
/- Lists of numbers that came in; the walks of bitrun.check, pack, Pack. -/
namespace Go.Proofs.YtkmhmnffbgedgaaDoor
open Go Go.RowKit Go.ChangeShapes
def nats (l:List Int):List Nat:=l.map Int.toNat
end Go.Proofs.YtkmhmnffbgedgaaDoor
/- The walk of the statement BitsWidth. -/
namespace Go.Proofs.YtkmhmnffbgedgaaDoor
open Go Go.RowKit Go.ChangeShapes
end Go.Proofs.YtkmhmnffbgedgaaDoor
/- The document's numbers in bits: the walks of Bare, Fine, BitsError, Wide, bitsOf, PackOf; and of the statement's faulted, ints. -/
namespace Go.Proofs.YtkmhmnffbgedgaaDoor
open Go Go.RowKit Go.ChangeShapes
end Go.Proofs.YtkmhmnffbgedgaaDoor
/- The document's numbers in bits: the walks of Wide, bitsOf, PackOf; and of the statement's faulted, ints. -/
namespace Go.Proofs.YtkmhmnffbgedgaaDoor
open Go Go.RowKit Go.ChangeShapes
theorem info_int:(Tryd.prog.info? 3).map (fun i=>(i.zero,i.size,i.bytes)) = some (some (.int .i64 0),1,8):=by kernel_rfl
def ints (l:List Nat):List Int:=l.map fun (n:Nat)=>(n:Int)
end Go.Proofs.YtkmhmnffbgedgaaDoor
/- The walks of the document's PackOf and of the statement's faulted, ints. -/
namespace Go.Proofs.YtkmhmnffbgedgaaDoor
open Go Go.RowKit Go.ChangeShapes
end Go.Proofs.YtkmhmnffbgedgaaDoor
/- The walks of bitrun's Get, size, Unpack, and of the document's UnpackOf. -/
namespace Go.Proofs.YtkmhmnffbgedgaaDoor
open Go Go.RowKit Go.ChangeShapes
def natV (n:Nat):Value:=.int .i64 (n:Int)
end Go.Proofs.YtkmhmnffbgedgaaDoor
/- The walk of the document's UnpackOf; Unpack's errors. -/
namespace Go.Proofs.YtkmhmnffbgedgaaDoor
set_option linter.unusedVariables false
open Go Go.RowKit Go.ChangeShapes
end Go.Proofs.YtkmhmnffbgedgaaDoor
/- The document's numbers in up to 64 bits: the walks of bitsOf, PackOf once more. -/
namespace Go.Proofs.YtkmhmnffbgedgaaDoor
set_option linter.unusedVariables false
open Go Go.RowKit Go.ChangeShapes
end Go.Proofs.YtkmhmnffbgedgaaDoor
