/- Merged texts: WireW1, WireW5, WireW6, WireW7, WireW8, WireW9. -/
import Derived.Test.YtkmhmnffbgedgaaDoorRows
import Derived.Test.YtkmhmnffbgedgaaDoorMPlain
import Derived.IntWalk
import Derived.Deep.QuietTactic
import Derived.BigQuiet
import Derived.Laws.DeepNot64
/- The walks of wire.Uvarint, wire.Varint and the document's Byte, Seven, Signed. -/
namespace Go.Proofs.YtkmhmnffbgedgaaDoor
open Go Go.RowKit
end Go.Proofs.YtkmhmnffbgedgaaDoor
/- The walks of wire.ReadUvarint, wire.ReadVarint. -/
namespace Go.Proofs.YtkmhmnffbgedgaaDoor
open Go Go.RowKit
end Go.Proofs.YtkmhmnffbgedgaaDoor
/- The walks of wire.Text, wire.ReadText. -/
namespace Go.Proofs.YtkmhmnffbgedgaaDoor
open Go Go.RowKit
end Go.Proofs.YtkmhmnffbgedgaaDoor
/- The walks of the document's ReadSeven, ReadSigned, ReadLong. -/
namespace Go.Proofs.YtkmhmnffbgedgaaDoor
open Go Go.RowKit
end Go.Proofs.YtkmhmnffbgedgaaDoor
/- The walks of the document's Long, ReadLong. -/
namespace Go.Proofs.YtkmhmnffbgedgaaDoor
open Go Go.RowKit
end Go.Proofs.YtkmhmnffbgedgaaDoor
/- The walks of wire.Fixed, wire.ReadFixed, and the document's Little, ReadLittle. -/
namespace Go.Proofs.YtkmhmnffbgedgaaDoor
open Go Go.RowKit
end Go.Proofs.YtkmhmnffbgedgaaDoor
