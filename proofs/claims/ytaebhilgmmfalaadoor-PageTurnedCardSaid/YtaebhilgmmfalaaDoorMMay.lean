/- Merged texts: May1, May2, May3. -/
import Derived.Test.YtaebhilgmmfalaaDoorMHow
import Derived.Test.YtaebhilgmmfalaaDoorMSt
import Derived.Test.YtaebhilgmmfalaaDoorMEnc

/- The walk of the document's MayOf. -/
namespace Go.Proofs.YtaebhilgmmfalaaDoor
set_option linter.unusedVariables false
open Go Go.RowKit Go.ChangeShapes

/-- the document's answer -/
def mayB (a : St) (s : ByteArray) (v : Val) : Bool :=
  a.has && (if s = ⟨#[61]⟩ then !(v.less a.lo) && !(a.hi.less v) else ((standsO s (a.lo.less v) (v.less a.lo)).getD false || (standsO s (a.hi.less v) (v.less a.hi)).getD false))

end Go.Proofs.YtaebhilgmmfalaaDoor

/- The walk of stats.May. -/
namespace Go.Proofs.YtaebhilgmmfalaaDoor
set_option linter.unusedVariables false
open Go Go.RowKit Go.ChangeShapes

/-- one value in a slice of its own -/
theorem one_vals {w w' : World} {v : Val} {t : TypeId} (hb : Below (w.alloc (.cells #[.int .i64 v.k, .int .i64 v.n, .string v.s] t)).heap.size (w.alloc (.cells #[.int .i64 v.k, .int .i64 v.n, .string v.s] t)) w') : IsVals w' (.slice (some ⟨w.heap.size, 0, none⟩) 1 1) [v] := by
  obtain ⟨r, _, hl⟩ := rows1 hb
  refine .inr ⟨w.heap.size, 0, 1, rfl, hl, fun j x hj => ?_⟩
  match j, hj with
  | 0, hj =>
    simp at hj; subst hj
    exact ⟨by rw [rowc r]; rfl, by rw [rowc r]; rfl, by rw [rowc r]; rfl⟩
  | j + 1, hj => simp at hj

end Go.Proofs.YtaebhilgmmfalaaDoor

/- stats.May where all is right. -/
namespace Go.Proofs.YtaebhilgmmfalaaDoor
set_option linter.unusedVariables false
open Go Go.RowKit Go.ChangeShapes

/-- the program's answer -/
def mayP (a : St) (s : ByteArray) (v : Val) : Bool :=
  a.has && ((if s = ⟨#[61]⟩ then !(v.less a.lo) && !(a.hi.less v) else (standsO s (a.lo.less v) (v.less a.lo)).getD false) || (standsO s (a.hi.less v) (v.less a.hi)).getD false)

end Go.Proofs.YtaebhilgmmfalaaDoor
