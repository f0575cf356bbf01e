/- Merged texts: How1, How2, How3, How4, How5, IsV2. -/
import Derived.Test.YtapiabmmfmfaeaaGreatDoorMSt
import Derived.WideMake
import Derived.Deep.RegionHeld3
import Derived.Test.YtapiabmmfmfaeaaGreatDoorMRow
import Derived.BigQuiet
import Derived.Test.YtapiabmmfmfaeaaGreatDoorMRef
import Derived.Test.YtapiabmmfmfaeaaGreatDoorMEnc
/- The walk of stats.table: the map of the six ways to stand. -/
namespace Go.Proofs.YtapiabmmfmfaeaaGreatDoor
set_option linter.unusedVariables false
open Go Go.RowKit Go.ChangeShapes
end Go.Proofs.YtapiabmmfmfaeaaGreatDoor
/- The walk of stats.How. -/
namespace Go.Proofs.YtapiabmmfmfaeaaGreatDoor
set_option linter.unusedVariables false
open Go Go.RowKit Go.ChangeShapes
end Go.Proofs.YtapiabmmfmfaeaaGreatDoor
/- The walk of stats.How at an unknown way and at the six known ones. -/
namespace Go.Proofs.YtapiabmmfmfaeaaGreatDoor
set_option linter.unusedVariables false
open Go Go.RowKit Go.ChangeShapes
end Go.Proofs.YtapiabmmfmfaeaaGreatDoor
/- The walk of the document's StandsOf. -/
namespace Go.Proofs.YtapiabmmfmfaeaaGreatDoor
set_option linter.unusedVariables false
open Go Go.RowKit Go.ChangeShapes
end Go.Proofs.YtapiabmmfmfaeaaGreatDoor
/- How and StandsOf at whatever way. -/
namespace Go.Proofs.YtapiabmmfmfaeaaGreatDoor
set_option linter.unusedVariables false
open Go Go.RowKit Go.ChangeShapes
end Go.Proofs.YtapiabmmfmfaeaaGreatDoor
/- The document's IsValue at any kind. -/
namespace Go.Proofs.YtapiabmmfmfaeaaGreatDoor
set_option linter.unusedVariables false
open Go Go.RowKit Go.ChangeShapes
def isV (kind:Int) (x:Val):Bool:=decide (1 ≤ kind ∧ kind ≤ 5) && okB kind x
theorem isValue_any (kind:Int) (x:Val) (hx:x.Ok) (w:World) :
  Calls Tryz.prog 63 #[.int .i64 kind,.agg (valA x)] w fun e w'=>e = .returned (.bool (isV kind x)) ∧ Below w.heap.size w w':=by
 unfold isV
 by_cases h:1 ≤ kind ∧ kind ≤ 5
 ·by_cases hP:OkP kind x
  ·rw [(okB_iff kind x).2 hP,decide_eq_true h]
   exact isValue_yes kind x hx w hP h.1 h.2
  ·rw [show okB kind x = false from by cases hb:okB kind x with | false=>rfl | true=>exact absurd ((okB_iff kind x).1 hb) hP,Bool.and_false]
   exact isValue_no kind x hx w hP h.1 h.2
 ·rw [decide_eq_false h,Bool.false_and]
  exact isValue_out kind x hx w (by omega)
end Go.Proofs.YtapiabmmfmfaeaaGreatDoor
/- Merged texts: May1, May2, May3. -/
/- The walk of the document's MayOf. -/
namespace Go.Proofs.YtapiabmmfmfaeaaGreatDoor
set_option linter.unusedVariables false
open Go Go.RowKit Go.ChangeShapes
end Go.Proofs.YtapiabmmfmfaeaaGreatDoor
/- The walk of stats.May. -/
namespace Go.Proofs.YtapiabmmfmfaeaaGreatDoor
set_option linter.unusedVariables false
open Go Go.RowKit Go.ChangeShapes
theorem one_vals {w w':World} {v:Val} {t:TypeId} (hb:Below (w.alloc (.cells #[.int .i64 v.k,.int .i64 v.n,.string v.s] t)).heap.size (w.alloc (.cells #[.int .i64 v.k,.int .i64 v.n,.string v.s] t)) w'):IsVals w' (.slice (some ⟨w.heap.size,0,none⟩) 1 1) [v]:=by
 obtain ⟨r,_,hl⟩:=rows1 hb
 refine .inr ⟨w.heap.size,0,1,rfl,hl,fun j x hj=>?_⟩
 match j,hj with
 | 0,hj =>
  simp at hj;subst hj
  exact ⟨by rw [rowc r];rfl,by rw [rowc r];rfl,by rw [rowc r];rfl⟩
 | j + 1,hj=>simp at hj
end Go.Proofs.YtapiabmmfmfaeaaGreatDoor
/- stats.May where all is right. -/
namespace Go.Proofs.YtapiabmmfmfaeaaGreatDoor
set_option linter.unusedVariables false
open Go Go.RowKit Go.ChangeShapes
end Go.Proofs.YtapiabmmfmfaeaaGreatDoor
