/- The law of ShredParts. -/
import Derived.Test.YtdcgihplkangeaaGreatDoorSp3
import Derived.Test.YtdcgihplkangeaaGreatDoorMCa
import Derived.LaidSub
namespace Go.Proofs.YtdcgihplkangeaaGreatDoor
set_option linter.unusedVariables false
open Go Go.RowKit Go.ChangeShapes
theorem shredParts_law {w:World} (vf:Value) (f:Lf) (hf:IsLf w vf f) (fo:f.Ok) (vc:Value) (c:Col) (hc:IsCol w vc c) (co:c.Ok) (cr:c.Reach)
  (x:Int) (x0:-9223372036854775808 ≤ x) (x1:x < 9223372036854775808) (y:Int) (y0:-9223372036854775808 ≤ y) (y1:y < 9223372036854775808) (hL:laidMetH Tryz.prog Rows.shredPartsRow.laid w) :
  Calls Tryz.prog 3 #[vf,vc,.int .i64 x,.int .i64 y] w fun e w'=>e = .returned (.bool true) ∧ Below w.heap.size w w':=by
 have hk := hL.filter fun x => (["errors.errorType", "shredcol/api.ErrText", "shredcol/api.ErrBound", "shredcol/api.ErrShape", "shredcol/api.ErrKind", "shredcol/api.ErrName", "shredcol/api.ErrNone", "shredcol/api.ErrSum", "shredcol/api.ErrSpace"] : List String).contains x.1
 have e : (Rows.shredPartsRow.laid.filter fun x => (["errors.errorType", "shredcol/api.ErrText", "shredcol/api.ErrBound", "shredcol/api.ErrShape", "shredcol/api.ErrKind", "shredcol/api.ErrName", "shredcol/api.ErrNone", "shredcol/api.ErrSum", "shredcol/api.ErrSpace"] : List String).contains x.1) = fullLaid := by rfl
 have hL':laidMetH Tryz.prog fullLaid w:=e ▸ hk
 obtain ⟨adr,hE⟩:=env_of_laid hL'
 exact parts_any f c x y vf vc w adr hE hf hc fo co cr
end Go.Proofs.YtdcgihplkangeaaGreatDoor
