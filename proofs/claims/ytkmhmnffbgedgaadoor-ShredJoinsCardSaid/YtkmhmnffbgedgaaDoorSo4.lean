/- The law of ShredJoins. -/
import Derived.Test.YtkmhmnffbgedgaaDoorSo3
import Derived.Test.YtkmhmnffbgedgaaDoorColsArg
import Derived.LaidSub
namespace Go.Proofs.YtkmhmnffbgedgaaDoor
set_option linter.unusedVariables false
open Go Go.RowKit Go.ChangeShapes
theorem shredJoins_law {w:World} (vf:Value) (f:Lf) (hf:IsLf w vf f) (fo:f.Ok) (v:Value) (l:List Col) (hl:IsCols w v l) (co:∀ c ∈ l,c.Ok) (cr:∀ c ∈ l,c.Reach) (hL:laidMetH Tryd.prog Rows.shredJoinsRow.laid w) :
  Calls Tryd.prog 3 #[vf,v] w fun e w'=>e = .returned (.bool true) ∧ Below w.heap.size w w':=by
 have hk := hL.filter fun x => (["errors.errorType", "shredcol/api.ErrText", "shredcol/api.ErrBound", "shredcol/api.ErrShape", "shredcol/api.ErrKind", "shredcol/api.ErrName", "shredcol/api.ErrNone", "shredcol/api.ErrSum", "shredcol/api.ErrSpace"] : List String).contains x.1
 have e : (Rows.shredJoinsRow.laid.filter fun x => (["errors.errorType", "shredcol/api.ErrText", "shredcol/api.ErrBound", "shredcol/api.ErrShape", "shredcol/api.ErrKind", "shredcol/api.ErrName", "shredcol/api.ErrNone", "shredcol/api.ErrSum", "shredcol/api.ErrSpace"] : List String).contains x.1) = fullLaid := by rfl
 have hL':laidMetH Tryd.prog fullLaid w:=e ▸ hk
 obtain ⟨adr,hE⟩:=env_of_laid hL'
 exact joins_any f l vf v w adr hE hf hl fo co cr
end Go.Proofs.YtkmhmnffbgedgaaDoor
