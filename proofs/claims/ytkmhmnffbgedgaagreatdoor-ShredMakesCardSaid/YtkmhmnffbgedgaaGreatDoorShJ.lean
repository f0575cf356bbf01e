/- The law of ShredMakes. -/
import Derived.Test.YtkmhmnffbgedgaaGreatDoorShI
import Derived.Test.YtkmhmnffbgedgaaGreatDoorDtArgs
import Derived.LaidSub
namespace Go.Proofs.YtkmhmnffbgedgaaGreatDoor
set_option linter.unusedVariables false
open Go Go.RowKit Go.ChangeShapes
theorem shredMakes_law {w:World} (n:Nd) (u:Value) (hN:IsNds (· < w.heap.size) w u n.sub) (hO:∀ x ∈ nodes n,x.Ok1) (v:Value) (l:List Dt) (hl:IsDts (· < w.heap.size) w v l) (h88:l.length * 88 ≤ 140737488355328) (hD:∀ x ∈ dtsL l,x.Ok1) (hL:laidMetH Tryz.prog Rows.shredMakesRow.laid w) :
  Calls Tryz.prog 3 #[.agg (ndA n u),v] w fun e w'=>e = .returned (.bool true) ∧ Below w.heap.size w w':=by
 have hk := hL.filter fun x => (["errors.errorType", "shredcol/api.ErrText", "shredcol/api.ErrBound", "shredcol/api.ErrShape", "shredcol/api.ErrKind", "shredcol/api.ErrName", "shredcol/api.ErrNone", "shredcol/api.ErrSum", "shredcol/api.ErrSpace"] : List String).contains x.1
 have e : (Rows.shredMakesRow.laid.filter fun x => (["errors.errorType", "shredcol/api.ErrText", "shredcol/api.ErrBound", "shredcol/api.ErrShape", "shredcol/api.ErrKind", "shredcol/api.ErrName", "shredcol/api.ErrNone", "shredcol/api.ErrSum", "shredcol/api.ErrSpace"] : List String).contains x.1) = fullLaid := by rfl
 have hL':laidMetH Tryz.prog fullLaid w:=e ▸ hk
 obtain ⟨adr,hE⟩:=env_of_laid hL'
 exact makes_any n l u v w adr hE hN hO hl hD h88
end Go.Proofs.YtkmhmnffbgedgaaGreatDoor
