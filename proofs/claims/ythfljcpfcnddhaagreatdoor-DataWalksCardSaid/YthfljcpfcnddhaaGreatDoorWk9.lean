/- The law of DataWalks. -/
import Derived.Test.YthfljcpfcnddhaaGreatDoorWk8
import Derived.Test.YthfljcpfcnddhaaGreatDoorDx2
import Derived.LaidSub
namespace Go.Proofs.YthfljcpfcnddhaaGreatDoor
set_option linter.unusedVariables false
open Go Go.RowKit Go.ChangeShapes

theorem dataWalks_law {w : World} (n : Nd) (u : Value) (hN : IsNds (· < w.heap.size) w u n.sub) (hO : ∀ x ∈ nodes n, x.Ok1) (d : Dt) (ul uf : Value) (hl : IsDts (· < w.heap.size) w ul d.l) (hf : IsDts (· < w.heap.size) w uf d.f) (hD : ∀ x ∈ dts d, x.Ok1)
    (id : Int) (h0 : -9223372036854775808 ≤ id) (h1 : id < 9223372036854775808) (hL : laidMetH Tryz.prog Rows.dataWalksRow.laid w) :
    Calls Tryz.prog 4 #[.agg (ndA n u), .agg (dtA d ul uf), .int .i64 id] w fun e w' => e = .returned (.bool true) ∧ Below w.heap.size w w' := by
  have hk := hL.filter fun x => (["errors.errorType", "shredcol/api.ErrText", "shredcol/api.ErrBound", "shredcol/api.ErrShape", "shredcol/api.ErrKind", "shredcol/api.ErrName", "shredcol/api.ErrNone", "shredcol/api.ErrSum", "shredcol/api.ErrSpace"] : List String).contains x.1
  have e : (Rows.dataWalksRow.laid.filter fun x => (["errors.errorType", "shredcol/api.ErrText", "shredcol/api.ErrBound", "shredcol/api.ErrShape", "shredcol/api.ErrKind", "shredcol/api.ErrName", "shredcol/api.ErrNone", "shredcol/api.ErrSum", "shredcol/api.ErrSpace"] : List String).contains x.1) = fullLaid := by rfl
  have hL' : laidMetH Tryz.prog fullLaid w := e ▸ hk
  obtain ⟨adr, hE⟩ := env_of_laid hL'
  exact walks_main n d id u ul uf w adr hE hN hO hl hf hD fun w1 h => bit_any w1 adr ((hE.below h).errs.sub (by decide))
end Go.Proofs.YthfljcpfcnddhaaGreatDoor
