/- Arguments that are values, opened. -/
import Derived.Test.YtddefnnimbjnaaaDoorVals
import Derived.Lib.SmallJoins
import Derived.OpenShut
import Derived.ChangeArms
namespace Go.Proofs.YtddefnnimbjnaaaDoor
set_option linter.unusedVariables false
open Go Go.RowKit Go.ChangeShapes Go.WideShapes Go.ChangeAt

set_option maxRecDepth 100000 in
theorem args_val {H : Type} {enc : TypeId × Value → H} {W : World} {v : Value} {d : DataW H} {p : List MemPlace} {base : Nat} (okv : Value.okWide Tryd.prog W .any base 33 v)
    (h : DataW.Trod enc Tryd.prog W 0 (fun _ => true) true 33 v d p) : ∃ x : Val, v = .agg (valA x) ∧ x.Ok := by
  obtain ⟨v0, v1, v2, y0, y1, y2, n, rfl, _, _, h0, h1, h2⟩ := Joins.open_agg3 Tryd.underlying33 (by kernel_rfl) (by kernel_rfl) okv h
  obtain ⟨a, ha, _, wa⟩ := DataW.trod_int Tryd.underlying3 h0
  obtain ⟨b, hb, _, wb⟩ := DataW.trod_int Tryd.underlying2 h1
  obtain ⟨s, hs, _, ws⟩ := DataW.trod_string Tryd.underlying9 h2
  simp only [List.cons.injEq, and_true] at ha hb hs
  subst ha hb hs
  have ba := bounds_i64 wa
  have bb := bounds_i64 wb
  exact ⟨⟨a, b, s⟩, rfl, ⟨ba.1, by show a < _; omega, bb.1, by show b < _; omega, ws⟩⟩
end Go.Proofs.YtddefnnimbjnaaaDoor
