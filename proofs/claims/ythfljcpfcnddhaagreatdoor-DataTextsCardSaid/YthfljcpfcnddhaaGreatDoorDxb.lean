/- The law of DataTexts. -/
import Derived.Test.YthfljcpfcnddhaaGreatDoorDxa
import Derived.Test.YthfljcpfcnddhaaGreatDoorDx2
import Derived.LaidSub
namespace Go.Proofs.YthfljcpfcnddhaaGreatDoor
set_option linter.unusedVariables false
open Go Go.RowKit Go.ChangeShapes

set_option maxRecDepth 100000 in
theorem tabs_of_laid {w : World} (hL : laidMetH Tryz.prog Rows.dataTextsRow.laid w) : Tabs w := by
  have h1 := hL.filter fun x => x.1 == "math/bits.deBruijn64tab"
  have e1 : (Rows.dataTextsRow.laid.filter fun x => x.1 == "math/bits.deBruijn64tab") = [("math/bits.deBruijn64tab", Lib.tabData .u8 deb64)] := by rfl
  have h2 := hL.filter fun x => x.1 == "internal/strconv.uint64pow10"
  have e2 : (Rows.dataTextsRow.laid.filter fun x => x.1 == "internal/strconv.uint64pow10") = [("internal/strconv.uint64pow10", Lib.tabData .u64 Lib.pow10Tab)] := by rfl
  rw [e1] at h1
  rw [e2] at h2
  have g1 : laidMet Tryz.prog [("math/bits.deBruijn64tab", Lib.tabData .u8 deb64)] w := h1
  have g2 : laidMet Tryz.prog [("internal/strconv.uint64pow10", Lib.tabData .u64 Lib.pow10Tab)] w := h2
  exact ⟨Lib.tabIs_of_head (by rfl) rfl rfl rfl rfl rfl g1, Lib.tabIs_of_head (by rfl) rfl rfl rfl rfl rfl g2⟩

theorem dataTexts_law {w : World} (n : Nd) (u : Value) (hN : IsNds (· < w.heap.size) w u n.sub) (hO : ∀ x ∈ nodes n, x.Ok1) (d : Dt) (ul uf : Value) (hl : IsDts (· < w.heap.size) w ul d.l) (hf : IsDts (· < w.heap.size) w uf d.f) (hD : ∀ x ∈ dts d, x.Ok1)
    (hL : laidMetH Tryz.prog Rows.dataTextsRow.laid w) :
    Calls Tryz.prog 3 #[.agg (ndA n u), .agg (dtA d ul uf)] w fun e w' => e = .returned (.bool true) ∧ Below w.heap.size w w' := by
  have hk := hL.filter fun x => (["errors.errorType", "shredcol/api.ErrText", "shredcol/api.ErrBound", "shredcol/api.ErrShape", "shredcol/api.ErrKind", "shredcol/api.ErrName", "shredcol/api.ErrNone", "shredcol/api.ErrSum", "shredcol/api.ErrSpace"] : List String).contains x.1
  have e : (Rows.dataTextsRow.laid.filter fun x => (["errors.errorType", "shredcol/api.ErrText", "shredcol/api.ErrBound", "shredcol/api.ErrShape", "shredcol/api.ErrKind", "shredcol/api.ErrName", "shredcol/api.ErrNone", "shredcol/api.ErrSum", "shredcol/api.ErrSpace"] : List String).contains x.1) = fullLaid := by rfl
  have hL' : laidMetH Tryz.prog fullLaid w := e ▸ hk
  obtain ⟨adr, hE⟩ := env_of_laid hL'
  exact texts_main n d u ul uf w adr hE (tabs_of_laid hL) hN hO hl hf hD fun w1 h => bit_any w1 adr ((hE.below h).errs.sub (by decide))
end Go.Proofs.YthfljcpfcnddhaaGreatDoor
