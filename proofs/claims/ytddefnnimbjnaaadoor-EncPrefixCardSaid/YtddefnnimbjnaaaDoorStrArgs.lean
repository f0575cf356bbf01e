/- Arguments that are texts, opened. -/
import Derived.Test.YtddefnnimbjnaaaDoorPre1
import Derived.SliceStrings
import Derived.OpenShut
namespace Go.Proofs.YtddefnnimbjnaaaDoor
set_option linter.unusedVariables false
open Go Go.RowKit Go.ChangeShapes Go.WideShapes Go.ChangeAt

theorem cells_str : Tryd.prog.cellsOf 9 = 1 := by kernel_rfl
set_option maxRecDepth 100000 in
theorem args_strs {H : Type} {enc : TypeId × Value → H} {W : World} {v : Value} {d : DataW H} {p : List MemPlace} {base : Nat} (okv : Value.okWide Tryd.prog W .any base 43 v)
    (h : DataW.Trod enc Tryd.prog W 0 (fun _ => true) true 43 v d p) : ∃ l, IsStrs W v l ∧ FitsS l := by
  obtain ⟨a0, len, cap, rfl⟩ := okWide_slice Tryd.underlying43 okv
  obtain ⟨fuel, hf⟩ := h
  rcases open_strings Tryd.underlying43 Tryd.underlying9 cells_str hf with ⟨hcs, hx⟩ | ⟨a, len', cap', ss, hcs, hb, hl, hm, hz, hx, hcell, hwz⟩
  · have : a0 = none ∧ len = 0 ∧ cap = 0 := by simpa [Value.cells] using hcs
    obtain ⟨rfl, rfl, rfl⟩ := this
    exact ⟨[], .inl ⟨rfl, none, 0, rfl⟩, by simp [FitsS]⟩
  · have : a0 = some a ∧ len = len' ∧ cap = cap' := by simpa [Value.cells] using hcs
    obtain ⟨rfl, rfl, rfl⟩ := this
    rw [if_pos rfl] at hz
    by_cases h0 : len = 0
    · subst h0
      exact ⟨[], .inl ⟨rfl, _, _, rfl⟩, by simp [FitsS]⟩
    · have h00 := hcell 0 (by omega)
      obtain ⟨b, off, spot⟩ := a
      have hspot : spot = none := by simpa [Addr.add] using World.cell?_spot h00
      subst hspot
      have hlen : (ss.take len).length = len := by simp; omega
      refine ⟨ss.take len, .inr ⟨b, off, cap, by rw [hlen], ?_, ?_⟩, by rw [hlen]; omega, ?_⟩
      · rw [Go.WideShapes.add_plain] at h00
        exact block_lt_of_cell h00
      · intro j x hj
        rw [List.getElem?_take] at hj
        split at hj
        · have := hcell j (by omega)
          rw [Go.WideShapes.add_plain] at this
          rw [this, List.getD_eq_getElem?_getD, hj]; rfl
        · cases hj
      · intro x hx
        exact hwz x (List.mem_of_mem_take hx)
end Go.Proofs.YtddefnnimbjnaaaDoor
