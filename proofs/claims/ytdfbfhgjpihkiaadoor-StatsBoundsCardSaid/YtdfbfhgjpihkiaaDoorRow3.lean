/- More on nine cells written over. -/
import Derived.Test.YtdfbfhgjpihkiaaDoorMRow
namespace Go.Proofs.YtdfbfhgjpihkiaaDoor
set_option linter.unusedVariables false
open Go Go.RowKit

theorem cell_set9 {w : World} {b o k : Nat} {v : Option Value} (hne : b ≠ k) (h : w.cell? ⟨b, o, none⟩ = v) (x0 x1 x2 x3 x4 x5 x6 x7 x8 : Value) :
    (((((((((w.setCell ⟨k, 0, none⟩ x0).setCell ⟨k, 1, none⟩ x1).setCell ⟨k, 2, none⟩ x2).setCell ⟨k, 3, none⟩ x3).setCell ⟨k, 4, none⟩ x4).setCell ⟨k, 5, none⟩ x5).setCell ⟨k, 6, none⟩ x6).setCell ⟨k, 7, none⟩ x7).setCell ⟨k, 8, none⟩ x8).cell? ⟨b, o, none⟩ = v := by
  rw [← h]
  refine World.cell?_of_block (a := ⟨b, o, none⟩) ?_
  show _ = w.heap[b]?
  rw [heap_setCell_other _ _ _ _ hne, heap_setCell_other _ _ _ _ hne, heap_setCell_other _ _ _ _ hne, heap_setCell_other _ _ _ _ hne, heap_setCell_other _ _ _ _ hne, heap_setCell_other _ _ _ _ hne, heap_setCell_other _ _ _ _ hne, heap_setCell_other _ _ _ _ hne, heap_setCell_other _ _ _ _ hne]
theorem rowc_set9_self {w : World} {g : Nat} {cs : Array Value} {t : TypeId} (hg : w.heap[g]? = some (.cells cs t (0, 0))) (hsz : cs.size = 9) (x0 x1 x2 x3 x4 x5 x6 x7 x8 : Value) : ∀ j, (((((((((w.setCell ⟨g, 0, none⟩ x0).setCell ⟨g, 1, none⟩ x1).setCell ⟨g, 2, none⟩ x2).setCell ⟨g, 3, none⟩ x3).setCell ⟨g, 4, none⟩ x4).setCell ⟨g, 5, none⟩ x5).setCell ⟨g, 6, none⟩ x6).setCell ⟨g, 7, none⟩ x7).setCell ⟨g, 8, none⟩ x8).cell? ⟨g, j, none⟩ = (#[x0, x1, x2, x3, x4, x5, x6, x7, x8] : Array Value)[j]? :=
  rowc (row_set9 hg hsz x0 x1 x2 x3 x4 x5 x6 x7 x8)
theorem cell_drew (w : World) (p : Addr) : w.drew.cell? p = w.cell? p := rfl
theorem cell_set9d {w : World} {b o k : Nat} {v : Option Value} (hne : b ≠ k) (h : w.cell? ⟨b, o, none⟩ = v) (x0 x1 x2 x3 x4 x5 x6 x7 x8 : Value) : (((((((((w.setCell ⟨k, 0, none⟩ x0).setCell ⟨k, 1, none⟩ x1).setCell ⟨k, 2, none⟩ x2).setCell ⟨k, 3, none⟩ x3).setCell ⟨k, 4, none⟩ x4).setCell ⟨k, 5, none⟩ x5).setCell ⟨k, 6, none⟩ x6).setCell ⟨k, 7, none⟩ x7).setCell ⟨k, 8, none⟩ x8).drew.cell? ⟨b, o, none⟩ = v := (cell_drew _ _).trans <| cell_set9 hne h x0 x1 x2 x3 x4 x5 x6 x7 x8
theorem rowc_set9_selfd {w : World} {k : Nat} {cs : Array Value} {t : TypeId} (hg : w.heap[k]? = some (.cells cs t (0, 0))) (hsz : cs.size = 9) (x0 x1 x2 x3 x4 x5 x6 x7 x8 : Value) : ∀ j, (((((((((w.setCell ⟨k, 0, none⟩ x0).setCell ⟨k, 1, none⟩ x1).setCell ⟨k, 2, none⟩ x2).setCell ⟨k, 3, none⟩ x3).setCell ⟨k, 4, none⟩ x4).setCell ⟨k, 5, none⟩ x5).setCell ⟨k, 6, none⟩ x6).setCell ⟨k, 7, none⟩ x7).setCell ⟨k, 8, none⟩ x8).drew.cell? ⟨k, j, none⟩ = (#[x0, x1, x2, x3, x4, x5, x6, x7, x8] : Array Value)[j]? := fun j => (cell_drew _ _).trans (rowc_set9_self hg hsz x0 x1 x2 x3 x4 x5 x6 x7 x8 j)
theorem rowc_set9d {w : World} {g k : Nat} {cs : Array Value} {t : TypeId} (hg : w.heap[g]? = some (.cells cs t (0, 0))) (hne : g ≠ k) (x0 x1 x2 x3 x4 x5 x6 x7 x8 : Value) : ∀ j, (((((((((w.setCell ⟨k, 0, none⟩ x0).setCell ⟨k, 1, none⟩ x1).setCell ⟨k, 2, none⟩ x2).setCell ⟨k, 3, none⟩ x3).setCell ⟨k, 4, none⟩ x4).setCell ⟨k, 5, none⟩ x5).setCell ⟨k, 6, none⟩ x6).setCell ⟨k, 7, none⟩ x7).setCell ⟨k, 8, none⟩ x8).drew.cell? ⟨g, j, none⟩ = cs[j]? := fun j => (cell_drew _ _).trans (rowc_set9 hg hne x0 x1 x2 x3 x4 x5 x6 x7 x8 j)
theorem heap_drew (w : World) : w.drew.heap = w.heap := rfl
theorem row_set9d {w : World} {k : Nat} {cs : Array Value} {t : TypeId} (hg : w.heap[k]? = some (.cells cs t (0, 0))) (hsz : cs.size = 9) (x0 x1 x2 x3 x4 x5 x6 x7 x8 : Value) : (((((((((w.setCell ⟨k, 0, none⟩ x0).setCell ⟨k, 1, none⟩ x1).setCell ⟨k, 2, none⟩ x2).setCell ⟨k, 3, none⟩ x3).setCell ⟨k, 4, none⟩ x4).setCell ⟨k, 5, none⟩ x5).setCell ⟨k, 6, none⟩ x6).setCell ⟨k, 7, none⟩ x7).setCell ⟨k, 8, none⟩ x8).drew.heap[k]? = some (.cells #[x0, x1, x2, x3, x4, x5, x6, x7, x8] t (0, 0)) := by
  rw [heap_drew]
  exact row_set9 hg hsz x0 x1 x2 x3 x4 x5 x6 x7 x8
end Go.Proofs.YtdfbfhgjpihkiaaDoor
