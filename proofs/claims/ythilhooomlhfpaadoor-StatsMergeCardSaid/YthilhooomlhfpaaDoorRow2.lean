/- More on blocks that are known whole. -/
import Derived.Test.YthilhooomlhfpaaDoorRow
namespace Go.Proofs.YthilhooomlhfpaaDoor
set_option linter.unusedVariables false
open Go Go.RowKit

/-- the cells of a block that is known, behind a draw, another block's laying, another block's being written -/
theorem rowc_drew {w : World} {g : Nat} {cs : Array Value} {t : TypeId} (hg : w.heap[g]? = some (.cells cs t (0, 0))) : ∀ j, w.drew.cell? ⟨g, j, none⟩ = cs[j]? := rowc (w := w.drew) hg
theorem rowc_alloc {w : World} {g : Nat} {cs : Array Value} {t : TypeId} (hg : w.heap[g]? = some (.cells cs t (0, 0))) (o : Obj) : ∀ j, (w.alloc o).cell? ⟨g, j, none⟩ = cs[j]? := rowc ((Lib.alloc_old w o g (row_lt hg)).trans hg)
theorem rowc_alloc_drew {w : World} {g : Nat} {cs : Array Value} {t : TypeId} (hg : w.heap[g]? = some (.cells cs t (0, 0))) (o : Obj) : ∀ j, (w.alloc o).drew.cell? ⟨g, j, none⟩ = cs[j]? := rowc (w := (w.alloc o).drew) ((Lib.alloc_old w o g (row_lt hg)).trans hg)
theorem rowc_set9 {w : World} {g k : Nat} {cs : Array Value} {t : TypeId} (hg : w.heap[g]? = some (.cells cs t (0, 0))) (hne : g ≠ k) (x0 x1 x2 x3 x4 x5 x6 x7 x8 : Value) :
    ∀ j, (((((((((w.setCell ⟨k, 0, none⟩ x0).setCell ⟨k, 1, none⟩ x1).setCell ⟨k, 2, none⟩ x2).setCell ⟨k, 3, none⟩ x3).setCell ⟨k, 4, none⟩ x4).setCell ⟨k, 5, none⟩ x5).setCell ⟨k, 6, none⟩ x6).setCell ⟨k, 7, none⟩ x7).setCell ⟨k, 8, none⟩ x8).cell? ⟨g, j, none⟩ = cs[j]? := by
  refine rowc (t := t) ?_
  rw [heap_setCell_other _ _ _ _ hne, heap_setCell_other _ _ _ _ hne, heap_setCell_other _ _ _ _ hne, heap_setCell_other _ _ _ _ hne, heap_setCell_other _ _ _ _ hne, heap_setCell_other _ _ _ _ hne, heap_setCell_other _ _ _ _ hne, heap_setCell_other _ _ _ _ hne, heap_setCell_other _ _ _ _ hne]
  exact hg
theorem set9_nest (w : World) (g : Nat) (x0 x1 x2 x3 x4 x5 x6 x7 x8 : Value) : w.setCells g 0 [x0, x1, x2, x3, x4, x5, x6, x7, x8] = (((((((((w.setCell ⟨g, 0, none⟩ x0).setCell ⟨g, 1, none⟩ x1).setCell ⟨g, 2, none⟩ x2).setCell ⟨g, 3, none⟩ x3).setCell ⟨g, 4, none⟩ x4).setCell ⟨g, 5, none⟩ x5).setCell ⟨g, 6, none⟩ x6).setCell ⟨g, 7, none⟩ x7).setCell ⟨g, 8, none⟩ x8) := rfl
theorem row_set9 {w : World} {g : Nat} {cs : Array Value} {t : TypeId} (hg : w.heap[g]? = some (.cells cs t (0, 0))) (hsz : cs.size = 9) (x0 x1 x2 x3 x4 x5 x6 x7 x8 : Value) : (((((((((w.setCell ⟨g, 0, none⟩ x0).setCell ⟨g, 1, none⟩ x1).setCell ⟨g, 2, none⟩ x2).setCell ⟨g, 3, none⟩ x3).setCell ⟨g, 4, none⟩ x4).setCell ⟨g, 5, none⟩ x5).setCell ⟨g, 6, none⟩ x6).setCell ⟨g, 7, none⟩ x7).setCell ⟨g, 8, none⟩ x8).heap[g]? = some (.cells #[x0, x1, x2, x3, x4, x5, x6, x7, x8] t (0, 0)) := by
  rw [← set9_nest]
  exact (set9_row x0 x1 x2 x3 x4 x5 x6 x7 x8 hg hsz).1
theorem below_set9 {w : World} {B : Nat} {a : World} (h : Below B a w) (g : Nat) (hg : B ≤ g) (x0 x1 x2 x3 x4 x5 x6 x7 x8 : Value) : Below B a (((((((((w.setCell ⟨g, 0, none⟩ x0).setCell ⟨g, 1, none⟩ x1).setCell ⟨g, 2, none⟩ x2).setCell ⟨g, 3, none⟩ x3).setCell ⟨g, 4, none⟩ x4).setCell ⟨g, 5, none⟩ x5).setCell ⟨g, 6, none⟩ x6).setCell ⟨g, 7, none⟩ x7).setCell ⟨g, 8, none⟩ x8) :=
  ((((((((h.setCell hg x0).setCell hg x1).setCell hg x2).setCell hg x3).setCell hg x4).setCell hg x5).setCell hg x6).setCell hg x7).setCell hg x8
end Go.Proofs.YthilhooomlhfpaaDoor
