/- More on blocks that are known whole. -/
import Derived.Test.YthilhooomlhfpaaDoorRow
namespace Go.Proofs.YthilhooomlhfpaaDoor
set_option linter.unusedVariables false
open Go Go.RowKit

theorem rows1d {w w1 : World} {A : Obj} (hb : Below (w.alloc A).drew.heap.size (w.alloc A).drew w1) : w1.heap[w.heap.size]? = some A ∧ Below w.heap.size w w1 ∧ w.heap.size < w1.heap.size :=
  rows1 (((Below.refl (w.alloc A).heap.size (w.alloc A)).drew).trans hb)
theorem drew_first {w w1 : World} (hb : Below w.drew.heap.size w.drew w1) : Below w.heap.size w w1 := ((Below.refl w.heap.size w).drew).trans hb
/-- nine cells stored over a block that is known -/
theorem set9_row {w : World} {g : Nat} {cs : Array Value} {t : TypeId} (x0 x1 x2 x3 x4 x5 x6 x7 x8 : Value) (hg : w.heap[g]? = some (.cells cs t (0, 0))) (hsz : cs.size = 9) :
    (w.setCells g 0 [x0, x1, x2, x3, x4, x5, x6, x7, x8]).heap[g]? = some (.cells #[x0, x1, x2, x3, x4, x5, x6, x7, x8] t (0, 0)) ∧ (∀ i, i ≠ g → (w.setCells g 0 [x0, x1, x2, x3, x4, x5, x6, x7, x8]).heap[i]? = w.heap[i]?) ∧
      Below g w (w.setCells g 0 [x0, x1, x2, x3, x4, x5, x6, x7, x8]) ∧ (w.setCells g 0 [x0, x1, x2, x3, x4, x5, x6, x7, x8]).heap.size = w.heap.size := by
  obtain ⟨a, b, c, d⟩ := setCells_row g t [x0, x1, x2, x3, x4, x5, x6, x7, x8] w cs 0 hg
  rw [setPart_eq _ _ _ (by simp; omega)] at a
  refine ⟨?_, b, c, d⟩
  rw [a]
  obtain ⟨L⟩ := cs
  have hL : L.length = 9 := by simpa using hsz
  simp [setPart, List.drop_of_length_le (Nat.le_of_eq hL)]
/-- the cells of a block that is known, behind a draw, another block's laying, another block's being written -/
theorem rowc_drew {w : World} {g : Nat} {cs : Array Value} {t : TypeId} (hg : w.heap[g]? = some (.cells cs t (0, 0))) : ∀ j, w.drew.cell? ⟨g, j, none⟩ = cs[j]? := rowc (w := w.drew) hg
theorem rowc_alloc {w : World} {g : Nat} {cs : Array Value} {t : TypeId} (hg : w.heap[g]? = some (.cells cs t (0, 0))) (o : Obj) : ∀ j, (w.alloc o).cell? ⟨g, j, none⟩ = cs[j]? := rowc ((Lib.alloc_old w o g (row_lt hg)).trans hg)
theorem rowc_alloc_drew {w : World} {g : Nat} {cs : Array Value} {t : TypeId} (hg : w.heap[g]? = some (.cells cs t (0, 0))) (o : Obj) : ∀ j, (w.alloc o).drew.cell? ⟨g, j, none⟩ = cs[j]? := rowc (w := (w.alloc o).drew) ((Lib.alloc_old w o g (row_lt hg)).trans hg)
theorem rowc_set9 {w : World} {g k : Nat} {cs : Array Value} {t : TypeId} (hg : w.heap[g]? = some (.cells cs t (0, 0))) (hne : g ≠ k) (x0 x1 x2 x3 x4 x5 x6 x7 x8 : Value) :
    ∀ j, (((((((((w.setCell ⟨k, 0, none⟩ x0).setCell ⟨k, 1, none⟩ x1).setCell ⟨k, 2, none⟩ x2).setCell ⟨k, 3, none⟩ x3).setCell ⟨k, 4, none⟩ x4).setCell ⟨k, 5, none⟩ x5).setCell ⟨k, 6, none⟩ x6).setCell ⟨k, 7, none⟩ x7).setCell ⟨k, 8, none⟩ x8).cell? ⟨g, j, none⟩ = cs[j]? := by
  refine rowc (t := t) ?_
  rw [heap_setCell_other _ _ _ _ hne, heap_setCell_other _ _ _ _ hne, heap_setCell_other _ _ _ _ hne, heap_setCell_other _ _ _ _ hne, heap_setCell_other _ _ _ _ hne, heap_setCell_other _ _ _ _ hne, heap_setCell_other _ _ _ _ hne, heap_setCell_other _ _ _ _ hne, heap_setCell_other _ _ _ _ hne]
  exact hg
theorem set9_nest (w : World) (g : Nat) (x0 x1 x2 x3 x4 x5 x6 x7 x8 : Value) : w.setCells g 0 [x0, x1, x2, x3, x4, x5, x6, x7, x8] = (((((((((w.setCell ⟨g, 0, none⟩ x0).setCell ⟨g, 1, none⟩ x1).setCell ⟨g, 2, none⟩ x2).setCell ⟨g, 3, none⟩ x3).setCell ⟨g, 4, none⟩ x4).setCell ⟨g, 5, none⟩ x5).setCell ⟨g, 6, none⟩ x6).setCell ⟨g, 7, none⟩ x7).setCell ⟨g, 8, none⟩ x8) := rfl
theorem row_set9 {w : World} {g : Nat} {cs : Array Value} {t : TypeId} (hg : w.heap[g]? = some (.cells cs t (0, 0))) (hsz : cs.size = 9) (x0 x1 x2 x3 x4 x5 x6 x7 x8 : Value) : (((((((((w.setCell ⟨g, 0, none⟩ x0).setCell ⟨g, 1, none⟩ x1).setCell ⟨g, 2, none⟩ x2).setCell ⟨g, 3, none⟩ x3).setCell ⟨g, 4, none⟩ x4).setCell ⟨g, 5, none⟩ x5).setCell ⟨g, 6, none⟩ x6).setCell ⟨g, 7, none⟩ x7).setCell ⟨g, 8, none⟩ x8).heap[g]? = some (.cells #[x0, x1, x2, x3, x4, x5, x6, x7, x8] t (0, 0)) := by
  rw [← set9_nest]
  exact (set9_row x0 x1 x2 x3 x4 x5 x6 x7 x8 hg hsz).1
theorem below_set9 {w : World} {B : Nat} {a : World} (h : Below B a w) (g : Nat) (hg : B ≤ g) (x0 x1 x2 x3 x4 x5 x6 x7 x8 : Value) : Below B a (((((((((w.setCell ⟨g, 0, none⟩ x0).setCell ⟨g, 1, none⟩ x1).setCell ⟨g, 2, none⟩ x2).setCell ⟨g, 3, none⟩ x3).setCell ⟨g, 4, none⟩ x4).setCell ⟨g, 5, none⟩ x5).setCell ⟨g, 6, none⟩ x6).setCell ⟨g, 7, none⟩ x7).setCell ⟨g, 8, none⟩ x8) :=
  ((((((((h.setCell hg x0).setCell hg x1).setCell hg x2).setCell hg x3).setCell hg x4).setCell hg x5).setCell hg x6).setCell hg x7).setCell hg x8
end Go.Proofs.YthilhooomlhfpaaDoor
