/- 4 cells written over a block that is known (by tools/gen_rown.py). -/
import Derived.Test.YtdfbfhgjpihkiaaDoorMRow
import Derived.Test.YtdfbfhgjpihkiaaDoorRow3
namespace Go.Proofs.YtdfbfhgjpihkiaaDoor
set_option linter.unusedVariables false
open Go Go.RowKit

theorem set4_nest (w : World) (g : Nat) (x0 x1 x2 x3 : Value) : w.setCells g 0 [x0, x1, x2, x3] = ((((w.setCell ⟨g, 0, none⟩ x0).setCell ⟨g, 1, none⟩ x1).setCell ⟨g, 2, none⟩ x2).setCell ⟨g, 3, none⟩ x3) := rfl
theorem row_set4 {w : World} {g : Nat} {cs : Array Value} {t : TypeId} (hg : w.heap[g]? = some (.cells cs t (0, 0))) (hsz : cs.size = 4) (x0 x1 x2 x3 : Value) : ((((w.setCell ⟨g, 0, none⟩ x0).setCell ⟨g, 1, none⟩ x1).setCell ⟨g, 2, none⟩ x2).setCell ⟨g, 3, none⟩ x3).heap[g]? = some (.cells #[x0, x1, x2, x3] t (0, 0)) := by
  rw [← set4_nest]
  obtain ⟨a, -⟩ := setCells_row g t [x0, x1, x2, x3] w cs 0 hg
  rw [setPart_eq _ _ _ (by simp; omega)] at a
  refine Eq.trans a ?_
  obtain ⟨L⟩ := cs
  have hL : L.length = 4 := by simpa using hsz
  simp [setPart, List.drop_of_length_le (Nat.le_of_eq hL)]
theorem row_set4d {w : World} {g : Nat} {cs : Array Value} {t : TypeId} (hg : w.heap[g]? = some (.cells cs t (0, 0))) (hsz : cs.size = 4) (x0 x1 x2 x3 : Value) : ((((w.setCell ⟨g, 0, none⟩ x0).setCell ⟨g, 1, none⟩ x1).setCell ⟨g, 2, none⟩ x2).setCell ⟨g, 3, none⟩ x3).drew.heap[g]? = some (.cells #[x0, x1, x2, x3] t (0, 0)) := by
  rw [heap_drew]
  exact row_set4 hg hsz x0 x1 x2 x3
theorem set4_other {w : World} {g k : Nat} (hne : g ≠ k) (x0 x1 x2 x3 : Value) : ((((w.setCell ⟨k, 0, none⟩ x0).setCell ⟨k, 1, none⟩ x1).setCell ⟨k, 2, none⟩ x2).setCell ⟨k, 3, none⟩ x3).heap[g]? = w.heap[g]? := by
  rw [heap_setCell_other _ _ _ _ hne, heap_setCell_other _ _ _ _ hne, heap_setCell_other _ _ _ _ hne, heap_setCell_other _ _ _ _ hne]
theorem set4_otherd {w : World} {g k : Nat} (hne : g ≠ k) (x0 x1 x2 x3 : Value) : ((((w.setCell ⟨k, 0, none⟩ x0).setCell ⟨k, 1, none⟩ x1).setCell ⟨k, 2, none⟩ x2).setCell ⟨k, 3, none⟩ x3).drew.heap[g]? = w.heap[g]? := by
  rw [heap_drew]
  exact set4_other hne x0 x1 x2 x3
theorem cell_set4 {w : World} {b o k : Nat} {v : Option Value} (hne : b ≠ k) (h : w.cell? ⟨b, o, none⟩ = v) (x0 x1 x2 x3 : Value) : ((((w.setCell ⟨k, 0, none⟩ x0).setCell ⟨k, 1, none⟩ x1).setCell ⟨k, 2, none⟩ x2).setCell ⟨k, 3, none⟩ x3).cell? ⟨b, o, none⟩ = v := by
  rw [← h]
  refine World.cell?_of_block (a := ⟨b, o, none⟩) ?_
  show _ = w.heap[b]?
  rw [heap_setCell_other _ _ _ _ hne, heap_setCell_other _ _ _ _ hne, heap_setCell_other _ _ _ _ hne, heap_setCell_other _ _ _ _ hne]
theorem cell_set4d {w : World} {b o k : Nat} {v : Option Value} (hne : b ≠ k) (h : w.cell? ⟨b, o, none⟩ = v) (x0 x1 x2 x3 : Value) : ((((w.setCell ⟨k, 0, none⟩ x0).setCell ⟨k, 1, none⟩ x1).setCell ⟨k, 2, none⟩ x2).setCell ⟨k, 3, none⟩ x3).drew.cell? ⟨b, o, none⟩ = v := (cell_drew _ _).trans <| cell_set4 hne h x0 x1 x2 x3
theorem rowc_set4 {w : World} {g k : Nat} {cs : Array Value} {t : TypeId} (hg : w.heap[g]? = some (.cells cs t (0, 0))) (hne : g ≠ k) (x0 x1 x2 x3 : Value) : ∀ j, ((((w.setCell ⟨k, 0, none⟩ x0).setCell ⟨k, 1, none⟩ x1).setCell ⟨k, 2, none⟩ x2).setCell ⟨k, 3, none⟩ x3).cell? ⟨g, j, none⟩ = cs[j]? :=
  rowc (t := t) ((set4_other hne x0 x1 x2 x3).trans hg)
theorem rowc_set4d {w : World} {g k : Nat} {cs : Array Value} {t : TypeId} (hg : w.heap[g]? = some (.cells cs t (0, 0))) (hne : g ≠ k) (x0 x1 x2 x3 : Value) : ∀ j, ((((w.setCell ⟨k, 0, none⟩ x0).setCell ⟨k, 1, none⟩ x1).setCell ⟨k, 2, none⟩ x2).setCell ⟨k, 3, none⟩ x3).drew.cell? ⟨g, j, none⟩ = cs[j]? := fun j => (cell_drew _ _).trans (rowc_set4 hg hne x0 x1 x2 x3 j)
theorem rowc_set4_self {w : World} {g : Nat} {cs : Array Value} {t : TypeId} (hg : w.heap[g]? = some (.cells cs t (0, 0))) (hsz : cs.size = 4) (x0 x1 x2 x3 : Value) : ∀ j, ((((w.setCell ⟨g, 0, none⟩ x0).setCell ⟨g, 1, none⟩ x1).setCell ⟨g, 2, none⟩ x2).setCell ⟨g, 3, none⟩ x3).cell? ⟨g, j, none⟩ = (#[x0, x1, x2, x3] : Array Value)[j]? :=
  rowc (row_set4 hg hsz x0 x1 x2 x3)
theorem rowc_set4_selfd {w : World} {g : Nat} {cs : Array Value} {t : TypeId} (hg : w.heap[g]? = some (.cells cs t (0, 0))) (hsz : cs.size = 4) (x0 x1 x2 x3 : Value) : ∀ j, ((((w.setCell ⟨g, 0, none⟩ x0).setCell ⟨g, 1, none⟩ x1).setCell ⟨g, 2, none⟩ x2).setCell ⟨g, 3, none⟩ x3).drew.cell? ⟨g, j, none⟩ = (#[x0, x1, x2, x3] : Array Value)[j]? := fun j => (cell_drew _ _).trans (rowc_set4_self hg hsz x0 x1 x2 x3 j)
theorem below_set4 {w : World} {B : Nat} {a : World} (h : Below B a w) (g : Nat) (hg : B ≤ g) (x0 x1 x2 x3 : Value) : Below B a ((((w.setCell ⟨g, 0, none⟩ x0).setCell ⟨g, 1, none⟩ x1).setCell ⟨g, 2, none⟩ x2).setCell ⟨g, 3, none⟩ x3) := (((h.setCell hg x0).setCell hg x1).setCell hg x2).setCell hg x3
end Go.Proofs.YtdfbfhgjpihkiaaDoor
