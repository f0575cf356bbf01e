/- A block that holds bytes. -/
import Derived.Test.YtaebhilgmmfalaaDoorMSum3
import Derived.Test.YtaebhilgmmfalaaDoorMRow
namespace Go.Proofs.YtaebhilgmmfalaaDoor
set_option linter.unusedVariables false
open Go Go.RowKit Go.ChangeShapes

/-- the cells of block g hold the bytes l, may be written, and lie in that block -/
def HoldsB (w : World) (g : Nat) (l : List UInt8) : Prop :=
  ∃ C t hi, w.heap[g]? = some (.cells C t (C.size, hi)) ∧ l.length ≤ C.size ∧ ∀ j (hj : j < l.length), C[j]? = some (byteV l[j])
theorem HoldsB.cell {w : World} {g : Nat} {l : List UInt8} (h : HoldsB w g l) (j : Nat) (hj : j < l.length) : w.cell? ⟨g, j, none⟩ = some (.int .u8 (l[j].toNat : Int)) := by
  obtain ⟨C, t, hi, h1, h2, h3⟩ := h
  rw [cell_of_row w g j C t _ h1, h3 j hj]; rfl
theorem HoldsB.frozen {w : World} {g : Nat} {l : List UInt8} (h : HoldsB w g l) (j : Nat) (hj : j < l.length) : w.frozen? ⟨g, j, none⟩ = false := by
  obtain ⟨C, t, hi, h1, h2, h3⟩ := h
  simp [World.frozen?, h1]; omega
theorem HoldsB.set {w : World} {g : Nat} {l : List UInt8} (h : HoldsB w g l) (j : Nat) (hj : j < l.length) (b : UInt8) : HoldsB (w.setCell ⟨g, j, none⟩ (byteV b)) g (l.set j b) := by
  obtain ⟨C, t, hi, h1, h2, h3⟩ := h
  refine ⟨C.setIfInBounds j (byteV b), t, hi, ?_, by simpa using h2, ?_⟩
  · rw [setCell_eq_setRow w g j C t _ _ h1, Array.size_setIfInBounds]; exact setRow_heap w g C _ t _ h1
  · intro i hi'
    rw [Array.getElem?_setIfInBounds, List.getElem_set]
    by_cases he : j = i
    · subst he; simp; omega
    · simp only [he, if_false]
      exact h3 i (by simpa using hi')
theorem HoldsB.of_string (w : World) (s : ByteArray) (c : Nat) (t : TypeId) : HoldsB (w.drew.alloc (.cells (bytesRow s c) t ((bytesRow s c).size, (bytesRow s c).size + 1))) w.heap.size s.data.toList := by
  have hsz : s.data.size ≤ (bytesRow s c).size := by simp [bytesRow]
  refine ⟨_, t, _, heap_alloc_new w.drew _, by simpa using hsz, fun j hj => ?_⟩
  rw [bytesRow_at s c j (by simpa using hj)]; simp [byteV]
theorem HoldsB.keep {w w' : World} {g : Nat} {l : List UInt8} (h : HoldsB w g l) (e : w'.heap[g]? = w.heap[g]?) : HoldsB w' g l := by
  obtain ⟨C, t, hi, h1, h2, h3⟩ := h
  exact ⟨C, t, hi, e.trans h1, h2, h3⟩
theorem HoldsB.lt {w : World} {g : Nat} {l : List UInt8} (h : HoldsB w g l) : g < w.heap.size := by
  obtain ⟨C, t, hi, h1, h2, h3⟩ := h
  exact row_lt h1
theorem HoldsB.below {w w' : World} {g : Nat} {l : List UInt8} (h : HoldsB w g l) (hb : Below w.heap.size w w') : HoldsB w' g l := h.keep (hb.block _ h.lt)
theorem HoldsB.drw {w : World} {g : Nat} {l : List UInt8} (h : HoldsB w g l) : HoldsB w.drew g l := h
theorem HoldsB.allc {w : World} {g : Nat} {l : List UInt8} (h : HoldsB w g l) (o : Obj) : HoldsB (w.alloc o) g l := h.keep (Lib.alloc_old w o g h.lt)
theorem HoldsB.allcd {w : World} {g : Nat} {l : List UInt8} (h : HoldsB w g l) (o : Obj) : HoldsB (w.alloc o).drew g l := h.keep (Lib.alloc_old w o g h.lt)
theorem HoldsB.conv {w : World} {g cap n : Nat} {l : List UInt8} (h : HoldsB w g l) (hn : l.length = n) {s : ByteArray} (hs : s = ⟨l.toArray⟩) : (convert 38 9 (.slice (some ⟨g, 0, none⟩) n cap)).run Tryd.prog w = .ok (.string s) w := by
  subst hn hs
  exact run_convert_bytes_back (P := Tryd.prog) w 38 9 5 ⟨g, 0, none⟩ cap l Tryd.underlying38 Tryd.underlying5 Tryd.underlying9 fun j hj => by rw [Addr.add_lit, Nat.zero_add]; exact h.cell j hj
end Go.Proofs.YtaebhilgmmfalaaDoor
