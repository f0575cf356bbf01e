/- The walk of enc.Delta at right numbers. -/
import Derived.Test.YtddefnnimbjnaaaDoorDel1
import Derived.Test.YtddefnnimbjnaaaDoorEncW5
import Derived.Test.YtddefnnimbjnaaaDoorBitsW4
import Derived.Deep.RegionHeld3
import Derived.Deep.RegionWith
import Derived.Deep.AppendLies
namespace Go.Proofs.YtddefnnimbjnaaaDoor
set_option linter.unusedVariables false
open Go Go.RowKit Go.ChangeShapes

theorem info_i64 : (Tryd.prog.info? 2).map (fun i => (i.zero, i.size, i.bytes)) = some (some (.int .i64 0), 1, 8) := by kernel_rfl
def numsI (l : List Val) : List Int := l.map (·.n)
theorem numsI_at (l : List Val) (i : Nat) (h : i < l.length) : (numsI l).getD i 0 = l[i].n := by
  unfold numsI
  rw [List.getD_eq_getElem?_getD, List.getElem?_map, List.getElem?_eq_getElem h]; rfl

theorem first_below {w w8 : World} (h : Below w.drew.heap.size w.drew w8) : Below w.heap.size w w8 := (Below.refl w.heap.size w).drew.trans (h.mono (Nat.le_refl _))
theorem first_below_alloc {w w8 : World} {o : Obj} (h : Below (w.alloc o).drew.heap.size (w.alloc o).drew w8) : Below w.heap.size w w8 := (((Below.refl w.heap.size w).alloc (Nat.le_refl _) _).drew).trans (h.mono (by simp))

theorem first_cell_alloc {w w8 : World} {n : Value} {T : TypeId} (h : Below (w.alloc (.cells #[n] T)).drew.heap.size (w.alloc (.cells #[n] T)).drew w8) : w8.cell? ⟨w.heap.size, 0, none⟩ = some n := by
  rw [h.cell (p := ⟨w.heap.size, 0, none⟩) (by simp)]
  show (w.alloc (.cells #[n] T)).cell? _ = _
  rw [World.cell?_alloc_at _ _ _ _ rfl]; rfl
theorem run_byte_at {w : World} {b n : Nat} (h : n < 256) (hc : w.cell? ⟨b, 0, none⟩ = some (.int .u8 (n : Int))) :
    (convert 76 9 (.slice (some ⟨b, 0, none⟩) 1 1)).run Tryd.prog w = .ok (.string ⟨#[UInt8.ofNat n]⟩) w := by
  refine run_convert_bytes_back w 76 9 5 _ 1 [UInt8.ofNat n] Tryd.underlying76 Tryd.underlying5 Tryd.underlying9 fun j hj => ?_
  have : j = 0 := by simpa using hj
  subst this
  rw [Addr.add_lit, Nat.zero_add, hc]
  simp [UInt8.toNat_ofNat', Nat.mod_eq_of_lt h]
end Go.Proofs.YtddefnnimbjnaaaDoor
