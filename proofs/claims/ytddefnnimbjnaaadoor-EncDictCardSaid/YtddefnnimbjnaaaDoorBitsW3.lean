/- The document's numbers in bits: the walks of Bare, Fine, BitsError, Wide, bitsOf, PackOf; and of the statement's faulted, ints. -/
import Derived.Test.YtddefnnimbjnaaaDoorBitsL1
import Derived.Test.YtddefnnimbjnaaaDoorBits2
import Derived.Test.YtddefnnimbjnaaaDoorCells
namespace Go.Proofs.YtddefnnimbjnaaaDoor
open Go Go.RowKit Go.ChangeShapes

def faultV (c p : Int) : Value := .agg #[.int .i64 c, .int .i64 p]

set_option maxRecDepth 100000 in
set_option maxHeartbeats 1000000 in
theorem fine_any (w : World) : Calls Tryd.prog 80 #[] w fun e w' => e = .returned (faultV 0 (-1)) ∧ Below w.heap.size w w' := by
  go_enter Tryd.func80, Tryd.ntmps80
  go_wp2_with fail
  refine bodyPost_ret (v := faultV 0 (-1)) (results_cell_row Tryd.results80 _ _ w.heap.size 38 _ (0, 0) _ rfl (heap_alloc_new _ _) Tryd.underlying38 rfl (by kernel_rfl)) rfl ⟨rfl, (Below.refl _ _).alloc (Nat.le_refl _) _⟩
set_option maxRecDepth 100000 in
set_option maxHeartbeats 1000000 in
theorem bare_any (c : Int) (w : World) : Calls Tryd.prog 33 #[.int .i64 c] w fun e w' => e = .returned (faultV c (-1)) ∧ Below w.heap.size w w' := by
  go_enter Tryd.func33, Tryd.ntmps33
  go_wp2_with fail
  refine bodyPost_ret (v := faultV c (-1)) (results_cell_row Tryd.results33 _ _ w.heap.size 38 _ (0, 0) _ rfl (heap_alloc_new _ _) Tryd.underlying38 rfl (by kernel_rfl)) rfl ⟨rfl, (Below.refl _ _).alloc (Nat.le_refl _) _⟩



theorem shl_one (wd : Nat) (h : wd ≤ 32) : (2 : Int) ^ wd < 9223372036854775808 ∧ 0 < (2 : Int) ^ wd := by
  have h1 : (2 : Nat) ^ wd ≤ 2 ^ 32 := Nat.pow_le_pow_right (by decide) h
  have h2 : 0 < (2 : Nat) ^ wd := Nat.pow_pos (by decide)
  have h3 : ((2 : Nat) ^ wd : Nat) = ((2 : Int) ^ wd) := by simp
  omega


end Go.Proofs.YtddefnnimbjnaaaDoor
