/- The walks of errors.New and of an error's text. -/
import Derived.Test.YtpfilgciimjhoaaDoorEnvT
import Derived.Test.YtpfilgciimjhoaaDoorSameN
namespace Go.Proofs.YtpfilgciimjhoaaDoor
set_option linter.unusedVariables false
open Go Go.RowKit Go.ChangeShapes

set_option maxRecDepth 100000 in
theorem errNew (s : ByteArray) (w : World) : Calls Tryd.prog 7 #[.string s] w fun e w' => e = .returned (.iface 40 (.pointer (some ⟨w.heap.size, 0, none⟩))) ∧ w' = w.alloc (.cells #[.string s] 42) := by
  go_enter Tryd.func7, Tryd.ntmps7
  go_wp2_with fail
  go_ret
  exact ⟨rfl, rfl⟩
set_option maxRecDepth 100000 in
theorem errError (a : Addr) (s : ByteArray) (w : World) (h : w.cell? a = some (.string s)) : Calls Tryd.prog 37 #[.pointer (some a)] w fun e w' => e = .returned (.string s) ∧ w' = w := by
  have ha : (Addr.add a 0) = a := by simp [Addr.add]
  go_enter Tryd.func37, Tryd.ntmps37
  go_wp2_with fail
  go_ret
  exact ⟨rfl, rfl⟩
theorem nil_ahead (a : Addr) (w : World) : (nilAhead 201 40 (.pointer (some a)) "Error").run Tryd.prog w = .ok (some false) w := by kernel_rfl
theorem method_Error (v : Value) (w : World) : (Go.method 201 40 v "Error").run Tryd.prog w = .ok (37, v) w := by kernel_rfl
end Go.Proofs.YtpfilgciimjhoaaDoor
