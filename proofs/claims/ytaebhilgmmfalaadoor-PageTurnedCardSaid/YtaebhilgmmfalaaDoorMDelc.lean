/- Merged texts: DelW2, DelW3. -/
import Derived.Test.YtaebhilgmmfalaaDoorMDela
import Derived.Test.YtaebhilgmmfalaaDoorMDelb
import Derived.Test.YtaebhilgmmfalaaDoorMDel
import Derived.Test.YtaebhilgmmfalaaDoorMRef
import Derived.Test.YtaebhilgmmfalaaDoorMBits

/- enc.Delta at whatever numbers. -/
namespace Go.Proofs.YtaebhilgmmfalaaDoor
set_option linter.unusedVariables false
open Go Go.RowKit Go.ChangeShapes

set_option maxRecDepth 100000 in
set_option maxHeartbeats 1000000 in
theorem delta_kind (kind : Int) (v : Value) (l : List Val) (w : World) (adr : Nat → Addr) (hE : ErrsAt w adr [2, 4]) (hI : IsVals w v l) (h2 : kind ≠ 2) (h3 : kind ≠ 3) :
    Calls Tryd.prog 60 #[.int .i64 kind, v] w fun e w' => e = .returned (.tuple #[.string ⟨#[]⟩, .iface 141 (.pointer (some (adr 4)))]) ∧ Below w.heap.size w w' := by
  have e4 := hE.cell 4 (by decide)
  unfold gErr at e4
  obtain ⟨ad, cap, rfl⟩ := hI.form
  have d2 : (kind != 2) = true := by simpa using h2
  have d3 : (kind != 3) = true := by simpa using h3
  clear hE hI h2 h3
  go_enter Tryd.func60, Tryd.ntmps60
  go_wp2_with fail
  go_quiet (fail)
  go_wp2_with fail
  go_ret2
  exact ⟨rfl, below_drewN (Below.refl _ _) _⟩

set_option maxRecDepth 100000 in
set_option maxHeartbeats 1000000 in
theorem delta_err (kind : Int) (hk : kind = 2 ∨ kind = 3) (v : Value) (l : List Val) (w : World) (adr : Nat → Addr) (hE : ErrsAt w adr [2, 4]) (hI : IsVals w v l) (hO : ∀ x ∈ l, x.Ok) (hn : valsErr kind l ≠ .nil) :
    Calls Tryd.prog 60 #[.int .i64 kind, v] w fun e w' => (∃ u, e = .returned (.tuple #[.string ⟨#[]⟩, u]) ∧ IsErr w' adr (valsErr kind l) u) ∧ Below w.heap.size w w' := by
  have HC := Lib.hid (check_any kind v l w adr hE hI hO)
  have HN := Lib.hid hn
  obtain ⟨ad, cap, rfl⟩ := hI.form
  clear hI hO hE hn
  rcases hk with rfl | rfl
  all_goals
    go_enter Tryd.func60, Tryd.ntmps60
    go_wp2_with fail
    refine HC.out.mono ?_; rintro e w1 ⟨⟨u, rfl, hu⟩, hb1⟩
    have HU := Lib.hid hu
    obtain ⟨T, a, rfl, hT⟩ := hu.some' HN.out
    clear hu
    rcases hT with rfl | rfl
    all_goals
      go_wp2_with fail
      go_ret2
      exact ⟨⟨_, rfl, HU.out⟩, hb1⟩

set_option maxRecDepth 100000 in
set_option maxHeartbeats 1000000 in
theorem delta_nil (kind : Int) (hk : kind = 2 ∨ kind = 3) (v : Value) (w : World) (hI : IsVals w v []) :
    Calls Tryd.prog 60 #[.int .i64 kind, v] w fun e w' => e = .returned (.tuple #[.string ⟨#[]⟩, .nilIface]) ∧ Below w.heap.size w w' := by
  have HC := Lib.hid (check_vals kind v [] w hI (by omega) (by omega) (by simp) (by simp) (by simp))
  obtain ⟨ad, cap, rfl⟩ := hI.form
  clear hI
  rcases hk with rfl | rfl
  all_goals
    go_enter Tryd.func60, Tryd.ntmps60
    go_wp2_with fail
    refine HC.out.mono ?_; rintro e w1 ⟨rfl, hb1⟩
    go_wp2_with fail
    go_ret2
    exact ⟨rfl, hb1⟩

/-- Delta at right numbers -/
theorem delta_ok (kind : Int) (hk : kind = 2 ∨ kind = 3) (v : Value) (l : List Val) (w : World) (hI : IsVals w v l) (hO : ∀ x ∈ l, x.Ok) (hn : valsErr kind l = .nil) :
    Calls Tryd.prog 60 #[.int .i64 kind, v] w fun e w' => e = .returned (.tuple #[.string ⟨(deltaB (numsI l)).toArray⟩, .nilIface]) ∧ Below w.heap.size w w' := by
  obtain ⟨h1, h5, hl, hP⟩ := valsErr_nil hn
  cases l with
  | nil => exact delta_nil kind hk v w hI
  | cons a l =>
    rcases hk with h | h
    · exact delta_some2 kind h v (a :: l) w hI (by simp) hl hO hP
    · exact delta_some3 kind h v (a :: l) w hI (by simp) hl hO hP
end Go.Proofs.YtaebhilgmmfalaaDoor

/- The walk of the document's DeltaOf. -/
namespace Go.Proofs.YtaebhilgmmfalaaDoor
set_option linter.unusedVariables false
open Go Go.RowKit Go.ChangeShapes

end Go.Proofs.YtaebhilgmmfalaaDoor
