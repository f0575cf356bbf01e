/- (*strings.Builder).String at whatever builder: what other blocks hold stays. -/
import Derived.Test.YthilhooomlhfpaaDoorBuild
import Derived.Lib.UnsafeStr
import Derived.RegionTactic
namespace Go.Proofs.YthilhooomlhfpaaDoor
set_option linter.unusedVariables false
open Go Go.RowKit

set_option maxRecDepth 100000 in
set_option maxHeartbeats 1000000 in
theorem builderString_kept (B b : Nat) (l : List UInt8) (w : World) (h : BuildAt B b l w) (hBw : B ≤ w.heap.size) :
    Calls Tryd.prog 108 #[.pointer (some ⟨b, 0, none⟩)] w fun e w' => e = .returned (.string ⟨l.toArray⟩) ∧ Below B w w' ∧ Lib.OthersKept 5 none w w' := by
  obtain ⟨p, hB, v, hbk, hown, hne⟩ : ∃ p, Lib.BuilderAt 169 5 B b p (l.map byteV) w := by
    rcases h with h | h
    · exact ⟨_, h⟩
    · exact ⟨_, h⟩
  rw [List.length_map] at hown
  have c1 : w.cell? ⟨b, 1, none⟩ = some v := by rw [Lib.cell_of_heap hbk]; rfl
  have hblt : b < w.heap.size := (Array.getElem?_eq_some_iff.1 hbk).1
  rcases hown.2 with ⟨rfl, h0⟩ | ⟨g, cap, cur, rfl, hBg, hg, hnc, hcm, hcs, htk⟩
  · obtain rfl := List.eq_nil_of_length_eq_zero h0
    have hsd : ∀ w, (Builtin.unsafeSliceData_ #[78] 205 #[.slice none 0 0]).run Tryd.prog w = .ok (.pointer none) w := fun w => by kernel_rfl
    have hus : ∀ w, (Builtin.unsafeString_ #[205, 3] 9 #[.pointer none, .int .i64 0]).run Tryd.prog w = .ok (.string ⟨#[]⟩) w := fun w => by kernel_rfl
    clear hown hbk h hne
    go_enter Tryd.func108, Tryd.ntmps108
    go_wp2_with fail
    go_region
    all_goals
      go_wp2_with fail
      go_ret
      exact ⟨rfl, (Below.refl _ _).drew, (Lib.OthersKept.refl _ _ _).drew⟩
  · have hcell : ∀ j x, l[j]? = some x → w.drew.cell? ((⟨g, 0, none⟩ : Addr).add j) = some (.int .u8 (x.toNat : Int)) := fun j x hx => by
      have := hown.cells (g := g) rfl j (byteV x) (by simp [hx])
      exact this
    have hsh : w.drew.shape? g = some (5, cur.size) := by
      have hg' : w.drew.heap[g]? = some (.cells cur 5 (0, 0)) := hg
      simp [World.shape?, hg']
    have H := Lib.hid hcell; have Hg := Lib.hid hg
    clear hcell
    by_cases h0 : l = []
    · subst h0
      have hus : ∀ w q, (Builtin.unsafeString_ #[205, 3] 9 #[.pointer q, .int .i64 0]).run Tryd.prog w = .ok (.string .empty) w := fun w q => Lib.run_unsafeString_none w _ _ _ q
      by_cases hc0 : cap = 0
      · subst hc0
        have hsd : (Builtin.unsafeSliceData_ #[78] 205 #[.slice (some ⟨g, 0, none⟩) 0 0]).run Tryd.prog w.drew = .ok (.pointer (some ⟨w.drew.heap.size, 0, none⟩)) (w.drew.alloc (.view ⟨g, 0, none⟩ 5)) :=
          Lib.run_unsafeSliceData_zero w.drew _ _ 5 Tryd.underlying205 ⟨g, 0, none⟩ 0 _ hsh
        have c2 : (w.drew.alloc (.view ⟨g, 0, none⟩ 5)).cell? ⟨b, 1, none⟩ = some (.slice (some ⟨g, 0, none⟩) 0 0) := by
          have : (w.drew.alloc (.view ⟨g, 0, none⟩ 5)).heap[b]? = _ := (Lib.alloc_old w.drew _ b hblt).trans hbk
          rw [Lib.cell_of_heap this]; rfl
        have c3 : (w.alloc (.view ⟨g, 0, none⟩ 5)).drew.cell? ⟨b, 1, none⟩ = some (.slice (some ⟨g, 0, none⟩) 0 0) := c2
        clear hown hbk h hne hsh hg htk
        simp only [List.length_nil] at c1
        go_enter Tryd.func108, Tryd.ntmps108
        go_wp2_with fail
        go_region
        all_goals
          go_wp2_with fail
          go_ret
          exact ⟨rfl, ((Below.refl _ _).drew).alloc hBw _, ((Lib.OthersKept.refl _ _ _).drew).alloc _⟩
      · have hsd : ∀ w, (Builtin.unsafeSliceData_ #[78] 205 #[.slice (some ⟨g, 0, none⟩) 0 cap]).run Tryd.prog w = .ok (.pointer (some ⟨g, 0, none⟩)) w := fun w => Lib.run_unsafeSliceData_row w _ _ _ _ _ hc0
        clear hown hbk h hne hsh hg htk hc0
        simp only [List.length_nil] at c1
        go_enter Tryd.func108, Tryd.ntmps108
        go_wp2_with fail
        go_region
        all_goals
          go_wp2_with fail
          go_ret
          exact ⟨rfl, (Below.refl _ _).drew, (Lib.OthersKept.refl _ _ _).drew⟩
    · have hl0 : l.length ≠ 0 := by simpa using h0
      have hsd : ∀ w, (Builtin.unsafeSliceData_ #[78] 205 #[.slice (some ⟨g, 0, none⟩) l.length cap]).run Tryd.prog w = .ok (.pointer (some ⟨g, 0, none⟩)) w := fun w => Lib.run_unsafeSliceData_row w _ _ _ _ _ (by omega)
      have hus : (Builtin.unsafeString_ #[205, 3] 9 #[.pointer (some ⟨g, 0, none⟩), .int .i64 l.length]).run Tryd.prog w.drew = .ok (.string ⟨l.toArray⟩) (w.drew.freeze ⟨g, 0, none⟩ l.length) :=
        Lib.run_unsafeString_row w.drew 205 3 9 5 Tryd.underlying205 (by kernel_rfl) g cur.size hsh l h0 (by omega) (by unfold maxLen at hcm; omega) H.out
      clear hown hbk h hne hsh hg htk h0 hl0
      go_enter Tryd.func108, Tryd.ntmps108
      go_wp2_with fail
      go_region
      all_goals
        go_wp2_with fail
        go_ret
        exact ⟨rfl, Lib.below_freeze (Below.drew (Below.refl _ _)) (p := ⟨g, 0, none⟩) hBg _, ((Lib.OthersKept.refl _ _ _).drew).freeze _ _ ⟨cur, _, Hg.out⟩⟩
end Go.Proofs.YthilhooomlhfpaaDoor
