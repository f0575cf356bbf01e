/- The walk of data.bare. -/
import Derived.Test.YthfljcpfcnddhaaGreatDoorDw0
import Derived.BigQuiet
namespace Go.Proofs.YthfljcpfcnddhaaGreatDoor
set_option linter.unusedVariables false
set_option linter.unusedSimpArgs false
open Go Go.RowKit Go.ChangeShapes

theorem isEmpty_len {α : Type} (l : List α) : l.isEmpty = decide (l.length = 0) := by cases l <;> simp
set_option maxRecDepth 100000 in
set_option maxHeartbeats 16000000 in
theorem bare_any (d : Dt) (ul uf : Value) (a b c e : Bool) (w : World) (P : Nat → Prop) (hv : d.v.Ok) (hl : IsDts P w ul d.l) (hf : IsDts P w uf d.f) (hp : (a, b, c, e) = (true, false, false, false) ∨ (a, b, c, e) = (false, false, true, false) ∨ (a, b, c, e) = (false, true, false, false) ∨ (a, b, c, e) = (false, false, false, true)) :
    Calls Tryz.prog 73 #[.agg (dtA d ul uf), .bool a, .bool b, .bool c, .bool e] w fun r w' => r = .returned (.bool (bareB d a b c e)) ∧ Below w.heap.size w w' := by
  obtain ⟨al, cl, rfl⟩ := hl.form
  obtain ⟨af, cf, rfl⟩ := hf.form
  unfold bareB hasV
  rw [isEmpty_len, isEmpty_len]
  have hbv : (d.v.k = 0 ∧ d.v.n = 0 ∧ d.v.s = ByteArray.empty ∧ valEq d.v zeroV = true) ∨ (¬ d.v.k = 0 ∧ valEq d.v zeroV = false) ∨ (d.v.k = 0 ∧ ¬ d.v.n = 0 ∧ valEq d.v zeroV = false) ∨ (d.v.k = 0 ∧ d.v.n = 0 ∧ ¬ d.v.s.toList = [] ∧ valEq d.v zeroV = false) := by
    unfold valEq zeroV
    by_cases h1 : d.v.k = 0
    · by_cases h2 : d.v.n = 0
      · by_cases h3 : d.v.s = ByteArray.empty
        · exact .inl ⟨h1, h2, h3, by simp [h1, h2, h3]⟩
        · exact .inr (.inr (.inr ⟨h1, h2, fun h => h3 (toList_inj (by rw [h]; decide +kernel)), by simp [h1, h2, h3]⟩))
      · exact .inr (.inr (.inl ⟨h1, h2, by simp [h1, h2]⟩))
    · exact .inr (.inl ⟨h1, by simp [h1]⟩)
  generalize valEq d.v zeroV = bv at *
  have hel : (((d.l.length : Nat) : Int) == 0) = decide (d.l.length = 0) := by
    by_cases h : d.l.length = 0
    · rw [h]; rfl
    · rw [decide_eq_false h]; simpa using h
  have hef : (((d.f.length : Nat) : Int) == 0) = decide (d.f.length = 0) := by
    by_cases h : d.f.length = 0
    · rw [h]; rfl
    · rw [decide_eq_false h]; simpa using h
  generalize hnl : d.l.length = nl at *
  generalize hnf : d.f.length = nf at *
  generalize decide (nl = 0) = bl at *
  generalize decide (nf = 0) = bf at *
  unfold dtA
  generalize d.no = no at *
  generalize d.v.k = k at *
  generalize d.v.n = n at *
  generalize d.v.s = s at *
  have hw1 : Below w.heap.size w (w.alloc (.cells #[.bool no, .int .i64 k, .int .i64 n, .string s, .slice al nl cl, .slice af nf cf] 29)) := (Below.refl _ _).alloc (Nat.le_refl _) _
  have HB := Lib.hid hw1
  clear hw1 hnl hnf hl hf hv
  rcases hbv with ⟨rfl, rfl, rfl, rfl⟩ | ⟨hk, rfl⟩ | ⟨rfl, hn, rfl⟩ | ⟨rfl, rfl, hs, rfl⟩
  all_goals (rcases hp with h | h | h | h <;> (simp only [Prod.mk.injEq] at h; obtain ⟨rfl, rfl, rfl, rfl⟩ := h))
  all_goals first
    | (cases no <;> cases bl <;> cases bf <;> (go_enter Tryz.func73, Tryz.ntmps73; go_wp2_with fail; go_ret; exact ⟨rfl, HB.out⟩))
end Go.Proofs.YthfljcpfcnddhaaGreatDoor
