/- The closed fact two of the statements of chapter 9. -/
import Derived.Test.YthilhooomlhfpaaDoorStOf
import Derived.Test.YthilhooomlhfpaaDoorEnv
namespace Go.Proofs.YthilhooomlhfpaaDoor
set_option linter.unusedVariables false
open Go Go.RowKit Go.ChangeShapes

def twoF : Lf := ⟨1, 2, 0, 0, []⟩
def twoC : Col := ⟨1, [0, 0], [0, 0], [⟨2, 2, ⟨#[]⟩⟩, ⟨2, 1, ⟨#[]⟩⟩]⟩
theorem two_known : knownSt twoC = ⟨2, 0, true, ⟨2, 1, ⟨#[]⟩⟩, ⟨2, 2, ⟨#[]⟩⟩⟩ := by
  simp [knownSt, twoC, loOf, hiOf, pickLo, pickHi, Val.less]
theorem two_err : colErr twoF twoC false = .nil := by kernel_rfl
theorem isInts_row (l : List Int) (w : World) (b : Nat) (t : TypeId) (h : w.heap[b]? = some (.cells (l.map fun x => Value.int .i64 x).toArray t (0, 0))) : IsInts w (.slice (some ⟨b, 0, none⟩) l.length l.length) l := by
  refine .inr ⟨b, 0, l.length, rfl, row_lt h, fun j x hj => ?_⟩
  rw [rowc h, Nat.zero_add]
  simp [hj]
theorem isVals_row (l : List Val) (w : World) (b : Nat) (t : TypeId) (h : w.heap[b]? = some (.cells (l.flatMap valCells).toArray t (0, 0))) : IsVals w (.slice (some ⟨b, 0, none⟩) l.length l.length) l := by
  refine .inr ⟨b, 0, l.length, rfl, row_lt h, fun j x hj => ?_⟩
  obtain ⟨h1, h2, h3⟩ := flat_at l j x hj
  refine ⟨?_, ?_, ?_⟩
  · rw [rowc h, Nat.zero_add]; simpa using h1
  · rw [rowc h, Nat.zero_add]; simpa using h2
  · rw [rowc h, Nat.zero_add]; simpa using h3
theorem two_fo : twoF.Ok := ⟨by decide, by decide, by decide, by decide, by decide, by decide, by decide, by decide, by simp [twoF, Fits]⟩
theorem two_co : twoC.Ok := ⟨by decide, by decide, ⟨by decide, by simp [twoC]⟩, ⟨by decide, by simp [twoC]⟩, by decide, by
  intro x hx
  simp only [twoC, List.mem_cons, List.not_mem_nil, or_false] at hx
  rcases hx with rfl | rfl <;> exact ⟨by decide, by decide, by decide, by decide, by decide⟩⟩

set_option maxRecDepth 100000 in
set_option maxHeartbeats 4000000 in
theorem two_any (w : World) (adr : Nat → Addr) (hE : ErrsAt w adr [3, 4]) : Calls Tryd.prog 11 #[] w fun e w' => e = .returned (.bool true) ∧ Below w.heap.size w w' := by
  have HE := Lib.hid hE
  clear hE
  go_enter Tryd.func11, Tryd.ntmps11
  go_wp2_with fail
  have hW := (((Below.refl w.heap.size w).alloc (Nat.le_refl _) (.cells #[.int .i64 2, .int .i64 2, .string ⟨#[]⟩, .int .i64 2, .int .i64 1, .string ⟨#[]⟩] 34)).alloc (by simp) (.cells #[.int .i64 0, .int .i64 0] 3)).alloc (by simp; omega) (.cells #[.int .i64 0, .int .i64 0] 3)
  have hR := rows3 (w := w) (A := .cells #[.int .i64 2, .int .i64 2, .string ⟨#[]⟩, .int .i64 2, .int .i64 1, .string ⟨#[]⟩] 34) (B := .cells #[.int .i64 0, .int .i64 0] 3) (C := .cells #[.int .i64 0, .int .i64 0] 3) (Below.refl _ _)
  obtain ⟨r1, r2, r3, _, _⟩ := hR
  have HC := Lib.hid (of_nil twoF twoC _ _ _ adr (HE.out.below hW) ⟨.slice none 0 0, rfl, .inl ⟨rfl, none, 0, rfl⟩⟩ ⟨_, _, _, rfl, isInts_row [0, 0] _ _ _ r2, isInts_row [0, 0] _ _ _ r3, isVals_row [⟨2, 2, ⟨#[]⟩⟩, ⟨2, 1, ⟨#[]⟩⟩] _ _ _ r1⟩ two_fo two_co two_err)
  have HW := Lib.hid hW
  clear r1 r2 r3 hW
  refine HC.out.mono ?_; rintro e w1 ⟨rfl, hb1⟩
  rw [two_known]
  have Hb1 := Lib.hid (HW.out.trans (hb1.mono HW.out.size))
  clear hb1
  unfold stA
  go_wp2_with fail
  go_ret
  exact ⟨rfl, Hb1.out.alloc Hb1.out.size _⟩
end Go.Proofs.YthilhooomlhfpaaDoor
