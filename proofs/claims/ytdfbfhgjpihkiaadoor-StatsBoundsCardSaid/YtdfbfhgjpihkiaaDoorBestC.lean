/- Which way is the best one: plain Lean. -/
import Derived.Test.YtdfbfhgjpihkiaaDoorMBest
namespace Go.Proofs.YtdfbfhgjpihkiaaDoor
set_option linter.unusedVariables false
open Go Go.RowKit Go.ChangeShapes

theorem tryS_cases (a : Int × List UInt8) (k : Int) (t : List UInt8) : tryS a k t = a ∨ tryS a k t = (k, t) := by
  unfold tryS; split
  · exact .inr rfl
  · exact .inl rfl
theorem tryS_le (a : Int × List UInt8) (k : Int) (t : List UInt8) : (tryS a k t).2.length ≤ t.length := by
  unfold tryS; split
  · exact Nat.le_refl _
  · rename_i h; exact Nat.le_of_not_lt h
theorem best1_cases (kind : Int) (l : List Val) : best1 kind l = (0, plainB kind l) ∨ best1 kind l = (1, dictB kind l) := tryS_cases _ _ _
theorem bestB_cases (kind : Int) (l : List Val) : bestB kind l = (0, plainB kind l) ∨ bestB kind l = (1, dictB kind l) ∨ ((kind = 2 ∨ kind = 3) ∧ bestB kind l = (2, deltaB (numsI l))) ∨ (kind = 4 ∧ bestB kind l = (3, prefixB [] (bytesL (strsV l)))) := by
  have h1 := best1_cases kind l
  unfold bestB best2
  by_cases h4 : kind = 4
  · rw [if_pos h4, if_neg (by omega)]
    rcases tryS_cases (best1 kind l) 3 (prefixB [] (bytesL (strsV l))) with h | h
    · rw [h]
      rcases h1 with h1 | h1
      · exact .inl h1
      · exact .inr (.inl h1)
    · exact .inr (.inr (.inr ⟨h4, h⟩))
  · rw [if_neg h4]
    by_cases hk : kind = 2 ∨ kind = 3
    · rw [if_pos hk]
      rcases tryS_cases (best1 kind l) 2 (deltaB (numsI l)) with h | h
      · rw [h]
        rcases h1 with h1 | h1
        · exact .inl h1
        · exact .inr (.inl h1)
      · exact .inr (.inr (.inl ⟨hk, h⟩))
    · rw [if_neg hk]
      rcases h1 with h1 | h1
      · exact .inl h1
      · exact .inr (.inl h1)
theorem bestB_le (kind : Int) (l : List Val) : (bestB kind l).2.length ≤ (plainB kind l).length ∧ (bestB kind l).2.length ≤ (dictB kind l).length ∧ (kind = 2 ∨ kind = 3 → (bestB kind l).2.length ≤ (deltaB (numsI l)).length) := by
  have a1 : (best1 kind l).2.length ≤ (plainB kind l).length := tryS_len (0, plainB kind l) 1 _
  have a2 : (best1 kind l).2.length ≤ (dictB kind l).length := tryS_le _ _ _
  have b1 : (best2 kind l).2.length ≤ (best1 kind l).2.length := by
    unfold best2; split
    · exact tryS_len _ _ _
    · exact Nat.le_refl _
  have b2 : (kind = 2 ∨ kind = 3) → (best2 kind l).2.length ≤ (deltaB (numsI l)).length := fun hk => by
    unfold best2; rw [if_pos hk]; exact tryS_le _ _ _
  have c1 : (bestB kind l).2.length ≤ (best2 kind l).2.length := by
    unfold bestB; split
    · exact tryS_len _ _ _
    · exact Nat.le_refl _
  exact ⟨by omega, by omega, fun hk => by have := b2 hk; omega⟩
end Go.Proofs.YtdfbfhgjpihkiaaDoor
