/- Chapter 3 in plain Lean: what texts bytes are, by what they have in common. -/
import Derived.Test.YtddefnnimbjnaaaDoorMPlain
import Derived.Test.YtddefnnimbjnaaaDoorMPre
namespace Go.Proofs.YtddefnnimbjnaaaDoor
set_option linter.unusedVariables false
open Go

/-- n texts behind one -/
def prefixP : List UInt8 → Nat → List UInt8 → Option (List (List UInt8))
  | _, 0, _ => some []
  | last, n + 1, s => match readU s with
    | none => none
    | some (k, u) => if last.length < k then none else match readT (s.drop u) with
      | none => none
      | some (t, m) => if 100 < k + t.length then none else (prefixP (last.take k ++ t) n ((s.drop u).drop m)).map ((last.take k ++ t) :: ·)
/-- n texts, by what they have in common, and nothing else -/
def readX (s : List UInt8) (n : Nat) : Option (List (List UInt8)) :=
  match prefixP [] n s with
  | none => none
  | some L => if prefixB [] L = s then some L else none

theorem prefixP_inv : ∀ (n : Nat) (last s : List UInt8) (L : List (List UInt8)), prefixP last n s = some L → L.length = n ∧ ∀ x ∈ L, x.length ≤ 100
  | 0, last, s, L, h => by
    obtain rfl := Option.some.inj h
    simp
  | n + 1, last, s, L, h => by
    unfold prefixP at h
    split at h
    · cases h
    · rename_i k u hu
      split at h
      · cases h
      · rename_i hk
        split at h
        · cases h
        · rename_i t m ht
          split at h
          · cases h
          · rename_i h100
            cases hr : prefixP (last.take k ++ t) n ((s.drop u).drop m) with
            | none => rw [hr] at h; cases h
            | some L' =>
              rw [hr] at h
              obtain rfl := Option.some.inj h
              obtain ⟨h1, h2⟩ := prefixP_inv n _ _ L' hr
              refine ⟨by rw [List.length_cons, h1], fun x hx => ?_⟩
              rcases List.mem_cons.1 hx with rfl | hx
              · rw [List.length_append, List.length_take]; omega
              · exact h2 x hx
theorem readX_inv {s : List UInt8} {n : Nat} {L : List (List UInt8)} (h : readX s n = some L) : prefixB [] L = s ∧ L.length = n ∧ ∀ x ∈ L, x.length ≤ 100 := by
  unfold readX at h
  split at h
  · cases h
  · rename_i L' hp
    split at h
    · rename_i he
      obtain rfl := Option.some.inj h
      exact ⟨he, prefixP_inv n _ _ _ hp⟩
    · cases h
theorem lcp_take : ∀ x y : List UInt8, y.take (lcp x y) = x.take (lcp x y)
  | [], y => by simp [lcp]
  | _ :: _, [] => by simp [lcp]
  | a :: x, b :: y => by
    unfold lcp
    split
    · subst_vars
      rw [List.take_succ_cons, List.take_succ_cons, lcp_take x y]
    · rfl
theorem prefixP_prefix : ∀ (L : List (List UInt8)) (last : List UInt8), (∀ x ∈ L, x.length ≤ 100) → prefixP last L.length (prefixB last L) = some L
  | [], last, _ => rfl
  | s :: L, last, h => by
    have hs := h s (by simp)
    have ih := prefixP_prefix L s fun x hx => h x (by simp [hx])
    have hl := lcp_le s last
    have hu := readU_seven (lcp s last) (by omega) (textOf (s.drop (lcp s last)) ++ prefixB s L)
    have ht := readT_text (s.drop (lcp s last)) (prefixB s L) (by rw [List.length_drop]; omega)
    have e : prefixB last (s :: L) = seven (lcp s last) ++ (textOf (s.drop (lcp s last)) ++ prefixB s L) := by
      rw [prefixB, onePre, List.append_assoc]
    rw [e, List.length_cons]
    unfold prefixP
    rw [hu]
    simp only []
    rw [if_neg (by omega), List.drop_left, ht]
    simp only []
    rw [if_neg (by rw [List.length_drop]; omega), List.drop_left, lcp_take, List.take_append_drop, ih]
    rfl
theorem readX_prefix (L : List (List UInt8)) (h : ∀ x ∈ L, x.length ≤ 100) : readX (prefixB [] L) L.length = some L := by
  unfold readX
  rw [prefixP_prefix L [] h]
  simp only [if_true]
end Go.Proofs.YtddefnnimbjnaaaDoor
