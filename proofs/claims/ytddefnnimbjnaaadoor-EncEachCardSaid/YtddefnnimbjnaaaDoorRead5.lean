/- Chapter 3 in plain Lean: what values bytes are, by unlike ones and their places: case by case. -/
import Derived.Test.YtddefnnimbjnaaaDoorRead4
namespace Go.Proofs.YtddefnnimbjnaaaDoor
set_option linter.unusedVariables false
open Go

theorem readR_len2 (wd : Nat) : ∀ (n left : Nat) (s : List UInt8) (L : List Nat) (k : Nat), left = n → readR wd left s = some (L, k) → L.length = left := by
  intro n
  induction n using Nat.strongRecOn with
  | _ n ih =>
    intro left s L k hn h
    by_cases h0 : left = 0
    · subst h0
      rw [readR_zero] at h
      injection h with h
      injection h with h1 h2
      subst h1; rfl
    · have hl : 0 < left := by omega
      cases hU : readU s with
      | none => rw [readR_none wd left s hl hU] at h; cases h
      | some y =>
        obtain ⟨g, kk⟩ := y
        by_cases hb : g < 2 ∨ left < g / 2
        · rw [readR_bad wd left g kk s hl hU hb] at h; cases h
        · by_cases hp : g % 2 = 0
          · by_cases h3 : (s.drop kk).length < sizeB wd ∨ 2 ^ wd ≤ unlittle ((s.drop kk).take (sizeB wd))
            · rw [readR_even_bad wd left g kk s hl hU hb hp h3] at h; cases h
            · rw [readR_even wd left g kk s hl hU hb hp h3] at h
              cases hr : readR wd (left - g / 2) (s.drop (kk + sizeB wd)) with
              | none => rw [hr] at h; cases h
              | some x =>
                obtain ⟨M, m⟩ := x
                have := ih (left - g / 2) (by omega) _ _ M m rfl hr
                rw [hr] at h
                injection h with h
                injection h with h1 h2
                rw [← h1, List.length_append, List.length_replicate, this]
                omega
          · by_cases h3 : (s.drop kk).length < g / 2 * wd ∨ left + 8 ≤ 8 * (g / 2) ∨ ¬ ∀ x ∈ (getAll (unlittle (s.drop kk)) wd (8 * (g / 2))).drop left, x = 0
            · rw [readR_odd_bad wd left g kk s hl hU hb (by omega) h3] at h; cases h
            · rw [readR_odd wd left g kk s hl hU hb (by omega) h3] at h
              cases hr : readR wd (left - 8 * (g / 2)) (s.drop (kk + g / 2 * wd)) with
              | none => rw [hr] at h; cases h
              | some x =>
                obtain ⟨M, m⟩ := x
                have := ih (left - 8 * (g / 2)) (by omega) _ _ M m rfl hr
                rw [hr] at h
                injection h with h
                injection h with h1 h2
                rw [← h1, List.length_append, List.length_take, getAll_len, this]
                omega

theorem readDi_1 {kind : Int} {s : List UInt8} {n : Nat} (h : readU s = none) : readDi kind s n = none := by unfold readDi; rw [h]
theorem readDi_2 {kind : Int} {s : List UInt8} {n many u : Nat} (h : readU s = some (many, u)) (h2 : n < many) : readDi kind s n = none := by
  unfold readDi; rw [h]; simp only []; rw [if_pos h2]
theorem readDi_3 {kind : Int} {s : List UInt8} {n many u : Nat} (h : readU s = some (many, u)) (h2 : ¬ n < many) (h3 : readT (s.drop u) = none) : readDi kind s n = none := by
  unfold readDi; rw [h]; simp only []; rw [if_neg h2, h3]
theorem readDi_4 {kind : Int} {s t : List UInt8} {n many u m : Nat} (h : readU s = some (many, u)) (h2 : ¬ n < many) (h3 : readT (s.drop u) = some (t, m)) (h4 : readP kind t many = none) : readDi kind s n = none := by
  unfold readDi; rw [h]; simp only []; rw [if_neg h2, h3]; simp only []; rw [h4]
theorem readDi_5 {kind : Int} {s t : List UInt8} {n many u m : Nat} {us : List Val} (h : readU s = some (many, u)) (h2 : ¬ n < many) (h3 : readT (s.drop u) = some (t, m)) (h4 : readP kind t many = some us) (h5 : readR (placeW many) n (s.drop (u + m)) = none) : readDi kind s n = none := by
  unfold readDi; rw [h]; simp only []; rw [if_neg h2, h3]; simp only []; rw [h4]; simp only []; rw [List.drop_drop, h5]
theorem readDi_6 {kind : Int} {s t : List UInt8} {n many u m k : Nat} {us : List Val} {ps : List Nat} (h : readU s = some (many, u)) (h2 : ¬ n < many) (h3 : readT (s.drop u) = some (t, m)) (h4 : readP kind t many = some us) (h5 : readR (placeW many) n (s.drop (u + m)) = some (ps, k)) :
    readDi kind s n = if k = (s.drop (u + m)).length ∧ (∀ p ∈ ps, p < us.length) ∧ sameB (unlikeV [] (ps.map fun p => us.getD p zeroV)) us = true then some (ps.map fun p => us.getD p zeroV) else none := by
  unfold readDi; rw [h]; simp only []; rw [if_neg h2, h3]; simp only []; rw [h4]; simp only []; rw [List.drop_drop, h5]
theorem sameB_len : ∀ {a b : List Val}, a.length ≠ b.length → sameB a b = false := by
  intro a b h
  cases hs : sameB a b with
  | false => rfl
  | true => exact absurd (congrArg List.length ((sameB_iff a b).1 hs)) h
theorem sameB_at {a b : List Val} {j : Nat} {x y : Val} (hx : a[j]? = some x) (hy : b[j]? = some y) (h : valEq x y = false) : sameB a b = false := by
  cases hs : sameB a b with
  | false => rfl
  | true =>
    have e := (sameB_iff a b).1 hs
    subst e
    have := hx.symm.trans hy
    obtain rfl := Option.some.inj this
    rw [(valEq_iff x x).2 rfl] at h
    cases h
theorem sameB_all {a b : List Val} (hl : a.length = b.length) (h : ∀ (j : Nat) (x y : Val), a[j]? = some x → b[j]? = some y → x = y) : sameB a b = true := by
  refine (sameB_iff a b).2 (List.ext_getElem hl fun j h1 h2 => h j _ _ (List.getElem?_eq_getElem h1) (List.getElem?_eq_getElem h2))
end Go.Proofs.YtddefnnimbjnaaaDoor
