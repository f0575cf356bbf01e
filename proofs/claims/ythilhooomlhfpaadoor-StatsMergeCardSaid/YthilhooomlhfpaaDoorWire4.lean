/- Chapter 1 in plain Lean: reading numbers and texts. -/
import Derived.Test.YthilhooomlhfpaaDoorWire1
namespace Go.Proofs.YthilhooomlhfpaaDoor

/-- a number from place i on: the number, how many bytes in all -/
def rdU : Nat → List UInt8 → Nat → Option (Nat × Nat)
  | _, [], _ => none
  | i, c :: r, acc =>
    if 10 ≤ i ∨ (i = 9 ∧ 1 < c.toNat) ∨ (c.toNat = 0 ∧ 0 < i) then none
    else if c.toNat < 128 then some (acc + c.toNat * 128 ^ i, i + 1)
    else rdU (i + 1) r (acc + c.toNat % 128 * 128 ^ i)
def readU (s : List UInt8) : Option (Nat × Nat) := rdU 0 s 0

theorem rdU_lt : ∀ (s : List UInt8) (i acc n k : Nat), acc < 128 ^ i → rdU i s acc = some (n, k) → n < 18446744073709551616 ∧ i < k ∧ k ≤ i + s.length ∧ k ≤ 10
  | [], _, _, _, _, _, h => by simp [rdU] at h
  | c :: r, i, acc, n, k, ha, h => by
    rw [rdU] at h
    split at h
    · cases h
    · rename_i hc
      have hc9 : ¬ 10 ≤ i := fun h => hc (.inl h)
      have hpow : (128 : Nat) ^ i ≤ 9223372036854775808 := Nat.le_trans (Nat.pow_le_pow_right (by decide) (show i ≤ 9 by omega)) (by decide)
      split at h
      · simp only [Option.some.injEq, Prod.mk.injEq] at h
        obtain ⟨rfl, rfl⟩ := h
        refine ⟨?_, by omega, by simp, by omega⟩
        by_cases h9 : i = 9
        · have : c.toNat ≤ 1 := by
            rcases Nat.lt_or_ge 1 c.toNat with h1 | h1
            · exact absurd (.inr (.inl ⟨h9, h1⟩)) hc
            · exact h1
          have h3 : c.toNat * 128 ^ i ≤ 1 * 128 ^ i := Nat.mul_le_mul_right _ this
          omega
        · have h2 : (128 : Nat) ^ i * 128 ≤ 9223372036854775808 := by
            rw [← Nat.pow_succ]; exact Nat.le_trans (Nat.pow_le_pow_right (by decide) (show i + 1 ≤ 9 by omega)) (by decide)
          have h3 : c.toNat * 128 ^ i ≤ 127 * 128 ^ i := Nat.mul_le_mul_right _ (by omega)
          omega
      · have hacc : acc + c.toNat % 128 * 128 ^ i < 128 ^ (i + 1) := by
          have h3 : c.toNat % 128 * 128 ^ i ≤ 127 * 128 ^ i := Nat.mul_le_mul_right _ (by omega)
          rw [Nat.pow_succ]; omega
        have := rdU_lt r (i + 1) _ n k hacc h
        refine ⟨this.1, by omega, ?_, this.2.2.2⟩
        have h4 := this.2.2.1
        simp; omega
theorem readU_lt {s : List UInt8} {n k : Nat} (h : readU s = some (n, k)) : n < 18446744073709551616 ∧ 0 < k ∧ k ≤ s.length ∧ k ≤ 10 := by
  have := rdU_lt s 0 0 n k (by decide) h
  omega

/-- what is written is read, with whatever behind it -/
theorem rdU_seven (r : List UInt8) (m : Nat) : ∀ (i acc : Nat), (m = 0 → i = 0) → m * 128 ^ i < 18446744073709551616 → i ≤ 9 → rdU i (seven m ++ r) acc = some (acc + m * 128 ^ i, i + (seven m).length) := by
  induction m using Nat.strongRecOn with
  | _ m ih =>
    intro i acc h0 hm hi
    by_cases hlt : m < 128
    · rw [seven_lt hlt, List.cons_append, rdU, UInt8.toNat_ofNat', Nat.mod_eq_of_lt (show m < 2 ^ 8 by omega), if_neg, if_pos hlt]
      · simp
      · rintro (h | ⟨rfl, h⟩ | ⟨h, h'⟩)
        · omega
        · have h2 : 2 * 128 ^ 9 ≤ m * 128 ^ 9 := Nat.mul_le_mul_right _ h
          omega
        · omega
    · rw [seven_ge (n := m) (by omega), List.cons_append, rdU, UInt8.toNat_ofNat', Nat.mod_eq_of_lt (show m % 128 + 128 < 2 ^ 8 by omega), if_neg, if_neg (by omega)]
      · have e : m * 128 ^ i = m % 128 * 128 ^ i + m / 128 * 128 ^ (i + 1) := by
          rw [Nat.pow_succ, Nat.mul_comm (128 ^ i) 128, ← Nat.mul_assoc, ← Nat.add_mul]
          congr 1; omega
        have h8 : i ≤ 8 := by
          rcases Nat.lt_or_ge i 9 with h | h
          · omega
          · have : i = 9 := by omega
            subst this
            have h2 : 128 * 128 ^ 9 ≤ m * 128 ^ 9 := Nat.mul_le_mul_right _ (by omega)
            omega
        rw [ih (m / 128) (by omega) (i + 1) _ (fun h => by omega) (by omega) (by omega)]
        rw [show (m % 128 + 128) % 128 = m % 128 by omega, Option.some.injEq, Prod.mk.injEq, List.length_cons]
        constructor
        · rw [e]; omega
        · omega
      · rintro (h | ⟨h9, h⟩ | ⟨h, h'⟩)
        · omega
        · subst h9
          have h2 : 128 * 128 ^ 9 ≤ m * 128 ^ 9 := Nat.mul_le_mul_right _ (by omega)
          omega
        · omega
theorem readU_seven (n : Nat) (h : n < 18446744073709551616) (r : List UInt8) : readU (seven n ++ r) = some (n, (seven n).length) := by
  have := rdU_seven r n 0 0 (fun _ => rfl) (by simpa using h) (by decide)
  simpa [readU] using this

/-- the sign back -/
def unzig (u : Nat) : Int := if u % 2 = 1 then -((u / 2 : Nat) : Int) - 1 else ((u / 2 : Nat) : Int)
theorem unzig_zig (n : Int) : unzig (zig n) = n := by
  unfold unzig zig
  split <;> split <;> omega
theorem unzig_lt {u : Nat} (h : u < 18446744073709551616) : -9223372036854775808 ≤ unzig u ∧ unzig u < 9223372036854775808 := by
  unfold unzig; split <;> omega
def readV (s : List UInt8) : Option (Int × Nat) := (readU s).map fun x => (unzig x.1, x.2)

/-- bytes behind their length -/
def textOf (s : List UInt8) : List UInt8 := seven s.length ++ s
def readT (s : List UInt8) : Option (List UInt8 × Nat) :=
  match readU s with
  | none => none
  | some (n, k) => if n ≤ 200000 ∧ k + n ≤ s.length then some ((s.drop k).take n, k + n) else none
theorem readT_text (a r : List UInt8) (h : a.length ≤ 200000) : readT (textOf a ++ r) = some (a, (textOf a).length) := by
  unfold readT textOf
  rw [List.append_assoc, readU_seven _ (by omega)]
  simp only [List.length_append]
  rw [if_pos ⟨h, by omega⟩]
  simp
end Go.Proofs.YthilhooomlhfpaaDoor
