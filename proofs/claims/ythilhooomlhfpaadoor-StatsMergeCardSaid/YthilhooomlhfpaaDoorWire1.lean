/- Chapter 1 in plain Lean: numbers as bytes. -/
namespace Go.Proofs.YthilhooomlhfpaaDoor

/-- 7 bits a byte, the lowest first -/
def seven (n : Nat) : List UInt8 := if n < 128 then [UInt8.ofNat n] else UInt8.ofNat (n % 128 + 128) :: seven (n / 128)
termination_by n

theorem seven_lt {n : Nat} (h : n < 128) : seven n = [UInt8.ofNat n] := by rw [seven, if_pos h]
theorem seven_ge {n : Nat} (h : 128 ≤ n) : seven n = UInt8.ofNat (n % 128 + 128) :: seven (n / 128) := by rw [seven, if_neg (by omega)]
theorem seven_pos (n : Nat) : 0 < (seven n).length := by rw [seven]; split <;> simp
theorem seven_len_le (k : Nat) : ∀ n, n < 128 ^ (k + 1) → (seven n).length ≤ k + 1 := by
  induction k with
  | zero => intro n h; rw [seven_lt (by simpa using h)]; simp
  | succ k ih =>
    intro n h
    by_cases hn : n < 128
    · rw [seven_lt hn]; simp
    · rw [seven_ge (by omega)]
      have := ih (n / 128) (by rw [Nat.div_lt_iff_lt_mul (by omega)]; rw [Nat.pow_succ] at h; exact h)
      simp; omega
theorem seven_len {n : Nat} (h : n < 18446744073709551616) : (seven n).length ≤ 10 := seven_len_le 9 n (Nat.lt_of_lt_of_le h (by decide))

theorem ofNat_inj {a b : Nat} (ha : a < 256) (hb : b < 256) (h : UInt8.ofNat a = UInt8.ofNat b) : a = b := by
  have := congrArg UInt8.toNat h
  rwa [UInt8.toNat_ofNat', UInt8.toNat_ofNat', Nat.mod_eq_of_lt ha, Nat.mod_eq_of_lt hb] at this
/-- no number's bytes begin another one's -/
theorem seven_prefix (b : Nat) : ∀ a, (∃ r, seven a ++ r = seven b) → a = b := by
  induction b using Nat.strongRecOn with
  | _ b ih =>
    intro a ⟨r, h⟩
    by_cases ha : a < 128 <;> by_cases hb : b < 128
    · rw [seven_lt ha, seven_lt hb] at h
      simp only [List.cons_append, List.nil_append, List.cons.injEq] at h
      exact ofNat_inj (by omega) (by omega) h.1
    · rw [seven_lt ha, seven_ge (n := b) (by omega)] at h
      simp only [List.cons_append, List.nil_append, List.cons.injEq] at h
      have := ofNat_inj (by omega) (by omega) h.1
      omega
    · rw [seven_ge (n := a) (by omega), seven_lt hb] at h
      simp only [List.cons_append, List.cons.injEq] at h
      have := ofNat_inj (by omega) (by omega) h.1
      omega
    · rw [seven_ge (n := a) (by omega), seven_ge (n := b) (by omega)] at h
      simp only [List.cons_append, List.cons.injEq] at h
      have h1 := ofNat_inj (by omega) (by omega) h.1
      have h2 := ih (b / 128) (by omega) (a / 128) ⟨r, h.2⟩
      omega

/-- a number with a sign as one without -/
def zig (n : Int) : Nat := if n < 0 then ((-n - 1) * 2 + 1).toNat else (n * 2).toNat
theorem zig_lt {n : Int} (h0 : -9223372036854775808 ≤ n) (h1 : n < 9223372036854775808) : zig n < 18446744073709551616 := by unfold zig; split <;> omega
end Go.Proofs.YthilhooomlhfpaaDoor
