/- Chapter 1 in plain Lean: the remainder of bytes, bit by bit. -/
namespace Go.Proofs.Ytehklkmnbhgebaa

/-- one bit -/
def crcBit (c : Nat) : Nat := if c % 2 = 1 then (c / 2) ^^^ 3988292384 else c / 2
/-- so many bits -/
def crcN : Nat → Nat → Nat
  | 0, c => c
  | k + 1, c => crcN k (crcBit c)
def crcStep (c : Nat) (b : UInt8) : Nat := crcN 8 (c ^^^ b.toNat)
/-- before the last turning round -/
def crcRaw (l : List UInt8) : Nat := l.foldl crcStep 4294967295
def crc (l : List UInt8) : Nat := crcRaw l ^^^ 4294967295

theorem crcBit_lt {c : Nat} (h : c < 4294967296) : crcBit c < 4294967296 := by
  unfold crcBit
  split
  · exact Nat.xor_lt_two_pow (n := 32) (by omega) (by decide)
  · omega
theorem crcN_lt (k : Nat) : ∀ {c : Nat}, c < 4294967296 → crcN k c < 4294967296 := by
  induction k with
  | zero => intro c h; exact h
  | succ k ih => intro c h; exact ih (crcBit_lt h)
theorem crcN_succ (k c : Nat) : crcN (k + 1) c = crcBit (crcN k c) := by
  induction k generalizing c with
  | zero => rfl
  | succ k ih => exact ih (crcBit c)
theorem xor_lt32 {a b : Nat} (ha : a < 4294967296) (hb : b < 4294967296) : a ^^^ b < 4294967296 := Nat.xor_lt_two_pow (n := 32) ha hb
theorem crcStep_lt {c : Nat} (b : UInt8) (h : c < 4294967296) : crcStep c b < 4294967296 :=
  crcN_lt 8 (xor_lt32 h (Nat.lt_trans b.toNat_lt (by decide)))
theorem crcFold_lt (l : List UInt8) : ∀ {c : Nat}, c < 4294967296 → l.foldl crcStep c < 4294967296 := by
  induction l with
  | nil => intro c h; exact h
  | cons b l ih => intro c h; exact ih (crcStep_lt b h)
theorem crcRaw_lt (l : List UInt8) : crcRaw l < 4294967296 := crcFold_lt l (by decide)
theorem crcRaw_snoc (l : List UInt8) (b : UInt8) : crcRaw (l ++ [b]) = crcStep (crcRaw l) b := by simp [crcRaw]

theorem crcBit_xor (a b : Nat) : crcBit (a ^^^ b) = crcBit a ^^^ crcBit b := by
  have hm : (a ^^^ b) % 2 = (a + b) % 2 := by
    have h := Nat.xor_mod_two_eq_one (a := a) (b := b)
    rcases Nat.mod_two_eq_zero_or_one a with ha | ha <;> rcases Nat.mod_two_eq_zero_or_one b with hb | hb <;> omega
  have hd : (a ^^^ b) / 2 = a / 2 ^^^ b / 2 := Nat.xor_div_two
  unfold crcBit
  rw [hd, hm]
  rcases Nat.mod_two_eq_zero_or_one a with ha | ha <;> rcases Nat.mod_two_eq_zero_or_one b with hb | hb
  · rw [if_neg (by omega), if_neg (by omega), if_neg (by omega)]
  · rw [if_pos (by omega), if_neg (by omega), if_pos (by omega), Nat.xor_assoc]
  · rw [if_pos (by omega), if_pos (by omega), if_neg (by omega), Nat.xor_assoc, Nat.xor_assoc, Nat.xor_comm (b / 2)]
  · rw [if_neg (by omega), if_pos (by omega), if_pos (by omega)]
    have : ∀ x y p : Nat, (x ^^^ p) ^^^ (y ^^^ p) = x ^^^ y := fun x y p => by
      rw [Nat.xor_assoc, Nat.xor_comm p, Nat.xor_assoc y, Nat.xor_self, Nat.xor_zero]
    rw [this]
theorem crcN_xor (k : Nat) : ∀ a b, crcN k (a ^^^ b) = crcN k a ^^^ crcN k b := by
  induction k with
  | zero => intro a b; rfl
  | succ k ih => intro a b; simp only [crcN, crcBit_xor, ih]
theorem crcBit_even (x : Nat) : crcBit (2 * x) = x := by
  unfold crcBit
  rw [if_neg (by omega)]
  omega
theorem crcN_shift (k : Nat) : ∀ x, crcN k (2 ^ k * x) = x := by
  induction k with
  | zero => intro x; simp [crcN]
  | succ k ih => intro x; rw [crcN, Nat.pow_succ, Nat.mul_comm (2 ^ k) 2, Nat.mul_assoc, crcBit_even, ih]

theorem split8 (x : Nat) : x = (x % 256) ^^^ (256 * (x / 256)) := by
  apply Nat.eq_of_testBit_eq
  intro i
  rw [Nat.testBit_xor, show (256 : Nat) = 2 ^ 8 from rfl, Nat.testBit_mod_two_pow, Nat.testBit_two_pow_mul, Nat.testBit_div_two_pow]
  by_cases hi : i < 8
  · simp [hi, Nat.not_le.2 hi]
  · simp only [hi, decide_false, Bool.false_and, Bool.false_bne, Nat.not_lt.1 hi, decide_true, Bool.true_and]
    rw [Nat.sub_add_cancel (Nat.not_lt.1 hi)]

/-- by the table of all bytes' remainders -/
theorem crcStep_tab (c : Nat) (b : UInt8) : crcStep c b = crcN 8 (c % 256 ^^^ b.toNat) ^^^ (c / 256) := by
  unfold crcStep
  conv => lhs; rw [split8 c]
  rw [Nat.xor_assoc, Nat.xor_comm (256 * _), ← Nat.xor_assoc, crcN_xor]
  congr 1
  exact crcN_shift 8 _
end Go.Proofs.Ytehklkmnbhgebaa
