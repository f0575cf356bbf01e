/- Chapter 1 in plain Lean: a number in so many bytes. -/
namespace Go.Proofs.YthilhooomlhfpaaDoor

/-- so many bytes, the lowest first -/
def little : Nat → Nat → List UInt8
  | 0, _ => []
  | k + 1, n => UInt8.ofNat (n % 256) :: little k (n / 256)
theorem little_len (k : Nat) : ∀ n, (little k n).length = k := by
  induction k with
  | zero => intro n; rfl
  | succ k ih => intro n; simp [little, ih]
theorem little_snoc (k : Nat) : ∀ n, little (k + 1) n = little k n ++ [UInt8.ofNat (n / 256 ^ k % 256)] := by
  induction k with
  | zero => intro n; simp [little]
  | succ k ih =>
    intro n
    rw [little, ih (n / 256), little, List.cons_append, Nat.div_div_eq_div_mul, Nat.pow_succ, Nat.mul_comm 256]
/-- of so many bytes -/
def unlittle : List UInt8 → Nat
  | [] => 0
  | b :: l => b.toNat + 256 * unlittle l
theorem unlittle_lt : ∀ l : List UInt8, unlittle l < 256 ^ l.length
  | [] => by simp [unlittle]
  | b :: l => by
    have := unlittle_lt l
    have hb := b.toNat_lt
    rw [unlittle, List.length_cons, Nat.pow_succ]
    omega
theorem unlittle_snoc (l : List UInt8) (b : UInt8) : unlittle (l ++ [b]) = unlittle l + b.toNat * 256 ^ l.length := by
  induction l with
  | nil => simp [unlittle]
  | cons a l ih =>
    rw [List.cons_append, unlittle, ih, unlittle, List.length_cons, Nat.pow_succ, Nat.mul_add, ← Nat.mul_assoc, Nat.mul_comm 256 b.toNat, Nat.mul_assoc, Nat.mul_comm 256 (256 ^ l.length), Nat.add_assoc]
theorem unlittle_little (k : Nat) : ∀ n, n < 256 ^ k → unlittle (little k n) = n := by
  induction k with
  | zero => intro n h; simp at h; subst h; rfl
  | succ k ih =>
    intro n h
    rw [little, unlittle, ih (n / 256) (by rw [Nat.pow_succ] at h; omega), UInt8.toNat_ofNat', Nat.mod_eq_of_lt (show n % 256 < 2 ^ 8 by omega)]
    omega
theorem little_unlittle : ∀ l : List UInt8, little l.length (unlittle l) = l
  | [] => rfl
  | b :: l => by
    have hb := b.toNat_lt
    rw [List.length_cons, little, unlittle, show (b.toNat + 256 * unlittle l) / 256 = unlittle l by omega, little_unlittle l, show (b.toNat + 256 * unlittle l) % 256 = b.toNat by omega]
    simp
theorem pow256 (k : Nat) : (2 : Nat) ^ (8 * k) = 256 ^ k := by rw [Nat.pow_mul]
end Go.Proofs.YthilhooomlhfpaaDoor
