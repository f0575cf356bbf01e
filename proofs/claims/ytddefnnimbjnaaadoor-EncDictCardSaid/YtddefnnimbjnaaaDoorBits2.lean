/- Chapter 2 in plain Lean: the document's list of bits, and the number that they are. -/
import Derived.Test.YtddefnnimbjnaaaDoorBits1
namespace Go.Proofs.YtddefnnimbjnaaaDoor

/-- the bits of a number, the lowest first -/
def bitsL : Nat → Nat → List UInt8
  | 0, _ => []
  | k + 1, n => UInt8.ofNat (n % 2) :: bitsL k (n / 2)
theorem bitsL_len (k : Nat) : ∀ n, (bitsL k n).length = k := by
  induction k with
  | zero => intro n; rfl
  | succ k ih => intro n; simp [bitsL, ih]
theorem bitsL_snoc (k : Nat) : ∀ n, bitsL (k + 1) n = bitsL k n ++ [UInt8.ofNat (n / 2 ^ k % 2)] := by
  induction k with
  | zero => intro n; simp [bitsL]
  | succ k ih => intro n; rw [bitsL, ih (n / 2), bitsL, List.cons_append, Nat.div_div_eq_div_mul, Nat.pow_succ, Nat.mul_comm 2]
/-- .. of numbers, one behind the other -/
def allBits (w : Nat) : List Nat → List UInt8
  | [] => []
  | n :: l => bitsL w n ++ allBits w l
theorem allBits_snoc (w n : Nat) : ∀ l, allBits w (l ++ [n]) = allBits w l ++ bitsL w n
  | [] => by simp [allBits]
  | a :: l => by rw [List.cons_append, allBits, allBits, allBits_snoc w n l, List.append_assoc]
theorem allBits_len (w : Nat) : ∀ l : List Nat, (allBits w l).length = l.length * w
  | [] => by simp [allBits]
  | a :: l => by rw [allBits, List.length_append, bitsL_len, allBits_len w l, List.length_cons, Nat.add_one_mul, Nat.add_comm]
/-- the number that bits are -/
def valB : List UInt8 → Nat
  | [] => 0
  | b :: l => b.toNat + 2 * valB l
def Bit (l : List UInt8) : Prop := ∀ b ∈ l, b.toNat < 2
theorem bitsL_bit (k : Nat) : ∀ n, Bit (bitsL k n) := by
  induction k with
  | zero => intro n b hb; simp [bitsL] at hb
  | succ k ih =>
    intro n b hb
    rw [bitsL] at hb
    rcases List.mem_cons.1 hb with rfl | hb
    · rw [UInt8.toNat_ofNat', Nat.mod_eq_of_lt (show n % 2 < 2 ^ 8 by omega)]; omega
    · exact ih _ b hb
theorem allBits_bit (w : Nat) : ∀ l, Bit (allBits w l)
  | [] => by intro b hb; simp [allBits] at hb
  | a :: l => by
    intro b hb
    rw [allBits] at hb
    rcases List.mem_append.1 hb with hb | hb
    · exact bitsL_bit _ _ b hb
    · exact allBits_bit w l b hb
theorem valB_bitsL (k : Nat) : ∀ n, valB (bitsL k n) = n % 2 ^ k := by
  induction k with
  | zero => intro n; simp [bitsL, valB, Nat.mod_one]
  | succ k ih =>
    intro n
    rw [bitsL, valB, ih, UInt8.toNat_ofNat', Nat.mod_eq_of_lt (show n % 2 < 2 ^ 8 by omega), Nat.pow_succ, Nat.mul_comm (2 ^ k) 2, Nat.mod_mul]
theorem valB_append : ∀ a b, valB (a ++ b) = valB a + 2 ^ a.length * valB b
  | [], b => by simp [valB]
  | x :: a, b => by
    rw [List.cons_append, valB, valB_append a b, valB, List.length_cons, Nat.pow_succ, Nat.mul_add, Nat.add_assoc, ← Nat.mul_assoc, Nat.mul_comm 2 (2 ^ a.length)]
theorem valB_allBits (w : Nat) : ∀ l : List Nat, (∀ n ∈ l, n < 2 ^ w) → valB (allBits w l) = packN w l
  | [], _ => rfl
  | a :: l, h => by
    rw [allBits, valB_append, valB_bitsL, bitsL_len, packN, valB_allBits w l fun n hn => h n (List.mem_cons_of_mem _ hn), Nat.mod_eq_of_lt (h a (List.mem_cons_self ..))]
theorem valB_lt : ∀ l, Bit l → valB l < 2 ^ l.length
  | [], _ => by simp [valB]
  | a :: l, h => by
    have h1 := valB_lt l fun b hb => h b (List.mem_cons_of_mem _ hb)
    have h2 := h a (List.mem_cons_self ..)
    rw [valB, List.length_cons, Nat.pow_succ]
    omega
theorem valB_get : ∀ (l : List UInt8) (j : Nat) (b : UInt8), Bit l → l[j]? = some b → valB l / 2 ^ j % 2 = b.toNat
  | [], j, b, _, h => by simp at h
  | a :: l, 0, b, hl, h => by
    simp at h; subst h
    have h2 := hl a (List.mem_cons_self ..)
    rw [valB]; simp; omega
  | a :: l, j + 1, b, hl, h => by
    have h2 := hl a (List.mem_cons_self ..)
    have := valB_get l j b (fun b hb => hl b (List.mem_cons_of_mem _ hb)) (by simpa using h)
    rw [valB, Nat.pow_succ, Nat.mul_comm (2 ^ j) 2, ← Nat.div_div_eq_div_mul, show (a.toNat + 2 * valB l) / 2 = valB l by omega]
    exact this
/-- the byte at a place: what its bits are -/
theorem byte_done (V j k n : Nat) (hV : V < 2 ^ n) (hk : k ≤ 8) (h : k = 8 ∨ n ≤ 8 * j + k) : V / 2 ^ (8 * j) % 2 ^ k = V / 256 ^ j % 256 := by
  rw [pow256]
  rcases h with rfl | h
  · rfl
  · have hp : V / 256 ^ j < 2 ^ k := by
      rw [Nat.div_lt_iff_lt_mul (Nat.pow_pos (by decide)), ← pow256, ← Nat.pow_add]
      exact Nat.lt_of_lt_of_le hV (Nat.pow_le_pow_right (by decide) (by omega))
    have hq : 2 ^ k ≤ 256 := Nat.pow_le_pow_right (n := 2) (by decide) hk
    rw [Nat.mod_eq_of_lt hp, Nat.mod_eq_of_lt (by omega)]
theorem bit_more (V i k : Nat) : V / 2 ^ i % 2 ^ (k + 1) = V / 2 ^ i % 2 ^ k + (V / 2 ^ (i + k) % 2) * 2 ^ k := by
  rw [bits_succ, Nat.div_div_eq_div_mul, ← Nat.pow_add]
/-- the whole text -/
theorem packed_end (w : Nat) (l : List Nat) (hl : ∀ n ∈ l, n < 2 ^ w) (j : Nat) (h1 : l.length * w ≤ 8 * j) (h2 : 8 * j < l.length * w + 8) : little j (valB (allBits w l)) = packed w l := by
  rw [valB_allBits w l hl, packed, bytesOf, show (l.length * w + 7) / 8 = j by omega]
end Go.Proofs.YtddefnnimbjnaaaDoor
