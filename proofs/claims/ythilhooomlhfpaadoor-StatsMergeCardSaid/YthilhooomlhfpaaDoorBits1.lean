/- Chapter 2 in plain Lean: bits one behind the other, as a number. -/
import Derived.Test.YthilhooomlhfpaaDoorWire9
namespace Go.Proofs.YthilhooomlhfpaaDoor

/-- the bytes of so many bits, which are a number -/
def bytesOf (m V : Nat) : List UInt8 := little ((m + 7) / 8) V
theorem bytesOf_len (m V : Nat) : (bytesOf m V).length = (m + 7) / 8 := little_len _ _

theorem little_mod (q : Nat) : ∀ V x, little q (V + 256 ^ q * x) = little q V := by
  induction q with
  | zero => intro V x; rfl
  | succ q ih =>
    intro V x
    have e : V + 256 ^ (q + 1) * x = V + 256 * (256 ^ q * x) := by rw [Nat.pow_succ, Nat.mul_comm (256 ^ q) 256, Nat.mul_assoc]
    rw [little, little, e, Nat.add_mul_mod_self_left, Nat.add_mul_div_left _ _ (by decide : 0 < 256), ih]
theorem little_grow (q V : Nat) (h : V < 2 ^ (8 * q)) : little q V ++ [0] = little (q + 1) V := by
  rw [little_snoc, Nat.div_eq_of_lt (by rwa [← pow256])]; rfl
theorem little_put (q V e b : Nat) (he : e < 8) (hb : b ≤ 1) (hV : V < 2 ^ (8 * q + e)) :
    (little (q + 1) V).set q (UInt8.ofNat (V / 256 ^ q + b * 2 ^ e)) = little (q + 1) (V + b * 2 ^ (8 * q + e)) := by
  have hp : (2 : Nat) ^ e ≤ 128 := Nat.pow_le_pow_right (by decide : 2 > 0) (show e ≤ 7 by omega)
  have h1 : V / 256 ^ q < 2 ^ e := by
    rw [Nat.div_lt_iff_lt_mul (Nat.pow_pos (by decide)), ← pow256, ← Nat.pow_add, Nat.add_comm]; exact hV
  have h2 : V + b * 2 ^ (8 * q + e) = V + 256 ^ q * (b * 2 ^ e) := by rw [Nat.pow_add, pow256, ← Nat.mul_assoc, ← Nat.mul_assoc, Nat.mul_comm b]
  have hb2 : b * 2 ^ e ≤ 128 := Nat.le_trans (Nat.mul_le_mul_right _ hb) (by omega)
  rw [h2, little_snoc q (V + 256 ^ q * (b * 2 ^ e)), little_mod, Nat.add_mul_div_left _ _ (Nat.pow_pos (by decide) : 0 < 256 ^ q), Nat.mod_eq_of_lt (by omega), little_snoc, List.set_append]
  simp [little_len]
/-- the last byte -/
theorem little_last (q V e : Nat) (he : e < 8) (hV : V < 2 ^ (8 * q + e)) : (little (q + 1) V)[q]? = some (UInt8.ofNat (V / 256 ^ q)) ∧ V / 256 ^ q < 2 ^ e := by
  have hp : (2 : Nat) ^ e ≤ 128 := Nat.pow_le_pow_right (by decide : 2 > 0) (show e ≤ 7 by omega)
  have h1 : V / 256 ^ q < 2 ^ e := by
    rw [Nat.div_lt_iff_lt_mul (Nat.pow_pos (by decide)), ← pow256, ← Nat.pow_add, Nat.add_comm]; exact hV
  refine ⟨?_, h1⟩
  rw [little_snoc, Nat.mod_eq_of_lt (by omega)]
  simp [little_len]

/-- numbers of so many bits, one behind the other -/
def packN (w : Nat) : List Nat → Nat
  | [] => 0
  | n :: l => n + 2 ^ w * packN w l
theorem packN_snoc (w n : Nat) : ∀ l, packN w (l ++ [n]) = packN w l + n * 2 ^ (l.length * w)
  | [] => by simp [packN]
  | a :: l => by
    rw [List.cons_append, packN, packN, packN_snoc w n l, List.length_cons, Nat.add_one_mul, Nat.pow_add, Nat.mul_add, ← Nat.add_assoc]
    congr 1
    rw [Nat.mul_comm (2 ^ (l.length * w)) (2 ^ w), ← Nat.mul_assoc, ← Nat.mul_assoc, Nat.mul_comm n]
theorem packN_lt (w : Nat) : ∀ l : List Nat, (∀ n ∈ l, n < 2 ^ w) → packN w l < 2 ^ (l.length * w)
  | [], _ => by simp [packN]
  | a :: l, h => by
    have h1 := packN_lt w l fun n hn => h n (List.mem_cons_of_mem _ hn)
    have h2 := h a (List.mem_cons_self ..)
    rw [packN, List.length_cons, Nat.add_one_mul, Nat.pow_add]
    have h3 : 2 ^ w * (packN w l + 1) ≤ 2 ^ w * 2 ^ (l.length * w) := Nat.mul_le_mul_left _ h1
    rw [Nat.mul_comm (2 ^ (l.length * w))]
    rw [Nat.mul_add] at h3
    omega
/-- the text of numbers, so many bits each -/
def packed (w : Nat) (l : List Nat) : List UInt8 := bytesOf (l.length * w) (packN w l)
/-- some more bits of a number -/
theorem bits_succ (n i : Nat) : n % 2 ^ (i + 1) = n % 2 ^ i + (n / 2 ^ i % 2) * 2 ^ i := by
  rw [Nat.pow_succ, Nat.mod_mul, Nat.mul_comm (2 ^ i)]
end Go.Proofs.YthilhooomlhfpaaDoor
