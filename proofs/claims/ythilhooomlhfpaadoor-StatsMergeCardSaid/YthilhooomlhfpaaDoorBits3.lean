/- Chapter 2 in plain Lean: bits read back. -/
import Derived.Test.YthilhooomlhfpaaDoorBits1
namespace Go.Proofs.YthilhooomlhfpaaDoor

theorem unlittle_at : ∀ (l : List UInt8) (q : Nat) (b : UInt8), l[q]? = some b → unlittle l / 256 ^ q % 256 = b.toNat
  | [], q, b, h => by simp at h
  | a :: l, 0, b, h => by
    simp at h; subst h
    have := a.toNat_lt
    rw [unlittle]; simp
  | a :: l, q + 1, b, h => by
    have ha := a.toNat_lt
    have := unlittle_at l q b (by simpa using h)
    rw [unlittle, Nat.pow_succ, Nat.mul_comm (256 ^ q) 256, ← Nat.div_div_eq_div_mul, show (a.toNat + 256 * unlittle l) / 256 = unlittle l by omega]
    exact this
theorem bit_of_byte (X e : Nat) (he : e < 8) : X % 256 / 2 ^ e % 2 = X / 2 ^ e % 2 := by
  have : e = 0 ∨ e = 1 ∨ e = 2 ∨ e = 3 ∨ e = 4 ∨ e = 5 ∨ e = 6 ∨ e = 7 := by omega
  rcases this with rfl | rfl | rfl | rfl | rfl | rfl | rfl | rfl <;> omega
/-- a bit of the text -/
theorem unlittle_bit (l : List UInt8) (k : Nat) (b : UInt8) (h : l[k / 8]? = some b) : b.toNat / 2 ^ (k % 8) % 2 = unlittle l / 2 ^ k % 2 := by
  rw [← unlittle_at l (k / 8) b h, bit_of_byte _ _ (Nat.mod_lt _ (by decide)), Nat.div_div_eq_div_mul, ← pow256, ← Nat.pow_add, Nat.div_add_mod]
/-- so many numbers of so many bits -/
def getAll (U w : Nat) : Nat → List Nat
  | 0 => []
  | n + 1 => getAll U w n ++ [U / 2 ^ (n * w) % 2 ^ w]
theorem getAll_len (U w : Nat) : ∀ n, (getAll U w n).length = n
  | 0 => rfl
  | n + 1 => by rw [getAll, List.length_append, getAll_len U w n]; rfl
theorem getAll_lt (U w : Nat) : ∀ n, ∀ x ∈ getAll U w n, x < 2 ^ w
  | 0 => by intro x hx; simp [getAll] at hx
  | n + 1 => by
    intro x hx
    rw [getAll] at hx
    rcases List.mem_append.1 hx with hx | hx
    · exact getAll_lt U w n x hx
    · rw [List.mem_singleton] at hx
      subst hx
      exact Nat.mod_lt _ (Nat.pow_pos (by decide))
theorem packN_get (w : Nat) : ∀ (l : List Nat), (∀ n ∈ l, n < 2 ^ w) → ∀ (i x : Nat), l[i]? = some x → packN w l / 2 ^ (i * w) % 2 ^ w = x
  | [], _, i, x, h => by simp at h
  | a :: l, hl, 0, x, h => by
    simp at h; subst h
    rw [packN, Nat.zero_mul, Nat.pow_zero, Nat.div_one, Nat.add_mul_mod_self_left, Nat.mod_eq_of_lt (hl a (List.mem_cons_self ..))]
  | a :: l, hl, i + 1, x, h => by
    have := packN_get w l (fun n hn => hl n (List.mem_cons_of_mem _ hn)) i x (by simpa using h)
    rw [packN, Nat.add_one_mul, Nat.pow_add, Nat.mul_comm (2 ^ (i * w)), ← Nat.div_div_eq_div_mul, Nat.add_mul_div_left _ _ (Nat.pow_pos (by decide)), Nat.div_eq_of_lt (hl a (List.mem_cons_self ..)), Nat.zero_add]
    exact this
theorem getAll_eq (U w : Nat) (l : List Nat) (h : ∀ (i x : Nat), l[i]? = some x → U / 2 ^ (i * w) % 2 ^ w = x) : ∀ n, n ≤ l.length → getAll U w n = l.take n
  | 0, _ => by simp [getAll]
  | n + 1, hn => by
    rw [getAll, getAll_eq U w l h n (by omega), List.take_succ_eq_append_getElem (by omega)]
    rw [h n l[n] (List.getElem?_eq_getElem (by omega))]
theorem unlittle_append : ∀ (a b : List UInt8), unlittle (a ++ b) = unlittle a + 256 ^ a.length * unlittle b
  | [], b => by simp [unlittle]
  | x :: a, b => by
    rw [List.cons_append, unlittle, unlittle_append a b, unlittle, List.length_cons, Nat.pow_succ, Nat.mul_add, Nat.add_assoc, ← Nat.mul_assoc, Nat.mul_comm 256 (256 ^ a.length)]
/-- what is packed is unpacked, whatever lies behind it -/
theorem getAll_packed (w : Nat) (l : List Nat) (hl : ∀ n ∈ l, n < 2 ^ w) (behind : List UInt8) : getAll (unlittle (packed w l ++ behind)) w l.length = l := by
  have hp := packN_lt w l hl
  have hc : packN w l < 256 ^ ((l.length * w + 7) / 8) := by
    rw [← pow256]
    exact Nat.lt_of_lt_of_le hp (Nat.pow_le_pow_right (by decide) (by omega))
  have hU : unlittle (packed w l ++ behind) = packN w l + 256 ^ ((l.length * w + 7) / 8) * unlittle behind := by
    rw [unlittle_append, packed, bytesOf_len, bytesOf, unlittle_little _ _ hc]
  rw [getAll_eq _ w l ?_ l.length (Nat.le_refl _), List.take_length]
  intro i x hx
  have hi : i < l.length := (List.getElem?_eq_some_iff.1 hx).1
  rw [hU, ← packN_get w l hl i x hx, ← pow256]
  have h1 : (i + 1) * w ≤ 8 * ((l.length * w + 7) / 8) := by
    have : (i + 1) * w ≤ l.length * w := Nat.mul_le_mul_right _ hi
    omega
  obtain ⟨d, hd⟩ := Nat.le.dest h1
  rw [← hd, Nat.add_one_mul, Nat.pow_add, Nat.pow_add, Nat.mul_assoc, Nat.mul_assoc, Nat.add_mul_div_left _ _ (Nat.pow_pos (by decide)), Nat.add_mul_mod_self_left]
end Go.Proofs.YthilhooomlhfpaaDoor
