/- Chapter 3 in plain Lean: numbers of whole bytes, one behind the other. -/
import Derived.Test.YthilhooomlhfpaaDoorEnc2
namespace Go.Proofs.YthilhooomlhfpaaDoor
open Go

theorem little_add (a : Nat) : ∀ (b n : Nat), little (a + b) n = little a n ++ little b (n / 256 ^ a) := by
  induction a with
  | zero => intro b n; simp [little]
  | succ a ih =>
    intro b n
    rw [show a + 1 + b = (a + b) + 1 by omega, little, little, ih, List.cons_append, Nat.pow_succ, Nat.mul_comm (256 ^ a), Nat.div_div_eq_div_mul]
theorem packed_eq (z : Nat) (l : List Nat) : packed (8 * z) l = little (l.length * z) (packN (8 * z) l) := by
  unfold packed bytesOf
  congr 1
  rw [show l.length * (8 * z) = 8 * (l.length * z) by rw [Nat.mul_left_comm]]
  omega
theorem packed_bytes (z : Nat) : ∀ (l : List Nat), (∀ n ∈ l, n < 2 ^ (8 * z)) → packed (8 * z) l = l.flatMap (little z)
  | [], _ => by simp [packed, bytesOf, little]
  | n :: l, h => by
    have hn := h n (by simp)
    have ih := packed_bytes z l fun m hm => h m (by simp [hm])
    rw [packed_eq] at ih ⊢
    rw [List.flatMap_cons, ← ih, packN, List.length_cons, Nat.add_one_mul, Nat.add_comm (l.length * z) z, little_add, pow256, little_mod, Nat.add_mul_div_left _ _ (Nat.pow_pos (by decide)), Nat.div_eq_of_lt (by rw [← pow256]; exact hn), Nat.zero_add]
theorem little_cut (z n : Nat) : little z (n % 2 ^ (8 * z)) = little z n := by
  rw [pow256]
  conv => rhs; rw [← Nat.mod_add_div n (256 ^ z)]
  rw [little_mod]
/-- numbers of whole bytes -/
theorem nums_bytes (z : Nat) (l : List Val) : packed (8 * z) (numsOf (8 * z) l) = l.flatMap fun x => little z (uN x) := by
  rw [packed_bytes z _ (numsOf_lt _ _), numsOf, List.flatMap_map]
  congr 1
  funext x
  exact little_cut z (uN x)
theorem plainB_text (l : List Val) : plainB 4 l = textsB l := rfl
theorem plainB_int (l : List Val) : plainB 2 l = l.flatMap fun x => little 4 (uN x) := nums_bytes 4 l
theorem plainB_long {kind : Int} (l : List Val) (h : kind = 3 ∨ kind = 5) : plainB kind l = l.flatMap fun x => little 8 (uN x) := by
  rw [← nums_bytes 8 l]
  rcases h with rfl | rfl <;> rfl
theorem plainB_bool (l : List Val) : plainB 1 l = packed 1 (numsOf 1 l) := rfl
theorem flat_snoc {α : Type} (f : α → List UInt8) (l : List α) (x : α) : (l ++ [x]).flatMap f = l.flatMap f ++ f x := by simp
theorem flat_len8 (z : Nat) (l : List Val) : (l.flatMap fun x => little z (uN x)).length = l.length * z := by
  induction l with
  | nil => simp
  | cons a l ih => rw [List.flatMap_cons, List.length_append, ih, little_len, List.length_cons, Nat.add_one_mul, Nat.add_comm]
theorem textOf_len (s : List UInt8) (h : s.length ≤ 100) : (textOf s).length = s.length + 1 := by
  unfold textOf
  rw [List.length_append, seven_lt (by omega)]
  simp; omega
theorem texts_len : ∀ (l : List Val), (∀ x ∈ l, x.s.size ≤ 100) → (textsB l).length ≤ 101 * l.length
  | [], _ => by simp [textsB]
  | a :: l, h => by
    have h1 := h a (by simp)
    have h2 := texts_len l fun x hx => h x (by simp [hx])
    rw [textsB, List.flatMap_cons, List.length_append, textOf_len _ (by rw [size_data]; exact h1), size_data]
    unfold textsB at h2
    simp only [List.length_cons]
    omega
theorem plainB_len (kind : Int) (l : List Val) (h : kind = 4 → ∀ x ∈ l, x.s.size ≤ 100) : (plainB kind l).length ≤ 101 * l.length := by
  unfold plainB
  split
  · exact texts_len l (h ‹_›)
  · rw [packed, bytesOf_len]
    have h1 := wdOf_le kind
    have h2 : (numsOf (wdOf kind) l).length = l.length := by simp [numsOf]
    have h3 : l.length * wdOf kind ≤ l.length * 64 := Nat.mul_le_mul_left _ h1
    rw [h2]
    cases l with
    | nil => simp
    | cons a l => simp only [List.length_cons] at h3 ⊢; omega
end Go.Proofs.YthilhooomlhfpaaDoor
