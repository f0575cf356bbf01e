/- Chapter 3 in plain Lean: values and their order. -/
import Derived.Test.YthilhooomlhfpaaDoorK
namespace Go.Proofs.YthilhooomlhfpaaDoor
set_option linter.unusedVariables false
open Go

open Go.Op (bytesLess)
theorem bl_irrefl : ∀ x, bytesLess x x = false
  | [] => rfl
  | a :: x => by
    have ih := bl_irrefl x
    simp only [bytesLess, ih, Bool.and_false, Bool.or_false, decide_eq_false_iff_not, UInt8.lt_iff_toNat_lt]
    omega
theorem bl_trans : ∀ x y z, bytesLess x y = true → bytesLess y z = true → bytesLess x z = true
  | _, [], _, h, _ => by simp [bytesLess] at h
  | _, _ :: _, [], _, h => by simp [bytesLess] at h
  | [], _ :: _, _ :: _, _, _ => rfl
  | a :: x, b :: y, c :: z, h1, h2 => by
    have ih := bl_trans x y z
    simp only [bytesLess, Bool.or_eq_true, decide_eq_true_eq, Bool.and_eq_true, beq_iff_eq, UInt8.lt_iff_toNat_lt, ← UInt8.toNat_inj] at h1 h2 ⊢
    rcases h1 with h1 | ⟨h1, h1'⟩ <;> rcases h2 with h2 | ⟨h2, h2'⟩
    · exact .inl (by omega)
    · exact .inl (by omega)
    · exact .inl (by omega)
    · exact .inr ⟨by omega, ih h1' h2'⟩
theorem bl_total : ∀ x y, bytesLess x y = false → bytesLess y x = false → x = y
  | [], [], _, _ => rfl
  | [], _ :: _, h, _ => by simp [bytesLess] at h
  | _ :: _, [], _, h => by simp [bytesLess] at h
  | a :: x, b :: y, h1, h2 => by
    have ih := bl_total x y
    simp only [bytesLess, Bool.or_eq_false_iff, decide_eq_false_iff_not, Bool.and_eq_false_iff, beq_eq_false_iff_ne, ne_eq, UInt8.lt_iff_toNat_lt, ← UInt8.toNat_inj] at h1 h2
    have e : a.toNat = b.toNat := by omega
    have e1 : bytesLess x y = false := by rcases h1.2 with h | h <;> first | exact h | omega
    have e2 : bytesLess y x = false := by rcases h2.2 with h | h <;> first | exact h | omega
    rw [UInt8.toNat_inj.1 e, ih e1 e2]

/-- a value of a leaf -/
structure Val where
  k : Int
  n : Int
  s : ByteArray
def Val.val (x : Val) : Value := .agg #[.int .i64 x.k, .int .i64 x.n, .string x.s]
/-- as Go can hold it -/
structure Val.Ok (x : Val) : Prop where
  k0 : -9223372036854775808 ≤ x.k
  k1 : x.k < 9223372036854775808
  n0 : -9223372036854775808 ≤ x.n
  n1 : x.n < 9223372036854775808
  s1 : x.s.size ≤ maxLen

/-- a double's bits in its order -/
def keyOf (n : Int) : Int := if n < 0 then -9223372036854775809 - n else n
def Val.less (a b : Val) : Bool :=
  if a.k ≠ b.k then decide (a.k < b.k) else if a.k = 4 then bytesLess a.s.toList b.s.toList else if a.k = 5 then decide (keyOf a.n < keyOf b.n) else decide (a.n < b.n)
/-- the document's way -/
theorem keyOf_lt (a b : Int) (a0 : -9223372036854775808 ≤ a) (a1 : a < 9223372036854775808) (b0 : -9223372036854775808 ≤ b) (b1 : b < 9223372036854775808) :
    decide (keyOf a < keyOf b) = (if 0 ≤ a ∧ 0 ≤ b then decide (a < b) else if a < 0 ∧ b < 0 then decide (b < a) else decide (a < 0)) := by
  unfold keyOf
  split <;> split <;> split <;> (try split) <;> first | omega | rfl | (rw [decide_eq_decide]; omega)

/-- one of a kind -/
structure Val.Is (x : Val) (kind : Int) : Prop where
  k : x.k = kind
  lo : 1 ≤ kind
  hi : kind ≤ 5
  text : kind = 4 → x.n = 0 ∧ x.s.size ≤ 100
  num : kind ≠ 4 → x.s.size = 0
  bool : kind = 1 → 0 ≤ x.n ∧ x.n ≤ 1
  int : kind = 2 → -2147483648 ≤ x.n ∧ x.n ≤ 2147483647

theorem empty_list {s : ByteArray} (h : s.size = 0) : s = ⟨#[]⟩ := by
  cases s with
  | mk a => congr 1; exact Array.eq_empty_of_size_eq_zero h
theorem toList_inj {s t : ByteArray} (h : s.toList = t.toList) : s = t := by
  rw [ByteArray.toList_eq, ByteArray.toList_eq] at h
  cases s; cases t; congr 1; exact Array.toList_inj.1 h

theorem Val.less_irrefl (a : Val) : a.less a = false := by
  unfold Val.less
  simp [bl_irrefl]
theorem Val.less_trans {kind : Int} {a b c : Val} (ha : a.Is kind) (hb : b.Is kind) (hc : c.Is kind) (h1 : a.less b = true) (h2 : b.less c = true) : a.less c = true := by
  unfold Val.less at *
  rw [ha.k, hb.k] at h1
  rw [hb.k, hc.k] at h2
  rw [ha.k, hc.k]
  simp only [ne_eq, not_true_eq_false, if_false] at *
  split
  · rw [if_pos (by assumption)] at h1 h2
    exact bl_trans _ _ _ h1 h2
  · rw [if_neg (by assumption)] at h1 h2
    split
    · rw [if_pos (by assumption), decide_eq_true_eq] at h1 h2
      rw [decide_eq_true_eq]; omega
    · rw [if_neg (by assumption), decide_eq_true_eq] at h1 h2
      rw [decide_eq_true_eq]; omega
theorem Val.less_total {kind : Int} {a b : Val} (oa : a.Ok) (ob : b.Ok) (ha : a.Is kind) (hb : b.Is kind) (h1 : a.less b = false) (h2 : b.less a = false) : a = b := by
  unfold Val.less at *
  rw [ha.k, hb.k] at h1 h2
  simp only [ne_eq, not_true_eq_false, if_false] at *
  have hk : a.k = b.k := ha.k.trans hb.k.symm
  obtain ⟨ak, an, as'⟩ := a
  obtain ⟨bk, bn, bs⟩ := b
  simp only at hk
  subst hk
  by_cases h4 : kind = 4
  · rw [if_pos h4] at h1 h2
    have e := toList_inj (bl_total _ _ h1 h2)
    have e1 := (ha.text h4).1
    have e2 := (hb.text h4).1
    simp only at e e1 e2
    rw [e, e1, e2]
  · rw [if_neg h4] at h1 h2
    have e1 := empty_list (ha.num h4)
    have e2 := empty_list (hb.num h4)
    simp only at e1 e2
    have : an = bn := by
      split at h1
      · rw [if_pos (by assumption)] at h2
        have o1 := oa.n0
        have o2 := ob.n0
        simp only [decide_eq_false_iff_not] at h1 h2 o1 o2
        have key1 : ∀ n : Int, (n < 0 → keyOf n = -9223372036854775809 - n) ∧ (¬ n < 0 → keyOf n = n) := fun n => ⟨fun h => if_pos h, fun h => if_neg h⟩
        have k1 := key1 an
        have k2 := key1 bn
        omega
      · rw [if_neg (by assumption)] at h2
        simp only [decide_eq_false_iff_not] at h1 h2
        omega
    rw [e1, e2, this]
theorem Val.less_asymm {kind : Int} {a b : Val} (ha : a.Is kind) (hb : b.Is kind) (h1 : a.less b = true) : b.less a = false := by
  cases h : b.less a with
  | false => rfl
  | true => have := Val.less_trans ha hb ha h1 h; rw [Val.less_irrefl] at this; cases this
end Go.Proofs.YthilhooomlhfpaaDoor
