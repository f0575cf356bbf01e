/- The walks of enc's OK, known, size, key, Less. -/
import Derived.Test.YthilhooomlhfpaaDoorVals
import Derived.Test.YthilhooomlhfpaaDoorWireW5
namespace Go.Proofs.YthilhooomlhfpaaDoor
set_option linter.unusedVariables false
open Go Go.RowKit Go.ChangeShapes

/-- what OK asks -/
structure OkP (kind : Int) (x : Val) : Prop where
  k : x.k = kind
  text : kind = 4 → x.n = 0 ∧ x.s.size ≤ 100
  num : kind ≠ 4 → x.s.size = 0
  bool : kind = 1 → 0 ≤ x.n ∧ x.n ≤ 1
  int : kind = 2 → -2147483648 ≤ x.n ∧ x.n ≤ 2147483647
theorem OkP.is {kind : Int} {x : Val} (h : OkP kind x) (h1 : 1 ≤ kind) (h5 : kind ≤ 5) : x.Is kind := ⟨h.k, h1, h5, h.text, h.num, h.bool, h.int⟩

theorem empty_beq (s : ByteArray) : (s.toList == []) = decide (s.size = 0) := by
  rw [ByteArray.toList_eq]
  cases s with
  | mk a =>
    show (a.toList == []) = decide (a.size = 0)
    rw [Bool.eq_iff_iff, beq_iff_eq, decide_eq_true_iff]
    constructor
    · intro h; rw [← Array.length_toList, h]; rfl
    · intro h; exact List.eq_nil_of_length_eq_zero (by rw [Array.length_toList]; exact h)
theorem empty_beq' (s : ByteArray) : s.toList.isEmpty = decide (s.size = 0) := by
  rw [← empty_beq]
  cases s.toList <;> rfl

set_option maxRecDepth 100000 in
set_option maxHeartbeats 1000000 in
theorem ok_yes (kind : Int) (x : Val) (hx : x.Ok) (w : World) (h : OkP kind x) :
    Calls Tryd.prog 79 #[.int .i64 kind, .agg (valA x)] w fun e w' => e = .returned (.bool true) ∧ Below w.heap.size w w' := by
  obtain ⟨k, n, s⟩ := x
  obtain ⟨k0, k1, n0, n1, s1⟩ := hx
  obtain ⟨hk, h4, hn4, h1, h2⟩ := h
  simp only at hk h4 hn4 h1 h2 k0 k1 n0 n1 s1
  subst hk
  have hsz : s.toList = [] ↔ s.size = 0 := by have := empty_beq s; rw [Bool.eq_iff_iff, beq_iff_eq, decide_eq_true_iff] at this; exact this
  unfold maxLen at s1
  unfold valA
  by_cases c4 : k = 4
  · obtain ⟨rfl, hs⟩ := h4 c4
    subst c4
    clear hn4 h1 h2 h4 hsz
    go_enter Tryd.func79, Tryd.ntmps79
    go_wp2_with fail
    go_ret
    exact ⟨ret_of (by simp; omega), (Below.refl _ _).alloc (Nat.le_refl _) _⟩
  · have hs0 := hn4 c4
    have he := empty_list hs0
    subst he
    clear hs0 hn4 h4 hsz s1
    by_cases c1 : k = 1
    · obtain ⟨a1, a2⟩ := h1 c1
      subst c1
      have hd : n / 2 = 0 := by omega
      clear h1 h2
      go_enter Tryd.func79, Tryd.ntmps79
      go_wp2_with fail
      go_ret
      exact ⟨ret_of (by simp), (Below.refl _ _).alloc (Nat.le_refl _) _⟩
    · by_cases c2 : k = 2
      · obtain ⟨a1, a2⟩ := h2 c2
        subst c2
        have hd : IntKind.i32.wrap n = n := by rw [IntKind.wrap_i32]; omega
        clear h1 h2
        go_enter Tryd.func79, Tryd.ntmps79
        go_wp2_with fail
        go_ret
        exact ⟨ret_of (by simp), (Below.refl _ _).alloc (Nat.le_refl _) _⟩
      · clear h1 h2
        go_enter Tryd.func79, Tryd.ntmps79
        go_wp2_with fail
        go_ret
        exact ⟨ret_of (by simp), (Below.refl _ _).alloc (Nat.le_refl _) _⟩

set_option maxRecDepth 100000 in
set_option maxHeartbeats 1000000 in
theorem ok_no (kind : Int) (x : Val) (hx : x.Ok) (w : World) (h : ¬ OkP kind x) :
    Calls Tryd.prog 79 #[.int .i64 kind, .agg (valA x)] w fun e w' => e = .returned (.bool false) ∧ Below w.heap.size w w' := by
  obtain ⟨k, n, s⟩ := x
  obtain ⟨k0, k1, n0, n1, s1⟩ := hx
  simp only at k0 k1 n0 n1 s1
  have hsz : s.toList = [] ↔ s.size = 0 := by have := empty_beq s; rw [Bool.eq_iff_iff, beq_iff_eq, decide_eq_true_iff] at this; exact this
  have hem := empty_beq s
  have hem' := empty_beq' s
  unfold maxLen at s1
  unfold valA
  by_cases hk : k = kind
  · subst hk
    by_cases c4 : k = 4
    · subst c4
      have hh : ¬ n = 0 ∨ 100 < s.size := by
        by_cases a : n = 0
        · by_cases b : 100 < s.size
          · exact .inr b
          · exact absurd ⟨rfl, fun _ => ⟨a, by show s.size ≤ 100; omega⟩, fun c => absurd rfl c, by simp, by simp⟩ h
        · exact .inl a
      clear h hsz hem hem'
      by_cases hn : n = 0
      · have hb : (n == 0) = true := by simpa using hn
        have hs : decide ((s.size : Int) ≤ 100) = false := by simp; omega
        clear hh hn
        go_enter Tryd.func79, Tryd.ntmps79
        go_wp2_with fail
        go_ret
        exact ⟨ret_of (by simp), (Below.refl _ _).alloc (Nat.le_refl _) _⟩
      · have hb : (n == 0) = false := by simpa using hn
        clear hh hn
        go_enter Tryd.func79, Tryd.ntmps79
        go_wp2_with fail
        go_ret
        exact ⟨ret_of (by simp), (Below.refl _ _).alloc (Nat.le_refl _) _⟩
    · by_cases hb1 : k = 1 ∧ ¬ (0 ≤ n ∧ n ≤ 1)
      · obtain ⟨rfl, hr⟩ := hb1
        have hd : (n / 2 == 0) = false := by rw [beq_eq_false_iff_ne]; omega
        have hd' : ¬ n / 2 = 0 := by omega
        clear h hsz hem hem' hr c4
        go_enter Tryd.func79, Tryd.ntmps79
        go_wp2_with fail
        go_ret
        exact ⟨ret_of (by simp), (Below.refl _ _).alloc (Nat.le_refl _) _⟩
      · by_cases hb2 : k = 2 ∧ ¬ (-2147483648 ≤ n ∧ n ≤ 2147483647)
        · obtain ⟨rfl, hr⟩ := hb2
          have hd : (n != wrap64 (wrap32 n)) = true := by unfold wrap64 wrap32; rw [bne_iff_ne]; omega
          clear h hsz hem hem' hr c4 hb1
          go_enter Tryd.func79, Tryd.ntmps79
          go_wp2_with fail
          go_ret
          exact ⟨ret_of (by simp), (Below.refl _ _).alloc (Nat.le_refl _) _⟩
        · have hs0 : ¬ s.size = 0 := fun hs => h ⟨rfl, fun c => absurd c c4, fun _ => hs, fun c => by
            simp only at c ⊢; omega, fun c => by simp only at c ⊢; omega⟩
          have e1 : s.toList.isEmpty = false := by rw [hem']; simpa using hs0
          have e2 : ¬ s.toList = [] := by rw [hsz]; exact hs0
          clear h hsz hem hem' hs0
          by_cases c1 : k = 1
          · subst c1
            have hd : n / 2 = 0 := by omega
            clear hb1 hb2 c4
            go_enter Tryd.func79, Tryd.ntmps79
            go_wp2_with fail
            go_ret
            exact ⟨ret_of (by simp), (Below.refl _ _).alloc (Nat.le_refl _) _⟩
          · by_cases c2 : k = 2
            · subst c2
              have hd : IntKind.i32.wrap n = n := by rw [IntKind.wrap_i32]; omega
              clear hb1 hb2 c4
              go_enter Tryd.func79, Tryd.ntmps79
              go_wp2_with fail
              go_ret
              exact ⟨ret_of (by simp), (Below.refl _ _).alloc (Nat.le_refl _) _⟩
            · clear hb1 hb2
              go_enter Tryd.func79, Tryd.ntmps79
              go_wp2_with fail
              go_ret
              exact ⟨ret_of (by simp), (Below.refl _ _).alloc (Nat.le_refl _) _⟩
  · have hk' : (k == kind) = false := by simpa using hk
    clear h hsz hem hem'
    go_enter Tryd.func79, Tryd.ntmps79
    go_wp2_with fail
    go_ret
    exact ⟨ret_of (by simp), (Below.refl _ _).alloc (Nat.le_refl _) _⟩

theorem xor_low (r : Nat) (h : r < 9223372036854775808) : (9223372036854775808 + r) ^^^ 9223372036854775807 = 9223372036854775808 + (9223372036854775807 - r) := by
  have e63 : (9223372036854775808 : Nat) = 2 ^ 63 := by decide
  have e1 : (9223372036854775807 : Nat) = 2 ^ 63 - 1 := by decide
  apply Nat.eq_of_testBit_eq
  intro i
  rw [Nat.testBit_xor, show 9223372036854775807 - r = 2 ^ 63 - (r + 1) by omega, e1, Nat.testBit_two_pow_sub_one, e63]
  have hy : 2 ^ 63 - (r + 1) < 2 ^ 63 := by omega
  rcases Nat.lt_trichotomy i 63 with hi | hi | hi
  · rw [Nat.testBit_two_pow_add_gt hi, Nat.testBit_two_pow_add_gt hi, Nat.testBit_two_pow_sub_succ (by omega)]
    simp [hi]
  · subst hi
    rw [Nat.testBit_two_pow_add_eq, Nat.testBit_two_pow_add_eq, Nat.testBit_lt_two_pow hy, Nat.testBit_lt_two_pow (by omega : r < 2 ^ 63)]
    rfl
  · have h64 : (2 : Nat) ^ 64 ≤ 2 ^ i := Nat.pow_le_pow_right (by decide) hi
    have p64 : (2 : Nat) ^ 64 = 2 ^ 63 + 2 ^ 63 := by decide
    rw [Nat.testBit_lt_two_pow (by omega : 2 ^ 63 + r < 2 ^ i), Nat.testBit_lt_two_pow (by omega : 2 ^ 63 + (2 ^ 63 - (r + 1)) < 2 ^ i)]
    simp; omega
theorem key_neg (n : Int) (h0 : -9223372036854775808 ≤ n) (h1 : n < 0) : bits .xor .i64 n 9223372036854775807 = -9223372036854775809 - n := by
  show IntKind.i64.wrap ((BitVec.ofInt 64 n ^^^ BitVec.ofInt 64 9223372036854775807).toNat : Int) = _
  obtain ⟨r, hr⟩ : ∃ r : Nat, (n : Int) + 9223372036854775808 = (r : Int) := ⟨(n + 9223372036854775808).toNat, by omega⟩
  have e1 : (BitVec.ofInt 64 n).toNat = 9223372036854775808 + r := by
    rw [BitVec.toNat_ofInt]
    omega
  have e2 : (BitVec.ofInt 64 9223372036854775807).toNat = 9223372036854775807 := by decide
  rw [BitVec.toNat_xor, e1, e2, xor_low r (by omega), IntKind.wrap_i64]
  omega

set_option maxRecDepth 100000 in
set_option maxHeartbeats 1000000 in
theorem key_any (n : Int) (w : World) (h0 : -9223372036854775808 ≤ n) (h1 : n < 9223372036854775808) :
    Calls Tryd.prog 82 #[.int .i64 n] w fun e w' => e = .returned (.int .i64 (keyOf n)) ∧ w' = w := by
  by_cases hn : n < 0
  · have hq : n / 9223372036854775808 = -1 := by omega
    have hk := key_neg n h0 hn
    have hw : IntKind.u64.wrap (-1) / 2 = 9223372036854775807 := by decide +kernel
    have hko : keyOf n = -9223372036854775809 - n := by unfold keyOf; rw [if_pos hn]
    rw [hko]
    clear hko
    go_enter Tryd.func82, Tryd.ntmps82
    go_wp2_with fail
    go_ret
    exact ⟨ret_of (by first | rfl | simp [hk]), rfl⟩
  · have hq : n / 9223372036854775808 = 0 := by omega
    obtain ⟨m, rfl⟩ := Int.eq_ofNat_of_zero_le (show 0 ≤ n by omega)
    have hk := xor_zero_i64 m (by omega)
    have hko : keyOf (m : Int) = (m : Int) := by unfold keyOf; rw [if_neg hn]
    rw [hko]
    clear hko
    go_enter Tryd.func82, Tryd.ntmps82
    go_wp2_with fail
    go_ret
    exact ⟨ret_of (by first | rfl | simp [hk]), rfl⟩
end Go.Proofs.YthilhooomlhfpaaDoor
