/- Chapter 3 in plain Lean: what values bytes are, plain. -/
import Derived.Test.YtpbkmfnfcdhhjaaDoorMEnc
import Derived.Test.YtpbkmfnfcdhhjaaDoorMPlain
namespace Go.Proofs.YtpbkmfnfcdhhjaaDoor
set_option linter.unusedVariables false
open Go

/-- a number's bits as a value's number -/
def signN (kind : Int) (x : Nat) : Int := if kind = 2 then (if x < 2147483648 then (x : Int) else (x : Int) - 4294967296) else if x < 9223372036854775808 then (x : Int) else (x : Int) - 18446744073709551616
def numV (kind : Int) (x : Nat) : Val := ⟨kind, signN kind x, ⟨#[]⟩⟩
def textV (t : List UInt8) : Val := ⟨4, 0, ⟨t.toArray⟩⟩
/-- texts, one behind the other: n of them and nothing else -/
def readTs : Nat → List UInt8 → Option (List Val)
  | 0, s => if s = [] then some [] else none
  | n + 1, s => match readT s with
    | none => none
    | some (t, k) => if 100 < t.length then none else (readTs n (s.drop k)).map (textV t :: ·)
def readP (kind : Int) (s : List UInt8) (n : Nat) : Option (List Val) :=
  if kind = 4 then readTs n s
  else if s.length = (n * wdOf kind + 7) / 8 ∧ (kind = 1 → unlittle s < 2 ^ n) then some ((getAll (unlittle s) (wdOf kind) n).map (numV kind)) else none

theorem packN_getAll (U w : Nat) : ∀ n, packN w (getAll U w n) = U % 2 ^ (n * w)
  | 0 => by simp [getAll, packN, Nat.mod_one]
  | n + 1 => by
    have ih := packN_getAll U w n
    have e : getAll U w (n + 1) = getAll U w n ++ [U / 2 ^ (n * w) % 2 ^ w] := rfl
    rw [e, packN_snoc, ih, getAll_len, Nat.add_one_mul, Nat.pow_add, Nat.mod_mul, Nat.mul_comm (2 ^ (n * w))]
theorem getAll_mem_lt (U w n : Nat) : ∀ x ∈ getAll U w n, x < 2 ^ w := getAll_lt U w n
/-- the bits of a text of whole bytes that are all there is -/
theorem packed_getAll (s : List UInt8) (w n : Nat) (h : s.length = (n * w + 7) / 8) : (packed w (getAll (unlittle s) w n) = s) ↔ unlittle s < 2 ^ (n * w) := by
  unfold packed bytesOf
  rw [getAll_len, packN_getAll, ← h]
  constructor
  · intro he
    have := congrArg unlittle he
    rw [unlittle_little _ _ (Nat.lt_of_le_of_lt (Nat.mod_le _ _) (unlittle_lt s))] at this
    rw [← this]
    exact Nat.mod_lt _ (Nat.pow_pos (by decide))
  · intro hlt
    rw [Nat.mod_eq_of_lt hlt, little_unlittle]

theorem uN_num (kind : Int) (x : Nat) (h2 : kind = 2 → x < 4294967296) (h : x < 18446744073709551616) : uN (numV kind x) % 2 ^ wdOf kind = x % 2 ^ wdOf kind := by
  unfold uN numV signN wdOf
  simp only
  by_cases c1 : kind = 1
  · rw [if_pos c1, if_neg (by omega)]
    split <;> simp only [Nat.pow_one] <;> omega
  · rw [if_neg c1]
    by_cases c2 : kind = 2
    · rw [if_pos c2, if_pos c2]
      have e : (2 : Nat) ^ 32 = 4294967296 := by decide
      rw [e]
      split <;> omega
    · rw [if_neg c2, if_neg c2]
      have e : (2 : Nat) ^ 64 = 18446744073709551616 := by decide
      rw [e]
      split <;> omega
theorem num_ok (kind : Int) (x : Nat) (h1 : 1 ≤ kind) (h5 : kind ≤ 5) (h4 : kind ≠ 4) (h : x < 2 ^ wdOf kind) : (numV kind x).Ok ∧ OkP kind (numV kind x) := by
  unfold wdOf at h
  have hx : (kind = 1 → x < 2) ∧ (kind = 2 → x < 4294967296) ∧ x < 18446744073709551616 := by
    have e32 : (2 : Nat) ^ 32 = 4294967296 := by decide
    have e64 : (2 : Nat) ^ 64 = 18446744073709551616 := by decide
    by_cases c1 : kind = 1
    · rw [if_pos c1, Nat.pow_one] at h; omega
    · rw [if_neg c1] at h
      by_cases c2 : kind = 2
      · rw [if_pos c2, e32] at h; omega
      · rw [if_neg c2, e64] at h; omega
  obtain ⟨hx1, hx2, hx3⟩ := hx
  have hs : signN kind x = if kind = 2 then (if x < 2147483648 then (x : Int) else (x : Int) - 4294967296) else if x < 9223372036854775808 then (x : Int) else (x : Int) - 18446744073709551616 := rfl
  refine ⟨⟨by show _ ≤ kind; omega, by show kind < _; omega, ?_, ?_, Nat.zero_le _⟩, ⟨rfl, fun c => absurd c h4, fun _ => rfl, ?_, ?_⟩⟩
  · show _ ≤ signN kind x; rw [hs]; split <;> split <;> omega
  · show signN kind x < _; rw [hs]; split <;> split <;> omega
  · intro c; show 0 ≤ signN kind x ∧ signN kind x ≤ 1; rw [hs, if_neg (by omega)]; split <;> omega
  · intro c; show -2147483648 ≤ signN kind x ∧ signN kind x ≤ 2147483647; rw [hs, if_pos c]; split <;> omega
theorem text_ok (t : List UInt8) (h : t.length ≤ 100) : (textV t).Ok ∧ OkP 4 (textV t) := by
  have hs : (textV t).s.size = t.length := by show t.toArray.size = _; simp
  exact ⟨⟨by show (-9223372036854775808 : Int) ≤ 4; decide, by show (4 : Int) < 9223372036854775808; decide, by show (-9223372036854775808 : Int) ≤ 0; decide, by show (0 : Int) < 9223372036854775808; decide, by rw [hs]; unfold maxLen; omega⟩, ⟨rfl, fun _ => ⟨rfl, by rw [hs]; exact h⟩, fun c => absurd rfl c, fun c => absurd c (by decide), fun c => absurd c (by decide)⟩⟩

theorem textV_bytes (t : List UInt8) : (textV t).s.data.toList = t := by simp [textV]
theorem textV_of {x : Val} (h : OkP 4 x) : textV x.s.data.toList = x := by
  obtain ⟨k, n, ⟨⟨s⟩⟩⟩ := x
  have h1 := h.k
  have h2 := (h.text rfl).1
  simp only at h1 h2
  subst h1 h2
  rfl
theorem readTs_inv : ∀ (n : Nat) (s : List UInt8) (l : List Val), readTs n s = some l → textsB l = s ∧ l.length = n ∧ (∀ x ∈ l, x.Ok) ∧ ∀ x ∈ l, OkP 4 x
  | 0, s, l, h => by
    unfold readTs at h
    split at h
    · obtain rfl := Option.some.inj h
      subst_vars
      exact ⟨rfl, rfl, by simp, by simp⟩
    · cases h
  | n + 1, s, l, h => by
    unfold readTs at h
    cases hr : readT s with
    | none => rw [hr] at h; cases h
    | some x =>
      obtain ⟨t, k⟩ := x
      rw [hr] at h
      simp only at h
      split at h
      · cases h
      · rename_i h100
        cases hm : readTs n (s.drop k) with
        | none => rw [hm] at h; cases h
        | some l' =>
          rw [hm] at h
          obtain rfl := Option.some.inj h
          obtain ⟨i1, i2, i3, i4⟩ := readTs_inv n _ l' hm
          obtain ⟨o1, o2⟩ := text_ok t (by omega)
          refine ⟨?_, by rw [List.length_cons, i2], ?_, ?_⟩
          · show textOf (textV t).s.data.toList ++ textsB l' = s
            rw [textV_bytes, i1, ← readT_split hr]
          · intro x hx; rcases List.mem_cons.1 hx with rfl | hx
            · exact o1
            · exact i3 x hx
          · intro x hx; rcases List.mem_cons.1 hx with rfl | hx
            · exact o2
            · exact i4 x hx
theorem readTs_texts : ∀ (l : List Val), (∀ x ∈ l, OkP 4 x) → readTs l.length (textsB l) = some l
  | [], _ => rfl
  | x :: l, h => by
    have hx := h x (by simp)
    have hs := (hx.text rfl).2
    have ih := readTs_texts l fun y hy => h y (by simp [hy])
    have hr := readT_text x.s.data.toList (textsB l) (by rw [size_data]; omega)
    show readTs (l.length + 1) (textOf x.s.data.toList ++ textsB l) = _
    unfold readTs
    rw [hr]
    simp only
    rw [if_neg (by rw [size_data]; omega), List.drop_left, ih, textV_of hx]
    rfl
end Go.Proofs.YtpbkmfnfcdhhjaaDoor
