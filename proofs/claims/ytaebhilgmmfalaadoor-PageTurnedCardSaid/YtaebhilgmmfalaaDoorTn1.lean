/- A page of which one bit is turned: plain Lean. -/
import Derived.Test.YtaebhilgmmfalaaDoorPt1
import Derived.Test.YtaebhilgmmfalaaDoorMSum3
namespace Go.Proofs.YtaebhilgmmfalaaDoor
set_option linter.unusedVariables false
open Go Go.RowKit Go.ChangeShapes

theorem xor_bit_lt {x r : Nat} (hx : x < 256) (hr : r < 8) : x ^^^ 2 ^ r < 256 := Nat.xor_lt_two_pow (n := 8) hx (Nat.pow_lt_pow_right (by decide) hr)
theorem xor_bit_ne (x r : Nat) : x ^^^ 2 ^ r ≠ x := by
  intro h
  have h1 : x ^^^ (x ^^^ 2 ^ r) = x ^^^ x := by rw [h]
  rw [← Nat.xor_assoc, Nat.xor_self, Nat.zero_xor] at h1
  have : 0 < 2 ^ r := Nat.two_pow_pos r
  omega
theorem turn_ne (a : UInt8) {r : Nat} (hr : r < 8) : UInt8.ofNat (a.toNat ^^^ 2 ^ r) ≠ a := by
  intro h
  have h1 := congrArg UInt8.toNat h
  rw [UInt8.toNat_ofNat', Nat.mod_eq_of_lt (xor_bit_lt a.toNat_lt hr)] at h1
  exact xor_bit_ne _ _ h1
theorem set_self' {l : List UInt8} {q : Nat} {x : UInt8} (hq : q < l.length) (h : l.set q x = l) : x = l[q] := by
  have h1 := congrArg (fun L : List UInt8 => L[q]?) h
  simp only [List.getElem?_set_self hq, List.getElem?_eq_getElem hq, Option.some.injEq] at h1
  exact h1
/-- a bit turned gives another sum -/
theorem crc_turn (l : List UInt8) (q r : Nat) (hq : q < l.length) (hr : r < 8) : crc (l.set q (UInt8.ofNat (l[q].toNat ^^^ 2 ^ r))) ≠ crc l := by
  intro hc
  have h1 := num_set l q r hq hr
  have h2 : burst (8 * q + r) 1 (8 * l.length) 32 = 2 ^ (8 * q + r) := by
    rw [burst_all _ _ _ (by decide), Nat.mod_eq_of_lt (Nat.one_lt_two_pow (by omega)), Nat.mul_one]
  rw [← h2] at h1
  have h3 := (burst_sum (List.length_set ..) (by decide) h1 (by omega)).2 hc
  exact turn_ne _ hr (set_self' hq h3)
theorem seven_mono (k : Nat) : ∀ a b : Nat, a ≤ b → b < k → (seven a).length ≤ (seven b).length := by
  induction k with
  | zero => intro a b _ h; omega
  | succ k ih =>
    intro a b hab hb
    by_cases h : a < 128
    · rw [seven_lt h]; exact seven_pos b
    · rw [seven_ge (by omega), seven_ge (show 128 ≤ b by omega), List.length_cons, List.length_cons]
      have := ih (a / 128) (b / 128) (Nat.div_le_div_right hab) (by omega)
      omega
theorem seven_sum {a b : Nat} (h : a + (seven a).length = b + (seven b).length) : a = b := by
  rcases Nat.lt_trichotomy a b with h1 | h1 | h1
  · have := seven_mono (b + 1) a b (by omega) (by omega); omega
  · exact h1
  · have := seven_mono (a + 1) b a (by omega) (by omega); omega
theorem turn80 {r : Nat} (hr : r < 8) : UInt8.ofNat (UInt8.toNat 80 ^^^ 2 ^ r) ≠ 80 := turn_ne 80 hr
/-- a page of which one bit is turned is none of the same length -/
theorem bodyR_turn (b : List UInt8) (q r : Nat) (hr : r < 8) (hq : q < (pageOf b).length) (b' : List UInt8) (u : Nat) (h : bodyR ((pageOf b).set q (UInt8.ofNat ((pageOf b)[q].toNat ^^^ 2 ^ r))) = .ok b' u) : u ≠ (pageOf b).length := by
  intro hu
  obtain ⟨R, hR⟩ : ∃ R, R = seven b.length ++ (little 4 (crc b) ++ b) := ⟨_, rfl⟩
  have hP : pageOf b = 80 :: R := by rw [hR]; rfl
  have hl : R.length = (seven b.length).length + (4 + b.length) := by rw [hR, List.length_append, List.length_append, little_len]
  rw [hP, List.length_cons] at hu
  simp only [hP] at h hq
  cases q with
  | zero =>
    simp only [List.set_cons_zero, List.getElem_cons_zero] at h
    rw [bodyR_cons', if_pos (turn80 hr)] at h
    cases h
  | succ q =>
    simp only [List.length_cons, Nat.add_lt_add_iff_right] at hq
    simp only [List.set_cons_succ, List.getElem_cons_succ] at h
    obtain ⟨x, hx⟩ : ∃ x, x = UInt8.ofNat (R[q].toNat ^^^ 2 ^ r) := ⟨_, rfl⟩
    have hxn : x ≠ R[q] := by rw [hx]; exact turn_ne _ hr
    rw [← hx, bodyR_cons', if_neg (by decide)] at h
    split at h
    · cases h
    · rename_i n k hU
      split at h
      · cases h
      · split at h
        · cases h
        · rename_i hle
          rw [List.length_set] at hle
          split at h
          · rename_i hs
            simp only [BodyR.ok.injEq] at h
            obtain ⟨-, rfl⟩ := h
            obtain ⟨hT, hk⟩ := readU_inv hU
            have hn : n = b.length := seven_sum (by omega)
            subst hn
            rw [← hk] at hl
            by_cases hqk : q < k
            · rw [List.take_set, hR, List.take_append_of_le_length (by omega), List.take_of_length_le (by omega)] at hT
              have := set_self' (by omega) hT
              refine hxn (this.trans ?_)
              simp only [hR]
              rw [List.getElem_append_left]
            · have hd : (R.set q x).drop k = (little 4 (crc b) ++ b).set (q - k) x := by
                rw [List.drop_set, if_neg hqk, hR, hk, List.drop_left]
              have hd4 : (R.set q x).drop (4 + k) = ((little 4 (crc b) ++ b).set (q - k) x).drop 4 := by rw [← hd, List.drop_drop, Nat.add_comm]
              rw [hd, hd4, List.take_set, List.take_append_of_le_length (by rw [little_len]; omega), List.take_of_length_le (by rw [little_len]; omega), List.drop_set] at hs
              have hg : R[q]? = (little 4 (crc b) ++ b)[q - k]? := by
                rw [hR, List.getElem?_append_right (by omega), hk]
              by_cases h4 : q - k < 4
              · rw [if_pos h4, List.drop_left' (little_len _ _), List.take_length] at hs
                have e := little_unlittle ((little 4 (crc b)).set (q - k) x)
                rw [List.length_set, little_len, hs] at e
                have := set_self' (by rw [little_len]; exact h4) e.symm
                rw [List.getElem?_append_left (by rw [little_len]; exact h4), List.getElem?_eq_getElem hq, List.getElem?_eq_getElem (by rw [little_len]; exact h4), Option.some.injEq] at hg
                exact hxn (this.trans hg.symm)
              · have hp : q - k - 4 < b.length := by omega
                rw [if_neg h4, List.drop_left' (little_len _ _), List.take_of_length_le (by rw [List.length_set]; omega), List.set_eq_of_length_le (by rw [little_len]; omega), unlittle_little _ _ (crc_lt b)] at hs
                rw [List.getElem?_append_right (by rw [little_len]; omega), little_len, List.getElem?_eq_getElem hq, List.getElem?_eq_getElem hp, Option.some.injEq] at hg
                rw [hx, hg] at hs
                exact crc_turn b _ r hp hr hs.symm
          · cases h
/-- the page that is read of it, if one is, is of another length -/
theorem pageR_turn (f : Lf) (b : List UInt8) (q r : Nat) (hr : r < 8) (hq : q < (pageOf b).length) (c : Col) (u : Nat) (h : pageR f ((pageOf b).set q (UInt8.ofNat ((pageOf b)[q].toNat ^^^ 2 ^ r))) = .inr (c, u)) : u ≠ (pageOf b).length := by
  unfold pageR at h
  split at h
  · cases h
  · split at h
    · cases h
    · cases h
    · rename_i b' u' hb
      split at h
      · cases h
      · simp only [Sum.inr.injEq, Prod.mk.injEq] at h
        obtain ⟨-, rfl⟩ := h
        exact bodyR_turn b q r hr hq _ _ hb
end Go.Proofs.YtaebhilgmmfalaaDoor
