/- The walks of the document's ReadSeven, ReadSigned, ReadLong. -/
import Derived.Test.YtddefnnimbjnaaaDoorWireW6
namespace Go.Proofs.YtddefnnimbjnaaaDoor
open Go Go.RowKit

/-- what ReadSeven hands back -/
def sRet : Option (Nat × Nat) → Value
  | some (n, k) => .tuple #[.int .u64 (n : Int), .int .i64 (k : Int)]
  | none => .tuple #[.int .u64 0, .int .i64 0]

/-- 'n + c%128<<(7*i)' -/
theorem add_acc (acc m k : Nat) (hk : k ≤ 9) (h9 : k = 9 → m ≤ 1) (ha : acc < 128 ^ k) :
    IntKind.u64.wrap ((acc : Int) + IntKind.u64.wrap ((m : Int) % 128 * 2 ^ (7 * k))) = ((acc + m % 128 * 128 ^ k : Nat) : Int) := by
  have e : (2 : Nat) ^ (7 * k) = 128 ^ k := by rw [Nat.pow_mul]
  have hb : acc + m % 128 * 128 ^ k < 18446744073709551616 := by
    by_cases h : k = 9
    · subst h
      have := h9 rfl
      have h2 : m % 128 * 128 ^ 9 ≤ 1 * 128 ^ 9 := Nat.mul_le_mul_right _ (by omega)
      omega
    · have h1 : (128 : Nat) ^ k ≤ 128 ^ 8 := Nat.pow_le_pow_right (by decide) (by omega)
      have h2 : m % 128 * 128 ^ k ≤ 127 * 128 ^ 8 := Nat.mul_le_mul (by omega) h1
      omega
  rw [IntKind.wrap_u64, IntKind.wrap_u64, show ((m : Int) % 128 * 2 ^ (7 * k)) = ((m % 128 * 2 ^ (7 * k) : Nat) : Int) by simp, e]
  generalize m % 128 * 128 ^ k = x at *
  omega

set_option maxRecDepth 100000 in
set_option maxHeartbeats 1000000 in
theorem readSeven_any (s : ByteArray) (w : World) (hs : s.size ≤ maxLen) :
    Calls Tryd.prog 84 #[.string s] w fun e w' => e = .returned (sRet (readU s.data.toList)) ∧ w' = w := by
  unfold maxLen at hs
  go_enter Tryd.func84, Tryd.ntmps84
  go_wp2
  go_loop [4, 5, 6] (fun n i _ => ∃ k acc : Nat, k ≤ s.size ∧ k ≤ 10 ∧ i = .int .i64 k ∧ n = .int .u64 acc ∧ acc < 128 ^ k ∧ rdU k (s.data.toList.drop k) acc = readU s.data.toList) (fun _ i _ => 10 - (intOf i).toNat)
  case atStart => exact ⟨0, 0, by omega, by omega, rfl, rfl, by decide, rfl⟩
  case round =>
    obtain ⟨k, acc, hk, hk10, rfl, rfl, hacc, hrd⟩ := hrel
    by_cases hlt : k < s.size
    · by_cases h10 : k < 10
      · rw [drop_cons s k hlt, rdU] at hrd
        have hb := s[k].toNat_lt
        obtain ⟨m, hm⟩ : ∃ m, s[k].toNat = m := ⟨_, rfl⟩
        rw [hm] at hrd hb
        by_cases hb9 : k = 9 ∧ 1 < m
        · rw [if_pos (.inr (.inl hb9))] at hrd
          have Hrd := Lib.hid hrd; clear hrd
          obtain ⟨h9, h1⟩ := hb9
          have b9 : ((k : Int) == 9) = true := by simp; omega
          have b1 : decide (1 < (m : Int)) = true := by simp; omega
          clear h9 h1
          go_wp2
          go_ret2
          exact ⟨by rw [← Hrd.out]; rfl, rfl⟩
        · have n1 : k = 9 → m ≤ 1 := by omega
          have hor := add_acc acc m k (by omega) n1 hacc
          have hacc' : acc + m % 128 * 128 ^ k < 128 ^ (k + 1) := by
            have h3 : m % 128 * 128 ^ k ≤ 127 * 128 ^ k := Nat.mul_le_mul_right _ (by omega)
            rw [Nat.pow_succ]; omega
          have Hor := Lib.hid hor; have Hacc' := Lib.hid hacc'; clear hor hacc hacc'
          have b9 : ((k : Int) == 9 && decide (1 < (m : Int))) = false := by
            rw [Bool.and_eq_false_iff]; simp; omega
          by_cases h9 : k = 9
          · have b91 : ((k : Int) == 9) = true := by simp; omega
            have b1 : decide (1 < (m : Int)) = false := by simp; have := n1 h9; omega
            clear b9 hb9
            by_cases h0 : m = 0
            · have bm : ((m : Int) == 0) = true := by simp; omega
              have b0 : decide (0 < k) = true := by simp; omega
              rw [if_pos (.inr (.inr (by omega)))] at hrd
              have h128 : m < 128 := by omega
              have Hrd := Lib.hid hrd; clear hrd n1 h9 h0
              go_wp2
              go_ret2
              exact ⟨by rw [← Hrd.out]; rfl, rfl⟩
            · have bm : ((m : Int) == 0) = false := by simp; omega
              have h128 : m < 128 := by have := n1 h9; omega
              rw [if_neg (by omega), if_pos h128] at hrd
              have Hrd := Lib.hid hrd; clear hrd n1 h9 h0
              go_wp2
              go_ret2
              refine ⟨ret_of ?_, rfl⟩
              rw [← Hrd.out]
              show Value.tuple #[.int .u64 (IntKind.u64.wrap _), _] = _
              rw [Hor.out, Nat.mod_eq_of_lt h128]
              rfl
          · have b91 : ((k : Int) == 9) = false := by simp; omega
            clear b9 hb9
            by_cases h0 : m = 0 ∧ 0 < k
            · have bm : ((m : Int) == 0) = true := by simp; omega
              have b0 : decide (0 < k) = true := by simp; omega
              rw [if_pos (.inr (.inr h0))] at hrd
              have h128 : m < 128 := by omega
              have Hrd := Lib.hid hrd; clear hrd n1 h9 h0
              go_wp2
              go_ret2
              exact ⟨by rw [← Hrd.out]; rfl, rfl⟩
            · by_cases h128 : m < 128
              · rw [if_neg (by omega), if_pos h128] at hrd
                have Hrd := Lib.hid hrd; clear hrd n1 h9
                by_cases hm0 : m = 0
                · have bm : ((m : Int) == 0) = true := by simp; omega
                  have b0 : decide (0 < k) = false := by simp; omega
                  clear h0 hm0
                  go_wp2
                  go_ret2
                  refine ⟨ret_of ?_, rfl⟩
                  rw [← Hrd.out]
                  show Value.tuple #[.int .u64 (IntKind.u64.wrap _), _] = _
                  rw [Hor.out, Nat.mod_eq_of_lt h128]
                  rfl
                · have bm : ((m : Int) == 0) = false := by simp; omega
                  clear h0 hm0
                  go_wp2
                  go_ret2
                  refine ⟨ret_of ?_, rfl⟩
                  rw [← Hrd.out]
                  show Value.tuple #[.int .u64 (IntKind.u64.wrap _), _] = _
                  rw [Hor.out, Nat.mod_eq_of_lt h128]
                  rfl
              · rw [if_neg (by omega), if_neg h128] at hrd
                have Hrd := Lib.hid hrd; clear hrd n1 h9 h0
                go_wp2
                go_round
                case rel => exact ⟨k + 1, acc + m % 128 * 128 ^ k, by omega, by omega, by go_num, by rw [Hor.out], Hacc'.out, Hrd.out⟩
                case measure => simp [intOf]; omega
      · obtain rfl : k = 10 := by omega
        have hnone : readU s.data.toList = none := by
          rw [← hrd, drop_cons s 10 hlt, rdU, if_pos (.inl (Nat.le_refl _))]
        have Hrd := Lib.hid hnone; clear hrd hnone hacc
        go_wp2
        go_ret2
        exact ⟨by rw [Hrd.out]; rfl, rfl⟩
    · have hnone : readU s.data.toList = none := by
        rw [← hrd, List.drop_of_length_le (by simp; omega), rdU]
      have Hrd := Lib.hid hnone; clear hrd hnone
      go_wp2
      go_ret2
      exact ⟨by rw [Hrd.out]; rfl, rfl⟩

theorem readSeven_some (s : ByteArray) (w : World) (hs : s.size ≤ maxLen) {n k : Nat} (h : readU s.data.toList = some (n, k)) :
    Calls Tryd.prog 84 #[.string s] w fun e w' => e = .returned (.tuple #[.int .u64 (n : Int), .int .i64 (k : Int)]) ∧ w' = w :=
  (readSeven_any s w hs).mono fun _ _ ⟨h1, h2⟩ => ⟨by rw [h1, h]; rfl, h2⟩
theorem readSeven_none (s : ByteArray) (w : World) (hs : s.size ≤ maxLen) (h : readU s.data.toList = none) :
    Calls Tryd.prog 84 #[.string s] w fun e w' => e = .returned (.tuple #[.int .u64 0, .int .i64 0]) ∧ w' = w :=
  (readSeven_any s w hs).mono fun _ _ ⟨h1, h2⟩ => ⟨by rw [h1, h]; rfl, h2⟩

set_option maxRecDepth 100000 in
set_option maxHeartbeats 1000000 in
theorem readSigned_some (s : ByteArray) (w : World) (hs : s.size ≤ maxLen) {n : Int} {k : Nat} (h : readV s.data.toList = some (n, k)) :
    Calls Tryd.prog 101 #[.string s] w fun e w' => e = .returned (.tuple #[.int .i64 n, .int .i64 (k : Int)]) ∧ w' = w := by
  cases hr : readU s.data.toList with
  | none => simp [readV, hr] at h
  | some x =>
    obtain ⟨u, k'⟩ := x
    obtain ⟨rfl, rfl⟩ : unzig u = n ∧ k' = k := by simpa [readV, hr] using h
    have hl := readU_lt hr
    have hl1 : (u : Int) < 18446744073709551616 := by omega
    have hu := hl.1
    clear hl h
    by_cases hodd : u % 2 = 1
    · have hz : unzig u = -((u : Int) / 2) - 1 := by unfold unzig; rw [if_pos hodd]; omega
      have b1 : (((u : Int) % 2) == 1) = true := by simp; omega
      have Hz := Lib.hid hz; clear hz hodd hl1
      go_enter Tryd.func101, Tryd.ntmps101
      go_wp2_with fail
      refine (readSeven_some s _ hs hr).mono ?_; rintro e w1 ⟨rfl, rfl⟩
      go_wp2_with fail
      go_ret2
      exact ⟨by rw [Hz.out]; rfl, rfl⟩
    · have hz : unzig u = (u : Int) / 2 := by unfold unzig; rw [if_neg hodd]; omega
      have b1 : (((u : Int) % 2) == 1) = false := by simp; omega
      have Hz := Lib.hid hz; clear hz hodd hl1
      go_enter Tryd.func101, Tryd.ntmps101
      go_wp2_with fail
      refine (readSeven_some s _ hs hr).mono ?_; rintro e w1 ⟨rfl, rfl⟩
      go_wp2_with fail
      go_ret2
      exact ⟨by rw [Hz.out]; rfl, rfl⟩
theorem readSigned_none (s : ByteArray) (w : World) (hs : s.size ≤ maxLen) (h : readV s.data.toList = none) :
    Calls Tryd.prog 101 #[.string s] w fun e w' => e = .returned (.tuple #[.int .i64 0, .int .i64 0]) ∧ w' = w := by
  have hr : readU s.data.toList = none := by simpa [readV] using h
  go_enter Tryd.func101, Tryd.ntmps101
  go_wp2_with fail
  refine (readSeven_none s _ hs hr).mono ?_; rintro e w1 ⟨rfl, rfl⟩
  go_wp2_with fail
  go_ret2
  exact ⟨rfl, rfl⟩
end Go.Proofs.YtddefnnimbjnaaaDoor
