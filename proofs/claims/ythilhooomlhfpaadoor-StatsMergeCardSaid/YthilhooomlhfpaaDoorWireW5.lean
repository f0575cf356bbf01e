/- The walks of wire.ReadUvarint, wire.ReadVarint. -/
import Derived.Test.YthilhooomlhfpaaDoorWireW1
import Derived.Test.YthilhooomlhfpaaDoorWire4
import Derived.Deep.QuietTactic
import Derived.BigQuiet
import Derived.Laws.DeepNot64
namespace Go.Proofs.YthilhooomlhfpaaDoor
open Go Go.RowKit

/-- what ReadUvarint hands back; ev: what stands for its error -/
def uRet (ev : Value) : Option (Nat × Nat) → Value
  | some (n, k) => .tuple #[.int .u64 (n : Int), .int .i64 (k : Int), .nilIface]
  | none => .tuple #[.int .u64 0, .int .i64 0, ev]

theorem drop_cons (s : ByteArray) (k : Nat) (h : k < s.size) : s.data.toList.drop k = s[k] :: s.data.toList.drop (k + 1) := by
  rw [List.drop_eq_getElem_cons (by simpa using h)]; rfl

/-- 'n |= uint64(c & 0x7f) << (7 * i)' -/
theorem or_acc (acc m k : Nat) (hk : k ≤ 9) (h9 : k = 9 → m ≤ 1) (ha : acc < 128 ^ k) :
    bits .or .u64 (acc : Int) (IntKind.u64.wrap ((m : Int) % 128 * 2 ^ (7 * k))) = ((acc + m % 128 * 128 ^ k : Nat) : Int) := by
  have e : (2 : Nat) ^ (7 * k) = 128 ^ k := by rw [Nat.pow_mul]
  have hb : acc + m % 128 * 128 ^ k < 18446744073709551616 := by
    by_cases h : k = 9
    · subst h
      have := h9 rfl
      have h2 : m % 128 * 128 ^ 9 ≤ 1 * 128 ^ 9 := Nat.mul_le_mul_right _ (by omega)
      omega
    · have h1 : (128 : Nat) ^ k ≤ 128 ^ 8 := Nat.pow_le_pow_right (by decide) (by omega)
      have h2 : m % 128 * 128 ^ k ≤ 127 * 128 ^ 8 := Nat.mul_le_mul (by omega) h1
      omega
  rw [IntKind.wrap_u64, show ((m : Int) % 128 * 2 ^ (7 * k)) = ((m % 128 * 2 ^ (7 * k) : Nat) : Int) by simp, e]
  generalize hx : m % 128 * 128 ^ k = x at *
  rw [show ((x : Int) % 18446744073709551616) = (x : Int) by omega, u64_or_nat _ _ (by omega) (by omega)]
  congr 1
  rw [Nat.or_comm, Nat.add_comm]
  rw [← e] at ha hx
  refine nat_join (7 * k) _ _ ?_ ha
  rw [← hx]
  exact Nat.mul_mod_left _ _

set_option maxRecDepth 100000 in
set_option maxHeartbeats 1000000 in
theorem readUvarint_any (s : ByteArray) (ev : Value) (w : World) (hs : s.size ≤ maxLen) (hev : w.cell? ⟨1, 0, none⟩ = some ev) :
    Calls Tryd.prog 90 #[.string s] w fun e w' => e = .returned (uRet ev (readU s.data.toList)) ∧ Below w.heap.size w w' := by
  unfold maxLen at hs
  go_enter Tryd.func90, Tryd.ntmps90
  go_wp2
  go_loop [2, 5, 6] (fun n i _ => ∃ k acc : Nat, k ≤ s.size ∧ k ≤ 10 ∧ i = .int .i64 k ∧ n = .int .u64 acc ∧ acc < 128 ^ k ∧ rdU k (s.data.toList.drop k) acc = readU s.data.toList) (fun _ i _ => 10 - (intOf i).toNat)
  case atStart => exact ⟨0, 0, by omega, by omega, rfl, rfl, by decide, rfl⟩
  case round =>
    obtain ⟨k, acc, hk, hk10, rfl, rfl, hacc, hrd⟩ := hrel
    by_cases hlt : k < s.size
    · by_cases h10 : k < 10
      · rw [drop_cons s k hlt, rdU] at hrd
        have hb := s[k].toNat_lt
        obtain ⟨m, hm⟩ : ∃ m, s[k].toNat = m := ⟨_, rfl⟩
        rw [hm] at hrd hb
        by_cases hbad : 10 ≤ k ∨ (k = 9 ∧ 1 < m) ∨ (m = 0 ∧ 0 < k)
        · rw [if_pos hbad] at hrd
          have Hrd := Lib.hid hrd; clear hrd
          by_cases h9 : k = 9 ∧ 1 < m
          · obtain ⟨rfl, h1⟩ := h9
            have b1 : decide (1 < (m : Int)) = true := by simp; omega
            clear hbad
            go_wp2
            go_quiet (fail)
            go_wp2
            go_ret3
            exact ⟨by rw [← Hrd.out]; rfl, below_drewN (Below.refl _ _) _⟩
          · obtain ⟨rfl, h1⟩ : m = 0 ∧ 0 < k := by omega
            clear hbad
            by_cases h9' : k = 9
            · subst h9'
              clear h9
              go_wp2
              go_quiet (fail)
              go_wp2
              go_ret3
              exact ⟨by rw [← Hrd.out]; rfl, below_drewN (Below.refl _ _) _⟩
            · have b9 : ((k : Int) == 9) = false := by simp; omega
              have b0 : decide (0 < (k : Int)) = true := by simp; omega
              clear h9 h9'
              go_wp2
              go_quiet (fail)
              go_wp2
              go_ret3
              exact ⟨by rw [← Hrd.out]; rfl, below_drewN (Below.refl _ _) _⟩
        · rw [if_neg hbad] at hrd
          have n1 : k = 9 → m ≤ 1 := by omega
          have n2 : m = 0 → k = 0 := by omega
          clear hbad
          have ha : bits .and .u8 (m : Int) 127 = (m : Int) % 128 := by
            rw [show (127 : Int) = ((127 : Nat) : Int) from rfl, u8_and_nat m 127 (by omega) (by decide), nat_mask7]; rfl
          have hor := or_acc acc m k (by omega) n1 hacc
          have hacc' : acc + m % 128 * 128 ^ k < 128 ^ (k + 1) := by
            have h3 : m % 128 * 128 ^ k ≤ 127 * 128 ^ k := Nat.mul_le_mul_right _ (by omega)
            rw [Nat.pow_succ]; omega
          have Hor := Lib.hid hor; have Hacc' := Lib.hid hacc'; clear hor hacc hacc'
          have b0 : ((m : Int) == 0) = decide (m = 0) := by rw [Bool.eq_iff_iff]; simp
          by_cases h9 : k = 9
          · have b9 : ((k : Int) == 9) = true := by simp; omega
            have b1 : decide (1 < (m : Int)) = false := by simp; have := n1 h9; omega
            have bm : ((m : Int) == 0) = false := by simp; omega
            have h128 : m < 128 := by omega
            rw [if_pos h128] at hrd
            have Hrd := Lib.hid hrd; clear hrd n1 n2 h9 b0
            go_wp2
            go_ret3
            refine ⟨ret_of ?_, Below.refl _ _⟩
            rw [← Hrd.out]
            show Value.tuple #[.int .u64 (bits .or .u64 _ _), _, _] = _
            rw [Hor.out, Nat.mod_eq_of_lt h128]
            rfl
          · have b9 : ((k : Int) == 9) = false := by simp; omega
            clear n1 h9 b0
            by_cases h0 : m = 0
            · have h00 := n2 h0
              have bm : ((m : Int) == 0) = true := by simp; omega
              have b0 : decide (0 < k) = false := by simp; omega
              have h128 : m < 128 := by omega
              rw [if_pos h128] at hrd
              have Hrd := Lib.hid hrd; clear hrd n2 h0 h00
              go_wp2
              go_ret3
              refine ⟨ret_of ?_, Below.refl _ _⟩
              rw [← Hrd.out]
              show Value.tuple #[.int .u64 (bits .or .u64 _ _), _, _] = _
              rw [Hor.out, Nat.mod_eq_of_lt h128]
              rfl
            · have bm : ((m : Int) == 0) = false := by simp; omega
              by_cases h128 : m < 128
              · rw [if_pos h128] at hrd
                have Hrd := Lib.hid hrd; clear hrd n2
                go_wp2
                go_ret3
                refine ⟨ret_of ?_, Below.refl _ _⟩
                rw [← Hrd.out]
                show Value.tuple #[.int .u64 (bits .or .u64 _ _), _, _] = _
                rw [Hor.out, Nat.mod_eq_of_lt h128]
                rfl
              · rw [if_neg h128] at hrd
                have Hrd := Lib.hid hrd; clear hrd n2
                go_wp2
                go_roundw
                case rel => exact ⟨k + 1, acc + m % 128 * 128 ^ k, by omega, by omega, by go_num, by rw [Hor.out], Hacc'.out, Hrd.out⟩
                case measure => simp [intOf]; omega
      · obtain rfl : k = 10 := by omega
        have hnone : readU s.data.toList = none := by
          rw [← hrd, drop_cons s 10 hlt, rdU, if_pos (.inl (Nat.le_refl _))]
        have Hrd := Lib.hid hnone; clear hrd hnone hacc
        go_wp2
        go_quiet (fail)
        go_wp2
        go_ret3
        exact ⟨by rw [Hrd.out]; rfl, below_drewN (Below.refl _ _) _⟩
    · have hnone : readU s.data.toList = none := by
        rw [← hrd, List.drop_of_length_le (by simp; omega), rdU]
      have Hrd := Lib.hid hnone; clear hrd hnone
      go_wp2
      go_quiet (fail)
      go_wp2
      go_ret3
      exact ⟨by rw [Hrd.out]; rfl, below_drewN (Below.refl _ _) _⟩
theorem readUvarint_some (s : ByteArray) (ev : Value) (w : World) (hs : s.size ≤ maxLen) (hev : w.cell? ⟨1, 0, none⟩ = some ev) {n k : Nat} (h : readU s.data.toList = some (n, k)) :
    Calls Tryd.prog 90 #[.string s] w fun e w' => e = .returned (.tuple #[.int .u64 (n : Int), .int .i64 (k : Int), .nilIface]) ∧ Below w.heap.size w w' :=
  (readUvarint_any s ev w hs hev).mono fun _ _ ⟨h1, h2⟩ => ⟨by rw [h1, h]; rfl, h2⟩
theorem readUvarint_none (s : ByteArray) (ev : Value) (w : World) (hs : s.size ≤ maxLen) (hev : w.cell? ⟨1, 0, none⟩ = some ev) (h : readU s.data.toList = none) :
    Calls Tryd.prog 90 #[.string s] w fun e w' => e = .returned (.tuple #[.int .u64 0, .int .i64 0, ev]) ∧ Below w.heap.size w w' :=
  (readUvarint_any s ev w hs hev).mono fun _ _ ⟨h1, h2⟩ => ⟨by rw [h1, h]; rfl, h2⟩

theorem bits_xor_comm (k : IntKind) (x y : Int) : bits .xor k x y = bits .xor k y x := by
  unfold bits
  simp only [BitVec.xor_comm]
theorem xor_zero_i64 (a : Nat) (ha : a < 9223372036854775808) : bits .xor .i64 (a : Int) 0 = (a : Int) := by
  show IntKind.i64.wrap ((BitVec.ofInt 64 (a : Int) ^^^ BitVec.ofInt 64 0).toNat : Int) = _
  rw [show BitVec.ofInt 64 0 = 0#64 by decide, BitVec.xor_zero, ofInt_u64 a (by omega), IntKind.wrap_i64]
  omega
/-- 'int64(u>>1) ^ -int64(u&1)' -/
theorem unzig_xor (u : Nat) (h : u < 18446744073709551616) :
    bits .xor .i64 ((u : Int) / 2) (wrap64 (-wrap64 (bits .and .u64 (u : Int) 1))) = unzig u := by
  unfold unzig
  rw [show (1 : Int) = ((1 : Nat) : Int) from rfl, u64_and_nat u 1 h (by decide), nat_mask1, show ((u : Int) / 2) = ((u / 2 : Nat) : Int) by omega]
  rcases Nat.mod_two_eq_zero_or_one u with h0 | h0
  · rw [if_neg (by omega), h0, show wrap64 (-wrap64 ((0 : Nat) : Int)) = 0 by decide +kernel]
    exact xor_zero_i64 _ (by omega)
  · rw [if_pos h0, h0, show wrap64 (-wrap64 ((1 : Nat) : Int)) = -1 by decide +kernel, bits_xor_comm, i64_not _ (by omega)]
    omega

def vRet (ev : Value) : Option (Int × Nat) → Value
  | some (n, k) => .tuple #[.int .i64 n, .int .i64 (k : Int), .nilIface]
  | none => .tuple #[.int .i64 0, .int .i64 0, ev]

set_option maxRecDepth 100000 in
set_option maxHeartbeats 1000000 in
theorem readVarint_any (s : ByteArray) (ev : Value) (w : World) (hs : s.size ≤ maxLen) (hev : w.cell? ⟨1, 0, none⟩ = some ev) :
    Calls Tryd.prog 139 #[.string s] w fun e w' => e = .returned (vRet ev (readV s.data.toList)) ∧ Below w.heap.size w w' := by
  cases hr : readU s.data.toList with
  | none =>
    have hv : readV s.data.toList = none := by simp [readV, hr]
    rw [hv]
    go_enter Tryd.func139, Tryd.ntmps139
    go_wp2_with (go_at_call 90; refine (readUvarint_none s ev _ hs hev hr).mono ?_; rintro e w1 ⟨rfl, hb1⟩)
    go_ret3
    refine ⟨ret_of ?_, hb1⟩
    show Value.tuple #[.int .i64 (bits .xor .i64 0 (wrap64 (-wrap64 (bits .and .u64 0 1)))), _, _] = _
    rw [show bits .xor .i64 0 (wrap64 (-wrap64 (bits .and .u64 0 1))) = 0 by decide +kernel]
    rfl
  | some x =>
    obtain ⟨n, k⟩ := x
    have hv : readV s.data.toList = some (unzig n, k) := by simp [readV, hr]
    rw [hv]
    have hl := readU_lt hr
    go_enter Tryd.func139, Tryd.ntmps139
    go_wp2_with (go_at_call 90; refine (readUvarint_some s ev _ hs hev hr).mono ?_; rintro e w1 ⟨rfl, hb1⟩)
    go_ret3
    refine ⟨ret_of ?_, hb1⟩
    show Value.tuple #[.int .i64 (bits .xor .i64 ((n : Int) / 2) (wrap64 (-wrap64 (bits .and .u64 (n : Int) 1)))), _, _] = _
    rw [unzig_xor n hl.1]
    rfl
end Go.Proofs.YthilhooomlhfpaaDoor
