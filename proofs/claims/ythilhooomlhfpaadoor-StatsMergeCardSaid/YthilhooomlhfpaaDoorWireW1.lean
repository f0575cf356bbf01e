/- The walks of wire.Uvarint, wire.Varint and the document's Byte, Seven, Signed. -/
import Derived.Test.YthilhooomlhfpaaDoorRows
import Derived.Test.YthilhooomlhfpaaDoorK
import Derived.Test.YthilhooomlhfpaaDoorWire1
import Derived.IntWalk
namespace Go.Proofs.YthilhooomlhfpaaDoor
open Go Go.RowKit

theorem info_u8 : (Tryd.prog.info? 5).map (fun i => (i.zero, i.size, i.bytes)) = some (some (.int .u8 0), 1, 1) := by kernel_rfl

theorem byteV_ofNat {n : Int} {m : Nat} (h : n = (m : Int)) (hm : m < 256) : (.int .u8 n : Value) = byteV (UInt8.ofNat m) := by
  subst h; unfold byteV; rw [UInt8.toNat_ofNat', Nat.mod_eq_of_lt hm]

theorem or_top (x : Nat) (h : x < 256) : x ||| 128 = x % 128 + 128 := by
  by_cases hx : x < 128
  · rw [Nat.or_comm, Nat.mod_eq_of_lt hx, Nat.add_comm]
    exact nat_join 7 128 x (by decide) hx
  · have : x = 128 + x % 128 := by omega
    rw [this, ← nat_join 7 128 (x % 128) (by decide) (by omega), Nat.or_comm, ← Nat.or_assoc, Nat.or_self, nat_join 7 128 _ (by decide) (by omega)]
    omega

theorem or128 (m : Nat) : bits .or .u8 ((m : Int) % 256) 128 = ((m % 128 + 128 : Nat) : Int) := by
  have h : ((m : Int) % 256) = ((m % 256 : Nat) : Int) := by omega
  rw [h]
  have := u8_or_nat (m % 256) 128 (by omega) (by omega)
  rw [show ((128 : Nat) : Int) = 128 from rfl] at this
  rw [this]
  congr 1
  have e := or_top (m % 256) (by omega)
  rw [e]
  omega

set_option maxRecDepth 100000 in
set_option maxHeartbeats 400000 in
theorem uvarint_any (n : Int) (w : World) (h0 : 0 ≤ n) (h1 : n < 18446744073709551616) :
    Calls Tryd.prog 54 #[.int .u64 n] w fun e w' => e = .returned (.string ⟨(seven n.toNat).toArray⟩) ∧ Below w.heap.size w w' := by
  obtain ⟨i0, hi, hz0, hz1, hz2⟩ := info_parts info_u8
  have hlen := seven_len (n := n.toNat) (by omega)
  go_enter Tryd.func54, Tryd.ntmps54
  go_wp2
  go_loopw [0, 3] (fun x v wr => ∃ (m : Nat) (l : List UInt8), x = .int .u64 m ∧ m < 18446744073709551616 ∧ wr.ownsRow w.heap.size 5 1 v l.length (l.map byteV) ∧ l ++ seven m = seven n.toNat ∧ Below w.heap.size w wr) (fun x _ _ => (intOf x).toNat)
  case atStart => exact ⟨n.toNat, [], by simp; omega, by omega, World.ownsRow_nil _ _ _ _, by simp, Below.refl _ _⟩
  case round =>
    obtain ⟨m, l, rfl, hm, hown, hsev, hb⟩ := hrel
    have hl : l.length ≤ 10 := by rw [← hsev, List.length_append] at hlen; omega
    have Hs := Lib.hid hsev; clear hsev
    have Ho := Lib.hid hown; clear hown
    have h63 : l.length + 1 ≤ maxLen := by unfold maxLen; omega
    by_cases hlt : 128 ≤ m
    · go_wp2_with (at_builtin; refine wpList_push rfl _ _ 78 rfl w.heap.size 5 i0 (.int .u8 0) 1 Tryd.underlying78 hi hz0 hz1 hz2 rfl byteV byteV_one _ _ rfl Ho.out _ _ rfl h63 (by omega) hb.size (UInt8.ofNat (m % 128 + 128)) (byteV_ofNat (or128 m) (by omega)) ?_; intro v' w1 hown' hb' hnn; have Ho' := Lib.hid hown'; clear hown')
      go_roundw
      case rel => exact ⟨m / 128, l ++ [UInt8.ofNat (m % 128 + 128)], by go_num, by omega, Ho'.out, by rw [← Hs.out, seven_ge hlt]; simp, hb.trans hb'⟩
      case measure => simp [intOf]; omega
    · go_wp2_with (at_builtin; refine wpList_push rfl _ _ 78 rfl w.heap.size 5 i0 (.int .u8 0) 1 Tryd.underlying78 hi hz0 hz1 hz2 rfl byteV byteV_one _ _ rfl Ho.out _ _ rfl h63 (by omega) hb.size (UInt8.ofNat m) (byteV_ofNat rfl (by omega)) ?_; intro v' w1 hown' hb' hnn; have hstr := run_own_string (src := 78) (dst := 9) Tryd.underlying78 Tryd.underlying5 Tryd.underlying9 hown'; have Ho' := Lib.hid hown'; clear hown')
      go_ret
      exact ⟨ret_of (str_of (by rw [← Hs.out, seven_lt (by omega)])), hb.trans hb'⟩

set_option maxHeartbeats 400000 in
theorem byte_any (n : Int) (w : World) :
    Calls Tryd.prog 57 #[.int .i64 n] w fun e w' => e = .returned (.string ⟨#[UInt8.ofNat (n % 256).toNat]⟩) ∧ Below w.heap.size w w' := by
  have hs := run_lit_string (P := Tryd.prog) (src := 78) (dst := 9) w (n % 256) Tryd.underlying78 Tryd.underlying5 Tryd.underlying9 (by omega) (by omega)
  go_enter Tryd.func57, Tryd.ntmps57
  go_wp2
  go_ret
  exact ⟨rfl, (Below.refl _ _).alloc (Nat.le_refl _) _⟩

set_option maxRecDepth 100000 in
set_option maxHeartbeats 400000 in
theorem sevenOf_any (n : Int) (w : World) (h0 : 0 ≤ n) (h1 : n < 18446744073709551616) :
    Calls Tryd.prog 87 #[.int .u64 n] w fun e w' => e = .returned (.string ⟨(seven n.toNat).toArray⟩) ∧ Below w.heap.size w w' := by
  have hlen := seven_len (n := n.toNat) (by omega)
  go_enter Tryd.func87, Tryd.ntmps87
  go_wp2
  go_loopw [0, 3] (fun x v wr => ∃ (m : Nat) (l : List UInt8), x = .int .u64 m ∧ m < 18446744073709551616 ∧ v = .string ⟨l.toArray⟩ ∧ l ++ seven m = seven n.toNat ∧ Below w.heap.size w wr) (fun x _ _ => (intOf x).toNat)
  case atStart => exact ⟨n.toNat, [], by simp; omega, by omega, rfl, by simp, Below.refl _ _⟩
  case round =>
    obtain ⟨m, l, rfl, hm, rfl, hsev, hb⟩ := hrel
    have hl : l.length ≤ 10 := by rw [← hsev, List.length_append] at hlen; omega
    have Hs := Lib.hid hsev; clear hsev
    by_cases hlt : 127 < m
    · go_wp2_with (go_at_call 57; refine (byte_any _ _).mono ?_; rintro e w1 ⟨rfl, hb1⟩)
      go_roundw
      case rel => exact ⟨m / 128, l ++ [UInt8.ofNat (m % 128 + 128)], by go_num, by omega, by rw [ByteArray.mk_append_mk l [_], Nat.mod_eq_of_lt (show m % 128 + 128 < 256 by omega)], by rw [← Hs.out, seven_ge (show 128 ≤ m by omega), List.append_assoc]; rfl, below_trans hb hb1⟩
      case measure => simp [intOf]; omega
    · go_wp2_with (go_at_call 57; refine (byte_any _ _).mono ?_; rintro e w1 ⟨rfl, hb1⟩)
      go_ret
      exact ⟨ret_of (by show Value.string (_ ++ _) = _; rw [ByteArray.mk_append_mk l [_], ← Hs.out, seven_lt (by omega), Nat.mod_eq_of_lt (show m < 256 by omega)]), below_trans hb hb1⟩

theorem u64_wrap_neg (n : Int) (h0 : -9223372036854775808 ≤ n) (h1 : n < 0) : n % 18446744073709551616 = n + 18446744073709551616 := by omega

theorem xor_ones (a : Nat) (h : a < 18446744073709551616) : a ^^^ 18446744073709551615 = 18446744073709551615 - a := by
  have e : (BitVec.ofNat 64 a ^^^ BitVec.allOnes 64).toNat = (~~~ (BitVec.ofNat 64 a)).toNat := by rw [BitVec.xor_allOnes]
  rw [BitVec.toNat_xor, BitVec.toNat_not, BitVec.toNat_ofNat, BitVec.toNat_allOnes, Nat.mod_eq_of_lt h] at e
  exact e

theorem zig_xor (n : Int) (h0 : -9223372036854775808 ≤ n) (h1 : n < 9223372036854775808) :
    bits .xor .u64 (IntKind.u64.wrap (IntKind.u64.wrap n * 2)) (IntKind.u64.wrap (n / 9223372036854775808)) = ((zig n : Nat) : Int) := by
  simp only [IntKind.wrap_u64]
  unfold zig
  by_cases h : n < 0
  · rw [if_pos h]
    obtain ⟨a, ha⟩ : ∃ a : Nat, n % 18446744073709551616 * 2 % 18446744073709551616 = (a : Int) := ⟨(n % 18446744073709551616 * 2 % 18446744073709551616).toNat, by omega⟩
    have e1 : n / 9223372036854775808 % 18446744073709551616 = ((18446744073709551615 : Nat) : Int) := by omega
    rw [e1, ha, u64_xor_nat a _ (by omega) (by omega), xor_ones a (by omega)]
    omega
  · rw [if_neg h]
    obtain ⟨a, ha⟩ : ∃ a : Nat, n % 18446744073709551616 * 2 % 18446744073709551616 = (a : Int) := ⟨(n % 18446744073709551616 * 2 % 18446744073709551616).toNat, by omega⟩
    have e1 : n / 9223372036854775808 % 18446744073709551616 = ((0 : Nat) : Int) := by omega
    rw [e1, ha, u64_xor_nat a _ (by omega) (by omega), Nat.xor_zero]
    omega

set_option maxRecDepth 100000 in
set_option maxHeartbeats 400000 in
theorem varint_any (n : Int) (w : World) (h0 : -9223372036854775808 ≤ n) (h1 : n < 9223372036854775808) :
    Calls Tryd.prog 148 #[.int .i64 n] w fun e w' => e = .returned (.string ⟨(seven (zig n)).toArray⟩) ∧ Below w.heap.size w w' := by
  have hz := zig_xor n h0 h1
  have hl := zig_lt h0 h1
  go_enter Tryd.func148, Tryd.ntmps148
  go_wp2_with (go_at_call 54; refine (uvarint_any _ _ (by omega) (by omega)).mono ?_; rintro e w1 ⟨rfl, hb1⟩)
  go_ret
  exact ⟨rfl, hb1⟩


end Go.Proofs.YthilhooomlhfpaaDoor
