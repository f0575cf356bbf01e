/- Merged texts: WireW1, WireW5, WireW6, WireW7, WireW8, WireW9. -/
import Derived.Test.YthfljcpfcnddhaaGreatDoorRows
import Derived.Test.YthfljcpfcnddhaaGreatDoorMPlain
import Derived.IntWalk
import Derived.Deep.QuietTactic
import Derived.BigQuiet
import Derived.Laws.DeepNot64

/- The walks of wire.Uvarint, wire.Varint and the document's Byte, Seven, Signed. -/
namespace Go.Proofs.YthfljcpfcnddhaaGreatDoor
open Go Go.RowKit

theorem info_u8 : (Tryz.prog.info? 5).map (fun i => (i.zero, i.size, i.bytes)) = some (some (.int .u8 0), 1, 1) := by kernel_rfl

theorem byteV_ofNat {n : Int} {m : Nat} (h : n = (m : Int)) (hm : m < 256) : (.int .u8 n : Value) = byteV (UInt8.ofNat m) := by
  subst h; unfold byteV; rw [UInt8.toNat_ofNat', Nat.mod_eq_of_lt hm]

theorem or_top (x : Nat) (h : x < 256) : x ||| 128 = x % 128 + 128 := by
  by_cases hx : x < 128
  · rw [Nat.or_comm, Nat.mod_eq_of_lt hx, Nat.add_comm]
    exact nat_join 7 128 x (by decide) hx
  · have : x = 128 + x % 128 := by omega
    rw [this, ← nat_join 7 128 (x % 128) (by decide) (by omega), Nat.or_comm, ← Nat.or_assoc, Nat.or_self, nat_join 7 128 _ (by decide) (by omega)]
    omega

theorem or128 (m : Nat) : bits .or .u8 ((m : Int) % 256) 128 = ((m % 128 + 128 : Nat) : Int) := by
  have h : ((m : Int) % 256) = ((m % 256 : Nat) : Int) := by omega
  rw [h]
  have := u8_or_nat (m % 256) 128 (by omega) (by omega)
  rw [show ((128 : Nat) : Int) = 128 from rfl] at this
  rw [this]
  congr 1
  have e := or_top (m % 256) (by omega)
  rw [e]
  omega

set_option maxHeartbeats 400000 in
theorem byte_any (n : Int) (w : World) :
    Calls Tryz.prog 75 #[.int .i64 n] w fun e w' => e = .returned (.string ⟨#[UInt8.ofNat (n % 256).toNat]⟩) ∧ Below w.heap.size w w' := by
  have hs := run_lit_string (P := Tryz.prog) (src := 130) (dst := 9) w (n % 256) Tryz.underlying130 Tryz.underlying5 Tryz.underlying9 (by omega) (by omega)
  go_enter Tryz.func75, Tryz.ntmps75
  go_wp2
  go_ret
  exact ⟨rfl, (Below.refl _ _).alloc (Nat.le_refl _) _⟩

theorem u64_wrap_neg (n : Int) (h0 : -9223372036854775808 ≤ n) (h1 : n < 0) : n % 18446744073709551616 = n + 18446744073709551616 := by omega

theorem xor_ones (a : Nat) (h : a < 18446744073709551616) : a ^^^ 18446744073709551615 = 18446744073709551615 - a := by
  have e : (BitVec.ofNat 64 a ^^^ BitVec.allOnes 64).toNat = (~~~ (BitVec.ofNat 64 a)).toNat := by rw [BitVec.xor_allOnes]
  rw [BitVec.toNat_xor, BitVec.toNat_not, BitVec.toNat_ofNat, BitVec.toNat_allOnes, Nat.mod_eq_of_lt h] at e
  exact e

theorem zig_xor (n : Int) (h0 : -9223372036854775808 ≤ n) (h1 : n < 9223372036854775808) :
    bits .xor .u64 (IntKind.u64.wrap (IntKind.u64.wrap n * 2)) (IntKind.u64.wrap (n / 9223372036854775808)) = ((zig n : Nat) : Int) := by
  simp only [IntKind.wrap_u64]
  unfold zig
  by_cases h : n < 0
  · rw [if_pos h]
    obtain ⟨a, ha⟩ : ∃ a : Nat, n % 18446744073709551616 * 2 % 18446744073709551616 = (a : Int) := ⟨(n % 18446744073709551616 * 2 % 18446744073709551616).toNat, by omega⟩
    have e1 : n / 9223372036854775808 % 18446744073709551616 = ((18446744073709551615 : Nat) : Int) := by omega
    rw [e1, ha, u64_xor_nat a _ (by omega) (by omega), xor_ones a (by omega)]
    omega
  · rw [if_neg h]
    obtain ⟨a, ha⟩ : ∃ a : Nat, n % 18446744073709551616 * 2 % 18446744073709551616 = (a : Int) := ⟨(n % 18446744073709551616 * 2 % 18446744073709551616).toNat, by omega⟩
    have e1 : n / 9223372036854775808 % 18446744073709551616 = ((0 : Nat) : Int) := by omega
    rw [e1, ha, u64_xor_nat a _ (by omega) (by omega), Nat.xor_zero]
    omega

end Go.Proofs.YthfljcpfcnddhaaGreatDoor

/- The walks of wire.ReadUvarint, wire.ReadVarint. -/
namespace Go.Proofs.YthfljcpfcnddhaaGreatDoor
open Go Go.RowKit

/-- what ReadUvarint hands back; ev: what stands for its error -/
def uRet (ev : Value) : Option (Nat × Nat) → Value
  | some (n, k) => .tuple #[.int .u64 (n : Int), .int .i64 (k : Int), .nilIface]
  | none => .tuple #[.int .u64 0, .int .i64 0, ev]

theorem drop_cons (s : ByteArray) (k : Nat) (h : k < s.size) : s.data.toList.drop k = s[k] :: s.data.toList.drop (k + 1) := by
  rw [List.drop_eq_getElem_cons (by simpa using h)]; rfl

/-- 'n |= uint64(c & 0x7f) << (7 * i)' -/
theorem or_acc (acc m k : Nat) (hk : k ≤ 9) (h9 : k = 9 → m ≤ 1) (ha : acc < 128 ^ k) :
    bits .or .u64 (acc : Int) (IntKind.u64.wrap ((m : Int) % 128 * 2 ^ (7 * k))) = ((acc + m % 128 * 128 ^ k : Nat) : Int) := by
  have e : (2 : Nat) ^ (7 * k) = 128 ^ k := by rw [Nat.pow_mul]
  have hb : acc + m % 128 * 128 ^ k < 18446744073709551616 := by
    by_cases h : k = 9
    · subst h
      have := h9 rfl
      have h2 : m % 128 * 128 ^ 9 ≤ 1 * 128 ^ 9 := Nat.mul_le_mul_right _ (by omega)
      omega
    · have h1 : (128 : Nat) ^ k ≤ 128 ^ 8 := Nat.pow_le_pow_right (by decide) (by omega)
      have h2 : m % 128 * 128 ^ k ≤ 127 * 128 ^ 8 := Nat.mul_le_mul (by omega) h1
      omega
  rw [IntKind.wrap_u64, show ((m : Int) % 128 * 2 ^ (7 * k)) = ((m % 128 * 2 ^ (7 * k) : Nat) : Int) by simp, e]
  generalize hx : m % 128 * 128 ^ k = x at *
  rw [show ((x : Int) % 18446744073709551616) = (x : Int) by omega, u64_or_nat _ _ (by omega) (by omega)]
  congr 1
  rw [Nat.or_comm, Nat.add_comm]
  rw [← e] at ha hx
  refine nat_join (7 * k) _ _ ?_ ha
  rw [← hx]
  exact Nat.mul_mod_left _ _

theorem bits_xor_comm (k : IntKind) (x y : Int) : bits .xor k x y = bits .xor k y x := by
  unfold bits
  simp only [BitVec.xor_comm]
theorem xor_zero_i64 (a : Nat) (ha : a < 9223372036854775808) : bits .xor .i64 (a : Int) 0 = (a : Int) := by
  show IntKind.i64.wrap ((BitVec.ofInt 64 (a : Int) ^^^ BitVec.ofInt 64 0).toNat : Int) = _
  rw [show BitVec.ofInt 64 0 = 0#64 by decide, BitVec.xor_zero, ofInt_u64 a (by omega), IntKind.wrap_i64]
  omega
/-- 'int64(u>>1) ^ -int64(u&1)' -/
theorem unzig_xor (u : Nat) (h : u < 18446744073709551616) :
    bits .xor .i64 ((u : Int) / 2) (wrap64 (-wrap64 (bits .and .u64 (u : Int) 1))) = unzig u := by
  unfold unzig
  rw [show (1 : Int) = ((1 : Nat) : Int) from rfl, u64_and_nat u 1 h (by decide), nat_mask1, show ((u : Int) / 2) = ((u / 2 : Nat) : Int) by omega]
  rcases Nat.mod_two_eq_zero_or_one u with h0 | h0
  · rw [if_neg (by omega), h0, show wrap64 (-wrap64 ((0 : Nat) : Int)) = 0 by decide +kernel]
    exact xor_zero_i64 _ (by omega)
  · rw [if_pos h0, h0, show wrap64 (-wrap64 ((1 : Nat) : Int)) = -1 by decide +kernel, bits_xor_comm, i64_not _ (by omega)]
    omega

def vRet (ev : Value) : Option (Int × Nat) → Value
  | some (n, k) => .tuple #[.int .i64 n, .int .i64 (k : Int), .nilIface]
  | none => .tuple #[.int .i64 0, .int .i64 0, ev]

end Go.Proofs.YthfljcpfcnddhaaGreatDoor

/- The walks of wire.Text, wire.ReadText. -/
namespace Go.Proofs.YthfljcpfcnddhaaGreatDoor
open Go Go.RowKit

def tRet (ev : Value) : Option (List UInt8 × Nat) → Value
  | some (t, k) => .tuple #[.string ⟨t.toArray⟩, .int .i64 (k : Int), .nilIface]
  | none => .tuple #[.string ⟨#[]⟩, .int .i64 0, ev]

end Go.Proofs.YthfljcpfcnddhaaGreatDoor

/- The walks of the document's ReadSeven, ReadSigned, ReadLong. -/
namespace Go.Proofs.YthfljcpfcnddhaaGreatDoor
open Go Go.RowKit

/-- what ReadSeven hands back -/
def sRet : Option (Nat × Nat) → Value
  | some (n, k) => .tuple #[.int .u64 (n : Int), .int .i64 (k : Int)]
  | none => .tuple #[.int .u64 0, .int .i64 0]

/-- 'n + c%128<<(7*i)' -/
theorem add_acc (acc m k : Nat) (hk : k ≤ 9) (h9 : k = 9 → m ≤ 1) (ha : acc < 128 ^ k) :
    IntKind.u64.wrap ((acc : Int) + IntKind.u64.wrap ((m : Int) % 128 * 2 ^ (7 * k))) = ((acc + m % 128 * 128 ^ k : Nat) : Int) := by
  have e : (2 : Nat) ^ (7 * k) = 128 ^ k := by rw [Nat.pow_mul]
  have hb : acc + m % 128 * 128 ^ k < 18446744073709551616 := by
    by_cases h : k = 9
    · subst h
      have := h9 rfl
      have h2 : m % 128 * 128 ^ 9 ≤ 1 * 128 ^ 9 := Nat.mul_le_mul_right _ (by omega)
      omega
    · have h1 : (128 : Nat) ^ k ≤ 128 ^ 8 := Nat.pow_le_pow_right (by decide) (by omega)
      have h2 : m % 128 * 128 ^ k ≤ 127 * 128 ^ 8 := Nat.mul_le_mul (by omega) h1
      omega
  rw [IntKind.wrap_u64, IntKind.wrap_u64, show ((m : Int) % 128 * 2 ^ (7 * k)) = ((m % 128 * 2 ^ (7 * k) : Nat) : Int) by simp, e]
  generalize m % 128 * 128 ^ k = x at *
  omega

end Go.Proofs.YthfljcpfcnddhaaGreatDoor

/- The walks of the document's Long, ReadLong. -/
namespace Go.Proofs.YthfljcpfcnddhaaGreatDoor
open Go Go.RowKit

theorem readT_cases {s : List UInt8} {t : List UInt8} {k : Nat} (h : readT s = some (t, k)) : ∃ n u, readU s = some (n, u) ∧ n ≤ 200000 ∧ u + n ≤ s.length ∧ t = (s.drop u).take n ∧ k = u + n := by
  unfold readT at h
  cases hr : readU s with
  | none => simp [hr] at h
  | some x =>
    obtain ⟨n, u⟩ := x
    rw [hr] at h
    simp only at h
    split at h
    · rename_i hc
      simp only [Option.some.injEq, Prod.mk.injEq] at h
      exact ⟨n, u, rfl, hc.1, hc.2, h.1.symm, h.2.symm⟩
    · cases h
theorem readT_none {s : List UInt8} (h : readT s = none) : readU s = none ∨ ∃ n u, readU s = some (n, u) ∧ (200000 < n ∨ s.length < u + n) := by
  unfold readT at h
  cases hr : readU s with
  | none => exact .inl rfl
  | some x =>
    obtain ⟨n, u⟩ := x
    rw [hr] at h
    simp only at h
    split at h
    · cases h
    · exact .inr ⟨n, u, rfl, by omega⟩

end Go.Proofs.YthfljcpfcnddhaaGreatDoor

/- The walks of wire.Fixed, wire.ReadFixed, and the document's Little, ReadLittle. -/
namespace Go.Proofs.YthfljcpfcnddhaaGreatDoor
open Go Go.RowKit

theorem set_fill (k size n : Nat) (u : Value) (hk : k < size) (hu : u = byteV (UInt8.ofNat (n / 256 ^ k % 256))) :
    ((little k n).map byteV ++ List.replicate (size - k) (Value.int .u8 0)).set k u = (little (k + 1) n).map byteV ++ List.replicate (size - (k + 1)) (Value.int .u8 0) := by
  subst hu
  obtain ⟨r, hr⟩ : ∃ r, size - k = r + 1 := ⟨size - k - 1, by omega⟩
  rw [little_snoc, List.map_append, hr, show size - (k + 1) = r by omega, List.replicate_succ]
  have hl : ((little k n).map byteV).length = k := by simp [little_len]
  conv => lhs; arg 2; rw [← hl]
  simp

theorem or_256 (acc c k : Nat) (hk : k < 8) (hc : c < 256) (ha : acc < 256 ^ k) :
    bits .or .u64 (acc : Int) (IntKind.u64.wrap ((c : Int) * 2 ^ (8 * k))) = ((acc + c * 256 ^ k : Nat) : Int) := by
  have h1 : (256 : Nat) ^ k ≤ 256 ^ 7 := Nat.pow_le_pow_right (by decide) (by omega)
  have h2 : c * 256 ^ k ≤ 255 * 256 ^ 7 := Nat.mul_le_mul (by omega) h1
  rw [IntKind.wrap_u64, show ((c : Int) * 2 ^ (8 * k)) = ((c * 2 ^ (8 * k) : Nat) : Int) by simp]
  rw [← pow256] at ha h1 h2 ⊢
  rw [show (((c * 2 ^ (8 * k) : Nat) : Int) % 18446744073709551616) = ((c * 2 ^ (8 * k) : Nat) : Int) by
    generalize c * 2 ^ (8 * k) = x at *
    omega, u64_or_nat _ _ (by omega) (by omega)]
  congr 1
  rw [Nat.or_comm, Nat.add_comm]
  exact nat_join (8 * k) _ _ (Nat.mul_mod_left _ _) ha

theorem take_snoc' (s : ByteArray) (k : Nat) (h : k < s.size) : s.data.toList.take (k + 1) = s.data.toList.take k ++ [s[k]] := by
  rw [List.take_succ_eq_append_getElem (by simpa using h)]; rfl




end Go.Proofs.YthfljcpfcnddhaaGreatDoor
