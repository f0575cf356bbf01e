/- The walks of bitrun's Get, size, Unpack, and of the document's UnpackOf. -/
import Derived.Test.YtddefnnimbjnaaaDoorBitsW5
import Derived.Test.YtddefnnimbjnaaaDoorBits3
namespace Go.Proofs.YtddefnnimbjnaaaDoor
open Go Go.RowKit Go.ChangeShapes

set_option maxRecDepth 100000 in
theorem size_any (n wd : Nat) (hn : n ≤ 20008) (hw : wd ≤ 32) (w : World) :
    Calls Tryd.prog 97 #[.int .i64 (n : Nat), .int .i64 (wd : Nat)] w fun e w' => e = .returned (.int .i64 (((n * wd + 7) / 8 : Nat) : Int)) ∧ w' = w := by
  have hm : n * wd ≤ 700000 := Nat.le_trans (Nat.mul_le_mul hn hw) (by decide)
  have hw1 : IntKind.i64.wrap ((n : Int) * (wd : Int)) = ((n * wd : Nat) : Int) := by rw [← Int.natCast_mul]; exact wrap_small _ (by omega) (by omega)
  generalize n * wd = N at *
  clear hn hw
  go_enter Tryd.func97, Tryd.ntmps97
  go_wp2
  go_ret
  refine ⟨ret_of ?_, rfl⟩
  show Value.int .i64 (((N : Nat) + 7 : Int) / 8) = _
  rfl

theorem get_step (X b e k : Nat) (hX : X < 2 ^ k) (hb : b < 256) (hp : (2 : Nat) ^ k ≤ 4294967296) :
    bits .or .u64 (X : Int) (IntKind.u64.wrap (IntKind.u64.wrap (bits .and .u8 ((b : Int) / 2 ^ e) 1) * 2 ^ k)) = ((X + b / 2 ^ e % 2 * 2 ^ k : Nat) : Int) := by
  have hd : b / 2 ^ e < 256 := Nat.lt_of_le_of_lt (Nat.div_le_self _ _) hb
  rw [show ((b : Int) / 2 ^ e) = ((b / 2 ^ e : Nat) : Int) by simp, show (1 : Int) = ((1 : Nat) : Int) from rfl, u8_and_nat _ 1 hd (by decide), nat_mask1]
  have h1 : b / 2 ^ e % 2 ≤ 1 := by omega
  generalize b / 2 ^ e % 2 = t at *
  have h2 : t * 2 ^ k ≤ 4294967296 := Nat.le_trans (Nat.mul_le_mul_right _ h1) (by omega)
  rw [show IntKind.u64.wrap ((t : Nat) : Int) = (t : Int) by rw [IntKind.wrap_u64]; omega, show ((t : Int) * 2 ^ k) = ((t * 2 ^ k : Nat) : Int) by rw [Int.natCast_mul, Int.natCast_pow]; rfl,
    show IntKind.u64.wrap ((t * 2 ^ k : Nat) : Int) = ((t * 2 ^ k : Nat) : Int) by rw [IntKind.wrap_u64]; omega, u64_or_nat _ _ (by omega) (by omega), Nat.or_comm, Nat.add_comm, Nat.mul_comm t, ← Nat.two_pow_add_eq_or_of_lt hX]

set_option maxRecDepth 100000 in
set_option maxHeartbeats 1000000 in
theorem get_any (s : ByteArray) (at' wd : Nat) (w : World) (hw : wd ≤ 32) (hs : at' + wd ≤ 8 * s.size) (hm : s.size ≤ 1000000) :
    Calls Tryd.prog 59 #[.string s, .int .i64 (at' : Nat), .int .i64 (wd : Nat)] w fun e w' => e = .returned (.int .u64 ((unlittle s.data.toList / 2 ^ at' % 2 ^ wd : Nat) : Int)) ∧ w' = w := by
  have hget : ∀ k (h : k / 8 < s.size), s[k / 8].toNat / 2 ^ (k % 8) % 2 = unlittle s.data.toList / 2 ^ k % 2 := fun k h => unlittle_bit _ _ _ (by rw [List.getElem?_eq_getElem (by simpa using h)]; rfl)
  go_enter Tryd.func59, Tryd.ntmps59
  go_wp2
  go_loop [7, 11] (fun n i => ∃ k : Nat, k ≤ wd ∧ i = .int .i64 k ∧ n = .int .u64 ((unlittle s.data.toList / 2 ^ at' % 2 ^ k : Nat) : Int)) (fun _ i => wd - (intOf i).toNat)
  case atStart => exact ⟨0, Nat.zero_le _, rfl, by simp [Nat.mod_one]⟩
  case round =>
    obtain ⟨k, hk, rfl, rfl⟩ := hrel
    by_cases hlt : k < wd
    · have hlt8 : (at' + k) / 8 < s.size := by omega
      have hbit := hget (at' + k) hlt8
      have hb := s[(at' + k) / 8].toNat_lt
      have hmore := bits_succ (unlittle s.data.toList / 2 ^ at') k
      rw [Nat.div_div_eq_div_mul, ← Nat.pow_add] at hmore
      have hX : unlittle s.data.toList / 2 ^ at' % 2 ^ k < 2 ^ k := Nat.mod_lt _ (Nat.pow_pos (by decide))
      have Hbit := Lib.hid hbit
      have Hmore := Lib.hid hmore
      have HX := Lib.hid hX
      clear hbit hmore hget hX
      go_wp2
      go_round
      case rel =>
        refine ⟨k + 1, by omega, by go_num, ?_⟩
        have hp : (2 : Nat) ^ k ≤ 2 ^ 32 := Nat.pow_le_pow_right (by decide) (by omega)
        have hXi : ((unlittle s.data.toList : Nat) : Int) / 2 ^ at' % 2 ^ k = ((unlittle s.data.toList / 2 ^ at' % 2 ^ k : Nat) : Int) := by simp
        rw [Hmore.out, ← Hbit.out, hXi]
        have hX := HX.out
        generalize unlittle s.data.toList / 2 ^ at' % 2 ^ k = X at *
        generalize s[(at' + k) / 8].toNat = b at *
        exact congrArg _ (get_step X b ((at' + k) % 8) k hX hb hp)
      case measure => simp [intOf]; omega
    · obtain rfl : k = wd := by omega
      go_wp2
      go_ret
      exact ⟨rfl, rfl⟩

/-- a list of Nat's is a row of Go's ints -/
def natV (n : Nat) : Value := .int .i64 (n : Int)
theorem nums_nat {w : World} {B : Nat} {e : TypeId} {v : Value} {L : List Nat} (h : w.ownsRow B e 1 v L.length (L.map natV)) : IsInts w v (ints L) := by
  refine IsNums.of_own (B := B) (e := e) ?_
  unfold ints
  rw [List.length_map, List.map_map]
  exact h

end Go.Proofs.YtddefnnimbjnaaaDoor
