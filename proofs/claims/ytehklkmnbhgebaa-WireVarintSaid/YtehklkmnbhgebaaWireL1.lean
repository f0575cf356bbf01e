/- The walks of the statements WireUvarint, WireVarint, WirePrefix. -/
import Derived.Test.YtehklkmnbhgebaaWireW1
namespace Go.Proofs.Ytehklkmnbhgebaa
open Go Go.RowKit

set_option maxHeartbeats 400000 in
theorem wireUvarint_law (n : Int) (h0 : 0 ≤ n) (h1 : n < 18446744073709551616) (w : World) :
    Calls Try.prog 3 #[.int .u64 n] w fun e w' => e = .returned (.bool true) ∧ Below w.heap.size w w' := by
  go_enter Try.func3, Try.ntmps3
  go_wp2_with (first | (go_at_call 8; refine (three_any _).mono ?_; rintro e w1 ⟨rfl, hb1⟩) | (go_at_call 9; refine (uvarint_any _ _ h0 h1).mono ?_; rintro e w2 ⟨rfl, hb2⟩) | (go_at_call 10; refine (sevenOf_any _ _ h0 h1).mono ?_; rintro e w3 ⟨rfl, hb3⟩))
  go_ret
  exact ⟨by simp, below_trans (below_trans hb1 hb2) hb3⟩

set_option maxHeartbeats 400000 in
theorem wireVarint_law (n : Int) (h0 : -9223372036854775808 ≤ n) (h1 : n < 9223372036854775808) (w : World) :
    Calls Try.prog 5 #[.int .i64 n] w fun e w' => e = .returned (.bool true) ∧ Below w.heap.size w w' := by
  go_enter Try.func5, Try.ntmps5
  go_wp2_with (first | (go_at_call 8; refine (three_any _).mono ?_; rintro e w1 ⟨rfl, hb1⟩) | (go_at_call 11; refine (varint_any _ _ h0 h1).mono ?_; rintro e w2 ⟨rfl, hb2⟩) | (go_at_call 12; refine (signed_any _ _ h0 h1).mono ?_; rintro e w3 ⟨rfl, hb3⟩))
  go_ret
  exact ⟨by simp, below_trans (below_trans hb1 hb2) hb3⟩

theorem prefix_same {a b : Int} (ha : 0 ≤ a) (hb : 0 ≤ b) : (((ByteArray.mk (seven b.toNat).toArray).extract 0 (seven a.toNat).length).toList == seven a.toNat) = (a == b) := by
  rw [ByteArray.extract_mk, ByteArray.toList_eq, Bool.eq_iff_iff, beq_iff_eq, beq_iff_eq, List.drop_zero, Nat.sub_zero]
  constructor
  · intro h
    have h' : List.take (seven a.toNat).length (seven b.toNat) = seven a.toNat := h
    have hp : ∃ r, seven a.toNat ++ r = seven b.toNat := by
      refine ⟨List.drop (seven a.toNat).length (seven b.toNat), ?_⟩
      conv => lhs; arg 1; rw [← h']
      exact List.take_append_drop _ _
    have := seven_prefix b.toNat a.toNat hp
    omega
  · intro h
    subst h
    show List.take _ (seven a.toNat) = _
    simp

set_option maxHeartbeats 400000 in
theorem wirePrefix_law (a : Int) (a0 : 0 ≤ a) (a1 : a < 18446744073709551616) (b : Int) (b0 : 0 ≤ b) (b1 : b < 18446744073709551616) (w : World) :
    Calls Try.prog 4 #[.int .u64 a, .int .u64 b] w fun e w' => e = .returned (.bool true) ∧ Below w.heap.size w w' := by
  go_enter Try.func4, Try.ntmps4
  go_wp2_with fail
  refine (three_any _).mono ?_; rintro e w1 ⟨rfl, hb1⟩
  go_wp2_with fail
  refine (uvarint_any _ _ a0 a1).mono ?_; rintro e w2 ⟨rfl, hb2⟩
  go_wp2_with fail
  refine (uvarint_any _ _ b0 b1).mono ?_; rintro e w3 ⟨rfl, hb3⟩
  go_wp2_with fail
  · go_ret
    exact ⟨rfl, below_trans (below_trans hb1 hb2) hb3⟩
  · go_ret
    refine ⟨ret_of ?_, below_trans (below_trans hb1 hb2) hb3⟩
    show Value.bool _ = _
    rw [prefix_same a0 b0, BEq.rfl]
end Go.Proofs.Ytehklkmnbhgebaa
