/- The walk of wire.Sum. -/
import Derived.Test.YtehklkmnbhgebaaWireW2
namespace Go.Proofs.Ytehklkmnbhgebaa
open Go Go.RowKit

set_option maxRecDepth 100000 in
set_option maxHeartbeats 1000000 in
theorem sum_any (s : ByteArray) (w : World) (hs : s.size ≤ 2000) :
    Calls Try.prog 13 #[.string s] w fun e w' => e = .returned (.int .u32 (crc s.data.toList : Nat)) ∧ Below w.heap.size w w' := by
  obtain ⟨i0, hi, hz0, hz1, hz2⟩ := info_parts info_tab
  go_enter Try.func13, Try.ntmps13
  go_wp2_with fail
  refine (table_any _).mono ?_
  rintro e w1 ⟨rfl, hb1⟩
  go_wp2_with (first | (refine wpList_alloc_row rfl 36 rfl i0 (.agg zeroTab) zeroTab hi hz0 rfl ?_) | (refine wpList_store_row rfl rfl 36 _ _ rfl _ rfl zeroTab (tabTo 256) rfl _ (heap_alloc_new _ _) (by kernel_rfl) (by simp [zeroTab, size_tabTo]) (tabTo_one 256) ?_))
  have hB : ((w1.alloc (.cells zeroTab 36)).setRow w1.heap.size (tabTo 256)).heap[w1.heap.size]? = some (.cells (tabTo 256) 36) := setRow_heap _ _ _ _ _ _ (heap_alloc_new _ _)
  have hb2 : Below w.heap.size w ((w1.alloc (.cells zeroTab 36)).setRow w1.heap.size (tabTo 256)) := below_setRow (hb1.alloc hb1.size _) hb1.size _
  generalize ((w1.alloc (.cells zeroTab 36)).setRow w1.heap.size (tabTo 256)) = w2 at *
  generalize w1.heap.size = g at *
  have HB := Lib.hid hB; clear hB
  clear hi hz0 hz1 hz2
  go_loop [4, 9] (fun c i => ∃ k : Nat, k ≤ s.size ∧ i = .int .i64 k ∧ c = .int .u32 (crcRaw (s.data.toList.take k) : Nat)) (fun _ i => s.size - (intOf i).toNat)
  case atStart => exact ⟨0, Nat.zero_le _, rfl, rfl⟩
  case round =>
    obtain ⟨k, hk, rfl, rfl⟩ := hrel
    have hc := crcRaw_lt (s.data.toList.take k)
    by_cases hlt : k < s.size
    · have hx : bits .xor .u8 (((crcRaw (s.data.toList.take k) : Nat) : Int) % 256) (s[k].toNat : Int) = ((crcRaw (s.data.toList.take k) % 256 ^^^ s[k].toNat : Nat) : Int) := by
        have := s[k].toNat_lt
        rw [show (((crcRaw (s.data.toList.take k) : Nat) : Int) % 256) = ((crcRaw (s.data.toList.take k) % 256 : Nat) : Int) by omega]
        exact u8_xor_nat _ _ (by omega) this
      have hx2 : crcRaw (s.data.toList.take k) % 256 ^^^ s[k].toNat < 256 := Nat.xor_lt_two_pow (n := 8) (Nat.mod_lt _ (by decide)) s[k].toNat_lt
      have hn : crcRaw (s.data.toList.take (k + 1)) = crcN 8 (crcRaw (s.data.toList.take k) % 256 ^^^ s[k].toNat) ^^^ (crcRaw (s.data.toList.take k) / 256) := by
        rw [take_snoc s k hlt, crcRaw_snoc, crcStep_tab]
      have Hn := Lib.hid hn; clear hn
      generalize crcRaw (s.data.toList.take k) % 256 ^^^ s[k].toNat = X at *
      have hcell : w2.cell? ⟨g, X, none⟩ = some (.int .u32 ((crcN 8 X : Nat) : Int)) := by
        rw [cell_of_row w2 _ _ _ _ _ HB.out]; exact tabTo_get X hx2
      have hX := crcN_lt (c := X) 8 (by omega)
      go_wp2
      go_round
      case rel => exact ⟨k + 1, by omega, by go_num, by rw [Hn.out]; exact congrArg _ (u32_xor_nat (crcN 8 X) (crcRaw (List.take k s.data.toList) / 256) hX (by omega))⟩
      case measure => simp [intOf]; omega
    · obtain rfl : k = s.size := by omega
      have ht : s.data.toList.take s.size = s.data.toList := List.take_of_length_le (by simp)
      have Ht := Lib.hid ht; clear ht
      go_wp2
      go_ret
      refine ⟨ret_of ?_, hb2⟩
      show Value.int .u32 (bits .xor .u32 IntKind.u32.max ((crcRaw (List.take s.size s.data.toList) : Nat) : Int)) = _
      rw [Ht.out]
      rw [Ht.out] at hc
      rw [show IntKind.u32.max = ((4294967295 : Nat) : Int) by decide]
      exact congrArg _ ((u32_xor_nat 4294967295 _ (by decide) hc).trans (by rw [Nat.xor_comm]; rfl))

theorem crc_check : crc [49, 50, 51, 52, 53, 54, 55, 56, 57] = 3421780262 := by decide +kernel

set_option maxRecDepth 100000 in
set_option maxHeartbeats 1000000 in
theorem wireSum_law (s : ByteArray) (hs : s.size ≤ maxLen) (w : World) :
    Calls Try.prog 6 #[.string s] w fun e w' => e = .returned (.bool true) ∧ Below w.heap.size w w' := by
  have hcc := crc_check
  have Hc := Lib.hid hcc; clear hcc
  by_cases h : s.size ≤ 2000
  · go_enter Try.func6, Try.ntmps6
    go_wp2_with fail
    refine (three_any _).mono ?_; rintro e w1 ⟨rfl, hb1⟩
    go_wp2_with fail
    refine (sum_any _ _ (by decide)).mono ?_; rintro e w2 ⟨rfl, hb2⟩
    rw [show (ByteArray.data ⟨#[49, 50, 51, 52, 53, 54, 55, 56, 57]⟩).toList = [49, 50, 51, 52, 53, 54, 55, 56, 57] from rfl, Hc.out]
    go_wp2_with (first | (go_at_call 13; refine (sum_any _ _ h).mono ?_; rintro e w3 ⟨rfl, hb3⟩) | (go_at_call 14; refine (remainder_any _ _ h).mono ?_; rintro e w4 ⟨rfl, rfl⟩))
    go_ret
    refine ⟨ret_of ?_, below_trans (below_trans hb1 hb2) hb3⟩
    show Value.bool _ = _
    simp
  · go_enter Try.func6, Try.ntmps6
    go_wp2_with fail
    refine (three_any _).mono ?_; rintro e w1 ⟨rfl, hb1⟩
    go_wp2_with fail
    refine (sum_any _ _ (by decide)).mono ?_; rintro e w2 ⟨rfl, hb2⟩
    rw [show (ByteArray.data ⟨#[49, 50, 51, 52, 53, 54, 55, 56, 57]⟩).toList = [49, 50, 51, 52, 53, 54, 55, 56, 57] from rfl, Hc.out]
    have hd : 2000 < s.size := by omega
    go_wp2_with fail
    go_ret
    exact ⟨rfl, below_trans hb1 hb2⟩
end Go.Proofs.Ytehklkmnbhgebaa
