/- The walk of the statement WireBursts. -/
import Derived.Test.YtehklkmnbhgebaaWireW3
import Derived.Test.YtehklkmnbhgebaaWire3
namespace Go.Proofs.Ytehklkmnbhgebaa
open Go Go.RowKit

/-- the cells of block g hold the bytes l, may be written, and lie in that block -/
def HoldsB (w : World) (g : Nat) (l : List UInt8) : Prop :=
  ∃ C t hi, w.heap[g]? = some (.cells C t (C.size, hi)) ∧ l.length ≤ C.size ∧ ∀ j (hj : j < l.length), C[j]? = some (byteV l[j])

theorem HoldsB.cell {w : World} {g : Nat} {l : List UInt8} (h : HoldsB w g l) (j : Nat) (hj : j < l.length) : w.cell? ⟨g, j, none⟩ = some (.int .u8 (l[j].toNat : Int)) := by
  obtain ⟨C, t, hi, h1, h2, h3⟩ := h
  rw [cell_of_row w g j C t _ h1, h3 j hj]; rfl
theorem HoldsB.frozen {w : World} {g : Nat} {l : List UInt8} (h : HoldsB w g l) (j : Nat) (hj : j < l.length) : w.frozen? ⟨g, j, none⟩ = false := by
  obtain ⟨C, t, hi, h1, h2, h3⟩ := h
  simp [World.frozen?, h1]; omega
theorem HoldsB.set {w : World} {g : Nat} {l : List UInt8} (h : HoldsB w g l) (j : Nat) (hj : j < l.length) (b : UInt8) : HoldsB (w.setCell ⟨g, j, none⟩ (byteV b)) g (l.set j b) := by
  obtain ⟨C, t, hi, h1, h2, h3⟩ := h
  refine ⟨C.setIfInBounds j (byteV b), t, hi, ?_, by simpa using h2, ?_⟩
  · rw [setCell_eq_setRow w g j C t _ _ h1, Array.size_setIfInBounds]; exact setRow_heap w g C _ t _ h1
  · intro i hi'
    rw [Array.getElem?_setIfInBounds, List.getElem_set]
    by_cases he : j = i
    · subst he; simp; omega
    · simp only [he, if_false]
      exact h3 i (by simpa using hi')
theorem HoldsB.of_string (w : World) (s : ByteArray) (c : Nat) (t : TypeId) : HoldsB (w.drew.alloc (.cells (bytesRow s c) t ((bytesRow s c).size, (bytesRow s c).size + 1))) w.heap.size s.data.toList := by
  have hsz : s.data.size ≤ (bytesRow s c).size := by simp [bytesRow]
  refine ⟨_, t, _, heap_alloc_new w.drew _, by simpa using hsz, fun j hj => ?_⟩
  rw [bytesRow_at s c j (by simpa using hj)]; simp [byteV]

set_option maxRecDepth 100000 in
set_option maxHeartbeats 1000000 in
theorem bursts_main (s : ByteArray) (a t : Int) (h2 : s.size ≤ 2000) (ha : 0 ≤ a) (t0 : 0 < t) (t1 : t < 4294967296) (hq : a / 8 < s.size) (w : World) :
    Calls Try.prog 7 #[.string s, .int .i64 a, .int .u32 t] w fun e w' => e = .returned (.bool true) ∧ Below w.heap.size w w' := by
  obtain ⟨a, rfl⟩ := Int.eq_ofNat_of_zero_le ha
  obtain ⟨t, rfl⟩ := Int.eq_ofNat_of_zero_le (Int.le_of_lt t0)
  have t2 : t < 4294967296 := by omega
  have t3 : t ≠ 0 := by omega
  have hte : (((t : Nat) : Int) == 0) = false := by simp; omega
  have d1 : decide ((2000 : Int) < (s.size : Int)) = false := by simp; omega
  have d2 : decide (((a : Nat) : Int) < 0) = false := by simp
  clear t0 t1
  have d3 : decide ((s.size : Int) ≤ (a : Int) / 8) = false := by simp; omega
  go_enter Try.func7, Try.ntmps7
  go_wp2_with fail
  refine (three_any _).mono ?_; rintro e w1 ⟨rfl, hb1⟩
  have hcv := run_bytes_of_string (P := Try.prog) w1 9 32 5 s Try.underlying9 Try.underlying32 Try.underlying5
  go_wp2_with fail
  clear hcv d1 d2 d3 hte
  have hh := HoldsB.of_string w1 s (grownCap w1 s.size 0 5) 5
  have hb2 : Below w.heap.size w (w1.alloc (.cells (bytesRow s (grownCap w1 s.size 0 5)) 5 ((bytesRow s (grownCap w1 s.size 0 5)).size, (bytesRow s (grownCap w1 s.size 0 5)).size + 1))).drew := (hb1.alloc hb1.size _).drew
  have hg : w.heap.size ≤ w1.heap.size := hb1.size
  rw [World.alloc_drew] at hh
  generalize (w1.alloc (.cells (bytesRow s (grownCap w1 s.size 0 5)) 5 ((bytesRow s (grownCap w1 s.size 0 5)).size, (bytesRow s (grownCap w1 s.size 0 5)).size + 1))).drew = w2 at *
  generalize grownCap w1 s.size 0 5 = cap at *
  generalize w1.heap.size = g at *
  clear hb1
  go_loopw [9, 10] (fun i _ wr => ∃ (k : Nat) (l : List UInt8), k ≤ 32 ∧ i = .int .i64 k ∧ l.length = s.size ∧ HoldsB wr g l ∧ num l = num s.data.toList ^^^ burst a t (8 * s.data.toList.length) k ∧ Below w.heap.size w wr) (fun i _ _ => 32 - (intOf i).toNat)
  case atStart => exact ⟨0, s.data.toList, by omega, rfl, by simp, hh, by simp [burst], hb2⟩
  case round =>
    obtain ⟨k, l, hk, rfl, hl, hh', hn, hb⟩ := hrel
    clear hh hb2
    have Hl := Lib.hid hl; have Hn := Lib.hid hn; clear hl hn
    by_cases hlt : k < 32
    · have hbn : burst a t (8 * s.data.toList.length) (k + 1) = burst a t (8 * s.data.toList.length) k ^^^ (if t / 2 ^ k % 2 = 1 ∧ a + k < 8 * s.data.toList.length then 2 ^ (a + k) else 0) := rfl
      have htm : ((t : Int) / 2 ^ k).tmod 2 = ((t / 2 ^ k % 2 : Nat) : Int) := by
        rw [show ((t : Int) / 2 ^ k) = ((t / 2 ^ k : Nat) : Int) by simp]
        rfl
      have hle : s.data.toList.length = s.size := by simp
      by_cases hbit : t / 2 ^ k % 2 = 1
      · by_cases hin : (a + k) / 8 < s.size
        · rw [if_pos ⟨hbit, by omega⟩] at hbn
          rw [hbit] at htm
          have Hbn := Lib.hid hbn; clear hbn hbit
          have Hle := Lib.hid hle; clear hle
          have hc := hh'.cell ((a + k) / 8) (by rw [Hl.out]; exact hin)
          have hf := hh'.frozen ((a + k) / 8) (by rw [Hl.out]; exact hin)
          go_wp2_with fail
          go_region
          go_wp2_with fail
          go_roundw
          case rel =>
            have hin2 : (a + k) / 8 < l.length := by rw [Hl.out]; exact hin
            have hb256 : l[(a + k) / 8].toNat ^^^ 2 ^ ((a + k) % 8) < 256 := Nat.xor_lt_two_pow (n := 8) l[(a + k) / 8].toNat_lt (Nat.pow_lt_pow_right (by decide) (Nat.mod_lt _ (by decide)))
            have hv : (Value.int .u8 (bits .xor .u8 (l[(a + k) / 8].toNat : Int) (2 ^ ((a + k) % 8) % 256))) = byteV (UInt8.ofNat (l[(a + k) / 8].toNat ^^^ 2 ^ ((a + k) % 8))) := by
              have hp : (2 : Nat) ^ ((a + k) % 8) < 256 := Nat.pow_lt_pow_right (a := 2) (n := 8) (by decide) (Nat.mod_lt _ (by decide))
              have e2 : ((2 : Int) ^ ((a + k) % 8) % 256) = ((2 ^ ((a + k) % 8) : Nat) : Int) := by
                rw [show ((2 : Int) ^ ((a + k) % 8)) = ((2 ^ ((a + k) % 8) : Nat) : Int) by simp]
                generalize 2 ^ ((a + k) % 8) = pw at *
                omega
              rw [e2, u8_xor_nat _ _ l[(a + k) / 8].toNat_lt hp]
              exact byteV_ofNat rfl hb256
            refine ⟨k + 1, l.set ((a + k) / 8) (UInt8.ofNat (l[(a + k) / 8].toNat ^^^ 2 ^ ((a + k) % 8))), by omega, by go_num, by rw [List.length_set, Hl.out], ?_, ?_, ?_⟩
            · rw [hv]; exact hh'.set _ (by rw [Hl.out]; exact hin) _
            · rw [num_set _ _ _ _ (Nat.mod_lt _ (by decide)), Hn.out, Hbn.out, Nat.xor_assoc, show 8 * ((a + k) / 8) + (a + k) % 8 = a + k by omega]
            · exact (hb.setCell hg _).drew
          case measure => simp [intOf]; omega
        · rw [if_neg (by omega), Nat.xor_zero] at hbn
          rw [hbit] at htm
          have Hbn := Lib.hid hbn; clear hbn hbit
          have Hle := Lib.hid hle; clear hle
          go_wp2_with fail
          go_roundw
          case rel => exact ⟨k + 1, l, by omega, by go_num, Hl.out, hh', by rw [Hbn.out, Hn.out], hb⟩
          case measure => simp [intOf]; omega
      · rw [if_neg (by omega), Nat.xor_zero] at hbn
        rw [show t / 2 ^ k % 2 = 0 by omega] at htm
        have Hbn := Lib.hid hbn; clear hbn hbit
        have Hle := Lib.hid hle; clear hle
        go_wp2_with fail
        go_roundw
        case rel => exact ⟨k + 1, l, by omega, by go_num, Hl.out, hh', by rw [Hbn.out, Hn.out], hb⟩
        case measure => simp [intOf]; omega
    · obtain rfl : k = 32 := by omega
      have hstr := run_convert_bytes_back (P := Try.prog) wr 32 9 5 ⟨g, 0, none⟩ cap l Try.underlying32 Try.underlying5 Try.underlying9 (fun j hj => by rw [Addr.add_lit, Nat.zero_add]; exact hh'.cell j hj)
      rw [Hl.out] at hstr
      have hle : s.data.toList.length = s.size := by simp
      have hfin := burst_sum (s := s.data.toList) (t := l) (a := a) (turns := t) (by rw [Hl.out, hle]) t2 Hn.out (by rw [hle]; omega)
      have Hfin := Lib.hid hfin; clear hfin hle
      have hl2 : (ByteArray.mk l.toArray).size ≤ 2000 := by show l.toArray.size ≤ 2000; simp [Hl.out]; exact h2
      go_wp2_with fail
      refine (sum_any _ _ hl2).mono ?_; rintro e w3 ⟨rfl, hb3⟩
      go_wp2_with fail
      refine (sum_any _ _ h2).mono ?_; rintro e w4 ⟨rfl, hb4⟩
      go_wp2_with fail
      go_ret
      refine ⟨ret_of ?_, below_trans (below_trans hb hb3) hb4⟩
      show Value.bool ((l == s.toList) == (((crc l : Nat) : Int) == ((crc s.data.toList : Nat) : Int))) = _
      congr 1
      rw [ByteArray.toList_eq, beq_iff_eq, Bool.eq_iff_iff, beq_iff_eq, beq_iff_eq]
      constructor
      · intro h; rw [Hfin.out.1 h]
      · intro h; exact Hfin.out.2 (by omega)

set_option maxRecDepth 100000 in
set_option maxHeartbeats 1000000 in
/-- what is not asked of: the answer is true at once -/
theorem bursts_early (s : ByteArray) (a t : Int) (a1 : a < 9223372036854775808) (h : 2000 < s.size ∨ a < 0 ∨ t = 0 ∨ (s.size : Int) ≤ a / 8) (w : World) :
    Calls Try.prog 7 #[.string s, .int .i64 a, .int .u32 t] w fun e w' => e = .returned (.bool true) ∧ Below w.heap.size w w' := by
  by_cases h1 : 2000 < s.size
  · have d1 : decide ((2000 : Int) < (s.size : Int)) = true := by simp; omega
    clear h
    go_enter Try.func7, Try.ntmps7
    go_wp2_with fail
    refine (three_any _).mono ?_; rintro e w1 ⟨rfl, hb1⟩
    go_wp2_with fail
    go_ret
    exact ⟨rfl, hb1⟩
  have d1 : decide ((2000 : Int) < (s.size : Int)) = false := by simp; omega
  by_cases h2 : a < 0
  · have d2 : decide (a < 0) = true := by simpa using h2
    clear h h1
    go_enter Try.func7, Try.ntmps7
    go_wp2_with fail
    refine (three_any _).mono ?_; rintro e w1 ⟨rfl, hb1⟩
    go_wp2_with fail
    go_ret
    exact ⟨rfl, hb1⟩
  have d2 : decide (a < 0) = false := by simpa using h2
  by_cases h3 : t = 0
  · have d3 : (t == 0) = true := by simpa using h3
    clear h h1 h2
    subst h3
    go_enter Try.func7, Try.ntmps7
    go_wp2_with fail
    refine (three_any _).mono ?_; rintro e w1 ⟨rfl, hb1⟩
    go_wp2_with fail
    go_ret
    exact ⟨rfl, hb1⟩
  have d3 : (t == 0) = false := by simpa using h3
  have h4 : (s.size : Int) ≤ a / 8 := by omega
  have d4 : decide ((s.size : Int) ≤ a / 8) = true := by simpa using h4
  have h0 : 0 ≤ a := by omega
  clear h h1 h2 h3 h4
  go_enter Try.func7, Try.ntmps7
  go_wp2_with fail
  refine (three_any _).mono ?_; rintro e w1 ⟨rfl, hb1⟩
  go_wp2_with fail
  go_ret
  exact ⟨rfl, hb1⟩

theorem wireBursts_law (s : ByteArray) (_hs : s.size ≤ maxLen) (a : Int) (_a0 : -9223372036854775808 ≤ a) (a1 : a < 9223372036854775808) (t : Int) (t0 : 0 ≤ t) (t1 : t < 4294967296) (w : World) :
    Calls Try.prog 7 #[.string s, .int .i64 a, .int .u32 t] w fun e w' => e = .returned (.bool true) ∧ Below w.heap.size w w' := by
  by_cases h : 2000 < s.size ∨ a < 0 ∨ t = 0 ∨ (s.size : Int) ≤ a / 8
  · exact bursts_early s a t a1 h w
  · exact bursts_main s a t (by omega) (by omega) (by omega) t1 (by omega) w
end Go.Proofs.Ytehklkmnbhgebaa
