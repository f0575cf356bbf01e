/- The walks of wire.Fixed, wire.ReadFixed, and the document's Little, ReadLittle. -/
import Derived.Test.YthilhooomlhfpaaDoorWireW5
import Derived.Test.YthilhooomlhfpaaDoorWire9
namespace Go.Proofs.YthilhooomlhfpaaDoor
open Go Go.RowKit

theorem set_fill (k size n : Nat) (u : Value) (hk : k < size) (hu : u = byteV (UInt8.ofNat (n / 256 ^ k % 256))) :
    ((little k n).map byteV ++ List.replicate (size - k) (Value.int .u8 0)).set k u = (little (k + 1) n).map byteV ++ List.replicate (size - (k + 1)) (Value.int .u8 0) := by
  subst hu
  obtain ⟨r, hr⟩ : ∃ r, size - k = r + 1 := ⟨size - k - 1, by omega⟩
  rw [little_snoc, List.map_append, hr, show size - (k + 1) = r by omega, List.replicate_succ]
  have hl : ((little k n).map byteV).length = k := by simp [little_len]
  conv => lhs; arg 2; rw [← hl]
  simp

set_option maxRecDepth 100000 in
set_option maxHeartbeats 1000000 in
theorem fixed_ok (n size : Nat) (w : World) (_hn : n < 18446744073709551616) (h1 : 1 ≤ size) (h8 : size ≤ 8) (hf : n < 256 ^ size) :
    Calls Tryd.prog 97 #[.int .u64 (n : Int), .int .i64 (size : Int)] w fun e w' => e = .returned (.tuple #[.string ⟨(little size n).toArray⟩, .nilIface]) ∧ Below w.heap.size w w' := by
  obtain ⟨i0, hi, hz0, hz1, hz2⟩ := info_parts info_u8
  have d1 : decide ((size : Int) < 1) = false := by simp; omega
  have d2 : decide ((8 : Int) < (size : Int)) = false := by simp; omega
  have d0 : (n : Int) / 2 ^ (8 * size) = 0 := by
    rw [show ((n : Int) / 2 ^ (8 * size)) = ((n / 2 ^ (8 * size) : Nat) : Int) by simp, pow256, Nat.div_eq_of_lt hf]; rfl
  have hm : size ≤ maxLen := by unfold maxLen; omega
  have Hf := Lib.hid hf; clear hf
  go_enter Tryd.func97, Tryd.ntmps97
  go_wp2_with (at_make; refine wpList_make_full _ rfl _ _ 78 rfl w.heap.size 5 i0 (.int .u8 0) 1 Tryd.underlying78 hi hz0 hz1 _ _ _ _ size rfl rfl rfl rfl (by rw [hz2]; omega) hm (Nat.le_refl _) ?_; intro w1 hown hgrow; have Ho := Lib.hid hown; have hb := (Below.refl w.heap.size w).grown hgrow (Nat.le_refl _) (by intro k hk; cases hk); clear hown hgrow)
  all_goals
    clear hi hz0 hz1 hz2 d0
    go_loopw [30] (fun i wr => ∃ k : Nat, k ≤ size ∧ i = .int .i64 k ∧ wr.ownsRow w.heap.size 5 1 (.slice (some ⟨w.heap.size, 0, none⟩) size size) size ((little k n).map byteV ++ List.replicate (size - k) (Value.int .u8 0)) ∧ Below w.heap.size w wr) (fun i _ => size - (intOf i).toNat)
    case atStart =>
      refine ⟨0, by omega, rfl, ?_, hb⟩
      have := Ho.out
      rw [show (Value.int .u8 0).cells = #[Value.int .u8 0] from rfl, toList_madeCells_one, Nat.mul_one] at this
      simpa [little] using this
    case round =>
      obtain ⟨k, hk, rfl, hown, hb2⟩ := hrel
      clear hb Ho
      by_cases hlt : k < size
      · have hcell := hown.cellAt k (by omega)
        have hlen : k < ((little k n).map byteV ++ List.replicate (size - k) (Value.int .u8 0)).length := by simp [little_len]; omega
        rw [List.getElem?_eq_getElem hlen] at hcell
        have hfroz := hown.frozenAt k
        have Hown := Lib.hid hown; clear hown
        generalize ((little k n).map byteV ++ List.replicate (size - k) (Value.int .u8 0))[k] = oldv at hcell
        clear hlen
        go_wp2
        go_roundw
        case rel =>
          refine ⟨k + 1, by omega, by go_num, ?_, hb2.setCell (Nat.le_refl _) _⟩
          have hst := (Hown.out.stored k (Value.int .u8 ((n : Int) / 2 ^ (8 * k) % 256))).1
          rw [set_fill k size n _ hlt] at hst
          · exact hst
          · rw [show ((n : Int) / 2 ^ (8 * k) % 256) = ((n / 2 ^ (8 * k) % 256 : Nat) : Int) by simp, pow256]
            exact byteV_ofNat rfl (by omega)
        case measure => simp [intOf]; omega
      · obtain rfl : k = size := by omega
        have hs : wr.ownsRow w.heap.size 5 1 (.slice (some ⟨w.heap.size, 0, none⟩) k k) (little k n).length ((little k n).map byteV) := by
          rw [little_len]; simpa using hown
        have hstr := run_own_string (src := 78) (dst := 9) Tryd.underlying78 Tryd.underlying5 Tryd.underlying9 hs
        clear hs hown
        go_wp2
        go_ret2
        exact ⟨rfl, hb2⟩

set_option maxRecDepth 100000 in
set_option maxHeartbeats 1000000 in
theorem fixed_size (n : Int) (size : Int) (ev : Value) (w : World) (hev : w.cell? ⟨2, 0, none⟩ = some ev) (h : size < 1 ∨ 8 < size) :
    Calls Tryd.prog 97 #[.int .u64 n, .int .i64 size] w fun e w' => e = .returned (.tuple #[.string ⟨#[]⟩, ev]) ∧ Below w.heap.size w w' := by
  by_cases h1 : size < 1
  · have d1 : decide (size < 1) = true := by simpa using h1
    clear h h1
    go_enter Tryd.func97, Tryd.ntmps97
    go_wp2
    go_quiet (fail)
    go_wp2
    go_ret2
    exact ⟨rfl, below_drewN (Below.refl _ _) _⟩
  · have d1 : decide (size < 1) = false := by simpa using h1
    have d2 : decide (8 < size) = true := by simp; omega
    clear h h1
    go_enter Tryd.func97, Tryd.ntmps97
    go_wp2
    go_quiet (fail)
    go_wp2
    go_ret2
    exact ⟨rfl, below_drewN (Below.refl _ _) _⟩

set_option maxRecDepth 100000 in
set_option maxHeartbeats 1000000 in
theorem fixed_big (n size : Nat) (ev : Value) (w : World) (hev : w.cell? ⟨2, 0, none⟩ = some ev) (h1 : 1 ≤ size) (h8 : size < 8) (hf : 256 ^ size ≤ n) :
    Calls Tryd.prog 97 #[.int .u64 (n : Int), .int .i64 (size : Int)] w fun e w' => e = .returned (.tuple #[.string ⟨#[]⟩, ev]) ∧ Below w.heap.size w w' := by
  have d1 : decide ((size : Int) < 1) = false := by simp; omega
  have d2 : decide ((8 : Int) < (size : Int)) = false := by simp; omega
  have d3 : decide ((size : Int) < 8) = true := by simp; omega
  have d0 : decide (0 < (n : Int) / 2 ^ (8 * size)) = true := by
    rw [show ((n : Int) / 2 ^ (8 * size)) = ((n / 2 ^ (8 * size) : Nat) : Int) by simp, pow256]
    have hq : 0 < n / 256 ^ size := Nat.div_pos hf (Nat.pow_pos (by decide))
    generalize n / 256 ^ size = q at *
    rw [decide_eq_true_iff]; omega
  clear hf
  go_enter Tryd.func97, Tryd.ntmps97
  go_wp2
  go_quiet (fail)
  go_wp2
  go_ret2
  exact ⟨rfl, below_drewN (Below.refl _ _) _⟩

theorem or_256 (acc c k : Nat) (hk : k < 8) (hc : c < 256) (ha : acc < 256 ^ k) :
    bits .or .u64 (acc : Int) (IntKind.u64.wrap ((c : Int) * 2 ^ (8 * k))) = ((acc + c * 256 ^ k : Nat) : Int) := by
  have h1 : (256 : Nat) ^ k ≤ 256 ^ 7 := Nat.pow_le_pow_right (by decide) (by omega)
  have h2 : c * 256 ^ k ≤ 255 * 256 ^ 7 := Nat.mul_le_mul (by omega) h1
  rw [IntKind.wrap_u64, show ((c : Int) * 2 ^ (8 * k)) = ((c * 2 ^ (8 * k) : Nat) : Int) by simp]
  rw [← pow256] at ha h1 h2 ⊢
  rw [show (((c * 2 ^ (8 * k) : Nat) : Int) % 18446744073709551616) = ((c * 2 ^ (8 * k) : Nat) : Int) by
    generalize c * 2 ^ (8 * k) = x at *
    omega, u64_or_nat _ _ (by omega) (by omega)]
  congr 1
  rw [Nat.or_comm, Nat.add_comm]
  exact nat_join (8 * k) _ _ (Nat.mul_mod_left _ _) ha

theorem take_snoc' (s : ByteArray) (k : Nat) (h : k < s.size) : s.data.toList.take (k + 1) = s.data.toList.take k ++ [s[k]] := by
  rw [List.take_succ_eq_append_getElem (by simpa using h)]; rfl

set_option maxRecDepth 100000 in
set_option maxHeartbeats 1000000 in
theorem readFixed_ok (s : ByteArray) (size : Nat) (w : World) (h1 : 1 ≤ size) (h8 : size ≤ 8) (hs : size ≤ s.size) (hm : s.size ≤ maxLen) :
    Calls Tryd.prog 100 #[.string s, .int .i64 (size : Int)] w fun e w' => e = .returned (.tuple #[.int .u64 (unlittle (s.data.toList.take size) : Nat), .nilIface]) ∧ w' = w := by
  have d1 : decide ((size : Int) < 1) = false := by simp; omega
  have d2 : decide ((8 : Int) < (size : Int)) = false := by simp; omega
  have d3 : decide ((s.size : Int) < (size : Int)) = false := by simp; omega
  unfold maxLen at hm
  go_enter Tryd.func100, Tryd.ntmps100
  go_wp2
  go_loop [6, 21] (fun n i => ∃ k : Nat, k ≤ size ∧ i = .int .i64 k ∧ n = .int .u64 (unlittle (s.data.toList.take k) : Nat)) (fun _ i => size - (intOf i).toNat)
  case atStart => exact ⟨0, by omega, rfl, rfl⟩
  case round =>
    obtain ⟨k, hk, rfl, rfl⟩ := hrel
    by_cases hlt : k < size
    · have hks : k < s.size := by omega
      have hlen : (s.data.toList.take k).length = k := by simp; omega
      have hac := unlittle_lt (s.data.toList.take k)
      rw [hlen] at hac
      have hb := s[k].toNat_lt
      obtain ⟨m, hmm⟩ : ∃ m, s[k].toNat = m := ⟨_, rfl⟩
      have hnx : unlittle (s.data.toList.take (k + 1)) = unlittle (s.data.toList.take k) + m * 256 ^ k := by
        rw [take_snoc' s k hks, unlittle_snoc, hlen, hmm]
      rw [hmm] at hb
      have hor := or_256 _ m k (by omega) hb hac
      have Hor := Lib.hid hor; have Hnx := Lib.hid hnx; clear hor hnx hlen hac
      generalize unlittle (s.data.toList.take k) = acc at *
      go_wp2
      go_round
      case rel => exact ⟨k + 1, by omega, by go_num, by rw [Hor.out, Hnx.out]⟩
      case measure => simp [intOf]; omega
    · obtain rfl : k = size := by omega
      go_wp2
      go_ret2
      exact ⟨rfl, rfl⟩

set_option maxRecDepth 100000 in
set_option maxHeartbeats 1000000 in
theorem readFixed_size (s : ByteArray) (size : Int) (ev : Value) (w : World) (hev : w.cell? ⟨2, 0, none⟩ = some ev) (h : size < 1 ∨ 8 < size) :
    Calls Tryd.prog 100 #[.string s, .int .i64 size] w fun e w' => e = .returned (.tuple #[.int .u64 0, ev]) ∧ Below w.heap.size w w' := by
  by_cases h1 : size < 1
  · have d1 : decide (size < 1) = true := by simpa using h1
    clear h h1
    go_enter Tryd.func100, Tryd.ntmps100
    go_wp2
    go_quiet (fail)
    go_wp2
    go_ret2
    exact ⟨rfl, below_drewN (Below.refl _ _) _⟩
  · have d1 : decide (size < 1) = false := by simpa using h1
    have d2 : decide (8 < size) = true := by simp; omega
    clear h h1
    go_enter Tryd.func100, Tryd.ntmps100
    go_wp2
    go_quiet (fail)
    go_wp2
    go_ret2
    exact ⟨rfl, below_drewN (Below.refl _ _) _⟩
set_option maxRecDepth 100000 in
set_option maxHeartbeats 1000000 in
theorem readFixed_short (s : ByteArray) (size : Nat) (ev : Value) (w : World) (hev : w.cell? ⟨1, 0, none⟩ = some ev) (h1 : 1 ≤ size) (h8 : size ≤ 8) (hs : s.size < size) :
    Calls Tryd.prog 100 #[.string s, .int .i64 (size : Int)] w fun e w' => e = .returned (.tuple #[.int .u64 0, ev]) ∧ Below w.heap.size w w' := by
  have d1 : decide ((size : Int) < 1) = false := by simp; omega
  have d2 : decide ((8 : Int) < (size : Int)) = false := by simp; omega
  have d3 : decide ((s.size : Int) < (size : Int)) = true := by simp; omega
  go_enter Tryd.func100, Tryd.ntmps100
  go_wp2
  go_quiet (fail)
  go_wp2
  go_ret2
  exact ⟨rfl, below_drewN (Below.refl _ _) _⟩

set_option maxRecDepth 100000 in
set_option maxHeartbeats 1000000 in
theorem littleOf_any (n size : Nat) (w : World) (hn : n < 18446744073709551616) (hs : size ≤ 1000) :
    Calls Tryd.prog 88 #[.int .u64 (n : Int), .int .i64 (size : Int)] w fun e w' => e = .returned (.string ⟨(little size n).toArray⟩) ∧ Below w.heap.size w w' := by
  go_enter Tryd.func88, Tryd.ntmps88
  go_wp2
  go_loopw [0, 5, 6] (fun x v i wr => ∃ k : Nat, k ≤ size ∧ i = .int .i64 k ∧ x = .int .u64 ((n / 256 ^ k : Nat) : Int) ∧ v = .string ⟨(little k n).toArray⟩ ∧ Below w.heap.size w wr) (fun _ _ i _ => size - (intOf i).toNat)
  case atStart => exact ⟨0, by omega, rfl, by simp, rfl, Below.refl _ _⟩
  case round =>
    obtain ⟨k, hk, rfl, rfl, rfl, hb⟩ := hrel
    have hle : n / 256 ^ k < 18446744073709551616 := Nat.lt_of_le_of_lt (Nat.div_le_self _ _) hn
    have hll := little_len k n
    have hsn := little_snoc k n
    have hdd : n / 256 ^ (k + 1) = n / 256 ^ k / 256 := by rw [Nat.pow_succ, Nat.div_div_eq_div_mul]
    have Hsn := Lib.hid hsn; have Hdd := Lib.hid hdd; clear hsn hdd
    generalize n / 256 ^ k = q at *
    by_cases hlt : k < size
    · go_wp2_with (go_at_call 57; refine (byte_any _ _).mono ?_; rintro e w1 ⟨rfl, hb1⟩)
      go_roundw
      case rel =>
        refine ⟨k + 1, by omega, by go_num, by rw [Hdd.out]; go_num, ?_, below_trans hb hb1⟩
        rw [Hsn.out]
        rw [ByteArray.mk_append_mk _ [_]]
      case measure => simp [intOf]; omega
    · obtain rfl : k = size := by omega
      go_wp2
      go_ret
      exact ⟨rfl, hb⟩

set_option maxRecDepth 100000 in
set_option maxHeartbeats 1000000 in
theorem readLittle_any (s : ByteArray) (size : Nat) (w : World) (h8 : size ≤ 8) (hs : size ≤ s.size) (hm : s.size ≤ maxLen) :
    Calls Tryd.prog 93 #[.string s, .int .i64 (size : Int)] w fun e w' => e = .returned (.int .u64 (unlittle (s.data.toList.take size) : Nat)) ∧ w' = w := by
  unfold maxLen at hm
  go_enter Tryd.func93, Tryd.ntmps93
  go_wp2
  go_loop [5, 6] (fun n i => ∃ k : Nat, k ≤ size ∧ i = .int .i64 ((k : Int) - 1) ∧ n = .int .u64 (unlittle ((s.data.toList.take size).drop k) : Nat)) (fun _ i => (intOf i + 1).toNat)
  case atStart => exact ⟨size, by omega, rfl, by simp [unlittle]⟩
  case round =>
    obtain ⟨k, hk, rfl, rfl⟩ := hrel
    by_cases h0 : 0 < k
    · obtain ⟨j, rfl⟩ : ∃ j, k = j + 1 := ⟨k - 1, by omega⟩
      rw [show (((j + 1 : Nat) : Int) - 1) = (j : Int) by omega]
      have hjs : j < s.size := by omega
      have hlen : j < (s.data.toList.take size).length := by simp; omega
      have hb := s[j].toNat_lt
      have hnx : unlittle ((s.data.toList.take size).drop j) = s[j].toNat + 256 * unlittle ((s.data.toList.take size).drop (j + 1)) := by
        rw [List.drop_eq_getElem_cons hlen, unlittle]
        congr 2
        simp
        rfl
      have hac := unlittle_lt ((s.data.toList.take size).drop j)
      have hpw : (256 : Nat) ^ ((s.data.toList.take size).drop j).length ≤ 256 ^ 8 := Nat.pow_le_pow_right (by decide) (by simp; omega)
      rw [hnx] at hac
      have hac2 : s[j].toNat + 256 * unlittle ((s.data.toList.take size).drop (j + 1)) < 18446744073709551616 := by omega
      have Hnx := Lib.hid hnx; clear hnx hac hpw hlen
      obtain ⟨m, hmm⟩ : ∃ m, s[j].toNat = m := ⟨_, rfl⟩
      rw [hmm] at hac2 hb
      generalize unlittle ((s.data.toList.take size).drop (j + 1)) = acc at *
      go_wp2
      go_round
      case rel => exact ⟨j, by omega, rfl, by rw [Hnx.out, hmm, show ((m + 256 * acc : Nat) : Int) = (acc : Int) * 256 + (m : Int) by omega]⟩
      case measure => simp [intOf]
    · obtain rfl : k = 0 := by omega
      go_wp2
      go_ret
      exact ⟨rfl, rfl⟩
end Go.Proofs.YthilhooomlhfpaaDoor
