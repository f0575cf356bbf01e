/- The document's numbers in up to 64 bits: the walks of bitsOf, PackOf once more. -/
import Derived.Test.YtddefnnimbjnaaaDoorBitsW5
namespace Go.Proofs.YtddefnnimbjnaaaDoor
set_option linter.unusedVariables false
open Go Go.RowKit Go.ChangeShapes

set_option maxRecDepth 100000 in
set_option maxHeartbeats 1000000 in
theorem bitsOf_any64 (v : Value) (l : List Nat) (wd : Nat) (w : World) (hI : IsNums .u64 w v (ints l)) (h1 : wd ≤ 64) (h2 : l.length ≤ 20000) (hg : ∀ n ∈ l, n < 18446744073709551616) :
    Calls Tryd.prog 89 #[v, .int .i64 (wd : Nat)] w fun e w' => (∃ u, e = .returned u ∧ w'.ownsRow w.heap.size 5 1 u (allBits wd l).length ((allBits wd l).map byteV)) ∧ Below w.heap.size w w' := by
  obtain ⟨ad, cap, rfl⟩ := hI.form
  have hlen : (ints l).length = l.length := by simp [ints]
  rw [hlen]
  rw [hlen] at hI
  have Hlen := Lib.hid hlen
  clear hlen
  obtain ⟨i0, hi, hz0, hz1, hz2⟩ := info_parts info_u8b
  go_enter Tryd.func89, Tryd.ntmps89
  go_wp2
  go_loopw [5, 6] (fun u i wr => ∃ k : Nat, k ≤ l.length ∧ i = .int .i64 k ∧ wr.ownsRow w.heap.size 5 1 u (allBits wd (l.take k)).length ((allBits wd (l.take k)).map byteV) ∧ Below w.heap.size w wr) (fun _ i _ => l.length - (intOf i).toNat)
  case atStart => exact ⟨0, Nat.zero_le _, rfl, World.ownsRow_nil _ _ _ _, Below.refl _ _⟩
  case round =>
    obtain ⟨k, hk, rfl, hown, hb⟩ := hrel
    have hI1 := hI.below hb (Nat.le_refl _)
    have Ho := Lib.hid hown; clear hown
    by_cases hlt : k < l.length
    · obtain ⟨b, off, rfl, hq, _, hc⟩ := hI1.at (by rw [Hlen.out]; omega)
      clear hq
      have hck := hc k l[k] (by simp [ints, List.getElem?_eq_getElem hlt])
      have g2 := hg l[k] (List.getElem_mem hlt)
      have hn : l.take (k + 1) = l.take k ++ [l[k]] := List.take_succ_eq_append_getElem hlt
      have hlb := allBits_len wd (l.take k)
      have hle : (l.take k).length * wd ≤ 20000 * 64 := Nat.mul_le_mul (by simp; omega) h1
      generalize l[k] = x at *
      have hsn := allBits_snoc wd x (l.take k)
      rw [← hn] at hsn
      have Hsn := Lib.hid hsn
      have hle2 : (allBits wd (l.take k)).length ≤ 1280000 := by rw [hlb]; exact hle
      have Hle2 := Lib.hid hle2
      clear hc hn hg hsn hlb hle hle2
      go_wp2
      have hle2 := Hle2.out
      generalize allBits wd (l.take k) = L at *
      go_loopw [5, 7, 8] (fun u n j wr' => ∃ m : Nat, m ≤ wd ∧ j = .int .i64 m ∧ n = .int .u64 ((x / 2 ^ m : Nat) : Int) ∧ wr'.ownsRow w.heap.size 5 1 u (L ++ bitsL m x).length ((L ++ bitsL m x).map byteV) ∧ Below w.heap.size w wr') (fun _ _ j _ => wd - (intOf j).toNat)
      case atStart => exact ⟨0, Nat.zero_le _, rfl, by simp, by simpa [bitsL] using Ho.out, hb⟩
      case round =>
        obtain ⟨m, hm, rfl, rfl, hown, hb2⟩ := hrel
        have Ho2 := Lib.hid hown; clear hown
        by_cases hlt2 : m < wd
        · have hd : x / 2 ^ m / 2 = x / 2 ^ (m + 1) := by rw [Nat.div_div_eq_div_mul, Nat.pow_succ]
          have Hd := Lib.hid hd
          have hsn := Lib.hid (bitsL_snoc m x)
          have hll : (L ++ bitsL m x).length = L.length + m := by rw [List.length_append, bitsL_len]
          have h63 : (L ++ bitsL m x).length + 1 ≤ maxLen := by rw [hll]; unfold maxLen; omega
          have h64 : ((L ++ bitsL m x).length + 1) * 1 ≤ 140737488355328 := by rw [hll]; omega
          have hy : x / 2 ^ m < 18446744073709551616 := Nat.lt_of_le_of_lt (Nat.div_le_self _ _) g2
          clear hd hll
          generalize x / 2 ^ m = y at *
          go_wp2_with (at_builtin; refine wpList_push rfl _ _ 76 rfl w.heap.size 5 i0 (.int .u8 0) 1 Tryd.underlying76 hi hz0 hz1 hz2 rfl byteV byteV_one _ _ rfl Ho2.out _ _ rfl h63 h64 hb2.size (UInt8.ofNat (y % 2)) (byteV_ofNat (by go_num) (by omega)) ?_; intro v' w1 hown' hb' hnn; have Ho' := Lib.hid hown'; clear hown')
          go_roundw
          case rel => exact ⟨m + 1, by omega, by go_num, by rw [← Hd.out]; go_num, by rw [hsn.out, ← List.append_assoc]; exact Ho'.out, hb2.trans hb'⟩
          case measure => simp [intOf]; omega
        · obtain rfl : m = wd := by omega
          go_wp2
          go_roundw
          case rel => exact ⟨k + 1, by omega, by go_num, by rw [Hsn.out]; exact Ho2.out, hb2⟩
          case measure => simp [intOf]; omega
    · obtain rfl : k = l.length := by omega
      rw [List.take_length] at Ho
      go_wp2
      go_ret
      exact ⟨⟨_, rfl, Ho.out⟩, hb⟩

set_option maxRecDepth 100000 in
set_option maxHeartbeats 2000000 in
theorem packOf_any64 (v : Value) (l : List Nat) (wd : Nat) (w : World) (hI : IsNums .u64 w v (ints l)) (h1 : wd ≤ 64) (h2 : l.length ≤ 20000) (hg : ∀ n ∈ l, n < 2 ^ wd) :
    Calls Tryd.prog 50 #[v, .int .i64 (wd : Nat)] w fun e w' => e = .returned (.string ⟨(packed wd l).toArray⟩) ∧ Below w.heap.size w w' := by
  have hg64 : ∀ n ∈ l, n < 18446744073709551616 := fun n hn => Nat.lt_of_lt_of_le (hg n hn) (Nat.le_trans (Nat.pow_le_pow_right (by decide : 2 > 0) h1) (by decide))
  go_enter Tryd.func50, Tryd.ntmps50
  go_wp2_with fail
  refine (bitsOf_any64 v l wd w hI h1 h2 hg64).mono ?_
  rintro e w0 ⟨⟨u, rfl, hown⟩, hb0⟩
  have hN := bytes_nums hown
  have hlen := allBits_len wd l
  have hbit := allBits_bit wd l
  have hV := valB_lt _ hbit
  have hget := fun j b => valB_get (allBits wd l) j b hbit
  have hle : (allBits wd l).length ≤ 1280000 := by rw [hlen]; exact Nat.mul_le_mul h2 h1
  have hend := packed_end wd l hg
  rw [← hlen] at hend
  clear hlen hg hg64 hI hown
  generalize allBits wd l = L at *
  obtain ⟨ad, cap, rfl⟩ := hN.form
  rw [List.length_map] at hN
  rw [List.length_map]
  go_wp2_with fail
  go_loopw [6, 7] (fun o i wr => ∃ j : Nat, 8 * j < L.length + 8 ∧ i = .int .i64 ((8 * j : Nat) : Int) ∧ o = .string ⟨(little j (valB L)).toArray⟩ ∧ Below w0.heap.size w0 wr) (fun _ i _ => L.length + 8 - (intOf i).toNat)
  case atStart => exact ⟨0, by omega, rfl, rfl, Below.refl _ _⟩
  case round =>
    obtain ⟨j, hj, rfl, rfl, hb⟩ := hrel
    have hN1 := hN.below hb (Nat.le_refl _)
    by_cases hlt : 8 * j < L.length
    · obtain ⟨b, off, rfl, hq, _, hc⟩ := hN1.at (by rw [List.length_map]; omega)
      clear hq
      have hin : 8 * j ≤ 1280000 := by omega
      have hdone := fun k => byte_done (valB L) j k L.length hV
      have hmore := fun k => bit_more (valB L) (8 * j) k
      have hsn := little_snoc j (valB L)
      generalize hV' : valB L = V at *
      have Hdone := Lib.hid hdone
      have Hmore := Lib.hid hmore
      have Hsn := Lib.hid hsn
      have hI8 : ∃ I, I = 8 * j := ⟨_, rfl⟩
      obtain ⟨I, hI8⟩ := hI8
      rw [← hI8] at Hdone Hmore hlt hin ⊢
      have HI := Lib.hid hI8
      clear hdone hmore hsn hI8 hV hj hV'
      go_wp2_with fail
      go_loopw [8, 9] (fun c k wr' => ∃ m : Nat, m ≤ 8 ∧ I + m ≤ L.length ∧ k = .int .i64 m ∧ c = .int .i64 ((V / 2 ^ I % 2 ^ m : Nat) : Int) ∧ wr' = wr) (fun _ k _ => 8 - (intOf k).toNat)
      case atStart => exact ⟨0, by omega, by omega, rfl, by simp [Nat.mod_one], rfl⟩
      case round =>
        obtain ⟨m, hm, hm2, rfl, rfl, rfl⟩ := hrel
        have hsz := hb.size
        by_cases hin2 : m < 8 ∧ I + m < L.length
        · obtain ⟨hm8, hil⟩ := hin2
          have hck := hc (I + m) (L[I + m].toNat : Int) (by simp [List.getElem?_eq_getElem hil])
          have hbv := hget (I + m) L[I + m] (List.getElem?_eq_getElem hil)
          have hb2 := hbit L[I + m] (List.getElem_mem hil)
          generalize L[I + m].toNat = bt at *
          have Hm := Lib.hid (Hmore.out m)
          rw [HI.out, ← HI.out] at Hm
          have Hbv := Lib.hid hbv
          have d1 : decide ((I : Int) + (m : Int) < (L.length : Int)) = true := by rw [decide_eq_true_iff]; omega
          have hp : (2 : Nat) ^ m ≤ 128 := Nat.pow_le_pow_right (by decide : 2 > 0) (show m ≤ 7 by omega)
          have hmod : V / 2 ^ I % 2 ^ m < 128 := Nat.lt_of_lt_of_le (Nat.mod_lt _ (Nat.pow_pos (by decide))) hp
          have hpr : bt * 2 ^ m ≤ 128 := Nat.le_trans (Nat.mul_le_mul_right _ (show bt ≤ 1 by omega)) (by omega)
          have hpi : ((bt : Int) * 2 ^ m) = ((bt * 2 ^ m : Nat) : Int) := by rw [Int.natCast_mul, Int.natCast_pow]; rfl
          generalize V / 2 ^ I % 2 ^ m = c at *
          have hw1 : IntKind.i64.wrap ((bt : Int) * 2 ^ m) = ((bt * 2 ^ m : Nat) : Int) := by rw [hpi]; exact wrap_small _ (by omega) (by omega)
          have Hpi := Lib.hid hpi
          clear hbv hpi hp hget hc
          go_wp2_with fail
          go_roundw
          case rel =>
            refine ⟨m + 1, by omega, by omega, by go_num, ?_, trivial⟩
            rw [Hm.out, Hbv.out, Hpi.out]
            exact congrArg _ (by rw [wrap64_small _ (by omega) (by omega), Int.natCast_add])
          case measure => simp [intOf]; omega
        · have hv : V / 2 ^ I % 2 ^ m = V / 256 ^ j % 256 := Hdone.out m hm (by omega)
          have hcc : V / 256 ^ j % 256 < 256 := Nat.mod_lt _ (by decide)
          have hHI := HI.out
          clear hget hc hbit
          have hgo : ∃ c : Nat, c = V / 2 ^ I % 2 ^ m := ⟨_, rfl⟩
          obtain ⟨c, hcv⟩ := hgo
          rw [← hcv] at hv ⊢
          have Hv := Lib.hid hv
          clear hcv hv
          have Hhi := Lib.hid hHI
          have hll := little_len j V
          have hj2 : j ≤ 160000 := by omega
          clear hHI
          by_cases hm8 : m < 8
          focus
            have d1 : decide ((I : Int) + (m : Int) < (L.length : Int)) = false := by rw [decide_eq_false_iff_not]; omega
            clear hin2
          rotate_left
          focus
            have d1 : True := trivial
            clear hin2
          all_goals
            go_wp2_with (go_at_call 69; refine (byte_any _ _).mono ?_; rintro e w1 ⟨rfl, hb1⟩)
            go_roundw
            case rel =>
              refine ⟨j + 1, by have := Hhi.out; omega, by rw [Hhi.out]; go_num, ?_, below_trans hb hb1⟩
              rw [Hsn.out]
              rw [ByteArray.mk_append_mk _ [_]]
              have h3 := Hv.out
              rw [← h3, show c % 256 = c by omega]
            case measure => have := Hhi.out; simp [intOf]; omega
    · have h3 := hend j (by omega) hj
      have H3 := Lib.hid h3
      clear hget hend h3
      go_wp2_with fail
      go_ret
      refine ⟨ret_of (by rw [← H3.out]; rfl), below_trans hb0 hb⟩
end Go.Proofs.YtddefnnimbjnaaaDoor
