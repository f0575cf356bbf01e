/- bitrun.Get and the document's UnpackOf once more, in up to 64 bits. -/
import Derived.Test.YtpbkmfnfcdhhjaaDoorMBits
namespace Go.Proofs.YtpbkmfnfcdhhjaaDoor
set_option linter.unusedVariables false
open Go Go.RowKit Go.ChangeShapes

theorem get_step64 (X b e k : Nat) (hX : X < 2 ^ k) (hb : b < 256) (hp : (2 : Nat) ^ k ≤ 9223372036854775808) :
    bits .or .u64 (X : Int) (IntKind.u64.wrap (IntKind.u64.wrap (bits .and .u8 ((b : Int) / 2 ^ e) 1) * 2 ^ k)) = ((X + b / 2 ^ e % 2 * 2 ^ k : Nat) : Int) := by
  have hd : b / 2 ^ e < 256 := Nat.lt_of_le_of_lt (Nat.div_le_self _ _) hb
  rw [show ((b : Int) / 2 ^ e) = ((b / 2 ^ e : Nat) : Int) by simp, show (1 : Int) = ((1 : Nat) : Int) from rfl, u8_and_nat _ 1 hd (by decide), nat_mask1]
  have h1 : b / 2 ^ e % 2 ≤ 1 := by omega
  generalize b / 2 ^ e % 2 = t at *
  have h2 : t * 2 ^ k ≤ 9223372036854775808 := Nat.le_trans (Nat.mul_le_mul_right _ h1) (by omega)
  rw [show IntKind.u64.wrap ((t : Nat) : Int) = (t : Int) by rw [IntKind.wrap_u64]; omega, show ((t : Int) * 2 ^ k) = ((t * 2 ^ k : Nat) : Int) by rw [Int.natCast_mul, Int.natCast_pow]; rfl,
    show IntKind.u64.wrap ((t * 2 ^ k : Nat) : Int) = ((t * 2 ^ k : Nat) : Int) by rw [IntKind.wrap_u64]; omega, u64_or_nat _ _ (by omega) (by omega), Nat.or_comm, Nat.add_comm, Nat.mul_comm t, ← Nat.two_pow_add_eq_or_of_lt hX]

set_option maxRecDepth 100000 in
set_option maxHeartbeats 1000000 in
theorem get_any64 (s : ByteArray) (at' wd : Nat) (w : World) (hw : wd ≤ 64) (hs : at' + wd ≤ 8 * s.size) (hm : s.size ≤ 1000000) :
    Calls Tryd.prog 107 #[.string s, .int .i64 (at' : Nat), .int .i64 (wd : Nat)] w fun e w' => e = .returned (.int .u64 ((unlittle s.data.toList / 2 ^ at' % 2 ^ wd : Nat) : Int)) ∧ w' = w := by
  have hget : ∀ k (h : k / 8 < s.size), s[k / 8].toNat / 2 ^ (k % 8) % 2 = unlittle s.data.toList / 2 ^ k % 2 := fun k h => unlittle_bit _ _ _ (by rw [List.getElem?_eq_getElem (by simpa using h)]; rfl)
  go_enter Tryd.func107, Tryd.ntmps107
  go_wp2
  go_loop [7, 11] (fun n i => ∃ k : Nat, k ≤ wd ∧ i = .int .i64 k ∧ n = .int .u64 ((unlittle s.data.toList / 2 ^ at' % 2 ^ k : Nat) : Int)) (fun _ i => wd - (intOf i).toNat)
  case atStart => exact ⟨0, Nat.zero_le _, rfl, by simp [Nat.mod_one]⟩
  case round =>
    obtain ⟨k, hk, rfl, rfl⟩ := hrel
    by_cases hlt : k < wd
    · have hlt8 : (at' + k) / 8 < s.size := by omega
      have hbit := hget (at' + k) hlt8
      have hb := s[(at' + k) / 8].toNat_lt
      have hmore := bits_succ (unlittle s.data.toList / 2 ^ at') k
      rw [Nat.div_div_eq_div_mul, ← Nat.pow_add] at hmore
      have hX : unlittle s.data.toList / 2 ^ at' % 2 ^ k < 2 ^ k := Nat.mod_lt _ (Nat.pow_pos (by decide))
      have Hbit := Lib.hid hbit
      have Hmore := Lib.hid hmore
      have HX := Lib.hid hX
      clear hbit hmore hget hX
      go_wp2
      go_round
      case rel =>
        refine ⟨k + 1, by omega, by go_num, ?_⟩
        have hp : (2 : Nat) ^ k ≤ 2 ^ 63 := Nat.pow_le_pow_right (by decide) (by omega)
        have hXi : ((unlittle s.data.toList : Nat) : Int) / 2 ^ at' % 2 ^ k = ((unlittle s.data.toList / 2 ^ at' % 2 ^ k : Nat) : Int) := by simp
        rw [Hmore.out, ← Hbit.out, hXi]
        have hX := HX.out
        generalize unlittle s.data.toList / 2 ^ at' % 2 ^ k = X at *
        generalize s[(at' + k) / 8].toNat = b at *
        exact congrArg _ (get_step64 X b ((at' + k) % 8) k hX hb hp)
      case measure => simp [intOf]; omega
    · obtain rfl : k = wd := by omega
      go_wp2
      go_ret
      exact ⟨rfl, rfl⟩

theorem unp_step64 (X b e k : Nat) (hX : X < 2 ^ k) (hb : b < 256) (hp : (2 : Nat) ^ k ≤ 9223372036854775808) :
    IntKind.u64.wrap ((X : Int) + IntKind.u64.wrap ((((b : Int) / 2 ^ e)).tmod 2 * 2 ^ k)) = ((X + b / 2 ^ e % 2 * 2 ^ k : Nat) : Int) := by
  have h1 : b / 2 ^ e % 2 ≤ 1 := by omega
  rw [show ((b : Int) / 2 ^ e) = ((b / 2 ^ e : Nat) : Int) by simp, show (((b / 2 ^ e : Nat) : Int)).tmod 2 = ((b / 2 ^ e % 2 : Nat) : Int) from rfl]
  generalize b / 2 ^ e % 2 = t at *
  have h2 : t * 2 ^ k ≤ 9223372036854775808 := Nat.le_trans (Nat.mul_le_mul_right _ h1) (by omega)
  rw [show ((t : Int) * 2 ^ k) = ((t * 2 ^ k : Nat) : Int) by rw [Int.natCast_mul, Int.natCast_pow]; rfl,
    show IntKind.u64.wrap ((t * 2 ^ k : Nat) : Int) = ((t * 2 ^ k : Nat) : Int) by rw [IntKind.wrap_u64]; omega, IntKind.wrap_u64]
  omega

set_option maxRecDepth 100000 in
set_option maxHeartbeats 2000000 in
theorem unpackOf_any64 (s : ByteArray) (wd n : Nat) (w : World) (hw : wd ≤ 64) (hn : n ≤ 20008) (hm : s.size ≤ 1000000) :
    Calls Tryd.prog 79 #[.string s, .int .i64 (wd : Nat), .int .i64 (n : Nat)] w fun e w' =>
      ((n * wd ≤ 8 * s.size ∧ ∃ u, e = .returned (.tuple #[u, .bool true]) ∧ w'.ownsRow w.heap.size 84 1 u n ((getAll (unlittle s.data.toList) wd n).map natU)) ∨ (8 * s.size < n * wd ∧ e = .returned (.tuple #[.slice none 0 0, .bool false]))) ∧ Below w.heap.size w w' := by
  obtain ⟨i0, hi, hz0, hz1, hz2⟩ := info_parts info_u64
  have hget : ∀ k (h : k / 8 < s.size), s[k / 8].toNat / 2 ^ (k % 8) % 2 = unlittle s.data.toList / 2 ^ k % 2 := fun k h => unlittle_bit _ _ _ (by rw [List.getElem?_eq_getElem (by simpa using h)]; rfl)
  have hlen := getAll_len (unlittle s.data.toList) wd
  have hsn : ∀ k, getAll (unlittle s.data.toList) wd (k + 1) = getAll (unlittle s.data.toList) wd k ++ [unlittle s.data.toList / 2 ^ (k * wd) % 2 ^ wd] := fun k => rfl
  have Hget := Lib.hid hget
  have Hlen := Lib.hid hlen
  have Hsn := Lib.hid hsn
  clear hget hlen hsn
  go_enter Tryd.func79, Tryd.ntmps79
  go_wp2_with fail
  go_loopw [8, 9, 10] (fun u a i wr => ∃ k : Nat, k ≤ n ∧ i = .int .i64 k ∧ a = .int .i64 ((k * wd : Nat) : Int) ∧ k * wd ≤ 8 * s.size ∧ wr.ownsRow w.heap.size 84 1 u k ((getAll (unlittle s.data.toList) wd k).map natU) ∧ Below w.heap.size w wr) (fun _ _ i _ => n - (intOf i).toNat)
  case atStart => exact ⟨0, Nat.zero_le _, rfl, by simp, by omega, World.ownsRow_nil _ _ _ _, Below.refl _ _⟩
  case round =>
    obtain ⟨k, hk, rfl, rfl, hka, hown, hb⟩ := hrel
    have Ho := Lib.hid hown; clear hown
    by_cases hkn : k < n
    · have hkw : (k + 1) * wd ≤ n * wd := Nat.mul_le_mul_right _ hkn
      have h63 : (getAll (unlittle s.data.toList) wd k).length + 1 ≤ maxLen := by rw [Hlen.out]; unfold maxLen; omega
      have h64 : ((getAll (unlittle s.data.toList) wd k).length + 1) * 8 ≤ 140737488355328 := by rw [Hlen.out]; omega
      rw [Nat.add_one_mul] at hkw
      have Hkw := Lib.hid hkw
      have hA : ∃ A, A = k * wd := ⟨_, rfl⟩
      obtain ⟨A, hA⟩ := hA
      have Hg := Lib.hid (Hsn.out k)
      have Hl := Lib.hid (Hlen.out k)
      rw [← hA] at Hg hka Hkw ⊢
      generalize getAll (unlittle s.data.toList) wd k = L at *
      rw [← Hl.out] at Ho
      clear hkw
      have HA := Lib.hid hA; clear hA
      go_wp2_with fail
      go_loopw [9, 11, 12] (fun a x j wr' => ∃ m : Nat, m ≤ wd ∧ A + m ≤ 8 * s.size ∧ j = .int .i64 m ∧ a = .int .i64 ((A + m : Nat) : Int) ∧ x = .int .u64 ((unlittle s.data.toList / 2 ^ A % 2 ^ m : Nat) : Int) ∧ wr' = wr) (fun _ _ j _ => wd - (intOf j).toNat)
      case atStart => exact ⟨0, Nat.zero_le _, by omega, rfl, rfl, by simp [Nat.mod_one], rfl⟩
      case round =>
        obtain ⟨m, hm2, hA8, rfl, rfl, rfl, rfl⟩ := hrel
        by_cases hmw : m < wd
        · by_cases hin : (A + m) / 8 < s.size
          · have Hbit := Lib.hid (Hget.out (A + m) hin)
            have hb8 := s[(A + m) / 8].toNat_lt
            have hmore := bits_succ (unlittle s.data.toList / 2 ^ A) m
            rw [Nat.div_div_eq_div_mul, ← Nat.pow_add] at hmore
            have Hmore := Lib.hid hmore
            clear hmore
            go_wp2_with fail
            go_roundw
            case rel =>
              refine ⟨m + 1, by omega, by omega, by go_num, by go_num, ?_, trivial⟩
              have hp : (2 : Nat) ^ m ≤ 2 ^ 63 := Nat.pow_le_pow_right (by decide) (by omega)
              have hX : unlittle s.data.toList / 2 ^ A % 2 ^ m < 2 ^ m := Nat.mod_lt _ (Nat.pow_pos (by decide))
              have hXi : ((unlittle s.data.toList : Nat) : Int) / 2 ^ A % 2 ^ m = ((unlittle s.data.toList / 2 ^ A % 2 ^ m : Nat) : Int) := by simp
              rw [Hmore.out, ← Hbit.out, hXi]
              generalize unlittle s.data.toList / 2 ^ A % 2 ^ m = X at *
              generalize s[(A + m) / 8].toNat = b at *
              rw [unp_step64 X b ((A + m) % 8) m hX hb8 (Nat.le_trans hp (by decide))]
            case measure => simp [intOf]; omega
          · have hsh : 8 * s.size < n * wd := by have := Hkw.out; omega
            go_wp2_with fail
            go_ret2
            exact ⟨.inr ⟨hsh, rfl⟩, hb⟩
        · obtain rfl : m = wd := by omega
          have hX : ∃ X, X = unlittle s.data.toList / 2 ^ A % 2 ^ m := ⟨_, rfl⟩
          obtain ⟨X, hX⟩ := hX
          rw [← hX] at Hg ⊢
          clear hX
          go_wp2_with (at_builtin; refine wpList_push rfl _ _ 129 rfl w.heap.size 84 i0 (.int .u64 0) 8 Tryd.underlying129 hi hz0 hz1 hz2 rfl natU (fun _ => rfl) _ _ rfl Ho.out _ _ rfl h63 h64 hb.size X rfl ?_; intro v' w2 hown' hb' hnn; have Ho' := Lib.hid hown'; clear hown')
          go_roundw
          case rel =>
            refine ⟨k + 1, by omega, by go_num, ?_, ?_, ?_, hb.trans hb'⟩
            · rw [Nat.add_one_mul, ← HA.out]; go_num
            · rw [Nat.add_one_mul, ← HA.out]; exact hA8
            · rw [Hg.out]; have h := Ho'.out; rwa [List.length_append, Hl.out] at h
          case measure => simp [intOf]; omega
    · obtain rfl : k = n := by omega
      go_wp2_with fail
      go_ret2
      exact ⟨.inl ⟨hka, _, rfl, Ho.out⟩, hb⟩
end Go.Proofs.YtpbkmfnfcdhhjaaDoor
