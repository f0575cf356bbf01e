/- The walks of the document's PackOf and of the statement's faulted, ints. -/
import Derived.Test.YtddefnnimbjnaaaDoorBitsW4
namespace Go.Proofs.YtddefnnimbjnaaaDoor
open Go Go.RowKit Go.ChangeShapes

theorem wrap64_small (n : Int) (h0 : 0 ≤ n) (h1 : n < 9223372036854775808) : wrap64 n = n := by unfold wrap64; omega
theorem bytes_nums {w : World} {B : Nat} {e : TypeId} {v : Value} {L : List UInt8} (h : w.ownsRow B e 1 v L.length (L.map byteV)) : IsNums .u8 w v (L.map fun b => (b.toNat : Int)) := by
  refine IsNums.of_own (B := B) (e := e) ?_
  rw [List.length_map, List.map_map]
  exact h

set_option maxRecDepth 100000 in
set_option maxHeartbeats 2000000 in
theorem packOf_any (v : Value) (l : List Nat) (wd : Nat) (w : World) (hI : IsNums .u64 w v (ints l)) (h1 : wd ≤ 32) (h2 : l.length ≤ 20000) (hg : ∀ n ∈ l, n < 2 ^ wd) :
    Calls Tryd.prog 50 #[v, .int .i64 (wd : Nat)] w fun e w' => e = .returned (.string ⟨(packed wd l).toArray⟩) ∧ Below w.heap.size w w' := by
  have hg64 : ∀ n ∈ l, n < 18446744073709551616 := fun n hn => Nat.lt_of_lt_of_le (hg n hn) (Nat.le_trans (Nat.pow_le_pow_right (by decide : 2 > 0) h1) (by decide))
  go_enter Tryd.func50, Tryd.ntmps50
  go_wp2_with fail
  refine (bitsOf_any v l wd w hI h1 h2 hg64).mono ?_
  rintro e w0 ⟨⟨u, rfl, hown⟩, hb0⟩
  have hN := bytes_nums hown
  have hlen := allBits_len wd l
  have hbit := allBits_bit wd l
  have hV := valB_lt _ hbit
  have hget := fun j b => valB_get (allBits wd l) j b hbit
  have hle : (allBits wd l).length ≤ 640000 := by rw [hlen]; exact Nat.mul_le_mul h2 h1
  have hend := packed_end wd l hg
  rw [← hlen] at hend
  clear hlen hg hg64 hI hown
  generalize allBits wd l = L at *
  obtain ⟨ad, cap, rfl⟩ := hN.form
  rw [List.length_map] at hN
  rw [List.length_map]
  go_wp2_with fail
  go_loopw [6, 7] (fun o i wr => ∃ j : Nat, 8 * j < L.length + 8 ∧ i = .int .i64 ((8 * j : Nat) : Int) ∧ o = .string ⟨(little j (valB L)).toArray⟩ ∧ Below w0.heap.size w0 wr) (fun _ i _ => L.length + 8 - (intOf i).toNat)
  case atStart => exact ⟨0, by omega, rfl, rfl, Below.refl _ _⟩
  case round =>
    obtain ⟨j, hj, rfl, rfl, hb⟩ := hrel
    have hN1 := hN.below hb (Nat.le_refl _)
    by_cases hlt : 8 * j < L.length
    · obtain ⟨b, off, rfl, hq, _, hc⟩ := hN1.at (by rw [List.length_map]; omega)
      clear hq
      have hin : 8 * j ≤ 640000 := by omega
      have hdone := fun k => byte_done (valB L) j k L.length hV
      have hmore := fun k => bit_more (valB L) (8 * j) k
      have hsn := little_snoc j (valB L)
      generalize hV' : valB L = V at *
      have Hdone := Lib.hid hdone
      have Hmore := Lib.hid hmore
      have Hsn := Lib.hid hsn
      have hI8 : ∃ I, I = 8 * j := ⟨_, rfl⟩
      obtain ⟨I, hI8⟩ := hI8
      rw [← hI8] at Hdone Hmore hlt hin ⊢
      have HI := Lib.hid hI8
      clear hdone hmore hsn hI8 hV hj hV'
      go_wp2_with fail
      go_loopw [8, 9] (fun c k wr' => ∃ m : Nat, m ≤ 8 ∧ I + m ≤ L.length ∧ k = .int .i64 m ∧ c = .int .i64 ((V / 2 ^ I % 2 ^ m : Nat) : Int) ∧ wr' = wr) (fun _ k _ => 8 - (intOf k).toNat)
      case atStart => exact ⟨0, by omega, by omega, rfl, by simp [Nat.mod_one], rfl⟩
      case round =>
        obtain ⟨m, hm, hm2, rfl, rfl, rfl⟩ := hrel
        have hsz := hb.size
        by_cases hin2 : m < 8 ∧ I + m < L.length
        · obtain ⟨hm8, hil⟩ := hin2
          have hck := hc (I + m) (L[I + m].toNat : Int) (by simp [List.getElem?_eq_getElem hil])
          have hbv := hget (I + m) L[I + m] (List.getElem?_eq_getElem hil)
          have hb2 := hbit L[I + m] (List.getElem_mem hil)
          generalize L[I + m].toNat = bt at *
          have Hm := Lib.hid (Hmore.out m)
          rw [HI.out, ← HI.out] at Hm
          have Hbv := Lib.hid hbv
          have d1 : decide ((I : Int) + (m : Int) < (L.length : Int)) = true := by rw [decide_eq_true_iff]; omega
          have hp : (2 : Nat) ^ m ≤ 128 := Nat.pow_le_pow_right (by decide : 2 > 0) (show m ≤ 7 by omega)
          have hmod : V / 2 ^ I % 2 ^ m < 128 := Nat.lt_of_lt_of_le (Nat.mod_lt _ (Nat.pow_pos (by decide))) hp
          have hpr : bt * 2 ^ m ≤ 128 := Nat.le_trans (Nat.mul_le_mul_right _ (show bt ≤ 1 by omega)) (by omega)
          have hpi : ((bt : Int) * 2 ^ m) = ((bt * 2 ^ m : Nat) : Int) := by rw [Int.natCast_mul, Int.natCast_pow]; rfl
          generalize V / 2 ^ I % 2 ^ m = c at *
          have hw1 : IntKind.i64.wrap ((bt : Int) * 2 ^ m) = ((bt * 2 ^ m : Nat) : Int) := by rw [hpi]; exact wrap_small _ (by omega) (by omega)
          have Hpi := Lib.hid hpi
          clear hbv hpi hp hget hc
          go_wp2_with fail
          go_roundw
          case rel =>
            refine ⟨m + 1, by omega, by omega, by go_num, ?_, trivial⟩
            rw [Hm.out, Hbv.out, Hpi.out]
            exact congrArg _ (by rw [wrap64_small _ (by omega) (by omega), Int.natCast_add])
          case measure => simp [intOf]; omega
        · have hv : V / 2 ^ I % 2 ^ m = V / 256 ^ j % 256 := Hdone.out m hm (by omega)
          have hcc : V / 256 ^ j % 256 < 256 := Nat.mod_lt _ (by decide)
          have hHI := HI.out
          clear hget hc hbit
          have hgo : ∃ c : Nat, c = V / 2 ^ I % 2 ^ m := ⟨_, rfl⟩
          obtain ⟨c, hcv⟩ := hgo
          rw [← hcv] at hv ⊢
          have Hv := Lib.hid hv
          clear hcv hv
          have Hhi := Lib.hid hHI
          have hll := little_len j V
          have hj2 : j ≤ 80000 := by omega
          clear hHI
          by_cases hm8 : m < 8
          focus
            have d1 : decide ((I : Int) + (m : Int) < (L.length : Int)) = false := by rw [decide_eq_false_iff_not]; omega
            clear hin2
          rotate_left
          focus
            have d1 : True := trivial
            clear hin2
          all_goals
            go_wp2_with (go_at_call 69; refine (byte_any _ _).mono ?_; rintro e w1 ⟨rfl, hb1⟩)
            go_roundw
            case rel =>
              refine ⟨j + 1, by have := Hhi.out; omega, by rw [Hhi.out]; go_num, ?_, below_trans hb hb1⟩
              rw [Hsn.out]
              rw [ByteArray.mk_append_mk _ [_]]
              have h3 := Hv.out
              rw [← h3, show c % 256 = c by omega]
            case measure => have := Hhi.out; simp [intOf]; omega
    · have h3 := hend j (by omega) hj
      have H3 := Lib.hid h3
      clear hget hend h3
      go_wp2_with fail
      go_ret
      refine ⟨ret_of (by rw [← H3.out]; rfl), below_trans hb0 hb⟩


set_option maxRecDepth 100000 in
set_option maxHeartbeats 400000 in
theorem faulted_any {w : World} {adr : Nat → Addr} {e : GErr} {v : Value} (c p : Int) (hE : ErrEnv w adr) (he : IsErr w adr e v) :
    Calls Tryd.prog 24 #[v, faultV c p] w fun r w' => r = .returned (.bool (e.code == c && (e.code == 0 || e.at' == p))) ∧ Below w.heap.size w w' := by
  unfold faultV
  have hb0 : Below w.heap.size w (w.alloc (.cells #[.int .i64 c, .int .i64 p] 38)) := (Below.refl _ _).alloc (Nat.le_refl _) _
  have fin : ∀ w1, Below (w.alloc (.cells #[.int .i64 c, .int .i64 p] 38)).heap.size (w.alloc (.cells #[.int .i64 c, .int .i64 p] 38)) w1 →
      Below w.heap.size w w1 ∧ w1.cell? ⟨w.heap.size, 0, none⟩ = some (.int .i64 c) ∧ w1.cell? ⟨w.heap.size, 1, none⟩ = some (.int .i64 p) := by
    intro w1 hb
    refine ⟨hb0.trans (hb.mono (by simp)), ?_, ?_⟩
    · rw [hb.cell (p := ⟨w.heap.size, 0, none⟩) (by simp), World.cell?_alloc_at _ _ _ _ rfl]; rfl
    · rw [hb.cell (p := ⟨w.heap.size, 1, none⟩) (by simp), World.cell?_alloc_at _ _ _ _ rfl]; rfl
  have hcode := code_any (hE.below hb0) (he.below hb0)
  generalize hk : e.code = k at *
  generalize hq : e.at' = q at *
  clear hk hq hE he
  by_cases h1 : k = c
  · have d1 : (k == c) = true := by simpa using h1
    rw [d1]
    by_cases h2 : k = 0
    · have d2 : (k == 0) = true := by simpa using h2
      rw [d2]
      clear h1 h2
      go_enter Tryd.func24, Tryd.ntmps24
      go_wp2_with fail
      refine hcode.mono ?_; rintro r w1 ⟨rfl, hb1⟩
      obtain ⟨hb, c0, c1⟩ := fin w1 hb1
      clear fin hcode hb0 hb1
      go_wp2_with fail
      go_ret
      exact ⟨rfl, hb⟩
    · have d2 : (k == 0) = false := by simpa using h2
      rw [d2]
      clear h1 h2
      go_enter Tryd.func24, Tryd.ntmps24
      go_wp2_with fail
      refine hcode.mono ?_; rintro r w1 ⟨rfl, hb1⟩
      obtain ⟨hb, c0, c1⟩ := fin w1 hb1
      clear fin hcode hb0 hb1
      go_wp2_with fail
      go_ret
      exact ⟨ret_of (by simp), hb⟩
  · have d1 : (k == c) = false := by simpa using h1
    rw [d1]
    clear h1
    go_enter Tryd.func24, Tryd.ntmps24
    go_wp2_with fail
    refine hcode.mono ?_; rintro r w1 ⟨rfl, hb1⟩
    obtain ⟨hb, c0, c1⟩ := fin w1 hb1
    clear fin hcode hb0 hb1
    go_wp2_with fail
    go_ret
    exact ⟨rfl, hb⟩
end Go.Proofs.YtddefnnimbjnaaaDoor
