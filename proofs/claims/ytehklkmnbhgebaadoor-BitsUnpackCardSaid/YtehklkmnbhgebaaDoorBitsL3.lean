/- The walk of the statement BitsUnpack. -/
import Derived.Test.YtehklkmnbhgebaaDoorBitsW7
import Derived.Test.YtehklkmnbhgebaaDoorBitsL2
namespace Go.Proofs.YtehklkmnbhgebaaDoor
set_option linter.unusedVariables false
open Go Go.RowKit Go.ChangeShapes

set_option maxRecDepth 100000 in
set_option maxHeartbeats 1000000 in
theorem unpack_bound (s : ByteArray) (wd n : Int) (w : World) (a : Addr) (hE : w.cell? ⟨1, 0, none⟩ = some (.iface 93 (.pointer (some a)))) (h : wd < 0 ∨ 32 < wd ∨ n < 0 ∨ 20000 < n) :
    Calls Tryd.prog 31 #[.string s, .int .i64 wd, .int .i64 n] w fun e w' => e = .returned (.tuple #[.slice none 0 0, .iface 93 (.pointer (some a))]) ∧ Below w.heap.size w w' := by
  by_cases h1 : wd < 0
  · have d1 : decide (wd < 0) = true := by simpa using h1
    go_enter Tryd.func31, Tryd.ntmps31
    go_wp2_with fail
    go_quiet (fail)
    go_wp2_with fail
    go_ret2
    exact ⟨rfl, below_drewN (Below.refl _ _) _⟩
  · have d1 : decide (wd < 0) = false := by simpa using h1
    by_cases h2 : 32 < wd
    · have d2 : decide (32 < wd) = true := by simpa using h2
      go_enter Tryd.func31, Tryd.ntmps31
      go_wp2_with fail
      go_quiet (fail)
      go_wp2_with fail
      go_ret2
      exact ⟨rfl, below_drewN (Below.refl _ _) _⟩
    · have d2 : decide (32 < wd) = false := by simpa using h2
      by_cases h3 : n < 0
      · have d3 : decide (n < 0) = true := by simpa using h3
        go_enter Tryd.func31, Tryd.ntmps31
        go_wp2_with fail
        go_quiet (fail)
        go_wp2_with fail
        go_ret2
        exact ⟨rfl, below_drewN (Below.refl _ _) _⟩
      · have d3 : decide (n < 0) = false := by simpa using h3
        have d4 : decide (20000 < n) = true := by simp; omega
        go_enter Tryd.func31, Tryd.ntmps31
        go_wp2_with fail
        go_quiet (fail)
        go_wp2_with fail
        go_ret2
        exact ⟨rfl, below_drewN (Below.refl _ _) _⟩

set_option maxRecDepth 100000 in
set_option maxHeartbeats 1000000 in
theorem unpack_short (s : ByteArray) (wd n : Nat) (w : World) (a : Addr) (hE : w.cell? ⟨0, 0, none⟩ = some (.iface 93 (.pointer (some a)))) (hw : wd ≤ 32) (hn : n ≤ 20000) (hs : 8 * s.size < n * wd) (hm : s.size ≤ 1000000) :
    Calls Tryd.prog 31 #[.string s, .int .i64 (wd : Nat), .int .i64 (n : Nat)] w fun e w' => e = .returned (.tuple #[.slice none 0 0, .iface 93 (.pointer (some a))]) ∧ Below w.heap.size w w' := by
  have d1 : decide ((32 : Int) < (wd : Int)) = false := by simp; omega
  have d2 : decide ((20000 : Int) < (n : Int)) = false := by simp; omega
  have hsz := size_any n wd (by omega) hw w
  have hle : s.size < (n * wd + 7) / 8 := by omega
  generalize (n * wd + 7) / 8 = z at *
  have d3 : decide ((wd : Int) < 0) = false := by simp
  have d4 : decide ((n : Int) < 0) = false := by simp
  have d5 : decide (s.size < z) = true := by rw [decide_eq_true_iff]; omega
  clear hs
  go_enter Tryd.func31, Tryd.ntmps31
  go_wp2_with fail
  refine hsz.mono ?_; rintro e w0 ⟨rfl, rfl⟩
  go_wp2_with fail
  go_quiet (fail)
  go_wp2_with fail
  go_ret2
  exact ⟨rfl, below_drewN (Below.refl _ _) _⟩

set_option maxRecDepth 100000 in
set_option maxHeartbeats 2000000 in
theorem bu_err (s : ByteArray) (wd n : Int) (w : World) (adr : Nat → Addr) (hE : ErrEnv w adr) (h1 : s.size ≤ 1000) (h2 : n ≤ 400 ∨ 20000 < n) (h : wd < 0 ∨ 32 < wd ∨ n < 0 ∨ 20000 < n) :
    Calls Tryd.prog 11 #[.string s, .int .i64 wd, .int .i64 n] w fun e w' => e = .returned (.bool true) ∧ Below w.heap.size w w' := by
  have hU := fun w1 (a : Addr) (hE1 : w1.cell? ⟨1, 0, none⟩ = some (.iface 93 (.pointer (some a)))) => unpack_bound s wd n w1 a hE1 h
  have d0 : decide ((1000 : Int) < (s.size : Int)) = false := by simp; omega
  clear h1
  have hn : (decide (400 < n) = false) ∨ (decide (400 < n) = true ∧ decide (n ≤ 20000) = false) := by
    rcases h2 with h2 | h2
    · left; simp; omega
    · right; constructor <;> simp <;> omega
  have hb : decide (wd < 0) = true ∨ (decide (wd < 0) = false ∧ decide (32 < wd) = true) ∨ (decide (wd < 0) = false ∧ decide (32 < wd) = false ∧ decide (n < 0) = true) ∨ (decide (wd < 0) = false ∧ decide (32 < wd) = false ∧ decide (n < 0) = false ∧ decide (20000 < n) = true) := by
    simp only [decide_eq_true_iff, decide_eq_false_iff_not]; omega
  clear h h2
  rcases hn with n1 | ⟨n1, n2⟩ <;> rcases hb with b1 | ⟨b1, b2⟩ | ⟨b1, b2, b3⟩ | ⟨b1, b2, b3, b4⟩
  all_goals
    go_enter Tryd.func11, Tryd.ntmps11
    go_wp2_with fail
    refine (nine_any _).mono ?_; rintro e w1 ⟨rfl, hb1⟩
    have hE1 := hE.below hb1
    go_wp2_with fail
    refine (hU w1 _ (hE1.cell 2 (by decide) (by decide))).mono ?_; rintro e w2 ⟨rfl, hb2⟩
    have hE2 := hE1.below hb2
    go_wp2_with fail
    refine (coded_any (e := .sent 2) 2 hE2 ⟨by decide, by decide, rfl⟩).mono ?_; rintro e w3 ⟨rfl, hb3⟩
    go_wp2_with fail
    go_ret
    exact ⟨rfl, below_trans (below_trans hb1 hb2) hb3⟩

set_option maxRecDepth 100000 in
set_option maxHeartbeats 2000000 in
theorem bu_early (s : ByteArray) (wd n : Int) (w : World) (h : 1000 < s.size ∨ (400 < n ∧ n ≤ 20000)) :
    Calls Tryd.prog 11 #[.string s, .int .i64 wd, .int .i64 n] w fun e w' => e = .returned (.bool true) ∧ Below w.heap.size w w' := by
  have hb : decide ((1000 : Int) < (s.size : Int)) = true ∨ (decide ((1000 : Int) < (s.size : Int)) = false ∧ decide (400 < n) = true ∧ decide (n ≤ 20000) = true) := by
    simp only [decide_eq_true_iff, decide_eq_false_iff_not]; omega
  clear h
  rcases hb with b1 | ⟨b1, b2, b3⟩
  all_goals
    go_enter Tryd.func11, Tryd.ntmps11
    go_wp2_with fail
    refine (nine_any _).mono ?_; rintro e w1 ⟨rfl, hb1⟩
    go_wp2_with fail
    go_ret
    exact ⟨rfl, hb1⟩

set_option maxRecDepth 100000 in
set_option maxHeartbeats 2000000 in
theorem bu_short (s : ByteArray) (wd n : Nat) (w : World) (adr : Nat → Addr) (hE : ErrEnv w adr) (h1 : s.size ≤ 1000) (h2 : n ≤ 400) (hw : wd ≤ 32) (hs : 8 * s.size < n * wd) :
    Calls Tryd.prog 11 #[.string s, .int .i64 (wd : Nat), .int .i64 (n : Nat)] w fun e w' => e = .returned (.bool true) ∧ Below w.heap.size w w' := by
  have hU := fun w1 (a : Addr) (hE1 : w1.cell? ⟨0, 0, none⟩ = some (.iface 93 (.pointer (some a)))) => unpack_short s wd n w1 a hE1 hw (by omega) hs (by omega)
  have hR : ∀ w1, Calls Tryd.prog 45 #[.string s, .int .i64 (wd : Nat), .int .i64 (n : Nat)] w1 fun e w' => e = .returned (.tuple #[.slice none 0 0, .bool false]) ∧ Below w1.heap.size w1 w' := by
    intro w1
    refine (unpackOf_any s wd n w1 hw (by omega) (by omega)).mono ?_
    rintro e w2 ⟨⟨h3, _⟩ | ⟨_, rfl⟩, hb⟩
    · omega
    · exact ⟨rfl, hb⟩
  have d0 : decide ((1000 : Int) < (s.size : Int)) = false := by simp; omega
  have d1 : decide ((400 : Int) < (n : Int)) = false := by simp; omega
  have d2 : decide ((wd : Int) < 0) = false := by simp
  have d3 : decide ((32 : Int) < (wd : Int)) = false := by simp; omega
  have d4 : decide ((n : Int) < 0) = false := by simp
  have d5 : decide ((20000 : Int) < (n : Int)) = false := by simp; omega
  clear hs
  go_enter Tryd.func11, Tryd.ntmps11
  go_wp2_with fail
  refine (nine_any _).mono ?_; rintro e w1 ⟨rfl, hb1⟩
  have hE1 := hE.below hb1
  go_wp2_with fail
  refine (hU w1 _ (hE1.cell 1 (by decide) (by decide))).mono ?_; rintro e w2 ⟨rfl, hb2⟩
  have hE2 := hE1.below hb2
  go_wp2_with fail
  refine (hR w2).mono ?_; rintro e w3 ⟨rfl, hb3⟩
  have hE3 := hE2.below hb3
  go_wp2_with fail
  refine (coded_any (e := .sent 1) 1 hE3 ⟨by decide, by decide, rfl⟩).mono ?_; rintro e w4 ⟨rfl, hb4⟩
  go_wp2_with fail
  go_ret
  exact ⟨rfl, below_trans (below_trans (below_trans hb1 hb2) hb3) hb4⟩

set_option maxRecDepth 100000 in
set_option maxHeartbeats 2000000 in
theorem bu_ok (s : ByteArray) (wd n : Nat) (w : World) (h1 : s.size ≤ 1000) (h2 : n ≤ 400) (hw : wd ≤ 32) (hs : n * wd ≤ 8 * s.size) :
    Calls Tryd.prog 11 #[.string s, .int .i64 (wd : Nat), .int .i64 (n : Nat)] w fun e w' => e = .returned (.bool true) ∧ Below w.heap.size w w' := by
  have hU := fun w1 => unpack_ok s wd n w1 hw (by omega) hs (by omega)
  have hlen := getAll_len (unlittle s.data.toList) wd n
  have hlt := getAll_lt (unlittle s.data.toList) wd n
  have hR : ∀ w1, Calls Tryd.prog 45 #[.string s, .int .i64 (wd : Nat), .int .i64 (n : Nat)] w1 fun e w' => (∃ u, e = .returned (.tuple #[u, .bool true]) ∧ w'.ownsRow w1.heap.size 22 1 u n ((getAll (unlittle s.data.toList) wd n).map natU)) ∧ Below w1.heap.size w1 w' := by
    intro w1
    refine (unpackOf_any s wd n w1 hw (by omega) (by omega)).mono ?_
    rintro e w2 ⟨⟨_, u, rfl, hu⟩ | ⟨h3, _⟩, hb⟩
    · exact ⟨⟨u, rfl, hu⟩, hb⟩
    · omega
  generalize getAll (unlittle s.data.toList) wd n = L at *
  have d0 : decide ((1000 : Int) < (s.size : Int)) = false := by simp; omega
  have d1 : decide ((400 : Int) < (n : Int)) = false := by simp; omega
  have d2 : decide ((wd : Int) < 0) = false := by simp
  have d3 : decide ((32 : Int) < (wd : Int)) = false := by simp; omega
  have d4 : decide ((n : Int) < 0) = false := by simp
  have d5 : decide ((20000 : Int) < (n : Int)) = false := by simp; omega
  have hx64 : ∀ x ∈ L, x < 4294967297 := fun x hx => Nat.lt_of_lt_of_le (hlt x hx) (Nat.le_trans (Nat.pow_le_pow_right (by decide : 2 > 0) hw) (by decide))
  subst hlen
  clear hs hlt
  go_enter Tryd.func11, Tryd.ntmps11
  go_wp2_with fail
  refine (nine_any _).mono ?_; rintro e w1 ⟨rfl, hb1⟩
  go_wp2_with fail
  refine (hU w1).mono ?_; rintro e w2 ⟨⟨u, rfl, hu⟩, hb2⟩
  have hI2 := nums_nat hu
  have hb2 := below_trans hb1 hb2
  go_wp2_with fail
  refine (hR w2).mono ?_; rintro e w3 ⟨⟨y, rfl, hy⟩, hb3⟩
  have hI3 := numsU_nat hy
  have hI2 := hI2.below hb3 (Nat.le_refl _)
  have hb3 := below_trans hb2 hb3
  clear hy hu hb1 hb2 hU hR
  have hil : (ints L).length = L.length := by simp [ints]
  obtain ⟨a2, c2, rfl⟩ := hI2.form
  obtain ⟨a3, c3, rfl⟩ := hI3.form
  rw [hil] at hI2 hI3
  rw [hil]
  have Hil := Lib.hid hil
  clear hil
  go_wp2_with fail
  go_loopw [12] (fun i wr => ∃ k : Nat, k ≤ L.length ∧ i = .int .i64 k ∧ Below w3.heap.size w3 wr) (fun i _ => L.length - (intOf i).toNat)
  case atStart => exact ⟨0, Nat.zero_le _, rfl, Below.refl _ _⟩
  case round =>
    obtain ⟨k, hk, rfl, hb⟩ := hrel
    have hJ2 := hI2.below hb (Nat.le_refl _)
    have hJ3 := hI3.below hb (Nat.le_refl _)
    by_cases hlt : k < L.length
    · obtain ⟨g2, o2, rfl, q2, _, e2⟩ := hJ2.at (by rw [Hil.out]; omega)
      obtain ⟨g3, o3, rfl, q3, _, e3⟩ := hJ3.at (by rw [Hil.out]; omega)
      have hx := hx64 L[k] (List.getElem_mem hlt)
      have v2 := e2 k L[k] (by simp [ints, List.getElem?_eq_getElem hlt])
      have v3 := e3 k L[k] (by simp [ints, List.getElem?_eq_getElem hlt])
      generalize L[k] = x at *
      have hin : ((k : Nat) : Int) < (L.length : Int) := by omega
      have hcv : IntKind.u64.wrap ((x : Nat) : Int) = (x : Int) := by rw [IntKind.wrap_u64]; omega
      clear q2 q3 e2 e3 hJ2 hJ3 hx64
      go_wp2_with fail
      go_quiet (fail)
      go_wp2_with fail
      go_roundw
      case rel => exact ⟨k + 1, by omega, by go_num, below_drewN hb _⟩
      case measure => simp [intOf]; omega
    · go_wp2_with fail
      go_ret
      exact ⟨rfl, below_trans hb3 hb⟩

theorem bitsUnpack_law (s : ByteArray) (_hs : s.size ≤ maxLen) (wd : Int) (_h0 : -9223372036854775808 ≤ wd) (_h1 : wd < 9223372036854775808) (n : Int) (_h2 : -9223372036854775808 ≤ n) (_h3 : n < 9223372036854775808) (w : World) (hL : laidMetH Tryd.prog fullLaid w) :
    Calls Tryd.prog 11 #[.string s, .int .i64 wd, .int .i64 n] w fun e w' => e = .returned (.bool true) ∧ Below w.heap.size w w' := by
  obtain ⟨adr, hE⟩ := env_of_laid hL
  by_cases he : 1000 < s.size ∨ (400 < n ∧ n ≤ 20000)
  · exact bu_early s wd n w he
  · by_cases hb : wd < 0 ∨ 32 < wd ∨ n < 0 ∨ 20000 < n
    · exact bu_err s wd n w adr hE (by omega) (by omega) hb
    · obtain ⟨a, rfl⟩ := Int.eq_ofNat_of_zero_le (show 0 ≤ wd by omega)
      obtain ⟨b, rfl⟩ := Int.eq_ofNat_of_zero_le (show 0 ≤ n by omega)
      by_cases hz : b * a ≤ 8 * s.size
      · exact bu_ok s a b w (by omega) (by omega) (by omega) hz
      · exact bu_short s a b w adr hE (by omega) (by omega) (by omega) (by omega)
end Go.Proofs.YtehklkmnbhgebaaDoor
