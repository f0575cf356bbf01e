/- The walk of the statement BitsReads. -/
import Derived.Test.YtehklkmnbhgebaaDoorReadsOf
import Derived.Test.YtehklkmnbhgebaaDoorSame
import Derived.Test.YtehklkmnbhgebaaDoorBitsL2
namespace Go.Proofs.YtehklkmnbhgebaaDoor
set_option linter.unusedVariables false
open Go Go.RowKit Go.ChangeShapes

set_option maxRecDepth 100000 in
set_option maxHeartbeats 1000000 in
theorem reads_bound (s : ByteArray) (wd n : Int) (w : World) (a : Addr) (hE : w.cell? ⟨1, 0, none⟩ = some (.iface 93 (.pointer (some a)))) (h : wd < 0 ∨ 32 < wd ∨ n < 0 ∨ 20000 < n) :
    Calls Tryd.prog 32 #[.string s, .int .i64 wd, .int .i64 n] w fun e w' => e = .returned (.tuple #[.slice none 0 0, .int .i64 0, .iface 93 (.pointer (some a))]) ∧ Below w.heap.size w w' := by
  by_cases h1 : wd < 0
  · have d1 : decide (wd < 0) = true := by simpa using h1
    go_enter Tryd.func32, Tryd.ntmps32
    go_wp2_with fail
    go_quiet (fail)
    go_wp2_with fail
    go_ret3
    exact ⟨rfl, below_drewN (Below.refl _ _) _⟩
  · have d1 : decide (wd < 0) = false := by simpa using h1
    by_cases h2 : 32 < wd
    · have d2 : decide (32 < wd) = true := by simpa using h2
      go_enter Tryd.func32, Tryd.ntmps32
      go_wp2_with fail
      go_quiet (fail)
      go_wp2_with fail
      go_ret3
      exact ⟨rfl, below_drewN (Below.refl _ _) _⟩
    · have d2 : decide (32 < wd) = false := by simpa using h2
      by_cases h3 : n < 0
      · have d3 : decide (n < 0) = true := by simpa using h3
        go_enter Tryd.func32, Tryd.ntmps32
        go_wp2_with fail
        go_quiet (fail)
        go_wp2_with fail
        go_ret3
        exact ⟨rfl, below_drewN (Below.refl _ _) _⟩
      · have d3 : decide (n < 0) = false := by simpa using h3
        have d4 : decide (20000 < n) = true := by simp; omega
        go_enter Tryd.func32, Tryd.ntmps32
        go_wp2_with fail
        go_quiet (fail)
        go_wp2_with fail
        go_ret3
        exact ⟨rfl, below_drewN (Below.refl _ _) _⟩

set_option maxRecDepth 100000 in
set_option maxHeartbeats 2000000 in
theorem brd_err (s : ByteArray) (wd n : Int) (w : World) (adr : Nat → Addr) (hE : ErrEnv w adr) (h1 : s.size ≤ 1000) (h2 : n ≤ 1000 ∨ 20000 < n) (h : wd < 0 ∨ 32 < wd ∨ n < 0 ∨ 20000 < n) :
    Calls Tryd.prog 12 #[.string s, .int .i64 wd, .int .i64 n] w fun e w' => e = .returned (.bool true) ∧ Below w.heap.size w w' := by
  have hU := fun w1 (a : Addr) (hE1 : w1.cell? ⟨1, 0, none⟩ = some (.iface 93 (.pointer (some a)))) => reads_bound s wd n w1 a hE1 h
  have d0 : decide ((1000 : Int) < (s.size : Int)) = false := by simp; omega
  clear h1
  have hn : (decide (1000 < n) = false) ∨ (decide (1000 < n) = true ∧ decide (n ≤ 20000) = false) := by
    rcases h2 with h2 | h2
    · left; simp; omega
    · right; constructor <;> simp <;> omega
  have hb : decide (wd < 0) = true ∨ (decide (wd < 0) = false ∧ decide (32 < wd) = true) ∨ (decide (wd < 0) = false ∧ decide (32 < wd) = false ∧ decide (n < 0) = true) ∨ (decide (wd < 0) = false ∧ decide (32 < wd) = false ∧ decide (n < 0) = false ∧ decide (20000 < n) = true) := by
    simp only [decide_eq_true_iff, decide_eq_false_iff_not]; omega
  clear h h2
  rcases hn with n1 | ⟨n1, n2⟩ <;> rcases hb with b1 | ⟨b1, b2⟩ | ⟨b1, b2, b3⟩ | ⟨b1, b2, b3, b4⟩
  all_goals
    go_enter Tryd.func12, Tryd.ntmps12
    go_wp2_with fail
    refine (nine_any _).mono ?_; rintro e w1 ⟨rfl, hb1⟩
    have hE1 := hE.below hb1
    go_wp2_with fail
    refine (hU w1 _ (hE1.cell 2 (by decide) (by decide))).mono ?_; rintro e w2 ⟨rfl, hb2⟩
    have hE2 := hE1.below hb2
    go_wp2_with fail
    refine (coded_any (e := .sent 2) 2 hE2 ⟨by decide, by decide, rfl⟩).mono ?_; rintro e w3 ⟨rfl, hb3⟩
    go_wp2_with fail
    go_ret
    exact ⟨rfl, below_trans (below_trans hb1 hb2) hb3⟩

set_option maxRecDepth 100000 in
set_option maxHeartbeats 2000000 in
theorem brd_early (s : ByteArray) (wd n : Int) (w : World) (h : 1000 < s.size ∨ (1000 < n ∧ n ≤ 20000)) :
    Calls Tryd.prog 12 #[.string s, .int .i64 wd, .int .i64 n] w fun e w' => e = .returned (.bool true) ∧ Below w.heap.size w w' := by
  have hb : decide ((1000 : Int) < (s.size : Int)) = true ∨ (decide ((1000 : Int) < (s.size : Int)) = false ∧ decide (1000 < n) = true ∧ decide (n ≤ 20000) = true) := by
    simp only [decide_eq_true_iff, decide_eq_false_iff_not]; omega
  clear h
  rcases hb with b1 | ⟨b1, b2, b3⟩
  all_goals
    go_enter Tryd.func12, Tryd.ntmps12
    go_wp2_with fail
    refine (nine_any _).mono ?_; rintro e w1 ⟨rfl, hb1⟩
    go_wp2_with fail
    go_ret
    exact ⟨rfl, hb1⟩

theorem readR_len (wd : Nat) : ∀ (n left : Nat) (s : List UInt8) (L : List Nat) (k : Nat), left = n → readR wd left s = some (L, k) → L.length = left := by
  intro n
  induction n using Nat.strongRecOn with
  | _ n ih =>
    intro left s L k hn h
    by_cases h0 : left = 0
    · subst h0
      rw [readR_zero] at h
      injection h with h
      injection h with h1 h2
      subst h1; rfl
    · have hl : 0 < left := by omega
      cases hU : readU s with
      | none => rw [readR_none wd left s hl hU] at h; cases h
      | some y =>
        obtain ⟨g, kk⟩ := y
        by_cases hb : g < 2 ∨ left < g / 2
        · rw [readR_bad wd left g kk s hl hU hb] at h; cases h
        · by_cases hp : g % 2 = 0
          · by_cases h3 : (s.drop kk).length < sizeB wd ∨ 2 ^ wd ≤ unlittle ((s.drop kk).take (sizeB wd))
            · rw [readR_even_bad wd left g kk s hl hU hb hp h3] at h; cases h
            · rw [readR_even wd left g kk s hl hU hb hp h3] at h
              cases hr : readR wd (left - g / 2) (s.drop (kk + sizeB wd)) with
              | none => rw [hr] at h; cases h
              | some x =>
                obtain ⟨M, m⟩ := x
                have := ih (left - g / 2) (by omega) _ _ M m rfl hr
                rw [hr] at h
                injection h with h
                injection h with h1 h2
                rw [← h1, List.length_append, List.length_replicate, this]
                omega
          · by_cases h3 : (s.drop kk).length < g / 2 * wd ∨ left + 8 ≤ 8 * (g / 2) ∨ ¬ ∀ x ∈ (getAll (unlittle (s.drop kk)) wd (8 * (g / 2))).drop left, x = 0
            · rw [readR_odd_bad wd left g kk s hl hU hb (by omega) h3] at h; cases h
            · rw [readR_odd wd left g kk s hl hU hb (by omega) h3] at h
              cases hr : readR wd (left - 8 * (g / 2)) (s.drop (kk + g / 2 * wd)) with
              | none => rw [hr] at h; cases h
              | some x =>
                obtain ⟨M, m⟩ := x
                have := ih (left - 8 * (g / 2)) (by omega) _ _ M m rfl hr
                rw [hr] at h
                injection h with h
                injection h with h1 h2
                rw [← h1, List.length_append, List.length_take, getAll_len, this]
                omega

set_option maxRecDepth 100000 in
set_option maxHeartbeats 2000000 in
theorem brd_none (s : ByteArray) (wd n : Nat) (w : World) (adr : Nat → Addr) (hE : ErrEnv w adr) (h1 : s.size ≤ 1000) (h2 : n ≤ 1000) (hw : wd ≤ 32) (hr : readR wd n s.data.toList = none) :
    Calls Tryd.prog 12 #[.string s, .int .i64 (wd : Nat), .int .i64 (n : Nat)] w fun e w' => e = .returned (.bool true) ∧ Below w.heap.size w w' := by
  have HU := Lib.hid (fun w1 (a : Addr) (hE1 : w1.cell? ⟨0, 0, none⟩ = some (.iface 93 (.pointer (some a)))) => show Calls Tryd.prog 32 #[.string s, .int .i64 (wd : Nat), .int .i64 (n : Nat)] w1 fun e w' => e = .returned (.tuple #[.slice none 0 0, .int .i64 0, .iface 93 (.pointer (some a))]) ∧ Below w1.heap.size w1 w' by
    refine (readRuns_any s wd n _ _ w1 hw (by omega) (by omega) hE1).mono ?_
    rintro e w2 ⟨h3, h4⟩
    rw [hr] at h3
    exact ⟨h3, h4⟩)
  have HR := Lib.hid (fun w1 => show Calls Tryd.prog 46 #[.string s, .int .i64 (wd : Nat), .int .i64 (n : Nat)] w1 fun e w' => e = .returned (.tuple #[.slice none 0 0, .int .i64 (-1)]) ∧ Below w1.heap.size w1 w' by
    refine (readRunsOf_any s wd n w1 hw (by omega) (by omega)).mono ?_
    rintro e w2 ⟨h3, h4⟩
    rw [hr] at h3
    exact ⟨h3, h4⟩)
  have d0 : decide ((1000 : Int) < (s.size : Int)) = false := by simp; omega
  have d1 : decide ((1000 : Int) < (n : Int)) = false := by simp; omega
  have d2 : decide ((wd : Int) < 0) = false := by simp
  have d3 : decide ((32 : Int) < (wd : Int)) = false := by simp; omega
  have d4 : decide ((n : Int) < 0) = false := by simp
  have d5 : decide ((20000 : Int) < (n : Int)) = false := by simp; omega
  clear hr
  go_enter Tryd.func12, Tryd.ntmps12
  go_wp2_with fail
  refine (nine_any _).mono ?_; rintro e w1 ⟨rfl, hb1⟩
  have hE1 := hE.below hb1
  go_wp2_with fail
  refine (HU.out w1 _ (hE1.cell 1 (by decide) (by decide))).mono ?_; rintro e w2 ⟨rfl, hb2⟩
  have hE2 := hE1.below hb2
  go_wp2_with fail
  refine (HR.out w2).mono ?_; rintro e w3 ⟨rfl, hb3⟩
  have hE3 := hE2.below hb3
  go_wp2_with fail
  refine (coded_any (e := .sent 1) 1 hE3 ⟨by decide, by decide, rfl⟩).mono ?_; rintro e w4 ⟨rfl, hb4⟩
  go_wp2_with fail
  go_ret
  exact ⟨rfl, below_trans (below_trans (below_trans hb1 hb2) hb3) hb4⟩

set_option maxRecDepth 100000 in
set_option maxHeartbeats 2000000 in
theorem brd_ok (s : ByteArray) (wd n : Nat) (w : World) (adr : Nat → Addr) (hE : ErrEnv w adr) (h1 : s.size ≤ 1000) (h2 : n ≤ 1000) (hw : wd ≤ 32) {L : List Nat} {k : Nat} (hr : readR wd n s.data.toList = some (L, k)) :
    Calls Tryd.prog 12 #[.string s, .int .i64 (wd : Nat), .int .i64 (n : Nat)] w fun e w' => e = .returned (.bool true) ∧ Below w.heap.size w w' := by
  have HU := Lib.hid (fun w1 (a : Addr) (hE1 : w1.cell? ⟨0, 0, none⟩ = some (.iface 93 (.pointer (some a)))) => show Calls Tryd.prog 32 #[.string s, .int .i64 (wd : Nat), .int .i64 (n : Nat)] w1 fun e w' => (∃ u, e = .returned (.tuple #[u, .int .i64 (k : Nat), .nilIface]) ∧ w'.ownsRow w1.heap.size 3 1 u L.length (L.map natV)) ∧ Below w1.heap.size w1 w' by
    refine (readRuns_any s wd n _ _ w1 hw (by omega) (by omega) hE1).mono ?_
    rintro e w2 ⟨h3, h4⟩
    rw [hr] at h3
    exact ⟨h3, h4⟩)
  have HR := Lib.hid (fun w1 => show Calls Tryd.prog 46 #[.string s, .int .i64 (wd : Nat), .int .i64 (n : Nat)] w1 fun e w' => (∃ u, e = .returned (.tuple #[u, .int .i64 (k : Nat)]) ∧ w'.ownsRow w1.heap.size 3 1 u L.length (L.map natV)) ∧ Below w1.heap.size w1 w' by
    refine (readRunsOf_any s wd n w1 hw (by omega) (by omega)).mono ?_
    rintro e w2 ⟨h3, h4⟩
    rw [hr] at h3
    exact ⟨h3, h4⟩)
  have hll := readR_len wd n n _ L k rfl hr
  have HS := Lib.hid (fun u v w1 (hu : IsInts w1 u (ints L)) (hv : IsInts w1 v (ints L)) => sameInts_same u v (ints L) w1 hu hv (by simp [ints]; omega))
  have d0 : decide ((1000 : Int) < (s.size : Int)) = false := by simp; omega
  have d1 : decide ((1000 : Int) < (n : Int)) = false := by simp; omega
  have d2 : decide ((wd : Int) < 0) = false := by simp
  have d3 : decide ((32 : Int) < (wd : Int)) = false := by simp; omega
  have d4 : decide ((n : Int) < 0) = false := by simp
  have d5 : decide ((20000 : Int) < (n : Int)) = false := by simp; omega
  have d6 : decide ((k : Int) < 0) = false := by simp
  clear hr hll
  go_enter Tryd.func12, Tryd.ntmps12
  go_wp2_with fail
  refine (nine_any _).mono ?_; rintro e w1 ⟨rfl, hb1⟩
  have hE1 := hE.below hb1
  go_wp2_with fail
  refine (HU.out w1 _ (hE1.cell 1 (by decide) (by decide))).mono ?_; rintro e w2 ⟨⟨u, rfl, hu⟩, hb2⟩
  have Hu := Lib.hid (nums_nat hu)
  clear hu
  go_wp2_with fail
  refine (HR.out w2).mono ?_; rintro e w3 ⟨⟨v, rfl, hv⟩, hb3⟩
  have Hv := Lib.hid (nums_nat hv)
  have Hu3 := Lib.hid (Hu.out.below hb3 (Nat.le_refl _))
  clear hv
  go_wp2_with fail
  refine (HS.out u v w3 Hu3.out Hv.out).mono ?_; rintro e w4 ⟨rfl, hb4⟩
  go_wp2_with fail
  go_ret
  exact ⟨ret_of (by simp), below_trans (below_trans (below_trans hb1 hb2) hb3) hb4⟩

theorem bitsReads_law (s : ByteArray) (_hs : s.size ≤ maxLen) (wd : Int) (_h0 : -9223372036854775808 ≤ wd) (_h1 : wd < 9223372036854775808) (n : Int) (_h2 : -9223372036854775808 ≤ n) (_h3 : n < 9223372036854775808) (w : World) (hL : laidMetH Tryd.prog fullLaid w) :
    Calls Tryd.prog 12 #[.string s, .int .i64 wd, .int .i64 n] w fun e w' => e = .returned (.bool true) ∧ Below w.heap.size w w' := by
  obtain ⟨adr, hE⟩ := env_of_laid hL
  by_cases he : 1000 < s.size ∨ (1000 < n ∧ n ≤ 20000)
  · exact brd_early s wd n w he
  · by_cases hb : wd < 0 ∨ 32 < wd ∨ n < 0 ∨ 20000 < n
    · exact brd_err s wd n w adr hE (by omega) (by omega) hb
    · obtain ⟨a, rfl⟩ := Int.eq_ofNat_of_zero_le (show 0 ≤ wd by omega)
      obtain ⟨b, rfl⟩ := Int.eq_ofNat_of_zero_le (show 0 ≤ n by omega)
      cases hr : readR a b s.data.toList with
      | none => exact brd_none s a b w adr hE (by omega) (by omega) (by omega) hr
      | some x =>
        obtain ⟨L, k⟩ := x
        exact brd_ok s a b w adr hE (by omega) (by omega) (by omega) hr
end Go.Proofs.YtehklkmnbhgebaaDoor
