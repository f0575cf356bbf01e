/- The walk of the statement WireFixed. -/
import Derived.Test.YtehklkmnbhgebaaDoorWireW9
import Derived.Test.YtehklkmnbhgebaaDoorEnv
namespace Go.Proofs.YtehklkmnbhgebaaDoor
open Go Go.RowKit Go.ChangeShapes

set_option maxRecDepth 100000 in
set_option maxHeartbeats 1000000 in
theorem wf_early (n size : Int) (s : ByteArray) (h1 : 1000 < s.size) (w : World) :
    Calls Tryd.prog 8 #[.int .u64 n, .int .i64 size, .string s] w fun e w' => e = .returned (.bool true) ∧ Below w.heap.size w w' := by
  have d1 : decide ((1000 : Int) < (s.size : Int)) = true := by simp; omega
  clear h1
  go_enter Tryd.func8, Tryd.ntmps8
  go_wp2_with fail
  refine (three_any _).mono ?_; rintro e w1 ⟨rfl, hb1⟩
  go_wp2_with fail
  go_ret
  exact ⟨rfl, hb1⟩

set_option maxRecDepth 100000 in
set_option maxHeartbeats 2000000 in
theorem wf_size (n size : Int) (s : ByteArray) (h1 : s.size ≤ 1000) (h : size < 1 ∨ 8 < size) (w : World) (adr : Nat → Addr) (hE : ErrEnv w adr) :
    Calls Tryd.prog 8 #[.int .u64 n, .int .i64 size, .string s] w fun e w' => e = .returned (.bool true) ∧ Below w.heap.size w w' := by
  have d1 : decide ((1000 : Int) < (s.size : Int)) = false := by simp; omega
  by_cases h2 : size < 1
  · have d2 : decide (size < 1) = true := by simpa using h2
    clear h1 h2
    go_enter Tryd.func8, Tryd.ntmps8
    go_wp2_with fail
    refine (three_any _).mono ?_; rintro e w1 ⟨rfl, hb1⟩
    have hE1 := hE.below hb1
    go_wp2_with fail
    refine (fixed_size _ _ _ _ (hE1.cell 2 (by decide) (by decide)) h).mono ?_; rintro e w2 ⟨rfl, hb2⟩
    have hE2 := hE1.below hb2
    go_wp2_with fail
    refine (readFixed_size _ _ _ _ (hE2.cell 2 (by decide) (by decide)) h).mono ?_; rintro e w3 ⟨rfl, hb3⟩
    have hE3 := hE2.below hb3
    go_wp2_with fail
    refine (coded_any (e := .sent 2) 2 hE3 ⟨by decide, by decide, rfl⟩).mono ?_; rintro e w4 ⟨rfl, hb4⟩
    have hE4 := hE3.below hb4
    go_wp2_with fail
    refine (coded_any (e := .sent 2) 2 hE4 ⟨by decide, by decide, rfl⟩).mono ?_; rintro e w5 ⟨rfl, hb5⟩
    go_wp2_with fail
    go_ret
    exact ⟨rfl, below_trans (below_trans (below_trans (below_trans hb1 hb2) hb3) hb4) hb5⟩
  · have d2 : decide (size < 1) = false := by simpa using h2
    have d3 : decide (8 < size) = true := by simp; omega
    clear h1 h2
    go_enter Tryd.func8, Tryd.ntmps8
    go_wp2_with fail
    refine (three_any _).mono ?_; rintro e w1 ⟨rfl, hb1⟩
    have hE1 := hE.below hb1
    go_wp2_with fail
    refine (fixed_size _ _ _ _ (hE1.cell 2 (by decide) (by decide)) h).mono ?_; rintro e w2 ⟨rfl, hb2⟩
    have hE2 := hE1.below hb2
    go_wp2_with fail
    refine (readFixed_size _ _ _ _ (hE2.cell 2 (by decide) (by decide)) h).mono ?_; rintro e w3 ⟨rfl, hb3⟩
    have hE3 := hE2.below hb3
    go_wp2_with fail
    refine (coded_any (e := .sent 2) 2 hE3 ⟨by decide, by decide, rfl⟩).mono ?_; rintro e w4 ⟨rfl, hb4⟩
    have hE4 := hE3.below hb4
    go_wp2_with fail
    refine (coded_any (e := .sent 2) 2 hE4 ⟨by decide, by decide, rfl⟩).mono ?_; rintro e w5 ⟨rfl, hb5⟩
    go_wp2_with fail
    go_ret
    exact ⟨rfl, below_trans (below_trans (below_trans (below_trans hb1 hb2) hb3) hb4) hb5⟩

set_option maxRecDepth 100000 in
set_option maxHeartbeats 2000000 in
theorem wf_main (n size : Nat) (s : ByteArray) (hn : n < 18446744073709551616) (h1 : s.size ≤ 1000) (s1 : 1 ≤ size) (s8 : size ≤ 8) (w : World) (adr : Nat → Addr) (hE : ErrEnv w adr) :
    Calls Tryd.prog 8 #[.int .u64 (n : Int), .int .i64 (size : Int), .string s] w fun e w' => e = .returned (.bool true) ∧ Below w.heap.size w w' := by
  have d1 : decide ((1000 : Int) < (s.size : Int)) = false := by simp; omega
  have d2 : decide ((size : Int) < 1) = false := by simp; omega
  have d3 : decide ((8 : Int) < (size : Int)) = false := by simp; omega
  have hm : s.size ≤ maxLen := by unfold maxLen; omega
  have edv : ((n : Int) / 2 ^ (8 * size)) = ((n / 256 ^ size : Nat) : Int) := by
    rw [show ((n : Int) / 2 ^ (8 * size)) = ((n / 2 ^ (8 * size) : Nat) : Int) by simp, pow256]
  by_cases hbig : size < 8 ∧ 256 ^ size ≤ n
  · obtain ⟨hlt8, hge⟩ := hbig
    have d4 : decide ((size : Int) < 8) = true := by simp; omega
    have d5 : decide (0 < (n : Int) / 2 ^ (8 * size)) = true := by
      rw [edv]
      have hq : 0 < n / 256 ^ size := Nat.div_pos hge (Nat.pow_pos (by decide))
      generalize n / 256 ^ size = q at *
      rw [decide_eq_true_iff]; omega
    have Hge := Lib.hid hge; clear edv hge
    by_cases hsh : s.size < size
    · have d6 : decide ((s.size : Int) < (size : Int)) = true := by simp; omega
      go_enter Tryd.func8, Tryd.ntmps8
      go_wp2_with fail
      refine (three_any _).mono ?_; rintro e w1 ⟨rfl, hb1⟩
      have hE1 := hE.below hb1
      go_wp2_with fail
      refine (fixed_big n size _ _ (hE1.cell 2 (by decide) (by decide)) s1 hlt8 Hge.out).mono ?_; rintro e w2 ⟨rfl, hb2⟩
      have hE2 := hE1.below hb2
      go_wp2_with fail
      refine (readFixed_short s size _ _ (hE2.cell 1 (by decide) (by decide)) s1 s8 hsh).mono ?_; rintro e w3 ⟨rfl, hb3⟩
      have hE3 := hE2.below hb3
      go_wp2_with fail
      refine (coded_any (e := .sent 2) 2 hE3 ⟨by decide, by decide, rfl⟩).mono ?_; rintro e w4 ⟨rfl, hb4⟩
      have hE4 := hE3.below hb4
      go_wp2_with fail
      refine (coded_any (e := .sent 1) 1 hE4 ⟨by decide, by decide, rfl⟩).mono ?_; rintro e w5 ⟨rfl, hb5⟩
      go_wp2_with fail
      go_ret
      exact ⟨rfl, below_trans (below_trans (below_trans (below_trans hb1 hb2) hb3) hb4) hb5⟩
    · have d6 : decide ((s.size : Int) < (size : Int)) = false := by simp; omega
      have hsz : size ≤ s.size := by omega
      clear hsh
      go_enter Tryd.func8, Tryd.ntmps8
      go_wp2_with fail
      refine (three_any _).mono ?_; rintro e w1 ⟨rfl, hb1⟩
      have hE1 := hE.below hb1
      go_wp2_with fail
      refine (fixed_big n size _ _ (hE1.cell 2 (by decide) (by decide)) s1 hlt8 Hge.out).mono ?_; rintro e w2 ⟨rfl, hb2⟩
      have hE2 := hE1.below hb2
      go_wp2_with fail
      refine (readFixed_ok s size _ s1 s8 hsz hm).mono ?_; rintro e w3 ⟨rfl, rfl⟩
      go_wp2_with fail
      refine (coded_any (e := .sent 2) 2 hE2 ⟨by decide, by decide, rfl⟩).mono ?_; rintro e w4 ⟨rfl, hb4⟩
      go_wp2_with fail
      refine (readLittle_any s size _ s8 hsz hm).mono ?_; rintro e w5 ⟨rfl, rfl⟩
      go_wp2_with fail
      go_ret
      exact ⟨rfl, below_trans (below_trans hb1 hb2) hb4⟩
  · have hfit : n < 256 ^ size := by
      by_cases h8 : size = 8
      · subst h8; exact Nat.lt_of_lt_of_le hn (by decide)
      · omega
    have d5 : decide (0 < (n : Int) / 2 ^ (8 * size)) = false := by
      rw [edv, Nat.div_eq_of_lt hfit]; rfl
    have Hfit := Lib.hid hfit; clear edv hfit hbig
    by_cases hsh : s.size < size
    · have d6 : decide ((s.size : Int) < (size : Int)) = true := by simp; omega
      go_enter Tryd.func8, Tryd.ntmps8
      go_wp2_with fail
      refine (three_any _).mono ?_; rintro e w1 ⟨rfl, hb1⟩
      have hE1 := hE.below hb1
      go_wp2_with fail
      refine (fixed_ok n size _ hn s1 s8 Hfit.out).mono ?_; rintro e w2 ⟨rfl, hb2⟩
      have hE2 := hE1.below hb2
      go_wp2_with fail
      refine (readFixed_short s size _ _ (hE2.cell 1 (by decide) (by decide)) s1 s8 hsh).mono ?_; rintro e w3 ⟨rfl, hb3⟩
      have hE3 := hE2.below hb3
      go_wp2_with fail
      all_goals
        refine (littleOf_any n size _ hn (by omega)).mono ?_; rintro e w4 ⟨rfl, hb4⟩
        have hE4 := hE3.below hb4
        go_wp2_with fail
        refine (coded_any (e := .sent 1) 1 hE4 ⟨by decide, by decide, rfl⟩).mono ?_; rintro e w5 ⟨rfl, hb5⟩
        go_wp2_with fail
        go_ret
        exact ⟨rfl, below_trans (below_trans (below_trans (below_trans hb1 hb2) hb3) hb4) hb5⟩
    · have d6 : decide ((s.size : Int) < (size : Int)) = false := by simp; omega
      have hsz : size ≤ s.size := by omega
      clear hsh
      go_enter Tryd.func8, Tryd.ntmps8
      go_wp2_with fail
      refine (three_any _).mono ?_; rintro e w1 ⟨rfl, hb1⟩
      go_wp2_with fail
      refine (fixed_ok n size _ hn s1 s8 Hfit.out).mono ?_; rintro e w2 ⟨rfl, hb2⟩
      go_wp2_with fail
      refine (readFixed_ok s size _ s1 s8 hsz hm).mono ?_; rintro e w3 ⟨rfl, rfl⟩
      go_wp2_with fail
      all_goals
        refine (littleOf_any n size _ hn (by omega)).mono ?_; rintro e w4 ⟨rfl, hb4⟩
        go_wp2_with fail
        refine (readLittle_any s size _ s8 hsz hm).mono ?_; rintro e w5 ⟨rfl, rfl⟩
        go_wp2_with fail
        go_ret
        exact ⟨rfl, below_trans (below_trans hb1 hb2) hb4⟩

theorem wireFixed_law (n : Int) (n0 : 0 ≤ n) (n1 : n < 18446744073709551616) (size : Int) (_z0 : -9223372036854775808 ≤ size) (_z1 : size < 9223372036854775808) (s : ByteArray) (_hs : s.size ≤ maxLen) (w : World) (hL : laidMetH Tryd.prog Rows.wireFixedRow.laid w) :
    Calls Tryd.prog 8 #[.int .u64 n, .int .i64 size, .string s] w fun e w' => e = .returned (.bool true) ∧ Below w.heap.size w w' := by
  have hL' : laidMetH Tryd.prog fullLaid w := hL
  obtain ⟨adr, hE⟩ := env_of_laid hL'
  by_cases h1 : 1000 < s.size
  · exact wf_early n size s h1 w
  · by_cases h2 : size < 1 ∨ 8 < size
    · exact wf_size n size s (by omega) h2 w adr hE
    · obtain ⟨n, rfl⟩ := Int.eq_ofNat_of_zero_le n0
      obtain ⟨size, rfl⟩ := Int.eq_ofNat_of_zero_le (show 0 ≤ size by omega)
      exact wf_main n size s (by omega) (by omega) (by omega) (by omega) w adr hE
end Go.Proofs.YtehklkmnbhgebaaDoor
