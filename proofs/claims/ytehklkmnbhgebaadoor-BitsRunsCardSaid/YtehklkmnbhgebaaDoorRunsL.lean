/- The walk of the statement BitsRuns. -/
import Derived.Test.YtehklkmnbhgebaaDoorIntsC
import Derived.Test.YtehklkmnbhgebaaDoorRunsOf
namespace Go.Proofs.YtehklkmnbhgebaaDoor
set_option linter.unusedVariables false
open Go Go.RowKit Go.ChangeShapes

set_option maxRecDepth 100000 in
set_option maxHeartbeats 1000000 in
theorem br_early (v : Value) (l : List Int) (wd : Int) (w : World) (hI : IsInts w v l) (h1 : 400 < l.length) (h2 : l.length ≤ maxLen) :
    Calls Tryd.prog 13 #[v, .int .i64 wd] w fun e w' => e = .returned (.bool true) ∧ Below w.heap.size w w' := by
  obtain ⟨ad, cap, rfl⟩ := hI.form
  have d1 : decide ((400 : Int) < (l.length : Int)) = true := by simp; omega
  unfold maxLen at h2
  clear h1
  go_enter Tryd.func13, Tryd.ntmps13
  go_wp2_with fail
  refine (nine_any _).mono ?_; rintro e w1 ⟨rfl, hb1⟩
  go_wp2_with fail
  go_ret
  exact ⟨rfl, hb1⟩

set_option maxRecDepth 100000 in
set_option maxHeartbeats 2000000 in
theorem br_fault (v : Value) (l : List Int) (wd : Int) (w : World) (adr : Nat → Addr) (hE : ErrEnv w adr) (hI : IsInts w v l) (h1 : l.length ≤ 400) (e : GErr) (c p : Int) (hc : e.code = c) (hp : e.at' = p) (hn : e ≠ .nil) (h0 : 0 < c)
    (hR : ∀ w1, Below w.heap.size w w1 → Calls Tryd.prog 41 #[v, .int .i64 wd] w1 fun r w' => r = .returned (faultV c p) ∧ Below w1.heap.size w1 w')
    (hP : ∀ u w1, Below w.heap.size w w1 → IsInts w1 u l → Calls Tryd.prog 30 #[u, .int .i64 wd] w1 fun r w' => (∃ x, r = .returned (.tuple #[.string ⟨#[]⟩, x]) ∧ IsErr w' adr e x) ∧ Below w1.heap.size w1 w') :
    Calls Tryd.prog 13 #[v, .int .i64 wd] w fun e w' => e = .returned (.bool true) ∧ Below w.heap.size w w' := by
  obtain ⟨ad, cap, rfl⟩ := hI.form
  have d1 : decide ((400 : Int) < (l.length : Int)) = false := by simp; omega
  have d2 : decide (0 < c) = true := by simpa using h0
  have hf : ∀ w1 x, ErrEnv w1 adr → IsErr w1 adr e x → Calls Tryd.prog 42 #[x, faultV c p] w1 fun r w' => r = .returned (.bool true) ∧ Below w1.heap.size w1 w' := by
    intro w1 x h2 h3
    refine (faulted_any c p h2 h3).mono ?_
    rintro r w2 ⟨rfl, hb⟩
    refine ⟨?_, hb⟩
    rw [hc, hp]; simp
  clear hc hp h0
  unfold faultV at hR hf
  go_enter Tryd.func13, Tryd.ntmps13
  go_wp2_with fail
  refine (nine_any _).mono ?_; rintro e w1 ⟨rfl, hb1⟩
  go_wp2_with fail
  refine (hR w1 hb1).mono ?_; rintro e w2 ⟨rfl, hb2⟩
  have hb2 := below_trans hb1 hb2
  go_wp2_with fail
  refine (ints_cap _ l _ (hI.below (hb2.alloc hb2.size _) (Nat.le_refl _)) (by omega)).mono ?_; rintro e w3 ⟨⟨u, rfl, hu, hcp⟩, hb3⟩
  obtain ⟨hb3', c0, c1⟩ := below_cells2 hb2 hb2.size hb3
  clear hb3
  go_wp2_with fail
  refine (hP u w3 hb3' hu).mono ?_; rintro e w4 ⟨⟨x, rfl, hx⟩, hb4⟩
  have c0' := (hb4.cell (p := ⟨w2.heap.size, 0, none⟩) (block_lt_of_cell c0)).trans c0
  have c1' := (hb4.cell (p := ⟨w2.heap.size, 1, none⟩) (block_lt_of_cell c1)).trans c1
  have hb4' := below_trans hb3' hb4
  have hE4 := hE.below hb4'
  clear c0 c1 hb4 hb3' hu hb2 hb1
  go_wp2_with fail
  refine (hf w4 x hE4 hx).mono ?_; rintro e w5 ⟨rfl, hb5⟩
  go_wp2_with fail
  go_ret
  exact ⟨rfl, below_trans hb4' hb5⟩

set_option maxRecDepth 100000 in
set_option maxHeartbeats 2000000 in
theorem br_ok (v : Value) (l : List Int) (wd : Nat) (w : World) (hI : IsInts w v l) (h1 : l.length ≤ 400) (hw : wd ≤ 32) (hg : ∀ x ∈ l, Good wd x) (hF : Fits l) :
    Calls Tryd.prog 13 #[v, .int .i64 (wd : Nat)] w fun e w' => e = .returned (.bool true) ∧ Below w.heap.size w w' := by
  have hR : ∀ w1, Below w.heap.size w w1 → Calls Tryd.prog 41 #[v, .int .i64 (wd : Nat)] w1 fun r w' => r = .returned (faultV 0 (-1)) ∧ Below w1.heap.size w1 w' := fun w1 hb =>
    bitsError_ok v l wd w1 (hI.below hb (Nat.le_refl _)) hw (by omega) hg
  have hin : ints (nats l) = l := ints_nats l fun x hx => (hg x hx).1
  have hgn : ∀ n ∈ nats l, n < 2 ^ wd := by
    intro n hn
    obtain ⟨x, hx, rfl⟩ := List.mem_map.1 hn
    obtain ⟨g1, g2⟩ := hg x hx
    have : ((x.toNat : Nat) : Int) < ((2 ^ wd : Nat) : Int) := by rw [Int.toNat_of_nonneg g1, Int.natCast_pow]; exact g2
    exact Int.ofNat_lt.1 this
  obtain ⟨ad, cap, rfl⟩ := hI.form
  have d1 : decide ((400 : Int) < (l.length : Int)) = false := by simp; omega
  unfold faultV at hR
  go_enter Tryd.func13, Tryd.ntmps13
  go_wp2_with fail
  refine (nine_any _).mono ?_; rintro e w1 ⟨rfl, hb1⟩
  go_wp2_with fail
  refine (hR w1 hb1).mono ?_; rintro e w2 ⟨rfl, hb2⟩
  have hb2 := below_trans hb1 hb2
  go_wp2_with fail
  refine (ints_cap _ l _ (hI.below (hb2.alloc hb2.size _) (Nat.le_refl _)) (by omega)).mono ?_; rintro e w3 ⟨⟨u, rfl, hu, hcp⟩, hb3⟩
  obtain ⟨hb3', c0, c1⟩ := below_cells2 hb2 hb2.size hb3
  clear hb3
  go_wp2_with fail
  refine (runs_any u (nats l) wd w3 (by rw [hin]; exact hu) hcp hw (by simp [nats]; omega) hgn).mono ?_; rintro e w4 ⟨rfl, hb4⟩
  have c0' := (hb4.cell (p := ⟨w2.heap.size, 0, none⟩) (block_lt_of_cell c0)).trans c0
  have hb4' := below_trans hb3' hb4
  clear c0 c1 hb4 hb3' hu hb2 hb1
  go_wp2_with fail
  refine (runsOf_any _ (nats l) wd w4 (by rw [hin]; exact hI.below hb4' (Nat.le_refl _)) hw (by simp [nats]; omega) hgn).mono ?_; rintro e w6 ⟨rfl, hb6⟩
  go_wp2_with fail
  go_ret
  exact ⟨ret_of (by simp), below_trans hb4' hb6⟩

theorem bitsRuns_law {w : World} (v : Value) (l : List Int) (hI : IsInts w v l) (hF : Fits l) (wd : Int) (_h0 : -9223372036854775808 ≤ wd) (_h1 : wd < 9223372036854775808) (hL : laidMetH Tryd.prog fullLaid w) :
    Calls Tryd.prog 13 #[v, .int .i64 wd] w fun e w' => e = .returned (.bool true) ∧ Below w.heap.size w w' := by
  obtain ⟨adr, hE⟩ := env_of_laid hL
  by_cases hlen : l.length ≤ 400
  · by_cases hwd : wd < 0 ∨ 32 < wd
    · have hbd : wd < 0 ∨ 32 < wd ∨ 20000 < l.length := by omega
      refine br_fault v l wd w adr hE hI hlen (.sent 2) 2 (-1) rfl rfl (by simp) (by decide) (fun w1 hb => bitsError_bound v l wd w1 (hI.below hb (Nat.le_refl _)) hbd) ?_
      intro u w1 hb hu
      refine runs_err u wd w1 adr (.sent 2) (by simp) fun w1' hb1' => ((check_bound u l wd w1' (adr 2) (hu.below hb1' (Nat.le_refl _)) (((hE.below hb).below hb1').cell 2 (by decide) (by decide)) hbd).mono ?_)
      rintro r w2 ⟨rfl, hb2⟩
      exact ⟨⟨_, rfl, by decide, by decide, rfl⟩, hb2⟩
    · obtain ⟨n, rfl⟩ := Int.eq_ofNat_of_zero_le (show 0 ≤ wd by omega)
      have hn : n ≤ 32 := by omega
      by_cases hall : ∀ x ∈ l, Good n x
      · exact br_ok v l n w hI hlen hn hall hF
      · have := fun x => Classical.propDecidable (Good n x)
        obtain ⟨i, x, hx, hb, hlt⟩ := first_bad (Good n) l hall
        have hi : i < l.length := (List.getElem?_eq_some_iff.1 hx).1
        have hxm : x ∈ l := by
          obtain ⟨h, rfl⟩ := List.getElem?_eq_some_iff.1 hx
          exact List.getElem_mem h
        refine br_fault v l n w adr hE hI hlen (.fault 3 i) 3 i rfl rfl (by simp) (by decide) (fun w1 hbw => bitsError_bad v l n i x w1 (hI.below hbw (Nat.le_refl _)) hn (by omega) hi hx hlt hb) ?_
        intro u w1 hbw hu
        exact runs_err u n w1 adr (.fault 3 i) (by simp) fun w1' hb1' => (check_bad u l n i x w1' adr (((hE.below hbw).below hb1').cell 3 (by decide) (by decide)) (hu.below hb1' (Nat.le_refl _)) hn (by omega) hi hx (hF.2 x hxm) hlt hb)
  · exact br_early v l wd w hI (by omega) hF.1
end Go.Proofs.YtehklkmnbhgebaaDoor
