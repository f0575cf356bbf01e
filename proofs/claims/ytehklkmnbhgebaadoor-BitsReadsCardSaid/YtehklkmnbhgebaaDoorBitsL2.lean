/- The walk of the statement BitsPack. -/
import Derived.Test.YtehklkmnbhgebaaDoorBitsW5
import Derived.Test.YtehklkmnbhgebaaDoorRows
import Derived.ProofKit
import Derived.OpenShut
namespace Go.Proofs.YtehklkmnbhgebaaDoor
set_option linter.unusedVariables false
open Go Go.RowKit Go.ChangeShapes Go.WideShapes Go.ChangeAt

theorem cells_int : Tryd.prog.cellsOf 3 = 1 := by kernel_rfl
set_option maxRecDepth 100000 in
theorem args_ints {H : Type} {enc : TypeId × Value → H} {W : World} {v : Value} {d : DataW H} {p : List MemPlace} {base : Nat} (okv : Value.okWide Tryd.prog W .any base 39 v)
    (h : DataW.Trod enc Tryd.prog W 0 (fun _ => true) true 39 v d p) : ∃ l, IsInts W v l ∧ Fits l := by
  obtain ⟨a0, len, cap, rfl⟩ := okWide_slice Tryd.underlying39 okv
  obtain ⟨fuel, hf⟩ := h
  rcases open_ints Tryd.underlying39 Tryd.underlying3 cells_int hf with ⟨hcs, hx⟩ | ⟨a, len', cap', zs, hcs, hb, hl, hm, hz, hx, hcell, hwz⟩
  · have : a0 = none ∧ len = 0 ∧ cap = 0 := by simpa [Value.cells] using hcs
    obtain ⟨rfl, rfl, rfl⟩ := this
    exact ⟨[], .inl ⟨rfl, none, 0, rfl⟩, by simp [Fits]⟩
  · have : a0 = some a ∧ len = len' ∧ cap = cap' := by simpa [Value.cells] using hcs
    obtain ⟨rfl, rfl, rfl⟩ := this
    rw [if_pos rfl] at hz
    by_cases h0 : len = 0
    · subst h0
      exact ⟨[], .inl ⟨rfl, _, _, rfl⟩, by simp [Fits]⟩
    · obtain ⟨b, off, rfl, hc⟩ := ints_at hcell (by omega)
      have hlen : (zs.take len).length = len := by simp; omega
      refine ⟨zs.take len, .inr ⟨b, off, cap, by rw [hlen], ?_, ?_⟩, by rw [hlen]; omega, ?_⟩
      · have := hc 0 (by omega)
        exact block_lt_of_cell this
      · intro j x hj
        rw [List.getElem?_take] at hj
        split at hj
        · have := hc j (by omega)
          rw [this, List.getD_eq_getElem?_getD, hj]; rfl
        · cases hj
      · intro x hx
        have := bounds_i64 (hwz x (List.mem_of_mem_take hx))
        omega

/-- an error that is none -/
theorem IsErr.some {w : World} {adr : Nat → Addr} {e : GErr} {v : Value} (h : IsErr w adr e v) (hn : e ≠ .nil) : ∃ T a, v = .iface T (.pointer (some a)) ∧ (T = 93 ∨ T = 45) := by
  cases e with
  | nil => exact absurd rfl hn
  | sent k => exact ⟨_, _, h.2.2, .inl rfl⟩
  | fault k p =>
    obtain ⟨_, _, b, h3, _⟩ := h
    exact ⟨_, _, h3, .inr rfl⟩

set_option maxRecDepth 100000 in
set_option maxHeartbeats 1000000 in
/-- Pack where check finds an error -/
theorem pack_err (v : Value) (wd : Int) (w : World) (adr : Nat → Addr) (e : GErr) (hn : e ≠ .nil)
    (hck : Calls Tryd.prog 51 #[v, .int .i64 wd] w fun r w' => (∃ u, r = .returned u ∧ IsErr w' adr e u) ∧ Below w.heap.size w w') :
    Calls Tryd.prog 28 #[v, .int .i64 wd] w fun r w' => (∃ u, r = .returned (.tuple #[.string ⟨#[]⟩, u]) ∧ IsErr w' adr e u) ∧ Below w.heap.size w w' := by
  go_enter Tryd.func28, Tryd.ntmps28
  go_wp2_with fail
  refine hck.mono ?_
  rintro r w1 ⟨⟨u, rfl, he⟩, hb1⟩
  obtain ⟨T, a, rfl, rfl | rfl⟩ := he.some hn
  · go_wp2_with fail
    go_ret2
    exact ⟨⟨_, rfl, he⟩, hb1⟩
  · go_wp2_with fail
    go_ret2
    exact ⟨⟨_, rfl, he⟩, hb1⟩

theorem below_cells2 {B : Nat} {w w1 w2 : World} {x y : Value} {t : TypeId} (h : Below B w w1) (hB : B ≤ w1.heap.size) (h2 : Below (w1.alloc (.cells #[x, y] t)).heap.size (w1.alloc (.cells #[x, y] t)) w2) :
    Below B w w2 ∧ w2.cell? ⟨w1.heap.size, 0, none⟩ = some x ∧ w2.cell? ⟨w1.heap.size, 1, none⟩ = some y := by
  refine ⟨(h.alloc hB _).trans (h2.mono (by simp; omega)), ?_, ?_⟩
  · rw [h2.cell (p := ⟨w1.heap.size, 0, none⟩) (by simp), World.cell?_alloc_at _ _ _ _ rfl]; rfl
  · rw [h2.cell (p := ⟨w1.heap.size, 1, none⟩) (by simp), World.cell?_alloc_at _ _ _ _ rfl]; rfl

set_option maxRecDepth 100000 in
set_option maxHeartbeats 1000000 in
theorem bp_early (v : Value) (l : List Int) (wd : Int) (w : World) (hI : IsInts w v l) (h1 : 400 < l.length) (h2 : l.length ≤ maxLen) :
    Calls Tryd.prog 10 #[v, .int .i64 wd] w fun e w' => e = .returned (.bool true) ∧ Below w.heap.size w w' := by
  obtain ⟨ad, cap, rfl⟩ := hI.form
  have d1 : decide ((400 : Int) < (l.length : Int)) = true := by simp; omega
  unfold maxLen at h2
  clear h1
  go_enter Tryd.func10, Tryd.ntmps10
  go_wp2_with fail
  refine (nine_any _).mono ?_; rintro e w1 ⟨rfl, hb1⟩
  go_wp2_with fail
  go_ret
  exact ⟨rfl, hb1⟩

set_option maxRecDepth 100000 in
set_option maxHeartbeats 2000000 in
theorem bp_fault (v : Value) (l : List Int) (wd : Int) (w : World) (adr : Nat → Addr) (hE : ErrEnv w adr) (hI : IsInts w v l) (h1 : l.length ≤ 400) (e : GErr) (c p : Int) (hc : e.code = c) (hp : e.at' = p) (hn : e ≠ .nil) (h0 : 0 < c)
    (hR : ∀ w1, Below w.heap.size w w1 → Calls Tryd.prog 41 #[v, .int .i64 wd] w1 fun r w' => r = .returned (faultV c p) ∧ Below w1.heap.size w1 w')
    (hP : ∀ u w1, Below w.heap.size w w1 → IsInts w1 u l → Calls Tryd.prog 28 #[u, .int .i64 wd] w1 fun r w' => (∃ x, r = .returned (.tuple #[.string ⟨#[]⟩, x]) ∧ IsErr w' adr e x) ∧ Below w1.heap.size w1 w') :
    Calls Tryd.prog 10 #[v, .int .i64 wd] w fun e w' => e = .returned (.bool true) ∧ Below w.heap.size w w' := by
  obtain ⟨ad, cap, rfl⟩ := hI.form
  have d1 : decide ((400 : Int) < (l.length : Int)) = false := by simp; omega
  have d2 : decide (0 < c) = true := by simpa using h0
  have hf : ∀ w1 x, ErrEnv w1 adr → IsErr w1 adr e x → Calls Tryd.prog 42 #[x, faultV c p] w1 fun r w' => r = .returned (.bool true) ∧ Below w1.heap.size w1 w' := by
    intro w1 x h2 h3
    refine (faulted_any c p h2 h3).mono ?_
    rintro r w2 ⟨rfl, hb⟩
    refine ⟨?_, hb⟩
    rw [hc, hp]; simp
  clear hc hp h0
  unfold faultV at hR hf
  go_enter Tryd.func10, Tryd.ntmps10
  go_wp2_with fail
  refine (nine_any _).mono ?_; rintro e w1 ⟨rfl, hb1⟩
  go_wp2_with fail
  refine (hR w1 hb1).mono ?_; rintro e w2 ⟨rfl, hb2⟩
  have hb2 := below_trans hb1 hb2
  go_wp2_with fail
  refine (ints_any _ l _ (hI.below (hb2.alloc hb2.size _) (Nat.le_refl _)) (by omega)).mono ?_; rintro e w3 ⟨⟨u, rfl, hu⟩, hb3⟩
  obtain ⟨hb3', c0, c1⟩ := below_cells2 hb2 hb2.size hb3
  clear hb3
  go_wp2_with fail
  refine (hP u w3 hb3' hu).mono ?_; rintro e w4 ⟨⟨x, rfl, hx⟩, hb4⟩
  have c0' := (hb4.cell (p := ⟨w2.heap.size, 0, none⟩) (block_lt_of_cell c0)).trans c0
  have c1' := (hb4.cell (p := ⟨w2.heap.size, 1, none⟩) (block_lt_of_cell c1)).trans c1
  have hb4' := below_trans hb3' hb4
  have hE4 := hE.below hb4'
  clear c0 c1 hb4 hb3' hu hb2 hb1
  go_wp2_with fail
  refine (hf w4 x hE4 hx).mono ?_; rintro e w5 ⟨rfl, hb5⟩
  go_wp2_with fail
  go_ret
  exact ⟨rfl, below_trans hb4' hb5⟩

set_option maxRecDepth 100000 in
set_option maxHeartbeats 2000000 in
theorem bp_ok (v : Value) (l : List Int) (wd : Nat) (w : World) (hI : IsInts w v l) (h1 : l.length ≤ 400) (hw : wd ≤ 32) (hg : ∀ x ∈ l, Good wd x) (hF : Fits l) :
    Calls Tryd.prog 10 #[v, .int .i64 (wd : Nat)] w fun e w' => e = .returned (.bool true) ∧ Below w.heap.size w w' := by
  have hR : ∀ w1, Below w.heap.size w w1 → Calls Tryd.prog 41 #[v, .int .i64 (wd : Nat)] w1 fun r w' => r = .returned (faultV 0 (-1)) ∧ Below w1.heap.size w1 w' := fun w1 hb =>
    bitsError_ok v l wd w1 (hI.below hb (Nat.le_refl _)) hw (by omega) hg
  have hWd : ∀ w1, Below w.heap.size w w1 → Calls Tryd.prog 44 #[v] w1 fun e w' => (∃ u, e = .returned u ∧ w'.ownsRow w1.heap.size 22 1 u l.length (l.map u64V)) ∧ Below w1.heap.size w1 w' := fun w1 hb =>
    wide_any v l w1 (hI.below hb (Nat.le_refl _)) (by omega) fun x hx => ⟨(hg x hx).1, (hF.2 x hx).2⟩
  have hin : ints (nats l) = l := ints_nats l fun x hx => (hg x hx).1
  have hgn : ∀ n ∈ nats l, n < 2 ^ wd := by
    intro n hn
    obtain ⟨x, hx, rfl⟩ := List.mem_map.1 hn
    obtain ⟨g1, g2⟩ := hg x hx
    have : ((x.toNat : Nat) : Int) < ((2 ^ wd : Nat) : Int) := by rw [Int.toNat_of_nonneg g1, Int.natCast_pow]; exact g2
    exact Int.ofNat_lt.1 this
  obtain ⟨ad, cap, rfl⟩ := hI.form
  have d1 : decide ((400 : Int) < (l.length : Int)) = false := by simp; omega
  unfold faultV at hR
  go_enter Tryd.func10, Tryd.ntmps10
  go_wp2_with fail
  refine (nine_any _).mono ?_; rintro e w1 ⟨rfl, hb1⟩
  go_wp2_with fail
  refine (hR w1 hb1).mono ?_; rintro e w2 ⟨rfl, hb2⟩
  have hb2 := below_trans hb1 hb2
  go_wp2_with fail
  refine (ints_any _ l _ (hI.below (hb2.alloc hb2.size _) (Nat.le_refl _)) (by omega)).mono ?_; rintro e w3 ⟨⟨u, rfl, hu⟩, hb3⟩
  obtain ⟨hb3', c0, c1⟩ := below_cells2 hb2 hb2.size hb3
  clear hb3
  go_wp2_with fail
  refine (pack_ok u l wd w3 hu hw (by omega) hg).mono ?_; rintro e w4 ⟨rfl, hb4⟩
  have c0' := (hb4.cell (p := ⟨w2.heap.size, 0, none⟩) (block_lt_of_cell c0)).trans c0
  have hb4' := below_trans hb3' hb4
  clear c0 c1 hb4 hb3' hu hb2 hb1
  go_wp2_with fail
  refine (hWd w4 hb4').mono ?_; rintro e w5 ⟨⟨y, rfl, hy⟩, hb5⟩
  have hN : IsNums .u64 w5 y (ints (nats l)) := by rw [hin]; exact IsNums.of_own hy
  have hb5' := below_trans hb4' hb5
  clear hy hb5
  go_wp2_with fail
  refine (packOf_any y (nats l) wd w5 hN hw (by simp [nats]; omega) hgn).mono ?_; rintro e w6 ⟨rfl, hb6⟩
  go_wp2_with fail
  go_ret
  exact ⟨ret_of (by simp), below_trans hb5' hb6⟩

theorem first_bad (P : Int → Prop) [DecidablePred P] : ∀ l : List Int, (¬ ∀ x ∈ l, P x) → ∃ (i : Nat) (x : Int), l[i]? = some x ∧ ¬ P x ∧ ∀ (j : Nat) (y : Int), j < i → l[j]? = some y → P y
  | [], h => absurd (fun x hx => by cases hx) h
  | a :: l, h => by
    by_cases ha : P a
    · have h2 : ¬ ∀ x ∈ l, P x := fun h3 => h (by
        intro x hx
        rcases List.mem_cons.1 hx with rfl | hx
        · exact ha
        · exact h3 x hx)
      obtain ⟨i, x, h4, h5, h6⟩ := first_bad P l h2
      refine ⟨i + 1, x, by simpa using h4, h5, ?_⟩
      intro j y hj hy
      cases j with
      | zero => simp at hy; subst hy; exact ha
      | succ j => exact h6 j y (by omega) (by simpa using hy)
    · exact ⟨0, a, rfl, ha, fun j y hj => by omega⟩

theorem bitsPack_law {w : World} (v : Value) (l : List Int) (hI : IsInts w v l) (hF : Fits l) (wd : Int) (_h0 : -9223372036854775808 ≤ wd) (_h1 : wd < 9223372036854775808) (hL : laidMetH Tryd.prog fullLaid w) :
    Calls Tryd.prog 10 #[v, .int .i64 wd] w fun e w' => e = .returned (.bool true) ∧ Below w.heap.size w w' := by
  obtain ⟨adr, hE⟩ := env_of_laid hL
  by_cases hlen : l.length ≤ 400
  · by_cases hwd : wd < 0 ∨ 32 < wd
    · have hbd : wd < 0 ∨ 32 < wd ∨ 20000 < l.length := by omega
      refine bp_fault v l wd w adr hE hI hlen (.sent 2) 2 (-1) rfl rfl (by simp) (by decide) (fun w1 hb => bitsError_bound v l wd w1 (hI.below hb (Nat.le_refl _)) hbd) ?_
      intro u w1 hb hu
      refine pack_err u wd w1 adr (.sent 2) (by simp) ((check_bound u l wd w1 (adr 2) hu ((hE.below hb).cell 2 (by decide) (by decide)) hbd).mono ?_)
      rintro r w2 ⟨rfl, hb2⟩
      exact ⟨⟨_, rfl, by decide, by decide, rfl⟩, hb2⟩
    · obtain ⟨n, rfl⟩ := Int.eq_ofNat_of_zero_le (show 0 ≤ wd by omega)
      have hn : n ≤ 32 := by omega
      by_cases hall : ∀ x ∈ l, Good n x
      · exact bp_ok v l n w hI hlen hn hall hF
      · have := fun x => Classical.propDecidable (Good n x)
        obtain ⟨i, x, hx, hb, hlt⟩ := first_bad (Good n) l hall
        have hi : i < l.length := (List.getElem?_eq_some_iff.1 hx).1
        have hxm : x ∈ l := by
          obtain ⟨h, rfl⟩ := List.getElem?_eq_some_iff.1 hx
          exact List.getElem_mem h
        refine bp_fault v l n w adr hE hI hlen (.fault 3 i) 3 i rfl rfl (by simp) (by decide) (fun w1 hbw => bitsError_bad v l n i x w1 (hI.below hbw (Nat.le_refl _)) hn (by omega) hi hx hlt hb) ?_
        intro u w1 hbw hu
        exact pack_err u n w1 adr (.fault 3 i) (by simp) (check_bad u l n i x w1 adr ((hE.below hbw).cell 3 (by decide) (by decide)) hu hn (by omega) hi hx (hF.2 x hxm) hlt hb)
  · exact bp_early v l wd w hI (by omega) hF.1
end Go.Proofs.YtehklkmnbhgebaaDoor
