/- The document's numbers in bits: the walks of Bare, Fine, BitsError, Wide, bitsOf, PackOf; and of the statement's faulted, ints. -/
import Derived.Test.YtehklkmnbhgebaaDoorBitsL1
import Derived.Test.YtehklkmnbhgebaaDoorBits2
import Derived.Test.YtehklkmnbhgebaaDoorCells
namespace Go.Proofs.YtehklkmnbhgebaaDoor
open Go Go.RowKit Go.ChangeShapes

def faultV (c p : Int) : Value := .agg #[.int .i64 c, .int .i64 p]

set_option maxRecDepth 100000 in
set_option maxHeartbeats 1000000 in
theorem fine_any (w : World) : Calls Tryd.prog 62 #[] w fun e w' => e = .returned (faultV 0 (-1)) ∧ Below w.heap.size w w' := by
  go_enter Tryd.func62, Tryd.ntmps62
  go_wp2_with fail
  refine bodyPost_ret (v := faultV 0 (-1)) (results_cell_row Tryd.results62 _ _ w.heap.size 74 _ (0, 0) _ rfl (heap_alloc_new _ _) Tryd.underlying74 rfl (by kernel_rfl)) rfl ⟨rfl, (Below.refl _ _).alloc (Nat.le_refl _) _⟩
set_option maxRecDepth 100000 in
set_option maxHeartbeats 1000000 in
theorem bare_any (c : Int) (w : World) : Calls Tryd.prog 61 #[.int .i64 c] w fun e w' => e = .returned (faultV c (-1)) ∧ Below w.heap.size w w' := by
  go_enter Tryd.func61, Tryd.ntmps61
  go_wp2_with fail
  refine bodyPost_ret (v := faultV c (-1)) (results_cell_row Tryd.results61 _ _ w.heap.size 74 _ (0, 0) _ rfl (heap_alloc_new _ _) Tryd.underlying74 rfl (by kernel_rfl)) rfl ⟨rfl, (Below.refl _ _).alloc (Nat.le_refl _) _⟩

def zeroF : Obj := .cells #[.int .i64 0, .int .i64 0] 74
/-- the end: the answer stored into the result's variable -/
theorem bitsError_end {w w1 : World} {c p : Int} (hb1 : Below (w.alloc zeroF).heap.size (w.alloc zeroF) w1) (T : Array Value) (hT : T.getD 4 undef = .pointer (some ⟨w.heap.size, 0, none⟩)) :
    bodyPost Tryd.prog Tryd.f41 (fun e w' => e = .returned (faultV c p) ∧ Below w.heap.size w w') Exit.ret { tmps := T, defers := [] } (w1.setRow w.heap.size #[.int .i64 c, .int .i64 p]) := by
  have hg : w1.heap[w.heap.size]? = some (.cells #[.int .i64 0, .int .i64 0] 74 (0, 0)) := (hb1.block _ (by simp)).trans (heap_alloc_new _ _)
  refine bodyPost_ret (v := faultV c p) (results_cell_row Tryd.results41 _ _ w.heap.size 74 _ (0, 0) _ hT (setRow_heap _ _ _ _ _ _ hg) Tryd.underlying74 rfl (by kernel_rfl)) rfl ⟨rfl, ?_⟩
  exact below_setRow (((Below.refl w.heap.size w).alloc (Nat.le_refl _) _).trans (hb1.mono (by simp))) (Nat.le_refl _) _
theorem zeroF_at {w w1 : World} (hb1 : Below (w.alloc zeroF).heap.size (w.alloc zeroF) w1) : w1.heap[w.heap.size]? = some (.cells #[.int .i64 0, .int .i64 0] 74 (0, 0)) :=
  (hb1.block _ (by simp)).trans (heap_alloc_new _ _)

set_option maxRecDepth 100000 in
set_option maxHeartbeats 1000000 in
theorem bitsError_bound (v : Value) (l : List Int) (wd : Int) (w : World) (hI : IsInts w v l) (h : wd < 0 ∨ 32 < wd ∨ 20000 < l.length) :
    Calls Tryd.prog 41 #[v, .int .i64 wd] w fun e w' => e = .returned (faultV 2 (-1)) ∧ Below w.heap.size w w' := by
  obtain ⟨ad, cap, rfl⟩ := hI.form
  by_cases h1 : wd < 0
  · have d1 : decide (wd < 0) = true := by simpa using h1
    go_enter Tryd.func41, Tryd.ntmps41
    go_wp2_with fail
    refine (bare_any _ _).mono ?_; rintro e w1 ⟨rfl, hb1⟩
    go_wp2_with (refine wpList_store_row rfl rfl 74 _ _ rfl _ rfl _ #[.int .i64 2, .int .i64 (-1)] rfl _ (zeroF_at hb1) (by kernel_rfl) rfl (by simp [Value.oneCell']) ?_)
    (refine bitsError_end hb1 _ ?_; rfl)
  · have d1 : decide (wd < 0) = false := by simpa using h1
    by_cases h2 : 32 < wd
    · have d2 : decide (32 < wd) = true := by simpa using h2
      go_enter Tryd.func41, Tryd.ntmps41
      go_wp2_with fail
      refine (bare_any _ _).mono ?_; rintro e w1 ⟨rfl, hb1⟩
      go_wp2_with (refine wpList_store_row rfl rfl 74 _ _ rfl _ rfl _ #[.int .i64 2, .int .i64 (-1)] rfl _ (zeroF_at hb1) (by kernel_rfl) rfl (by simp [Value.oneCell']) ?_)
      (refine bitsError_end hb1 _ ?_; rfl)
    · have d2 : decide (32 < wd) = false := by simpa using h2
      have d3 : decide ((20000 : Int) < (l.length : Int)) = true := by simp; omega
      go_enter Tryd.func41, Tryd.ntmps41
      go_wp2_with fail
      refine (bare_any _ _).mono ?_; rintro e w1 ⟨rfl, hb1⟩
      go_wp2_with (refine wpList_store_row rfl rfl 74 _ _ rfl _ rfl _ #[.int .i64 2, .int .i64 (-1)] rfl _ (zeroF_at hb1) (by kernel_rfl) rfl (by simp [Value.oneCell']) ?_)
      (refine bitsError_end hb1 _ ?_; rfl)

theorem shl_one (wd : Nat) (h : wd ≤ 32) : (2 : Int) ^ wd < 9223372036854775808 ∧ 0 < (2 : Int) ^ wd := by
  have h1 : (2 : Nat) ^ wd ≤ 2 ^ 32 := Nat.pow_le_pow_right (by decide) h
  have h2 : 0 < (2 : Nat) ^ wd := Nat.pow_pos (by decide)
  have h3 : ((2 : Nat) ^ wd : Nat) = ((2 : Int) ^ wd) := by simp
  omega

set_option maxRecDepth 100000 in
set_option maxHeartbeats 1000000 in
theorem bitsError_ok (v : Value) (l : List Int) (wd : Nat) (w : World) (hI : IsInts w v l) (h1 : wd ≤ 32) (h2 : l.length ≤ 20000) (hg : ∀ x ∈ l, Good wd x) :
    Calls Tryd.prog 41 #[v, .int .i64 (wd : Nat)] w fun e w' => e = .returned (faultV 0 (-1)) ∧ Below w.heap.size w w' := by
  obtain ⟨ad, cap, rfl⟩ := hI.form
  have d2 : decide ((32 : Int) < (wd : Int)) = false := by simp; omega
  have d3 : decide ((20000 : Int) < (l.length : Int)) = false := by simp; omega
  go_enter Tryd.func41, Tryd.ntmps41
  go_wp2_with fail
  go_loopw [5] (fun i wr => ∃ k : Nat, k ≤ l.length ∧ i = .int .i64 k ∧ Below (w.alloc zeroF).heap.size (w.alloc zeroF) wr) (fun i _ => l.length - (intOf i).toNat)
  case atStart => exact ⟨0, Nat.zero_le _, rfl, Below.refl _ _⟩
  case round =>
    obtain ⟨k, hk, rfl, hb1⟩ := hrel
    have hb : Below w.heap.size w wr := ((Below.refl w.heap.size w).alloc (Nat.le_refl _) _).trans (hb1.mono (by simp))
    have hI1 := hI.below hb (Nat.le_refl _)
    by_cases hlt : k < l.length
    · obtain ⟨b, off, rfl, _, _, hc⟩ := hI1.at (by omega)
      have hck := hc k l[k] (List.getElem?_eq_getElem hlt)
      obtain ⟨g1, g2⟩ := hg l[k] (List.getElem_mem hlt)
      generalize l[k] = x at *
      have d4 : decide (x < 0) = false := by simpa using g1
      have hin : ((k : Nat) : Int) < (l.length : Int) := by omega
      obtain ⟨s1, s2⟩ := shl_one wd h1
      have hsh : IntKind.i64.wrap ((2 : Int) ^ wd) = 2 ^ wd := wrap_small _ (by omega) s1
      have d5 : decide ((2 : Int) ^ wd ≤ x) = false := by simpa using g2
      clear g1 g2 hc hg s1 s2
      go_wp2_with fail
      go_quiet (fail)
      go_wp2_with fail
      go_roundw
      case rel => exact ⟨k + 1, by omega, by go_num, below_drewN hb1 _⟩
      case measure => simp [intOf]; omega
    · go_wp2_with fail
      refine (fine_any _).mono ?_; rintro e w1 ⟨rfl, hb2⟩
      have hb3 : Below (w.alloc zeroF).heap.size (w.alloc zeroF) w1 := hb1.trans (hb2.mono hb1.size)
      go_wp2_with (refine wpList_store_row rfl rfl 74 _ _ rfl _ rfl _ #[.int .i64 0, .int .i64 (-1)] rfl _ (zeroF_at hb3) (by kernel_rfl) rfl (by simp [Value.oneCell']) ?_)
      (refine bitsError_end hb3 _ ?_; rfl)

set_option maxRecDepth 100000 in
set_option maxHeartbeats 1000000 in
theorem bitsError_bad (v : Value) (l : List Int) (wd i : Nat) (x : Int) (w : World) (hI : IsInts w v l) (h1 : wd ≤ 32) (h2 : l.length ≤ 20000) (hi : i < l.length) (hx : l[i]? = some x)
    (hg : ∀ j y, j < i → l[j]? = some y → Good wd y) (hbad : ¬ Good wd x) :
    Calls Tryd.prog 41 #[v, .int .i64 (wd : Nat)] w fun e w' => e = .returned (faultV 3 i) ∧ Below w.heap.size w w' := by
  obtain ⟨ad, cap, rfl⟩ := hI.form
  have d2 : decide ((32 : Int) < (wd : Int)) = false := by simp; omega
  have d3 : decide ((20000 : Int) < (l.length : Int)) = false := by simp; omega
  obtain ⟨s1, s2⟩ := shl_one wd h1
  have hsh : IntKind.i64.wrap ((2 : Int) ^ wd) = 2 ^ wd := wrap_small _ (by omega) s1
  clear s1 s2
  go_enter Tryd.func41, Tryd.ntmps41
  go_wp2_with fail
  go_loopw [5] (fun j wr => ∃ k : Nat, k ≤ i ∧ j = .int .i64 k ∧ Below (w.alloc zeroF).heap.size (w.alloc zeroF) wr) (fun j _ => i - (intOf j).toNat)
  case atStart => exact ⟨0, Nat.zero_le _, rfl, Below.refl _ _⟩
  case round =>
    obtain ⟨k, hk, rfl, hb1⟩ := hrel
    have hb : Below w.heap.size w wr := ((Below.refl w.heap.size w).alloc (Nat.le_refl _) _).trans (hb1.mono (by simp))
    have hI1 := hI.below hb (Nat.le_refl _)
    have hlt : k < l.length := by omega
    obtain ⟨b, off, rfl, _, _, hc⟩ := hI1.at (by omega)
    have hin : ((k : Nat) : Int) < (l.length : Int) := by omega
    by_cases hki : k < i
    · have hck := hc k l[k] (List.getElem?_eq_getElem hlt)
      obtain ⟨g1, g2⟩ := hg k l[k] hki (List.getElem?_eq_getElem hlt)
      generalize l[k] = y at *
      have d4 : decide (y < 0) = false := by simpa using g1
      have d5 : decide ((2 : Int) ^ wd ≤ y) = false := by simpa using g2
      clear g1 g2 hc hg
      go_wp2_with fail
      go_quiet (fail)
      go_wp2_with fail
      go_roundw
      case rel => exact ⟨k + 1, by omega, by go_num, below_drewN hb1 _⟩
      case measure => simp [intOf]; omega
    · obtain rfl : k = i := by omega
      have hck := hc k x hx
      have hbx : ∀ nq, Below (w.alloc zeroF).heap.size (w.alloc zeroF) (wr.drewN nq) := fun nq => below_drewN hb1 _
      by_cases hneg : x < 0
      · have d4 : decide (x < 0) = true := by simpa using hneg
        clear hc hg
        go_wp2_with fail
        go_quiet (fail)
        go_wp2_with (refine wpList_store_row rfl rfl 74 _ _ rfl _ rfl _ #[.int .i64 3, .int .i64 (k : Nat)] rfl _ (zeroF_at (hbx _)) (by kernel_rfl) rfl (by simp [Value.oneCell']) ?_)
        (refine bitsError_end (hbx _) _ ?_; rfl)
      · have d4 : decide (x < 0) = false := by simpa using hneg
        have d5 : decide ((2 : Int) ^ wd ≤ x) = true := by
          have : ¬ x < 2 ^ wd := fun h => hbad ⟨by omega, h⟩
          rw [decide_eq_true_iff]; omega
        clear hc hg
        go_wp2_with fail
        go_quiet (fail)
        go_wp2_with (refine wpList_store_row rfl rfl 74 _ _ rfl _ rfl _ #[.int .i64 3, .int .i64 (k : Nat)] rfl _ (zeroF_at (hbx _)) (by kernel_rfl) rfl (by simp [Value.oneCell']) ?_)
        (refine bitsError_end (hbx _) _ ?_; rfl)
end Go.Proofs.YtehklkmnbhgebaaDoor
