/- Which leaf is read next: plain; the walk of auto.common. -/
import Derived.Test.YtfmdahfolnljkaaDoorTv4
import Derived.BigQuiet
namespace Go.Proofs.YtfmdahfolnljkaaDoor
set_option linter.unusedVariables false
set_option linter.unusedSimpArgs false
open Go Go.RowKit Go.ChangeShapes

/-- how many are common at the head -/
def commonN : List Int → List Int → Nat
  | a :: x, b :: y => if a = b then 1 + commonN x y else 0
  | _, _ => 0
theorem commonN_le : ∀ a b : List Int, commonN a b ≤ a.length
  | [], _ => by simp [commonN]
  | a :: x, [] => by simp [commonN]
  | a :: x, b :: y => by
    unfold commonN
    have := commonN_le x y
    split <;> simp <;> omega
theorem common_drop (a b : List Int) : ∀ k, k < a.length → k < b.length → ∀ x y, a[k]? = some x → b[k]? = some y → commonN (a.drop k) (b.drop k) = if x = y then 1 + commonN (a.drop (k + 1)) (b.drop (k + 1)) else 0 := by
  intro k ha hb x y hx hy
  rw [List.drop_eq_getElem_cons ha, List.drop_eq_getElem_cons hb]
  rw [List.getElem?_eq_getElem ha] at hx
  rw [List.getElem?_eq_getElem hb] at hy
  injection hx with hx; injection hy with hy
  rw [hx, hy]; rfl

set_option maxRecDepth 100000 in
set_option maxHeartbeats 8000000 in
theorem common_any (va vb : Value) (a b : List Int) (w : World) (hA : IsInts w va a) (hB : IsInts w vb b) (h1 : a.length ≤ 100000) (h2 : b.length ≤ 100000) :
    Calls Tryd.prog 26 #[va, vb] w fun e w' => e = .returned (.int .i64 (commonN a b : Nat)) ∧ Below w.heap.size w w' := by
  obtain ⟨pa, ca, rfl⟩ := hA.form
  obtain ⟨pb, cb, rfl⟩ := hB.form
  obtain ⟨R, hR⟩ : ∃ R, commonN a b = R := ⟨_, rfl⟩
  rw [hR]
  obtain ⟨m, hm⟩ : ∃ m, a.length = m := ⟨_, rfl⟩
  obtain ⟨q, hq⟩ : ∃ q, b.length = q := ⟨_, rfl⟩
  rw [hm] at hA h1 ⊢
  rw [hq] at hB h2 ⊢
  have HM := Lib.hid hm; have HQ := Lib.hid hq; have HA := Lib.hid hA; have HB := Lib.hid hB; have HRr := Lib.hid hR
  clear hm hq hA hB hR
  go_enter Tryd.func26, Tryd.ntmps26
  go_wp2_with fail
  go_loopw [5] (fun i wr => ∃ k : Nat, k ≤ m ∧ k ≤ q ∧ i = .int .i64 (k : Nat) ∧ Hid (k + commonN (a.drop k) (b.drop k) = R) ∧ Hid (Below w.heap.size w wr)) (fun i _ => m - (intOf i).toNat)
  case atStart => exact ⟨0, Nat.zero_le _, Nat.zero_le _, rfl, by show 0 + commonN a b = R; rw [Nat.zero_add]; exact HRr.out, Below.refl _ _⟩
  case round =>
    obtain ⟨k, hk1, hk2, rfl, HE, HBr⟩ := hrel
    by_cases hlt : k < m
    · by_cases hlt2 : k < q
      · have hka : k < a.length := by rw [HM.out]; exact hlt
        have hkb : k < b.length := by rw [HQ.out]; exact hlt2
        obtain ⟨g1, o1, rfl, -, -, hc1⟩ := (HA.out.below HBr.out (Nat.le_refl _)).at (by rw [HM.out]; omega)
        obtain ⟨g2, o2, rfl, -, -, hc2⟩ := (HB.out.below HBr.out (Nat.le_refl _)).at (by rw [HQ.out]; omega)
        have e1 := hc1 k _ (List.getElem?_eq_getElem hka); have e2 := hc2 k _ (List.getElem?_eq_getElem hkb)
        have hcd := common_drop a b k hka hkb _ _ (List.getElem?_eq_getElem hka) (List.getElem?_eq_getElem hkb)
        have hin1 : (k : Int) < (m : Int) := by omega
        have hin2 : (k : Int) < (q : Int) := by omega
        generalize a[k] = x at *
        generalize b[k] = y at *
        have HCD := Lib.hid hcd
        have d1 : decide (k < m) = true := decide_eq_true hlt
        have d2 : decide (k < q) = true := decide_eq_true hlt2
        clear hc1 hc2 hka hkb hcd
        by_cases hxy : x = y
        · have hE := HE.out
          rw [HCD.out, if_pos hxy] at hE
          have HE2 := Lib.hid (show (k + 1) + commonN (a.drop (k + 1)) (b.drop (k + 1)) = R by omega)
          have d3 : ((x : Int) == y) = true := by simpa using hxy
          clear hE hxy HE HCD
          go_wp2_with fail
          go_quiet (fail)
          go_wp2_with fail
          go_roundw
          case rel => exact ⟨k + 1, by omega, by omega, by go_num, HE2.out, below_drewN HBr.out _⟩
          case measure => simp [intOf]; omega
        · have hE := HE.out
          rw [HCD.out, if_neg hxy] at hE
          obtain rfl : k = R := by omega
          have d3 : ((x : Int) == y) = false := by simpa using hxy
          clear hE hxy HE HCD HRr
          go_wp2_with fail
          go_quiet (fail)
          go_wp2_with fail
          go_ret
          exact ⟨rfl, below_drewN HBr.out _⟩
      · have hE := HE.out
        rw [List.drop_of_length_le (l := b) (by rw [HQ.out]; omega)] at hE
        obtain rfl : k = R := by
          have : commonN (a.drop k) [] = 0 := by unfold commonN; split <;> simp_all
          omega
        have d1 : decide (k < m) = true := decide_eq_true hlt
        have d2 : decide (k < q) = false := decide_eq_false hlt2
        clear hE HE HRr
        go_wp2_with fail
        go_quiet (fail)
        go_wp2_with fail
        go_ret
        exact ⟨rfl, below_drewN HBr.out _⟩
    · have hE := HE.out
      rw [List.drop_of_length_le (l := a) (by rw [HM.out]; omega)] at hE
      obtain rfl : k = R := by
        have : commonN [] (b.drop k) = 0 := rfl
        omega
      have d1 : decide (k < m) = false := decide_eq_false hlt
      clear hE HE HRr
      go_wp2_with fail
      go_quiet (fail)
      go_wp2_with fail
      go_ret
      exact ⟨rfl, below_drewN HBr.out _⟩
end Go.Proofs.YtfmdahfolnljkaaDoor
