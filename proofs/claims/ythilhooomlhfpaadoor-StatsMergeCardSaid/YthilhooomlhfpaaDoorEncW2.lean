/- The walks of enc's Less, known, size and the document's LessOf, IsValue. -/
import Derived.Test.YthilhooomlhfpaaDoorEncW1
import Derived.Deep.QuietTactic
import Derived.BigQuiet
import Derived.Test.YthilhooomlhfpaaDoorBitsW2
namespace Go.Proofs.YthilhooomlhfpaaDoor
set_option linter.unusedVariables false
open Go Go.RowKit Go.ChangeShapes

set_option maxRecDepth 100000 in
set_option maxHeartbeats 1000000 in
theorem less_any (a b : Val) (ha : a.Ok) (hb : b.Ok) (w : World) :
    Calls Tryd.prog 51 #[.agg (valA a), .agg (valA b)] w fun e w' => e = .returned (.bool (a.less b)) ∧ Below w.heap.size w w' := by
  obtain ⟨ak, an, as'⟩ := a
  obtain ⟨bk, bn, bs⟩ := b
  obtain ⟨k0, k1, n0, n1, s1⟩ := ha
  obtain ⟨k0', k1', n0', n1', s1'⟩ := hb
  simp only at k0 k1 n0 n1 s1 k0' k1' n0' n1' s1'
  have hb2 : ∀ u v, Below w.heap.size w ((w.alloc u).alloc v) := fun u v => ((Below.refl _ _).alloc (Nat.le_refl _) _).alloc (by simp) _
  unfold valA
  by_cases hk : ak = bk
  · subst hk
    by_cases h4 : ak = 4
    · subst h4
      have hl : Val.less ⟨4, an, as'⟩ ⟨4, bn, bs⟩ = Go.Op.bytesLess as'.toList bs.toList := by simp [Val.less]
      rw [hl]
      clear hl
      go_enter Tryd.func51, Tryd.ntmps51
      go_wp2_with fail
      go_ret
      exact ⟨rfl, hb2 _ _⟩
    · by_cases h5 : ak = 5
      · subst h5
        have hl : Val.less ⟨5, an, as'⟩ ⟨5, bn, bs⟩ = decide (keyOf an < keyOf bn) := by simp [Val.less]
        rw [hl]
        clear hl
        go_enter Tryd.func51, Tryd.ntmps51
        go_wp2_with fail
        go_quiet ((go_at_call 82; exact Calls.quiet_of_same (key_any _ _ (by omega) (by omega))))
        go_wp2_with fail
        go_ret
        exact ⟨ret_of (by simp), below_drewN (hb2 _ _) _⟩
      · have hl : Val.less ⟨ak, an, as'⟩ ⟨ak, bn, bs⟩ = decide (an < bn) := by simp [Val.less, h4, h5]
        rw [hl]
        clear hl
        go_enter Tryd.func51, Tryd.ntmps51
        go_wp2_with fail
        go_ret
        exact ⟨ret_of (by simp), hb2 _ _⟩
  · have hl : Val.less ⟨ak, an, as'⟩ ⟨bk, bn, bs⟩ = decide (ak < bk) := by simp [Val.less, hk]
    rw [hl]
    have hkb : (ak == bk) = false := by simpa using hk
    clear hl
    go_enter Tryd.func51, Tryd.ntmps51
    go_wp2_with fail
    go_ret
    exact ⟨ret_of (by simp), hb2 _ _⟩

set_option maxRecDepth 100000 in
set_option maxHeartbeats 1000000 in
theorem lessOf_any (a b : Val) (ha : a.Ok) (hb : b.Ok) (w : World) :
    Calls Tryd.prog 26 #[.agg (valA a), .agg (valA b)] w fun e w' => e = .returned (.bool (a.less b)) ∧ Below w.heap.size w w' := by
  obtain ⟨ak, an, as'⟩ := a
  obtain ⟨bk, bn, bs⟩ := b
  obtain ⟨k0, k1, n0, n1, s1⟩ := ha
  obtain ⟨k0', k1', n0', n1', s1'⟩ := hb
  simp only at k0 k1 n0 n1 s1 k0' k1' n0' n1' s1'
  have hb2 : ∀ u v, Below w.heap.size w ((w.alloc u).alloc v) := fun u v => ((Below.refl _ _).alloc (Nat.le_refl _) _).alloc (by simp) _
  unfold valA
  by_cases hk : ak = bk
  · subst hk
    by_cases h4 : ak = 4
    · subst h4
      have hl : Val.less ⟨4, an, as'⟩ ⟨4, bn, bs⟩ = Go.Op.bytesLess as'.toList bs.toList := by simp [Val.less]
      rw [hl]
      clear hl
      go_enter Tryd.func26, Tryd.ntmps26
      go_wp2_with fail
      go_ret
      exact ⟨rfl, hb2 _ _⟩
    · by_cases h5 : ak = 5
      · subst h5
        have hl : Val.less ⟨5, an, as'⟩ ⟨5, bn, bs⟩ = (if 0 ≤ an ∧ 0 ≤ bn then decide (an < bn) else if an < 0 ∧ bn < 0 then decide (bn < an) else decide (an < 0)) := by
          rw [← keyOf_lt an bn n0 n1 n0' n1']; simp [Val.less]
        rw [hl]
        clear hl
        by_cases p1 : 0 ≤ an
        · by_cases p2 : 0 ≤ bn
          · rw [if_pos ⟨p1, p2⟩]
            go_enter Tryd.func26, Tryd.ntmps26
            go_wp2_with fail
            go_ret
            exact ⟨ret_of (by simp), hb2 _ _⟩
          · rw [if_neg (fun h => p2 h.2), if_neg (fun h => by omega), show decide (an < 0) = false by simp; omega]
            go_enter Tryd.func26, Tryd.ntmps26
            go_wp2_with fail
            go_ret
            exact ⟨ret_of (by simp; try omega), hb2 _ _⟩
        · by_cases p2 : 0 ≤ bn
          · rw [if_neg (fun h => p1 h.1), if_neg (fun h => by omega), show decide (an < 0) = true by simp; omega]
            go_enter Tryd.func26, Tryd.ntmps26
            go_wp2_with fail
            go_ret
            exact ⟨ret_of (by simp; try omega), hb2 _ _⟩
          · rw [if_neg (fun h => p1 h.1), if_pos ⟨by omega, by omega⟩]
            go_enter Tryd.func26, Tryd.ntmps26
            go_wp2_with fail
            go_ret
            exact ⟨ret_of (by simp), hb2 _ _⟩
      · have hl : Val.less ⟨ak, an, as'⟩ ⟨ak, bn, bs⟩ = decide (an < bn) := by simp [Val.less, h4, h5]
        rw [hl]
        clear hl
        go_enter Tryd.func26, Tryd.ntmps26
        go_wp2_with fail
        go_ret
        exact ⟨ret_of (by simp), hb2 _ _⟩
  · have hl : Val.less ⟨ak, an, as'⟩ ⟨bk, bn, bs⟩ = decide (ak < bk) := by simp [Val.less, hk]
    rw [hl]
    have hkb : (ak == bk) = false := by simpa using hk
    clear hl
    go_enter Tryd.func26, Tryd.ntmps26
    go_wp2_with fail
    go_ret
    exact ⟨ret_of (by simp), hb2 _ _⟩
end Go.Proofs.YthilhooomlhfpaaDoor
