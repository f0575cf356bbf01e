/- The walks of the document's IsValue. -/
import Derived.Test.YtddefnnimbjnaaaDoorEncW2
namespace Go.Proofs.YtddefnnimbjnaaaDoor
set_option linter.unusedVariables false
open Go Go.RowKit Go.ChangeShapes

set_option maxRecDepth 100000 in
set_option maxHeartbeats 1000000 in
theorem isValue_yes (kind : Int) (x : Val) (hx : x.Ok) (w : World) (h : OkP kind x) (h1' : 1 ≤ kind) (h5' : kind ≤ 5) :
    Calls Tryd.prog 22 #[.int .i64 kind, .agg (valA x)] w fun e w' => e = .returned (.bool true) ∧ Below w.heap.size w w' := by
  obtain ⟨k, n, s⟩ := x
  obtain ⟨k0, k1, n0, n1, s1⟩ := hx
  obtain ⟨hk, h4, hn4, h1, h2⟩ := h
  simp only at hk h4 hn4 h1 h2 k0 k1 n0 n1 s1
  subst hk
  have hsz : s.toList = [] ↔ s.size = 0 := by have := empty_beq s; rw [Bool.eq_iff_iff, beq_iff_eq, decide_eq_true_iff] at this; exact this
  unfold maxLen at s1
  unfold valA
  by_cases c4 : k = 4
  · obtain ⟨rfl, hs⟩ := h4 c4
    subst c4
    clear hn4 h1 h2 h4 hsz
    go_enter Tryd.func22, Tryd.ntmps22
    go_wp2_with fail
    go_ret
    exact ⟨ret_of (by simp; omega), (Below.refl _ _).alloc (Nat.le_refl _) _⟩
  · have hs0 := hn4 c4
    have he := empty_list hs0
    subst he
    clear hs0 hn4 h4 hsz s1
    by_cases c1 : k = 1
    · obtain ⟨a1, a2⟩ := h1 c1
      subst c1
      have hd : n / 2 = 0 := by omega
      clear h1 h2
      go_enter Tryd.func22, Tryd.ntmps22
      go_wp2_with fail
      go_ret
      exact ⟨ret_of (by simp), (Below.refl _ _).alloc (Nat.le_refl _) _⟩
    · by_cases c2 : k = 2
      · obtain ⟨a1, a2⟩ := h2 c2
        subst c2
        have hd : IntKind.i32.wrap n = n := by rw [IntKind.wrap_i32]; omega
        clear h1 h2
        go_enter Tryd.func22, Tryd.ntmps22
        go_wp2_with fail
        go_ret
        exact ⟨ret_of (by simp), (Below.refl _ _).alloc (Nat.le_refl _) _⟩
      · clear h1 h2
        go_enter Tryd.func22, Tryd.ntmps22
        go_wp2_with fail
        go_ret
        exact ⟨ret_of (by simp), (Below.refl _ _).alloc (Nat.le_refl _) _⟩

set_option maxRecDepth 100000 in
set_option maxHeartbeats 1000000 in
theorem isValue_no (kind : Int) (x : Val) (hx : x.Ok) (w : World) (h : ¬ OkP kind x) (h1' : 1 ≤ kind) (h5' : kind ≤ 5) :
    Calls Tryd.prog 22 #[.int .i64 kind, .agg (valA x)] w fun e w' => e = .returned (.bool false) ∧ Below w.heap.size w w' := by
  obtain ⟨k, n, s⟩ := x
  obtain ⟨k0, k1, n0, n1, s1⟩ := hx
  simp only at k0 k1 n0 n1 s1
  have hsz : s.toList = [] ↔ s.size = 0 := by have := empty_beq s; rw [Bool.eq_iff_iff, beq_iff_eq, decide_eq_true_iff] at this; exact this
  have hem := empty_beq s
  have hem' := empty_beq' s
  unfold maxLen at s1
  unfold valA
  by_cases hk : k = kind
  · subst hk
    by_cases c4 : k = 4
    · subst c4
      have hh : ¬ n = 0 ∨ 100 < s.size := by
        by_cases a : n = 0
        · by_cases b : 100 < s.size
          · exact .inr b
          · exact absurd ⟨rfl, fun _ => ⟨a, by show s.size ≤ 100; omega⟩, fun c => absurd rfl c, by simp, by simp⟩ h
        · exact .inl a
      clear h hsz hem hem'
      by_cases hn : n = 0
      · have hb : (n == 0) = true := by simpa using hn
        have hs : decide ((s.size : Int) ≤ 100) = false := by simp; omega
        clear hh hn
        go_enter Tryd.func22, Tryd.ntmps22
        go_wp2_with fail
        all_goals
          go_ret
          exact ⟨ret_of (by simp), (Below.refl _ _).alloc (Nat.le_refl _) _⟩
      · have hb : (n == 0) = false := by simpa using hn
        clear hh hn
        go_enter Tryd.func22, Tryd.ntmps22
        go_wp2_with fail
        all_goals
          go_ret
          exact ⟨ret_of (by simp), (Below.refl _ _).alloc (Nat.le_refl _) _⟩
    · by_cases hb1 : k = 1 ∧ ¬ (0 ≤ n ∧ n ≤ 1)
      · obtain ⟨rfl, hr⟩ := hb1
        have hd : ¬ (0 ≤ n ∧ n ≤ 1) := hr
        clear h hsz hem hem' hr c4
        go_enter Tryd.func22, Tryd.ntmps22
        go_wp2_with fail
        all_goals
          go_ret
          exact ⟨ret_of (by simp), (Below.refl _ _).alloc (Nat.le_refl _) _⟩
      · by_cases hb2 : k = 2 ∧ ¬ (-2147483648 ≤ n ∧ n ≤ 2147483647)
        · obtain ⟨rfl, hr⟩ := hb2
          have hd : ¬ (-2147483648 ≤ n ∧ n ≤ 2147483647) := hr
          clear h hsz hem hem' hr c4 hb1
          go_enter Tryd.func22, Tryd.ntmps22
          go_wp2_with fail
          all_goals
            go_ret
            exact ⟨ret_of (by simp), (Below.refl _ _).alloc (Nat.le_refl _) _⟩
        · have hs0 : ¬ s.size = 0 := fun hs => h ⟨rfl, fun c => absurd c c4, fun _ => hs, fun c => by
            simp only at c ⊢; omega, fun c => by simp only at c ⊢; omega⟩
          have e1 : s.toList.isEmpty = false := by rw [hem']; simpa using hs0
          have e2 : ¬ s.toList = [] := by rw [hsz]; exact hs0
          clear h hsz hem hem' hs0
          by_cases c1 : k = 1
          · subst c1
            have hr : 0 ≤ n ∧ n ≤ 1 := by omega
            obtain ⟨hr1, hr2⟩ := hr
            clear hb1 hb2 c4
            go_enter Tryd.func22, Tryd.ntmps22
            go_wp2_with fail
            all_goals
              go_ret
              exact ⟨ret_of (by simp), (Below.refl _ _).alloc (Nat.le_refl _) _⟩
          · by_cases c2 : k = 2
            · subst c2
              have hr : -2147483648 ≤ n ∧ n ≤ 2147483647 := by omega
              obtain ⟨hr1, hr2⟩ := hr
              clear hb1 hb2 c4
              go_enter Tryd.func22, Tryd.ntmps22
              go_wp2_with fail
              all_goals
                go_ret
                exact ⟨ret_of (by simp), (Below.refl _ _).alloc (Nat.le_refl _) _⟩
            · clear hb1 hb2
              go_enter Tryd.func22, Tryd.ntmps22
              go_wp2_with fail
              all_goals
                go_ret
                exact ⟨ret_of (by simp), (Below.refl _ _).alloc (Nat.le_refl _) _⟩
  · have hk' : (k == kind) = false := by simpa using hk
    clear h hsz hem hem'
    go_enter Tryd.func22, Tryd.ntmps22
    go_wp2_with fail
    all_goals
      go_ret
      exact ⟨ret_of (by simp), (Below.refl _ _).alloc (Nat.le_refl _) _⟩


set_option maxRecDepth 100000 in
set_option maxHeartbeats 1000000 in
theorem isValue_out (kind : Int) (x : Val) (hx : x.Ok) (w : World) (h : kind < 1 ∨ 5 < kind) :
    Calls Tryd.prog 22 #[.int .i64 kind, .agg (valA x)] w fun e w' => e = .returned (.bool false) ∧ Below w.heap.size w w' := by
  obtain ⟨k, n, s⟩ := x
  obtain ⟨k0, k1, n0, n1, s1⟩ := hx
  simp only at k0 k1 n0 n1 s1
  unfold valA
  by_cases hk : k = kind
  · subst hk
    by_cases h1 : k < 1
    · clear h
      go_enter Tryd.func22, Tryd.ntmps22
      go_wp2_with fail
      all_goals
        go_ret
        exact ⟨ret_of (by simp), (Below.refl _ _).alloc (Nat.le_refl _) _⟩
    · have h2 : 5 < k := by omega
      clear h
      go_enter Tryd.func22, Tryd.ntmps22
      go_wp2_with fail
      all_goals
        go_ret
        exact ⟨ret_of (by simp), (Below.refl _ _).alloc (Nat.le_refl _) _⟩
  · have hk' : (k == kind) = false := by simpa using hk
    clear h
    go_enter Tryd.func22, Tryd.ntmps22
    go_wp2_with fail
    all_goals
      go_ret
      exact ⟨ret_of (by simp), (Below.refl _ _).alloc (Nat.le_refl _) _⟩
end Go.Proofs.YtddefnnimbjnaaaDoor
